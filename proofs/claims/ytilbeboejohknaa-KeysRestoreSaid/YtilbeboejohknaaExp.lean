/- keys.Expand: the round keys of a key. -/
import Derived.Test.YtilbeboejohknaaRest
import Derived.Maps.RangeWalk
namespace Go.Proofs.Ytilbeboejohknaa
open Go.RowKit

theorem info31 : (Try.prog.info? 31).map (fun i => (i.zero, i.size)) = some (some (.agg (IV .u8 176 fun _ => 0)), 176) := by kernel_rfl
theorem zero31 : ∀ w, (zeroValue 31).run Try.prog w = .ok (.agg (IV .u8 176 fun _ => 0)) w := (zero_of_info info31).1
theorem size31 : (Try.prog.info? 31).map (·.size) = some 176 := (zero_of_info info31).2

theorem built31 (k : Nat → Nat) : Try.prog.built 31 [(0, .agg (IV .u8 16 k))] = some (IV .u8 176 fun p => if p < 16 then k p else 0) := by kernel_rfl

theorem K.RW_row (k : Nat → Nat) (r j : Nat) (hj : j < 16) : K.RW k (r * 16 + j) = K.E k r j := by
  unfold K.RW
  rw [show (r * 16 + j) / 16 = r from by omega, show (r * 16 + j) % 16 = j from by omega]

theorem far_row (k : Nat → Nat) (r : Nat) (p : Nat) : updRow (far (K.RW k) (16 * (r + 1))) ((r + 1) * 16) 16 (K.E k (r + 1)) p = far (K.RW k) (16 * (r + 1 + 1)) p := by
  unfold updRow far
  by_cases e : (r + 1) * 16 ≤ p ∧ p < (r + 1) * 16 + 16
  · rw [if_pos e, if_pos (by omega)]
    have := K.RW_row k (r + 1) (p - (r + 1) * 16) (by omega)
    rw [← this, show (r + 1) * 16 + (p - (r + 1) * 16) = p from by omega]
  · rw [if_neg e]
    by_cases e2 : p < 16 * (r + 1)
    · rw [if_pos e2, if_pos (by omega)]
    · rw [if_neg e2, if_neg (by omega)]

set_option maxRecDepth 100000 in
set_option maxHeartbeats 1000000 in
theorem expand_any (k : Nat → Nat) (hk : ∀ j, k j < 256) (w : World) :
    Calls Try.prog 11 #[.agg (IV .u8 16 k)] w fun e w' => e = .returned (.agg (IV .u8 176 (K.RW k))) ∧ Below w.heap.size w w' := by
  have HK := hid hk
  clear hk
  have N0 := hid ((Has.new w 22 (IV .u8 16 k)).alloc (.cells (IV .u8 176 fun _ => 0) 31))
  have N1 := hid ((Has.new (w.alloc (.cells (IV .u8 16 k) 22)) 31 (IV .u8 176 fun _ => 0)).alloc (.cells (IV .u8 176 fun _ => 0) 31))
  have N2 := hid (Has.new ((w.alloc (.cells (IV .u8 16 k) 22)).alloc (.cells (IV .u8 176 fun _ => 0) 31)) 31 (IV .u8 176 fun _ => 0))
  rw [World.size_alloc] at N1
  rw [World.size_alloc, World.size_alloc] at N2
  have B0 := hid ((((Below.refl w.heap.size w).alloc (Nat.le_refl _) (.cells (IV .u8 16 k) 22)).alloc (by simp) (.cells (IV .u8 176 fun _ => 0) 31)).alloc (by simp; omega) (.cells (IV .u8 176 fun _ => 0) 31))
  have P2 := hid ((N2.out.setRow (IV .u8 176 fun p => if p < 16 then k p else 0)).ext (f' := far (K.RW k) (16 * (0 + 1))) (fun p _ => by
    unfold far
    by_cases e : p < 16
    · rw [if_pos e, if_pos (by omega), K.RW_key k p e]
    · rw [if_neg e, if_neg (by omega)]))
  have P1 := hid (N1.out.setRowOther (w.heap.size + 1 + 1) (IV .u8 176 fun p => if p < 16 then k p else 0) (by omega))
  have PB := hid (Below.setRow B0.out (g' := w.heap.size + 1 + 1) (by omega) (IV .u8 176 fun p => if p < 16 then k p else 0))
  have z31 := zero31
  go_enter Try.func11, Try.ntmps11
  go_wp2_with (first | (refine wpList_load_row rfl 22 _ rfl w.heap.size rfl 22 _ (0, 0) _ N0.out Try.underlying22 rfl (by rw [size_IV]; exact size22) ?_) | (refine wpList_build_of rfl 31 _ rfl [(0, .agg (IV .u8 16 k))] (by kernel_rfl) (IV .u8 176 fun p => if p < 16 then k p else 0) (built31 k) ?_) | (refine wpList_store_row rfl 31 _ _ rfl (w.heap.size + 1 + 1) (IV .u8 176 fun p => if p < 16 then k p else 0) rfl rfl 31 _ N2.out (by rw [size_IV]; exact size31) (by simp only [size_IV]) (oneCell_IV _ _ _) ?_))
  clear N0 N1 N2 B0 z31
  generalize (((w.alloc (.cells (IV .u8 16 k) 22)).alloc (.cells (IV .u8 176 fun _ => 0) 31)).alloc (.cells (IV .u8 176 fun _ => 0) 31)).setRow (w.heap.size + 1 + 1) (IV .u8 176 fun p => if p < 16 then k p else 0) = W2 at *
  go_loopw [7] (fun n wr => ∃ r : Nat, n = .int .i64 r ∧ r ≤ 10 ∧ Hid (Below w.heap.size w wr) ∧ Hid (Has wr (w.heap.size + 1) 31 (IV .u8 176 fun _ => 0)) ∧ Hid (Has wr (w.heap.size + 1 + 1) 31 (IV .u8 176 (far (K.RW k) (16 * (r + 1)))))) (fun n _ => 10 - (intOf n).toNat)
  case atStart => exact ⟨0, rfl, by omega, PB, P1, P2⟩
  case round =>
    clear PB P1 P2
    obtain ⟨r, rfl, hr, HB, H1, H2⟩ := hrel
    by_cases hl : r < 10
    · have HG := H2.out.range (r * 16) 16 (by omega)
      rw [IV_ext _ _ _ (K.E k r) (fun j hj => by
        rw [far_all _ _ _ (by omega)]
        exact K.RW_row k r j hj)] at HG
      have HG := hid HG
      go_wp2_with (refine wpList_load_part rfl 22 _ rfl (w.heap.size + 1 + 1) (r * 16) rfl (IV .u8 16 (K.E k r)) _ HG.out Try.underlying22 rfl (by rw [size_IV]; exact size22) ?_)
      clear HG
      refine (next_in (K.E k r) (K.E_lt k HK.out r) _ _ (by omega) (by omega)).mono ?_
      rintro e w1 ⟨rfl, hb1⟩
      rw [Int.toNat_natCast]
      unfold someKey
      have HE : Hid (K.nextB (K.E k r) r = K.E k (r + 1)) := rfl
      rw [HE.out]
      have L1 := hid (H1.out.below hb1 H1.out.lt)
      have L2 := hid (H2.out.below hb1 H2.out.lt)
      have LB := hid (HB.out.trans (hb1.mono HB.out.size))
      have HT := hid (L2.out.there ((r + 1) * 16) (IV .u8 16 (K.E k (r + 1))).size (by simp only [size_IV]; omega))
      clear H1 H2 HB hb1 HE
      go_wp2_with (refine wpList_store_mid rfl 22 _ _ rfl (w.heap.size + 1 + 1) ((r + 1) * 16) (IV .u8 16 (K.E k (r + 1))) rfl rfl ?ht ?hi (oneCell_IV _ _ _) ?_)
      case ht => exact HT.out
      case hi => rw [size_IV]; exact size22
      exact ⟨⟨r + 1, by go_num, by omega, Below.setCells (by omega) _ _ _ LB.out, L1.out.setCellsOther _ _ _ _ (by omega), (L2.out.setCellsIV _ _ _).ext (fun j _ => far_row k r j)⟩, by simp [intOf]; omega⟩
    · obtain rfl : r = 10 := by omega
      have H3 : Hid (Has wr (w.heap.size + 1 + 1) 31 (IV .u8 176 (K.RW k))) := H2.out.ext (fun j hj => far_all _ _ _ (by omega))
      clear H2
      go_wp2_with (first | (refine wpList_load_row rfl 31 _ rfl (w.heap.size + 1 + 1) rfl 31 _ (0, 0) _ H3.out Try.underlying31 rfl (by rw [size_IV]; exact size31) ?_) | (refine wpList_store_row rfl 31 _ _ rfl (w.heap.size + 1) (IV .u8 176 (K.RW k)) rfl rfl 31 _ H1.out (by rw [size_IV]; exact size31) (by simp only [size_IV]) (oneCell_IV _ _ _) ?_))
      exact bodyPost_ret_by (results_cell_row rfl _ _ (w.heap.size + 1) 31 _ (0, 0) _ rfl (H1.out.setRow _) Try.underlying31 rfl (by rw [size_IV]; exact size31)) rfl ⟨rfl, Below.setRow HB.out (by omega) _⟩
end Go.Proofs.Ytilbeboejohknaa
