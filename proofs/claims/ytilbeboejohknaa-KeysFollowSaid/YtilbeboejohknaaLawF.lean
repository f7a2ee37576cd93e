/- KeysFollow returns true for every key, and turns nothing that was there. -/
import Derived.Test.YtilbeboejohknaaAwake
import Derived.Test.YtilbeboejohknaaStill
namespace Go.Proofs.Ytilbeboejohknaa
open Go.RowKit

set_option maxRecDepth 100000 in
set_option maxHeartbeats 1000000 in
theorem follow_walk (k : Nat → Nat) (w : World) (hk : ∀ j, k j < 256) :
    Calls Try.prog 7 #[.agg (IV .u8 16 k)] w fun e w' => e = .returned (.bool true) ∧ Below w.heap.size w w' := by
  have HK := hid hk
  clear hk
  have N0 := hid (Has.new w 22 (IV .u8 16 k))
  have B0 := hid ((Below.refl w.heap.size w).alloc (Nat.le_refl _) (.cells (IV .u8 16 k) 22))
  go_enter Try.func7, Try.ntmps7
  go_wp2_with fail
  refine (awake_any _).mono ?_
  rintro e w1 ⟨rfl, hb1⟩
  have N1 := hid (N0.out.below hb1 N0.out.lt)
  have B1 := hid (B0.out.trans (hb1.mono B0.out.size))
  clear N0 B0 hb1
  go_wp2_with (refine wpList_load_row rfl 22 _ rfl w.heap.size rfl 22 _ (0, 0) _ N1.out Try.underlying22 rfl (by rw [size_IV]; exact size22) ?_)
  refine (rexpand_any k HK.out _).mono ?_
  rintro e w2 ⟨rfl, hb2⟩
  have N2 := hid (N1.out.below hb2 N1.out.lt)
  have B2 := hid (B1.out.trans (hb2.mono B1.out.size))
  clear N1 B1 hb2
  have z31 := zero31
  have T3 := hid (Has.new w2 31 (IV .u8 176 fun _ => 0))
  have HS : Hid (w.heap.size < w2.heap.size) := N2.out.lt
  have P3 := hid ((T3.out.setRow (IV .u8 176 (K.RW k))).alloc (.cells (IV .u8 16 fun _ => 0) 22))
  have P0 := hid ((N2.out.alloc (.cells (IV .u8 176 fun _ => 0) 31)).setRowOther w2.heap.size (IV .u8 176 (K.RW k)) (by have := HS.out; omega))
  have T4 := hid (Has.new ((w2.alloc (.cells (IV .u8 176 fun _ => 0) 31)).setRow w2.heap.size (IV .u8 176 (K.RW k))) 22 (IV .u8 16 fun _ => 0))
  have PB := hid ((Below.setRow (B2.out.alloc B2.out.size (.cells (IV .u8 176 fun _ => 0) 31)) (g' := w2.heap.size) B2.out.size (IV .u8 176 (K.RW k))).alloc (by have := HS.out; simp; omega) (.cells (IV .u8 16 fun _ => 0) 22))
  simp only [size_setRow, World.size_alloc] at T4
  have Q4 := hid (T4.out.setRow (IV .u8 16 k))
  have Q3 := hid (P3.out.setRowOther (w2.heap.size + 1) (IV .u8 16 k) (by omega))
  have QB := hid (Below.setRow PB.out (g' := w2.heap.size + 1) (by have := HS.out; omega) (IV .u8 16 k))
  clear N2 B2
  go_wp2_with (first | (refine wpList_store_row rfl 31 _ _ rfl w2.heap.size (IV .u8 176 (K.RW k)) rfl rfl 31 _ T3.out (by rw [size_IV]; exact size31) (by simp only [size_IV]) (oneCell_IV _ _ _) ?_) | (refine wpList_load_row rfl 22 _ rfl w.heap.size rfl 22 _ (0, 0) _ P0.out Try.underlying22 rfl (by rw [size_IV]; exact size22) ?_) | (refine wpList_alloc_of rfl 22 rfl _ zero22 (w2.heap.size + 1) (by simp) ?_) | (refine wpList_store_row rfl 22 _ _ rfl (w2.heap.size + 1) (IV .u8 16 k) rfl rfl 22 _ T4.out (by rw [size_IV]; exact size22) (by simp only [size_IV]) (oneCell_IV _ _ _) ?_))
  clear T3 T4 P3 P0 PB z31
  generalize (((w2.alloc (.cells (IV .u8 176 fun _ => 0) 31)).setRow w2.heap.size (IV .u8 176 (K.RW k))).alloc (.cells (IV .u8 16 fun _ => 0) 22)).setRow (w2.heap.size + 1) (IV .u8 16 k) = W5 at *
  generalize w2.heap.size = g3 at *
  go_loopw [5] (fun n wr => ∃ r : Nat, n = .int .i64 r ∧ r ≤ 10 ∧ Hid (Below w.heap.size w wr) ∧ Hid (Has wr g3 31 (IV .u8 176 (K.RW k))) ∧ Hid (Has wr (g3 + 1) 22 (IV .u8 16 (K.E k r)))) (fun n _ => 10 - (intOf n).toNat)
  case atStart => exact ⟨0, rfl, by omega, QB, Q3, Q4⟩
  case round =>
    clear QB Q3 Q4
    obtain ⟨r, rfl, hr, HB, H3, H4⟩ := hrel
    by_cases hl : r < 10
    · go_wp2_with (refine wpList_load_row rfl 22 _ rfl (g3 + 1) rfl 22 _ (0, 0) _ H4.out Try.underlying22 rfl (by rw [size_IV]; exact size22) ?_)
      refine (next_in (K.E k r) (K.E_lt k HK.out r) _ _ (by omega) (by omega)).mono ?_
      rintro e w6 ⟨rfl, hb6⟩
      rw [Int.toNat_natCast]
      unfold someKey
      have HE : Hid (K.nextB (K.E k r) r = K.E k (r + 1)) := rfl
      rw [HE.out]
      have L3 := hid (H3.out.below hb6 H3.out.lt)
      have L4 := hid (H4.out.below hb6 H4.out.lt)
      have LB := hid (HB.out.trans (hb6.mono HB.out.size))
      clear H3 H4 HB hb6 HE
      have HS6 : Hid (g3 + 1 < w6.heap.size) := L4.out.lt
      have T6 := hid (Has.new w6 22 (IV .u8 16 fun _ => 0))
      have P6 := hid (T6.out.setRow (IV .u8 16 (K.E k (r + 1))))
      have P3 := hid ((L3.out.alloc (.cells (IV .u8 16 fun _ => 0) 22)).setRowOther w6.heap.size (IV .u8 16 (K.E k (r + 1))) (by have := HS6.out; omega))
      have P4 := hid ((L4.out.alloc (.cells (IV .u8 16 fun _ => 0) 22)).setRowOther w6.heap.size (IV .u8 16 (K.E k (r + 1))) (by have := HS6.out; omega))
      have PB := hid (Below.setRow (LB.out.alloc LB.out.size (.cells (IV .u8 16 fun _ => 0) 22)) (g' := w6.heap.size) LB.out.size (IV .u8 16 (K.E k (r + 1))))
      have HR := P3.out.range ((r + 1) * 16) 16 (by omega)
      rw [IV_ext _ _ _ (K.E k (r + 1)) (fun j hj => K.RW_row k (r + 1) j hj)] at HR
      have HR1 := hid HR
      clear HR L3 L4 LB
      go_wp2_with (first | (refine wpList_alloc_of rfl 22 rfl _ zero22 w6.heap.size rfl ?_) | (refine wpList_store_row rfl 22 _ _ rfl w6.heap.size (IV .u8 16 (K.E k (r + 1))) rfl rfl 22 _ T6.out (by rw [size_IV]; exact size22) (by simp only [size_IV]) (oneCell_IV _ _ _) ?_))
      clear T6
      generalize (w6.alloc (.cells (IV .u8 16 fun _ => 0) 22)).setRow w6.heap.size (IV .u8 16 (K.E k (r + 1))) = W7 at *
      generalize w6.heap.size = g6 at *
      have hE : ∀ w, (Op.equalIn 10000 22 (.agg (IV .u8 16 (K.E k (r + 1)))) (.agg (IV .u8 16 (K.E k (r + 1))))).run Try.prog w = .ok true w := fun w => by
        rw [eq22, eqN_true (fun _ _ => rfl)]
      have i1 : IntKind.i64.wrap ((r : Int) + 1) = (r : Int) + 1 := IntWalk.i64_in _ (by omega)
      have i2 : (0 : Int) ≤ (r : Int) + 1 := by omega
      have i3 : (r : Int) + 1 < 11 := by omega
      have i4 : ((r : Int) + 1).toNat = r + 1 := by omega
      refine wp_region_still_lit (by kernel_rfl) (by kernel_rfl) ?_
      repeat (first | (refine still_load_row rfl 22 _ rfl g6 rfl 22 _ _ P6.out Try.underlying22 rfl (by rw [size_IV]; exact size22) ?_) | (refine still_load_part rfl 22 _ rfl g3 ((r + 1) * 16) rfl (IV .u8 16 (K.E k (r + 1))) _ HR1.out Try.underlying22 rfl (by rw [size_IV]; exact size22) ?_) | still_step)
      refine wpStill_nil ?_
      change Exit.then _ _ _ _ W7.drew
      have R3 := hid P3.out.drew
      have R4 := hid P4.out.drew
      have R6 := hid P6.out.drew
      have RB := hid PB.out.drew
      clear P3 P4 P6 PB HR1 hE i1 i2 i3 i4
      generalize W7.drew = W8 at *
      go_wp2_with (first | (refine wpList_load_row rfl 22 _ rfl g6 rfl 22 _ (0, 0) _ R6.out Try.underlying22 rfl (by rw [size_IV]; exact size22) ?_) | (refine wpList_store_row rfl 22 _ _ rfl (g3 + 1) (IV .u8 16 (K.E k (r + 1))) rfl rfl 22 _ R4.out (by rw [size_IV]; exact size22) (by simp only [size_IV]) (oneCell_IV _ _ _) ?_))
      exact ⟨⟨r + 1, by go_num, by omega, Below.setRow RB.out (by have := HS.out; omega) _, R3.out.setRowOther _ _ (by omega), R4.out.setRow _⟩, by simp [intOf]; omega⟩
    · obtain rfl : r = 10 := by omega
      go_wp2_with fail
      go_ret
      exact ⟨rfl, HB.out⟩
end Go.Proofs.Ytilbeboejohknaa
