/- The reference's Expand: the round keys of a key. -/
import Derived.Test.YtilbeboejohknaaRwds
namespace Go.Proofs.Ytilbeboejohknaa
open Go.RowKit

set_option maxRecDepth 100000 in
set_option maxHeartbeats 1000000 in
theorem rexpand_any (k : Nat → Nat) (hk : ∀ j, k j < 256) (w : World) :
    Calls Try.prog 12 #[.agg (IV .u8 16 k)] w fun e w' => e = .returned (.agg (IV .u8 176 (K.RW k))) ∧ Below w.heap.size w w' := by
  have HK := hid hk
  clear hk
  have N0 := hid ((Has.new w 22 (IV .u8 16 k)).alloc (.cells (IV .u8 176 fun _ => 0) 31))
  have N1 := hid (Has.new (w.alloc (.cells (IV .u8 16 k) 22)) 31 (IV .u8 176 fun _ => 0))
  rw [World.size_alloc] at N1
  have B0 := hid (((Below.refl w.heap.size w).alloc (Nat.le_refl _) (.cells (IV .u8 16 k) 22)).alloc (by simp) (.cells (IV .u8 176 fun _ => 0) 31))
  have z28 := zero28
  have z31 := zero31
  go_enter Try.func12, Try.ntmps12
  go_wp2_with (refine wpList_load_row rfl 22 _ rfl w.heap.size rfl 22 _ (0, 0) _ N0.out Try.underlying22 rfl (by rw [size_IV]; exact size22) ?_)
  refine (rwords_any k HK.out _).mono ?_
  rintro e w1 ⟨rfl, hb1⟩
  have M1 := hid (N1.out.below hb1 N1.out.lt)
  have MB := hid (B0.out.trans (hb1.mono B0.out.size))
  clear N0 N1 B0 hb1
  have HS : Hid (w.heap.size + 1 < w1.heap.size) := M1.out.lt
  have T3 := hid (Has.new w1 28 (IV .u8 176 fun _ => 0))
  have P3 := hid ((T3.out.setRow (IV .u8 176 (K.RW k))).alloc (.cells (IV .u8 176 fun _ => 0) 31))
  have P4 := hid (Has.new ((w1.alloc (.cells (IV .u8 176 fun _ => 0) 28)).setRow w1.heap.size (IV .u8 176 (K.RW k))) 31 (IV .u8 176 fun _ => 0))
  have P1 := hid (((M1.out.alloc (.cells (IV .u8 176 fun _ => 0) 28)).setRowOther w1.heap.size (IV .u8 176 (K.RW k)) (by have := HS.out; omega)).alloc (.cells (IV .u8 176 fun _ => 0) 31))
  have PB := hid ((Below.setRow (MB.out.alloc (by have := HS.out; omega) (.cells (IV .u8 176 fun _ => 0) 28)) (g' := w1.heap.size) (by have := HS.out; omega) (IV .u8 176 (K.RW k))).alloc (by have := HS.out; simp; omega) (.cells (IV .u8 176 fun _ => 0) 31))
  simp only [size_setRow, World.size_alloc] at P4
  have P4' := hid (P4.out.ext (f' := far (K.RW k) 0) (fun j _ => by unfold far; rw [if_neg (by omega)]))
  clear M1 MB P4
  go_wp2_with (refine wpList_store_row rfl 28 _ _ rfl w1.heap.size (IV .u8 176 (K.RW k)) rfl rfl 28 _ T3.out (by rw [size_IV]; exact size28) (by simp only [size_IV]) (oneCell_IV _ _ _) ?_)
  clear T3 z28 z31
  generalize ((w1.alloc (.cells (IV .u8 176 fun _ => 0) 28)).setRow w1.heap.size (IV .u8 176 (K.RW k))).alloc (.cells (IV .u8 176 fun _ => 0) 31) = W2 at *
  generalize w1.heap.size = g3 at *
  go_loopw [5] (fun n wr => ∃ i : Nat, n = .int .i64 i ∧ i ≤ 176 ∧ Hid (Below w.heap.size w wr) ∧ Hid (Has wr (w.heap.size + 1) 31 (IV .u8 176 fun _ => 0)) ∧ Hid (Has wr g3 28 (IV .u8 176 (K.RW k))) ∧ Hid (Has wr (g3 + 1) 31 (IV .u8 176 (far (K.RW k) i)))) (fun n _ => 176 - (intOf n).toNat)
  case atStart => exact ⟨0, rfl, by omega, PB, P1, P3, P4'⟩
  case round =>
    clear PB P1 P3 P4'
    obtain ⟨i, rfl, hi, HB, H1, H3, H4⟩ := hrel
    by_cases hl : i < 176
    · have hd : decide ((i : Int) < 176) = true := by rw [decide_eq_true_eq]; omega
      have c3 := H3.out.cellIV (j := i) hl
      have c4 := H4.out.cellIV (j := i) hl
      have f4 := H4.out.frozen i
      have HN4 := hid ((H4.out.setIV i (K.RW k i)).ext (fun j _ => far_upd (K.RW k) i j)).drew
      have HN3 := hid (H3.out.setO (g3 + 1) i (.int .u8 (K.RW k i)) (by omega)).drew
      have HN1 := hid (H1.out.setO (g3 + 1) i (.int .u8 (K.RW k i)) (by have := HS.out; omega)).drew
      have HNB := hid (Below.setC HB.out (g3 + 1) i (.int .u8 (K.RW k i)) (by have := HS.out; omega)).drew
      generalize K.RW k i = v at c3 HN4 HN3 HN1 HNB
      obtain ⟨a, ha⟩ : ∃ a, i / 16 = a := ⟨_, rfl⟩
      obtain ⟨b, hb⟩ : ∃ b, i % 16 = b := ⟨_, rfl⟩
      obtain ⟨c, hc⟩ : ∃ c, i / 4 = c := ⟨_, rfl⟩
      obtain ⟨d, hdd⟩ : ∃ d, i % 4 = d := ⟨_, rfl⟩
      have a1 : (i : Int).tdiv 16 = (a : Int) := by rw [Int.tdiv_eq_ediv_of_nonneg (by omega)]; omega
      have b1 : (i : Int).tmod 16 = (b : Int) := by rw [Int.tmod_eq_emod_of_nonneg (by omega)]; omega
      have c1 : (i : Int).tdiv 4 = (c : Int) := by rw [Int.tdiv_eq_ediv_of_nonneg (by omega)]; omega
      have d1 : (i : Int).tmod 4 = (d : Int) := by rw [Int.tmod_eq_emod_of_nonneg (by omega)]; omega
      have a2 : IntKind.i64.wrap (a : Int) = (a : Int) := IntWalk.i64_in _ (by omega)
      have b2 : IntKind.i64.wrap (b : Int) = (b : Int) := IntWalk.i64_in _ (by omega)
      have c2 : IntKind.i64.wrap (c : Int) = (c : Int) := IntWalk.i64_in _ (by omega)
      have d2 : IntKind.i64.wrap (d : Int) = (d : Int) := IntWalk.i64_in _ (by omega)
      have a3 : (a : Int) < 11 := by omega
      have b3 : (b : Int) < 16 := by omega
      have c33 : (c : Int) < 44 := by omega
      have d3 : (d : Int) < 4 := by omega
      have e1 : a * 16 + b = i := by omega
      have e2 : c * 4 + d = i := by omega
      clear ha hb hc hdd
      go_wp2_with fail
      go_still_tail 13, (by kernel_rfl)
      change wpList _ _ _ _ _ wr.drew
      clear H1 H3 H4 HB a1 b1 c1 d1 a2 b2 c2 d2 a3 b3 c33 d3 c3 e1 e2
      go_wp2_with fail
      clear c4 f4
      generalize (wr.setCell ⟨g3 + 1, i, none⟩ (.int .u8 v)).drew = W5 at *
      exact ⟨⟨i + 1, by go_num, by omega, HNB, HN1, HN3, HN4⟩, by simp [intOf]; omega⟩
    · obtain rfl : i = 176 := by omega
      have H5 : Hid (Has wr (g3 + 1) 31 (IV .u8 176 (K.RW k))) := H4.out.ext (fun j hj => far_all _ _ _ hj)
      clear H4
      go_wp2_with (first | (refine wpList_load_row rfl 31 _ rfl (g3 + 1) rfl 31 _ (0, 0) _ H5.out Try.underlying31 rfl (by rw [size_IV]; exact size31) ?_) | (refine wpList_store_row rfl 31 _ _ rfl (w.heap.size + 1) (IV .u8 176 (K.RW k)) rfl rfl 31 _ H1.out (by rw [size_IV]; exact size31) (by simp only [size_IV]) (oneCell_IV _ _ _) ?_))
      exact bodyPost_ret_by (results_cell_row rfl _ _ (w.heap.size + 1) 31 _ (0, 0) _ rfl (H1.out.setRow _) Try.underlying31 rfl (by rw [size_IV]; exact size31)) rfl ⟨rfl, Below.setRow HB.out (by omega) _⟩
end Go.Proofs.Ytilbeboejohknaa
