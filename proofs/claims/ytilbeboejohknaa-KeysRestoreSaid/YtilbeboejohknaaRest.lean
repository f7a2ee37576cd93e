/- keys.Restore: the key of a round key, for rounds 0 to 10; zero and false for others. -/
import Derived.Test.YtilbeboejohknaaNext
namespace Go.Proofs.Ytilbeboejohknaa
open Go.RowKit

set_option maxRecDepth 100000 in
set_option maxHeartbeats 1000000 in
theorem restore_out (k : Nat → Nat) (r : Int) (w : World) (h : r < 0 ∨ 10 < r) :
    Calls Try.prog 15 #[.int .i64 r, .agg (IV .u8 16 k)] w fun e w' => e = .returned noKey ∧ Below w.heap.size w w' := by
  have N1 := hid (Has.new (w.alloc (.cells (IV .u8 16 k) 22)) 22 (IV .u8 16 fun _ => 0))
  rw [World.size_alloc] at N1
  have B0 := hid (((Below.refl w.heap.size w).alloc (Nat.le_refl _) (.cells (IV .u8 16 k) 22)).alloc (by simp) (.cells (IV .u8 16 fun _ => 0) 22))
  rcases h with h | h
  · go_enter Try.func15, Try.ntmps15
    go_wp2_with (first | (refine wpList_alloc_of rfl 22 rfl _ zero22 (w.heap.size + 1) (by simp) ?_) | (refine wpList_build_some rfl 22 _ rfl (IV .u8 16 fun _ => 0) (by kernel_rfl) ?_) | (refine wpList_store_row rfl 22 _ _ rfl (w.heap.size + 1) (IV .u8 16 fun _ => 0) rfl rfl 22 _ N1.out (by rw [size_IV]; exact size22) (by simp only [size_IV]) (oneCell_IV _ _ _) ?_))
    (try simp only [Exit.inBlock, Exit.then])
    exact bodyPost_ret_by (results_row_tmp rfl _ _ (w.heap.size + 1) 22 _ (0, 0) _ rfl (N1.out.setRow _) Try.underlying22 rfl (by rw [size_IV]; exact size22)) rfl ⟨rfl, Below.setRow B0.out (by omega) _⟩
  · have h' : ¬ r < 0 := by omega
    go_enter Try.func15, Try.ntmps15
    go_wp2_with (first | (refine wpList_alloc_of rfl 22 rfl _ zero22 (w.heap.size + 1) (by simp) ?_) | (refine wpList_build_some rfl 22 _ rfl (IV .u8 16 fun _ => 0) (by kernel_rfl) ?_) | (refine wpList_store_row rfl 22 _ _ rfl (w.heap.size + 1) (IV .u8 16 fun _ => 0) rfl rfl 22 _ N1.out (by rw [size_IV]; exact size22) (by simp only [size_IV]) (oneCell_IV _ _ _) ?_))
    (try simp only [Exit.inBlock, Exit.then])
    exact bodyPost_ret_by (results_row_tmp rfl _ _ (w.heap.size + 1) 22 _ (0, 0) _ rfl (N1.out.setRow _) Try.underlying22 rfl (by rw [size_IV]; exact size22)) rfl ⟨rfl, Below.setRow B0.out (by omega) _⟩

set_option maxRecDepth 100000 in
set_option maxHeartbeats 1000000 in
theorem restore_in (k : Nat → Nat) (hk : ∀ j, k j < 256) (r : Int) (w : World) (h0 : 0 ≤ r) (h1 : r ≤ 10) :
    Calls Try.prog 15 #[.int .i64 r, .agg (IV .u8 16 k)] w fun e w' => e = .returned (someKey (K.R r.toNat k)) ∧ Below w.heap.size w w' := by
  obtain ⟨r, rfl⟩ := Int.eq_ofNat_of_zero_le h0
  rw [Int.toNat_natCast]
  have HK := hid hk
  clear hk
  have N0 := hid ((Has.new w 22 (IV .u8 16 k)).alloc (.cells (IV .u8 16 fun _ => 0) 22))
  have N1 := hid (Has.new (w.alloc (.cells (IV .u8 16 k) 22)) 22 (IV .u8 16 fun _ => 0))
  rw [World.size_alloc] at N1
  have B0 := hid (((Below.refl w.heap.size w).alloc (Nat.le_refl _) (.cells (IV .u8 16 k) 22)).alloc (by simp) (.cells (IV .u8 16 fun _ => 0) 22))
  have h2 : ¬ (r : Int) < 0 := by omega
  have h3 : ¬ 10 < (r : Int) := by omega
  go_enter Try.func15, Try.ntmps15
  go_wp2_with (refine wpList_load_row rfl 22 _ rfl w.heap.size rfl 22 _ (0, 0) _ N0.out Try.underlying22 rfl (by rw [size_IV]; exact size22) ?_)
  refine (load_any k HK.out _).mono ?_
  rintro e w1 ⟨rfl, hb1⟩
  have M1 := hid (N1.out.below hb1 N1.out.lt)
  have MB := hid (B0.out.trans (hb1.mono B0.out.size))
  have HS : Hid (w.heap.size + 1 < w1.heap.size) := M1.out.lt
  clear N0 N1 B0 hb1
  have T2 := hid (Has.new w1 41 (IV .u32 4 fun _ => 0))
  have P2 := hid (T2.out.setRow (IV .u32 4 (K.wd k)))
  have P1 := hid ((M1.out.alloc (.cells (IV .u32 4 fun _ => 0) 41)).setRowOther w1.heap.size (IV .u32 4 (K.wd k)) (by have := HS.out; omega))
  have PB := hid (Below.setRow (MB.out.alloc (by have := HS.out; omega) (.cells (IV .u32 4 fun _ => 0) 41)) (g' := w1.heap.size) (by have := HS.out; omega) (IV .u32 4 (K.wd k)))
  go_wp2_with (first | (refine wpList_alloc_of rfl 41 rfl _ zero41 w1.heap.size rfl ?_) | (refine wpList_store_row rfl 41 _ _ rfl w1.heap.size (IV .u32 4 (K.wd k)) rfl rfl 41 _ T2.out (by rw [size_IV]; exact size41) (by simp only [size_IV]) (oneCell_IV _ _ _) ?_))
  clear T2 M1 MB
  generalize (w1.alloc (.cells (IV .u32 4 fun _ => 0) 41)).setRow w1.heap.size (IV .u32 4 (K.wd k)) = W2 at *
  go_frame
  go_loopw [0] (fun n wr => ∃ (j : Nat) (f : Nat → Nat), n = .int .i64 j ∧ j ≤ 10 ∧ Hid (∀ i, f i < 256) ∧ Hid (K.R j f = K.R r k) ∧ Hid (Below w.heap.size w wr) ∧ Hid (Has wr (w.heap.size + 1) 22 (IV .u8 16 fun _ => 0)) ∧ Hid (Has wr w1.heap.size 41 (IV .u32 4 (K.wd f)))) (fun n _ => (intOf n).toNat)
  case atStart => exact ⟨r, k, rfl, by omega, HK, rfl, PB, P1, P2⟩
  case round =>
    clear PB P1 P2 HK
    obtain ⟨j, f, rfl, hj, HK, HR, HB, H1, H2⟩ := hrel
    by_cases hl : 0 < j
    · obtain ⟨j, rfl⟩ : ∃ i, j = i + 1 := ⟨j - 1, by omega⟩
      go_wp2_with (refine wpList_load_row rfl 41 _ rfl w1.heap.size rfl 41 _ (0, 0) _ H2.out Try.underlying41 rfl (by rw [size_IV]; exact size41) ?_)
      refine (backward_any f HK.out _ _ (by omega) (by omega)).mono ?_
      rintro e w2 ⟨rfl, hb2⟩
      rw [show ((j : Int) + 1).toNat = j + 1 from by omega]
      have L1 := hid (H1.out.below hb2 H1.out.lt)
      have L2 := hid (H2.out.below hb2 H2.out.lt)
      have LB := hid (HB.out.trans (hb2.mono HB.out.size))
      clear H1 H2 HB hb2
      go_wp2_with (refine wpList_store_row rfl 41 _ _ rfl w1.heap.size (IV .u32 4 (K.wd (K.prevB f (j + 1)))) rfl rfl 41 _ L2.out (by rw [size_IV]; exact size41) (by simp only [size_IV]) (oneCell_IV _ _ _) ?_)
      exact ⟨⟨j, K.prevB f (j + 1), by go_num, by omega, K.prevB_lt f _ HK.out, HR, Below.setRow LB.out (by have := HS.out; omega) _, L1.out.setRowOther _ _ (by have := HS.out; omega), L2.out.setRow _⟩, by simp [intOf]⟩
    · obtain rfl : j = 0 := by omega
      have HF : Hid (f = K.R r k) := HR
      go_wp2_with (refine wpList_load_row rfl 41 _ rfl w1.heap.size rfl 41 _ (0, 0) _ H2.out Try.underlying41 rfl (by rw [size_IV]; exact size41) ?_)
      refine (store_any f HK.out _).mono ?_
      rintro e w2 ⟨rfl, hb2⟩
      have L1 := hid (H1.out.below hb2 H1.out.lt)
      have LB := hid (HB.out.trans (hb2.mono HB.out.size))
      clear H1 H2 HB hb2
      go_wp2_with (refine wpList_store_row rfl 22 _ _ rfl (w.heap.size + 1) (IV .u8 16 f) rfl rfl 22 _ L1.out (by rw [size_IV]; exact size22) (by simp only [size_IV]) (oneCell_IV _ _ _) ?_)
      (try simp only [Exit.inBlock, Exit.then])
      exact bodyPost_ret_by (results_row_tmp rfl _ _ (w.heap.size + 1) 22 _ (0, 0) _ rfl (L1.out.setRow _) Try.underlying22 rfl (by rw [size_IV]; exact size22)) rfl ⟨by rw [← HF.out]; rfl, Below.setRow LB.out (by omega) _⟩
end Go.Proofs.Ytilbeboejohknaa
