/- keys.store: the round key of four words. -/
import Derived.Test.YtilbeboejohknaaLoad
namespace Go.Proofs.Ytilbeboejohknaa
open Go.RowKit

theorem K.wd_byte (k : Nat → Nat) (hk : ∀ j, k j < 256) (i c : Nat) (hc : c < 4) : K.wd k i / 2 ^ (24 - 8 * c) % 256 = k (4 * i + c) := by
  have h0 := hk (4 * i)
  have h1 := hk (4 * i + 1)
  have h2 := hk (4 * i + 2)
  have h3 := hk (4 * i + 3)
  unfold K.wd K.mk4
  have h : c = 0 ∨ c = 1 ∨ c = 2 ∨ c = 3 := by omega
  rcases h with rfl | rfl | rfl | rfl <;> simp <;> omega

theorem K.wd_cut (k : Nat → Nat) (hk : ∀ j, k j < 256) (i c : Nat) (hc : c < 4) :
    ∃ q : Nat, ((K.wd k i : Nat) : Int) / 2 ^ (24 - 8 * c) = (q : Int) ∧ q < 4294967296 ∧ (q : Int) % 256 = ((k (4 * i + c) : Nat) : Int) := by
  obtain ⟨q, h1, h2, h3⟩ := div_pow32 (K.wd k i) (24 - 8 * c) (K.wd_lt k hk i)
  refine ⟨q, h1, h3, ?_⟩
  have := K.wd_byte k hk i c hc
  rw [← h2] at this
  omega

/-- The row f, as far as n; behind it nothing yet. -/
def far (f : Nat → Nat) (n : Nat) : Nat → Nat := fun j => if j < n then f j else 0
theorem far_upd (f : Nat → Nat) (n : Nat) (j : Nat) : upd (far f n) n (f n) j = far f (n + 1) j := by
  unfold upd far
  by_cases e : j = n
  · rw [if_pos e, if_pos (by omega), e]
  · rw [if_neg e]
    by_cases e2 : j < n
    · rw [if_pos e2, if_pos (by omega)]
    · rw [if_neg e2, if_neg (by omega)]
theorem far_at (f : Nat → Nat) (n : Nat) : far f n n = 0 := by unfold far; rw [if_neg (by omega)]
theorem far_all (f : Nat → Nat) (n j : Nat) (h : j < n) : far f n j = f j := by unfold far; rw [if_pos h]

set_option maxRecDepth 100000 in
set_option maxHeartbeats 1000000 in
theorem store_any (k : Nat → Nat) (hk : ∀ j, k j < 256) (w : World) :
    Calls Try.prog 22 #[.agg (IV .u32 4 (K.wd k))] w fun e w' => e = .returned (.agg (IV .u8 16 k)) ∧ Below w.heap.size w w' := by
  have HK := hid hk
  clear hk
  have N0 := hid (((Has.new w 41 (IV .u32 4 (K.wd k))).alloc (.cells (IV .u8 16 fun _ => 0) 22)).alloc (.cells (IV .u8 16 fun _ => 0) 22))
  have N1 := hid ((Has.new (w.alloc (.cells (IV .u32 4 (K.wd k)) 41)) 22 (IV .u8 16 fun _ => 0)).alloc (.cells (IV .u8 16 fun _ => 0) 22))
  have N2 := hid (Has.new ((w.alloc (.cells (IV .u32 4 (K.wd k)) 41)).alloc (.cells (IV .u8 16 fun _ => 0) 22)) 22 (IV .u8 16 fun _ => 0))
  rw [World.size_alloc] at N1
  rw [World.size_alloc, World.size_alloc] at N2
  have B0 := hid ((((Below.refl w.heap.size w).alloc (Nat.le_refl _) (.cells (IV .u32 4 (K.wd k)) 41)).alloc (by simp) (.cells (IV .u8 16 fun _ => 0) 22)).alloc (by simp; omega) (.cells (IV .u8 16 fun _ => 0) 22))
  have HI := hid (fun w1 i (hi : i < 4) => run_index_IV (P := Try.prog) w1 (t := 41) (kk := .i64) (k := .u32) Try.underlying41 Try.underlying24 size24 (K.wd k) i hi)
  go_enter Try.func22, Try.ntmps22
  go_wp2_with (refine wpList_load_row rfl 41 _ rfl w.heap.size rfl 41 _ (0, 0) _ N0.out Try.underlying41 rfl (by rw [size_IV]; exact size41) ?_)
  go_loopw [8] (fun n wr => ∃ i : Nat, n = .int .i64 i ∧ i ≤ 4 ∧ Hid (Below w.heap.size w wr) ∧ Hid (Has wr (w.heap.size + 1) 22 (IV .u8 16 fun _ => 0)) ∧ Hid (Has wr (w.heap.size + 1 + 1) 22 (IV .u8 16 (far k (4 * i))))) (fun n _ => 4 - (intOf n).toNat)
  case atStart => exact ⟨0, rfl, by omega, B0, N1, N2⟩
  case round =>
    clear B0 N0 N1 N2
    obtain ⟨i, rfl, hi, HB, H1, H2⟩ := hrel
    by_cases hl : i < 4
    · have hidx := fun w1 => HI.out w1 i hl
      go_wp2_with fail
      obtain ⟨wo, rfl⟩ : ∃ wo : World, wo = wr := ⟨_, rfl⟩
      go_loopw [12] (fun n wr => ∃ c : Nat, n = .int .i64 c ∧ c ≤ 4 ∧ Hid (Below w.heap.size w wr) ∧ Hid (Has wr (w.heap.size + 1) 22 (IV .u8 16 fun _ => 0)) ∧ Hid (Has wr (w.heap.size + 1 + 1) 22 (IV .u8 16 (far k (4 * i + c))))) (fun n _ => 4 - (intOf n).toNat)
      case atStart => exact ⟨0, rfl, by omega, HB, H1, H2⟩
      case round =>
        clear HB H1 H2 hidx
        obtain ⟨c, rfl, hc, HB, H1, H2⟩ := hrel
        by_cases hm : c < 4
        · obtain ⟨q, hq, hq1, hq2⟩ := K.wd_cut k HK.out i c hm
          have hce := H2.out.cellIV (j := 4 * i + c) (by omega)
          rw [far_at] at hce
          have hf := H2.out.frozen (4 * i + c)
          have HN2 := hid ((H2.out.setIV (4 * i + c) (k (4 * i + c))).ext (fun j _ => far_upd k (4 * i + c) j))
          have HN1 := hid (H1.out.setO (w.heap.size + 1 + 1) (4 * i + c) (.int .u8 (k (4 * i + c))) (by omega))
          have HNB := hid (Below.setC HB.out (w.heap.size + 1 + 1) (4 * i + c) (.int .u8 (k (4 * i + c))) (by omega))
          clear HB H1 H2
          generalize k (4 * i + c) = v at *
          go_wp2_with fail
          exact ⟨⟨c + 1, by go_num, by omega, HNB, HN1, HN2⟩, by simp [intOf]; omega⟩
        · obtain rfl : c = 4 := by omega
          go_wp2_with fail
          exact ⟨⟨i + 1, by go_num, by omega, HB, H1, H2⟩, by simp [intOf]; omega⟩
    · obtain rfl : i = 4 := by omega
      have H3 : Hid (Has wr (w.heap.size + 1 + 1) 22 (IV .u8 16 k)) := H2.out.ext (fun j hj => far_all _ _ _ hj)
      clear H2
      go_wp2_with (first | (refine wpList_load_row rfl 22 _ rfl (w.heap.size + 1 + 1) rfl 22 _ (0, 0) _ H3.out Try.underlying22 rfl (by rw [size_IV]; exact size22) ?_) | (refine wpList_store_row rfl 22 _ _ rfl (w.heap.size + 1) (IV .u8 16 k) rfl rfl 22 _ H1.out (by rw [size_IV]; exact size22) (by rw [size_IV, size_IV]) (oneCell_IV _ _ _) ?_))
      exact bodyPost_ret_by (results_cell_row rfl _ _ (w.heap.size + 1) 22 _ (0, 0) _ rfl (H1.out.setRow _) Try.underlying22 rfl (by rw [size_IV]; exact size22)) rfl ⟨rfl, Below.setRow HB.out (by omega) _⟩
end Go.Proofs.Ytilbeboejohknaa
