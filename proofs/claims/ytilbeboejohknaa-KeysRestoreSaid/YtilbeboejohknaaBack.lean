/- keys.backward: the words of the round key ahead. -/
import Derived.Test.YtilbeboejohknaaForw
import Derived.RegionTactic
import Derived.BigRegion
namespace Go.Proofs.Ytilbeboejohknaa
open Go.RowKit

namespace K
theorem back_step (k : Nat → Nat) (hk : ∀ j, k j < 256) (r i : Nat) : wd k (i + 1) ^^^ wd k i = wd (prevB k r) (i + 1) := by
  rw [wd_xor _ _ _ _ hk hk]
  have e0 : prevB k r (4 * (i + 1)) = pv k r (i + 1) 0 := prevB_ij k r (i + 1) 0 (by omega)
  unfold wd
  rw [e0, prevB_ij k r (i + 1) 1 (by omega), prevB_ij k r (i + 1) 2 (by omega), prevB_ij k r (i + 1) 3 (by omega), pv_succ, pv_succ, pv_succ, pv_succ]
  rfl

theorem back_zero (k : Nat → Nat) (hk : ∀ j, k j < 256) (r : Nat) : wd k 0 ^^^ turn (wd (prevB k r) 3) r = wd (prevB k r) 0 := by
  rw [wd_turn _ (prevB_lt k r hk)]
  have e0 : prevB k r (4 * 3) = pv k r 3 0 := prevB_ij k r 3 0 (by omega)
  rw [e0, prevB_ij k r 3 1 (by omega), prevB_ij k r 3 2 (by omega), prevB_ij k r 3 3 (by omega), pv_succ, pv_succ, pv_succ, pv_succ]
  have e4 : prevB k r (4 * 0) = pv k r 0 0 := prevB_ij k r 0 0 (by omega)
  unfold wd
  rw [mk4_xor _ _ _ _ _ _ _ _ (hk _) (hk _) (hk _) (S_lt _) (S_lt _) (S_lt _)]
  rw [e4, prevB_ij k r 0 1 (by omega), prevB_ij k r 0 2 (by omega), prevB_ij k r 0 3 (by omega), pv_zero, pv_zero, pv_zero, pv_zero]
  simp
end K

theorem mix_down (f g : Nat → Nat) (n : Nat) (j : Nat) : upd (mix f g (n + 1)) n (g n) j = mix f g n j := by
  unfold upd mix
  by_cases e : j = n
  · rw [if_pos e, if_neg (by omega), e]
  · rw [if_neg e]
    by_cases e2 : j < n
    · rw [if_pos e2, if_pos (by omega)]
    · rw [if_neg e2, if_neg (by omega)]

set_option maxRecDepth 100000 in
set_option maxHeartbeats 1000000 in
theorem backward_any (k : Nat → Nat) (hk : ∀ j, k j < 256) (r : Int) (w : World) (h0 : 1 ≤ r) (h1 : r ≤ 10) :
    Calls Try.prog 21 #[.agg (IV .u32 4 (K.wd k)), .int .i64 r] w fun e w' => e = .returned (.agg (IV .u32 4 (K.wd (K.prevB k r.toNat)))) ∧ Below w.heap.size w w' := by
  obtain ⟨r, rfl⟩ := Int.eq_ofNat_of_zero_le (show 0 ≤ r by omega)
  rw [Int.toNat_natCast]
  have HK := hid hk
  clear hk
  have N0 := hid ((Has.new w 41 (IV .u32 4 (K.wd k))).alloc (.cells (IV .u32 4 fun _ => 0) 41))
  have N1 := hid (Has.new (w.alloc (.cells (IV .u32 4 (K.wd k)) 41)) 41 (IV .u32 4 fun _ => 0))
  rw [World.size_alloc] at N1
  have B0 := hid (((Below.refl w.heap.size w).alloc (Nat.le_refl _) (.cells (IV .u32 4 (K.wd k)) 41)).alloc (by simp) (.cells (IV .u32 4 fun _ => 0) 41))
  have HS0 := hid (N0.out.ext (f' := mix (K.wd k) (K.wd (K.prevB k r)) 4) (fun j hj => (mix_all _ _ _ _ hj).symm))
  clear N0
  go_enter Try.func21, Try.ntmps21
  go_wp2_with fail
  go_loopw [5] (fun n wr => ∃ i : Nat, n = .int .i64 i ∧ i ≤ 3 ∧ Hid (Below w.heap.size w wr) ∧ Hid (Has wr w.heap.size 41 (IV .u32 4 (mix (K.wd k) (K.wd (K.prevB k r)) (i + 1)))) ∧ Hid (Has wr (w.heap.size + 1) 41 (IV .u32 4 fun _ => 0))) (fun n _ => (intOf n).toNat)
  case atStart => exact ⟨3, rfl, by omega, B0, HS0, N1⟩
  case round =>
    clear B0 HS0 N1
    obtain ⟨i, rfl, hi, HB, H0, H1⟩ := hrel
    by_cases hl : 0 < i
    · obtain ⟨i, rfl⟩ : ∃ j, i = j + 1 := ⟨i - 1, by omega⟩
      have c1 := H0.out.cellIV (j := i + 1) (by omega)
      have c0 := H0.out.cellIV (j := i) (by omega)
      rw [mix_all _ _ _ _ (by omega)] at c0 c1
      have hf := H0.out.frozen (i + 1)
      have hx := bits_u32_xor (K.wd k (i + 1)) (K.wd k i) (K.wd_lt k HK.out _) (K.wd_lt k HK.out _)
      rw [K.back_step k HK.out r i] at hx
      have HN0 := hid ((H0.out.setIV (i + 1) (K.wd (K.prevB k r) (i + 1))).ext (fun j _ => mix_down _ _ (i + 1) j)).drew
      have HN1 := hid (H1.out.setO w.heap.size (i + 1) (.int .u32 (K.wd (K.prevB k r) (i + 1))) (by omega)).drew
      have HNB := hid (Below.setC HB.out w.heap.size (i + 1) (.int .u32 (K.wd (K.prevB k r) (i + 1))) (by omega)).drew
      clear HB H0 H1
      generalize K.wd k i = a at *
      generalize K.wd (K.prevB k r) (i + 1) = z at *
      generalize K.wd k (i + 1) = b at *
      go_wp2_with fail
      go_region
      generalize (wr.setCell ⟨w.heap.size, i + 1, none⟩ (.int .u32 z)).drew = W5 at *
      go_wp2_with fail
      exact ⟨⟨i, by go_num, by omega, HNB, HN0, HN1⟩, by simp [intOf]⟩
    · obtain rfl : i = 0 := by omega
      have HS : Hid (w.heap.size < wr.heap.size) := H0.out.lt
      have c0 := H0.out.cellIV (j := 0) (by omega)
      have c3 := H0.out.cellIV (j := 3) (by omega)
      rw [mix_all _ _ _ _ (by omega)] at c0
      rw [mix_at _ _ _ _ (by omega)] at c3
      have b3 := K.wd_lt (K.prevB k r) (K.prevB_lt k r HK.out) 3
      have hx := bits_u32_xor (K.wd k 0) (K.turn (K.wd (K.prevB k r) 3) r) (K.wd_lt k HK.out _) (K.turn_lt _ _)
      rw [K.back_zero k HK.out r] at hx
      generalize K.wd (K.prevB k r) 3 = d at *
      have HM : Hid (∀ W, Has W w.heap.size 41 (IV .u32 4 (mix (K.wd k) (K.wd (K.prevB k r)) (0 + 1))) → Has (W.setCell ⟨w.heap.size, 0, none⟩ (.int .u32 (K.wd (K.prevB k r) 0))) w.heap.size 41 (IV .u32 4 (K.wd (K.prevB k r)))) :=
        fun W h => ((h.setIV 0 (K.wd (K.prevB k r) 0)).ext (fun j _ => mix_down _ _ 0 j)).ext (fun j _ => mix_at _ _ 0 j (by omega))
      generalize K.wd k 0 = a at *
      go_wp2_with fail
      go_region_with (go_at_call 28; refine (turned_any _ _ _ (by omega) (by omega) (by omega) (by omega)).mono ?_; rintro e w1 ⟨rfl, hb1⟩; rw [Int.toNat_natCast, Int.toNat_natCast]; have q0 : w1.cell? ⟨w.heap.size, 0, none⟩ = some (.int .u32 a) := (hb1.cell (by exact HS.out)).trans c0; have q2 := hid (H0.out.drew.below hb1 (by exact HS.out)); have q1 := q2.out.frozen 0; have q3 := hid (H1.out.drew.below hb1 (by exact H1.out.lt)); have q4 := hid (HB.out.drew.trans (hb1.mono (by exact Nat.le_of_lt HS.out))); clear hb1)
      all_goals
        have HN0 := hid (HM.out _ q2.out)
        have HN1 := hid (q3.out.setO w.heap.size 0 (.int .u32 (K.wd (K.prevB k r) 0)) (by omega))
        have HNB := hid (Below.setC q4.out w.heap.size 0 (.int .u32 (K.wd (K.prevB k r) 0)) (Nat.le_refl _))
        clear q0 q1 q2 q3 q4 HM HB H0 H1 c0 c3 hx b3 HS
        generalize w1.setCell ⟨w.heap.size, 0, none⟩ (.int .u32 (K.wd (K.prevB k r) 0)) = W6 at *
        go_wp2_with (first | (refine wpList_load_row rfl 41 _ rfl w.heap.size rfl 41 _ (0, 0) _ HN0.out Try.underlying41 rfl (by rw [size_IV]; exact size41) ?_) | (refine wpList_store_row rfl 41 _ _ rfl (w.heap.size + 1) (IV .u32 4 (K.wd (K.prevB k r))) rfl rfl 41 _ HN1.out (by rw [size_IV]; exact size41) (by rw [size_IV, size_IV]) (oneCell_IV _ _ _) ?_))
        exact bodyPost_ret_by (results_cell_row rfl _ _ (w.heap.size + 1) 41 _ (0, 0) _ rfl (HN1.out.setRow _) Try.underlying41 rfl (by rw [size_IV]; exact size41)) rfl ⟨rfl, Below.setRow HNB.out (by omega) _⟩
end Go.Proofs.Ytilbeboejohknaa
