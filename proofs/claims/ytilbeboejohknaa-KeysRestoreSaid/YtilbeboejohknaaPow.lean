/- What the reference's Power computes at 2, for exponents from 0 to 9. -/
import Derived.Test.YtilbeboejohknaaMul
namespace Go.Proofs.Ytilbeboejohknaa
open Go.RowKit

theorem mul2_rc (i : Nat) (h : i < 9) : K.mul (K.rc (i + 1)) 2 = K.rc (i + 2) := K.mul2 ⟨i, h⟩

set_option maxRecDepth 100000 in
set_option maxHeartbeats 1000000 in
theorem rpow_any (n : Int) (w : World) (h0 : 0 ≤ n) (h1 : n ≤ 9) :
    Calls Try.prog 14 #[.int .u8 2, .int .i64 n] w fun e w' => e = .returned (.int .u8 (K.rc (n.toNat + 1))) ∧ Below w.heap.size w w' := by
  obtain ⟨n, rfl⟩ := Int.eq_ofNat_of_zero_le h0
  rw [Int.toNat_natCast]
  have hn : n ≤ 9 := by omega
  have B0 := hid (Below.refl w.heap.size w)
  clear h0 h1
  go_enter Try.func14, Try.ntmps14
  go_wp2_with fail
  go_loopw [5, 6] (fun x i wr => ∃ k r : Nat, i = .int .i64 k ∧ x = .int .u8 r ∧ r < 256 ∧ k ≤ n ∧ Hid (r = K.rc (k + 1)) ∧ Hid (Below w.heap.size w wr)) (fun _ i _ => n - (intOf i).toNat)
  case atStart => exact ⟨0, 1, rfl, rfl, by omega, by omega, rfl, B0⟩
  case round =>
    obtain ⟨k, r, rfl, rfl, hr, hk, HR, HB⟩ := hrel
    by_cases hl : k < n
    · have HM : Hid (K.mul r 2 = K.rc (k + 1 + 1)) := by rw [HR.out]; exact mul2_rc k (by omega)
      have hml := K.mul_lt r 2
      clear HR
      go_wp2_with fail
      refine (rmul_any _ _ _ (by omega) (by omega) (by omega) (by omega)).mono ?_
      rintro e w1 ⟨rfl, hb1⟩
      have HB1 := hid (HB.out.trans (hb1.mono HB.out.size))
      clear hb1
      simp only [Int.toNat_natCast, show (2 : Int).toNat = 2 from rfl]
      generalize K.mul r 2 = m at HM hml
      go_wp2_with fail
      exact ⟨⟨k + 1, m, by go_num, rfl, by omega, by omega, HM, HB1⟩, by simp [intOf]; omega⟩
    · obtain rfl : k = n := by omega
      go_wp2_with fail
      go_ret
      exact ⟨ret_int (by rw [HR.out]), HB.out⟩
end Go.Proofs.Ytilbeboejohknaa
