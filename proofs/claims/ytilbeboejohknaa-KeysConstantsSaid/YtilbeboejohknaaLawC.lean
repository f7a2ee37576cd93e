/- KeysConstants returns true for every int, and turns nothing that was there. -/
import Derived.Test.YtilbeboejohknaaAwake
namespace Go.Proofs.Ytilbeboejohknaa
open Go.RowKit

set_option maxRecDepth 100000 in
set_option maxHeartbeats 1000000 in
theorem constants_walk (i : Int) (w : World) (hlo : -9223372036854775808 ≤ i) (hhi : i ≤ 9223372036854775807) :
    Calls Try.prog 4 #[.int .i64 i] w fun e w' => e = .returned (.bool true) ∧ Below w.heap.size w w' := by
  by_cases h : i < 1 ∨ 10 < i
  · rcases h with h | h
    · go_enter Try.func4, Try.ntmps4
      go_wp2_with fail
      refine (awake_any _).mono ?_
      rintro e w1 ⟨rfl, hb1⟩
      go_wp2_with fail
      refine (const_out _ _ (by omega)).mono ?_
      rintro e w2 ⟨rfl, rfl⟩
      go_wp2_with fail
      go_ret
      exact ⟨rfl, hb1⟩
    · have h' : ¬ i < 1 := by omega
      go_enter Try.func4, Try.ntmps4
      go_wp2_with fail
      refine (awake_any _).mono ?_
      rintro e w1 ⟨rfl, hb1⟩
      go_wp2_with fail
      refine (const_out _ _ (by omega)).mono ?_
      rintro e w2 ⟨rfl, rfl⟩
      go_wp2_with fail
      go_ret
      exact ⟨rfl, hb1⟩
  · have h1 : ¬ i < 1 := by omega
    have h2 : ¬ 10 < i := by omega
    clear h
    go_enter Try.func4, Try.ntmps4
    go_wp2_with fail
    refine (awake_any _).mono ?_
    rintro e w1 ⟨rfl, hb1⟩
    go_wp2_with fail
    refine (const_in _ _ (by omega) (by omega)).mono ?_
    rintro e w2 ⟨rfl, rfl⟩
    go_wp2_with fail
    refine (rpow_any _ _ (by omega) (by omega)).mono ?_
    rintro e w3 ⟨rfl, hb3⟩
    rw [show (i - 1).toNat + 1 = i.toNat from by omega]
    generalize K.rc i.toNat = r
    go_wp2_with fail
    go_ret
    exact ⟨by simp, hb1.trans (hb3.mono hb1.size)⟩
end Go.Proofs.Ytilbeboejohknaa
