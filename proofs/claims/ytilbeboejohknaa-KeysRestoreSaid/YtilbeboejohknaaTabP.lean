/- The powers of 3 and their logarithms; the S-box at a power of 3 is the affine image of the inverse. Closed facts. -/
import Derived.Test.YtilbeboejohknaaAff
import Derived.Test.YtilbeboejohknaaMulP
namespace Go.Proofs.Ytilbeboejohknaa
namespace K
theorem pw_lt (i : Nat) : pw i < 256 := getD_lt pwT 256 (by decide +kernel) (by omega) i
theorem pw_zero : pw 0 = 1 := rfl
theorem pw_succ_all : ∀ i : Fin 256, gmul (pw i.val) 3 = pw (i.val + 1) := by decide +kernel
theorem pw_succ (i : Nat) (h : i < 256) : mul (pw i) 3 = pw (i + 1) := by
  rw [show mul (pw i) 3 = gmul (pw i) 3 from mul3 ⟨pw i, pw_lt i⟩]
  exact pw_succ_all ⟨i, h⟩
theorem S_pw_all : ∀ j : Fin 255, aff (pw (255 - j.val)) = S (pw j.val) := by decide +kernel
theorem S_pw (j : Nat) (h : j < 255) : aff (pw (255 - j)) = S (pw j) := S_pw_all ⟨j, h⟩
theorem S_zero : aff 0 = S 0 := by decide +kernel
theorem pw_lg_all : ∀ x : Fin 256, x.val = 0 ∨ (lg x.val < 255 ∧ pw (lg x.val) = x.val) := by decide +kernel
theorem pw_onto (x : Nat) (h : x < 256) : x = 0 ∨ ∃ i, i < 255 ∧ pw i = x := by
  rcases pw_lg_all ⟨x, h⟩ with h | h
  · exact .inl h
  · exact .inr ⟨lg x, h⟩
end K
end Go.Proofs.Ytilbeboejohknaa
