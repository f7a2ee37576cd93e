/- A [16]byte that came in, opened: 16 numbers below 256. -/
import Derived.Test.YtilbeboejohknaaAwake
import Derived.Test.YtilbeboejohknaaRows
import Derived.ProofKit
import Derived.OpenShut
import Derived.ChangeOld
namespace Go.Proofs.Ytilbeboejohknaa
open Go.ChangeShapes Go.WideShapes Go.ChangeAt Go.RowKit

theorem Try.own : ownKnob Try.prog.godebug = none := by kernel_rfl
theorem Try.laidOut : laidOutB Try.prog = true := by kernel_rfl
theorem cells5 : Try.prog.cellsOf 5 = 1 := by kernel_rfl
theorem cells22 : Try.prog.cellsOf 22 = 16 := by kernel_rfl

/-- The number in a cell. -/
def numOf : Option Value → Nat
  | some (.int _ n) => n.toNat
  | _ => 0

theorem open_row {H : Type} {enc : TypeId × Value → H} {W : World} {base : Nat} {v : Value} {d : DataW H} {p : List MemPlace}
    (hval : Value.okWide Try.prog W .any base 22 v) (h : DataW.Trod enc Try.prog W 0 (fun _ => true) true 22 v d p) :
    ∃ f : Nat → Nat, (∀ j, f j < 256) ∧ v = .agg (IV .u8 16 f) := by
  simp only [Value.okWide, Try.underlying22] at hval
  obtain ⟨cs, rfl, hsz, _⟩ := hval
  rw [cells22] at hsz
  obtain ⟨fuel, hf⟩ := h
  obtain ⟨xs, m, _, _, _, hlen, hel⟩ := Go.DataW.trod_array Try.underlying22 hf
  have key : ∀ i, i < 16 → ∃ n : Int, cs[i]? = some (.int .u8 n) ∧ 0 ≤ n ∧ n ≤ 255 := by
    intro i hi
    have h1 := hel i hi
    rw [cells5, Nat.mul_one] at h1
    obtain ⟨x, hx⟩ : ∃ x, xs[i]? = some x := ⟨xs[i], List.getElem?_eq_getElem (by omega)⟩
    rw [hx] at h1
    obtain ⟨n, hn, _, hw⟩ := DataW.trod_int Try.underlying5 h1
    refine ⟨n, ?_, bounds_u8 hw⟩
    have h2 := congrArg (fun l => l[0]?) hn
    simpa [Value.cells] using h2
  refine ⟨fun j => if j < 16 then numOf cs[j]? else 0, fun j => ?_, ?_⟩
  · show (if j < 16 then numOf cs[j]? else 0) < 256
    split
    · rename_i hj
      obtain ⟨n, hn, h0, h1⟩ := key j hj
      rw [hn]
      show n.toNat < 256
      omega
    · omega
  · congr 1
    apply Array.ext_getElem?
    intro i
    by_cases hi : i < 16
    · obtain ⟨n, hn, h0, h1⟩ := key i hi
      rw [get_IV _ _ _ _ hi]
      simp only [hn, if_pos hi, numOf]
      rw [Int.toNat_of_nonneg h0]
    · rw [Array.getElem?_eq_none (by omega), Array.getElem?_eq_none (by rw [size_IV]; omega)]
end Go.Proofs.Ytilbeboejohknaa
