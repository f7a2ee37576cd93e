/- Steps of a region that draws its order and holds one call: an operation that yields its value is taken first; a whole array's load; the index and the comparison of arrays. No program in sight but for one fact of a type. -/
import Derived.Test.YtilbeboejohknaaAwake
import Derived.Test.YtilbeboejohknaaStill
import Derived.Deep.RegionHeld3
namespace Go.Proofs.Ytilbeboejohknaa
section
variable {P : Program} {ops : Array Oper} {Q : Exit → Act → World → Prop} {md : Region.Mode} {S : World → Prop}
theorem takeH {i : Nat} {oi : Oper} {d : Option Nat} {v : Value} {fuel : Nat} {listed : Array Bool} {a : Act} {w : World} (hi : ops[i]? = some oi) (hd : oi.dst = d)
    (hs : Region.noSelect ops = true) (hf : Region.free md ops listed i = true) (hr : (Region.ready md ops listed).contains i = true)
    (hw : Region.wanted oi (yielded ops a.tmps) = true) (hv : ∀ w, S w → (execOp a.eval oi).run P w = .ok (.value v) w) (hS : S w)
    (h : wpAnyH P md ops (NoPanic Q) S fuel (listed.setIfInBounds i true) (a.put d v) w) : wpAnyH P md ops (NoPanic Q) S (fuel + 1) listed a w :=
  wpAnyH_take hi hs hf hr (fun _ _ _ h => h) (.inl ⟨hw, hv⟩) hS (by rw [hd]; exact h)

theorem takeL {i : Nat} {oi : Oper} {d : Option Nat} {fuel : Nat} {listed : Array Bool} {a : Act} {w : World} (hi : ops[i]? = some oi) (hd : oi.dst = d)
    (hs : Region.noSelect ops = true) (hf : Region.free md ops listed i = true) (hr : (Region.ready md ops listed).contains i = true)
    (hw : Region.wanted oi (yielded ops a.tmps) = true) (ty : TypeId) (x : Operand) (ho : oi.op = .load ty x)
    (b o : Nat) (hx : a.eval x = .pointer (some ⟨b, o, none⟩)) (cs : List Value) {de : TypeDesc} (hc : ∀ w, S w → w.rangeAt b o cs)
    (hu : P.underlying ty = some de) (hdr : de.isRow = true) (hi2 : (P.info? ty).map (·.size) = some cs.length) (hS : S w)
    (h : wpAnyH P md ops (NoPanic Q) S fuel (listed.setIfInBounds i true) (a.put d (.agg cs.toArray)) w) : wpAnyH P md ops (NoPanic Q) S (fuel + 1) listed a w :=
  wpAnyH_take hi hs hf hr (fun _ _ _ h => h) (yieldsIf_load_mid hw ty x ho b o hx cs de hc hu hdr hi2) hS (by rw [hd]; exact h)

theorem run_index_op {oi : Oper} {a : Act} {w : World} {t : TypeId} {x y : Operand} {X Y v : Value} (ho : oi.op = .index t x y) (hx : a.eval x = X) (hy : a.eval y = Y)
    (hI : (Instr.index t X Y).run P w = .ok v w) : (execOp a.eval oi).run P w = .ok (.value v) w := by
  unfold execOp
  simp only [ho, hx, hy, Sem.run_bind, hI, Result.andThen_ok]
  rfl

theorem run_eql_op {oi : Oper} {a : Act} {w : World} {t t' : TypeId} {x y : Operand} {X Y : Array Value} {b : Bool} (ho : oi.op = .binOp .eql t x y t') (hx : a.eval x = .agg X) (hy : a.eval y = .agg Y)
    (hg : (eqGuard .eql t x y (.agg X) (.agg Y)).run P w = .ok () w)
    (hE : (Op.equalIn 10000 t (.agg X) (.agg Y)).run P w = .ok b w) : (execOp a.eval oi).run P w = .ok (.value (.bool b)) w := by
  unfold execOp
  have h : (binOp .eql t (.agg X) (.agg Y)).run P w = .ok (.bool b) w := by rw [run_eql_struct, hE]; rfl
  simp only [ho, hx, hy, Sem.run_bind, hg, h, Result.andThen_ok]
  rfl
end

theorem eqg22 (x y : Operand) (X Y : Array Value) (w : World) : (eqGuard .eql 22 x y (.agg X) (.agg Y)).run Try.prog w = .ok () w := by
  rfl
end Go.Proofs.Ytilbeboejohknaa
