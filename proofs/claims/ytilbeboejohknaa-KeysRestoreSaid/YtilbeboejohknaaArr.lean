/- Laws on arrays as values: an element, a part, equality of two arrays (of numbers; of rows of numbers). No program in sight. -/
import Derived.Test.YtilbeboejohknaaBase
namespace Go.Proofs.Ytilbeboejohknaa
open Go.RowKit
section
variable {P : Program} (w : World)

theorem run_sizeOf {e : TypeId} {s : Nat} (hs : (P.info? e).map (·.size) = some s) : (sizeOf e).run P w = .ok s w := by
  cases hq : P.info? e with
  | none => simp [hq] at hs
  | some i =>
    have : i.size = s := by simpa [hq] using hs
    simp [sizeOf, typeInfo, hq, this]

theorem run_part_int {e : TypeId} {k : IntKind} (he : P.underlying e = some (.int k)) (cs : Array Value) (off : Nat) (v : Value) (hv : cs[off]? = some v) : (part e cs off).run P w = .ok v w := by
  have hagg : (isAgg e).run P w = .ok false w := by
    unfold isAgg
    rw [Sem.run_bind, run_underlying he w]
    simp
  simp [part, Sem.run_bind, hagg, hv]

theorem run_part_row {e e' : TypeId} {m s : Nat} (he : P.underlying e = some (.array m e')) (hs : (P.info? e).map (·.size) = some s) (cs : Array Value) (off : Nat) : (part e cs off).run P w = .ok (.agg (cs.extract off (off + s))) w := by
  have hagg : (isAgg e).run P w = .ok true w := by
    unfold isAgg
    rw [Sem.run_bind, run_underlying he w]
    simp
  simp [part, Sem.run_bind, hagg, run_sizeOf w hs]

/-- x[j], x an array of numbers. -/
theorem run_index_IV {t e : TypeId} {k ke kk : IntKind} {n : Nat} (ht : P.underlying t = some (.array n e)) (he : P.underlying e = some (.int ke)) (hs : (P.info? e).map (·.size) = some 1) (f : Nat → Nat) (j : Nat) (hj : j < n) :
    (Instr.index t (.agg (IV k n f)) (.int kk (j : Int))).run P w = .ok (.int k (f j)) w := by
  have hp := run_part_int (P := P) w he (IV k n f) j _ (get_IV k n f j hj)
  have hlt : (0 : Int) ≤ (j : Int) ∧ (j : Int) < (n : Int) := by omega
  simp [Instr.index, asIntOf, run_underlying ht, hj, run_sizeOf w hs, hp]

/-- x[j], x an array of arrays of numbers. -/
theorem run_index_rows {t e e' : TypeId} {k kk : IntKind} {n m : Nat} (ht : P.underlying t = some (.array n e)) (he : P.underlying e = some (.array m e')) (hs : (P.info? e).map (·.size) = some m) (f : Nat → Nat) (j : Nat) (hj : j < n) :
    (Instr.index t (.agg (IV k (n * m) f)) (.int kk (j : Int))).run P w = .ok (.agg (IV k m fun i => f (j * m + i))) w := by
  have hp := run_part_row (P := P) w he hs (IV k (n * m) f) (j * m)
  have hle : j * m + m ≤ n * m := by
    have := Nat.mul_le_mul_right m (show j + 1 ≤ n from hj)
    rw [Nat.add_mul, Nat.one_mul] at this; exact this
  rw [extract_IV _ _ _ _ _ hle] at hp
  simp [Instr.index, asIntOf, run_underlying ht, hj, run_sizeOf w hs, hp]

theorem run_equalIn_array (d : Nat) {t e : TypeId} {len s : Nat} (xs ys : Array Value) (ht : P.underlying t = some (.array len e)) (hs : (P.info? e).map (·.size) = some s) (b : Nat → Bool)
    (h : ∀ i, i < len → ∃ x y, (part e xs (i * s)).run P w = .ok x w ∧ (part e ys (i * s)).run P w = .ok y w ∧ (Op.equalIn d e x y).run P w = .ok (b i) w) :
    (Op.equalIn (d + 1) t (.agg xs) (.agg ys)).run P w = .ok ((List.range len).all b) w := by
  simp only [Op.equalIn, Sem.run_bind, run_underlying ht, Result.andThen_ok, run_sizeOf w hs]
  rw [Std.Legacy.Range.forIn_eq_forIn_range']
  simp only [Std.Legacy.Range.size]
  rw [show List.range' 0 ((len - 0 + 1 - 1) / 1) 1 = List.range len from by simp [List.range_eq_range']]
  have hl : ∀ i ∈ List.range len, i < len := fun i hi => List.mem_range.1 hi
  generalize List.range len = l at hl ⊢
  induction l with
  | nil => simp
  | cons i l ih =>
    obtain ⟨x, y, hx, hy, hb⟩ := h i (hl i (by simp))
    have ih := ih (fun j hj => hl j (by simp [hj]))
    simp only [List.forIn_cons, Sem.run_bind, hx, hy, hb, Result.andThen_ok, List.all_cons]
    cases b i with
    | false => simp
    | true =>
      simp only [Bool.not_true, Bool.false_eq_true, if_false, Bool.true_and, Sem.run_pure, Result.andThen_ok]
      exact ih

/-- Two rows of n numbers are one. -/
def eqN (n : Nat) (f g : Nat → Nat) : Bool := (List.range n).all fun j => f j == g j
theorem eqN_true {n : Nat} {f g : Nat → Nat} (h : ∀ j, j < n → f j = g j) : eqN n f g = true := by
  unfold eqN
  rw [List.all_eq_true]
  intro j hj
  rw [h j (List.mem_range.1 hj), beq_self_eq_true]
theorem eqN_iff {n : Nat} {f g : Nat → Nat} : eqN n f g = true ↔ ∀ j, j < n → f j = g j := by
  refine ⟨fun h j hj => ?_, eqN_true⟩
  unfold eqN at h
  rw [List.all_eq_true] at h
  exact beq_iff_eq.1 (h j (List.mem_range.2 hj))

theorem run_equalIn_IV (d : Nat) {t e : TypeId} {k ke : IntKind} {n : Nat} (ht : P.underlying t = some (.array n e)) (he : P.underlying e = some (.int ke)) (hs : (P.info? e).map (·.size) = some 1) (f g : Nat → Nat) :
    (Op.equalIn (d + 2) t (.agg (IV k n f)) (.agg (IV k n g))).run P w = .ok (eqN n f g) w := by
  refine run_equalIn_array w (d + 1) _ _ ht hs (fun j => f j == g j) fun i hi => ⟨.int k (f i), .int k (g i), ?_, ?_, ?_⟩
  · rw [Nat.mul_one]; exact run_part_int w he _ i _ (get_IV k n f i hi)
  · rw [Nat.mul_one]; exact run_part_int w he _ i _ (get_IV k n g i hi)
  · rw [run_equalIn_int w d e k ke _ _ he]
    congr 1
    rw [Bool.eq_iff_iff, beq_iff_eq, beq_iff_eq]
    omega

theorem run_equalIn_rows (d : Nat) {t e e' : TypeId} {k ke : IntKind} {n m : Nat} (ht : P.underlying t = some (.array n e)) (he : P.underlying e = some (.array m e')) (he' : P.underlying e' = some (.int ke)) (hs : (P.info? e).map (·.size) = some m) (hs' : (P.info? e').map (·.size) = some 1)
    (f g : Nat → Nat) (h : ∀ j, j < n * m → f j = g j) :
    (Op.equalIn (d + 3) t (.agg (IV k (n * m) f)) (.agg (IV k (n * m) g))).run P w = .ok true w := by
  have := run_equalIn_array (P := P) w (d + 2) (IV k (n * m) f) (IV k (n * m) g) ht hs (fun _ => true) fun i hi => by
    have hle : i * m + m ≤ n * m := by
      have := Nat.mul_le_mul_right m (show i + 1 ≤ n from hi)
      rw [Nat.add_mul, Nat.one_mul] at this; exact this
    refine ⟨_, _, run_part_row w he hs _ _, run_part_row w he hs _ _, ?_⟩
    rw [extract_IV _ _ _ _ _ hle, extract_IV _ _ _ _ _ hle, run_equalIn_IV w d he he' hs', eqN_true (fun j hj => h _ (by omega))]
  rw [this]
  congr 1
  simp

theorem run_eql_IV {t e : TypeId} {k ke : IntKind} {n : Nat} (ht : P.underlying t = some (.array n e)) (he : P.underlying e = some (.int ke)) (hs : (P.info? e).map (·.size) = some 1) (f g : Nat → Nat) :
    (binOp .eql t (.agg (IV k n f)) (.agg (IV k n g))).run P w = .ok (.bool (eqN n f g)) w := by
  rw [run_eql_struct, run_equalIn_IV w 9998 ht he hs]; rfl

theorem run_neq_IV {t e : TypeId} {k ke : IntKind} {n : Nat} (ht : P.underlying t = some (.array n e)) (he : P.underlying e = some (.int ke)) (hs : (P.info? e).map (·.size) = some 1) (f g : Nat → Nat) :
    (binOp .neq t (.agg (IV k n f)) (.agg (IV k n g))).run P w = .ok (.bool (!eqN n f g)) w := by
  rw [run_neq_struct, run_equalIn_IV w 9998 ht he hs]; rfl

theorem run_eql_rows {t e e' : TypeId} {k ke : IntKind} {n m : Nat} (ht : P.underlying t = some (.array n e)) (he : P.underlying e = some (.array m e')) (he' : P.underlying e' = some (.int ke)) (hs : (P.info? e).map (·.size) = some m) (hs' : (P.info? e').map (·.size) = some 1)
    (f g : Nat → Nat) (h : ∀ j, j < n * m → f j = g j) :
    (binOp .eql t (.agg (IV k (n * m) f)) (.agg (IV k (n * m) g))).run P w = .ok (.bool true) w := by
  rw [run_eql_struct, run_equalIn_rows w 9997 ht he he' hs hs' f g h]; rfl
end
end Go.Proofs.Ytilbeboejohknaa
