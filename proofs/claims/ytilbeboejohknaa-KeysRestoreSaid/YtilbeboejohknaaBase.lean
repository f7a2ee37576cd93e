/- Small laws on blocks of whole numbers: a block that is known whole ('Has'), a row of numbers given by a function ('IV'), and what a store, a draw, a new block and a callee do to it. No program in sight. -/
import Derived.WalkKit
import Derived.WalkSpells
import Derived.WalkLawsBesides
import Derived.Deep.MidRow
import Derived.Deep.WholeRow
namespace Go.Proofs.Ytilbeboejohknaa
open Go.RowKit

theorem hid {p : Prop} (h : p) : Hid p := h

/-- A row of n numbers of kind k, the j-th is f j. -/
def IV (k : IntKind) (n : Nat) (f : Nat → Nat) : Array Value := ((List.range n).map fun j => Value.int k (f j : Int)).toArray

/-- f, turned at i. -/
def upd (f : Nat → Nat) (i v : Nat) : Nat → Nat := fun j => if j = i then v else f j

theorem upd_same (f : Nat → Nat) (i v : Nat) : upd f i v i = v := by simp [upd]
theorem upd_other (f : Nat → Nat) (i v j : Nat) (h : j ≠ i) : upd f i v j = f j := by simp [upd, h]

theorem size_IV (k : IntKind) (n : Nat) (f : Nat → Nat) : (IV k n f).size = n := by simp [IV]

theorem get_IV (k : IntKind) (n : Nat) (f : Nat → Nat) (j : Nat) (h : j < n) : (IV k n f)[j]? = some (.int k (f j)) := by
  simp [IV, h]

theorem IV_ext (k : IntKind) (n : Nat) (f g : Nat → Nat) (h : ∀ j, j < n → f j = g j) : IV k n f = IV k n g := by
  apply Array.ext
  · simp [IV]
  · intro i h1 h2
    simp only [IV, List.getElem_toArray, List.getElem_map, List.getElem_range]
    rw [h i (by simpa [IV] using h1)]

theorem set_IV (k : IntKind) (n : Nat) (f : Nat → Nat) (i v : Nat) : (IV k n f).setIfInBounds i (.int k v) = IV k n (upd f i v) := by
  apply Array.ext
  · simp [IV]
  · intro j h1 h2
    rw [Array.getElem_setIfInBounds (by simpa [IV] using h1)]
    simp only [IV, List.getElem_toArray, List.getElem_map, List.getElem_range, upd]
    by_cases h : i = j
    · subst h; simp
    · have h' : ¬ j = i := fun e => h e.symm
      simp [h, h']

theorem oneCell_IV (k : IntKind) (n : Nat) (f : Nat → Nat) : (IV k n f).all (·.oneCell') = true := by
  rw [Array.all_eq_true_iff_forall_mem]
  intro v hv
  simp only [IV, List.mem_toArray, List.mem_map] at hv
  obtain ⟨i, _, rfl⟩ := hv
  rfl

theorem extract_IV (k : IntKind) (n : Nat) (f : Nat → Nat) (o m : Nat) (h : o + m ≤ n) : (IV k n f).extract o (o + m) = IV k m (fun j => f (o + j)) := by
  apply Array.ext
  · simp [IV]; omega
  · intro j h1 h2
    simp [IV]

theorem IV4 (k : IntKind) (f : Nat → Nat) : IV k 4 f = #[.int k (f 0), .int k (f 1), .int k (f 2), .int k (f 3)] := by
  apply Array.ext
  · simp [IV]
  · intro j h1 h2
    have : j < 4 := by simpa [IV] using h1
    have hj : j = 0 ∨ j = 1 ∨ j = 2 ∨ j = 3 := by omega
    rcases hj with rfl | rfl | rfl | rfl <;> simp [IV]

/-- Block g holds just these cells, and none of them is frozen. -/
def Has (w : World) (g : Nat) (t : TypeId) (cs : Array Value) : Prop := w.heap[g]? = some (.cells cs t (0, 0))

section
variable {w : World} {g : Nat} {t : TypeId} {cs : Array Value}

theorem Has.lt (h : Has w g t cs) : g < w.heap.size := by
  rcases Nat.lt_or_ge g w.heap.size with h' | h'
  · exact h'
  · unfold Has at h; simp [Array.getElem?_eq_none h'] at h

theorem Has.cell (h : Has w g t cs) {j : Nat} {v : Value} (hv : cs[j]? = some v) : w.cell? ⟨g, j, none⟩ = some v := by
  rw [cell_of_row w g j cs t (0, 0) h]; exact hv

theorem Has.frozen (h : Has w g t cs) (j : Nat) : w.frozen? ⟨g, j, none⟩ = false := frozen_of_row w g j cs t h

theorem Has.new (w : World) (t : TypeId) (cs : Array Value) : Has (w.alloc (.cells cs t)) w.heap.size t cs := heap_alloc_last w _

theorem Has.alloc (h : Has w g t cs) (o : Obj) : Has (w.alloc o) g t cs := by
  unfold Has; rw [Below.heap_alloc w o g h.lt]; exact h

theorem Has.drew (h : Has w g t cs) : Has w.drew g t cs := h

theorem Has.drewN (h : Has w g t cs) (n : Nat) : Has (w.drewN n) g t cs := h

theorem Has.set (h : Has w g t cs) (i : Nat) (v : Value) : Has (w.setCell ⟨g, i, none⟩ v) g t (cs.setIfInBounds i v) := heap_setCell_same w g i cs t v h

theorem Has.setOther (h : Has w g t cs) (a : Addr) (v : Value) (hne : g ≠ a.block) : Has (w.setCell a v) g t cs := by
  unfold Has; rw [heap_setCell_other w a g v hne]; exact h

theorem Has.setO (h : Has w g t cs) (b o : Nat) (v : Value) (hne : g ≠ b) : Has (w.setCell ⟨b, o, none⟩ v) g t cs := h.setOther _ v hne

theorem Has.setRow (h : Has w g t cs) (cs' : Array Value) : Has (w.setRow g cs') g t cs' := setRow_heap w g cs cs' t _ h

theorem Has.setRowOther (h : Has w g t cs) (g' : Nat) (cs' : Array Value) (hne : g ≠ g') : Has (w.setRow g' cs') g t cs := by
  unfold Has; rw [setRow_other w g' g cs' hne]; exact h

theorem Has.below {B : Nat} {w' : World} (h : Has w g t cs) (hb : Below B w w') (hg : g < B) : Has w' g t cs := by
  unfold Has; rw [hb.block g hg]; exact h

theorem Has.cellIV {k : IntKind} {n : Nat} {f : Nat → Nat} (h : Has w g t (IV k n f)) {j : Nat} (hj : j < n) : w.cell? ⟨g, j, none⟩ = some (.int k (f j)) := h.cell (get_IV k n f j hj)

theorem Has.setIV {k : IntKind} {n : Nat} {f : Nat → Nat} (h : Has w g t (IV k n f)) (i v : Nat) : Has (w.setCell ⟨g, i, none⟩ (.int k v)) g t (IV k n (upd f i v)) := by
  have := h.set i (.int k v); rwa [set_IV] at this

theorem Has.ext {k : IntKind} {n : Nat} {f f' : Nat → Nat} (h : Has w g t (IV k n f)) (e : ∀ j, j < n → f j = f' j) : Has w g t (IV k n f') := by
  rw [← IV_ext k n f f' e]; exact h

/-- Part of a row, stored anew. -/
def updRow (f : Nat → Nat) (o m : Nat) (g : Nat → Nat) : Nat → Nat := fun j => if o ≤ j ∧ j < o + m then g (j - o) else f j

theorem Has.setCells (vs : List Value) : ∀ (o : Nat) (w : World) (cs : Array Value), Has w g t cs → ∃ cs', Has (w.setCells g o vs) g t cs' ∧ cs'.size = cs.size ∧ ∀ j, cs'[j]? = if o ≤ j ∧ j < o + vs.length ∧ j < cs.size then vs[j - o]? else cs[j]? := by
  induction vs with
  | nil => intro o w cs h; exact ⟨cs, h, rfl, fun j => by rw [if_neg (by simp; omega)]⟩
  | cons v r ih =>
    intro o w cs h
    obtain ⟨cs', h1, h2, h3⟩ := ih (o + 1) _ _ (h.set o v)
    refine ⟨cs', h1, by simpa using h2, fun j => ?_⟩
    rw [h3 j]
    simp only [List.length_cons, Array.size_setIfInBounds, Array.getElem?_setIfInBounds]
    by_cases hj : j < cs.size
    · by_cases e : o = j
      · subst e; rw [if_neg (by omega), if_pos rfl, if_pos hj, if_pos ⟨by omega, by omega, hj⟩]; simp
      · by_cases hr : o + 1 ≤ j ∧ j < o + 1 + r.length
        · rw [if_pos ⟨hr.1, hr.2, hj⟩, if_pos ⟨by omega, by omega, hj⟩]
          obtain ⟨d, hd⟩ : ∃ d, j - o = d + 1 := ⟨j - o - 1, by omega⟩
          rw [hd, show j - (o + 1) = d from by omega]; simp
        · rw [if_neg (by omega), if_neg e, if_neg (by omega)]
    · rw [if_neg (by omega)]
      by_cases e : o = j
      · subst e; simp [hj]
      · rw [if_neg e, if_neg (by omega)]

theorem Has.setCellsIV {k : IntKind} {n : Nat} {f : Nat → Nat} (h : Has w g t (IV k n f)) (o m : Nat) (r : Nat → Nat) :
    Has (w.setCells g o (IV k m r).toList) g t (IV k n (updRow f o m r)) := by
  obtain ⟨cs', h1, h2, h3⟩ := Has.setCells (IV k m r).toList o w _ h
  have : cs' = IV k n (updRow f o m r) := by
    apply Array.ext_getElem?
    intro j
    rw [h3 j]
    simp only [Array.length_toList, size_IV, Array.getElem?_toList]
    by_cases hj : j < n
    · rw [get_IV k n (updRow f o m r) j hj]
      by_cases hr : o ≤ j ∧ j < o + m
      · rw [if_pos ⟨hr.1, hr.2, hj⟩, get_IV k m r (j - o) (by omega)]; simp [updRow, hr]
      · rw [if_neg (by omega), get_IV k n f j hj]; simp [updRow, hr]
    · rw [if_neg (by omega)]
      rw [Array.getElem?_eq_none (by rw [size_IV]; omega), Array.getElem?_eq_none (by rw [size_IV]; omega)]
  rw [← this]; exact h1

theorem Has.setCellsOther (vs : List Value) : ∀ (o : Nat) (w : World) (g' : Nat), Has w g t cs → g ≠ g' → Has (w.setCells g' o vs) g t cs := by
  induction vs with
  | nil => intro o w g' h _; exact h
  | cons v r ih => intro o w g' h hne; exact ih (o + 1) _ g' (h.setOther _ v hne) hne

theorem Below.setC {B : Nat} {a w : World} (h : Below B a w) (b o : Nat) (v : Value) (hB : B ≤ b) : Below B a (w.setCell ⟨b, o, none⟩ v) := h.setCell hB v

theorem Below.setCells {B : Nat} {a : World} {g' : Nat} (hB : B ≤ g') (vs : List Value) : ∀ (o : Nat) (w : World), Below B a w → Below B a (w.setCells g' o vs) := by
  induction vs with
  | nil => intro o w h; exact h
  | cons v r ih => intro o w h; exact ih (o + 1) _ (h.setCell hB v)

theorem Below.setRow {B : Nat} {a w : World} (h : Below B a w) {g' : Nat} (hB : B ≤ g') (cs' : Array Value) : Below B a (w.setRow g' cs') :=
  h.trans ⟨rfl, rfl, rfl, by simp, fun k hk => setRow_other w g' k cs' (by omega)⟩

theorem Below.drewN {B : Nat} {a w : World} (h : Below B a w) (n : Nat) : Below B a (w.drewN n) := ⟨h.os, h.tape, h.output, h.size, h.block⟩

theorem size_setCells (g' : Nat) (vs : List Value) : ∀ (o : Nat) (w : World), (w.setCells g' o vs).heap.size = w.heap.size := by
  induction vs with
  | nil => intro o w; rfl
  | cons v r ih => intro o w; rw [World.setCells, ih]; simp

theorem Has.range {k : IntKind} {n : Nat} {f : Nat → Nat} (h : Has w g t (IV k n f)) (o m : Nat) (hm : o + m ≤ n) : w.rangeAt g o (IV k m (fun j => f (o + j))).toList := by
  have := World.rangeAt_of_block h o m
  rwa [extract_IV k n f o m hm] at this

theorem Has.there (h : Has w g t cs) (o m : Nat) (hm : o + m ≤ cs.size) : w.there g o m := fun j hj => by
  have hj' : o + j < cs.size := by omega
  exact ⟨by rw [h.cell (Array.getElem?_eq_getElem hj')]; rfl, h.frozen _⟩
end

/-- An array's literal whose cells are known. -/
theorem wpList_build_some {P : Program} {ops : Array Oper} {rest : List Oper} {o : Oper} {a : Act} {w : World} {Q : Exit → Act → World → Prop} (hg : o.guard = none) (t : TypeId) (parts : Array (Nat × Operand)) (ho : o.op = .build t parts)
    (cells : Array Value) (hf : P.built t (parts.map fun (i, x) => (i, a.eval x)).toList = some cells)
    (h : wpList P ops Q rest (a.put o.dst (.agg cells)) w) : wpList P ops Q (o :: rest) a w :=
  wpList_build hg t parts ho (by rw [hf]; rfl) (by rw [hf]; exact h)

theorem wpList_build_of {P : Program} {ops : Array Oper} {rest : List Oper} {o : Oper} {a : Act} {w : World} {Q : Exit → Act → World → Prop} (hg : o.guard = none) (t : TypeId) (parts : Array (Nat × Operand)) (ho : o.op = .build t parts)
    (ps : List (Nat × Value)) (hp : (parts.map fun (i, x) => (i, a.eval x)).toList = ps) (cells : Array Value) (hf : P.built t ps = some cells)
    (h : wpList P ops Q rest (a.put o.dst (.agg cells)) w) : wpList P ops Q (o :: rest) a w :=
  wpList_build_some hg t parts ho cells (by rw [hp]; exact hf) h

/-- A row out of the middle of a block. -/
theorem wpList_load_part {P : Program} {ops : Array Oper} {rest : List Oper} {op : Oper} {a : Act} {w : World} {Q : Exit → Act → World → Prop} (hgd : op.guard = none) (ty : TypeId) (x : Operand) (ho : op.op = .load ty x)
    (b o : Nat) (hx : a.eval x = .pointer (some ⟨b, o, none⟩)) (cs : Array Value) (d : TypeDesc) (hc : w.rangeAt b o cs.toList)
    (hu : P.underlying ty = some d) (hd : d.isRow = true) (hi : (P.info? ty).map (·.size) = some cs.size)
    (h : wpList P ops Q rest (a.put op.dst (.agg cs)) w) : wpList P ops Q (op :: rest) a w :=
  wpList_load_mid hgd ty x ho b o hx cs.toList d hc hu hd (by rw [Array.length_toList]; exact hi) (by rw [Array.toArray_toList]; exact h)

/-- A new variable of an array's type, its cells in the form that is wanted. -/
theorem wpList_alloc_of {P : Program} {ops : Array Oper} {rest : List Oper} {o : Oper} {a : Act} {w : World} {Q : Exit → Act → World → Prop} (hg : o.guard = none) (t : TypeId) (ho : o.op = .alloc t)
    (cs : Array Value) (hz : ∀ w, (zeroValue t).run P w = .ok (.agg cs) w) (n : Nat) (hn : n = w.heap.size)
    (h : wpList P ops Q rest (a.put o.dst (.pointer (some ⟨n, 0, none⟩))) (w.alloc (.cells cs t))) : wpList P ops Q (o :: rest) a w :=
  wpList_plain hg fun _ hK => by
    subst hn
    have hk := hK _ _ h
    unfold Oper.wp execOp
    simp [ho, Instr.alloc, hz, newVar, newRow, Value.cells, go_sem]
    exact hk

end Go.Proofs.Ytilbeboejohknaa
