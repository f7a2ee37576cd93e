/- awake: the fixed examples hold. -/
import Derived.Test.YtilbeboejohknaaRexp
namespace Go.Proofs.Ytilbeboejohknaa
open Go.RowKit

/-- An operation whose guard lets it run. -/
theorem wpList_wanted {P : Program} {ops : Array Oper} {rest : List Oper} {o : Oper} {a : Act} {w : World} {Q : Exit → Act → World → Prop} (hw : Region.wanted o (yielded ops a.tmps) = true)
    (h : ∀ K : Act → World → Prop, (∀ a w, wpList P ops Q rest a w → K a w) → o.wp P a w K Q) : wpList P ops Q (o :: rest) a w :=
  wpList_step fun K hK => by rw [if_pos hw]; exact h K hK

theorem wpList_load_row_g {P : Program} {ops : Array Oper} {rest : List Oper} {o : Oper} {a : Act} {w : World} {Q : Exit → Act → World → Prop} (hw : Region.wanted o (yielded ops a.tmps) = true) (ty : TypeId) (x : Operand) (ho : o.op = .load ty x)
    (g : Nat) (hx : a.eval x = .pointer (some ⟨g, 0, none⟩)) (t : TypeId) (cs : Array Value) (d : TypeDesc) (hg : Has w g t cs)
    (hu : P.underlying ty = some d) (hd : (match d with | .struct _ | .array _ _ => true | _ => false) = true) (hi : (P.info? ty).map (·.size) = some cs.size)
    (h : wpList P ops Q rest (a.put o.dst (.agg cs)) w) : wpList P ops Q (o :: rest) a w :=
  wpList_wanted hw fun _ hK => wp_load_row ty x ho g hx t cs (0, 0) d hg hu hd hi (hK _ _ h)

theorem wpList_load_part_g {P : Program} {ops : Array Oper} {rest : List Oper} {o : Oper} {a : Act} {w : World} {Q : Exit → Act → World → Prop} (hw : Region.wanted o (yielded ops a.tmps) = true) (ty : TypeId) (x : Operand) (ho : o.op = .load ty x)
    (b p : Nat) (hx : a.eval x = .pointer (some ⟨b, p, none⟩)) (cs : Array Value) (d : TypeDesc) (hc : w.rangeAt b p cs.toList)
    (hu : P.underlying ty = some d) (hd : d.isRow = true) (hi : (P.info? ty).map (·.size) = some cs.size)
    (h : wpList P ops Q rest (a.put o.dst (.agg cs)) w) : wpList P ops Q (o :: rest) a w :=
  wpList_wanted hw fun _ hK => wp_load_mid ty x ho b p hx cs.toList d hc hu hd (by rw [Array.length_toList]; exact hi) (by rw [Array.toArray_toList]; exact hK _ _ h)

theorem wpList_build_g {P : Program} {ops : Array Oper} {rest : List Oper} {o : Oper} {a : Act} {w : World} {Q : Exit → Act → World → Prop} (hw : Region.wanted o (yielded ops a.tmps) = true) (t : TypeId) (parts : Array (Nat × Operand)) (ho : o.op = .build t parts)
    (cells : Array Value) (hf : P.built t (parts.map fun (i, x) => (i, a.eval x)).toList = some cells)
    (h : wpList P ops Q rest (a.put o.dst (.agg cells)) w) : wpList P ops Q (o :: rest) a w :=
  wpList_wanted hw fun _ hK => wp_build t parts ho (by rw [hf]; rfl) (by rw [hf]; exact hK _ _ h)

theorem eq22 (f g : Nat → Nat) (w : World) : (Op.equalIn 10000 22 (.agg (IV .u8 16 f)) (.agg (IV .u8 16 g))).run Try.prog w = .ok (eqN 16 f g) w :=
  run_equalIn_IV w 9998 Try.underlying22 Try.underlying5 size5 f g

theorem eq31 (f g : Nat → Nat) (h : ∀ j, j < 176 → f j = g j) (w : World) : (Op.equalIn 10000 31 (.agg (IV .u8 176 f)) (.agg (IV .u8 176 g))).run Try.prog w = .ok true w :=
  run_equalIn_rows w 9997 (n := 11) (m := 16) Try.underlying31 Try.underlying22 Try.underlying5 size22 size5 f g h

theorem someKey_ext (f g : Nat → Nat) (h : ∀ j, j < 16 → f j = g j) : someKey f = someKey g := by
  unfold someKey; rw [IV_ext _ _ _ _ h]

theorem K.E_zero_1 : K.RW (fun _ => 0) 16 = 98 := by decide +kernel
theorem K.WW_one : K.WW (fun j => if j = 0 then 1 else 0) 0 = 16777216 := by decide +kernel

set_option maxRecDepth 100000 in
set_option maxHeartbeats 2000000 in
theorem awake_any (w : World) :
    Calls Try.prog 8 #[] w fun e w' => e = .returned (.bool true) ∧ Below w.heap.size w w' := by
  have B0 := hid (Below.refl w.heap.size w)
  have z31 := zero31
  go_enter Try.func8, Try.ntmps8
  go_wp2_with (refine wpList_build_some rfl 22 _ rfl (IV .u8 16 fun _ => 0) (by kernel_rfl) ?_)
  refine (expand_any (fun _ => 0) (fun _ => by omega) _).mono ?_
  rintro e w1 ⟨rfl, hb1⟩
  have B1 := hid hb1
  clear hb1
  have T1 := hid (Has.new w1 31 (IV .u8 176 fun _ => 0))
  have P1 := hid (T1.out.setRow (IV .u8 176 (K.RW fun _ => 0)))
  have PB := hid (Below.setRow (B1.out.alloc B1.out.size (.cells (IV .u8 176 fun _ => 0) 31)) (g' := w1.heap.size) B1.out.size (IV .u8 176 (K.RW fun _ => 0)))
  have HB : Hid (w.heap.size ≤ w1.heap.size) := B1.out.size
  have HR := P1.out.range (10 * 16) 16 (by omega)
  rw [IV_ext _ _ _ (K.E (fun _ => 0) 10) (fun j hj => K.RW_row _ 10 j hj)] at HR
  have HR1 := hid HR
  clear HR
  go_wp2_with (first | (refine wpList_store_row rfl 31 _ _ rfl w1.heap.size (IV .u8 176 (K.RW fun _ => 0)) rfl rfl 31 _ T1.out (by rw [size_IV]; exact size31) (by simp only [size_IV]) (oneCell_IV _ _ _) ?_) | (refine wpList_load_part rfl 22 _ rfl w1.heap.size (10 * 16) rfl (IV .u8 16 (K.E (fun _ => 0) 10)) _ HR1.out Try.underlying22 rfl (by rw [size_IV]; exact size22) ?_))
  clear T1 z31 B1 HR1 B0
  generalize (w1.alloc (.cells (IV .u8 176 fun _ => 0) 31)).setRow w1.heap.size (IV .u8 176 (K.RW fun _ => 0)) = W2 at *
  generalize w1.heap.size = gl at *
  refine (restore_in (K.E (fun _ => 0) 10) (K.E_lt _ (fun _ => by omega) 10) _ _ (by omega) (by omega)).mono ?_
  rintro e w2 ⟨rfl, hb2⟩
  rw [show (10 : Int).toNat = 10 from rfl, someKey_ext _ _ (K.R_E (fun _ => 0) 10)]
  unfold someKey
  have Q1 := hid (P1.out.below hb2 P1.out.lt)
  have QB := hid (PB.out.trans (hb2.mono PB.out.size))
  clear P1 PB hb2
  have HG : Hid (gl < w2.heap.size) := Q1.out.lt
  have T2 := hid (Has.new w2 22 (IV .u8 16 fun _ => 0))
  have R2 := hid (T2.out.setRow (IV .u8 16 fun _ => 0))
  have R1 := hid ((Q1.out.alloc (.cells (IV .u8 16 fun _ => 0) 22)).setRowOther w2.heap.size (IV .u8 16 fun _ => 0) (by have := HG.out; omega))
  have RB := hid (Below.setRow (QB.out.alloc QB.out.size (.cells (IV .u8 16 fun _ => 0) 22)) (g' := w2.heap.size) QB.out.size (IV .u8 16 fun _ => 0))
  have HR := R1.out.range (10 * 16) 16 (by omega)
  rw [IV_ext _ _ _ (K.E (fun _ => 0) 10) (fun j hj => K.RW_row _ 10 j hj)] at HR
  have HR1 := hid HR
  clear HR
  go_wp2_with (first | (refine wpList_alloc_of rfl 22 rfl _ zero22 w2.heap.size rfl ?_) | (refine wpList_store_row rfl 22 _ _ rfl w2.heap.size (IV .u8 16 fun _ => 0) rfl rfl 22 _ T2.out (by rw [size_IV]; exact size22) (by simp only [size_IV]) (oneCell_IV _ _ _) ?_) | (refine wpList_load_part rfl 22 _ rfl gl (10 * 16) rfl (IV .u8 16 (K.E (fun _ => 0) 10)) _ HR1.out Try.underlying22 rfl (by rw [size_IV]; exact size22) ?_))
  clear T2 HR1
  generalize (w2.alloc (.cells (IV .u8 16 fun _ => 0) 22)).setRow w2.heap.size (IV .u8 16 fun _ => 0) = W3 at *
  generalize w2.heap.size = gk at *
  refine (next_out _ _ _ (by omega)).mono ?_
  rintro e w3 ⟨rfl, hb3⟩
  unfold noKey
  have S1 := hid (R1.out.below hb3 R1.out.lt)
  have S2 := hid (R2.out.below hb3 R2.out.lt)
  have SB := hid (RB.out.trans (hb3.mono RB.out.size))
  clear R1 R2 RB hb3 Q1 QB
  have HG2 : Hid (gk < w3.heap.size) := S2.out.lt
  have HG1 : Hid (gl < w3.heap.size) := S1.out.lt
  have T3 := hid (Has.new w3 22 (IV .u8 16 fun _ => 0))
  have V2 := hid ((S2.out.alloc (.cells (IV .u8 16 fun _ => 0) 22)).setRowOther w3.heap.size (IV .u8 16 fun _ => 0) (by have := HG2.out; omega))
  have V1 := hid ((S1.out.alloc (.cells (IV .u8 16 fun _ => 0) 22)).setRowOther w3.heap.size (IV .u8 16 fun _ => 0) (by have := HG1.out; omega))
  have VB := hid (Below.setRow (SB.out.alloc SB.out.size (.cells (IV .u8 16 fun _ => 0) 22)) (g' := w3.heap.size) SB.out.size (IV .u8 16 fun _ => 0))
  have hc := V1.out.cellIV (j := 16) (by omega)
  rw [K.E_zero_1] at hc
  go_wp2_with (first | (refine wpList_alloc_of rfl 22 rfl _ zero22 w3.heap.size rfl ?_) | (refine wpList_store_row rfl 22 _ _ rfl w3.heap.size (IV .u8 16 fun _ => 0) rfl rfl 22 _ T3.out (by rw [size_IV]; exact size22) (by simp only [size_IV]) (oneCell_IV _ _ _) ?_))
  generalize (w3.alloc (.cells (IV .u8 16 fun _ => 0) 22)).setRow w3.heap.size (IV .u8 16 fun _ => 0) = W4 at *
  clear T3 S1 S2 SB
  refine (const_in _ _ (by omega) (by omega)).mono ?_
  rintro e w4 ⟨rfl, rfl⟩
  rw [show K.rc (Int.toNat 9) = 27 from rfl]
  go_wp2_with fail
  refine (const_out _ _ (by omega)).mono ?_
  rintro e w4 ⟨rfl, rfl⟩
  have hE : ∀ w, (Op.equalIn 10000 22 (.agg (IV .u8 16 fun _ => 0)) (.agg (IV .u8 16 fun _ => 0))).run Try.prog w = .ok true w := fun w => by
    rw [eq22, eqN_true (fun _ _ => rfl)]
  have hI : ∀ w1, (Instr.index 25 (.agg (IV .u32 44 (K.WW fun j => if j = 0 then 1 else 0))) (.int .i64 0)).run Try.prog w1 = .ok (.int .u32 16777216) w1 := fun w1 => by
    have h := run_index_IV (P := Try.prog) w1 (t := 25) (kk := .i64) (k := .u32) Try.underlying25 Try.underlying24 size24 (K.WW fun j => if j = 0 then 1 else 0) 0 (by omega)
    rw [K.WW_one] at h
    exact h
  go_wp2_with (first | (refine wpList_load_row_g rfl 22 _ rfl gk rfl 22 _ _ V2.out Try.underlying22 rfl (by rw [size_IV]; exact size22) ?_) | (refine wpList_build_g rfl 22 #[] rfl (IV .u8 16 fun _ => 0) (by kernel_rfl) ?_) | (refine wpList_build_g rfl 22 #[(0, .const (.int .u8 1))] rfl (IV .u8 16 fun j => if j = 0 then 1 else 0) (by kernel_rfl) ?_) | (go_at_call 9; refine (words_any (fun j => if j = 0 then 1 else 0) (fun j => by show (if j = 0 then 1 else 0) < 256; split <;> omega) _).mono ?_; rintro e w5 ⟨rfl, hb5⟩))
  go_ret
  exact ⟨rfl, VB.out.trans (hb5.mono VB.out.size)⟩
end Go.Proofs.Ytilbeboejohknaa
