/- KeysRestore returns true for every key and every int, and turns nothing that was there. -/
import Derived.Test.YtilbeboejohknaaAwake
import Derived.Test.YtilbeboejohknaaOps
namespace Go.Proofs.Ytilbeboejohknaa
open Go.RowKit

theorem takeP {P : Program} {ops : Array Oper} {Q : Exit → Act → World → Prop} {md : Region.Mode} {S : World → Prop} {i : Nat} {oi : Oper} {d : Option Nat} {fuel : Nat} {listed : Array Bool} {a : Act} {w : World} (hi : ops[i]? = some oi) (hd : oi.dst = d)
    (hs : Region.noSelect ops = true) (hf : Region.free md ops listed i = true) (hr : (Region.ready md ops listed).contains i = true)
    (hw : Region.wanted oi (yielded ops a.tmps) = false) (hS : S w)
    (h : wpAnyH P md ops (NoPanic Q) S fuel (listed.setIfInBounds i true) (a.put d undef) w) : wpAnyH P md ops (NoPanic Q) S (fuel + 1) listed a w :=
  wpAnyH_take hi hs hf hr (fun _ _ _ h => h) (.inr ⟨hw, rfl⟩) hS (by rw [hd]; exact h)

theorem run_indexAddr_op {P : Program} {oi : Oper} {a : Act} {w : World} {t : TypeId} {x y : Operand} {X Y v : Value} (ho : oi.op = .indexAddr t x y) (hx : a.eval x = X) (hy : a.eval y = Y)
    (hI : (Instr.indexAt t X Y).run P w = .ok v w) : (execOp a.eval oi).run P w = .ok (.value v) w := by
  unfold execOp
  simp only [ho, hx, hy, Sem.run_bind, hI, Result.andThen_ok]
  rfl

theorem run_build_op {P : Program} {oi : Oper} {a : Act} {w : World} {t : TypeId} {parts : Array (Nat × Operand)} {cells : Array Value} (ho : oi.op = .build t parts)
    (hf : P.built t (parts.map fun (i, x) => (i, a.eval x)).toList = some cells) : (execOp a.eval oi).run P w = .ok (.value (.agg cells)) w := by
  unfold execOp
  simp only [ho, Sem.run_bind, run_build w t _ cells hf, Result.andThen_ok]
  rfl

set_option maxRecDepth 100000 in
set_option maxHeartbeats 2000000 in
theorem restore_low (k : Nat → Nat) (r : Int) (w : World) (hk : ∀ j, k j < 256) (hr : r < 0) :
    Calls Try.prog 5 #[.agg (IV .u8 16 k), .int .i64 r] w fun e w' => e = .returned (.bool true) ∧ Below w.heap.size w w' := by
  have HK := hid hk
  clear hk
  have N0 := hid (Has.new w 22 (IV .u8 16 k))
  have B0 := hid ((Below.refl w.heap.size w).alloc (Nat.le_refl _) (.cells (IV .u8 16 k) 22))
  go_enter Try.func5, Try.ntmps5
  go_wp2_with fail
  refine (awake_any _).mono ?_
  rintro e w1 ⟨rfl, hb1⟩
  have N1 := hid (N0.out.below hb1 N0.out.lt)
  have B1 := hid (B0.out.trans (hb1.mono B0.out.size))
  clear N0 B0 hb1
  go_wp2_with (refine wpList_load_row rfl 22 _ rfl w.heap.size rfl 22 _ (0, 0) _ N1.out Try.underlying22 rfl (by rw [size_IV]; exact size22) ?_)
  refine (rexpand_any k HK.out _).mono ?_
  rintro e w2 ⟨rfl, hb2⟩
  have N2 := hid (N1.out.below hb2 N1.out.lt)
  have B2 := hid (B1.out.trans (hb2.mono B1.out.size))
  clear N1 B1 hb2
  have z31 := zero31
  have T3 := hid (Has.new w2 31 (IV .u8 176 fun _ => 0))
  have HS : Hid (w.heap.size < w2.heap.size) := N2.out.lt
  have P3 := hid (T3.out.setRow (IV .u8 176 (K.RW k)))
  have P0 := hid ((N2.out.alloc (.cells (IV .u8 176 fun _ => 0) 31)).setRowOther w2.heap.size (IV .u8 176 (K.RW k)) (by have := HS.out; omega))
  have PB := hid (Below.setRow (B2.out.alloc B2.out.size (.cells (IV .u8 176 fun _ => 0) 31)) (g' := w2.heap.size) B2.out.size (IV .u8 176 (K.RW k)))
  clear N2 B2
  go_wp2_with (first | (refine wpList_store_row rfl 31 _ _ rfl w2.heap.size (IV .u8 176 (K.RW k)) rfl rfl 31 _ T3.out (by rw [size_IV]; exact size31) (by simp only [size_IV]) (oneCell_IV _ _ _) ?_) | (refine wpList_load_row rfl 22 _ rfl w.heap.size rfl 22 _ (0, 0) _ P0.out Try.underlying22 rfl (by rw [size_IV]; exact size22) ?_))
  clear T3 z31
  generalize (w2.alloc (.cells (IV .u8 176 fun _ => 0) 31)).setRow w2.heap.size (IV .u8 176 (K.RW k)) = W3 at *
  generalize w2.heap.size = g3 at *
  refine (restore_out k r _ (by omega)).mono ?_
  rintro e w4 ⟨rfl, hb4⟩
  unfold noKey
  have R3 := hid (P3.out.below hb4 P3.out.lt)
  have R0 := hid (P0.out.below hb4 P0.out.lt)
  have RB := hid (PB.out.trans (hb4.mono PB.out.size))
  clear P3 P0 PB hb4
  have T4 := hid (Has.new w4 22 (IV .u8 16 fun _ => 0))
  have V4 := hid (T4.out.setRow (IV .u8 16 fun _ => 0))
  have S3 := hid ((R3.out.alloc (.cells (IV .u8 16 fun _ => 0) 22)).setRowOther w4.heap.size (IV .u8 16 fun _ => 0) (by have := R3.out.lt; omega))
  have S0 := hid ((R0.out.alloc (.cells (IV .u8 16 fun _ => 0) 22)).setRowOther w4.heap.size (IV .u8 16 fun _ => 0) (by have := R0.out.lt; omega))
  have SB := hid (Below.setRow (RB.out.alloc RB.out.size (.cells (IV .u8 16 fun _ => 0) 22)) (g' := w4.heap.size) RB.out.size (IV .u8 16 fun _ => 0))
  clear R3 R0 RB
  go_wp2_with (first | (refine wpList_alloc_of rfl 22 rfl _ zero22 w4.heap.size rfl ?_) | (refine wpList_store_row rfl 22 _ _ rfl w4.heap.size (IV .u8 16 fun _ => 0) rfl rfl 22 _ T4.out (by rw [size_IV]; exact size22) (by simp only [size_IV]) (oneCell_IV _ _ _) ?_) | (refine wpList_load_row rfl 22 _ rfl w.heap.size rfl 22 _ (0, 0) _ S0.out Try.underlying22 rfl (by rw [size_IV]; exact size22) ?_))
  clear T4
  generalize (w4.alloc (.cells (IV .u8 16 fun _ => 0) 22)).setRow w4.heap.size (IV .u8 16 fun _ => 0) = W5 at *
  generalize w4.heap.size = g4 at *
  refine (next_out k r _ (by omega)).mono ?_
  rintro e w6 ⟨rfl, hb6⟩
  unfold noKey
  have R3 := hid (S3.out.below hb6 S3.out.lt)
  have R0 := hid (S0.out.below hb6 S0.out.lt)
  have R4 := hid (V4.out.below hb6 V4.out.lt)
  have RB := hid (SB.out.trans (hb6.mono SB.out.size))
  clear S3 S0 V4 SB hb6
  have T6 := hid (Has.new w6 22 (IV .u8 16 fun _ => 0))
  have V6 := hid (T6.out.setRow (IV .u8 16 fun _ => 0))
  have S3 := hid ((R3.out.alloc (.cells (IV .u8 16 fun _ => 0) 22)).setRowOther w6.heap.size (IV .u8 16 fun _ => 0) (by have := R3.out.lt; omega))
  have S0 := hid ((R0.out.alloc (.cells (IV .u8 16 fun _ => 0) 22)).setRowOther w6.heap.size (IV .u8 16 fun _ => 0) (by have := R0.out.lt; omega))
  have S4 := hid ((R4.out.alloc (.cells (IV .u8 16 fun _ => 0) 22)).setRowOther w6.heap.size (IV .u8 16 fun _ => 0) (by have := R4.out.lt; omega))
  have SB := hid (Below.setRow (RB.out.alloc RB.out.size (.cells (IV .u8 16 fun _ => 0) 22)) (g' := w6.heap.size) RB.out.size (IV .u8 16 fun _ => 0))
  clear R3 R0 R4 RB
  have hE : ∀ f w, (Op.equalIn 10000 22 (.agg (IV .u8 16 f)) (.agg (IV .u8 16 f))).run Try.prog w = .ok true w := fun f w => by
    rw [eq22, eqN_true (fun _ _ => rfl)]
  go_wp2_with (first | (refine wpList_alloc_of rfl 22 rfl _ zero22 w6.heap.size rfl ?_) | (refine wpList_store_row rfl 22 _ _ rfl w6.heap.size (IV .u8 16 fun _ => 0) rfl rfl 22 _ T6.out (by rw [size_IV]; exact size22) (by simp only [size_IV]) (oneCell_IV _ _ _) ?_) | (refine wpList_load_row_g rfl 22 (.tmp 6) rfl g4 rfl 22 _ _ S4.out Try.underlying22 rfl (by rw [size_IV]; exact size22) ?_) | (refine wpList_load_row_g rfl 22 (.tmp 8) rfl w6.heap.size rfl 22 _ _ V6.out Try.underlying22 rfl (by rw [size_IV]; exact size22) ?_) | (refine wpList_build_g rfl 22 #[] rfl (IV .u8 16 fun _ => 0) (by kernel_rfl) ?_))
  go_ret
  exact ⟨rfl, SB.out⟩

set_option maxRecDepth 100000 in
set_option maxHeartbeats 2000000 in
theorem restore_high (k : Nat → Nat) (r : Int) (w : World) (hk : ∀ j, k j < 256) (hr : 10 < r) :
    Calls Try.prog 5 #[.agg (IV .u8 16 k), .int .i64 r] w fun e w' => e = .returned (.bool true) ∧ Below w.heap.size w w' := by
  have hr2 : ¬ r < 0 := by omega
  have HK := hid hk
  clear hk
  have N0 := hid (Has.new w 22 (IV .u8 16 k))
  have B0 := hid ((Below.refl w.heap.size w).alloc (Nat.le_refl _) (.cells (IV .u8 16 k) 22))
  go_enter Try.func5, Try.ntmps5
  go_wp2_with fail
  refine (awake_any _).mono ?_
  rintro e w1 ⟨rfl, hb1⟩
  have N1 := hid (N0.out.below hb1 N0.out.lt)
  have B1 := hid (B0.out.trans (hb1.mono B0.out.size))
  clear N0 B0 hb1
  go_wp2_with (refine wpList_load_row rfl 22 _ rfl w.heap.size rfl 22 _ (0, 0) _ N1.out Try.underlying22 rfl (by rw [size_IV]; exact size22) ?_)
  refine (rexpand_any k HK.out _).mono ?_
  rintro e w2 ⟨rfl, hb2⟩
  have N2 := hid (N1.out.below hb2 N1.out.lt)
  have B2 := hid (B1.out.trans (hb2.mono B1.out.size))
  clear N1 B1 hb2
  have z31 := zero31
  have T3 := hid (Has.new w2 31 (IV .u8 176 fun _ => 0))
  have HS : Hid (w.heap.size < w2.heap.size) := N2.out.lt
  have P3 := hid (T3.out.setRow (IV .u8 176 (K.RW k)))
  have P0 := hid ((N2.out.alloc (.cells (IV .u8 176 fun _ => 0) 31)).setRowOther w2.heap.size (IV .u8 176 (K.RW k)) (by have := HS.out; omega))
  have PB := hid (Below.setRow (B2.out.alloc B2.out.size (.cells (IV .u8 176 fun _ => 0) 31)) (g' := w2.heap.size) B2.out.size (IV .u8 176 (K.RW k)))
  clear N2 B2
  go_wp2_with (first | (refine wpList_store_row rfl 31 _ _ rfl w2.heap.size (IV .u8 176 (K.RW k)) rfl rfl 31 _ T3.out (by rw [size_IV]; exact size31) (by simp only [size_IV]) (oneCell_IV _ _ _) ?_) | (refine wpList_load_row rfl 22 _ rfl w.heap.size rfl 22 _ (0, 0) _ P0.out Try.underlying22 rfl (by rw [size_IV]; exact size22) ?_))
  clear T3 z31
  generalize (w2.alloc (.cells (IV .u8 176 fun _ => 0) 31)).setRow w2.heap.size (IV .u8 176 (K.RW k)) = W3 at *
  generalize w2.heap.size = g3 at *
  refine (restore_out k r _ (by omega)).mono ?_
  rintro e w4 ⟨rfl, hb4⟩
  unfold noKey
  have R3 := hid (P3.out.below hb4 P3.out.lt)
  have R0 := hid (P0.out.below hb4 P0.out.lt)
  have RB := hid (PB.out.trans (hb4.mono PB.out.size))
  clear P3 P0 PB hb4
  have T4 := hid (Has.new w4 22 (IV .u8 16 fun _ => 0))
  have V4 := hid (T4.out.setRow (IV .u8 16 fun _ => 0))
  have S3 := hid ((R3.out.alloc (.cells (IV .u8 16 fun _ => 0) 22)).setRowOther w4.heap.size (IV .u8 16 fun _ => 0) (by have := R3.out.lt; omega))
  have S0 := hid ((R0.out.alloc (.cells (IV .u8 16 fun _ => 0) 22)).setRowOther w4.heap.size (IV .u8 16 fun _ => 0) (by have := R0.out.lt; omega))
  have SB := hid (Below.setRow (RB.out.alloc RB.out.size (.cells (IV .u8 16 fun _ => 0) 22)) (g' := w4.heap.size) RB.out.size (IV .u8 16 fun _ => 0))
  clear R3 R0 RB
  go_wp2_with (first | (refine wpList_alloc_of rfl 22 rfl _ zero22 w4.heap.size rfl ?_) | (refine wpList_store_row rfl 22 _ _ rfl w4.heap.size (IV .u8 16 fun _ => 0) rfl rfl 22 _ T4.out (by rw [size_IV]; exact size22) (by simp only [size_IV]) (oneCell_IV _ _ _) ?_) | (refine wpList_load_row rfl 22 _ rfl w.heap.size rfl 22 _ (0, 0) _ S0.out Try.underlying22 rfl (by rw [size_IV]; exact size22) ?_))
  clear T4
  generalize (w4.alloc (.cells (IV .u8 16 fun _ => 0) 22)).setRow w4.heap.size (IV .u8 16 fun _ => 0) = W5 at *
  generalize w4.heap.size = g4 at *
  refine (next_out k r _ (by omega)).mono ?_
  rintro e w6 ⟨rfl, hb6⟩
  unfold noKey
  have R3 := hid (S3.out.below hb6 S3.out.lt)
  have R0 := hid (S0.out.below hb6 S0.out.lt)
  have R4 := hid (V4.out.below hb6 V4.out.lt)
  have RB := hid (SB.out.trans (hb6.mono SB.out.size))
  clear S3 S0 V4 SB hb6
  have T6 := hid (Has.new w6 22 (IV .u8 16 fun _ => 0))
  have V6 := hid (T6.out.setRow (IV .u8 16 fun _ => 0))
  have S3 := hid ((R3.out.alloc (.cells (IV .u8 16 fun _ => 0) 22)).setRowOther w6.heap.size (IV .u8 16 fun _ => 0) (by have := R3.out.lt; omega))
  have S0 := hid ((R0.out.alloc (.cells (IV .u8 16 fun _ => 0) 22)).setRowOther w6.heap.size (IV .u8 16 fun _ => 0) (by have := R0.out.lt; omega))
  have S4 := hid ((R4.out.alloc (.cells (IV .u8 16 fun _ => 0) 22)).setRowOther w6.heap.size (IV .u8 16 fun _ => 0) (by have := R4.out.lt; omega))
  have SB := hid (Below.setRow (RB.out.alloc RB.out.size (.cells (IV .u8 16 fun _ => 0) 22)) (g' := w6.heap.size) RB.out.size (IV .u8 16 fun _ => 0))
  clear R3 R0 R4 RB
  have hE : ∀ f w, (Op.equalIn 10000 22 (.agg (IV .u8 16 f)) (.agg (IV .u8 16 f))).run Try.prog w = .ok true w := fun f w => by
    rw [eq22, eqN_true (fun _ _ => rfl)]
  go_wp2_with (first | (refine wpList_alloc_of rfl 22 rfl _ zero22 w6.heap.size rfl ?_) | (refine wpList_store_row rfl 22 _ _ rfl w6.heap.size (IV .u8 16 fun _ => 0) rfl rfl 22 _ T6.out (by rw [size_IV]; exact size22) (by simp only [size_IV]) (oneCell_IV _ _ _) ?_) | (refine wpList_load_row_g rfl 22 (.tmp 6) rfl g4 rfl 22 _ _ S4.out Try.underlying22 rfl (by rw [size_IV]; exact size22) ?_) | (refine wpList_load_row_g rfl 22 (.tmp 8) rfl w6.heap.size rfl 22 _ _ V6.out Try.underlying22 rfl (by rw [size_IV]; exact size22) ?_) | (refine wpList_build_g rfl 22 #[] rfl (IV .u8 16 fun _ => 0) (by kernel_rfl) ?_))
  go_ret
  exact ⟨rfl, SB.out⟩

set_option maxRecDepth 100000 in
set_option maxHeartbeats 2000000 in
theorem restore_mid (k : Nat → Nat) (r : Nat) (w : World) (hk : ∀ j, k j < 256) (hr : r < 10) :
    Calls Try.prog 5 #[.agg (IV .u8 16 k), .int .i64 (r : Int)] w fun e w' => e = .returned (.bool true) ∧ Below w.heap.size w w' := by
  have hr2 : ¬ (r : Int) < 0 := by omega
  have hr3 : ¬ 10 < (r : Int) := by omega
  have hr4 : decide ((r : Int) < 10) = true := by rw [decide_eq_true_eq]; omega
  have HK := hid hk
  clear hk
  have N0 := hid (Has.new w 22 (IV .u8 16 k))
  have B0 := hid ((Below.refl w.heap.size w).alloc (Nat.le_refl _) (.cells (IV .u8 16 k) 22))
  go_enter Try.func5, Try.ntmps5
  go_wp2_with fail
  refine (awake_any _).mono ?_
  rintro e w1 ⟨rfl, hb1⟩
  have N1 := hid (N0.out.below hb1 N0.out.lt)
  have B1 := hid (B0.out.trans (hb1.mono B0.out.size))
  clear N0 B0 hb1
  go_wp2_with (refine wpList_load_row rfl 22 _ rfl w.heap.size rfl 22 _ (0, 0) _ N1.out Try.underlying22 rfl (by rw [size_IV]; exact size22) ?_)
  refine (rexpand_any k HK.out _).mono ?_
  rintro e w2 ⟨rfl, hb2⟩
  have N2 := hid (N1.out.below hb2 N1.out.lt)
  have B2 := hid (B1.out.trans (hb2.mono B1.out.size))
  clear N1 B1 hb2
  have z31 := zero31
  have T3 := hid (Has.new w2 31 (IV .u8 176 fun _ => 0))
  have HS : Hid (w.heap.size < w2.heap.size) := N2.out.lt
  have P3 := hid (T3.out.setRow (IV .u8 176 (K.RW k)))
  have P0 := hid ((N2.out.alloc (.cells (IV .u8 176 fun _ => 0) 31)).setRowOther w2.heap.size (IV .u8 176 (K.RW k)) (by have := HS.out; omega))
  have PB := hid (Below.setRow (B2.out.alloc B2.out.size (.cells (IV .u8 176 fun _ => 0) 31)) (g' := w2.heap.size) B2.out.size (IV .u8 176 (K.RW k)))
  clear N2 B2
  have HR := P3.out.range (r * 16) 16 (by omega)
  rw [IV_ext _ _ _ (K.E k r) (fun j hj => K.RW_row k r j hj)] at HR
  have HR1 := hid HR
  clear HR
  go_wp2_with (first | (refine wpList_store_row rfl 31 _ _ rfl w2.heap.size (IV .u8 176 (K.RW k)) rfl rfl 31 _ T3.out (by rw [size_IV]; exact size31) (by simp only [size_IV]) (oneCell_IV _ _ _) ?_) | (refine wpList_load_part rfl 22 _ rfl w2.heap.size (r * 16) rfl (IV .u8 16 (K.E k r)) _ HR1.out Try.underlying22 rfl (by rw [size_IV]; exact size22) ?_))
  clear T3 z31
  generalize (w2.alloc (.cells (IV .u8 176 fun _ => 0) 31)).setRow w2.heap.size (IV .u8 176 (K.RW k)) = W3 at *
  generalize w2.heap.size = g3 at *
  refine (restore_in (K.E k r) (K.E_lt k HK.out r) _ _ (by omega) (by omega)).mono ?_
  rintro e w4 ⟨rfl, hb4⟩
  rw [Int.toNat_natCast, someKey_ext _ _ (K.R_E k r)]
  unfold someKey
  have R3 := hid (P3.out.below hb4 P3.out.lt)
  have R0 := hid (P0.out.below hb4 P0.out.lt)
  have RB := hid (PB.out.trans (hb4.mono PB.out.size))
  clear P3 P0 PB hb4 HR1
  have T4 := hid (Has.new w4 22 (IV .u8 16 fun _ => 0))
  have V4 := hid (T4.out.setRow (IV .u8 16 k))
  have S3 := hid ((R3.out.alloc (.cells (IV .u8 16 fun _ => 0) 22)).setRowOther w4.heap.size (IV .u8 16 k) (by have := R3.out.lt; omega))
  have S0 := hid ((R0.out.alloc (.cells (IV .u8 16 fun _ => 0) 22)).setRowOther w4.heap.size (IV .u8 16 k) (by have := R0.out.lt; omega))
  have SB := hid (Below.setRow (RB.out.alloc RB.out.size (.cells (IV .u8 16 fun _ => 0) 22)) (g' := w4.heap.size) RB.out.size (IV .u8 16 k))
  clear R3 R0 RB
  have HR := S3.out.range (r * 16) 16 (by omega)
  rw [IV_ext _ _ _ (K.E k r) (fun j hj => K.RW_row k r j hj)] at HR
  have HR1 := hid HR
  clear HR
  go_wp2_with (first | (refine wpList_alloc_of rfl 22 rfl _ zero22 w4.heap.size rfl ?_) | (refine wpList_store_row rfl 22 _ _ rfl w4.heap.size (IV .u8 16 k) rfl rfl 22 _ T4.out (by rw [size_IV]; exact size22) (by simp only [size_IV]) (oneCell_IV _ _ _) ?_) | (refine wpList_load_part rfl 22 _ rfl g3 (r * 16) rfl (IV .u8 16 (K.E k r)) _ HR1.out Try.underlying22 rfl (by rw [size_IV]; exact size22) ?_))
  clear HR1
  clear T4
  generalize (w4.alloc (.cells (IV .u8 16 fun _ => 0) 22)).setRow w4.heap.size (IV .u8 16 k) = W5 at *
  generalize w4.heap.size = g4 at *
  refine (next_in (K.E k r) (K.E_lt k HK.out r) _ _ (by omega) (by omega)).mono ?_
  rintro e w6 ⟨rfl, hb6⟩
  rw [Int.toNat_natCast]
  unfold someKey
  have HE : Hid (K.nextB (K.E k r) r = K.E k (r + 1)) := rfl
  rw [HE.out]
  clear HE
  have R3 := hid (S3.out.below hb6 S3.out.lt)
  have R0 := hid (S0.out.below hb6 S0.out.lt)
  have R4 := hid (V4.out.below hb6 V4.out.lt)
  have RB := hid (SB.out.trans (hb6.mono SB.out.size))
  clear S3 S0 V4 SB hb6
  have T6 := hid (Has.new w6 22 (IV .u8 16 fun _ => 0))
  have V6 := hid (T6.out.setRow (IV .u8 16 (K.E k (r + 1))))
  have S3 := hid ((R3.out.alloc (.cells (IV .u8 16 fun _ => 0) 22)).setRowOther w6.heap.size (IV .u8 16 (K.E k (r + 1))) (by have := R3.out.lt; omega))
  have S0 := hid ((R0.out.alloc (.cells (IV .u8 16 fun _ => 0) 22)).setRowOther w6.heap.size (IV .u8 16 (K.E k (r + 1))) (by have := R0.out.lt; omega))
  have S4 := hid ((R4.out.alloc (.cells (IV .u8 16 fun _ => 0) 22)).setRowOther w6.heap.size (IV .u8 16 (K.E k (r + 1))) (by have := R4.out.lt; omega))
  have SB := hid (Below.setRow (RB.out.alloc RB.out.size (.cells (IV .u8 16 fun _ => 0) 22)) (g' := w6.heap.size) RB.out.size (IV .u8 16 (K.E k (r + 1))))
  clear R3 R0 R4 RB
  have hE : ∀ f w, (Op.equalIn 10000 22 (.agg (IV .u8 16 f)) (.agg (IV .u8 16 f))).run Try.prog w = .ok true w := fun f w => by
    rw [eq22, eqN_true (fun _ _ => rfl)]
  go_wp2_with (first | (refine wpList_alloc_of rfl 22 rfl _ zero22 w6.heap.size rfl ?_) | (refine wpList_store_row rfl 22 _ _ rfl w6.heap.size (IV .u8 16 (K.E k (r + 1))) rfl rfl 22 _ T6.out (by rw [size_IV]; exact size22) (by simp only [size_IV]) (oneCell_IV _ _ _) ?_) | (refine wpList_load_row_g rfl 22 (.tmp 10) rfl g4 rfl 22 _ _ S4.out Try.underlying22 rfl (by rw [size_IV]; exact size22) ?_) | (refine wpList_load_row_g rfl 22 (.tmp 2) rfl w.heap.size rfl 22 _ _ S0.out Try.underlying22 rfl (by rw [size_IV]; exact size22) ?_))
  have HR := S3.out.range ((r + 1) * 16) 16 (by omega)
  rw [IV_ext _ _ _ (K.E k (r + 1)) (fun j hj => K.RW_row k (r + 1) j hj)] at HR
  have HR1 := hid HR
  clear HR
  have i1 : IntKind.i64.wrap ((r : Int) + 1) = (r : Int) + 1 := IntWalk.i64_in _ (by omega)
  have i2 : (0 : Int) ≤ (r : Int) + 1 := by omega
  have i3 : (r : Int) + 1 < 11 := by omega
  have i4 : ((r : Int) + 1).toNat = r + 1 := by omega
  clear T6 S4 S0 HK
  generalize (w6.alloc (.cells (IV .u8 16 fun _ => 0) 22)).setRow w6.heap.size (IV .u8 16 (K.E k (r + 1))) = W7 at *
  generalize w6.heap.size = g6 at *
  try generalize Value.tuple #[Value.agg (IV IntKind.u8 16 k), Value.bool true] = z_0
  try generalize Value.tuple #[Value.agg (IV IntKind.u8 16 k), Value.bool false] = z_1
  try generalize Value.tuple #[Value.agg (IV IntKind.u8 16 (K.E k r)), Value.bool true] = z_2
  try generalize Value.tuple #[Value.agg (IV IntKind.u8 16 (K.E k r)), Value.bool false] = z_3
  try generalize Value.tuple #[Value.agg (IV IntKind.u8 16 (K.E k (r + 1))), Value.bool true] = z_4
  try generalize Value.tuple #[Value.agg (IV IntKind.u8 16 (K.E k (r + 1))), Value.bool false] = z_5
  try generalize Value.tuple #[Value.agg (IV IntKind.u8 16 fun x => 0), Value.bool true] = z_6
  try generalize Value.tuple #[Value.agg (IV IntKind.u8 16 fun x => 0), Value.bool false] = z_7
  try generalize Value.agg (IV IntKind.u8 16 k) = z_8
  try generalize Value.agg (IV IntKind.u8 16 (K.E k r)) = z_9
  try generalize Value.agg (IV IntKind.u8 16 (K.E k (r + 1))) = z_10
  try generalize Value.agg (IV IntKind.u8 16 fun x => 0) = z_11
  try generalize Value.agg (IV IntKind.u8 176 (K.RW k)) = z_12
  generalize Value.bool (decide ((r : Int) < 0)) = zb1
  generalize Value.bool (decide (10 < (r : Int))) = zb2
  generalize Value.bool (decide ((r : Int) < 0) || decide (10 < (r : Int))) = zb3
  obtain ⟨cn, hcn⟩ : ∃ l : List Value, l = (IV .u8 16 (K.E k (r + 1))).toList := ⟨_, rfl⟩
  have l1 : (Try.prog.info? 22).map (·.size) = some cn.length := by rw [hcn, Array.length_toList, size_IV]; exact size22
  have hE1 : ∀ w, (Op.equalIn 10000 22 (.agg cn.toArray) (.agg cn.toArray)).run Try.prog w = .ok true w := fun w => by
    rw [hcn, Array.toArray_toList]; exact hE _ _
  have SD := hid SB.out.drew
  have HS0 : Hid ((fun w' : World => w'.rangeAt g6 0 cn ∧ w'.rangeAt g3 ((r + 1) * 16) cn) W7.drew) := by
    refine ⟨?_, ?_⟩
    · have h := V6.out.drew.range 0 16 (by omega)
      rw [IV_ext _ _ _ (K.E k (r + 1)) (fun j _ => by rw [Nat.zero_add]), ← hcn] at h; exact h
    · have h := HR1.out
      rw [← hcn] at h; exact h
  clear hE SB V6 S3 HR1
  have Hcn := hid hcn
  clear hcn
  clear hr hr2 hr3
  refine wp_region_noPanic ?_
  refine wp_region_held_drew (S := fun w' => w'.rangeAt g6 0 cn ∧ w'.rangeAt g3 ((r + 1) * 16) cn) (by kernel_rfl) ?_ (fun hHeld => ?_)
  · exact HS0.out
  clear HS0
  try simp only [Act.put, List.setIfInBounds_toArray, List.set_cons_zero, List.set_cons_succ]
  refine takeH (i := 0) (d := some 81) (v := .int .i64 (r : Int)) rfl rfl (by kernel_rfl) (by kernel_rfl) (by kernel_rfl) (by kernel_rfl) (fun w hw => by kernel_rfl) hHeld ?_
  try simp only [Act.put, List.setIfInBounds_toArray, List.set_cons_zero, List.set_cons_succ]
  refine takeH (i := 1) (d := some 82) (v := .bool true) rfl rfl (by kernel_rfl) (by kernel_rfl) (by kernel_rfl) (by kernel_rfl) (fun w hw => Eq.trans (b := Result.ok (Next.value (Value.bool (decide ((r : Int) < 10)))) w) (by kernel_rfl) (congrArg (fun b : Bool => Result.ok (Next.value (Value.bool b)) w) hr4)) hHeld ?_
  try simp only [Act.put, List.setIfInBounds_toArray, List.set_cons_zero, List.set_cons_succ]
  refine takeH (i := 2) (d := some 83) (v := .bool true) rfl rfl (by kernel_rfl) (by kernel_rfl) (by kernel_rfl) (by kernel_rfl) (fun w hw => by kernel_rfl) hHeld ?_
  try simp only [Act.put, List.setIfInBounds_toArray, List.set_cons_zero, List.set_cons_succ]
  refine takeL (i := 3) (d := some 84) rfl rfl (by kernel_rfl) (by kernel_rfl) (by kernel_rfl) (by kernel_rfl) 22 (.tmp 12) rfl g6 0 (by kernel_rfl) cn (fun w h => h.1) Try.underlying22 rfl l1 hHeld ?_
  try simp only [Act.put, List.setIfInBounds_toArray, List.set_cons_zero, List.set_cons_succ]
  refine takeH (i := 4) (d := some 85) (v := .int .i64 (r : Int)) rfl rfl (by kernel_rfl) (by kernel_rfl) (by kernel_rfl) (by kernel_rfl) (fun w hw => by kernel_rfl) hHeld ?_
  try simp only [Act.put, List.setIfInBounds_toArray, List.set_cons_zero, List.set_cons_succ]
  refine takeH (i := 5) (d := some 86) (v := .int .i64 ((r : Int) + 1)) rfl rfl (by kernel_rfl) (by kernel_rfl) (by kernel_rfl) (by kernel_rfl) (fun w hw => Eq.trans (b := Result.ok (Next.value (Value.int .i64 (IntKind.i64.wrap ((r : Int) + 1)))) w) (by kernel_rfl) (congrArg (fun n : Int => Result.ok (Next.value (Value.int .i64 n)) w) i1)) hHeld ?_
  try simp only [Act.put, List.setIfInBounds_toArray, List.set_cons_zero, List.set_cons_succ]
  refine takeH (i := 6) (d := some 87) (v := .pointer (some ⟨g3, (r + 1) * 16, none⟩)) rfl rfl (by kernel_rfl) (by kernel_rfl) (by kernel_rfl) (by kernel_rfl) (fun w hw => run_indexAddr_op (X := .pointer (some ⟨g3, 0, none⟩)) (Y := .int .i64 ((r : Int) + 1)) rfl (by kernel_rfl) (by kernel_rfl) (by go_simp)) hHeld ?_
  try simp only [Act.put, List.setIfInBounds_toArray, List.set_cons_zero, List.set_cons_succ]
  refine takeL (i := 7) (d := some 88) rfl rfl (by kernel_rfl) (by kernel_rfl) (by kernel_rfl) (by kernel_rfl) 22 (.tmp 87) rfl g3 ((r + 1) * 16) (by kernel_rfl) cn (fun w h => h.2) Try.underlying22 rfl l1 hHeld ?_
  try simp only [Act.put, List.setIfInBounds_toArray, List.set_cons_zero, List.set_cons_succ]
  refine takeH (i := 8) (d := some 89) (v := .bool true) rfl rfl (by kernel_rfl) (by kernel_rfl) (by kernel_rfl) (by kernel_rfl) (fun w hw => run_eql_op (X := cn.toArray) (Y := cn.toArray) rfl (by kernel_rfl) (by kernel_rfl) (eqg22 _ _ _ _ w) (hE1 w)) hHeld ?_
  try simp only [Act.put, List.setIfInBounds_toArray, List.set_cons_zero, List.set_cons_succ]
  refine takeH (i := 9) (d := some 90) (v := .bool true) rfl rfl (by kernel_rfl) (by kernel_rfl) (by kernel_rfl) (by kernel_rfl) (fun w hw => by kernel_rfl) hHeld ?_
  try simp only [Act.put, List.setIfInBounds_toArray, List.set_cons_zero, List.set_cons_succ]
  refine takeH (i := 10) (d := some 91) (v := .bool true) rfl rfl (by kernel_rfl) (by kernel_rfl) (by kernel_rfl) (by kernel_rfl) (fun w hw => by kernel_rfl) hHeld ?_
  try simp only [Act.put, List.setIfInBounds_toArray, List.set_cons_zero, List.set_cons_succ]
  refine takeP (i := 11) (d := some 92) rfl rfl (by kernel_rfl) (by kernel_rfl) (by kernel_rfl) (by kernel_rfl) hHeld ?_
  try simp only [Act.put, List.setIfInBounds_toArray, List.set_cons_zero, List.set_cons_succ]
  refine takeP (i := 12) (d := some 93) rfl rfl (by kernel_rfl) (by kernel_rfl) (by kernel_rfl) (by kernel_rfl) hHeld ?_
  try simp only [Act.put, List.setIfInBounds_toArray, List.set_cons_zero, List.set_cons_succ]
  refine takeP (i := 13) (d := some 94) rfl rfl (by kernel_rfl) (by kernel_rfl) (by kernel_rfl) (by kernel_rfl) hHeld ?_
  try simp only [Act.put, List.setIfInBounds_toArray, List.set_cons_zero, List.set_cons_succ]
  refine takeP (i := 14) (d := some 95) rfl rfl (by kernel_rfl) (by kernel_rfl) (by kernel_rfl) (by kernel_rfl) hHeld ?_
  try simp only [Act.put, List.setIfInBounds_toArray, List.set_cons_zero, List.set_cons_succ]
  refine takeP (i := 15) (d := some 96) rfl rfl (by kernel_rfl) (by kernel_rfl) (by kernel_rfl) (by kernel_rfl) hHeld ?_
  try simp only [Act.put, List.setIfInBounds_toArray, List.set_cons_zero, List.set_cons_succ]
  refine takeP (i := 16) (d := some 97) rfl rfl (by kernel_rfl) (by kernel_rfl) (by kernel_rfl) (by kernel_rfl) hHeld ?_
  try simp only [Act.put, List.setIfInBounds_toArray, List.set_cons_zero, List.set_cons_succ]
  refine takeP (i := 17) (d := some 98) rfl rfl (by kernel_rfl) (by kernel_rfl) (by kernel_rfl) (by kernel_rfl) hHeld ?_
  try simp only [Act.put, List.setIfInBounds_toArray, List.set_cons_zero, List.set_cons_succ]
  refine takeH (i := 18) (d := some 99) (v := .bool true) rfl rfl (by kernel_rfl) (by kernel_rfl) (by kernel_rfl) (by kernel_rfl) (fun w hw => by kernel_rfl) hHeld ?_
  try simp only [Act.put, List.setIfInBounds_toArray, List.set_cons_zero, List.set_cons_succ]
  refine takeH (i := 19) (d := some 4) (v := .bool true) rfl rfl (by kernel_rfl) (by kernel_rfl) (by kernel_rfl) (by kernel_rfl) (fun w hw => by kernel_rfl) hHeld ?_
  try simp only [Act.put, List.setIfInBounds_toArray, List.set_cons_zero, List.set_cons_succ]
  refine wpAnyH_done (by kernel_rfl) ?_ _
  refine NoPanic.normal ?_
  go_wp2_with fail
  go_ret
  exact ⟨rfl, SD.out⟩

set_option maxRecDepth 100000 in
set_option maxHeartbeats 2000000 in
theorem restore_ten (k : Nat → Nat) (r : Nat) (w : World) (hk : ∀ j, k j < 256) (hr : r < 11) (hr9 : 9 < r) :
    Calls Try.prog 5 #[.agg (IV .u8 16 k), .int .i64 (r : Int)] w fun e w' => e = .returned (.bool true) ∧ Below w.heap.size w w' := by
  have hr2 : ¬ (r : Int) < 0 := by omega
  have hr3 : ¬ 10 < (r : Int) := by omega
  have hr4 : decide ((r : Int) < 10) = false := by rw [decide_eq_false_iff_not]; omega
  have hr5 : ((r : Int) == 10) = true := by rw [beq_iff_eq]; omega
  have HK := hid hk
  clear hk
  have N0 := hid (Has.new w 22 (IV .u8 16 k))
  have B0 := hid ((Below.refl w.heap.size w).alloc (Nat.le_refl _) (.cells (IV .u8 16 k) 22))
  go_enter Try.func5, Try.ntmps5
  go_wp2_with fail
  refine (awake_any _).mono ?_
  rintro e w1 ⟨rfl, hb1⟩
  have N1 := hid (N0.out.below hb1 N0.out.lt)
  have B1 := hid (B0.out.trans (hb1.mono B0.out.size))
  clear N0 B0 hb1
  go_wp2_with (refine wpList_load_row rfl 22 _ rfl w.heap.size rfl 22 _ (0, 0) _ N1.out Try.underlying22 rfl (by rw [size_IV]; exact size22) ?_)
  refine (rexpand_any k HK.out _).mono ?_
  rintro e w2 ⟨rfl, hb2⟩
  have N2 := hid (N1.out.below hb2 N1.out.lt)
  have B2 := hid (B1.out.trans (hb2.mono B1.out.size))
  clear N1 B1 hb2
  have z31 := zero31
  have T3 := hid (Has.new w2 31 (IV .u8 176 fun _ => 0))
  have HS : Hid (w.heap.size < w2.heap.size) := N2.out.lt
  have P3 := hid (T3.out.setRow (IV .u8 176 (K.RW k)))
  have P0 := hid ((N2.out.alloc (.cells (IV .u8 176 fun _ => 0) 31)).setRowOther w2.heap.size (IV .u8 176 (K.RW k)) (by have := HS.out; omega))
  have PB := hid (Below.setRow (B2.out.alloc B2.out.size (.cells (IV .u8 176 fun _ => 0) 31)) (g' := w2.heap.size) B2.out.size (IV .u8 176 (K.RW k)))
  clear N2 B2
  have HR := P3.out.range (r * 16) 16 (by omega)
  rw [IV_ext _ _ _ (K.E k r) (fun j hj => K.RW_row k r j hj)] at HR
  have HR1 := hid HR
  clear HR
  go_wp2_with (first | (refine wpList_store_row rfl 31 _ _ rfl w2.heap.size (IV .u8 176 (K.RW k)) rfl rfl 31 _ T3.out (by rw [size_IV]; exact size31) (by simp only [size_IV]) (oneCell_IV _ _ _) ?_) | (refine wpList_load_part rfl 22 _ rfl w2.heap.size (r * 16) rfl (IV .u8 16 (K.E k r)) _ HR1.out Try.underlying22 rfl (by rw [size_IV]; exact size22) ?_))
  clear T3 z31
  generalize (w2.alloc (.cells (IV .u8 176 fun _ => 0) 31)).setRow w2.heap.size (IV .u8 176 (K.RW k)) = W3 at *
  generalize w2.heap.size = g3 at *
  refine (restore_in (K.E k r) (K.E_lt k HK.out r) _ _ (by omega) (by omega)).mono ?_
  rintro e w4 ⟨rfl, hb4⟩
  rw [Int.toNat_natCast, someKey_ext _ _ (K.R_E k r)]
  unfold someKey
  have R3 := hid (P3.out.below hb4 P3.out.lt)
  have R0 := hid (P0.out.below hb4 P0.out.lt)
  have RB := hid (PB.out.trans (hb4.mono PB.out.size))
  clear P3 P0 PB hb4 HR1
  have T4 := hid (Has.new w4 22 (IV .u8 16 fun _ => 0))
  have V4 := hid (T4.out.setRow (IV .u8 16 k))
  have S3 := hid ((R3.out.alloc (.cells (IV .u8 16 fun _ => 0) 22)).setRowOther w4.heap.size (IV .u8 16 k) (by have := R3.out.lt; omega))
  have S0 := hid ((R0.out.alloc (.cells (IV .u8 16 fun _ => 0) 22)).setRowOther w4.heap.size (IV .u8 16 k) (by have := R0.out.lt; omega))
  have SB := hid (Below.setRow (RB.out.alloc RB.out.size (.cells (IV .u8 16 fun _ => 0) 22)) (g' := w4.heap.size) RB.out.size (IV .u8 16 k))
  clear R3 R0 RB
  have HR := S3.out.range (r * 16) 16 (by omega)
  rw [IV_ext _ _ _ (K.E k r) (fun j hj => K.RW_row k r j hj)] at HR
  have HR1 := hid HR
  clear HR
  go_wp2_with (first | (refine wpList_alloc_of rfl 22 rfl _ zero22 w4.heap.size rfl ?_) | (refine wpList_store_row rfl 22 _ _ rfl w4.heap.size (IV .u8 16 k) rfl rfl 22 _ T4.out (by rw [size_IV]; exact size22) (by simp only [size_IV]) (oneCell_IV _ _ _) ?_) | (refine wpList_load_part rfl 22 _ rfl g3 (r * 16) rfl (IV .u8 16 (K.E k r)) _ HR1.out Try.underlying22 rfl (by rw [size_IV]; exact size22) ?_))
  clear HR1
  clear T4
  generalize (w4.alloc (.cells (IV .u8 16 fun _ => 0) 22)).setRow w4.heap.size (IV .u8 16 k) = W5 at *
  generalize w4.heap.size = g4 at *
  refine (next_out (K.E k r) _ _ (by omega)).mono ?_
  rintro e w6 ⟨rfl, hb6⟩
  unfold noKey
  have R3 := hid (S3.out.below hb6 S3.out.lt)
  have R0 := hid (S0.out.below hb6 S0.out.lt)
  have R4 := hid (V4.out.below hb6 V4.out.lt)
  have RB := hid (SB.out.trans (hb6.mono SB.out.size))
  clear S3 S0 V4 SB hb6
  have T6 := hid (Has.new w6 22 (IV .u8 16 fun _ => 0))
  have V6 := hid (T6.out.setRow (IV .u8 16 fun _ => 0))
  have S3 := hid ((R3.out.alloc (.cells (IV .u8 16 fun _ => 0) 22)).setRowOther w6.heap.size (IV .u8 16 fun _ => 0) (by have := R3.out.lt; omega))
  have S0 := hid ((R0.out.alloc (.cells (IV .u8 16 fun _ => 0) 22)).setRowOther w6.heap.size (IV .u8 16 fun _ => 0) (by have := R0.out.lt; omega))
  have S4 := hid ((R4.out.alloc (.cells (IV .u8 16 fun _ => 0) 22)).setRowOther w6.heap.size (IV .u8 16 fun _ => 0) (by have := R4.out.lt; omega))
  have SB := hid (Below.setRow (RB.out.alloc RB.out.size (.cells (IV .u8 16 fun _ => 0) 22)) (g' := w6.heap.size) RB.out.size (IV .u8 16 fun _ => 0))
  clear R3 R0 R4 RB
  have hE : ∀ f w, (Op.equalIn 10000 22 (.agg (IV .u8 16 f)) (.agg (IV .u8 16 f))).run Try.prog w = .ok true w := fun f w => by
    rw [eq22, eqN_true (fun _ _ => rfl)]
  go_wp2_with (first | (refine wpList_alloc_of rfl 22 rfl _ zero22 w6.heap.size rfl ?_) | (refine wpList_store_row rfl 22 _ _ rfl w6.heap.size (IV .u8 16 fun _ => 0) rfl rfl 22 _ T6.out (by rw [size_IV]; exact size22) (by simp only [size_IV]) (oneCell_IV _ _ _) ?_) | (refine wpList_load_row_g rfl 22 (.tmp 10) rfl g4 rfl 22 _ _ S4.out Try.underlying22 rfl (by rw [size_IV]; exact size22) ?_) | (refine wpList_load_row_g rfl 22 (.tmp 2) rfl w.heap.size rfl 22 _ _ S0.out Try.underlying22 rfl (by rw [size_IV]; exact size22) ?_))
  clear T6 S4 S0 HK
  generalize (w6.alloc (.cells (IV .u8 16 fun _ => 0) 22)).setRow w6.heap.size (IV .u8 16 fun _ => 0) = W7 at *
  generalize w6.heap.size = g6 at *
  try generalize Value.tuple #[Value.agg (IV IntKind.u8 16 k), Value.bool true] = z_0
  try generalize Value.tuple #[Value.agg (IV IntKind.u8 16 k), Value.bool false] = z_1
  try generalize Value.tuple #[Value.agg (IV IntKind.u8 16 (K.E k r)), Value.bool true] = z_2
  try generalize Value.tuple #[Value.agg (IV IntKind.u8 16 (K.E k r)), Value.bool false] = z_3
  try generalize Value.tuple #[Value.agg (IV IntKind.u8 16 fun x => 0), Value.bool true] = z_4
  try generalize Value.tuple #[Value.agg (IV IntKind.u8 16 fun x => 0), Value.bool false] = z_5
  try generalize Value.agg (IV IntKind.u8 16 k) = z_6
  try generalize Value.agg (IV IntKind.u8 16 (K.E k r)) = z_7
  try generalize Value.agg (IV IntKind.u8 16 fun x => 0) = z_8
  try generalize Value.agg (IV IntKind.u8 176 (K.RW k)) = z_9
  generalize Value.bool (decide ((r : Int) < 0)) = zb1
  generalize Value.bool (decide (10 < (r : Int))) = zb2
  generalize Value.bool (decide ((r : Int) < 0) || decide (10 < (r : Int))) = zb3
  obtain ⟨cn, hcn⟩ : ∃ l : List Value, l = (IV .u8 16 (fun _ => 0)).toList := ⟨_, rfl⟩
  have l1 : (Try.prog.info? 22).map (·.size) = some cn.length := by rw [hcn, Array.length_toList, size_IV]; exact size22
  have hE1 : ∀ w, (Op.equalIn 10000 22 (.agg cn.toArray) (.agg cn.toArray)).run Try.prog w = .ok true w := fun w => by
    rw [hcn, Array.toArray_toList]; exact hE _ _
  have SD := hid SB.out.drew
  have HS0 : Hid ((fun w' : World => w'.rangeAt g6 0 cn ∧ True) W7.drew) := by
    refine ⟨?_, ?_⟩
    · have h := V6.out.drew.range 0 16 (by omega)
      rw [hcn]; exact h
    · trivial
  clear hE SB V6 S3
  have Hcn := hid hcn
  clear hcn
  clear hr hr2 hr3 hr9
  refine wp_region_noPanic ?_
  refine wp_region_held_drew (S := fun w' => w'.rangeAt g6 0 cn ∧ True) (by kernel_rfl) ?_ (fun hHeld => ?_)
  · exact HS0.out
  clear HS0
  try simp only [Act.put, List.setIfInBounds_toArray, List.set_cons_zero, List.set_cons_succ]
  refine takeH (i := 0) (d := some 81) (v := .int .i64 (r : Int)) rfl rfl (by kernel_rfl) (by kernel_rfl) (by kernel_rfl) (by kernel_rfl) (fun w hw => by kernel_rfl) hHeld ?_
  try simp only [Act.put, List.setIfInBounds_toArray, List.set_cons_zero, List.set_cons_succ]
  refine takeH (i := 1) (d := some 82) (v := .bool false) rfl rfl (by kernel_rfl) (by kernel_rfl) (by kernel_rfl) (by kernel_rfl) (fun w hw => Eq.trans (b := Result.ok (Next.value (Value.bool (decide ((r : Int) < 10)))) w) (by kernel_rfl) (congrArg (fun b : Bool => Result.ok (Next.value (Value.bool b)) w) hr4)) hHeld ?_
  try simp only [Act.put, List.setIfInBounds_toArray, List.set_cons_zero, List.set_cons_succ]
  refine takeH (i := 2) (d := some 83) (v := .bool false) rfl rfl (by kernel_rfl) (by kernel_rfl) (by kernel_rfl) (by kernel_rfl) (fun w hw => by kernel_rfl) hHeld ?_
  try simp only [Act.put, List.setIfInBounds_toArray, List.set_cons_zero, List.set_cons_succ]
  refine takeP (i := 3) (d := some 84) rfl rfl (by kernel_rfl) (by kernel_rfl) (by kernel_rfl) (by kernel_rfl) hHeld ?_
  try simp only [Act.put, List.setIfInBounds_toArray, List.set_cons_zero, List.set_cons_succ]
  refine takeP (i := 4) (d := some 85) rfl rfl (by kernel_rfl) (by kernel_rfl) (by kernel_rfl) (by kernel_rfl) hHeld ?_
  try simp only [Act.put, List.setIfInBounds_toArray, List.set_cons_zero, List.set_cons_succ]
  refine takeP (i := 5) (d := some 86) rfl rfl (by kernel_rfl) (by kernel_rfl) (by kernel_rfl) (by kernel_rfl) hHeld ?_
  try simp only [Act.put, List.setIfInBounds_toArray, List.set_cons_zero, List.set_cons_succ]
  refine takeP (i := 6) (d := some 87) rfl rfl (by kernel_rfl) (by kernel_rfl) (by kernel_rfl) (by kernel_rfl) hHeld ?_
  try simp only [Act.put, List.setIfInBounds_toArray, List.set_cons_zero, List.set_cons_succ]
  refine takeP (i := 7) (d := some 88) rfl rfl (by kernel_rfl) (by kernel_rfl) (by kernel_rfl) (by kernel_rfl) hHeld ?_
  try simp only [Act.put, List.setIfInBounds_toArray, List.set_cons_zero, List.set_cons_succ]
  refine takeP (i := 8) (d := some 89) rfl rfl (by kernel_rfl) (by kernel_rfl) (by kernel_rfl) (by kernel_rfl) hHeld ?_
  try simp only [Act.put, List.setIfInBounds_toArray, List.set_cons_zero, List.set_cons_succ]
  refine takeH (i := 9) (d := some 90) (v := .bool false) rfl rfl (by kernel_rfl) (by kernel_rfl) (by kernel_rfl) (by kernel_rfl) (fun w hw => by kernel_rfl) hHeld ?_
  try simp only [Act.put, List.setIfInBounds_toArray, List.set_cons_zero, List.set_cons_succ]
  refine takeH (i := 10) (d := some 91) (v := .bool false) rfl rfl (by kernel_rfl) (by kernel_rfl) (by kernel_rfl) (by kernel_rfl) (fun w hw => by kernel_rfl) hHeld ?_
  try simp only [Act.put, List.setIfInBounds_toArray, List.set_cons_zero, List.set_cons_succ]
  refine takeH (i := 11) (d := some 92) (v := .int .i64 (r : Int)) rfl rfl (by kernel_rfl) (by kernel_rfl) (by kernel_rfl) (by kernel_rfl) (fun w hw => by kernel_rfl) hHeld ?_
  try simp only [Act.put, List.setIfInBounds_toArray, List.set_cons_zero, List.set_cons_succ]
  refine takeH (i := 12) (d := some 93) (v := .bool true) rfl rfl (by kernel_rfl) (by kernel_rfl) (by kernel_rfl) (by kernel_rfl) (fun w hw => Eq.trans (b := Result.ok (Next.value (Value.bool ((r : Int) == 10))) w) (by kernel_rfl) (congrArg (fun b : Bool => Result.ok (Next.value (Value.bool b)) w) hr5)) hHeld ?_
  try simp only [Act.put, List.setIfInBounds_toArray, List.set_cons_zero, List.set_cons_succ]
  refine takeH (i := 13) (d := some 94) (v := .bool true) rfl rfl (by kernel_rfl) (by kernel_rfl) (by kernel_rfl) (by kernel_rfl) (fun w hw => by kernel_rfl) hHeld ?_
  try simp only [Act.put, List.setIfInBounds_toArray, List.set_cons_zero, List.set_cons_succ]
  refine takeL (i := 14) (d := some 95) rfl rfl (by kernel_rfl) (by kernel_rfl) (by kernel_rfl) (by kernel_rfl) 22 (.tmp 12) rfl g6 0 (by kernel_rfl) cn (fun w h => h.1) Try.underlying22 rfl l1 hHeld ?_
  try simp only [Act.put, List.setIfInBounds_toArray, List.set_cons_zero, List.set_cons_succ]
  refine takeH (i := 15) (d := some 96) (v := .agg cn.toArray) rfl rfl (by kernel_rfl) (by kernel_rfl) (by kernel_rfl) (by kernel_rfl) (fun w hw => run_build_op rfl (cells := cn.toArray) (by rw [Hcn.out, Array.toArray_toList]; kernel_rfl)) hHeld ?_
  try simp only [Act.put, List.setIfInBounds_toArray, List.set_cons_zero, List.set_cons_succ]
  refine takeH (i := 16) (d := some 97) (v := .bool true) rfl rfl (by kernel_rfl) (by kernel_rfl) (by kernel_rfl) (by kernel_rfl) (fun w hw => run_eql_op (X := cn.toArray) (Y := cn.toArray) rfl (by kernel_rfl) (by kernel_rfl) (eqg22 _ _ _ _ w) (hE1 w)) hHeld ?_
  try simp only [Act.put, List.setIfInBounds_toArray, List.set_cons_zero, List.set_cons_succ]
  refine takeH (i := 17) (d := some 98) (v := .bool true) rfl rfl (by kernel_rfl) (by kernel_rfl) (by kernel_rfl) (by kernel_rfl) (fun w hw => by kernel_rfl) hHeld ?_
  try simp only [Act.put, List.setIfInBounds_toArray, List.set_cons_zero, List.set_cons_succ]
  refine takeH (i := 18) (d := some 99) (v := .bool true) rfl rfl (by kernel_rfl) (by kernel_rfl) (by kernel_rfl) (by kernel_rfl) (fun w hw => by kernel_rfl) hHeld ?_
  try simp only [Act.put, List.setIfInBounds_toArray, List.set_cons_zero, List.set_cons_succ]
  refine takeH (i := 19) (d := some 4) (v := .bool true) rfl rfl (by kernel_rfl) (by kernel_rfl) (by kernel_rfl) (by kernel_rfl) (fun w hw => by kernel_rfl) hHeld ?_
  try simp only [Act.put, List.setIfInBounds_toArray, List.set_cons_zero, List.set_cons_succ]
  refine wpAnyH_done (by kernel_rfl) ?_ _
  refine NoPanic.normal ?_
  go_wp2_with fail
  go_ret
  exact ⟨rfl, SD.out⟩

theorem restore_walk (k : Nat → Nat) (r : Int) (w : World) (hk : ∀ j, k j < 256) (_hlo : -9223372036854775808 ≤ r) (_hhi : r ≤ 9223372036854775807) :
    Calls Try.prog 5 #[.agg (IV .u8 16 k), .int .i64 r] w fun e w' => e = .returned (.bool true) ∧ Below w.heap.size w w' := by
  by_cases h1 : r < 0
  · exact restore_low k r w hk h1
  · by_cases h2 : 10 < r
    · exact restore_high k r w hk h2
    · obtain ⟨r, rfl⟩ := Int.eq_ofNat_of_zero_le (show 0 ≤ r by omega)
      by_cases h3 : r < 10
      · exact restore_mid k r w hk h3
      · exact restore_ten k r w hk (by omega) (by omega)
end Go.Proofs.Ytilbeboejohknaa
