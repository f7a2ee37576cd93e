/- KeysApart returns true for any two rows of 16 bytes and every byte, and turns nothing that was there. -/
import Derived.Test.YtilbeboejohknaaOps
namespace Go.Proofs.Ytilbeboejohknaa
open Go.RowKit

theorem eqN_E (a b : Nat → Nat) (m : Nat) : eqN 16 (K.E a m) (K.E b m) = eqN 16 a b := by
  rw [Bool.eq_iff_iff, eqN_iff, eqN_iff]
  refine ⟨fun h j hj => ?_, fun h => K.E_congr h m⟩
  rw [← K.R_E a m j hj, ← K.R_E b m j hj]
  exact K.R_congr m h j hj

theorem index_back (a : Nat → Nat) (m : Nat) (hm : m < 11) (w : World) :
    (Instr.index 31 (.agg (IV .u8 176 (K.RW (K.R m a)))) (.int .i64 (m : Int))).run Try.prog w = .ok (.agg (IV .u8 16 a)) w := by
  have h := run_index_rows (P := Try.prog) w (t := 31) (e := 22) (kk := .i64) (k := .u8) (n := 11) (m := 16) Try.underlying31 Try.underlying22 size22 (K.RW (K.R m a)) m hm
  rw [IV_ext _ _ _ a (fun j hj => (K.RW_row (K.R m a) m j hj).trans (K.E_R m a j hj))] at h
  exact h

set_option maxRecDepth 100000 in
set_option maxHeartbeats 4000000 in
theorem apart_in (a b : Nat → Nat) (m r : Nat) (w : World) (ha : ∀ j, a j < 256) (hb : ∀ j, b j < 256) (hr : r < 256) (hm : m < 11) (hrm : Int.tmod (r : Int) 11 = (m : Int)) :
    Calls Try.prog 6 #[.agg (IV .u8 16 a), .agg (IV .u8 16 b), .int .u8 (r : Int)] w fun e w' => e = .returned (.bool true) ∧ Below w.heap.size w w' := by
  have HA := hid ha
  have HBb := hid hb
  clear ha hb
  have c1 : IntKind.i64.wrap (r : Int) = (r : Int) := IntWalk.i64_in _ (by omega)
  have c2 : IntKind.i64.wrap (m : Int) = (m : Int) := IntWalk.i64_in _ (by omega)
  have c3 : ((m : Int)).toNat = m := Int.toNat_natCast m
  have A0 := hid ((Has.new w 22 (IV .u8 16 a)).alloc (.cells (IV .u8 16 b) 22))
  have b0 := Has.new (w.alloc (.cells (IV .u8 16 a) 22)) 22 (IV .u8 16 b)
  simp only [World.size_alloc] at b0
  have C0 := hid b0
  have B0 := hid (((Below.refl w.heap.size w).alloc (Nat.le_refl _) (.cells (IV .u8 16 a) 22)).alloc (by simp) (.cells (IV .u8 16 b) 22))
  clear b0
  go_enter Try.func6, Try.ntmps6
  go_wp2_with fail
  refine (awake_any _).mono ?_
  rintro e w1 ⟨rfl, hb1⟩
  have A1 := hid (A0.out.below hb1 A0.out.lt)
  have C1 := hid (C0.out.below hb1 C0.out.lt)
  have B1 := hid (B0.out.trans (hb1.mono B0.out.size))
  clear A0 C0 B0 hb1
  go_wp2_with (refine wpList_load_row rfl 22 _ rfl w.heap.size rfl 22 _ (0, 0) _ A1.out Try.underlying22 rfl (by rw [size_IV]; exact size22) ?_)
  refine (restore_in a HA.out (m : Int) _ (by omega) (by omega)).mono ?_
  rintro e w3 ⟨rfl, hb3⟩
  rw [Int.toNat_natCast]
  unfold someKey
  have MA3 := hid (A1.out.below hb3 A1.out.lt)
  have MC3 := hid (C1.out.below hb3 C1.out.lt)
  have MB3 := hid (B1.out.trans (hb3.mono B1.out.size))
  clear A1 C1 B1 hb3
  have T3 := hid (Has.new w3 22 (IV .u8 16 fun _ => 0))
  have V3 := hid (T3.out.setRow (IV .u8 16 (K.R m a)))
  have A3 := hid ((MA3.out.alloc (.cells (IV .u8 16 fun _ => 0) 22)).setRowOther w3.heap.size (IV .u8 16 (K.R m a)) (by have := MA3.out.lt; omega))
  have C3 := hid ((MC3.out.alloc (.cells (IV .u8 16 fun _ => 0) 22)).setRowOther w3.heap.size (IV .u8 16 (K.R m a)) (by have := MC3.out.lt; omega))
  have B3 := hid (Below.setRow (MB3.out.alloc MB3.out.size (.cells (IV .u8 16 fun _ => 0) 22)) (g' := w3.heap.size) MB3.out.size (IV .u8 16 (K.R m a)))
  clear MA3 MC3 MB3
  go_wp2_with (first | (refine wpList_alloc_of rfl 22 rfl _ zero22 w3.heap.size rfl ?_) | (refine wpList_store_row rfl 22 _ _ rfl w3.heap.size (IV .u8 16 (K.R m a)) rfl rfl 22 _ T3.out (by rw [size_IV]; exact size22) (by simp only [size_IV]) (oneCell_IV _ _ _) ?_) | (refine wpList_load_row rfl 22 _ rfl w.heap.size rfl 22 _ (0, 0) _ A3.out Try.underlying22 rfl (by rw [size_IV]; exact size22) ?_))
  clear T3
  generalize (w3.alloc (.cells (IV .u8 16 fun _ => 0) 22)).setRow w3.heap.size (IV .u8 16 (K.R m a)) = W3 at *
  generalize w3.heap.size = gk at *
  refine (expand_any a HA.out _).mono ?_
  rintro e w5 ⟨rfl, hb5⟩
  have z31 := zero31
  have MA5 := hid (A3.out.below hb5 A3.out.lt)
  have MC5 := hid (C3.out.below hb5 C3.out.lt)
  have MK5 := hid (V3.out.below hb5 V3.out.lt)
  have MB5 := hid (B3.out.trans (hb5.mono B3.out.size))
  clear A3 C3 V3 B3 hb5
  have T5 := hid (Has.new w5 31 (IV .u8 176 fun _ => 0))
  have V5 := hid (T5.out.setRow (IV .u8 176 (K.RW a)))
  have A5 := hid ((MA5.out.alloc (.cells (IV .u8 176 fun _ => 0) 31)).setRowOther w5.heap.size (IV .u8 176 (K.RW a)) (by have := MA5.out.lt; omega))
  have C5 := hid ((MC5.out.alloc (.cells (IV .u8 176 fun _ => 0) 31)).setRowOther w5.heap.size (IV .u8 176 (K.RW a)) (by have := MC5.out.lt; omega))
  have K5 := hid ((MK5.out.alloc (.cells (IV .u8 176 fun _ => 0) 31)).setRowOther w5.heap.size (IV .u8 176 (K.RW a)) (by have := MK5.out.lt; omega))
  have B5 := hid (Below.setRow (MB5.out.alloc MB5.out.size (.cells (IV .u8 176 fun _ => 0) 31)) (g' := w5.heap.size) MB5.out.size (IV .u8 176 (K.RW a)))
  clear MA5 MC5 MK5 MB5
  go_wp2_with (first | (refine wpList_alloc_of rfl 31 rfl _ zero31 w5.heap.size rfl ?_) | (refine wpList_store_row rfl 31 _ _ rfl w5.heap.size (IV .u8 176 (K.RW a)) rfl rfl 31 _ T5.out (by rw [size_IV]; exact size31) (by simp only [size_IV]) (oneCell_IV _ _ _) ?_) | (refine wpList_load_row rfl 22 _ rfl (w.heap.size + 1) rfl 22 _ (0, 0) _ C5.out Try.underlying22 rfl (by rw [size_IV]; exact size22) ?_))
  clear T5
  generalize (w5.alloc (.cells (IV .u8 176 fun _ => 0) 31)).setRow w5.heap.size (IV .u8 176 (K.RW a)) = W5 at *
  generalize w5.heap.size = gx at *
  refine (expand_any b HBb.out _).mono ?_
  rintro e w7 ⟨rfl, hb7⟩
  have MA7 := hid (A5.out.below hb7 A5.out.lt)
  have MC7 := hid (C5.out.below hb7 C5.out.lt)
  have MK7 := hid (K5.out.below hb7 K5.out.lt)
  have MX7 := hid (V5.out.below hb7 V5.out.lt)
  have MB7 := hid (B5.out.trans (hb7.mono B5.out.size))
  clear A5 C5 K5 V5 B5 hb7
  have T7 := hid (Has.new w7 31 (IV .u8 176 fun _ => 0))
  have V7 := hid (T7.out.setRow (IV .u8 176 (K.RW b)))
  have A7 := hid ((MA7.out.alloc (.cells (IV .u8 176 fun _ => 0) 31)).setRowOther w7.heap.size (IV .u8 176 (K.RW b)) (by have := MA7.out.lt; omega))
  have C7 := hid ((MC7.out.alloc (.cells (IV .u8 176 fun _ => 0) 31)).setRowOther w7.heap.size (IV .u8 176 (K.RW b)) (by have := MC7.out.lt; omega))
  have K7 := hid ((MK7.out.alloc (.cells (IV .u8 176 fun _ => 0) 31)).setRowOther w7.heap.size (IV .u8 176 (K.RW b)) (by have := MK7.out.lt; omega))
  have X7 := hid ((MX7.out.alloc (.cells (IV .u8 176 fun _ => 0) 31)).setRowOther w7.heap.size (IV .u8 176 (K.RW b)) (by have := MX7.out.lt; omega))
  have B7 := hid (Below.setRow (MB7.out.alloc MB7.out.size (.cells (IV .u8 176 fun _ => 0) 31)) (g' := w7.heap.size) MB7.out.size (IV .u8 176 (K.RW b)))
  clear MA7 MC7 MK7 MX7 MB7
  go_wp2_with (first | (refine wpList_alloc_of rfl 31 rfl _ zero31 w7.heap.size rfl ?_) | (refine wpList_store_row rfl 31 _ _ rfl w7.heap.size (IV .u8 176 (K.RW b)) rfl rfl 31 _ T7.out (by rw [size_IV]; exact size31) (by simp only [size_IV]) (oneCell_IV _ _ _) ?_))
  clear T7
  generalize (w7.alloc (.cells (IV .u8 176 fun _ => 0) 31)).setRow w7.heap.size (IV .u8 176 (K.RW b)) = W7 at *
  generalize w7.heap.size = gy at *
  clear z31 c1
  have A8 := hid A7.out.drew
  have C8 := hid C7.out.drew
  have K8 := hid K7.out.drew
  have X8 := hid X7.out.drew
  have Y8 := hid V7.out.drew
  have B8 := hid B7.out.drew
  clear A7 C7 K7 X7 V7 B7
  obtain ⟨W8, hW8⟩ : ∃ W8, W8 = W7.drew := ⟨_, rfl⟩
  obtain ⟨ca, hca⟩ : ∃ l : List Value, l = (IV .u8 16 a).toList := ⟨_, rfl⟩
  obtain ⟨cb, hcb⟩ : ∃ l : List Value, l = (IV .u8 16 b).toList := ⟨_, rfl⟩
  obtain ⟨ck, hck⟩ : ∃ l : List Value, l = (IV .u8 16 (K.R m a)).toList := ⟨_, rfl⟩
  obtain ⟨cx, hcx⟩ : ∃ l : List Value, l = (IV .u8 16 (K.E a m)).toList := ⟨_, rfl⟩
  obtain ⟨cy, hcy⟩ : ∃ l : List Value, l = (IV .u8 16 (K.E b m)).toList := ⟨_, rfl⟩
  obtain ⟨cr, hcr⟩ : ∃ l : Array Value, l = IV .u8 176 (K.RW (K.R m a)) := ⟨_, rfl⟩
  obtain ⟨t, ht⟩ : ∃ t : Bool, t = eqN 16 a b := ⟨_, rfl⟩
  have l1 : (Try.prog.info? 22).map (·.size) = some ca.length := by rw [hca, Array.length_toList, size_IV]; exact size22
  have l2 : (Try.prog.info? 22).map (·.size) = some cb.length := by rw [hcb, Array.length_toList, size_IV]; exact size22
  have l3 : (Try.prog.info? 22).map (·.size) = some ck.length := by rw [hck, Array.length_toList, size_IV]; exact size22
  have l4 : (Try.prog.info? 22).map (·.size) = some cx.length := by rw [hcx, Array.length_toList, size_IV]; exact size22
  have l5 : (Try.prog.info? 22).map (·.size) = some cy.length := by rw [hcy, Array.length_toList, size_IV]; exact size22
  have e1 : ∀ w, (Op.equalIn 10000 22 (.agg ca.toArray) (.agg ca.toArray)).run Try.prog w = .ok true w := fun w => by
    rw [hca, Array.toArray_toList, eq22, eqN_true (fun _ _ => rfl)]
  have e2 : ∀ w, (Op.equalIn 10000 22 (.agg ca.toArray) (.agg cb.toArray)).run Try.prog w = .ok t w := fun w => by
    rw [hca, hcb, Array.toArray_toList, Array.toArray_toList, eq22, ht]
  have e3 : ∀ w, (Op.equalIn 10000 22 (.agg cx.toArray) (.agg cy.toArray)).run Try.prog w = .ok t w := fun w => by
    rw [hcx, hcy, Array.toArray_toList, Array.toArray_toList, eq22, ht, eqN_E]
  have e4 : ∀ w, (Instr.index 31 (.agg cr) (.int .i64 (m : Int))).run Try.prog w = .ok (.agg ca.toArray) w := fun w => by
    rw [hcr, hca, Array.toArray_toList]
    exact index_back a m hm w
  have HC : Hid (∀ w, Calls Try.prog 12 #[.agg ck.toArray] w fun e w' => e = .returned (.agg cr) ∧ Below w.heap.size w w') := fun w => by
    rw [hck, hcr, Array.toArray_toList]
    exact rexpand_any _ (K.R_lt m a HA.out) w
  have HX : ∀ w', Below W8.heap.size W8 w' → w'.rangeAt gk 0 ck ∧ w'.rangeAt w.heap.size 0 ca ∧ w'.rangeAt (w.heap.size + 1) 0 cb ∧ w'.rangeAt gx (m * 16) cx ∧ w'.rangeAt gy (m * 16) cy := fun w' hb => by
    subst hW8
    refine ⟨?_, ?_, ?_, ?_, ?_⟩
    · have h := (K8.out.below hb K8.out.lt).range 0 16 (by omega)
      rw [IV_ext _ _ _ (K.R m a) (fun j _ => by rw [Nat.zero_add]), ← hck] at h; exact h
    · have h := (A8.out.below hb A8.out.lt).range 0 16 (by omega)
      rw [IV_ext _ _ _ a (fun j _ => by rw [Nat.zero_add]), ← hca] at h; exact h
    · have h := (C8.out.below hb C8.out.lt).range 0 16 (by omega)
      rw [IV_ext _ _ _ b (fun j _ => by rw [Nat.zero_add]), ← hcb] at h; exact h
    · have h := (X8.out.below hb X8.out.lt).range (m * 16) 16 (by omega)
      rw [IV_ext _ _ _ (K.E a m) (fun j hj => K.RW_row a m j hj), ← hcx] at h; exact h
    · have h := (Y8.out.below hb Y8.out.lt).range (m * 16) 16 (by omega)
      rw [IV_ext _ _ _ (K.E b m) (fun j hj => K.RW_row b m j hj), ← hcy] at h; exact h
  have HXX := hid HX
  have s1 := HX W8 (Below.refl W8.heap.size W8)
  obtain ⟨s1, s2, s3, s4, s5⟩ := s1
  have hu := Try.underlying22
  clear HX hca hcb hck hcx hcy hcr ht HA HBb A8 C8 K8 X8 Y8
  have i0 : (0 : Int) ≤ (m : Int) := Int.natCast_nonneg _
  have i1 : (m : Int) < 11 := by omega
  clear hrm hr
  generalize w.heap.size + 1 = gb at *
  obtain ⟨ga, hga⟩ : ∃ x, x = w.heap.size := ⟨_, rfl⟩
  rw [← hga] at s2 HXX ⊢
  have Hga := hid hga
  clear hga
  subst hW8
  simp only [World.rangeAt_drew] at s1 s2 s3 s4 s5
  generalize Value.agg (IV .u8 16 a) = z1
  generalize Value.agg (IV .u8 16 b) = z2
  generalize Value.agg (IV .u8 176 (K.RW a)) = z3
  generalize Value.agg (IV .u8 176 (K.RW b)) = z4
  generalize Value.agg (IV .u8 16 (K.R m a)) = z5
  generalize Value.int .u8 (r : Int) = z7
  generalize Value.int .i64 (r : Int) = z8
  refine wp_region_noPanic ?_
  refine wp_region_held_drew (S := fun w' => w'.rangeAt gk 0 ck ∧ w'.rangeAt ga 0 ca ∧ w'.rangeAt gb 0 cb ∧ w'.rangeAt gx (m * 16) cx ∧ w'.rangeAt gy (m * 16) cy) (by kernel_rfl) ?_ (fun hHeld => ?_)
  · go_keep_ranges
  try simp only [Act.put, List.setIfInBounds_toArray, List.set_cons_zero, List.set_cons_succ]
  refine takeH (i := 0) (d := some 27) (v := .bool true) rfl rfl (by kernel_rfl) (by kernel_rfl) (by kernel_rfl) (by rfl) (fun w hw => rfl) hHeld ?_
  try simp only [Act.put, List.setIfInBounds_toArray, List.set_cons_zero, List.set_cons_succ]
  refine takeH (i := 1) (d := some 28) (v := .bool true) rfl rfl (by kernel_rfl) (by kernel_rfl) (by kernel_rfl) (by rfl) (fun w hw => rfl) hHeld ?_
  try simp only [Act.put, List.setIfInBounds_toArray, List.set_cons_zero, List.set_cons_succ]
  refine takeL (i := 2) (d := some 29) rfl rfl (by kernel_rfl) (by kernel_rfl) (by kernel_rfl) (by rfl) 22 (.tmp 8) rfl gk 0 rfl ck (fun w h => h.1) Try.underlying22 rfl l3 hHeld ?_
  try simp only [Act.put, List.setIfInBounds_toArray, List.set_cons_zero, List.set_cons_succ]
  refine takeH (i := 4) (d := some 31) (v := .int .i64 (m : Int)) rfl rfl (by kernel_rfl) (by kernel_rfl) (by kernel_rfl) (by rfl) (fun w hw => rfl) hHeld ?_
  try simp only [Act.put, List.setIfInBounds_toArray, List.set_cons_zero, List.set_cons_succ]
  refine takeL (i := 6) (d := some 33) rfl rfl (by kernel_rfl) (by kernel_rfl) (by kernel_rfl) (by rfl) 22 (.tmp 3) rfl ga 0 rfl ca (fun w h => h.2.1) Try.underlying22 rfl l1 hHeld ?_
  try simp only [Act.put, List.setIfInBounds_toArray, List.set_cons_zero, List.set_cons_succ]
  refine wpAnyH_ready (rs := [3]) (by kernel_rfl) (by simp) ?_
  refine AllReadyH.cons (o := _) rfl (fun K hK => ?_) AllReadyH.nil
  go_simp
  refine (HC.out _).mono ?_
  rintro e w9 ⟨rfl, hb9⟩
  have hHeld9 := HXX.out w9 hb9
  have B9 := hid (B8.out.trans (hb9.mono B8.out.size))
  clear hHeld s1 s2 s3 s4 s5 HXX B8 hb9
  go_wp2_with fail
  refine hK.out _ _ hHeld9 (fun hHeld => ?_)
  clear hK K hHeld9
  try simp only [Act.put, List.setIfInBounds_toArray, List.set_cons_zero, List.set_cons_succ]
  refine takeH (i := 5) (d := some 32) (v := .agg ca.toArray) rfl rfl (by kernel_rfl) (by kernel_rfl) (by kernel_rfl) (by rfl) (fun w hw => run_index_op rfl rfl rfl (e4 w)) hHeld ?_
  try simp only [Act.put, List.setIfInBounds_toArray, List.set_cons_zero, List.set_cons_succ]
  refine takeH (i := 7) (d := some 34) (v := .bool true) rfl rfl (by kernel_rfl) (by kernel_rfl) (by kernel_rfl) (by rfl) (fun w hw => run_eql_op rfl rfl rfl (eqg22 _ _ _ _ w) (e1 w)) hHeld ?_
  try simp only [Act.put, List.setIfInBounds_toArray, List.set_cons_zero, List.set_cons_succ]
  refine takeH (i := 8) (d := some 35) (v := .bool true) rfl rfl (by kernel_rfl) (by kernel_rfl) (by kernel_rfl) (by rfl) (fun w hw => rfl) hHeld ?_
  try simp only [Act.put, List.setIfInBounds_toArray, List.set_cons_zero, List.set_cons_succ]
  refine takeH (i := 9) (d := some 36) (v := .bool true) rfl rfl (by kernel_rfl) (by kernel_rfl) (by kernel_rfl) (by rfl) (fun w hw => rfl) hHeld ?_
  try simp only [Act.put, List.setIfInBounds_toArray, List.set_cons_zero, List.set_cons_succ]
  refine takeH (i := 10) (d := some 37) (v := .int .i64 (m : Int)) rfl rfl (by kernel_rfl) (by kernel_rfl) (by kernel_rfl) (by rfl) (fun w hw => rfl) hHeld ?_
  try simp only [Act.put, List.setIfInBounds_toArray, List.set_cons_zero, List.set_cons_succ]
  refine takeH (i := 11) (d := some 38) (v := .pointer (some ⟨gx, m * 16, none⟩)) rfl rfl (by kernel_rfl) (by kernel_rfl) (by kernel_rfl) (by rfl) (fun w hw => by go_simp) hHeld ?_
  try simp only [Act.put, List.setIfInBounds_toArray, List.set_cons_zero, List.set_cons_succ]
  refine takeL (i := 12) (d := some 39) rfl rfl (by kernel_rfl) (by kernel_rfl) (by kernel_rfl) (by rfl) 22 (.tmp 38) rfl gx (m * 16) rfl cx (fun w h => h.2.2.2.1) Try.underlying22 rfl l4 hHeld ?_
  try simp only [Act.put, List.setIfInBounds_toArray, List.set_cons_zero, List.set_cons_succ]
  refine takeH (i := 13) (d := some 40) (v := .int .i64 (m : Int)) rfl rfl (by kernel_rfl) (by kernel_rfl) (by kernel_rfl) (by rfl) (fun w hw => rfl) hHeld ?_
  try simp only [Act.put, List.setIfInBounds_toArray, List.set_cons_zero, List.set_cons_succ]
  refine takeH (i := 14) (d := some 41) (v := .pointer (some ⟨gy, m * 16, none⟩)) rfl rfl (by kernel_rfl) (by kernel_rfl) (by kernel_rfl) (by rfl) (fun w hw => by go_simp) hHeld ?_
  try simp only [Act.put, List.setIfInBounds_toArray, List.set_cons_zero, List.set_cons_succ]
  refine takeL (i := 15) (d := some 42) rfl rfl (by kernel_rfl) (by kernel_rfl) (by kernel_rfl) (by rfl) 22 (.tmp 41) rfl gy (m * 16) rfl cy (fun w h => h.2.2.2.2) Try.underlying22 rfl l5 hHeld ?_
  try simp only [Act.put, List.setIfInBounds_toArray, List.set_cons_zero, List.set_cons_succ]
  refine takeH (i := 16) (d := some 43) (v := .bool t) rfl rfl (by kernel_rfl) (by kernel_rfl) (by kernel_rfl) (by rfl) (fun w hw => run_eql_op rfl rfl rfl (eqg22 _ _ _ _ w) (e3 w)) hHeld ?_
  try simp only [Act.put, List.setIfInBounds_toArray, List.set_cons_zero, List.set_cons_succ]
  refine takeL (i := 17) (d := some 44) rfl rfl (by kernel_rfl) (by kernel_rfl) (by kernel_rfl) (by rfl) 22 (.tmp 3) rfl ga 0 rfl ca (fun w h => h.2.1) Try.underlying22 rfl l1 hHeld ?_
  try simp only [Act.put, List.setIfInBounds_toArray, List.set_cons_zero, List.set_cons_succ]
  refine takeL (i := 18) (d := some 45) rfl rfl (by kernel_rfl) (by kernel_rfl) (by kernel_rfl) (by rfl) 22 (.tmp 4) rfl gb 0 rfl cb (fun w h => h.2.2.1) Try.underlying22 rfl l2 hHeld ?_
  try simp only [Act.put, List.setIfInBounds_toArray, List.set_cons_zero, List.set_cons_succ]
  refine takeH (i := 19) (d := some 46) (v := .bool t) rfl rfl (by kernel_rfl) (by kernel_rfl) (by kernel_rfl) (by rfl) (fun w hw => run_eql_op rfl rfl rfl (eqg22 _ _ _ _ w) (e2 w)) hHeld ?_
  try simp only [Act.put, List.setIfInBounds_toArray, List.set_cons_zero, List.set_cons_succ]
  refine takeH (i := 20) (d := some 47) (v := .bool true) rfl rfl (by kernel_rfl) (by kernel_rfl) (by kernel_rfl) (by rfl) (fun w hw => by cases t <;> rfl) hHeld ?_
  try simp only [Act.put, List.setIfInBounds_toArray, List.set_cons_zero, List.set_cons_succ]
  refine takeH (i := 21) (d := some 48) (v := .bool true) rfl rfl (by kernel_rfl) (by kernel_rfl) (by kernel_rfl) (by rfl) (fun w hw => rfl) hHeld ?_
  try simp only [Act.put, List.setIfInBounds_toArray, List.set_cons_zero, List.set_cons_succ]
  refine takeH (i := 22) (d := some 6) (v := .bool true) rfl rfl (by kernel_rfl) (by kernel_rfl) (by kernel_rfl) (by rfl) (fun w hw => rfl) hHeld ?_
  try simp only [Act.put, List.setIfInBounds_toArray, List.set_cons_zero, List.set_cons_succ]
  refine wpAnyH_done (by kernel_rfl) ?_ _
  refine NoPanic.normal ?_
  go_wp2_with fail
  go_ret
  exact ⟨rfl, B9.out⟩

theorem apart_walk (a b : Nat → Nat) (r : Int) (w : World) (ha : ∀ j, a j < 256) (hb : ∀ j, b j < 256) (h0 : 0 ≤ r) (h1 : r ≤ 255) :
    Calls Try.prog 6 #[.agg (IV .u8 16 a), .agg (IV .u8 16 b), .int .u8 r] w fun e w' => e = .returned (.bool true) ∧ Below w.heap.size w w' := by
  obtain ⟨r, rfl⟩ := Int.eq_ofNat_of_zero_le h0
  exact apart_in a b (r % 11) r w ha hb (by omega) (by omega) (by rw [Int.tmod_eq_emod_of_nonneg (by omega)]; omega)
end Go.Proofs.Ytilbeboejohknaa
