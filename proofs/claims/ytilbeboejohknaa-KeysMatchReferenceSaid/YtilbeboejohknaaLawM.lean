/- KeysMatchReference returns true for every key, and turns nothing that was there. -/
import Derived.Test.YtilbeboejohknaaOps
namespace Go.Proofs.Ytilbeboejohknaa
open Go.RowKit

theorem K.RW_word (k : Nat → Nat) (i c : Nat) (hc : c < 4) : K.RW k (i * 4 + c) = K.E k (i / 4) (4 * (i % 4) + c) := by
  unfold K.RW
  rw [show (i * 4 + c) / 16 = i / 4 from by omega, show (i * 4 + c) % 16 = 4 * (i % 4) + c from by omega]

theorem WW_bytes (k : Nat → Nat) (i : Nat) : K.WW k i = K.mk4 (K.RW k (i * 4)) (K.RW k (i * 4 + 1)) (K.RW k (i * 4 + 2)) (K.RW k (i * 4 + 3)) := by
  have h0 := K.RW_word k i 0 (by omega)
  rw [Nat.add_zero, Nat.add_zero] at h0
  rw [h0, K.RW_word k i 1 (by omega), K.RW_word k i 2 (by omega), K.RW_word k i 3 (by omega)]
  rfl

theorem keep_row {W : World} {g : Nat} {f : Nat → Nat} (h : Has W g 22 (IV .u8 16 f)) : W.rangeAt g 0 (IV .u8 16 f).toList := by
  have h1 := h.range 0 16 (by omega)
  rw [IV_ext _ _ _ f (fun j _ => by rw [Nat.zero_add])] at h1
  exact h1

theorem eqg31 (x y : Operand) (X Y : Array Value) (w : World) : (eqGuard .eql 31 x y (.agg X) (.agg Y)).run Try.prog w = .ok () w := by
  rfl

set_option maxRecDepth 100000 in
set_option maxHeartbeats 2000000 in
theorem match_walk (k : Nat → Nat) (w : World) (hk : ∀ j, k j < 256) :
    Calls Try.prog 3 #[.agg (IV .u8 16 k)] w fun e w' => e = .returned (.bool true) ∧ Below w.heap.size w w' := by
  have HK := hid hk
  clear hk
  have A0 := hid (Has.new w 22 (IV .u8 16 k))
  have B0 := hid ((Below.refl w.heap.size w).alloc (Nat.le_refl _) (.cells (IV .u8 16 k) 22))
  go_enter Try.func3, Try.ntmps3
  go_wp2_with fail
  refine (awake_any _).mono ?_
  rintro e w1 ⟨rfl, hb1⟩
  have A1 := hid (A0.out.below hb1 A0.out.lt)
  have B1 := hid (B0.out.trans (hb1.mono B0.out.size))
  clear A0 B0 hb1
  go_wp2_with (refine wpList_load_row rfl 22 _ rfl w.heap.size rfl 22 _ (0, 0) _ A1.out Try.underlying22 rfl (by rw [size_IV]; exact size22) ?_)
  refine (words_any k HK.out _).mono ?_
  rintro e w3 ⟨rfl, hb3⟩
  have MA3 := hid (A1.out.below hb3 A1.out.lt)
  have MB3 := hid (B1.out.trans (hb3.mono B1.out.size))
  clear A1 B1 hb3
  have T3 := hid (Has.new w3 25 (IV .u32 44 fun _ => 0))
  have V3 := hid (T3.out.setRow (IV .u32 44 (K.WW k)))
  have A3 := hid ((MA3.out.alloc (.cells (IV .u32 44 fun _ => 0) 25)).setRowOther w3.heap.size (IV .u32 44 (K.WW k)) (by have := MA3.out.lt; omega))
  have B3 := hid (Below.setRow (MB3.out.alloc MB3.out.size (.cells (IV .u32 44 fun _ => 0) 25)) (g' := w3.heap.size) MB3.out.size (IV .u32 44 (K.WW k)))
  clear MA3 MB3
  go_wp2_with (first | (refine wpList_alloc_of rfl 25 rfl _ zero25 w3.heap.size rfl ?_) | (refine wpList_store_row rfl 25 _ _ rfl w3.heap.size (IV .u32 44 (K.WW k)) rfl rfl 25 _ T3.out (by rw [size_IV]; exact size25) (by simp only [size_IV]) (oneCell_IV _ _ _) ?_) | (refine wpList_load_row rfl 22 _ rfl w.heap.size rfl 22 _ (0, 0) _ A3.out Try.underlying22 rfl (by rw [size_IV]; exact size22) ?_))
  clear T3
  generalize (w3.alloc (.cells (IV .u32 44 fun _ => 0) 25)).setRow w3.heap.size (IV .u32 44 (K.WW k)) = W3 at *
  generalize w3.heap.size = gw at *
  refine (rwords_any k HK.out _).mono ?_
  rintro e w5 ⟨rfl, hb5⟩
  have MA5 := hid (A3.out.below hb5 A3.out.lt)
  have MX5 := hid (V3.out.below hb5 V3.out.lt)
  have MB5 := hid (B3.out.trans (hb5.mono B3.out.size))
  clear A3 V3 B3 hb5
  have T5 := hid (Has.new w5 28 (IV .u8 176 fun _ => 0))
  have V5 := hid (T5.out.setRow (IV .u8 176 (K.RW k)))
  have A5 := hid ((MA5.out.alloc (.cells (IV .u8 176 fun _ => 0) 28)).setRowOther w5.heap.size (IV .u8 176 (K.RW k)) (by have := MA5.out.lt; omega))
  have X5 := hid ((MX5.out.alloc (.cells (IV .u8 176 fun _ => 0) 28)).setRowOther w5.heap.size (IV .u8 176 (K.RW k)) (by have := MX5.out.lt; omega))
  have B5 := hid (Below.setRow (MB5.out.alloc MB5.out.size (.cells (IV .u8 176 fun _ => 0) 28)) (g' := w5.heap.size) MB5.out.size (IV .u8 176 (K.RW k)))
  clear MA5 MX5 MB5
  go_wp2_with (first | (refine wpList_alloc_of rfl 28 rfl _ zero28 w5.heap.size rfl ?_) | (refine wpList_store_row rfl 28 _ _ rfl w5.heap.size (IV .u8 176 (K.RW k)) rfl rfl 28 _ T5.out (by rw [size_IV]; exact size28) (by simp only [size_IV]) (oneCell_IV _ _ _) ?_))
  clear T5
  generalize (w5.alloc (.cells (IV .u8 176 fun _ => 0) 28)).setRow w5.heap.size (IV .u8 176 (K.RW k)) = W5 at *
  generalize w5.heap.size = gv at *
  go_loopw [5] (fun n wr => ∃ i : Nat, n = .int .i64 i ∧ i ≤ 44 ∧ Hid (Below w.heap.size w wr) ∧ Hid (Has wr w.heap.size 22 (IV .u8 16 k)) ∧ Hid (Has wr gw 25 (IV .u32 44 (K.WW k))) ∧ Hid (Has wr gv 28 (IV .u8 176 (K.RW k)))) (fun n _ => 44 - (intOf n).toNat)
  case atStart => exact ⟨0, rfl, by omega, B5, A5, X5, V5⟩
  case round =>
    clear B5 A5 X5 V5
    obtain ⟨i, rfl, hi, HB, HA, HX, HV⟩ := hrel
    by_cases hl : i < 44
    · go_wp2_with fail
      have cw := HX.out.cellIV (j := i) hl
      have c0 := HV.out.cellIV (j := i * 4) (by omega)
      have c1 := HV.out.cellIV (j := i * 4 + 1) (by omega)
      have c2 := HV.out.cellIV (j := i * 4 + 2) (by omega)
      have c3 := HV.out.cellIV (j := i * 4 + 3) (by omega)
      have b0 := K.RW_lt k HK.out (i * 4)
      have b1 := K.RW_lt k HK.out (i * 4 + 1)
      have b2 := K.RW_lt k HK.out (i * 4 + 2)
      have b3 := K.RW_lt k HK.out (i * 4 + 3)
      rw [WW_bytes k i] at cw
      generalize K.RW k (i * 4) = p0 at *
      generalize K.RW k (i * 4 + 1) = p1 at *
      generalize K.RW k (i * 4 + 2) = p2 at *
      generalize K.RW k (i * 4 + 3) = p3 at *
      have s1 : IntKind.u32.wrap ((p0 : Int) * 16777216 + (p1 : Int) * 65536) = (p0 : Int) * 16777216 + (p1 : Int) * 65536 := IntWalk.u32_in _ (by omega)
      have s2 : IntKind.u32.wrap ((p0 : Int) * 16777216 + (p1 : Int) * 65536 + (p2 : Int) * 256) = (p0 : Int) * 16777216 + (p1 : Int) * 65536 + (p2 : Int) * 256 := IntWalk.u32_in _ (by omega)
      have s3 : IntKind.u32.wrap ((p0 : Int) * 16777216 + (p1 : Int) * 65536 + (p2 : Int) * 256 + (p3 : Int)) = ((K.mk4 p0 p1 p2 p3 : Nat) : Int) := by
        unfold K.mk4; rw [IntWalk.u32_in _ (by omega)]; omega
      generalize K.mk4 p0 p1 p2 p3 = W0 at cw s3
      have i0 : (0 : Int) ≤ (i : Int) := Int.natCast_nonneg _
      have i1 : (i : Int) < 44 := by omega
      go_quiet (fail)
      clear cw c0 c1 c2 c3 s1 s2 s3 b0 b1 b2 b3
      go_wp2_with fail
      exact ⟨⟨i + 1, by go_num, by omega, Below.drewN HB.out _, HA.out.drewN _, HX.out.drewN _, HV.out.drewN _⟩, by simp [intOf]; omega⟩
    · obtain rfl : i = 44 := by omega
      go_wp2_with fail
      have A8 := hid HA.out.drew
      have B8 := hid HB.out.drew
      clear HX HV HA HB
      obtain ⟨ck, hck⟩ : ∃ l : List Value, l = (IV .u8 16 k).toList := ⟨_, rfl⟩
      obtain ⟨cr, hcr⟩ : ∃ l : Array Value, l = IV .u8 176 (K.RW k) := ⟨_, rfl⟩
      have l3 : (Try.prog.info? 22).map (·.size) = some ck.length := by rw [hck, Array.length_toList, size_IV]; exact size22
      have e3 : ∀ w, (Op.equalIn 10000 31 (.agg cr) (.agg cr)).run Try.prog w = .ok true w := fun w => by rw [hcr, eq31 _ _ (fun _ _ => rfl)]
      have HC11 : Hid (∀ w, Calls Try.prog 11 #[.agg ck.toArray] w fun e w' => e = .returned (.agg cr) ∧ Below w.heap.size w w') := fun w => by
        rw [hck, hcr, Array.toArray_toList]; exact expand_any k HK.out w
      have HC12 : Hid (∀ w, Calls Try.prog 12 #[.agg ck.toArray] w fun e w' => e = .returned (.agg cr) ∧ Below w.heap.size w w') := fun w => by
        rw [hck, hcr, Array.toArray_toList]; exact rexpand_any k HK.out w
      have Hck := hid hck
      clear hck hcr
      generalize Value.agg (IV .u8 16 k) = z1
      generalize Value.agg (IV .u32 44 (K.WW k)) = z2
      generalize Value.agg (IV .u8 176 (K.RW k)) = z3
      refine wp_region_noPanic ?_
      refine wp_region_held_drew (S := fun w' => w'.rangeAt w.heap.size 0 ck) (by kernel_rfl) ?_ (fun hHeld => ?_)
      · rw [Hck.out]; exact keep_row A8.out
      try simp only [Act.put, List.setIfInBounds_toArray, List.set_cons_zero, List.set_cons_succ]
      refine takeL (i := 0) (d := some 46) rfl rfl (by kernel_rfl) (by kernel_rfl) (by kernel_rfl) (by rfl) 22 (.tmp 1) rfl w.heap.size 0 rfl ck (fun w h => h) Try.underlying22 rfl l3 hHeld ?_
      try simp only [Act.put, List.setIfInBounds_toArray, List.set_cons_zero, List.set_cons_succ]
      refine takeL (i := 2) (d := some 48) rfl rfl (by kernel_rfl) (by kernel_rfl) (by kernel_rfl) (by rfl) 22 (.tmp 1) rfl w.heap.size 0 rfl ck (fun w h => h) Try.underlying22 rfl l3 hHeld ?_
      try simp only [Act.put, List.setIfInBounds_toArray, List.set_cons_zero, List.set_cons_succ]
      refine wpAnyH_ready (rs := [1]) (by kernel_rfl) (by simp) ?_
      refine AllReadyH.cons (o := _) rfl (fun K hK => ?_) AllReadyH.nil
      go_simp
      refine (HC11.out _).mono ?_
      rintro e w7 ⟨rfl, hb9⟩
      have A9 := hid (A8.out.below hb9 A8.out.lt)
      have B9 := hid (B8.out.trans (hb9.mono B8.out.size))
      clear hHeld A8 B8 hb9
      go_wp2_with fail
      refine hK.out _ _ (by rw [Hck.out]; exact keep_row A9.out) (fun hHeld => ?_)
      clear hK K
      try simp only [Act.put, List.setIfInBounds_toArray, List.set_cons_zero, List.set_cons_succ]
      refine wpAnyH_ready (rs := [3]) (by kernel_rfl) (by simp) ?_
      refine AllReadyH.cons (o := _) rfl (fun K hK => ?_) AllReadyH.nil
      go_simp
      refine (HC12.out _).mono ?_
      rintro e w9 ⟨rfl, hb10⟩
      have A10 := hid (A9.out.below hb10 A9.out.lt)
      have B10 := hid (B9.out.trans (hb10.mono B9.out.size))
      clear hHeld A9 B9 hb10
      go_wp2_with fail
      refine hK.out _ _ (by rw [Hck.out]; exact keep_row A10.out) (fun hHeld => ?_)
      clear hK K
      try simp only [Act.put, List.setIfInBounds_toArray, List.set_cons_zero, List.set_cons_succ]
      refine takeH (i := 4) (d := some 50) (v := .bool true) rfl rfl (by kernel_rfl) (by kernel_rfl) (by kernel_rfl) (by rfl) (fun w hw => run_eql_op rfl rfl rfl (eqg31 _ _ _ _ w) (e3 w)) hHeld ?_
      try simp only [Act.put, List.setIfInBounds_toArray, List.set_cons_zero, List.set_cons_succ]
      refine takeH (i := 5) (d := some 2) (v := .bool true) rfl rfl (by kernel_rfl) (by kernel_rfl) (by kernel_rfl) (by rfl) (fun w hw => rfl) hHeld ?_
      try simp only [Act.put, List.setIfInBounds_toArray, List.set_cons_zero, List.set_cons_succ]
      refine wpAnyH_done (by kernel_rfl) ?_ _
      refine NoPanic.normal ?_
      go_wp2_with fail
      go_ret
      exact ⟨rfl, B10.out⟩
end Go.Proofs.Ytilbeboejohknaa
