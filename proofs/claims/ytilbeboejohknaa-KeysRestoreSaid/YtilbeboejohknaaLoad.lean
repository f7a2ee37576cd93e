/- keys.load: the four words of a round key; its closure reads four bytes. -/
import Derived.Test.YtilbeboejohknaaLane
import Derived.Test.YtilbeboejohknaaKeyP
import Derived.Deep.QuietTactic
import Derived.BigQuiet
namespace Go.Proofs.Ytilbeboejohknaa
open Go.RowKit

theorem size22 : (Try.prog.info? 22).map (·.size) = some 16 := by kernel_rfl
theorem size41 : (Try.prog.info? 41).map (·.size) = some 4 := by kernel_rfl
theorem size24 : (Try.prog.info? 24).map (·.size) = some 1 := by kernel_rfl

theorem word_val (a b c d : Nat) (ha : a < 256) (hb : b < 256) (hc : c < 256) (hd : d < 256) :
    bits .or .u32 (bits .or .u32 (bits .or .u32 ((a : Int) * 16777216) ((b : Int) * 65536)) ((c : Int) * 256)) (d : Int) = ((K.mk4 a b c d : Nat) : Int) := by
  have e1 : ((a : Int) * 16777216) = ((a * 16777216 : Nat) : Int) := by omega
  have e2 : ((b : Int) * 65536) = ((b * 65536 : Nat) : Int) := by omega
  have e3 : ((c : Int) * 256) = ((c * 256 : Nat) : Int) := by omega
  have o1 : a * 16777216 ||| b * 65536 = a * 16777216 + b * 65536 := or_add a (b * 65536) 24 (by omega)
  have o2 : (a * 16777216 + b * 65536) ||| c * 256 = a * 16777216 + b * 65536 + c * 256 := by
    have := or_add (a * 256 + b) (c * 256) 16 (by omega)
    rw [show (a * 256 + b) * 2 ^ 16 = a * 16777216 + b * 65536 from by omega] at this; exact this
  have o3 : (a * 16777216 + b * 65536 + c * 256) ||| d = a * 16777216 + b * 65536 + c * 256 + d := by
    have := or_add (a * 65536 + b * 256 + c) d 8 (by omega)
    rw [show (a * 65536 + b * 256 + c) * 2 ^ 8 = a * 16777216 + b * 65536 + c * 256 from by omega] at this; exact this
  rw [e1, e2, e3, bits_u32_or _ _ (by omega) (by omega), o1, bits_u32_or _ _ (by omega) (by omega), o2, bits_u32_or _ _ (by omega) (by omega), o3]
  rfl

set_option maxRecDepth 100000 in
set_option maxHeartbeats 1000000 in
theorem closure_any (k : Nat → Nat) (hk : ∀ j, k j < 256) (g : Nat) (i : Nat) (w : World) (hi : i < 4) (hH : Has w g 22 (IV .u8 16 k)) :
    Calls Try.prog 24 #[.int .i64 (4 * (i : Int)), .pointer (some ⟨g, 0, none⟩)] w fun e w' => e = .returned (.int .u32 (K.wd k i)) ∧ Below w.heap.size w w' := by
  have c0 := hH.cellIV (j := 4 * i) (by omega)
  have c1 := hH.cellIV (j := 4 * i + 1) (by omega)
  have c2 := hH.cellIV (j := 4 * i + 2) (by omega)
  have c3 := hH.cellIV (j := 4 * i + 3) (by omega)
  have b0 := hk (4 * i)
  have b1 := hk (4 * i + 1)
  have b2 := hk (4 * i + 2)
  have b3 := hk (4 * i + 3)
  have hv := word_val _ _ _ _ b0 b1 b2 b3
  have HW : Hid (K.mk4 (k (4 * i)) (k (4 * i + 1)) (k (4 * i + 2)) (k (4 * i + 3)) = K.wd k i) := rfl
  rw [HW.out] at hv
  generalize k (4 * i) = a at *
  generalize k (4 * i + 1) = b at *
  generalize k (4 * i + 2) = c at *
  generalize k (4 * i + 3) = d at *
  clear HW hH hk
  go_enter Try.func24, Try.ntmps24
  go_wp2_with fail
  go_quiet (fail)
  go_wp2
  go_ret
  exact ⟨rfl, Below.drewN (Below.refl _ _) _⟩

set_option maxRecDepth 100000 in
set_option maxHeartbeats 1000000 in
theorem load_any (k : Nat → Nat) (hk : ∀ j, k j < 256) (w : World) :
    Calls Try.prog 17 #[.agg (IV .u8 16 k)] w fun e w' => e = .returned (.agg (IV .u32 4 (K.wd k))) ∧ Below w.heap.size w w' := by
  have HK := hid hk
  clear hk
  have hmf : ∀ (fn : Fn) (first cap : Array Value) (w : World), (Instr.makeFunc fn first cap).run Try.prog w = .ok (.func fn first cap) w := fun _ _ _ _ => rfl
  have N0 := hid (((Has.new w 22 (IV .u8 16 k)).alloc (.cells (IV .u32 4 fun _ => 0) 41)).alloc (.cells (IV .u32 4 fun _ => 0) 41))
  have N1 := hid ((Has.new (w.alloc (.cells (IV .u8 16 k) 22)) 41 (IV .u32 4 fun _ => 0)).alloc (.cells (IV .u32 4 fun _ => 0) 41))
  have N2 := hid (Has.new ((w.alloc (.cells (IV .u8 16 k) 22)).alloc (.cells (IV .u32 4 fun _ => 0) 41)) 41 (IV .u32 4 fun _ => 0))
  rw [World.size_alloc] at N1
  rw [World.size_alloc, World.size_alloc] at N2
  have B0 := hid ((((Below.refl w.heap.size w).alloc (Nat.le_refl _) (.cells (IV .u8 16 k) 22)).alloc (by simp) (.cells (IV .u32 4 fun _ => 0) 41)).alloc (by simp; omega) (.cells (IV .u32 4 fun _ => 0) 41))
  go_enter Try.func17, Try.ntmps17
  go_wp2_with fail
  go_loopw [7] (fun n wr => ∃ i : Nat, n = .int .i64 i ∧ i ≤ 4 ∧ Hid (Below w.heap.size w wr) ∧ Hid (Has wr w.heap.size 22 (IV .u8 16 k)) ∧ Hid (Has wr (w.heap.size + 1) 41 (IV .u32 4 fun _ => 0)) ∧ Hid (Has wr (w.heap.size + 1 + 1) 41 (IV .u32 4 fun j => if j < i then K.wd k j else 0))) (fun n _ => 4 - (intOf n).toNat)
  case atStart => exact ⟨0, rfl, by omega, B0, N0, N1, N2⟩
  case round =>
    clear B0 N0 N1 N2
    obtain ⟨i, rfl, hi, HB, H0, H1, H2⟩ := hrel
    by_cases hl : i < 4
    · go_wp2_with fail
      refine (closure_any k HK.out w.heap.size i _ hl H0.out).mono ?_
      rintro e w1 ⟨rfl, hb1⟩
      have hw := K.wd_lt k HK.out i
      have HS : Hid (w.heap.size + 1 + 1 < wr.heap.size) := H2.out.lt
      have HB2 := hid (HB.out.trans (hb1.mono HB.out.size))
      have HO0 := hid (H0.out.below hb1 (by have := HS.out; omega))
      have HO1 := hid (H1.out.below hb1 (by have := HS.out; omega))
      have HO2 := hid (H2.out.below hb1 (by have := HS.out; omega))
      have HX := hid (HO2.out.cellIV (j := i) hl)
      have hf := HO2.out.frozen i
      have HE : Hid (∀ j, j < 4 → upd (fun j => if j < i then K.wd k j else 0) i (K.wd k i) j = (if j < i + 1 then K.wd k j else 0)) := fun j _ => by
        show (if j = i then K.wd k i else if j < i then K.wd k j else 0) = _
        by_cases e : j = i
        · rw [if_pos e, if_pos (by omega), e]
        · rw [if_neg e]
          by_cases e2 : j < i
          · rw [if_pos e2, if_pos (by omega)]
          · rw [if_neg e2, if_neg (by omega)]
      have hc := HX.out
      rw [if_neg (by omega)] at hc
      have HN2 := hid ((HO2.out.setIV i (K.wd k i)).ext HE.out)
      have HN1 := hid (HO1.out.setO (w.heap.size + 1 + 1) (i) (.int .u32 (K.wd k i)) (by omega))
      have HN0 := hid (HO0.out.setO (w.heap.size + 1 + 1) (i) (.int .u32 (K.wd k i)) (by omega))
      have HNB := hid (Below.setC HB2.out (w.heap.size + 1 + 1) (i) (.int .u32 (K.wd k i)) (by omega))
      clear hb1 HB H0 H1 H2 HS HB2 HO0 HO1 HO2 HX HE
      go_wp2_with fail
      exact ⟨⟨i + 1, by go_num, by omega, HNB, HN0, HN1, HN2⟩, by simp [intOf]; omega⟩
    · obtain rfl : i = 4 := by omega
      have H3 : Hid (Has wr (w.heap.size + 1 + 1) 41 (IV .u32 4 (K.wd k))) := H2.out.ext (fun j hj => by rw [if_pos hj])
      clear H2
      go_wp2_with (first | (refine wpList_load_row rfl 41 _ rfl (w.heap.size + 1 + 1) rfl 41 _ (0, 0) _ H3.out Try.underlying41 rfl (by rw [size_IV]; exact size41) ?_) | (refine wpList_store_row rfl 41 _ _ rfl (w.heap.size + 1) (IV .u32 4 (K.wd k)) rfl rfl 41 _ H1.out (by rw [size_IV]; exact size41) (by rw [size_IV, size_IV]) (oneCell_IV _ _ _) ?_))
      exact bodyPost_ret_by (results_cell_row rfl _ _ (w.heap.size + 1) 41 _ (0, 0) _ rfl (H1.out.setRow _) Try.underlying41 rfl (by rw [size_IV]; exact size41)) rfl ⟨rfl, Below.setRow HB.out (by omega) _⟩
end Go.Proofs.Ytilbeboejohknaa
