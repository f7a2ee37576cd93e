/- What the reference's Mul computes, for any two bytes; it makes one block of its own. -/
import Derived.Test.YtilbeboejohknaaMulP
import Derived.Test.YtilbeboejohknaaAff
namespace Go.Proofs.Ytilbeboejohknaa
open Go.RowKit

theorem bitprod (q r : Nat) : ∃ m : Nat, ((q : Int) % 2 * ((r : Int) % 2) = (m : Int)) ∧ m = q % 2 * (r % 2) ∧ m ≤ 1 := by
  refine ⟨q % 2 * (r % 2), by simp, rfl, ?_⟩
  have h1 : q % 2 = 0 ∨ q % 2 = 1 := by omega
  have h2 : r % 2 = 0 ∨ r % 2 = 1 := by omega
  rcases h1 with h1 | h1 <;> rcases h2 with h2 | h2 <;> rw [h1, h2] <;> simp

theorem incs (G : Nat → Nat) (a b c d : Nat) (h1 : b ≠ a) (h2 : c ≠ a) (h3 : c ≠ b) (h4 : d ≠ a) (h5 : d ≠ b) (h6 : d ≠ c) :
    upd (upd (upd (upd G a (G a + 1)) b (G b + 1)) c (G c + 1)) d (G d + 1) = K.inc (K.inc (K.inc (K.inc G a) b) c) d := by
  simp only [K.inc]
  rw [upd_other _ _ _ _ h1, upd_other _ b _ c h3, upd_other _ a _ c h2, upd_other _ c _ d h6, upd_other _ b _ d h5, upd_other _ a _ d h4]

set_option maxRecDepth 100000 in
set_option maxHeartbeats 1000000 in
theorem rmul_any (a b : Int) (w : World) (h0 : 0 ≤ a) (h1 : a < 256) (h2 : 0 ≤ b) (h3 : b < 256) :
    Calls Try.prog 20 #[.int .u8 a, .int .u8 b] w fun e w' => e = .returned (.int .u8 (K.mul a.toNat b.toNat)) ∧ Below w.heap.size w w' := by
  obtain ⟨a, rfl⟩ := Int.eq_ofNat_of_zero_le h0
  obtain ⟨b, rfl⟩ := Int.eq_ofNat_of_zero_le h2
  rw [Int.toNat_natCast, Int.toNat_natCast]
  have ha : a < 256 := by omega
  have hb : b < 256 := by omega
  clear h0 h1 h2 h3
  have N0 := Has.new w 51 (IV .i64 15 fun _ => 0)
  have B0 : Below w.heap.size w (w.alloc (.cells (IV .i64 15 fun _ => 0) 51)) := (Below.refl _ _).alloc (Nat.le_refl _) _
  have S0 : w.heap.size < (w.alloc (.cells (IV .i64 15 fun _ => 0) 51)).heap.size := N0.lt
  go_enter Try.func20, Try.ntmps20
  go_wp2_with fail
  go_loopw [6, 7] (fun i _ wr => ∃ k : Nat, i = .int .i64 k ∧ k ≤ 8 ∧ Below w.heap.size w wr ∧ Has wr w.heap.size 51 (IV .i64 15 (K.mulI a b k))) (fun i _ _ => 8 - (intOf i).toNat)
  case atStart => exact ⟨0, rfl, by omega, B0, N0⟩
  case round =>
    obtain ⟨i, rfl, hi, hB, hH⟩ := hrel
    by_cases hlt : i < 8
    · go_wp2_with fail
      obtain ⟨wo, rfl⟩ : ∃ wo : World, wo = wr := ⟨_, rfl⟩
      go_loopw [7] (fun n wr => ∃ k : Nat, n = .int .i64 k ∧ k ≤ 8 ∧ Below w.heap.size w wr ∧ Has wr w.heap.size 51 (IV .i64 15 (K.mulK a b i (K.mulI a b i) k))) (fun n _ => 8 - (intOf n).toNat)
      case atStart => exact ⟨0, rfl, by omega, hB, hH⟩
      case round =>
        clear hB hH N0 B0
        obtain ⟨k, rfl, hk, hB, hH⟩ := hrel
        by_cases hl : k < 8
        · have hbnd := K.mulK_le a b i (K.mulI a b i) (8 * i) (K.mulI_le a b i) k (i + k)
          obtain ⟨q, hq, Hq, hq1⟩ := div_pow a i ha
          obtain ⟨r, hr, Hr, hr1⟩ := div_pow b k hb
          obtain ⟨m, hm, Hm, hm1⟩ := bitprod q r
          have HN := hid (hH.setIV (i + k) (K.mulK a b i (K.mulI a b i) k (i + k) + m))
          have HE : Hid (upd (K.mulK a b i (K.mulI a b i) k) (i + k) (K.mulK a b i (K.mulI a b i) k (i + k) + m) = K.mulK a b i (K.mulI a b i) (k + 1)) := by
            rw [Hm, Hq, Hr]; rfl
          rw [HE.out] at HN
          clear Hm Hq Hr HE
          have hc := hH.cellIV (j := i + k) (by omega)
          have hf := hH.frozen (i + k)
          generalize hv : K.mulK a b i (K.mulI a b i) k (i + k) = v at hc hbnd HN
          have HB := hid hB
          clear hv hB hH
          go_wp2_with fail
          exact ⟨⟨k + 1, by go_num, by omega, HB.out.setCell (Nat.le_refl _) _, HN.out⟩, by simp [intOf]; omega⟩
        · obtain rfl : k = 8 := by omega
          have HB := hid hB
          have HH : Hid (Has wr w.heap.size 51 (IV .i64 15 (K.mulI a b (i + 1)))) := hH
          clear hB hH
          go_wp2_with fail
          exact ⟨⟨i + 1, by go_num, by omega, HB.out, HH.out⟩, by simp [intOf]; omega⟩
    · obtain rfl : i = 8 := by omega
      have h0 := K.mulI_le a b 8
      generalize hF : K.mulI a b 8 = F at hH h0
      have HR : Hid (K.mul a b = K.mulO (K.red F 7) 8 % 256) := by rw [K.mul, hF]; rfl
      clear hF
      have HB := hid hB
      have HH := hid hH
      have h1 := K.red_le F 64 (by simpa using h0)
      have HF := hid h1
      clear hB hH h0 h1 B0 N0
      go_wp2_with fail
      go_loopw [8] (fun n wr => ∃ j c : Nat, n = .int .i64 c ∧ c + j = 14 ∧ j ≤ 7 ∧ Below w.heap.size w wr ∧ Has wr w.heap.size 51 (IV .i64 15 (K.red F j))) (fun n _ => (intOf n).toNat)
      case atStart => exact ⟨0, 14, rfl, rfl, by omega, HB.out, HH.out⟩
      case round =>
        clear HB HH
        obtain ⟨j, c, rfl, hc, hj, hB, hH⟩ := hrel
        by_cases hl : j < 7
        · have h1 := HF.out j
          have hcc := hH.cellIV (j := c) (by omega)
          have c1 := hH.cellIV (j := c - 4) (by omega)
          have c2 := hH.cellIV (j := c - 5) (by omega)
          have c3 := hH.cellIV (j := c - 7) (by omega)
          have c4 := hH.cellIV (j := c - 8) (by omega)
          have f1 := hH.frozen (c - 4)
          have f2 := hH.frozen (c - 5)
          have f3 := hH.frozen (c - 7)
          have f4 := hH.frozen (c - 8)
          have b0 := h1 c
          have b1 := h1 (c - 4)
          have b2 := h1 (c - 5)
          have b3 := h1 (c - 7)
          have b4 := h1 (c - 8)
          have HN := hid ((((hH.setIV (c - 4) (K.red F j (c - 4) + 1)).setIV (c - 5) (K.red F j (c - 5) + 1)).setIV (c - 7) (K.red F j (c - 7) + 1)).setIV (c - 8) (K.red F j (c - 8) + 1))
          rw [incs _ _ _ _ _ (by omega) (by omega) (by omega) (by omega) (by omega) (by omega)] at HN
          have HE : Hid (K.red F (j + 1) = if K.red F j c % 2 = 1 then K.inc (K.inc (K.inc (K.inc (K.red F j) (c - 4)) (c - 5)) (c - 7)) (c - 8) else K.red F j) := by
            rw [K.red, show 14 - j = c from by omega, show 10 - j = c - 4 from by omega, show 9 - j = c - 5 from by omega, show 7 - j = c - 7 from by omega, show 6 - j = c - 8 from by omega]; rfl
          have HB := hid hB
          have HH := hid hH
          clear hB hH h1
          generalize K.red F j c = v at hcc b0 HE
          generalize hv1 : K.red F j (c - 4) = v1 at c1 b1 HN
          generalize hv2 : K.red F j (c - 5) = v2 at c2 b2 HN
          generalize hv3 : K.red F j (c - 7) = v3 at c3 b3 HN
          generalize hv4 : K.red F j (c - 8) = v4 at c4 b4 HN
          clear hv1 hv2 hv3 hv4
          by_cases hv : v % 2 = 1
          · have HN2 : Hid (K.red F (j + 1) = K.inc (K.inc (K.inc (K.inc (K.red F j) (c - 4)) (c - 5)) (c - 7)) (c - 8)) := by rw [HE.out, if_pos hv]; rfl
            have hv2 : ((v : Int) % 2 == 1) = true := by rw [beq_iff_eq]; omega
            clear HE hv
            go_wp2_with fail
            refine ⟨⟨j + 1, c - 1, by go_num, by omega, by omega, ?_, ?_⟩, by simp [intOf]; omega⟩
            · exact (((HB.out.setCell (Nat.le_refl _) _).setCell (Nat.le_refl _) _).setCell (Nat.le_refl _) _).setCell (Nat.le_refl _) _
            · rw [HN2.out]; exact HN.out
          · have HN2 : Hid (K.red F (j + 1) = K.red F j) := by rw [HE.out, if_neg hv]; rfl
            have hv2 : ((v : Int) % 2 == 1) = false := by rw [beq_eq_false_iff_ne]; omega
            clear HE hv HN
            go_wp2_with fail
            refine ⟨⟨j + 1, c - 1, by go_num, by omega, by omega, HB.out, ?_⟩, by simp [intOf]; omega⟩
            rw [HN2.out]; exact HH.out
        · obtain rfl : j = 7 := by omega
          obtain rfl : c = 7 := by omega
          have HB := hid hB
          have HH := hid hH
          have HF2 := hid (HF.out 7)
          clear hB hH
          go_wp2_with fail
          go_loop [9, 10] (fun x n => ∃ j t : Nat, n = .int .i64 j ∧ x = .int .i64 t ∧ j ≤ 8 ∧ t ≤ 128 * j ∧ Hid (t = K.mulO (K.red F 7) j)) (fun _ n => 8 - (intOf n).toNat)
          case atStart => exact ⟨0, 0, rfl, rfl, by omega, by omega, rfl⟩
          case round =>
            obtain ⟨j, t, rfl, rfl, hj, ht, HT⟩ := hrel
            by_cases hl : j < 8
            · have hc := HH.out.cellIV (j := j) (by omega)
              have hb := HF2.out j
              have HT2 : Hid (K.mulO (K.red F 7) (j + 1) = t + K.red F 7 j % 2 * 2 ^ j) := by rw [K.mulO, ← HT.out]; rfl
              generalize K.red F 7 j = v at hc hb HT2
              obtain ⟨d, hd, Hd, hd1⟩ := bit_pow v j hl
              have HD := hid Hd
              clear Hd HT
              go_wp2_with fail
              exact ⟨⟨j + 1, t + d, by go_num, by go_num, by omega, by omega, by rw [HT2.out, HD.out]; rfl⟩, by simp [intOf]; omega⟩
            · obtain rfl : j = 8 := by omega
              have HM : Hid (K.mul a b = t % 256) := by rw [HR.out, ← HT.out]; rfl
              clear HT HR
              go_wp2_with fail
              go_ret
              exact ⟨ret_int (by rw [HM.out]; rfl), HB.out⟩
end Go.Proofs.Ytilbeboejohknaa
