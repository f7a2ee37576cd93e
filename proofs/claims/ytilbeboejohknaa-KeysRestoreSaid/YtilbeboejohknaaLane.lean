/- Words as four bytes: 'exclusive or' goes byte by byte; a byte out of a word; rotation; the word that a round begins with. -/
import Derived.Test.YtilbeboejohknaaSbox
namespace Go.Proofs.Ytilbeboejohknaa
namespace K
theorem xor_lane (k a b c d : Nat) (hb : b < 2 ^ k) (hd : d < 2 ^ k) : (2 ^ k * a + b) ^^^ (2 ^ k * c + d) = 2 ^ k * (a ^^^ c) + (b ^^^ d) := by
  apply Nat.eq_of_testBit_eq
  intro j
  rw [Nat.testBit_xor, Nat.testBit_two_pow_mul_add _ hb, Nat.testBit_two_pow_mul_add _ hd, Nat.testBit_two_pow_mul_add _ (Nat.xor_lt_two_pow hb hd)]
  split <;> simp

theorem mk4_xor (a b c d a' b' c' d' : Nat) (hb : b < 256) (hc : c < 256) (hd : d < 256) (hb' : b' < 256) (hc' : c' < 256) (hd' : d' < 256) :
    mk4 a b c d ^^^ mk4 a' b' c' d' = mk4 (a ^^^ a') (b ^^^ b') (c ^^^ c') (d ^^^ d') := by
  have h1 := xor_lane 8 c d c' d' (by omega) (by omega)
  have h2 := xor_lane 16 b (2 ^ 8 * c + d) b' (2 ^ 8 * c' + d') (by omega) (by omega)
  have h3 := xor_lane 24 a (2 ^ 16 * b + (2 ^ 8 * c + d)) a' (2 ^ 16 * b' + (2 ^ 8 * c' + d')) (by omega) (by omega)
  rw [h2, h1] at h3
  have e1 : mk4 a b c d = 2 ^ 24 * a + (2 ^ 16 * b + (2 ^ 8 * c + d)) := by unfold mk4; omega
  have e2 : mk4 a' b' c' d' = 2 ^ 24 * a' + (2 ^ 16 * b' + (2 ^ 8 * c' + d')) := by unfold mk4; omega
  rw [e1, e2, h3]
  unfold mk4; omega

/-- The word that is added at the beginning of round i. -/
def turn (x i : Nat) : Nat := word (x * 256 % 4294967296 + x / 16777216) ^^^ (rc i * 16777216)

theorem turn_mk4 (a b c d i : Nat) (ha : a < 256) (hb : b < 256) (hc : c < 256) (hd : d < 256) :
    turn (mk4 a b c d) i = mk4 (S b ^^^ rc i) (S c) (S d) (S a) := by
  have e : mk4 a b c d * 256 % 4294967296 + mk4 a b c d / 16777216 = mk4 b c d a := by unfold mk4; omega
  have hr := rc_lt i
  rw [turn, e, word_mk4 b c d a hc hd ha hb]
  rw [show rc i * 16777216 = mk4 (rc i) 0 0 0 from by unfold mk4; omega]
  rw [mk4_xor _ _ _ _ _ _ _ _ (S_lt _) (S_lt _) (S_lt _) (by omega) (by omega) (by omega)]
  simp

theorem turn_lt (x i : Nat) : turn x i < 4294967296 := by
  have := rc_lt i
  exact xor_lt32 (word_lt _) (by omega)
end K
open Go.RowKit

theorem shl_val (r : Nat) : ((r : Int) * 16777216) = ((r * 16777216 : Nat) : Int) := by omega

set_option maxRecDepth 100000 in
set_option maxHeartbeats 1000000 in
theorem turned_any (x i : Int) (w : World) (h0 : 0 ≤ x) (h1 : x < 4294967296) (h2 : 1 ≤ i) (h3 : i ≤ 10) :
    Calls Try.prog 28 #[.int .u32 x, .int .i64 i] w fun e w' => e = .returned (.int .u32 (K.turn x.toNat i.toNat)) ∧ Below w.heap.size w w' := by
  obtain ⟨x, rfl⟩ := Int.eq_ofNat_of_zero_le h0
  obtain ⟨i, rfl⟩ := Int.eq_ofNat_of_zero_le (show 0 ≤ i by omega)
  rw [Int.toNat_natCast, Int.toNat_natCast]
  have hr := K.rc_lt i
  have HT : Hid (K.turn x i = K.word (x * 256 % 4294967296 + x / 16777216) ^^^ (K.rc i * 16777216)) := rfl
  have hw := K.word_lt (x * 256 % 4294967296 + x / 16777216)
  have hbits := bits_u32_xor (K.word (x * 256 % 4294967296 + x / 16777216)) (K.rc i * 16777216) hw (by omega)
  have hbits2 : bits BinOp.xor IntKind.u32 (K.word (x * 256 % 4294967296 + x / 16777216) : Nat) ((K.rc i : Int) * 16777216) = ((K.turn x i : Nat) : Int) := by
    rw [shl_val, hbits, HT.out]
  have HB := hid hbits2
  clear hbits hbits2 HT
  go_enter Try.func28, Try.ntmps28
  go_wp2_with fail
  refine (rot_any _ _ (by omega) (by omega)).mono ?_
  rintro e w1 ⟨rfl, rfl⟩
  rw [Int.toNat_natCast]
  have hrr : x * 256 % 4294967296 + x / 16777216 < 4294967296 := by omega
  generalize x * 256 % 4294967296 + x / 16777216 = y at *
  go_wp2_with fail
  refine (word_any _ _ (by omega) (by omega)).mono ?_
  rintro e w1 ⟨rfl, hb1⟩
  rw [Int.toNat_natCast]
  have HB1 := hid hb1
  clear hb1
  generalize K.word y = z at *
  go_wp2_with fail
  refine (const_in _ _ (by omega) (by omega)).mono ?_
  rintro e w1 ⟨rfl, rfl⟩
  rw [Int.toNat_natCast]
  generalize K.rc i = r at *
  have hbb := HB.out
  go_wp2_with fail
  go_ret
  exact ⟨rfl, HB1.out⟩
end Go.Proofs.Ytilbeboejohknaa
