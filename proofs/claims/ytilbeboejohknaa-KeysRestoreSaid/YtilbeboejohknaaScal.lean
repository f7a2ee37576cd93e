/- What the functions on bytes and words compute that keep no memory of their own: field.Double, field.Mul, field.Power, keys.Constant, bits.RotateLeft32 by 8. -/
import Derived.Test.YtilbeboejohknaaProg
import Derived.Test.YtilbeboejohknaaBase
import Derived.Test.YtilbeboejohknaaPure
namespace Go.Proofs.Ytilbeboejohknaa
open Go.RowKit

theorem ret_int {k : IntKind} {a b : Int} (h : a = b) : Ending.returned (.int k a) = .returned (.int k b) := by rw [h]

theorem dbl_val : ∀ n : Fin 256, bits .xor .u8 ((n.val : Int) * 2 % 256) (bits .and .u8 (IntKind.i8.wrap n.val / 128 % 256) 27) = (K.dbl n.val : Int) := by decide +kernel

set_option maxHeartbeats 400000 in
theorem double_any (a : Int) (w : World) (h0 : 0 ≤ a) (h1 : a < 256) :
    Calls Try.prog 29 #[.int .u8 a] w fun e w' => e = .returned (.int .u8 (K.dbl a.toNat)) ∧ w = w' := by
  obtain ⟨n, rfl⟩ := Int.eq_ofNat_of_zero_le h0
  rw [Int.toNat_natCast]
  go_enter Try.func29, Try.ntmps29
  go_wp2
  go_ret
  exact ⟨ret_int (dbl_val ⟨n, by omega⟩), rfl⟩

theorem rot_val (n : Nat) (h : n < 4294967296) : bits .or .u32 ((n : Int) * 256 % 4294967296) ((n : Int) / 16777216) = ((n * 256 % 4294967296 + n / 16777216 : Nat) : Int) := by
  have e1 : ((n : Int) * 256 % 4294967296) = ((n * 256 % 4294967296 : Nat) : Int) := by omega
  have e2 : ((n : Int) / 16777216) = ((n / 16777216 : Nat) : Int) := by omega
  rw [e1, e2, bits_u32_or _ _ (by omega) (by omega)]
  have e3 : n * 256 % 4294967296 = (n % 16777216) * 2 ^ 8 := by omega
  rw [e3, or_add _ _ 8 (by omega)]

set_option maxHeartbeats 400000 in
theorem rot_any (a : Int) (w : World) (h0 : 0 ≤ a) (h1 : a < 4294967296) :
    Calls Try.prog 31 #[.int .u32 a, .int .i64 8] w fun e w' => e = .returned (.int .u32 ((a.toNat * 256 % 4294967296 + a.toNat / 16777216 : Nat) : Int)) ∧ w = w' := by
  obtain ⟨n, rfl⟩ := Int.eq_ofNat_of_zero_le h0
  rw [Int.toNat_natCast]
  have hb : bits BinOp.and IntKind.u64 8 31 = 8 := by decide +kernel
  go_enter Try.func31, Try.ntmps31
  go_wp2
  go_ret
  exact ⟨ret_int (rot_val n (by omega)), rfl⟩

theorem gmulF_zero (k a o : Nat) : K.gmulF k a 0 o = o := by cases k <;> simp [K.gmulF]

set_option maxHeartbeats 800000 in
theorem fmul_any (a b : Int) (w : World) (h0 : 0 ≤ a) (h1 : a < 256) (h2 : 0 ≤ b) (h3 : b < 256) :
    Calls Try.prog 27 #[.int .u8 a, .int .u8 b] w fun e w' => e = .returned (.int .u8 (K.gmul a.toNat b.toNat)) ∧ w = w' := by
  obtain ⟨n, rfl⟩ := Int.eq_ofNat_of_zero_le h0
  obtain ⟨m, rfl⟩ := Int.eq_ofNat_of_zero_le h2
  rw [Int.toNat_natCast, Int.toNat_natCast]
  have hm : m < 2 ^ 8 := by omega
  have hn : n < 256 := by omega
  generalize hR : K.gmul n m = R
  have HR : Hid (K.gmulF 8 n m 0 = R) := hR
  clear hR h3 h1
  go_enter Try.func27, Try.ntmps27
  go_wp2_with fail
  go_step3
  go_wp2_with fail
  go_step3
  go_wp2_with fail
  go_loop [0, 1, 5] (fun x y o => ∃ k x' y' o' : Nat, x = .int .u8 x' ∧ y = .int .u8 y' ∧ o = .int .u8 o' ∧ x' < 256 ∧ o' < 256 ∧ y' < 2 ^ k ∧ k ≤ 8 ∧ Hid (K.gmulF k x' y' o' = R)) (fun _ y _ => (intOf y).toNat)
  case atStart => exact ⟨8, n, m, 0, rfl, rfl, rfl, hn, by omega, hm, by omega, HR⟩
  case round =>
    obtain ⟨k, x, y, o, rfl, rfl, rfl, hx, ho, hy, hk, H⟩ := hrel
    clear HR hm hn h0 h2
    have h256 : y < 256 := Nat.lt_of_lt_of_le hy (Nat.pow_le_pow_right (by omega) hk)
    by_cases hz : y = 0
    · subst hz
      have H2 : Hid (o = R) := by have := H.out; rw [gmulF_zero] at this; exact this
      clear H
      go_wp2
      go_ret
      exact ⟨ret_int (by rw [H2.out]), rfl⟩
    · obtain ⟨k, rfl⟩ : ∃ j, k = j + 1 := ⟨k - 1, by (rcases Nat.eq_zero_or_pos k with e | e); (rw [e] at hy; simp at hy; omega); omega⟩
      have hyz : ((y : Int) == 0) = false := by simpa using hz
      have hyp : 0 < y := by omega
      have hb1 := bits_u8_one y h256
      have hy2 : y / 2 < 2 ^ k := by rw [Nat.pow_succ] at hy; omega
      by_cases ho1 : y % 2 = 1
      · have ho2 : (((y % 2 : Nat) : Int) == 1) = true := by rw [ho1]; rfl
        have hxor := bits_u8_xor o x ho hx
        have H2 : Hid (K.gmulF k (K.dbl x) (y / 2) (o ^^^ x) = R) := by
          have := H.out; rw [K.gmulF, if_neg hz, if_pos ho1] at this; exact this
        clear hz ho1
        go_wp2_with (go_at_call 29; refine (double_any _ _ (by omega) (by omega)).mono ?_; rintro e w' ⟨rfl, rfl⟩)
        exact ⟨⟨k, K.dbl x, y / 2, o ^^^ x, rfl, rfl, rfl, K.dbl_lt x, K.xor_lt ho hx, hy2, by omega, H2⟩, by simp [intOf]; omega⟩
      · have ho2 : (((y % 2 : Nat) : Int) == 1) = false := by rw [beq_eq_false_iff_ne]; omega
        have H2 : Hid (K.gmulF k (K.dbl x) (y / 2) o = R) := by
          have := H.out; rw [K.gmulF, if_neg hz, if_neg ho1] at this; exact this
        clear hz
        go_wp2_with (go_at_call 29; refine (double_any _ _ (by omega) (by omega)).mono ?_; rintro e w' ⟨rfl, rfl⟩)
        exact ⟨⟨k, K.dbl x, y / 2, o, rfl, rfl, rfl, K.dbl_lt x, ho, hy2, by omega, H2⟩, by simp [intOf]; omega⟩

theorem gpowF_zero (k a o : Nat) : K.gpowF k a 0 o = o := by cases k <;> simp [K.gpowF]

set_option maxHeartbeats 800000 in
theorem fpow_any (a n : Int) (w : World) (h0 : 0 ≤ a) (h1 : a < 256) (h2 : 0 ≤ n) (h3 : n < 256) :
    Calls Try.prog 19 #[.int .u8 a, .int .i64 n] w fun e w' => e = .returned (.int .u8 (K.gpow a.toNat n.toNat)) ∧ w = w' := by
  obtain ⟨a, rfl⟩ := Int.eq_ofNat_of_zero_le h0
  obtain ⟨m, rfl⟩ := Int.eq_ofNat_of_zero_le h2
  rw [Int.toNat_natCast, Int.toNat_natCast]
  have hm : m < 2 ^ 8 := by omega
  have hn : a < 256 := by omega
  generalize hR : K.gpow a m = R
  have HR : Hid (K.gpowF 8 a m 1 = R) := hR
  clear hR h3 h1
  go_enter Try.func19, Try.ntmps19
  go_wp2_with fail
  go_loop [0, 1, 5] (fun x y o => ∃ k x' y' o' : Nat, x = .int .u8 x' ∧ y = .int .i64 y' ∧ o = .int .u8 o' ∧ x' < 256 ∧ o' < 256 ∧ y' < 2 ^ k ∧ k ≤ 8 ∧ Hid (K.gpowF k x' y' o' = R)) (fun _ y _ => (intOf y).toNat)
  case atStart => exact ⟨8, a, m, 1, rfl, rfl, rfl, hn, by omega, hm, by omega, HR⟩
  case round =>
    obtain ⟨k, x, y, o, rfl, rfl, rfl, hx, ho, hy, hk, H⟩ := hrel
    clear HR hm hn h0 h2
    have h256 : y < 256 := Nat.lt_of_lt_of_le hy (Nat.pow_le_pow_right (by omega) hk)
    by_cases hz : y = 0
    · subst hz
      have H2 : Hid (o = R) := by have := H.out; rw [gpowF_zero] at this; exact this
      clear H
      go_wp2
      go_ret
      exact ⟨ret_int (by rw [H2.out]), rfl⟩
    · obtain ⟨k, rfl⟩ : ∃ j, k = j + 1 := ⟨k - 1, by (rcases Nat.eq_zero_or_pos k with e | e); (rw [e] at hy; simp at hy; omega); omega⟩
      have hyz : 0 < y := by omega
      have hb1 := bits_i64_one y (by omega)
      have hy2 : y / 2 < 2 ^ k := by rw [Nat.pow_succ] at hy; omega
      have hg1 := K.gmul_lt x hx
      have hg2 := K.gmul_lt (a := o) x ho
      by_cases ho1 : y % 2 = 1
      · have ho2 : (((y % 2 : Nat) : Int) == 1) = true := by rw [ho1]; rfl
        have H2 : Hid (K.gpowF k (K.gmul x x) (y / 2) (K.gmul o x) = R) := by
          have := H.out; rw [K.gpowF, if_neg hz, if_pos ho1] at this; exact this
        clear hz ho1
        go_wp2_with (go_at_call 27; refine (fmul_any _ _ _ (by omega) (by omega) (by omega) (by omega)).mono ?_; rintro e w' ⟨rfl, rfl⟩)
        exact ⟨⟨k, K.gmul x x, y / 2, K.gmul o x, rfl, rfl, rfl, hg1, hg2, hy2, by omega, H2⟩, by simp [intOf]; omega⟩
      · have ho2 : (((y % 2 : Nat) : Int) == 1) = false := by rw [beq_eq_false_iff_ne]; omega
        have H2 : Hid (K.gpowF k (K.gmul x x) (y / 2) o = R) := by
          have := H.out; rw [K.gpowF, if_neg hz, if_neg ho1] at this; exact this
        clear hz
        go_wp2_with (go_at_call 27; refine (fmul_any _ _ _ (by omega) (by omega) (by omega) (by omega)).mono ?_; rintro e w' ⟨rfl, rfl⟩)
        exact ⟨⟨k, K.gmul x x, y / 2, o, rfl, rfl, rfl, hg1, ho, hy2, by omega, H2⟩, by simp [intOf]; omega⟩

theorem gpow_rc : ∀ n : Fin 10, K.gpow 2 n.val = K.rc (n.val + 1) := by decide +kernel

theorem const_out (i : Int) (w : World) (h0 : i < 1 ∨ 10 < i) :
    Calls Try.prog 13 #[.int .i64 i] w fun e w' => e = .returned (.int .u8 0) ∧ w = w' := by
  rcases h0 with h0 | h0
  · go_enter Try.func13, Try.ntmps13
    go_wp2
    go_ret
    exact ⟨rfl, rfl⟩
  · have h1 : ¬ i < 1 := by omega
    go_enter Try.func13, Try.ntmps13
    go_wp2
    go_ret
    exact ⟨rfl, rfl⟩

theorem const_in (i : Int) (w : World) (h0 : 1 ≤ i) (h1 : i ≤ 10) :
    Calls Try.prog 13 #[.int .i64 i] w fun e w' => e = .returned (.int .u8 (K.rc i.toNat)) ∧ w = w' := by
  have h2 : ¬ i < 1 := by omega
  have h3 : ¬ 10 < i := by omega
  go_enter Try.func13, Try.ntmps13
  go_wp2_with (go_at_call 19; refine (fpow_any _ _ _ (by omega) (by omega) (by omega) (by omega)).mono ?_; rintro e w' ⟨rfl, rfl⟩)
  go_ret
  refine ⟨ret_int ?_, rfl⟩
  have := gpow_rc ⟨i.toNat - 1, by omega⟩
  simp only at this
  rw [this, show i.toNat - 1 + 1 = i.toNat from by omega]

end Go.Proofs.Ytilbeboejohknaa
