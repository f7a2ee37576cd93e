/- Plain functions on natural numbers: the field's products, the S-box, the words of AES-128's key expansion as bytes; and the model's bit operations on numbers from 0 up. No program in sight. -/
import Derived.WalkKit
namespace Go.Proofs.Ytilbeboejohknaa
namespace K

/-- The product with 2. -/
def dbl (a : Nat) : Nat := (a * 2 % 256) ^^^ (if 128 ≤ a then 27 else 0)

def gmulF : Nat → Nat → Nat → Nat → Nat
  | 0, _, _, o => o
  | k + 1, a, b, o => if b = 0 then o else gmulF k (dbl a) (b / 2) (if b % 2 = 1 then o ^^^ a else o)
def gmul (a b : Nat) : Nat := gmulF 8 a b 0

def gpowF : Nat → Nat → Nat → Nat → Nat
  | 0, _, _, o => o
  | k + 1, a, n, o => if n = 0 then o else gpowF k (gmul a a) (n / 2) (if n % 2 = 1 then gmul o a else o)
def gpow (a n : Nat) : Nat := gpowF 8 a n 1

/-- The constant of a round, from 1 to 10. -/
def rc (i : Nat) : Nat := [0, 1, 2, 4, 8, 16, 32, 64, 128, 27, 54].getD i 0

/-- The sum for bit i, behind j rounds of the inner loop. -/
def affN (b i : Nat) : Nat → Nat
  | 0 => 99 / 2 ^ i % 2 + b / 2 ^ i % 2
  | j + 1 => affN b i j + b / 2 ^ ((i + (4 + j)) % 8) % 2
def affX (b : Nat) : Nat → Nat
  | 0 => 0
  | i + 1 => affX b i + affN b i 4 % 2 * 2 ^ i
def aff (b : Nat) : Nat := affX b 8 % 256

/-- The powers of 3, and to each byte its logarithm. -/
def pwT : List Nat := [
  1, 3, 5, 15, 17, 51, 85, 255, 26, 46, 114, 150, 161, 248, 19, 53, 95, 225, 56, 72, 216, 115, 149, 164, 247, 2, 6, 10, 30, 34, 102, 170, 229, 52, 92,
  228, 55, 89, 235, 38, 106, 190, 217, 112, 144, 171, 230, 49, 83, 245, 4, 12, 20, 60, 68, 204, 79, 209, 104, 184, 211, 110, 178, 205, 76, 212, 103,
  169, 224, 59, 77, 215, 98, 166, 241, 8, 24, 40, 120, 136, 131, 158, 185, 208, 107, 189, 220, 127, 129, 152, 179, 206, 73, 219, 118, 154, 181, 196, 87,
  249, 16, 48, 80, 240, 11, 29, 39, 105, 187, 214, 97, 163, 254, 25, 43, 125, 135, 146, 173, 236, 47, 113, 147, 174, 233, 32, 96, 160, 251, 22, 58, 78,
  210, 109, 183, 194, 93, 231, 50, 86, 250, 21, 63, 65, 195, 94, 226, 61, 71, 201, 64, 192, 91, 237, 44, 116, 156, 191, 218, 117, 159, 186, 213, 100,
  172, 239, 42, 126, 130, 157, 188, 223, 122, 142, 137, 128, 155, 182, 193, 88, 232, 35, 101, 175, 234, 37, 111, 177, 200, 67, 197, 84, 252, 31, 33, 99,
  165, 244, 7, 9, 27, 45, 119, 153, 176, 203, 70, 202, 69, 207, 74, 222, 121, 139, 134, 145, 168, 227, 62, 66, 198, 81, 243, 14, 18, 54, 90, 238, 41,
  123, 141, 140, 143, 138, 133, 148, 167, 242, 13, 23, 57, 75, 221, 124, 132, 151, 162, 253, 28, 36, 108, 180, 199, 82, 246, 1, 3]
def lgT : List Nat := [
  0, 0, 25, 1, 50, 2, 26, 198, 75, 199, 27, 104, 51, 238, 223, 3, 100, 4, 224, 14, 52, 141, 129, 239, 76, 113, 8, 200, 248, 105, 28, 193, 125, 194, 29,
  181, 249, 185, 39, 106, 77, 228, 166, 114, 154, 201, 9, 120, 101, 47, 138, 5, 33, 15, 225, 36, 18, 240, 130, 69, 53, 147, 218, 142, 150, 143, 219,
  189, 54, 208, 206, 148, 19, 92, 210, 241, 64, 70, 131, 56, 102, 221, 253, 48, 191, 6, 139, 98, 179, 37, 226, 152, 34, 136, 145, 16, 126, 110, 72, 195,
  163, 182, 30, 66, 58, 107, 40, 84, 250, 133, 61, 186, 43, 121, 10, 21, 155, 159, 94, 202, 78, 212, 172, 229, 243, 115, 167, 87, 175, 88, 168, 80, 244,
  234, 214, 116, 79, 174, 233, 213, 231, 230, 173, 232, 44, 215, 117, 122, 235, 22, 11, 245, 89, 203, 95, 176, 156, 169, 81, 160, 127, 12, 246, 111, 23,
  196, 73, 236, 216, 67, 31, 45, 164, 118, 123, 183, 204, 187, 62, 90, 251, 96, 177, 134, 59, 82, 161, 108, 170, 85, 41, 157, 151, 178, 135, 144, 97,
  190, 220, 252, 188, 149, 207, 205, 55, 63, 91, 209, 83, 57, 132, 60, 65, 162, 109, 71, 20, 42, 158, 93, 86, 242, 211, 171, 68, 17, 146, 217, 35, 32,
  46, 137, 180, 124, 184, 38, 119, 153, 227, 165, 103, 74, 237, 222, 197, 49, 254, 24, 13, 99, 140, 128, 192, 247, 112, 7]
/-- The power i of 3, for i up to 256. -/
def pw (i : Nat) : Nat := pwT.getD i 0
def lg (x : Nat) : Nat := lgT.getD x 0

/-- The S-box: the affine image of the inverse. -/
def S (b : Nat) : Nat := if b = 0 then aff 0 else aff (pw (255 - lg b))

theorem getD_lt (l : List Nat) (n : Nat) (h : l.all (· < n) = true) (hn : 0 < n) (i : Nat) : l.getD i 0 < n := by
  rw [List.getD_eq_getElem?_getD]
  cases hi : l[i]? with
  | none => simpa using hn
  | some v =>
    have := List.all_eq_true.1 h v (List.mem_of_getElem? hi)
    simpa using this

theorem aff_lt (b : Nat) : aff b < 256 := by unfold aff; omega
theorem S_lt (b : Nat) : S b < 256 := by
  unfold S
  split
  · exact aff_lt _
  · exact aff_lt _
theorem rc_lt (i : Nat) : rc i < 256 := getD_lt _ 256 (by decide +kernel) (by omega) i

theorem xor_lt {a b : Nat} (ha : a < 256) (hb : b < 256) : a ^^^ b < 256 := Nat.xor_lt_two_pow (n := 8) ha hb
theorem xor_lt32 {a b : Nat} (ha : a < 4294967296) (hb : b < 4294967296) : a ^^^ b < 4294967296 := Nat.xor_lt_two_pow (n := 32) ha hb

theorem dbl_lt (a : Nat) : dbl a < 256 := by
  unfold dbl
  refine xor_lt (by omega) ?_
  split <;> omega

theorem gmulF_lt (k : Nat) : ∀ a b o, a < 256 → o < 256 → gmulF k a b o < 256 := by
  induction k with
  | zero => intro a b o _ ho; exact ho
  | succ k ih =>
    intro a b o ha ho
    unfold gmulF
    split
    · exact ho
    · refine ih _ _ _ (dbl_lt a) ?_
      split
      · exact xor_lt ho ha
      · exact ho
theorem gmul_lt {a : Nat} (b : Nat) (ha : a < 256) : gmul a b < 256 := gmulF_lt 8 a b 0 ha (by omega)

/-- The four bytes of a word, as a number. -/
def mk4 (a b c d : Nat) : Nat := a * 16777216 + b * 65536 + c * 256 + d
theorem mk4_lt {a b c d : Nat} (ha : a < 256) (hb : b < 256) (hc : c < 256) (hd : d < 256) : mk4 a b c d < 4294967296 := by unfold mk4; omega

end K

/-! The model's bit operations, on numbers from 0 up. -/
theorem ofInt_toNat (w n : Nat) (h : n < 2 ^ w) : (BitVec.ofInt w (n : Int)).toNat = n := by
  rw [BitVec.ofInt_natCast, BitVec.toNat_ofNat, Nat.mod_eq_of_lt h]

theorem bits_u8_xor (a b : Nat) (ha : a < 256) (hb : b < 256) : bits .xor .u8 (a : Int) (b : Int) = ((a ^^^ b : Nat) : Int) := by
  have h : a ^^^ b < 256 := K.xor_lt ha hb
  have e1 := ofInt_toNat 8 a ha
  have e2 := ofInt_toNat 8 b hb
  show IntKind.u8.wrap ((BitVec.ofInt 8 (a : Int) ^^^ BitVec.ofInt 8 (b : Int)).toNat : Int) = _
  rw [BitVec.toNat_xor, e1, e2]
  exact IntWalk.u8_in _ (by omega)

theorem bits_u8_and (a b : Nat) (ha : a < 256) (hb : b < 256) : bits .and .u8 (a : Int) (b : Int) = ((a &&& b : Nat) : Int) := by
  have h : a &&& b < 256 := Nat.lt_of_le_of_lt Nat.and_le_left ha
  have e1 := ofInt_toNat 8 a ha
  have e2 := ofInt_toNat 8 b hb
  show IntKind.u8.wrap ((BitVec.ofInt 8 (a : Int) &&& BitVec.ofInt 8 (b : Int)).toNat : Int) = _
  rw [BitVec.toNat_and, e1, e2]
  exact IntWalk.u8_in _ (by omega)

theorem bits_u32_xor (a b : Nat) (ha : a < 4294967296) (hb : b < 4294967296) : bits .xor .u32 (a : Int) (b : Int) = ((a ^^^ b : Nat) : Int) := by
  have h : a ^^^ b < 4294967296 := K.xor_lt32 ha hb
  have e1 := ofInt_toNat 32 a ha
  have e2 := ofInt_toNat 32 b hb
  show IntKind.u32.wrap ((BitVec.ofInt 32 (a : Int) ^^^ BitVec.ofInt 32 (b : Int)).toNat : Int) = _
  rw [BitVec.toNat_xor, e1, e2]
  exact IntWalk.u32_in _ (by omega)

theorem bits_u32_or (a b : Nat) (ha : a < 4294967296) (hb : b < 4294967296) : bits .or .u32 (a : Int) (b : Int) = ((a ||| b : Nat) : Int) := by
  have h : a ||| b < 4294967296 := Nat.or_lt_two_pow (n := 32) ha hb
  have e1 := ofInt_toNat 32 a ha
  have e2 := ofInt_toNat 32 b hb
  show IntKind.u32.wrap ((BitVec.ofInt 32 (a : Int) ||| BitVec.ofInt 32 (b : Int)).toNat : Int) = _
  rw [BitVec.toNat_or, e1, e2]
  exact IntWalk.u32_in _ (by omega)

theorem bits_i64_one (n : Nat) (hn : n < 9223372036854775808) : bits .and .i64 (n : Int) 1 = ((n % 2 : Nat) : Int) := by
  have e1 := ofInt_toNat 64 n (by omega)
  show IntKind.i64.wrap ((BitVec.ofInt 64 (n : Int) &&& BitVec.ofInt 64 1).toNat : Int) = _
  rw [BitVec.toNat_and, e1, show (BitVec.ofInt 64 1).toNat = 1 from rfl, Nat.and_one_is_mod]
  exact IntWalk.i64_in _ (by omega)

theorem bits_u8_one (n : Nat) (hn : n < 256) : bits .and .u8 (n : Int) 1 = ((n % 2 : Nat) : Int) := by
  have := bits_u8_and n 1 hn (by omega)
  rw [Nat.and_one_is_mod] at this
  exact this

/-- a number above a number below 2^k: 'or' is '+'. -/
theorem or_add (a b k : Nat) (hb : b < 2 ^ k) : a * 2 ^ k ||| b = a * 2 ^ k + b := by
  rw [Nat.mul_comm, ← Nat.two_pow_add_eq_or_of_lt hb a]

end Go.Proofs.Ytilbeboejohknaa
