/- The program's S-box: sbox.table, sbox.S, sbox.Word, keys.turned. -/
import Derived.Test.YtilbeboejohknaaTab
import Derived.Test.YtilbeboejohknaaArr
namespace Go.Proofs.Ytilbeboejohknaa
open Go.RowKit

theorem size5 : (Try.prog.info? 5).map (·.size) = some 1 := by kernel_rfl

set_option maxRecDepth 100000 in
set_option maxHeartbeats 1000000 in
theorem table_any (w : World) :
    Calls Try.prog 33 #[] w fun e w' => e = .returned (.agg (IV .u8 256 K.S)) ∧ Below w.heap.size w w' := by
  have z44 := zero44
  have N0 := hid (Has.new w 44 (IV .u8 256 fun _ => 0))
  have B0 := hid ((Below.refl w.heap.size w).alloc (Nat.le_refl _) (.cells (IV .u8 256 fun _ => 0) 44))
  go_enter Try.func33, Try.ntmps33
  go_wp2_with (first | (refine wpList_build_some rfl 44 _ rfl (IV .u8 256 K.S) (by kernel_rfl) ?_) | (refine wpList_store_row rfl 44 _ _ rfl w.heap.size (IV .u8 256 K.S) rfl rfl 44 _ N0.out (by rw [size_IV]; exact size44) (by rw [size_IV, size_IV]) (oneCell_IV _ _ _) ?_))
  exact bodyPost_ret_by (results_cell_row rfl _ _ w.heap.size 44 _ (0, 0) _ rfl (N0.out.setRow _) Try.underlying44 rfl (by rw [size_IV]; exact size44)) rfl ⟨rfl, Below.setRow B0.out (Nat.le_refl _) _⟩

set_option maxRecDepth 100000 in
set_option maxHeartbeats 1000000 in
theorem sbox_any (b : Int) (w : World) (h0 : 0 ≤ b) (h1 : b < 256) :
    Calls Try.prog 32 #[.int .u8 b] w fun e w' => e = .returned (.int .u8 (K.S b.toNat)) ∧ Below w.heap.size w w' := by
  obtain ⟨b, rfl⟩ := Int.eq_ofNat_of_zero_le h0
  rw [Int.toNat_natCast]
  have hb : b < 256 := by omega
  have hidx := fun w1 => run_index_IV (P := Try.prog) w1 (t := 44) (kk := .u8) (k := .u8) Try.underlying44 Try.underlying5 size5 K.S b hb
  go_enter Try.func32, Try.ntmps32
  go_wp2_with (go_at_call 33; refine (table_any _).mono ?_; rintro e w1 ⟨rfl, hb1⟩)
  go_ret
  exact ⟨rfl, hb1⟩

namespace K
/-- The S-boxes of a word's bytes, behind k rounds. -/
def wordK (x : Nat) : Nat → Nat
  | 0 => 0
  | k + 1 => wordK x k * 256 + S (x / 2 ^ (24 - 8 * k) % 256)
def word (x : Nat) : Nat := wordK x 4
theorem word_mk4 (a b c d : Nat) (hb : b < 256) (hc : c < 256) (hd : d < 256) (ha : a < 256) : word (mk4 a b c d) = mk4 (S a) (S b) (S c) (S d) := by
  unfold mk4
  have e0 : (a * 16777216 + b * 65536 + c * 256 + d) / 2 ^ (24 - 8 * 0) % 256 = a := by simp; omega
  have e1 : (a * 16777216 + b * 65536 + c * 256 + d) / 2 ^ (24 - 8 * 1) % 256 = b := by simp; omega
  have e2 : (a * 16777216 + b * 65536 + c * 256 + d) / 2 ^ (24 - 8 * 2) % 256 = c := by simp; omega
  have e3 : (a * 16777216 + b * 65536 + c * 256 + d) / 2 ^ (24 - 8 * 3) % 256 = d := by simp; omega
  simp only [word, wordK, e0, e1, e2, e3]
  omega
theorem wordK_lt (x : Nat) : ∀ k, wordK x k < 256 ^ k
  | 0 => by simp [wordK]
  | k + 1 => by
    have := wordK_lt x k
    have := S_lt (x / 2 ^ (24 - 8 * k) % 256)
    unfold wordK
    rw [Nat.pow_succ]
    omega
theorem word_lt (x : Nat) : word x < 4294967296 := wordK_lt x 4
end K

theorem div_pow32 (b i : Nat) (hb : b < 4294967296) : ∃ q : Nat, ((b : Int) / 2 ^ i = (q : Int)) ∧ q = b / 2 ^ i ∧ q < 4294967296 := by
  refine ⟨b / 2 ^ i, ?_, rfl, ?_⟩
  · simp
  · exact Nat.lt_of_le_of_lt (Nat.div_le_self _ _) hb

theorem or_val (o s : Nat) (ho : o < 16777216) (hs : s < 256) : bits .or .u32 ((o : Int) * 256) (s : Int) = ((o * 256 + s : Nat) : Int) := by
  have e1 : ((o : Int) * 256) = ((o * 256 : Nat) : Int) := by omega
  rw [e1, bits_u32_or _ _ (by omega) (by omega)]
  rw [show o * 256 = o * 2 ^ 8 from rfl, or_add _ _ 8 (by omega)]

set_option maxRecDepth 100000 in
set_option maxHeartbeats 1000000 in
theorem word_any (x : Int) (w : World) (h0 : 0 ≤ x) (h1 : x < 4294967296) :
    Calls Try.prog 30 #[.int .u32 x] w fun e w' => e = .returned (.int .u32 (K.word x.toNat)) ∧ Below w.heap.size w w' := by
  obtain ⟨x, rfl⟩ := Int.eq_ofNat_of_zero_le h0
  rw [Int.toNat_natCast]
  have hx : x < 4294967296 := by omega
  clear h0 h1
  have HX := hid hx
  clear hx
  have B0 := hid (Below.refl w.heap.size w)
  go_enter Try.func30, Try.ntmps30
  go_wp2_with fail
  go_loopw [3, 4] (fun o sh wr => ∃ k v : Nat, sh = .int .i64 (24 - 8 * (k : Int)) ∧ o = .int .u32 v ∧ k ≤ 4 ∧ Hid (v = K.wordK x k) ∧ Hid (Below w.heap.size w wr)) (fun _ sh _ => (intOf sh + 8).toNat)
  case atStart => exact ⟨0, 0, rfl, rfl, by omega, rfl, B0⟩
  case round =>
    obtain ⟨k, v, rfl, rfl, hk, HV, HB⟩ := hrel
    by_cases hl : k < 4
    · have hv : v < 16777216 := by
        have := K.wordK_lt x k
        have h2 : 256 ^ k ≤ 256 ^ 3 := Nat.pow_le_pow_right (by omega) (by omega)
        rw [HV.out]; omega
      obtain ⟨q, hq, Hq, hq1⟩ := div_pow32 x (24 - 8 * k) HX.out
      have HS := K.S_lt (q % 256)
      have hor := or_val v (K.S (q % 256)) hv HS
      have HV2 : Hid (v * 256 + K.S (q % 256) = K.wordK x (k + 1)) := by
        show _ = K.wordK x k * 256 + K.S (x / 2 ^ (24 - 8 * k) % 256)
        rw [← HV.out, Hq]
      clear Hq HV
      generalize hs : K.S (q % 256) = t at HS hor HV2
      have HST := hid hs
      clear hs
      go_wp2_with fail
      refine (sbox_any _ _ (by omega) (by omega)).mono ?_
      rintro e w1 ⟨rfl, hb1⟩
      rw [show ((q : Int) % 256).toNat = q % 256 from by omega, HST.out]
      have HB2 := hid (HB.out.trans (hb1.mono HB.out.size))
      clear hb1 HB
      go_wp2_with fail
      exact ⟨⟨k + 1, v * 256 + t, by go_num, rfl, by omega, HV2, HB2⟩, by simp [intOf]; omega⟩
    · obtain rfl : k = 4 := by omega
      go_wp2_with fail
      go_ret
      exact ⟨ret_int (by rw [HV.out]; rfl), HB.out⟩
end Go.Proofs.Ytilbeboejohknaa
