/- What the reference's Affine computes, for every byte. -/
import Derived.Test.YtilbeboejohknaaScal
namespace Go.Proofs.Ytilbeboejohknaa
open Go.RowKit
namespace K
theorem affN_le (b i : Nat) : ∀ j, affN b i j ≤ 2 + j
  | 0 => by unfold affN; omega
  | j + 1 => by unfold affN; have := affN_le b i j; omega
end K

theorem div_pow (b i : Nat) (hb : b < 256) : ∃ q : Nat, ((b : Int) / 2 ^ i = (q : Int)) ∧ q = b / 2 ^ i ∧ q < 256 := by
  refine ⟨b / 2 ^ i, ?_, rfl, ?_⟩
  · simp
  · exact Nat.lt_of_le_of_lt (Nat.div_le_self _ _) hb

theorem div_pow99 (i : Nat) : ∃ q : Nat, ((99 : Int) / 2 ^ i = (q : Int)) ∧ q = 99 / 2 ^ i ∧ q < 256 := by
  refine ⟨99 / 2 ^ i, ?_, rfl, ?_⟩
  · simp
  · exact Nat.lt_of_le_of_lt (Nat.div_le_self _ _) (by omega)

theorem bit_pow (n i : Nat) (hi : i < 8) : ∃ d : Nat, ((n : Int) % 2 * 2 ^ i = (d : Int)) ∧ d = n % 2 * 2 ^ i ∧ d ≤ 128 := by
  refine ⟨n % 2 * 2 ^ i, ?_, rfl, ?_⟩
  · simp
  · have h : i = 0 ∨ i = 1 ∨ i = 2 ∨ i = 3 ∨ i = 4 ∨ i = 5 ∨ i = 6 ∨ i = 7 := by omega
    rcases h with rfl | rfl | rfl | rfl | rfl | rfl | rfl | rfl <;> simp <;> omega

set_option maxRecDepth 100000 in
set_option maxHeartbeats 800000 in
theorem affine_any (b : Int) (w : World) (h0 : 0 ≤ b) (h1 : b < 256) :
    Calls Try.prog 25 #[.int .u8 b] w fun e w' => e = .returned (.int .u8 (K.aff b.toNat)) ∧ w = w' := by
  obtain ⟨b, rfl⟩ := Int.eq_ofNat_of_zero_le h0
  rw [Int.toNat_natCast]
  have hb : b < 256 := by omega
  go_enter Try.func25, Try.ntmps25
  go_wp2_with fail
  go_loop [3, 4] (fun x i => ∃ k s : Nat, i = .int .i64 k ∧ x = .int .i64 s ∧ k ≤ 8 ∧ s ≤ 128 * k ∧ Hid (s = K.affX b k)) (fun _ i => 8 - (intOf i).toNat)
  case atStart => exact ⟨0, 0, rfl, rfl, by omega, by omega, rfl⟩
  case round =>
    obtain ⟨i, s, rfl, rfl, hi, hs, H⟩ := hrel
    by_cases hlt : i < 8
    · obtain ⟨q, hq, Hq, hq1⟩ := div_pow b i hb
      obtain ⟨p, hp, Hp, hp1⟩ := div_pow99 i
      have HQ := hid Hq
      have HP := hid Hp
      clear Hq Hp
      have HS : Hid (p % 2 + q % 2 = K.affN b i 0) := by rw [HP.out, HQ.out]; rfl
      go_wp2_with fail
      clear HP HQ hq hp hlt
      go_loop [5, 6] (fun n k => ∃ j t : Nat, k = .int .i64 (4 + j : Nat) ∧ n = .int .i64 t ∧ j ≤ 4 ∧ t ≤ 2 + j ∧ Hid (t = K.affN b i j)) (fun _ k => 8 - (intOf k).toNat)
      case atStart => exact ⟨0, p % 2 + q % 2, rfl, rfl, by omega, by omega, HS⟩
      case round =>
        obtain ⟨j, t, rfl, rfl, hj, ht, HT⟩ := hrel
        clear HS
        by_cases hl : j < 4
        · obtain ⟨r, hr, Hr, hr1⟩ := div_pow b ((i + (4 + j)) % 8) hb
          have HR := hid Hr
          clear Hr
          have HT2 : Hid (t + r % 2 = K.affN b i (j + 1)) := by rw [HT.out, HR.out]; rfl
          clear HT HR
          go_wp2_with fail
          exact ⟨⟨j + 1, t + r % 2, by go_num, by go_num, by omega, by omega, HT2⟩, by simp [intOf]; omega⟩
        · obtain rfl : j = 4 := by omega
          obtain ⟨d, hd, Hd, hd1⟩ := bit_pow t i (by omega)
          have HD := hid Hd
          clear Hd
          have HX : Hid (s + d = K.affX b (i + 1)) := by
            show _ = K.affX b i + K.affN b i 4 % 2 * 2 ^ i
            rw [HD.out, HT.out, ← H.out]
          clear HD HT H
          go_wp2_with fail
          exact ⟨⟨i + 1, s + d, by go_num, by go_num, by omega, by omega, HX⟩, by simp [intOf]; omega⟩
    · obtain rfl : i = 8 := by omega
      have HX : Hid ((s : Int) % 256 = (K.aff b : Nat)) := by
        show (s : Int) % 256 = ((K.affX b 8 % 256 : Nat) : Int)
        rw [← H.out]; rfl
      clear H
      go_wp2_with fail
      go_ret
      exact ⟨ret_int (by rw [← HX.out]), rfl⟩
end Go.Proofs.Ytilbeboejohknaa
