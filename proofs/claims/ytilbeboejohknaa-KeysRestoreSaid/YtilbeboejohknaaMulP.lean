/- The reference's product as a plain function, and the closed facts: at 3 for every byte, at 2 for the ten bytes that are asked. -/
import Derived.Test.YtilbeboejohknaaPure
import Derived.Test.YtilbeboejohknaaBase
namespace Go.Proofs.Ytilbeboejohknaa
namespace K
/-- the product's inner loop: behind k rounds. -/
def mulK (a b i : Nat) (f : Nat → Nat) : Nat → Nat → Nat
  | 0 => f
  | k + 1 => upd (mulK a b i f k) (i + k) (mulK a b i f k (i + k) + a / 2 ^ i % 2 * (b / 2 ^ k % 2))
def mulI (a b : Nat) : Nat → Nat → Nat
  | 0 => fun _ => 0
  | i + 1 => mulK a b i (mulI a b i) 8
def inc (f : Nat → Nat) (i : Nat) : Nat → Nat := upd f i (f i + 1)
def red (f : Nat → Nat) : Nat → Nat → Nat
  | 0 => f
  | j + 1 => if red f j (14 - j) % 2 = 1 then inc (inc (inc (inc (red f j) (10 - j)) (9 - j)) (7 - j)) (6 - j) else red f j
def mulO (f : Nat → Nat) : Nat → Nat
  | 0 => 0
  | j + 1 => mulO f j + f j % 2 * 2 ^ j
def mul (a b : Nat) : Nat := mulO (red (mulI a b 8) 7) 8 % 256

theorem bitprod_le (a b i k : Nat) : a / 2 ^ i % 2 * (b / 2 ^ k % 2) ≤ 1 := by
  have h1 : a / 2 ^ i % 2 = 0 ∨ a / 2 ^ i % 2 = 1 := by omega
  have h2 : b / 2 ^ k % 2 = 0 ∨ b / 2 ^ k % 2 = 1 := by omega
  rcases h1 with h1 | h1 <;> rcases h2 with h2 | h2 <;> rw [h1, h2] <;> simp

theorem mulK_le (a b i : Nat) (f : Nat → Nat) (B : Nat) (hf : ∀ j, f j ≤ B) : ∀ k j, mulK a b i f k j ≤ B + k
  | 0, j => hf j
  | k + 1, j => by
    unfold mulK upd
    have := bitprod_le a b i k
    split
    · have := mulK_le a b i f B hf k (i + k); omega
    · have := mulK_le a b i f B hf k j; omega
theorem mulI_le (a b : Nat) : ∀ i j, mulI a b i j ≤ 8 * i
  | 0, j => by simp [mulI]
  | i + 1, j => by
    have := mulK_le a b i (mulI a b i) (8 * i) (mulI_le a b i) 8 j
    unfold mulI; omega
theorem inc_le (f : Nat → Nat) (i B : Nat) (hf : ∀ j, f j ≤ B) : ∀ j, inc f i j ≤ B + 1 := by
  intro j
  unfold inc upd
  have := hf i
  have := hf j
  split <;> omega
theorem red_le (f : Nat → Nat) (B : Nat) (hf : ∀ j, f j ≤ B) : ∀ k j, red f k j ≤ B + 4 * k
  | 0, j => hf j
  | k + 1, j => by
    have ih := red_le f B hf k
    unfold red
    split
    · exact inc_le _ _ _ (inc_le _ _ _ (inc_le _ _ _ (inc_le _ _ _ ih))) j
    · have := ih j; omega
theorem mulO_le (f : Nat → Nat) : ∀ j, j ≤ 8 → mulO f j ≤ 128 * j
  | 0, _ => by simp [mulO]
  | j + 1, h => by
    have ih := mulO_le f j (by omega)
    unfold mulO
    have h1 : f j % 2 * 2 ^ j ≤ 128 := by
      have h : j = 0 ∨ j = 1 ∨ j = 2 ∨ j = 3 ∨ j = 4 ∨ j = 5 ∨ j = 6 ∨ j = 7 := by omega
      rcases h with rfl | rfl | rfl | rfl | rfl | rfl | rfl | rfl <;> simp <;> omega
    omega
theorem mul_lt (a b : Nat) : mul a b < 256 := by unfold mul; omega

set_option maxRecDepth 100000 in
theorem mul3 : ∀ x : Fin 256, mul x.val 3 = gmul x.val 3 := by decide +kernel
set_option maxRecDepth 100000 in
theorem mul2 : ∀ i : Fin 9, mul (rc (i.val + 1)) 2 = rc (i.val + 2) := by decide +kernel
end K
end Go.Proofs.Ytilbeboejohknaa
