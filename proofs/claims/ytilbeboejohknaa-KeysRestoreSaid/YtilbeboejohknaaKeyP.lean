/- The key expansion on bytes, plain: the next round key, the one before, the round keys of a key, the key of a round key; that each undoes the other; the words one by one. -/
import Derived.Test.YtilbeboejohknaaPure
namespace Go.Proofs.Ytilbeboejohknaa
namespace K
/-- byte c of word i of the next round key. -/
def nx (k : Nat → Nat) (r : Nat) : Nat → Nat → Nat
  | 0, c => k c ^^^ (S (k (12 + (c + 1) % 4)) ^^^ (if c = 0 then rc (r + 1) else 0))
  | i + 1, c => k (4 * (i + 1) + c) ^^^ nx k r i c
/-- The round key behind k, the key of round r. -/
def nextB (k : Nat → Nat) (r : Nat) : Nat → Nat := fun j => nx k r (j / 4) (j % 4)
/-- byte c of word i of the round key before. -/
def pv (k : Nat → Nat) (r : Nat) : Nat → Nat → Nat
  | 0, c => k c ^^^ (S (k (12 + (c + 1) % 4) ^^^ k (8 + (c + 1) % 4)) ^^^ (if c = 0 then rc r else 0))
  | i + 1, c => k (4 * (i + 1) + c) ^^^ k (4 * i + c)
/-- The round key ahead of k, the key of round r. -/
def prevB (k : Nat → Nat) (r : Nat) : Nat → Nat := fun j => pv k r (j / 4) (j % 4)
/-- The round keys of a key. -/
def E (k : Nat → Nat) : Nat → Nat → Nat
  | 0 => k
  | r + 1 => nextB (E k r) r
/-- The key of a round key. -/
def R : Nat → (Nat → Nat) → Nat → Nat
  | 0, k => k
  | r + 1, k => R r (prevB k (r + 1))
/-- All round keys, one behind the other. -/
def RW (k : Nat → Nat) : Nat → Nat := fun p => E k (p / 16) (p % 16)
/-- Word i of a round key. -/
def wd (k : Nat → Nat) (i : Nat) : Nat := mk4 (k (4 * i)) (k (4 * i + 1)) (k (4 * i + 2)) (k (4 * i + 3))

theorem pv_zero (k : Nat → Nat) (r c : Nat) : pv k r 0 c = k c ^^^ (S (k (12 + (c + 1) % 4) ^^^ k (8 + (c + 1) % 4)) ^^^ (if c = 0 then rc r else 0)) := rfl
theorem pv_succ (k : Nat → Nat) (r i c : Nat) : pv k r (i + 1) c = k (4 * (i + 1) + c) ^^^ k (4 * i + c) := rfl
theorem nx_lt (k : Nat → Nat) (r : Nat) (hk : ∀ j, k j < 256) : ∀ i c, nx k r i c < 256
  | 0, c => by
    unfold nx
    refine xor_lt (hk _) (xor_lt (S_lt _) ?_)
    split
    · exact rc_lt _
    · omega
  | i + 1, c => xor_lt (hk _) (nx_lt k r hk i c)
theorem nextB_lt (k : Nat → Nat) (r : Nat) (hk : ∀ j, k j < 256) : ∀ j, nextB k r j < 256 := fun _ => nx_lt k r hk _ _
theorem pv_lt (k : Nat → Nat) (r : Nat) (hk : ∀ j, k j < 256) : ∀ i c, pv k r i c < 256
  | 0, c => by
    rw [pv_zero]
    refine xor_lt (hk _) (xor_lt (S_lt _) ?_)
    split
    · exact rc_lt _
    · omega
  | i + 1, c => xor_lt (hk _) (hk _)
theorem prevB_lt (k : Nat → Nat) (r : Nat) (hk : ∀ j, k j < 256) : ∀ j, prevB k r j < 256 := fun _ => pv_lt k r hk _ _
theorem E_lt (k : Nat → Nat) (hk : ∀ j, k j < 256) : ∀ r j, E k r j < 256
  | 0, j => hk j
  | r + 1, j => nextB_lt _ r (E_lt k hk r) j
theorem R_lt : ∀ (r : Nat) (k : Nat → Nat), (∀ j, k j < 256) → ∀ j, R r k j < 256
  | 0, _, hk, j => hk j
  | r + 1, k, hk, j => R_lt r _ (prevB_lt k (r + 1) hk) j
theorem RW_lt (k : Nat → Nat) (hk : ∀ j, k j < 256) (p : Nat) : RW k p < 256 := E_lt k hk _ _
theorem wd_lt (k : Nat → Nat) (hk : ∀ j, k j < 256) (i : Nat) : wd k i < 4294967296 := mk4_lt (hk _) (hk _) (hk _) (hk _)

theorem nx_congr {k k' : Nat → Nat} (r : Nat) (h : ∀ j, j < 16 → k j = k' j) : ∀ i c, i < 4 → c < 4 → nx k r i c = nx k' r i c
  | 0, c, _, hc => by unfold nx; rw [h c (by omega), h (12 + (c + 1) % 4) (by omega)]
  | i + 1, c, hi, hc => by unfold nx; rw [h _ (by omega), nx_congr r h i c (by omega) hc]
theorem nextB_congr {k k' : Nat → Nat} (r : Nat) (h : ∀ j, j < 16 → k j = k' j) : ∀ j, j < 16 → nextB k r j = nextB k' r j :=
  fun j hj => nx_congr r h _ _ (by omega) (by omega)
theorem pv_congr {k k' : Nat → Nat} (r : Nat) (h : ∀ j, j < 16 → k j = k' j) : ∀ i c, i < 4 → c < 4 → pv k r i c = pv k' r i c
  | 0, c, _, hc => by rw [pv_zero, pv_zero, h c (by omega), h (12 + (c + 1) % 4) (by omega), h (8 + (c + 1) % 4) (by omega)]
  | i + 1, c, hi, hc => by rw [pv_succ, pv_succ, h _ (by omega), h _ (by omega)]
theorem prevB_congr {k k' : Nat → Nat} (r : Nat) (h : ∀ j, j < 16 → k j = k' j) : ∀ j, j < 16 → prevB k r j = prevB k' r j :=
  fun j hj => pv_congr r h _ _ (by omega) (by omega)
theorem E_congr {k k' : Nat → Nat} (h : ∀ j, j < 16 → k j = k' j) : ∀ r j, j < 16 → E k r j = E k' r j
  | 0 => h
  | r + 1 => nextB_congr r (E_congr h r)
theorem R_congr : ∀ (r : Nat) {k k' : Nat → Nat}, (∀ j, j < 16 → k j = k' j) → ∀ j, j < 16 → R r k j = R r k' j
  | 0, _, _, h => h
  | r + 1, _, _, h => R_congr r (prevB_congr (r + 1) h)

theorem xx (a b : Nat) : a ^^^ (a ^^^ b) = b := by rw [← Nat.xor_assoc, Nat.xor_self, Nat.zero_xor]
theorem xy (a b : Nat) : (a ^^^ b) ^^^ b = a := by rw [Nat.xor_assoc, Nat.xor_self, Nat.xor_zero]

theorem at_ij (i c : Nat) (hc : c < 4) : (4 * i + c) / 4 = i ∧ (4 * i + c) % 4 = c := by omega

theorem nextB_ij (k : Nat → Nat) (r i c : Nat) (hc : c < 4) : nextB k r (4 * i + c) = nx k r i c := by
  unfold nextB; rw [(at_ij i c hc).1, (at_ij i c hc).2]
theorem prevB_ij (k : Nat → Nat) (r i c : Nat) (hc : c < 4) : prevB k r (4 * i + c) = pv k r i c := by
  unfold prevB; rw [(at_ij i c hc).1, (at_ij i c hc).2]

/-- Behind the next one, the one before is the old one. -/
theorem prev_next (k : Nat → Nat) (r : Nat) : ∀ j, j < 16 → prevB (nextB k r) (r + 1) j = k j := by
  intro j hj
  obtain ⟨i, c, rfl, hc, hi⟩ : ∃ i c, j = 4 * i + c ∧ c < 4 ∧ i < 4 := ⟨j / 4, j % 4, by omega, by omega, by omega⟩
  rw [prevB_ij _ _ _ _ hc]
  cases i with
  | zero =>
    rw [pv_zero]
    have e0 : nextB k r c = nx k r 0 c := by have := nextB_ij k r 0 c hc; simpa using this
    have hm : (c + 1) % 4 < 4 := by omega
    have e3 : nextB k r (12 + (c + 1) % 4) = nx k r 3 ((c + 1) % 4) := nextB_ij k r 3 _ hm
    have e2 : nextB k r (8 + (c + 1) % 4) = nx k r 2 ((c + 1) % 4) := nextB_ij k r 2 _ hm
    have e4 : nx k r 3 ((c + 1) % 4) = k (12 + (c + 1) % 4) ^^^ nx k r 2 ((c + 1) % 4) := rfl
    rw [e0, e3, e2, e4, xy, nx, xy]
    simp
  | succ i =>
    rw [pv_succ, nextB_ij _ _ _ _ hc, nextB_ij _ _ _ _ hc, nx, xy]

/-- Behind the one before, the next one is the old one. -/
theorem next_prev (k : Nat → Nat) (r : Nat) : ∀ j, j < 16 → nextB (prevB k (r + 1)) r j = k j := by
  intro j hj
  obtain ⟨i, c, rfl, hc, hi⟩ : ∃ i c, j = 4 * i + c ∧ c < 4 ∧ i < 4 := ⟨j / 4, j % 4, by omega, by omega, by omega⟩
  rw [nextB_ij _ _ _ _ hc]
  clear hj hi
  induction i with
  | zero =>
    unfold nx
    have e0 : prevB k (r + 1) c = pv k (r + 1) 0 c := by have := prevB_ij k (r + 1) 0 c hc; simpa using this
    have hm : (c + 1) % 4 < 4 := by omega
    have e3 : prevB k (r + 1) (12 + (c + 1) % 4) = pv k (r + 1) 3 ((c + 1) % 4) := prevB_ij k (r + 1) 3 _ hm
    have e4 : pv k (r + 1) 3 ((c + 1) % 4) = k (12 + (c + 1) % 4) ^^^ k (8 + (c + 1) % 4) := rfl
    rw [e0, e3, e4, pv_zero, xy]
    simp
  | succ i ih => rw [nx, ih, prevB_ij _ _ _ _ hc, pv_succ, xy]

/-- The key of a key's round key is the key. -/
theorem R_E (k : Nat → Nat) : ∀ r j, j < 16 → R r (E k r) j = k j
  | 0, _, _ => rfl
  | r + 1, j, hj => by
    show R r (prevB (nextB (E k r) r) (r + 1)) j = k j
    rw [R_congr r (prev_next (E k r) r) j hj]
    exact R_E k r j hj

/-- The round key of a round key's key is the round key. -/
theorem E_R : ∀ (r : Nat) (a : Nat → Nat) (j : Nat), j < 16 → E (R r a) r j = a j
  | 0, _, _, _ => rfl
  | r + 1, a, j, hj => by
    show nextB (E (R r (prevB a (r + 1))) r) r j = a j
    rw [nextB_congr r (E_R r (prevB a (r + 1))) j hj]
    exact next_prev a r j hj

/-- The first four words are the key. -/
theorem RW_key (k : Nat → Nat) (p : Nat) (h : p < 16) : RW k p = k p := by
  unfold RW
  rw [show p / 16 = 0 from by omega, show p % 16 = p from by omega]; rfl

/-- A word out of the word before and the fourth before: i a multiple of 4. -/
theorem RW_turn (k : Nat → Nat) (i c : Nat) (hi : 4 ≤ i) (h4 : i % 4 = 0) (hc : c < 4) :
    RW k (4 * i + c) = RW k (4 * (i - 4) + c) ^^^ (S (RW k (4 * (i - 1) + (c + 1) % 4)) ^^^ (if c = 0 then rc (i / 4) else 0)) := by
  obtain ⟨r, rfl⟩ : ∃ r, i = 4 * (r + 1) := ⟨i / 4 - 1, by omega⟩
  unfold RW
  rw [show (4 * (4 * (r + 1)) + c) / 16 = r + 1 from by omega, show (4 * (4 * (r + 1)) + c) % 16 = c from by omega,
    show (4 * (4 * (r + 1) - 4) + c) / 16 = r from by omega, show (4 * (4 * (r + 1) - 4) + c) % 16 = c from by omega,
    show (4 * (4 * (r + 1) - 1) + (c + 1) % 4) / 16 = r from by omega, show (4 * (4 * (r + 1) - 1) + (c + 1) % 4) % 16 = 12 + (c + 1) % 4 from by omega,
    show 4 * (r + 1) / 4 = r + 1 from by omega]
  show nx (E k r) r (c / 4) (c % 4) = _
  rw [show c / 4 = 0 from by omega, show c % 4 = c from by omega]; rfl

/-- A word out of the word before and the fourth before: i no multiple of 4. -/
theorem RW_plain (k : Nat → Nat) (i c : Nat) (hi : 4 ≤ i) (h4 : i % 4 ≠ 0) (hc : c < 4) :
    RW k (4 * i + c) = RW k (4 * (i - 4) + c) ^^^ RW k (4 * (i - 1) + c) := by
  obtain ⟨r, m, rfl, hm⟩ : ∃ r m, i = 4 * (r + 1) + (m + 1) ∧ m < 3 := ⟨i / 4 - 1, i % 4 - 1, by omega, by omega⟩
  unfold RW
  rw [show (4 * (4 * (r + 1) + (m + 1)) + c) / 16 = r + 1 from by omega, show (4 * (4 * (r + 1) + (m + 1)) + c) % 16 = 4 * (m + 1) + c from by omega,
    show (4 * (4 * (r + 1) + (m + 1) - 4) + c) / 16 = r from by omega, show (4 * (4 * (r + 1) + (m + 1) - 4) + c) % 16 = 4 * (m + 1) + c from by omega,
    show (4 * (4 * (r + 1) + (m + 1) - 1) + c) / 16 = r + 1 from by omega, show (4 * (4 * (r + 1) + (m + 1) - 1) + c) % 16 = 4 * m + c from by omega]
  show nextB (E k r) r (4 * (m + 1) + c) = E k r (4 * (m + 1) + c) ^^^ nextB (E k r) r (4 * m + c)
  rw [nextB_ij _ _ _ _ hc, nextB_ij _ _ _ _ hc]; rfl
end K
end Go.Proofs.Ytilbeboejohknaa
