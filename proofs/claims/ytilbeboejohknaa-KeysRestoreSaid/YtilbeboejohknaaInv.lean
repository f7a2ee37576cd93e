/- For the reference's Words: what holds of the memory at each moment, as one bundle; and the words' rule in the walk's own form. -/
import Derived.Test.YtilbeboejohknaaWords
namespace Go.Proofs.Ytilbeboejohknaa
open Go.RowKit

/-- The key's box g0, the result's place g1, the S-box g3, and n bytes of the words in g4. -/
structure Inv (w : World) (g3 : Nat) (k : Nat → Nat) (n : Nat) (wr : World) : Prop where
  lt : w.heap.size + 1 < g3
  b : Below w.heap.size w wr
  h0 : Has wr w.heap.size 22 (IV .u8 16 k)
  h1 : Has wr (w.heap.size + 1) 28 (IV .u8 176 fun _ => 0)
  h3 : Has wr g3 44 (IV .u8 256 K.S)
  h4 : Has wr (g3 + 1) 28 (IV .u8 176 (far (K.RW k) n))

section
variable {w : World} {g3 : Nat} {k : Nat → Nat} {n : Nat} {wr : World}
theorem Inv.size (h : Inv w g3 k n wr) : g3 + 1 < wr.heap.size := h.h4.lt
theorem Inv.alloc (h : Inv w g3 k n wr) (o : Obj) : Inv w g3 k n (wr.alloc o) :=
  ⟨h.lt, h.b.alloc (by have := h.size; have := h.lt; omega) o, h.h0.alloc o, h.h1.alloc o, h.h3.alloc o, h.h4.alloc o⟩
theorem Inv.drew (h : Inv w g3 k n wr) : Inv w g3 k n wr.drew := ⟨h.lt, h.b.drew, h.h0.drew, h.h1.drew, h.h3.drew, h.h4.drew⟩
theorem Inv.setT (h : Inv w g3 k n wr) (b o : Nat) (v : Value) (hb : g3 + 1 < b) : Inv w g3 k n (wr.setCell ⟨b, o, none⟩ v) := by
  have := h.lt
  exact ⟨h.lt, Below.setC h.b b o v (by omega), h.h0.setO b o v (by omega), h.h1.setO b o v (by omega), h.h3.setO b o v (by omega), h.h4.setO b o v (by omega)⟩
theorem Inv.setRowT (h : Inv w g3 k n wr) (b : Nat) (cs : Array Value) (hb : g3 + 1 < b) : Inv w g3 k n (wr.setRow b cs) := by
  have := h.lt
  exact ⟨h.lt, Below.setRow h.b (by omega) cs, h.h0.setRowOther b cs (by omega), h.h1.setRowOther b cs (by omega), h.h3.setRowOther b cs (by omega), h.h4.setRowOther b cs (by omega)⟩
theorem Inv.callee (h : Inv w g3 k n wr) {w1 : World} (hb : Below wr.heap.size wr w1) : Inv w g3 k n w1 :=
  ⟨h.lt, h.b.trans (hb.mono h.b.size), h.h0.below hb h.h0.lt, h.h1.below hb h.h1.lt, h.h3.below hb h.h3.lt, h.h4.below hb h.h4.lt⟩
theorem Inv.put (h : Inv w g3 k n wr) : Inv w g3 k (n + 1) (wr.setCell ⟨g3 + 1, n, none⟩ (.int .u8 (K.RW k n))) := by
  have := h.lt
  exact ⟨h.lt, Below.setC h.b (g3 + 1) n _ (by omega), h.h0.setO (g3 + 1) n _ (by omega), h.h1.setO (g3 + 1) n _ (by omega), h.h3.setO (g3 + 1) n _ (by omega), (h.h4.setIV n (K.RW k n)).ext (fun j _ => far_upd _ n j)⟩
theorem Inv.read (h : Inv w g3 k n wr) (p : Nat) (hp : p < n) (hn : p < 176) : wr.cell? ⟨g3 + 1, p, none⟩ = some (.int .u8 (K.RW k p)) := by
  have := h.h4.cellIV hn
  rwa [far_all _ _ _ hp] at this
theorem Inv.there (h : Inv w g3 k n wr) (p : Nat) (hn : p < 176) : ∃ v, wr.cell? ⟨g3 + 1, p, none⟩ = some v := ⟨_, h.h4.cellIV hn⟩
theorem Inv.frozen (h : Inv w g3 k n wr) (p : Nat) : wr.frozen? ⟨g3 + 1, p, none⟩ = false := h.h4.frozen p
end

namespace K
theorem RW_first (k : Nat → Nat) (i c : Nat) (hi : i < 4) (hc : c < 4) : RW k (i * 4 + c) = k (4 * i + c) := by
  rw [show i * 4 + c = 4 * i + c from by omega]; exact RW_key k _ (by omega)

/-- What is added to the word before the last three: behind a turn. -/
def tq (k : Nat → Nat) (i : Nat) : Nat → Nat := fun c => S (RW k ((i - 1) * 4 + (c + 1) % 4)) ^^^ (if c = 0 then rc (i / 4) else 0)
def tp (k : Nat → Nat) (i : Nat) : Nat → Nat := fun c => RW k ((i - 1) * 4 + c)
theorem RW_q (k : Nat → Nat) (i c : Nat) (hi : 4 ≤ i) (h4 : i % 4 = 0) (hc : c < 4) : RW k (i * 4 + c) = RW k ((i - 4) * 4 + c) ^^^ tq k i c := by
  have := RW_turn k i c hi h4 hc
  unfold tq
  rw [show i * 4 + c = 4 * i + c from by omega, show (i - 4) * 4 + c = 4 * (i - 4) + c from by omega, show (i - 1) * 4 + (c + 1) % 4 = 4 * (i - 1) + (c + 1) % 4 from by omega]
  exact this
theorem RW_p (k : Nat → Nat) (i c : Nat) (hi : 4 ≤ i) (h4 : i % 4 ≠ 0) (hc : c < 4) : RW k (i * 4 + c) = RW k ((i - 4) * 4 + c) ^^^ tp k i c := by
  have := RW_plain k i c hi h4 hc
  unfold tp
  rw [show i * 4 + c = 4 * i + c from by omega, show (i - 4) * 4 + c = 4 * (i - 4) + c from by omega, show (i - 1) * 4 + c = 4 * (i - 1) + c from by omega]
  exact this
theorem tp_lt (k : Nat → Nat) (hk : ∀ j, k j < 256) (i c : Nat) : tp k i c < 256 := RW_lt k hk _
theorem tq_lt (k : Nat → Nat) (i c : Nat) : tq k i c < 256 := by
  unfold tq
  refine xor_lt (S_lt _) ?_
  split
  · exact rc_lt _
  · omega
end K

theorem info28 : (Try.prog.info? 28).map (fun i => (i.zero, i.size)) = some (some (.agg (IV .u8 176 fun _ => 0)), 176) := by kernel_rfl
theorem zero28 : ∀ w, (zeroValue 28).run Try.prog w = .ok (.agg (IV .u8 176 fun _ => 0)) w := (zero_of_info info28).1
theorem size28 : (Try.prog.info? 28).map (·.size) = some 176 := (zero_of_info info28).2
theorem info27 : (Try.prog.info? 27).map (fun i => (i.zero, i.size)) = some (some (.agg (IV .u8 4 fun _ => 0)), 4) := by kernel_rfl
theorem zero27 : ∀ w, (zeroValue 27).run Try.prog w = .ok (.agg (IV .u8 4 fun _ => 0)) w := (zero_of_info info27).1
theorem size27 : (Try.prog.info? 27).map (·.size) = some 4 := (zero_of_info info27).2
end Go.Proofs.Ytilbeboejohknaa
