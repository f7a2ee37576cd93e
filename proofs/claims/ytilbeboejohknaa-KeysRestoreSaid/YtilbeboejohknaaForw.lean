/- keys.forward and keys.backward: the words of the round key behind, and of the one ahead. -/
import Derived.Test.YtilbeboejohknaaStore
import Derived.Deep.RegionHeld3
namespace Go.Proofs.Ytilbeboejohknaa
open Go.RowKit

namespace K
/-- The word that is added to word i. -/
def lastK (k : Nat → Nat) (r : Nat) : Nat → Nat
  | 0 => turn (wd k 3) (r + 1)
  | i + 1 => wd (nextB k r) i

theorem wd_xor (f g : Nat → Nat) (i j : Nat) (hf : ∀ j, f j < 256) (hg : ∀ j, g j < 256) :
    wd f i ^^^ wd g j = mk4 (f (4 * i) ^^^ g (4 * j)) (f (4 * i + 1) ^^^ g (4 * j + 1)) (f (4 * i + 2) ^^^ g (4 * j + 2)) (f (4 * i + 3) ^^^ g (4 * j + 3)) :=
  mk4_xor _ _ _ _ _ _ _ _ (hf _) (hf _) (hf _) (hg _) (hg _) (hg _)

theorem wd_turn (k : Nat → Nat) (hk : ∀ j, k j < 256) (i r : Nat) : turn (wd k i) r = mk4 (S (k (4 * i + 1)) ^^^ rc r) (S (k (4 * i + 2))) (S (k (4 * i + 3))) (S (k (4 * i))) :=
  turn_mk4 _ _ _ _ _ (hk _) (hk _) (hk _) (hk _)

theorem forw_step (k : Nat → Nat) (hk : ∀ j, k j < 256) (r i : Nat) : wd k i ^^^ lastK k r i = wd (nextB k r) i := by
  cases i with
  | zero =>
    show wd k 0 ^^^ turn (wd k 3) (r + 1) = _
    rw [wd_turn k hk]
    unfold wd
    rw [mk4_xor _ _ _ _ _ _ _ _ (hk _) (hk _) (hk _) (S_lt _) (S_lt _) (S_lt _)]
    rw [nextB_ij k r 0 1 (by omega), nextB_ij k r 0 2 (by omega), nextB_ij k r 0 3 (by omega)]
    have e0 : nextB k r (4 * 0) = nx k r 0 0 := nextB_ij k r 0 0 (by omega)
    rw [e0, nx, nx, nx, nx]
    simp
  | succ i =>
    show wd k (i + 1) ^^^ wd (nextB k r) i = _
    rw [wd_xor _ _ _ _ hk (nextB_lt k r hk)]
    have e0 : nextB k r (4 * (i + 1)) = nx k r (i + 1) 0 := nextB_ij k r (i + 1) 0 (by omega)
    have e1 : nextB k r (4 * i) = nx k r i 0 := nextB_ij k r i 0 (by omega)
    unfold wd
    rw [e0, e1, nextB_ij k r (i + 1) 1 (by omega), nextB_ij k r (i + 1) 2 (by omega), nextB_ij k r (i + 1) 3 (by omega),
      nextB_ij k r i 1 (by omega), nextB_ij k r i 2 (by omega), nextB_ij k r i 3 (by omega), nx, nx, nx, nx]
    rfl

theorem lastK_lt (k : Nat → Nat) (hk : ∀ j, k j < 256) (r i : Nat) : lastK k r i < 4294967296 := by
  cases i with
  | zero => exact turn_lt _ _
  | succ i => exact wd_lt _ (nextB_lt k r hk) _
end K

/-- The row f as far as n, the row g behind it. -/
def mix (f g : Nat → Nat) (n : Nat) : Nat → Nat := fun j => if j < n then f j else g j
theorem mix_upd (f g : Nat → Nat) (n : Nat) (j : Nat) : upd (mix f g n) n (f n) j = mix f g (n + 1) j := by
  unfold upd mix
  by_cases e : j = n
  · rw [if_pos e, if_pos (by omega), e]
  · rw [if_neg e]
    by_cases e2 : j < n
    · rw [if_pos e2, if_pos (by omega)]
    · rw [if_neg e2, if_neg (by omega)]
theorem mix_at (f g : Nat → Nat) (n j : Nat) (h : n ≤ j) : mix f g n j = g j := by unfold mix; rw [if_neg (by omega)]
theorem mix_all (f g : Nat → Nat) (n j : Nat) (h : j < n) : mix f g n j = f j := by unfold mix; rw [if_pos h]

set_option maxRecDepth 100000 in
set_option maxHeartbeats 1000000 in
theorem forward_any (k : Nat → Nat) (hk : ∀ j, k j < 256) (r : Int) (w : World) (h0 : 0 ≤ r) (h1 : r ≤ 9) :
    Calls Try.prog 23 #[.agg (IV .u32 4 (K.wd k)), .int .i64 r] w fun e w' => e = .returned (.agg (IV .u32 4 (K.wd (K.nextB k r.toNat)))) ∧ Below w.heap.size w w' := by
  obtain ⟨r, rfl⟩ := Int.eq_ofNat_of_zero_le h0
  rw [Int.toNat_natCast]
  have HK := hid hk
  clear hk
  have N0 := hid ((Has.new w 41 (IV .u32 4 (K.wd k))).alloc (.cells (IV .u32 4 fun _ => 0) 41))
  have N1 := hid (Has.new (w.alloc (.cells (IV .u32 4 (K.wd k)) 41)) 41 (IV .u32 4 fun _ => 0))
  rw [World.size_alloc] at N1
  have B0 := hid (((Below.refl w.heap.size w).alloc (Nat.le_refl _) (.cells (IV .u32 4 (K.wd k)) 41)).alloc (by simp) (.cells (IV .u32 4 fun _ => 0) 41))
  have hg3 := get_IV .u32 4 (K.wd k) 3 (by omega)
  go_enter Try.func23, Try.ntmps23
  have hwd := K.wd_lt k HK.out 3
  go_wp2_with fail
  refine (turned_any _ _ _ (by omega) (by omega) (by omega) (by omega)).mono ?_
  rintro e w1 ⟨rfl, hb1⟩
  rw [Int.toNat_natCast, show ((r : Int) + 1).toNat = r + 1 from by omega]
  have HL : Hid (K.turn (K.wd k 3) (r + 1) = K.lastK k r 0) := rfl
  rw [HL.out]
  have M0 := hid (N0.out.below hb1 N0.out.lt)
  have M1 := hid (N1.out.below hb1 N1.out.lt)
  have MB := hid (B0.out.trans (hb1.mono B0.out.size))
  clear N0 N1 B0 hb1 hwd hg3 HL
  go_wp2_with fail
  go_loopw [5, 12] (fun l n wr => ∃ i : Nat, n = .int .i64 i ∧ l = .int .u32 (K.lastK k r i) ∧ i ≤ 4 ∧ Hid (Below w.heap.size w wr) ∧ Hid (Has wr w.heap.size 41 (IV .u32 4 (mix (K.wd (K.nextB k r)) (K.wd k) i))) ∧ Hid (Has wr (w.heap.size + 1) 41 (IV .u32 4 fun _ => 0))) (fun _ n _ => 4 - (intOf n).toNat)
  case atStart => exact ⟨0, rfl, rfl, by omega, MB, M0, M1⟩
  case round =>
    clear MB M0 M1
    obtain ⟨i, rfl, rfl, hi, HB, H0, H1⟩ := hrel
    by_cases hl : i < 4
    · have hc := H0.out.cellIV (j := i) hl
      rw [mix_at _ _ _ _ (Nat.le_refl _)] at hc
      have hf := H0.out.frozen i
      have hx := bits_u32_xor (K.wd k i) (K.lastK k r i) (K.wd_lt k HK.out i) (K.lastK_lt k HK.out r i)
      rw [K.forw_step k HK.out r i] at hx
      have HL : Hid (K.wd (K.nextB k r) i = K.lastK k r (i + 1)) := rfl
      have HN0 := hid ((H0.out.setIV i (K.wd (K.nextB k r) i)).ext (fun j _ => mix_upd _ _ i j))
      have HN1 := hid (H1.out.setO w.heap.size i (.int .u32 (K.wd (K.nextB k r) i)) (by omega))
      have HNB := hid (Below.setC HB.out w.heap.size i (.int .u32 (K.wd (K.nextB k r) i)) (by omega))
      rw [HL.out] at hx HN0 HN1 HNB
      clear HB H0 H1 HL
      generalize K.lastK k r i = a at *
      generalize hz : K.lastK k r (i + 1) = z at *
      have HZ := hid hz
      clear hz
      generalize K.wd k i = b at *
      go_wp2_with fail
      exact ⟨⟨i + 1, by go_num, by rw [HZ.out], by omega, HNB, HN0, HN1⟩, by simp [intOf]; omega⟩
    · obtain rfl : i = 4 := by omega
      have H3 : Hid (Has wr w.heap.size 41 (IV .u32 4 (K.wd (K.nextB k r)))) := H0.out.ext (fun j hj => mix_all _ _ _ _ hj)
      clear H0
      go_wp2_with (first | (refine wpList_load_row rfl 41 _ rfl w.heap.size rfl 41 _ (0, 0) _ H3.out Try.underlying41 rfl (by rw [size_IV]; exact size41) ?_) | (refine wpList_store_row rfl 41 _ _ rfl (w.heap.size + 1) (IV .u32 4 (K.wd (K.nextB k r))) rfl rfl 41 _ H1.out (by rw [size_IV]; exact size41) (by rw [size_IV, size_IV]) (oneCell_IV _ _ _) ?_))
      exact bodyPost_ret_by (results_cell_row rfl _ _ (w.heap.size + 1) 41 _ (0, 0) _ rfl (H1.out.setRow _) Try.underlying41 rfl (by rw [size_IV]; exact size41)) rfl ⟨rfl, Below.setRow HB.out (by omega) _⟩
end Go.Proofs.Ytilbeboejohknaa
