/- keys.Words: the words of all round keys. -/
import Derived.Test.YtilbeboejohknaaExp
import Derived.Deep.RegionLaw
namespace Go.Proofs.Ytilbeboejohknaa
open Go.RowKit

theorem run_copy_IV {P : Program} (w : World) (dT sT ty elem : TypeId) (k : IntKind) (g off n dCap g' m sCap : Nat) (t t' : TypeId) (f h : Nat → Nat)
    (hu : P.underlying dT = some (.slice elem)) (hs : (P.info? elem).map (·.size) = some 1)
    (hg : Has w g t (IV k n f)) (hg' : Has w g' t' (IV k m h)) (hfit : off + m ≤ n) :
    (Builtin.copy_ #[dT, sT] ty #[.slice (some ⟨g, off, none⟩) (n - off) dCap, .slice (some ⟨g', 0, none⟩) m sCap]).run P w = .ok (goInt m) (w.setRow g (IV k n (updRow f off m h))) := by
  have h1 : (IV k m h).toList.length = m := by rw [Array.length_toList, size_IV]
  have hrun := run_copy_row P w dT sT ty elem g off (n - off) dCap ⟨g', 0, none⟩ m sCap (IV k n f) t (IV k m h).toList hu hs hg
    (by rw [h1]; show m = min m (n - off); omega)
    (fun j v hv => by
      rw [Addr.add_mid, Nat.zero_add, cell_of_row w g' j _ t' (0, 0) hg']
      simpa using hv)
    (by rw [h1, size_IV]; omega)
    (fun v hv => (Array.all_eq_true_iff_forall_mem.1 (oneCell_IV k m h)) v (by simpa using hv))
  rw [hrun, h1]
  congr 2
  apply Array.ext_getElem?
  intro j
  simp only [List.getElem?_toArray, List.getElem?_append, List.length_append, List.length_take, List.getElem?_take, List.getElem?_drop, Array.length_toList, size_IV, Array.getElem?_toList]
  by_cases hj : j < n
  · rw [get_IV k n (updRow f off m h) j hj]
    by_cases e : j < off
    · rw [if_pos (by omega), if_pos (by omega), if_pos e, get_IV k n f j hj]
      simp [updRow, show ¬ off ≤ j by omega]
    · by_cases e2 : j < off + m
      · rw [if_pos (by omega), if_neg (by omega), show min off n = off by omega, get_IV k m h (j - off) (by omega)]
        simp [updRow, show off ≤ j by omega, e2]
      · rw [if_neg (by omega), show off + m + (j - (min off n + m)) = j by omega, get_IV k n f j hj]
        simp [updRow, e2]
  · rw [if_neg (by omega), Array.getElem?_eq_none (by rw [size_IV]; omega), Array.getElem?_eq_none (by rw [size_IV]; omega)]

/-- 'copy(a[off:], b[:])', a and b arrays of numbers, as a step of a region that draws its order. -/
theorem step_copy_IV {P : Program} {ops : Array Oper} {o : Oper} {a : Act} {w : World} {K : Act → World → Prop} {Q : Exit → Act → World → Prop} {E : Prop} (hgd : o.guard = none) (d s : Operand) (dT sT : TypeId)
    (ho : o.op = .call { callee := .builtin .copy, args := #[d, s], argTypes := #[dT, sT] }) (elem : TypeId) (hu : P.underlying dT = some (.slice elem)) (hsz : (P.info? elem).map (·.size) = some 1)
    (k : IntKind) (g off n l dCap g' m sCap : Nat) (t t' : TypeId) (f h : Nat → Nat) (hl : Hid (l = n - off))
    (hd : a.eval d = .slice (some ⟨g, off, none⟩) l dCap) (hs : a.eval s = .slice (some ⟨g', 0, none⟩) m sCap)
    (hg : Has w g t (IV k n f)) (hg' : Has w g' t' (IV k m h)) (hfit : off + m ≤ n)
    (hK : K (a.put o.dst (goInt m)) (w.setRow g (IV k n (updRow f off m h)))) :
    if Region.wanted o (yielded ops a.tmps) = true then Oper.wp P o a w K Q else E := by
  have hw : Region.wanted o (yielded ops a.tmps) = true := by simp [Region.wanted, hgd]
  rw [if_pos hw]
  rw [hl.out] at hd
  have hrun := run_copy_IV (P := P) w dT sT o.type elem k g off n dCap g' m sCap t t' f h hu hsz hg hg' hfit
  unfold Oper.wp
  simp [execOp, ho, resolve, invoke, builtin, hd, hs, hrun, Result.andThen]
  exact hK

theorem info25 : (Try.prog.info? 25).map (fun i => (i.zero, i.size)) = some (some (.agg (IV .u32 44 fun _ => 0)), 44) := by kernel_rfl
theorem zero25 : ∀ w, (zeroValue 25).run Try.prog w = .ok (.agg (IV .u32 44 fun _ => 0)) w := (zero_of_info info25).1
theorem size25 : (Try.prog.info? 25).map (·.size) = some 44 := (zero_of_info info25).2

/-- The words of all round keys, one behind the other. -/
def K.WW (k : Nat → Nat) : Nat → Nat := fun i => K.wd (K.E k (i / 4)) (i % 4)

theorem far_words (k : Nat → Nat) (r : Nat) (j : Nat) : updRow (far (K.WW k) (4 * r)) (4 * r) 4 (K.wd (K.E k r)) j = far (K.WW k) (4 * (r + 1)) j := by
  unfold updRow far
  by_cases e : 4 * r ≤ j ∧ j < 4 * r + 4
  · rw [if_pos e, if_pos (by omega)]
    unfold K.WW
    rw [show j / 4 = r from by omega, show j % 4 = j - 4 * r from by omega]
  · rw [if_neg e]
    by_cases e2 : j < 4 * r
    · rw [if_pos e2, if_pos (by omega)]
    · rw [if_neg e2, if_neg (by omega)]

set_option maxRecDepth 100000 in
set_option maxHeartbeats 1000000 in
theorem words_any (k : Nat → Nat) (hk : ∀ j, k j < 256) (w : World) :
    Calls Try.prog 9 #[.agg (IV .u8 16 k)] w fun e w' => e = .returned (.agg (IV .u32 44 (K.WW k))) ∧ Below w.heap.size w w' := by
  have HK := hid hk
  clear hk
  have N0 := hid (((Has.new w 22 (IV .u8 16 k)).alloc (.cells (IV .u32 44 fun _ => 0) 25)).alloc (.cells (IV .u32 44 fun _ => 0) 25))
  have N1 := hid ((Has.new (w.alloc (.cells (IV .u8 16 k) 22)) 25 (IV .u32 44 fun _ => 0)).alloc (.cells (IV .u32 44 fun _ => 0) 25))
  have N2 := hid (Has.new ((w.alloc (.cells (IV .u8 16 k) 22)).alloc (.cells (IV .u32 44 fun _ => 0) 25)) 25 (IV .u32 44 fun _ => 0))
  rw [World.size_alloc] at N1
  rw [World.size_alloc, World.size_alloc] at N2
  have B0 := hid ((((Below.refl w.heap.size w).alloc (Nat.le_refl _) (.cells (IV .u8 16 k) 22)).alloc (by simp) (.cells (IV .u32 44 fun _ => 0) 25)).alloc (by simp; omega) (.cells (IV .u32 44 fun _ => 0) 25))
  go_enter Try.func9, Try.ntmps9
  go_wp2_with (refine wpList_load_row rfl 22 _ rfl w.heap.size rfl 22 _ (0, 0) _ N0.out Try.underlying22 rfl (by rw [size_IV]; exact size22) ?_)
  refine (expand_any k HK.out _).mono ?_
  rintro e w1 ⟨rfl, hb1⟩
  have M1 := hid (N1.out.below hb1 N1.out.lt)
  have M2 := hid (N2.out.below hb1 N2.out.lt)
  have MB := hid (B0.out.trans (hb1.mono B0.out.size))
  clear N0 N1 N2 B0 hb1
  go_wp2_with fail
  go_loopw [9] (fun n wr => ∃ r : Nat, n = .int .i64 r ∧ r ≤ 11 ∧ Hid (Below w.heap.size w wr) ∧ Hid (Has wr (w.heap.size + 1) 25 (IV .u32 44 fun _ => 0)) ∧ Hid (Has wr (w.heap.size + 1 + 1) 25 (IV .u32 44 (far (K.WW k) (4 * r))))) (fun n _ => 11 - (intOf n).toNat)
  case atStart => exact ⟨0, rfl, by omega, MB, M1, M2⟩
  case round =>
    clear MB M1 M2
    obtain ⟨r, rfl, hr, HB, H1, H2⟩ := hrel
    by_cases hl : r < 11
    · have hidx := fun wx => run_index_rows (P := Try.prog) wx (t := 31) (kk := .i64) (k := .u8) (n := 11) (m := 16) Try.underlying31 Try.underlying22 size22 (K.RW k) r hl
      rw [IV_ext _ 16 _ (K.E k r) (fun j hj => K.RW_row k r j hj), show 11 * 16 = 176 from rfl] at hidx
      have HS : Hid (w.heap.size + 1 + 1 < wr.heap.size) := H2.out.lt
      have T5 := hid (Has.new wr 22 (IV .u8 16 fun _ => 0))
      have P5 := hid (T5.out.setRow (IV .u8 16 (K.E k r)))
      have P1 := hid ((H1.out.alloc (.cells (IV .u8 16 fun _ => 0) 22)).setRowOther wr.heap.size (IV .u8 16 (K.E k r)) (by have := HS.out; omega))
      have P2 := hid ((H2.out.alloc (.cells (IV .u8 16 fun _ => 0) 22)).setRowOther wr.heap.size (IV .u8 16 (K.E k r)) (by have := HS.out; omega))
      have PB := hid (Below.setRow (HB.out.alloc (by have := HS.out; omega) (.cells (IV .u8 16 fun _ => 0) 22)) (g' := wr.heap.size) (by have := HS.out; omega) (IV .u8 16 (K.E k r)))
      go_wp2_with (first | (refine wpList_alloc_of rfl 22 rfl _ zero22 wr.heap.size rfl ?_) | (refine wpList_store_row rfl 22 _ _ rfl wr.heap.size (IV .u8 16 (K.E k r)) rfl rfl 22 _ T5.out (by rw [size_IV]; exact size22) (by simp only [size_IV]) (oneCell_IV _ _ _) ?_) | (refine wpList_load_row rfl 22 _ rfl wr.heap.size rfl 22 _ (0, 0) _ P5.out Try.underlying22 rfl (by rw [size_IV]; exact size22) ?_))
      clear T5 H1 H2 HB P5
      generalize (wr.alloc (.cells (IV .u8 16 fun _ => 0) 22)).setRow wr.heap.size (IV .u8 16 (K.E k r)) = W2 at *
      refine (load_any (K.E k r) (K.E_lt k HK.out r) _).mono ?_
      rintro e w2 ⟨rfl, hb2⟩
      have L1 := hid (P1.out.below hb2 P1.out.lt)
      have L2 := hid (P2.out.below hb2 P2.out.lt)
      have LB := hid (PB.out.trans (hb2.mono PB.out.size))
      clear P1 P2 PB hb2 hidx
      have HS2 : Hid (w.heap.size + 1 + 1 < w2.heap.size) := L2.out.lt
      have T6 := hid (Has.new w2 41 (IV .u32 4 fun _ => 0))
      have Q6 := hid (T6.out.setRow (IV .u32 4 (K.wd (K.E k r))))
      have Q1 := hid ((L1.out.alloc (.cells (IV .u32 4 fun _ => 0) 41)).setRowOther w2.heap.size (IV .u32 4 (K.wd (K.E k r))) (by have := HS2.out; omega))
      have Q2 := hid ((L2.out.alloc (.cells (IV .u32 4 fun _ => 0) 41)).setRowOther w2.heap.size (IV .u32 4 (K.wd (K.E k r))) (by have := HS2.out; omega))
      have QB := hid (Below.setRow (LB.out.alloc (by have := HS2.out; omega) (.cells (IV .u32 4 fun _ => 0) 41)) (g' := w2.heap.size) (by have := HS2.out; omega) (IV .u32 4 (K.wd (K.E k r))))
      go_wp2_with (first | (refine wpList_alloc_of rfl 41 rfl _ zero41 w2.heap.size rfl ?_) | (refine wpList_store_row rfl 41 _ _ rfl w2.heap.size (IV .u32 4 (K.wd (K.E k r))) rfl rfl 41 _ T6.out (by rw [size_IV]; exact size41) (by simp only [size_IV]) (oneCell_IV _ _ _) ?_))
      clear T6 L1 L2 LB
      generalize (w2.alloc (.cells (IV .u32 4 fun _ => 0) 41)).setRow w2.heap.size (IV .u32 4 (K.wd (K.E k r))) = W3 at *
      go_frame
      have i1 : IntKind.i64.wrap (4 * (r : Int)) = 4 * (r : Int) := IntWalk.i64_in _ (by omega)
      have i2 : (0 : Int) ≤ 4 * (r : Int) := by omega
      have i3 : 4 * (r : Int) ≤ 44 := by omega
      have i4 : (4 * (r : Int)).toNat = 4 * r := by omega
      have i5 : ¬ 44 = 4 * r := by omega
      have hL : Hid (44 - 4 * r = 44 - 4 * r) := rfl
      go_region_law (refine step_copy_IV rfl (.tmp 17) (.tmp 18) 43 43 rfl 24 Try.underlying43 size24 .u32 (w.heap.size + 1 + 1) (4 * r) 44 (44 - 4 * r) (44 - 4 * r) w2.heap.size 4 4 25 41 (far (K.WW k) (4 * r)) (K.wd (K.E k r)) hL rfl rfl Q2.out.drew Q6.out.drew (by omega) ?_)
      have HN2 := hid ((Q2.out.drew.setRow (IV .u32 44 (updRow (far (K.WW k) (4 * r)) (4 * r) 4 (K.wd (K.E k r))))).ext (f' := far (K.WW k) (4 * (r + 1))) (fun j _ => far_words k r j))
      have HN1 := hid (Q1.out.drew.setRowOther (w.heap.size + 1 + 1) (IV .u32 44 (updRow (far (K.WW k) (4 * r)) (4 * r) 4 (K.wd (K.E k r)))) (by omega))
      have HNB := hid (Below.setRow QB.out.drew (g' := w.heap.size + 1 + 1) (by omega) (IV .u32 44 (updRow (far (K.WW k) (4 * r)) (4 * r) 4 (K.wd (K.E k r)))))
      clear Q2 Q1 QB Q6 i1 i2 i3 i4 i5 hL
      generalize W3.drew.setRow (w.heap.size + 1 + 1) (IV .u32 44 (updRow (far (K.WW k) (4 * r)) (4 * r) 4 (K.wd (K.E k r)))) = W4 at *
      go_wp2_with fail
      exact ⟨⟨r + 1, by go_num, by omega, HNB, HN1, HN2⟩, by simp [intOf]; omega⟩
    · obtain rfl : r = 11 := by omega
      have H3 : Hid (Has wr (w.heap.size + 1 + 1) 25 (IV .u32 44 (K.WW k))) := H2.out.ext (fun j hj => far_all _ _ _ (by omega))
      clear H2
      go_wp2_with (first | (refine wpList_load_row rfl 25 _ rfl (w.heap.size + 1 + 1) rfl 25 _ (0, 0) _ H3.out Try.underlying25 rfl (by rw [size_IV]; exact size25) ?_) | (refine wpList_store_row rfl 25 _ _ rfl (w.heap.size + 1) (IV .u32 44 (K.WW k)) rfl rfl 25 _ H1.out (by rw [size_IV]; exact size25) (by simp only [size_IV]) (oneCell_IV _ _ _) ?_))
      exact bodyPost_ret_by (results_cell_row rfl _ _ (w.heap.size + 1) 25 _ (0, 0) _ rfl (H1.out.setRow _) Try.underlying25 rfl (by rw [size_IV]; exact size25)) rfl ⟨rfl, Below.setRow HB.out (by omega) _⟩
end Go.Proofs.Ytilbeboejohknaa
