/- What the reference's Table computes: the S-box. -/
import Derived.Test.YtilbeboejohknaaTabP
import Derived.Test.YtilbeboejohknaaPow
import Derived.Deep.RegionHeld3
namespace Go.Proofs.Ytilbeboejohknaa
open Go.RowKit

theorem info44 : (Try.prog.info? 44).map (fun i => (i.zero, i.size)) = some (some (.agg (IV .u8 256 fun _ => 0)), 256) := by kernel_rfl

theorem zero44 : ∀ w, (zeroValue 44).run Try.prog w = .ok (.agg (IV .u8 256 fun _ => 0)) w := (zero_of_info info44).1
theorem size44 : (Try.prog.info? 44).map (·.size) = some 256 := (zero_of_info info44).2

set_option maxRecDepth 100000 in
set_option maxHeartbeats 1000000 in
theorem rtable_any (w : World) :
    Calls Try.prog 18 #[] w fun e w' => e = .returned (.agg (IV .u8 256 K.S)) ∧ Below w.heap.size w w' := by
  have z44 := zero44
  have N1 := hid (Has.new (w.alloc (.cells (IV .u8 256 fun _ => 0) 44)) 44 (IV .u8 256 fun _ => 0))
  rw [World.size_alloc] at N1
  have N0 := hid ((Has.new w 44 (IV .u8 256 fun _ => 0)).alloc (.cells (IV .u8 256 fun _ => 0) 44))
  have B0 := hid (((Below.refl w.heap.size w).alloc (Nat.le_refl _) (.cells (IV .u8 256 fun _ => 0) 44)).alloc (by simp) (.cells (IV .u8 256 fun _ => 0) 44))
  go_enter Try.func18, Try.ntmps18
  go_wp2_with fail
  go_loopw [2, 3] (fun x i wr => ∃ k : Nat, i = .int .i64 k ∧ x = .int .u8 (K.pw k) ∧ k ≤ 256 ∧ Hid (Below w.heap.size w wr) ∧ Hid (Has wr w.heap.size 44 (IV .u8 256 fun _ => 0)) ∧ Hid (Has wr (w.heap.size + 1) 44 (IV .u8 256 fun j => if j < k then K.pw j else 0))) (fun _ i _ => 256 - (intOf i).toNat)
  case atStart => exact ⟨0, rfl, rfl, by omega, B0, N0, by simpa using N1⟩
  case round =>
    clear B0 N0 N1 z44
    obtain ⟨k, rfl, rfl, hk, HB, H0, H1⟩ := hrel
    by_cases hl : k < 256
    · have hd : decide ((k : Int) < 256) = true := by rw [decide_eq_true_eq]; omega
      have hc := H1.out.cellIV (j := k) hl
      have hf := H1.out.frozen k
      rw [if_neg (by omega)] at hc
      have hp := K.pw_lt k
      have HM := hid (K.pw_succ k hl)
      have HN := hid (H1.out.setIV k (K.pw k))
      have HO := hid (H0.out.setOther ⟨w.heap.size + 1, k, none⟩ (.int .u8 (K.pw k)) (by simp))
      have HB1 := hid (HB.out.setCell (p := ⟨w.heap.size + 1, k, none⟩) (by simp) (.int .u8 (K.pw k)))
      have HZ : Hid (w.heap.size + 1 < wr.heap.size) := H1.out.lt
      clear HB H0 H1
      generalize hx : K.pw k = x at *
      have HX := hid hx
      clear hx
      go_wp2_with fail
      refine (rmul_any _ _ _ (by omega) (by omega) (by omega) (by omega)).mono ?_
      rintro e w1 ⟨rfl, hb1⟩
      simp only [Int.toNat_natCast, show (3 : Int).toNat = 3 from rfl, HM.out]
      have HB2 := hid (HB1.out.trans (hb1.mono (B' := w.heap.size) (by have := HZ.out; simp; omega)))
      have HN2 : Hid (Has w1 (w.heap.size + 1) 44 (IV .u8 256 fun j => if j < k + 1 then K.pw j else 0)) := (HN.out.below hb1 (by have := HZ.out; simp; omega)).ext (fun j hj => by
        show (if j = k then x else if j < k then K.pw j else 0) = if j < k + 1 then K.pw j else 0
        by_cases e : j = k
        · rw [if_pos e, if_pos (by omega), e, HX.out]
        · rw [if_neg e]
          by_cases e2 : j < k
          · rw [if_pos e2, if_pos (by omega)]
          · rw [if_neg e2, if_neg (by omega)])
      have HO2 := hid (HO.out.below hb1 (by have := HZ.out; simp; omega))
      clear hb1 HB1 HN HO HX
      go_wp2_with fail
      exact ⟨⟨k + 1, by go_num, rfl, by omega, HB2, HO2, HN2⟩, by simp [intOf]; omega⟩
    · obtain rfl : k = 256 := by omega
      obtain ⟨wo, rfl⟩ : ∃ wo : World, wo = wr := ⟨_, rfl⟩
      have HZ : Hid (w.heap.size + 1 < wo.heap.size) := H1.out.lt
      have H2 : Hid (Has wo (w.heap.size + 1) 44 (IV .u8 256 K.pw)) := H1.out.ext (fun j hj => by rw [if_pos hj])
      clear H1
      have z44 := zero44
      go_wp2_with fail
      refine (affine_any _ _ (by omega) (by omega)).mono ?_
      rintro e w1 ⟨rfl, rfl⟩
      rw [show K.aff (Int.toNat 0) = K.S 0 from K.S_zero]
      have HZ2 : Hid (wo.heap.size < (wo.alloc (.cells (IV .u8 256 fun _ => 0) 44)).heap.size) := by show _ < _; simp
      have N2 := hid (Has.new wo 44 (IV .u8 256 fun _ => 0))
      have N1 := hid (H2.out.alloc (.cells (IV .u8 256 fun _ => 0) 44))
      have N0 := hid (H0.out.alloc (.cells (IV .u8 256 fun _ => 0) 44))
      have B2 := hid (HB.out.alloc (by have := HZ.out; omega) (.cells (IV .u8 256 fun _ => 0) 44))
      clear z44 H0 H2 HB
      generalize wo.alloc (.cells (IV .u8 256 fun _ => 0) 44) = W2 at *
      have hc := N2.out.cellIV (j := 0) (by omega)
      have hf := N2.out.frozen 0
      have HR : ∃ f, Hid (Has (W2.setCell ⟨wo.heap.size, 0, none⟩ (.int .u8 (K.S 0))) wo.heap.size 44 (IV .u8 256 f)) ∧ Hid (f 0 = K.S 0) :=
        ⟨_, N2.out.setIV 0 (K.S 0), upd_same _ _ _⟩
      have HO1 := hid (N1.out.setOther ⟨wo.heap.size, 0, none⟩ (.int .u8 (K.S 0)) (by have := HZ.out; simp; omega))
      have HO0 := hid (N0.out.setOther ⟨wo.heap.size, 0, none⟩ (.int .u8 (K.S 0)) (by have := HZ.out; simp; omega))
      have HB1 := hid (B2.out.setCell (p := ⟨wo.heap.size, 0, none⟩) (by have := HZ.out; simp; omega) (.int .u8 (K.S 0)))
      have HZ3 : Hid (wo.heap.size < (W2.setCell ⟨wo.heap.size, 0, none⟩ (.int .u8 (K.S 0))).heap.size) := by show _ < _; simp; exact HZ2.out
      clear N2 N1 N0 B2 HZ2
      go_wp2_with fail
      clear hc hf
      generalize W2.setCell ⟨wo.heap.size, 0, none⟩ (.int .u8 (K.S 0)) = W3 at *
      obtain ⟨f0, HF0, HF1⟩ := HR
      go_loopw [5] (fun i wr => ∃ (j : Nat) (f : Nat → Nat), i = .int .i64 j ∧ j ≤ 255 ∧ Hid (Below w.heap.size w wr) ∧ Hid (Has wr w.heap.size 44 (IV .u8 256 fun _ => 0)) ∧ Hid (Has wr (w.heap.size + 1) 44 (IV .u8 256 K.pw)) ∧ Hid (Has wr wo.heap.size 44 (IV .u8 256 f)) ∧ Hid (∀ x, (x = 0 ∨ ∃ i, i < j ∧ K.pw i = x) → f x = K.S x)) (fun i _ => 255 - (intOf i).toNat)
      case atStart => exact ⟨0, f0, rfl, by omega, HB1, HO0, HO1, HF0, fun x hx => by
        rcases hx with rfl | ⟨i, hi, _⟩
        · exact HF1.out
        · omega⟩
      case round =>
        clear HF0 HF1 f0 HO1 HO0 HB1 HZ3
        obtain ⟨j, f, rfl, hj, HB, H0, H1, H2, HF⟩ := hrel
        by_cases hl : j < 255
        · have hd : decide ((j : Int) < 255) = true := by rw [decide_eq_true_eq]; omega
          have c1 := H1.out.cellIV (j := j) (by omega)
          obtain ⟨c, hcj⟩ : ∃ c, 255 - j = c := ⟨_, rfl⟩
          have c2 := H1.out.cellIV (j := c) (by omega)
          have c3 := H2.out.cellIV (j := K.pw j) (K.pw_lt j)
          have f3 := H2.out.frozen (K.pw j)
          have b1 := K.pw_lt j
          have b2 := K.pw_lt c
          have HS := K.S_pw j hl
          rw [hcj] at HS
          have HS := hid HS
          have i1 : (0 : Int) ≤ (j : Int) := by omega
          have i2 : (j : Int) < 256 := by omega
          have i3 : (255 : Int) - (j : Int) = (c : Int) := by omega
          have i4 : (0 : Int) ≤ (c : Int) := by omega
          have i5 : (c : Int) < 256 := by omega
          have i6 : IntKind.i64.wrap (c : Int) = (c : Int) := IntWalk.i64_in _ (by omega)
          have n1 : ¬ wo.heap.size = w.heap.size + 1 := by have := HZ.out; omega
          clear hcj
          generalize hpa : K.pw j = pa at *
          generalize hpb : K.pw c = pb at *
          have i7 : (0 : Int) ≤ (pa : Int) := by omega
          have i8 : (pa : Int) < 256 := by omega
          have HPA := hid hpa
          clear hpa hpb
          go_wp2_with fail
          go_region_held3 (fun w' => w'.cell? ⟨w.heap.size + 1, j, none⟩ = some (.int .u8 pa) ∧ w'.cell? ⟨w.heap.size + 1, c, none⟩ = some (.int .u8 pb)) (go_keep) (first | (go_at_call 25; refine (affine_any _ _ (by omega) (by omega)).mono ?_; rintro e w' ⟨rfl, rfl⟩))
          have HN := hid (H2.out.setIV pa (K.S pa)).drew
          have HN1 := hid (H1.out.setOther ⟨wo.heap.size, pa, none⟩ (.int .u8 (K.S pa)) (by have := HZ.out; simp; omega)).drew
          have HN0 := hid (H0.out.setOther ⟨wo.heap.size, pa, none⟩ (.int .u8 (K.S pa)) (by have := HZ.out; simp; omega)).drew
          have HNB := hid (HB.out.setCell (p := ⟨wo.heap.size, pa, none⟩) (by have := HZ.out; simp; omega) (.int .u8 (K.S pa))).drew
          have HNF : Hid (∀ x, (x = 0 ∨ ∃ i, i < j + 1 ∧ K.pw i = x) → upd f pa (K.S pa) x = K.S x) := fun x hx => by
            unfold upd
            by_cases e : x = pa
            · rw [if_pos e, e]
            · rw [if_neg e]
              apply HF.out
              rcases hx with h | ⟨i, hi, h⟩
              · exact .inl h
              · right
                refine ⟨i, ?_, h⟩
                rcases Nat.lt_or_ge i j with h' | h'
                · exact h'
                · have : i = j := by omega
                  subst this
                  exact absurd (h.symm.trans HPA.out) e
          clear c1 c2 c3 f3 HS HB H0 H1 H2 HF HPA n1
          generalize (wr.setCell ⟨wo.heap.size, pa, none⟩ (.int .u8 (K.S pa))).drew = W5 at *
          go_wp2_with fail
          exact ⟨⟨j + 1, upd f pa (K.S pa), by go_num, by omega, HNB, HN0, HN1, HN, HNF⟩, by simp [intOf]; omega⟩
        · obtain rfl : j = 255 := by omega
          have H3 : Hid (Has wr wo.heap.size 44 (IV .u8 256 K.S)) := H2.out.ext (fun x hx => HF.out x (K.pw_onto x hx))
          clear H2 HF
          go_wp2_with (first | (refine wpList_load_row rfl 44 _ rfl wo.heap.size rfl 44 _ (0, 0) _ H3.out Try.underlying44 rfl (by rw [size_IV]; exact size44) ?_) | (refine wpList_store_row rfl 44 _ _ rfl w.heap.size (IV .u8 256 K.S) rfl rfl 44 _ H0.out (by rw [size_IV]; exact size44) (by rw [size_IV, size_IV]) (oneCell_IV _ _ _) ?_))
          exact bodyPost_ret_by (results_cell_row rfl _ _ w.heap.size 44 _ (0, 0) _ rfl (H0.out.setRow _) Try.underlying44 rfl (by rw [size_IV]; exact size44)) rfl ⟨rfl, Below.setRow HB.out (Nat.le_refl _) _⟩
end Go.Proofs.Ytilbeboejohknaa
