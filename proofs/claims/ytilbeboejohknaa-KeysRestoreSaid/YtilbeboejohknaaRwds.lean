/- The reference's Words: each word as its bytes. -/
import Derived.Test.YtilbeboejohknaaInv
import Derived.StillTailTactics
namespace Go.Proofs.Ytilbeboejohknaa
open Go.RowKit

theorem tq_upd (k : Nat → Nat) (i j : Nat) (hj : j < 4) : upd (upd (upd (upd (upd (K.tp k i) 0 (K.S (K.tp k i 1))) 1 (K.S (K.tp k i 2))) 2 (K.S (K.tp k i 3))) 3 (K.S (K.tp k i 0))) 0 (K.S (K.tp k i 1) ^^^ K.rc (i / 4)) j = K.tq k i j := by
  have h : j = 0 ∨ j = 1 ∨ j = 2 ∨ j = 3 := by omega
  rcases h with rfl | rfl | rfl | rfl <;> simp [upd, K.tq, K.tp]

set_option maxRecDepth 100000 in
set_option maxHeartbeats 2000000 in
theorem rwords_any (k : Nat → Nat) (hk : ∀ j, k j < 256) (w : World) :
    Calls Try.prog 10 #[.agg (IV .u8 16 k)] w fun e w' => e = .returned (.agg (IV .u8 176 (K.RW k))) ∧ Below w.heap.size w w' := by
  have HK := hid hk
  clear hk
  have N0 := hid ((Has.new w 22 (IV .u8 16 k)).alloc (.cells (IV .u8 176 fun _ => 0) 28))
  have N1 := hid (Has.new (w.alloc (.cells (IV .u8 16 k) 22)) 28 (IV .u8 176 fun _ => 0))
  rw [World.size_alloc] at N1
  have B0 := hid (((Below.refl w.heap.size w).alloc (Nat.le_refl _) (.cells (IV .u8 16 k) 22)).alloc (by simp) (.cells (IV .u8 176 fun _ => 0) 28))
  have z28 := zero28
  have z44 := zero44
  go_enter Try.func10, Try.ntmps10
  go_wp2_with fail
  refine (rtable_any _).mono ?_
  rintro e w1 ⟨rfl, hb1⟩
  have M0 := hid (N0.out.below hb1 N0.out.lt)
  have M1 := hid (N1.out.below hb1 N1.out.lt)
  have MB := hid (B0.out.trans (hb1.mono B0.out.size))
  clear N0 N1 B0 hb1
  have HS : Hid (w.heap.size + 1 < w1.heap.size) := M1.out.lt
  have T3 := hid (Has.new w1 44 (IV .u8 256 fun _ => 0))
  have P3 := hid ((T3.out.setRow (IV .u8 256 K.S)).alloc (.cells (IV .u8 176 fun _ => 0) 28))
  have P4 := hid (Has.new ((w1.alloc (.cells (IV .u8 256 fun _ => 0) 44)).setRow w1.heap.size (IV .u8 256 K.S)) 28 (IV .u8 176 fun _ => 0))
  have P0 := hid (((M0.out.alloc (.cells (IV .u8 256 fun _ => 0) 44)).setRowOther w1.heap.size (IV .u8 256 K.S) (by have := HS.out; omega)).alloc (.cells (IV .u8 176 fun _ => 0) 28))
  have P1 := hid (((M1.out.alloc (.cells (IV .u8 256 fun _ => 0) 44)).setRowOther w1.heap.size (IV .u8 256 K.S) (by have := HS.out; omega)).alloc (.cells (IV .u8 176 fun _ => 0) 28))
  have PB := hid ((Below.setRow (MB.out.alloc (by have := HS.out; omega) (.cells (IV .u8 256 fun _ => 0) 44)) (g' := w1.heap.size) (by have := HS.out; omega) (IV .u8 256 K.S)).alloc (by have := HS.out; simp; omega) (.cells (IV .u8 176 fun _ => 0) 28))
  simp only [size_setRow, World.size_alloc] at P4
  have PI : Hid (Inv w w1.heap.size k 0 (((w1.alloc (.cells (IV .u8 256 fun _ => 0) 44)).setRow w1.heap.size (IV .u8 256 K.S)).alloc (.cells (IV .u8 176 fun _ => 0) 28))) :=
    ⟨HS.out, PB.out, P0.out, P1.out, P3.out, P4.out.ext (fun j _ => by unfold far; rw [if_neg (by omega)])⟩
  clear M0 M1 MB P0 P1 P3 P4 PB
  go_wp2_with (first | (refine wpList_store_row rfl 44 _ _ rfl w1.heap.size (IV .u8 256 K.S) rfl rfl 44 _ T3.out (by rw [size_IV]; exact size44) (by simp only [size_IV]) (oneCell_IV _ _ _) ?_))
  clear T3 z28 z44
  generalize ((w1.alloc (.cells (IV .u8 256 fun _ => 0) 44)).setRow w1.heap.size (IV .u8 256 K.S)).alloc (.cells (IV .u8 176 fun _ => 0) 28) = W2 at *
  clear HS
  generalize w1.heap.size = g3 at *
  go_loopw [5] (fun n wr => ∃ i : Nat, n = .int .i64 i ∧ i ≤ 44 ∧ Hid (Inv w g3 k (i * 4) wr)) (fun n _ => 44 - (intOf n).toNat)
  case atStart => exact ⟨0, rfl, by omega, PI⟩
  case round =>
    clear PI
    obtain ⟨i, rfl, hi, HI⟩ := hrel
    by_cases hl : i < 4
    · have c0 := HI.out.h0.cellIV (j := 4 * i) (by omega)
      have c1 := HI.out.h0.cellIV (j := 4 * i + 1) (by omega)
      have c2 := HI.out.h0.cellIV (j := 4 * i + 2) (by omega)
      have c3 := HI.out.h0.cellIV (j := 4 * i + 3) (by omega)
      have e0 : Hid (k (4 * i) = K.RW k (i * 4)) := (K.RW_first k i 0 hl (by omega)).symm
      have e1 : Hid (k (4 * i + 1) = K.RW k (i * 4 + 1)) := (K.RW_first k i 1 hl (by omega)).symm
      have e2 : Hid (k (4 * i + 2) = K.RW k (i * 4 + 2)) := (K.RW_first k i 2 hl (by omega)).symm
      have e3 : Hid (k (4 * i + 3) = K.RW k (i * 4 + 3)) := (K.RW_first k i 3 hl (by omega)).symm
      rw [e0.out] at c0
      rw [e1.out] at c1
      rw [e2.out] at c2
      rw [e3.out] at c3
      have f0 := HI.out.frozen (i * 4)
      have f1 := HI.out.frozen (i * 4 + 1)
      have f2 := HI.out.frozen (i * 4 + 2)
      have f3 := HI.out.frozen (i * 4 + 3)
      obtain ⟨v0, t0⟩ := HI.out.there (i * 4) (by omega)
      obtain ⟨v1, t1⟩ := HI.out.there (i * 4 + 1) (by omega)
      obtain ⟨v2, t2⟩ := HI.out.there (i * 4 + 2) (by omega)
      obtain ⟨v3, t3⟩ := HI.out.there (i * 4 + 3) (by omega)
      have HN := hid HI.out.put.put.put.put.drew
      clear e0 e1 e2 e3
      have n1 : ¬ w.heap.size = g3 + 1 := by have := HI.out.lt; omega
      have n2 : ¬ g3 + 1 = w.heap.size := by omega
      have i1 : IntKind.i64.wrap (4 * (i : Int)) = 4 * (i : Int) := IntWalk.i64_in _ (by omega)
      have i2 : IntKind.i64.wrap (4 * (i : Int) + 1) = 4 * (i : Int) + 1 := IntWalk.i64_in _ (by omega)
      have i3 : IntKind.i64.wrap (4 * (i : Int) + 2) = 4 * (i : Int) + 2 := IntWalk.i64_in _ (by omega)
      have i4 : IntKind.i64.wrap (4 * (i : Int) + 3) = 4 * (i : Int) + 3 := IntWalk.i64_in _ (by omega)
      have i5 : (0 : Int) ≤ 4 * (i : Int) := by omega
      have i6 : 4 * (i : Int) < 16 := by omega
      have i7 : (0 : Int) ≤ 4 * (i : Int) + 1 := by omega
      have i8 : 4 * (i : Int) + 1 < 16 := by omega
      have i9 : (0 : Int) ≤ 4 * (i : Int) + 2 := by omega
      have i10 : 4 * (i : Int) + 2 < 16 := by omega
      have i11 : (0 : Int) ≤ 4 * (i : Int) + 3 := by omega
      have i12 : 4 * (i : Int) + 3 < 16 := by omega
      have i13 : (0 : Int) ≤ (i : Int) := by omega
      have j0 : (4 * (i : Int)).toNat = 4 * i := by omega
      have j1 : (4 * (i : Int) + 1).toNat = 4 * i + 1 := by omega
      have j2 : (4 * (i : Int) + 2).toNat = 4 * i + 2 := by omega
      have j3 : (4 * (i : Int) + 3).toNat = 4 * i + 3 := by omega
      have i14 : (i : Int) < 44 := by omega
      generalize K.RW k (i * 4) = a0 at c0 HN
      generalize K.RW k (i * 4 + 1) = a1 at c1 HN
      generalize K.RW k (i * 4 + 2) = a2 at c2 HN
      generalize K.RW k (i * 4 + 3) = a3 at c3 HN
      go_wp2_with fail
      go_region_held3 (fun w' => w'.cell? ⟨w.heap.size, 4 * i, none⟩ = some (.int .u8 a0) ∧ w'.cell? ⟨w.heap.size, 4 * i + 1, none⟩ = some (.int .u8 a1) ∧ w'.cell? ⟨w.heap.size, 4 * i + 2, none⟩ = some (.int .u8 a2) ∧ w'.cell? ⟨w.heap.size, 4 * i + 3, none⟩ = some (.int .u8 a3)) (go_keep) (fail)
      have HN2 : Hid (Inv w g3 k ((i + 1) * 4) ((((wr.setCell ⟨g3 + 1, i * 4, none⟩ (.int .u8 a0)).setCell ⟨g3 + 1, i * 4 + 1, none⟩ (.int .u8 a1)).setCell ⟨g3 + 1, i * 4 + 2, none⟩ (.int .u8 a2)).setCell ⟨g3 + 1, i * 4 + 3, none⟩ (.int .u8 a3)).drew) := by
        rw [show (i + 1) * 4 = i * 4 + 1 + 1 + 1 + 1 from by omega]; exact HN.out
      clear HN c0 c1 c2 c3 f0 f1 f2 f3 t0 t1 t2 t3 n1 n2 i1 i2 i3 i4 i5 i6 i7 i8 i9 i10 i11 i12 i13 i14 j0 j1 j2 j3 HI
      generalize ((((wr.setCell ⟨g3 + 1, i * 4, none⟩ (.int .u8 a0)).setCell ⟨g3 + 1, i * 4 + 1, none⟩ (.int .u8 a1)).setCell ⟨g3 + 1, i * 4 + 2, none⟩ (.int .u8 a2)).setCell ⟨g3 + 1, i * 4 + 3, none⟩ (.int .u8 a3)).drew = W5 at *
      go_wp2_with fail
      exact ⟨⟨i + 1, by go_num, by omega, HN2⟩, by simp [intOf]; omega⟩
    · by_cases hm : i < 44
      · by_cases hq : i % 4 = 0
        · have hqi : ((i : Int) % 4 == 0) = true := by rw [beq_iff_eq]; omega
          have h4 : 4 ≤ i := by omega
          have HR := HI.out.h4.range ((i - 1) * 4) 4 (by omega)
          rw [IV_ext _ _ _ (K.tp k i) (fun j hj => by
            rw [far_all _ _ _ (by omega)]; rfl)] at HR
          have HRG := hid HR
          clear HR
          have T6 := hid (Has.new wr 27 (IV .u8 4 fun _ => 0))
          have P6 := hid (T6.out.setRow (IV .u8 4 (K.tp k i)))
          have PI := hid ((HI.out.alloc (.cells (IV .u8 4 fun _ => 0) 27)).setRowT wr.heap.size (IV .u8 4 (K.tp k i)) HI.out.size)
          have HGT : Hid (g3 + 1 < wr.heap.size) := HI.out.size
          clear HI
          go_wp2_with (first | (refine wpList_load_part rfl 27 _ rfl (g3 + 1) ((i - 1) * 4) rfl (IV .u8 4 (K.tp k i)) _ HRG.out Try.underlying27 rfl (by rw [size_IV]; exact size27) ?_) | (refine wpList_alloc_of rfl 27 rfl _ zero27 wr.heap.size rfl ?_) | (refine wpList_store_row rfl 27 _ _ rfl wr.heap.size (IV .u8 4 (K.tp k i)) rfl rfl 27 _ T6.out (by rw [size_IV]; exact size27) (by simp only [size_IV]) (oneCell_IV _ _ _) ?_))
          clear T6 HRG
          generalize (wr.alloc (.cells (IV .u8 4 fun _ => 0) 27)).setRow wr.heap.size (IV .u8 4 (K.tp k i)) = W5 at *
          generalize wr.heap.size = gt at *
          have c0 := P6.out.cellIV (j := 0) (by omega)
          have c1 := P6.out.cellIV (j := 1) (by omega)
          have c2 := P6.out.cellIV (j := 2) (by omega)
          have c3 := P6.out.cellIV (j := 3) (by omega)
          have b0 := K.tp_lt k HK.out i 0
          have b1 := K.tp_lt k HK.out i 1
          have b2 := K.tp_lt k HK.out i 2
          have b3 := K.tp_lt k HK.out i 3
          have s0 := PI.out.h3.cellIV (j := K.tp k i 0) b0
          have s1 := PI.out.h3.cellIV (j := K.tp k i 1) b1
          have s2 := PI.out.h3.cellIV (j := K.tp k i 2) b2
          have s3 := PI.out.h3.cellIV (j := K.tp k i 3) b3
          have f0 := P6.out.frozen 0
          have f1 := P6.out.frozen 1
          have f2 := P6.out.frozen 2
          have f3 := P6.out.frozen 3
          have d0 := K.S_lt (K.tp k i 0)
          have d1 := K.S_lt (K.tp k i 1)
          have d2 := K.S_lt (K.tp k i 2)
          have d3 := K.S_lt (K.tp k i 3)
          have HP := hid ((((PI.out.setT gt 0 (.int .u8 (K.S (K.tp k i 1))) HGT.out).setT gt 1 (.int .u8 (K.S (K.tp k i 2))) HGT.out).setT gt 2 (.int .u8 (K.S (K.tp k i 3))) HGT.out).setT gt 3 (.int .u8 (K.S (K.tp k i 0))) HGT.out).drew
          have H6 := hid ((((P6.out.setIV 0 (K.S (K.tp k i 1))).setIV 1 (K.S (K.tp k i 2))).setIV 2 (K.S (K.tp k i 3))).setIV 3 (K.S (K.tp k i 0))).drew
          have HQ : Hid (∀ j, j < 4 → upd (upd (upd (upd (upd (K.tp k i) 0 (K.S (K.tp k i 1))) 1 (K.S (K.tp k i 2))) 2 (K.S (K.tp k i 3))) 3 (K.S (K.tp k i 0))) 0 (K.S (K.tp k i 1) ^^^ K.rc (i / 4)) j = K.tq k i j) := fun j hj => tq_upd k i j hj
          generalize K.tp k i 0 = a0 at *
          generalize K.tp k i 1 = a1 at *
          generalize K.tp k i 2 = a2 at *
          generalize K.tp k i 3 = a3 at *
          have e0 : (a0 : Int) < 256 := by omega
          have e1 : (a1 : Int) < 256 := by omega
          have e2 : (a2 : Int) < 256 := by omega
          have e3 : (a3 : Int) < 256 := by omega
          generalize K.S a0 = z0 at *
          generalize K.S a1 = z1 at *
          generalize K.S a2 = z2 at *
          generalize K.S a3 = z3 at *
          clear P6 PI
          go_still_tail 17, (by kernel_rfl)
          change wpList _ _ _ _ _ W5.drew
          go_wp2_with fail
          clear c0 c1 c2 c3 b0 b1 b2 b3 s0 s1 s2 s3 f0 f1 f2 f3 e0 e1 e2 e3
          generalize ((((W5.setCell ⟨gt, 0, none⟩ (.int .u8 z1)).setCell ⟨gt, 1, none⟩ (.int .u8 z2)).setCell ⟨gt, 2, none⟩ (.int .u8 z3)).setCell ⟨gt, 3, none⟩ (.int .u8 z0)).drew = W6 at *
          have c0 := H6.out.cellIV (j := 0) (by omega)
          rw [show upd (upd (upd (upd (K.tp k i) 0 z1) 1 z2) 2 z3) 3 z0 0 = z1 from rfl] at c0
          have r1 := K.rc_lt (i / 4)
          have hx := bits_u8_xor z1 (K.rc (i / 4)) d1 r1
          obtain ⟨q, hq1⟩ : ∃ q, i / 4 = q := ⟨_, rfl⟩
          have hq2 : (i : Int) / 4 = (q : Int) := by omega
          have hq5 : (i : Int).tdiv 4 = (q : Int) := by rw [Int.tdiv_eq_ediv_of_nonneg (by omega)]; exact hq2
          have hq3 : 1 ≤ q := by omega
          have hq4 : q ≤ 10 := by omega
          rw [hq1] at r1 hx HQ
          have i1 : IntKind.i64.wrap ((q : Int) - 1) = (q : Int) - 1 := IntWalk.i64_in _ (by omega)
          have i2 : (IntKind.i64.wrap (q : Int)) = (q : Int) := IntWalk.i64_in _ (by omega)
          have HZ : Hid (gt < W6.heap.size) := H6.out.lt
          have HQ1 := hid hq1
          clear hq1 d0 d1 d2 d3
          go_wp2_with fail
          go_region_with (go_at_call 14; refine (rpow_any _ _ (by omega) (by omega)).mono ?_; rintro e w5 ⟨rfl, hb5⟩; rw [show ((q : Int) - 1).toNat + 1 = q from by omega]; have q0 : w5.cell? ⟨gt, 0, none⟩ = some (.int .u8 z1) := (hb5.cell (by exact HZ.out)).trans c0; have q2 := hid (H6.out.drew.below hb5 (by exact HZ.out)); have q1 := q2.out.frozen 0; have q3 := hid (HP.out.drew.callee hb5); clear hb5)
          all_goals
            have PI := hid (q3.out.setT gt 0 (.int .u8 ((z1 ^^^ K.rc q : Nat) : Int)) HGT.out)
            have P6 := hid ((q2.out.setIV 0 (z1 ^^^ K.rc q)).ext HQ.out)
            clear q0 q1 q2 q3 HQ HQ1 H6 HP hx c0 r1 hq2 hq3 hq4 hq5 i1 i2 HZ
            generalize w5.setCell ⟨gt, 0, none⟩ (.int .u8 ((z1 ^^^ K.rc q : Nat) : Int)) = W8 at *
            go_wp2_with fail
            have HT : Hid (∀ c, c < 4 → K.RW k (i * 4 + c) = K.RW k ((i - 4) * 4 + c) ^^^ K.tq k i c) := fun c hc => K.RW_q k i c h4 hq hc
            have HTL : Hid (∀ c, K.tq k i c < 256) := K.tq_lt k i
            generalize K.tq k i = tt at *
            go_loopw [7] (fun n wx => ∃ c : Nat, n = .int .i64 c ∧ c ≤ 4 ∧ Hid (Inv w g3 k (i * 4 + c) wx) ∧ Hid (Has wx gt 27 (IV .u8 4 tt))) (fun n _ => 4 - (intOf n).toNat)
            case atStart => exact ⟨0, rfl, by omega, PI, P6⟩
            case round =>
              clear PI P6
              obtain ⟨c, rfl, hc, HI, H6⟩ := hrel
              by_cases hcl : c < 4
              · have r1 := HI.out.read ((i - 4) * 4 + c) (by omega) (by omega)
                have r2 := H6.out.cellIV (j := c) hcl
                obtain ⟨v0, t0⟩ := HI.out.there (i * 4 + c) (by omega)
                have f0 := HI.out.frozen (i * 4 + c)
                have hx := bits_u8_xor (K.RW k ((i - 4) * 4 + c)) (tt c) (K.RW_lt k HK.out _) (HTL.out c)
                rw [← HT.out c hcl] at hx
                have HN := hid HI.out.put.drew
                have HN6 := hid (H6.out.setO (g3 + 1) (i * 4 + c) (.int .u8 (K.RW k (i * 4 + c))) (by have := HGT.out; omega)).drew
                have i1 : IntKind.i64.wrap ((i : Int) - 4) = (i : Int) - 4 := IntWalk.i64_in _ (by omega)
                have i2 : (0 : Int) ≤ (i : Int) - 4 := by omega
                have i3 : (i : Int) - 4 < 44 := by omega
                have i4 : ((i : Int) - 4).toNat = i - 4 := by omega
                have i5 : (0 : Int) ≤ (i : Int) := by omega
                have i6 : (i : Int) < 44 := by omega
                have i7 : (0 : Int) ≤ (c : Int) := by omega
                have i8 : (c : Int) < 4 := by omega
                have n1 : ¬ g3 + 1 = gt := by have := HGT.out; omega
                generalize K.RW k ((i - 4) * 4 + c) = a at r1 hx
                generalize tt c = b at r2 hx
                generalize K.RW k (i * 4 + c) = z at hx HN HN6
                clear HI H6
                go_wp2_with fail
                go_region
                clear r1 r2 t0 f0 hx i1 i2 i3 i4 i5 i6 i7 i8 n1
                generalize (wr.setCell ⟨g3 + 1, i * 4 + c, none⟩ (.int .u8 z)).drew = W7 at *
                go_wp2_with fail
                exact ⟨⟨c + 1, by go_num, by omega, HN, HN6⟩, by simp [intOf]; omega⟩
              · obtain rfl : c = 4 := by omega
                have HN : Hid (Inv w g3 k ((i + 1) * 4) wr) := by
                  rw [show (i + 1) * 4 = i * 4 + 4 from by omega]; exact HI.out
                clear HI H6
                go_wp2_with fail
                exact ⟨⟨i + 1, by go_num, by omega, HN⟩, by simp [intOf]; omega⟩
        · have hqi : ((i : Int) % 4 == 0) = false := by rw [beq_eq_false_iff_ne]; omega
          have h4 : 4 ≤ i := by omega
          have HR := HI.out.h4.range ((i - 1) * 4) 4 (by omega)
          rw [IV_ext _ _ _ (K.tp k i) (fun j hj => by
            rw [far_all _ _ _ (by omega)]; rfl)] at HR
          have HRG := hid HR
          clear HR
          have T6 := hid (Has.new wr 27 (IV .u8 4 fun _ => 0))
          have P6 := hid (T6.out.setRow (IV .u8 4 (K.tp k i)))
          have PI := hid ((HI.out.alloc (.cells (IV .u8 4 fun _ => 0) 27)).setRowT wr.heap.size (IV .u8 4 (K.tp k i)) HI.out.size)
          have HGT : Hid (g3 + 1 < wr.heap.size) := HI.out.size
          clear HI
          go_wp2_with (first | (refine wpList_load_part rfl 27 _ rfl (g3 + 1) ((i - 1) * 4) rfl (IV .u8 4 (K.tp k i)) _ HRG.out Try.underlying27 rfl (by rw [size_IV]; exact size27) ?_) | (refine wpList_alloc_of rfl 27 rfl _ zero27 wr.heap.size rfl ?_) | (refine wpList_store_row rfl 27 _ _ rfl wr.heap.size (IV .u8 4 (K.tp k i)) rfl rfl 27 _ T6.out (by rw [size_IV]; exact size27) (by simp only [size_IV]) (oneCell_IV _ _ _) ?_))
          clear T6 HRG
          generalize (wr.alloc (.cells (IV .u8 4 fun _ => 0) 27)).setRow wr.heap.size (IV .u8 4 (K.tp k i)) = W5 at *
          generalize wr.heap.size = gt at *
          have HT : Hid (∀ c, c < 4 → K.RW k (i * 4 + c) = K.RW k ((i - 4) * 4 + c) ^^^ K.tp k i c) := fun c hc => K.RW_p k i c h4 hq hc
          have HTL : Hid (∀ c, K.tp k i c < 256) := K.tp_lt k HK.out i
          generalize K.tp k i = tt at *
          go_loopw [7] (fun n wx => ∃ c : Nat, n = .int .i64 c ∧ c ≤ 4 ∧ Hid (Inv w g3 k (i * 4 + c) wx) ∧ Hid (Has wx gt 27 (IV .u8 4 tt))) (fun n _ => 4 - (intOf n).toNat)
          case atStart => exact ⟨0, rfl, by omega, PI, P6⟩
          case round =>
            clear PI P6
            obtain ⟨c, rfl, hc, HI, H6⟩ := hrel
            by_cases hcl : c < 4
            · have r1 := HI.out.read ((i - 4) * 4 + c) (by omega) (by omega)
              have r2 := H6.out.cellIV (j := c) hcl
              obtain ⟨v0, t0⟩ := HI.out.there (i * 4 + c) (by omega)
              have f0 := HI.out.frozen (i * 4 + c)
              have hx := bits_u8_xor (K.RW k ((i - 4) * 4 + c)) (tt c) (K.RW_lt k HK.out _) (HTL.out c)
              rw [← HT.out c hcl] at hx
              have HN := hid HI.out.put.drew
              have HN6 := hid (H6.out.setO (g3 + 1) (i * 4 + c) (.int .u8 (K.RW k (i * 4 + c))) (by have := HGT.out; omega)).drew
              have i1 : IntKind.i64.wrap ((i : Int) - 4) = (i : Int) - 4 := IntWalk.i64_in _ (by omega)
              have i2 : (0 : Int) ≤ (i : Int) - 4 := by omega
              have i3 : (i : Int) - 4 < 44 := by omega
              have i4 : ((i : Int) - 4).toNat = i - 4 := by omega
              have i5 : (0 : Int) ≤ (i : Int) := by omega
              have i6 : (i : Int) < 44 := by omega
              have i7 : (0 : Int) ≤ (c : Int) := by omega
              have i8 : (c : Int) < 4 := by omega
              have n1 : ¬ g3 + 1 = gt := by have := HGT.out; omega
              generalize K.RW k ((i - 4) * 4 + c) = a at r1 hx
              generalize tt c = b at r2 hx
              generalize K.RW k (i * 4 + c) = z at hx HN HN6
              clear HI H6
              go_wp2_with fail
              go_region
              clear r1 r2 t0 f0 hx i1 i2 i3 i4 i5 i6 i7 i8 n1
              generalize (wr.setCell ⟨g3 + 1, i * 4 + c, none⟩ (.int .u8 z)).drew = W7 at *
              go_wp2_with fail
              exact ⟨⟨c + 1, by go_num, by omega, HN, HN6⟩, by simp [intOf]; omega⟩
            · obtain rfl : c = 4 := by omega
              have HN : Hid (Inv w g3 k ((i + 1) * 4) wr) := by
                rw [show (i + 1) * 4 = i * 4 + 4 from by omega]; exact HI.out
              clear HI H6
              go_wp2_with fail
              exact ⟨⟨i + 1, by go_num, by omega, HN⟩, by simp [intOf]; omega⟩
      · obtain rfl : i = 44 := by omega
        have H4 : Hid (Has wr (g3 + 1) 28 (IV .u8 176 (K.RW k))) := HI.out.h4.ext (fun j hj => far_all _ _ _ (by omega))
        have H1 := hid HI.out.h1
        have HB := hid HI.out.b
        clear HI
        go_wp2_with (first | (refine wpList_load_row rfl 28 _ rfl (g3 + 1) rfl 28 _ (0, 0) _ H4.out Try.underlying28 rfl (by rw [size_IV]; exact size28) ?_) | (refine wpList_store_row rfl 28 _ _ rfl (w.heap.size + 1) (IV .u8 176 (K.RW k)) rfl rfl 28 _ H1.out (by rw [size_IV]; exact size28) (by simp only [size_IV]) (oneCell_IV _ _ _) ?_))
        exact bodyPost_ret_by (results_cell_row rfl _ _ (w.heap.size + 1) 28 _ (0, 0) _ rfl (H1.out.setRow _) Try.underlying28 rfl (by rw [size_IV]; exact size28)) rfl ⟨rfl, Below.setRow HB.out (by omega) _⟩
end Go.Proofs.Ytilbeboejohknaa
