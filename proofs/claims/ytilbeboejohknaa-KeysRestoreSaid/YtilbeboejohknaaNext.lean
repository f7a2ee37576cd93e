/- keys.Next: the next round key, for rounds 0 to 9; zero and false for others. -/
import Derived.Test.YtilbeboejohknaaBack
namespace Go.Proofs.Ytilbeboejohknaa
open Go.RowKit

theorem results_row_tmp {P : Program} {fn : Func} {p u : Tmp} {ty : TypeId} (h : fn.results = #[.cell p ty, .tmp u]) (tmps : Array Value) (w : World) (g : Nat) (t : TypeId) (cs : Array Value) (fr : Nat × Nat) (d : TypeDesc)
    (hp : tmps.getD p undef = .pointer (some ⟨g, 0, none⟩)) (hg : w.heap[g]? = some (.cells cs t fr))
    (hu : P.underlying ty = some d) (hd : (match d with | .struct _ | .array _ _ => true | _ => false) = true) (hi : (P.info? ty).map (·.size) = some cs.size) :
    (results fn tmps).run P w = .ok (.tuple #[.agg cs, tmps.getD u undef]) w := by
  rw [results_cell_tmp h, hp]
  simp [asAddr, run_loadVar_row w g t ty cs fr d hg hu hd hi, Result.andThen]

theorem info22 : (Try.prog.info? 22).map (fun i => (i.zero, i.size)) = some (some (.agg (IV .u8 16 fun _ => 0)), 16) := by kernel_rfl
theorem info41 : (Try.prog.info? 41).map (fun i => (i.zero, i.size)) = some (some (.agg (IV .u32 4 fun _ => 0)), 4) := by kernel_rfl
theorem zero41 : ∀ w, (zeroValue 41).run Try.prog w = .ok (.agg (IV .u32 4 fun _ => 0)) w := (zero_of_info info41).1
theorem zero22 : ∀ w, (zeroValue 22).run Try.prog w = .ok (.agg (IV .u8 16 fun _ => 0)) w := (zero_of_info info22).1

/-- what Next and Restore answer where there is nothing. -/
def noKey : Value := .tuple #[.agg (IV .u8 16 fun _ => 0), .bool false]
def someKey (k : Nat → Nat) : Value := .tuple #[.agg (IV .u8 16 k), .bool true]

set_option maxRecDepth 100000 in
set_option maxHeartbeats 1000000 in
theorem next_out (k : Nat → Nat) (r : Int) (w : World) (h : r < 0 ∨ 10 ≤ r) :
    Calls Try.prog 16 #[.int .i64 r, .agg (IV .u8 16 k)] w fun e w' => e = .returned noKey ∧ Below w.heap.size w w' := by
  have N1 := hid (Has.new (w.alloc (.cells (IV .u8 16 k) 22)) 22 (IV .u8 16 fun _ => 0))
  rw [World.size_alloc] at N1
  have B0 := hid (((Below.refl w.heap.size w).alloc (Nat.le_refl _) (.cells (IV .u8 16 k) 22)).alloc (by simp) (.cells (IV .u8 16 fun _ => 0) 22))
  rcases h with h | h
  · go_enter Try.func16, Try.ntmps16
    go_wp2_with (first | (refine wpList_alloc_of rfl 22 rfl _ zero22 (w.heap.size + 1) (by simp) ?_) | (refine wpList_build_some rfl 22 _ rfl (IV .u8 16 fun _ => 0) (by kernel_rfl) ?_) | (refine wpList_store_row rfl 22 _ _ rfl (w.heap.size + 1) (IV .u8 16 fun _ => 0) rfl rfl 22 _ N1.out (by rw [size_IV]; exact size22) (by simp only [size_IV]) (oneCell_IV _ _ _) ?_))
    (try simp only [Exit.inBlock, Exit.then])
    exact bodyPost_ret_by (results_row_tmp rfl _ _ (w.heap.size + 1) 22 _ (0, 0) _ rfl (N1.out.setRow _) Try.underlying22 rfl (by rw [size_IV]; exact size22)) rfl ⟨rfl, Below.setRow B0.out (by omega) _⟩
  · have h' : ¬ r < 0 := by omega
    go_enter Try.func16, Try.ntmps16
    go_wp2_with (first | (refine wpList_alloc_of rfl 22 rfl _ zero22 (w.heap.size + 1) (by simp) ?_) | (refine wpList_build_some rfl 22 _ rfl (IV .u8 16 fun _ => 0) (by kernel_rfl) ?_) | (refine wpList_store_row rfl 22 _ _ rfl (w.heap.size + 1) (IV .u8 16 fun _ => 0) rfl rfl 22 _ N1.out (by rw [size_IV]; exact size22) (by simp only [size_IV]) (oneCell_IV _ _ _) ?_))
    (try simp only [Exit.inBlock, Exit.then])
    exact bodyPost_ret_by (results_row_tmp rfl _ _ (w.heap.size + 1) 22 _ (0, 0) _ rfl (N1.out.setRow _) Try.underlying22 rfl (by rw [size_IV]; exact size22)) rfl ⟨rfl, Below.setRow B0.out (by omega) _⟩

set_option maxRecDepth 100000 in
set_option maxHeartbeats 1000000 in
theorem next_in (k : Nat → Nat) (hk : ∀ j, k j < 256) (r : Int) (w : World) (h0 : 0 ≤ r) (h1 : r < 10) :
    Calls Try.prog 16 #[.int .i64 r, .agg (IV .u8 16 k)] w fun e w' => e = .returned (someKey (K.nextB k r.toNat)) ∧ Below w.heap.size w w' := by
  have HK := hid hk
  clear hk
  have N0 := hid ((Has.new w 22 (IV .u8 16 k)).alloc (.cells (IV .u8 16 fun _ => 0) 22))
  have N1 := hid (Has.new (w.alloc (.cells (IV .u8 16 k) 22)) 22 (IV .u8 16 fun _ => 0))
  rw [World.size_alloc] at N1
  have B0 := hid (((Below.refl w.heap.size w).alloc (Nat.le_refl _) (.cells (IV .u8 16 k) 22)).alloc (by simp) (.cells (IV .u8 16 fun _ => 0) 22))
  have h2 : ¬ r < 0 := by omega
  have h3 : ¬ 10 ≤ r := by omega
  go_enter Try.func16, Try.ntmps16
  go_wp2_with (refine wpList_load_row rfl 22 _ rfl w.heap.size rfl 22 _ (0, 0) _ N0.out Try.underlying22 rfl (by rw [size_IV]; exact size22) ?_)
  refine (load_any k HK.out _).mono ?_
  rintro e w1 ⟨rfl, hb1⟩
  have M1 := hid (N1.out.below hb1 N1.out.lt)
  have MB := hid (B0.out.trans (hb1.mono B0.out.size))
  clear N0 N1 B0 hb1
  go_wp2_with fail
  refine (forward_any k HK.out r _ (by omega) (by omega)).mono ?_
  rintro e w2 ⟨rfl, hb2⟩
  have L1 := hid (M1.out.below hb2 M1.out.lt)
  have LB := hid (MB.out.trans (hb2.mono MB.out.size))
  clear M1 MB hb2
  go_wp2_with fail
  refine (store_any (K.nextB k r.toNat) (K.nextB_lt k _ HK.out) _).mono ?_
  rintro e w3 ⟨rfl, hb3⟩
  have J1 := hid (L1.out.below hb3 L1.out.lt)
  have JB := hid (LB.out.trans (hb3.mono LB.out.size))
  clear L1 LB hb3
  go_wp2_with (refine wpList_store_row rfl 22 _ _ rfl (w.heap.size + 1) (IV .u8 16 (K.nextB k r.toNat)) rfl rfl 22 _ J1.out (by rw [size_IV]; exact size22) (by simp only [size_IV]) (oneCell_IV _ _ _) ?_)
  (try simp only [Exit.inBlock, Exit.then])
  exact bodyPost_ret_by (results_row_tmp rfl _ _ (w.heap.size + 1) 22 _ (0, 0) _ rfl (J1.out.setRow _) Try.underlying22 rfl (by rw [size_IV]; exact size22)) rfl ⟨rfl, Below.setRow JB.out (by omega) _⟩
end Go.Proofs.Ytilbeboejohknaa
