/- One more note in the reference's trail. -/
import Derived.Test.YtglcingpolpkdaaDoorRApp
namespace Go.Proofs.YtglcingpolpkdaaDoor
open Go.RowKit

set_option maxRecDepth 100000 in
set_option maxHeartbeats 2000000 in
theorem radd_bad (W w : World) (rb c : Nat) (p : Option Addr) (ns : List Nt) (n : Nt) (E : Dg) (h : TrR W w rb (.slice p ns.length c) ns) (hK : KTab w) (h0 : 0 < W.heap.size) (hlen : ns.length ≤ 900) (HN : Hid (∀ w', KTab w' → Calls Tryd.prog 12 #[.agg (zeroNums .u8 32).toArray, .agg n.cells.toArray] w' fun e w'' => e = .returned (.tuple #[.agg E.vs.toArray, .int .i64 2]) ∧ Below w'.heap.size w' w'')) :
    Calls Tryd.prog 10 #[.pointer (some ⟨rb, 0, none⟩), .agg n.cells.toArray] w fun e w' => e = .returned (.tuple #[.agg (zeroNums .u8 32).toArray, .int .i64 2]) ∧ RAddEnd W w w' rb ns := by
  have hA := RAddIn.start n h hK h0
  skip
  clear h hK h0
  have i1 : ¬ (4096 : Int) ≤ (ns.length : Int) := by omega
  go_enter Tryd.func10, Tryd.ntmps10
  go_upto_region 1 with (first | (refine wpList_box_cells (by rfl) 36 _ (by rfl) n.cells.toArray (by rfl) ?_) | (refine wpList_alloc_row (by rfl) 24 (by rfl) _ _ info_d ?_) | fail)
  generalize ((w.alloc (.cells n.cells.toArray 36)).alloc (.cells (zeroNums .u8 32).toArray 24)) = w2 at hA ⊢
  try simp only [World.size_alloc]
  revert hA
  obtain ⟨NB, hNB⟩ : ∃ x, w.heap.size = x := ⟨_, rfl⟩
  obtain ⟨DB, hDB⟩ : ∃ x, NB + 1 = x := ⟨_, rfl⟩
  rw [hNB, hDB]
  intro hA
  clear hNB hDB
  go_upto_region 2 with (first
    | (refine wpList_store_row (by rfl) 24 _ _ (by rfl) w3.heap.size E.vs.toArray (by rfl) (by rfl) 24 _ hC4 (by rw [size_d]; simp [Dg.vs_length]) (by simp [zeroNums, Dg.vs_length]) (Dg.all_one _) ?_; replace hA := hA.over (Only.of_grown (grown_row (World.grownBy.refl w4 (some w3.heap.size)) (.inl rfl) E.vs.toArray)) (fun i => by intro e; injection e with e; subst e; exact hX4); generalize World.setRow _ _ _ = w5 at hA ⊢)
    | (refine wpList_alloc_row (by rfl) 24 (by rfl) _ _ info_d ?_; have hC4 := Whole.new w3 24 (zeroNums .u8 32).toArray; have hX4 := hA.far w3; replace hA := hA.on ((Below.refl _ _).alloc (Nat.le_refl _) (.cells (zeroNums .u8 32).toArray 24)); generalize w3.alloc (.cells (zeroNums .u8 32).toArray 24) = w4 at hC4 hA hX4 ⊢)
    | (go_at_call 12; refine (HN.out _ hA.tab).mono ?_; rintro e w3 ⟨rfl, hb⟩; replace hA := hA.on hb; clear hb)
    | (refine wpList_load_mid (by rfl) 36 _ (by rfl) NB 0 (by rfl) n.cells _ (whole_rangeG hA.note) Tryd.underlying36 (by rfl) (by rw [size_n]; rfl) ?_)
    | (refine wpList_build_as (by rfl) 24 _ (by rfl) (zeroNums .u8 32).toArray (by kernel_rfl) ?_)
    | fail)
  have i0 : ((2 : Int) != 0) = true := rfl
  go_wp2_with (first | (refine wpList_build_as (by rfl) 24 _ (by rfl) (zeroNums .u8 32).toArray (by kernel_rfl) ?_) | (refine wpList_store_row (by rfl) 24 _ _ (by rfl) DB (zeroNums .u8 32).toArray (by rfl) (by rfl) 24 _ hA.res size_d rfl (all_zeros _ _) ?_) | fail)
  refine bodyPost_ret (results_cell_two rfl _ _ DB 24 _ (0, 0) _ rfl (hA.res.row _) Tryd.underlying24 rfl size_d) rfl ⟨rfl, ?_⟩
  exact ⟨_, hA.tr.under hA.res (Nat.le_trans hA.old.1 hA.new) _, (Only.of_below hA.below _).row hA.new _⟩

set_option maxRecDepth 100000 in
set_option maxHeartbeats 2000000 in
theorem radd_good (W w : World) (rb c : Nat) (p : Option Addr) (ns : List Nt) (n : Nt) (E : Dg) (hok : ∀ m ∈ ns ++ [n], nextOk m = true) (h : TrR W w rb (.slice p ns.length c) ns) (hK : KTab w) (h0 : 0 < W.heap.size) (hlen : ns.length ≤ 900) (HN : Hid (∀ w', KTab w' → Calls Tryd.prog 12 #[.agg (zeroNums .u8 32).toArray, .agg n.cells.toArray] w' fun e w'' => e = .returned (.tuple #[.agg E.vs.toArray, .int .i64 0]) ∧ Below w'.heap.size w' w'')) :
    Calls Tryd.prog 10 #[.pointer (some ⟨rb, 0, none⟩), .agg n.cells.toArray] w fun e w' => e = .returned (.tuple #[.agg (nextG (headG ns) n).vs.toArray, .int .i64 0]) ∧ RAddEnd W w w' rb (ns ++ [n]) := by
  have hA := RAddIn.start n h hK h0
  have HOK := Lib.hid hok
  clear h hK h0 hok
  have i1 : ¬ (4096 : Int) ≤ (ns.length : Int) := by omega
  go_enter Tryd.func10, Tryd.ntmps10
  go_upto_region 1 with (first | (refine wpList_box_cells (by rfl) 36 _ (by rfl) n.cells.toArray (by rfl) ?_) | (refine wpList_alloc_row (by rfl) 24 (by rfl) _ _ info_d ?_) | fail)
  generalize ((w.alloc (.cells n.cells.toArray 36)).alloc (.cells (zeroNums .u8 32).toArray 24)) = w2 at hA ⊢
  try simp only [World.size_alloc]
  revert hA
  obtain ⟨NB, hNB⟩ : ∃ x, w.heap.size = x := ⟨_, rfl⟩
  obtain ⟨DB, hDB⟩ : ∃ x, NB + 1 = x := ⟨_, rfl⟩
  rw [hNB, hDB]
  intro hA
  clear hNB hDB
  go_upto_region 2 with (first
    | (refine wpList_store_row (by rfl) 24 _ _ (by rfl) w3.heap.size E.vs.toArray (by rfl) (by rfl) 24 _ hC4 (by rw [size_d]; simp [Dg.vs_length]) (by simp [zeroNums, Dg.vs_length]) (Dg.all_one _) ?_; replace hA := hA.over (Only.of_grown (grown_row (World.grownBy.refl w4 (some w3.heap.size)) (.inl rfl) E.vs.toArray)) (fun i => by intro e; injection e with e; subst e; exact hX4); generalize World.setRow _ _ _ = w5 at hA ⊢)
    | (refine wpList_alloc_row (by rfl) 24 (by rfl) _ _ info_d ?_; have hC4 := Whole.new w3 24 (zeroNums .u8 32).toArray; have hX4 := hA.far w3; replace hA := hA.on ((Below.refl _ _).alloc (Nat.le_refl _) (.cells (zeroNums .u8 32).toArray 24)); generalize w3.alloc (.cells (zeroNums .u8 32).toArray 24) = w4 at hC4 hA hX4 ⊢)
    | (go_at_call 12; refine (HN.out _ hA.tab).mono ?_; rintro e w3 ⟨rfl, hb⟩; replace hA := hA.on hb; clear hb)
    | (refine wpList_load_mid (by rfl) 36 _ (by rfl) NB 0 (by rfl) n.cells _ (whole_rangeG hA.note) Tryd.underlying36 (by rfl) (by rw [size_n]; rfl) ?_)
    | (refine wpList_build_as (by rfl) 24 _ (by rfl) (zeroNums .u8 32).toArray (by kernel_rfl) ?_)
    | fail)
  have i0 : ((0 : Int) != 0) = false := rfl
  have c0 := hA.tr.box.cell 0
  have HB := Lib.hid (And.intro (Nat.le_trans hA.old.1 hA.new) hA.new)
  go_upto_region 6 with (first | (refine wpList_build_as (by rfl) 24 _ (by rfl) (zeroNums .u8 32).toArray (by kernel_rfl) ?_) | fail)
  clear c0
  refine radd_append hlen hA ?_
  intro _ _ _ _ _ _ _ _ _ _ _ _ wz v9 hTz hDz hKz hOz
  obtain ⟨p9, c9, rfl⟩ := hTz.shape
  obtain ⟨M, hM⟩ : ∃ m, (ns ++ [n]).length = m := ⟨_, rfl⟩
  have c1 := hTz.box.cell 0
  have HH := Lib.hid (refhead_calls W wz rb _ (ns ++ [n]) M hTz hKz HOK.out (by simp; omega) (Nat.le_of_eq hM.symm))
  rw [List.take_of_length_le (Nat.le_of_eq hM), headG_add] at HH
  rw [hM] at c1 hTz
  clear hM
  go_wp2_with (first | (go_at_call 15; refine HH.out.mono ?_; rintro e w7 ⟨rfl, hb7⟩; have hD7 := hDz.below hb7 hDz.lt; have hT7 := hTz.on hb7) | (refine wpList_store_row (by rfl) 24 _ _ (by rfl) DB (nextG (headG ns) n).vs.toArray (by rfl) (by rfl) 24 _ hD7 (by rw [size_d]; simp [Dg.vs_length]) (by simp [zeroNums, Dg.vs_length]) (Dg.all_one _) ?_) | fail)
  refine bodyPost_ret (results_cell_two rfl _ _ DB 24 _ (0, 0) _ rfl (hD7.row _) Tryd.underlying24 rfl (by rw [size_d]; simp [Dg.vs_length])) rfl ⟨rfl, ?_⟩
  exact ⟨_, hT7.under hD7 HB.out.1 _, (hOz.more hb7).row HB.out.2 _⟩

theorem radd_calls (W w : World) (rb : Nat) (rv : Value) (ns : List Nt) (n : Nt) (h : TrR W w rb rv ns) (hK : KTab w) (h0 : 0 < W.heap.size) (hok : ∀ m ∈ ns, nextOk m = true) (hlen : ns.length ≤ 900) :
    Calls Tryd.prog 10 #[.pointer (some ⟨rb, 0, none⟩), .agg n.cells.toArray] w fun e w' => e = .returned (.tuple #[.agg (nextE (headG ns) n).vs.toArray, .int .i64 (nextC n)]) ∧ RAddEnd W w w' rb (addP ns n) := by
  obtain ⟨p, c, rfl⟩ := h.shape
  have hok' := addP_ok n hok
  have hN := fun w' (hK' : KTab w') => refnext_dg w' zeroG n hK'
  rw [zeroG_vs] at hN
  unfold nextC at hN
  unfold nextE nextC
  unfold addP at hok' ⊢
  by_cases hn : nextOk n = true
  · simp only [if_pos hn] at hN hok' ⊢
    exact radd_good W w rb c p ns n _ hok' h hK h0 hlen (Lib.hid hN)
  · simp only [if_neg hn] at hN ⊢
    rw [zeroG_vs]
    exact radd_bad W w rb c p ns n _ h hK h0 hlen (Lib.hid hN)

end Go.Proofs.YtglcingpolpkdaaDoor
