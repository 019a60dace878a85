/- (*Meter).Set: on a meter without budgets; what may not be. -/
import Derived.Test.YtglcingpolpkdaaDoorMet
import Derived.Deep.RegionHeld3
import Derived.Deep.RegionHeldLaw
namespace Go.Proofs.YtglcingpolpkdaaDoor
open Go.RowKit Go.MapKept

set_option maxRecDepth 100000 in
set_option maxHeartbeats 2000000 in
theorem mset_new (W w : World) (b m r : Nat) (h : Met0 W w b m r) : Calls Tryd.prog 22 #[.pointer (some ⟨b, 0, none⟩), .string ⟨#[116, 49]⟩, .int .i64 2, .int .i64 10, .int .i64 2] w fun e w' => e = .returned (.int .i64 0) ∧ ∃ d t, Met1 W w' b m d t r 10 2 0 [] := by
  have HN := Lib.hid (fun w (hc : w.cell? ⟨b, 0, none⟩ = some (.map (some m))) => mnone_no w b m hc)
  have hmm : ∀ w : World, (Instr.makeMap 88 none).run Tryd.prog w = .ok (.map (some w.heap.size)) (w.alloc (.map #[] 0)) := fun w => run_makeMap _ w
  have h2 := Whole.new w 86 #[.string ⟨#[116, 49]⟩, .int .i64 2]
  have h1 := h.on ((Below.refl _ _).alloc (Nat.le_refl _) (.cells #[.string ⟨#[116, 49]⟩, .int .i64 2] 86))
  clear h
  go_enter Tryd.func22, Tryd.ntmps22
  go_wp2_with (first | (go_at_call 34; refine (HN.out _ (h1.box.cell 0)).mono ?_; rintro e w' ⟨rfl, rfl⟩) | fail)
  obtain ⟨KB, hKB⟩ : ∃ x, w.heap.size = x := ⟨_, rfl⟩
  rw [hKB] at h2 ⊢
  clear hKB
  generalize w.alloc (.cells #[.string ⟨#[116, 49]⟩, .int .i64 2] 86) = w1 at h1 h2 ⊢
  have x0 := h1.box.cell 0
  have x1 := h2.cell 0
  have x2 := h2.cell 1
  have hlk := look_K0 (w := w1.drew) h1.all ⟨#[116, 49]⟩ 2
  have hall := run_len_map (P := Tryd.prog) (w := w1.drew) 54 3 m #[] 0 (by kernel_rfl) h1.all
  go_still (by kernel_rfl)
  change Exit.then _ _ Exit.normal _ w1.drew
  replace h1 := h1.on (Below.refl w1.heap.size w1).drew
  replace h2 := h2.drew
  clear x0 x1 x2 hlk hall
  generalize w1.drew = w1 at h1 h2 ⊢
  go_wp2
  refine wp_region_noPanic ?_
  refine wp_region_held_drew (S := fun w' => Whole w' b 56 [.map (some m)] ∧ Whole w' KB 86 [.string ⟨#[116, 49]⟩, .int .i64 2]) (by kernel_rfl) (⟨h1.box, h2.drew⟩) (fun hhS => ?_)
  replace h1 := h1.on (Below.refl w1.heap.size w1).drew
  replace h2 := h2.drew
  have hml := (Array.getElem?_eq_some_iff.1 h1.all).1
  clear hhS
  generalize w1.drew = wd at h1 h2 hml ⊢
  have hhS := And.intro h1.box h2
  refine wpAnyH_take (i := 0) (oi := ⟨some 62, _, _, _, _, _⟩) (v := ?_) rfl (by kernel_rfl) (by kernel_rfl) (by kernel_rfl) (fun _ _ _ h => h) (Or.inl ⟨by rfl, ?_⟩) (by assumption) ?_
  rotate_left
  · intro w hSw
    (try dsimp only at hSw)
    go_simp
    all_goals (with_reducible rfl)
  try simp only [Act.put, List.setIfInBounds_toArray, List.set_cons_zero, List.set_cons_succ]
  refine wpAnyH_take (i := 1) (oi := ⟨some 63, _, _, _, _, _⟩) (v := ?_) rfl (by kernel_rfl) (by kernel_rfl) (by kernel_rfl) (fun _ _ _ h => h) (Or.inl ⟨by rfl, ?_⟩) (by assumption) ?_
  rotate_left
  · intro w hSw
    (try dsimp only at hSw)
    go_simp
    all_goals (with_reducible rfl)
  try simp only [Act.put, List.setIfInBounds_toArray, List.set_cons_zero, List.set_cons_succ]
  refine wpAnyH_take (i := 2) (oi := ⟨some 64, _, _, _, _, _⟩) (v := ?_) rfl (by kernel_rfl) (by kernel_rfl) (by kernel_rfl) (fun _ _ _ h => h) (Or.inl ⟨by rfl, ?_⟩) (by assumption) ?_
  rotate_left
  · intro w hSw
    (try dsimp only at hSw)
    go_simp
    all_goals (with_reducible rfl)
  try simp only [Act.put, List.setIfInBounds_toArray, List.set_cons_zero, List.set_cons_succ]
  refine wpAnyH_take (i := 3) (oi := ⟨some 65, _, _, _, _, _⟩) (v := ?_) rfl (by kernel_rfl) (by kernel_rfl) (by kernel_rfl) (fun _ _ _ h => h) (Or.inl ⟨by rfl, ?_⟩) (by assumption) ?_
  rotate_left
  · intro w hSw
    (try dsimp only at hSw)
    have x0 := hSw.1.cell 0
    have x1 := hSw.2.cell 0
    have x2 := hSw.2.cell 1
    go_simp
    all_goals (with_reducible rfl)
  try simp only [Act.put, List.setIfInBounds_toArray, List.set_cons_zero, List.set_cons_succ]
  refine wpAnyH_take (i := 4) (oi := ⟨some 66, _, _, _, _, _⟩) (v := ?_) rfl (by kernel_rfl) (by kernel_rfl) (by kernel_rfl) (fun _ _ _ h => h) (Or.inl ⟨by rfl, ?_⟩) (by assumption) ?_
  rotate_left
  · intro w hSw
    (try dsimp only at hSw)
    have x0 := hSw.1.cell 0
    have x1 := hSw.2.cell 0
    have x2 := hSw.2.cell 1
    go_simp
    all_goals (with_reducible rfl)
  try simp only [Act.put, List.setIfInBounds_toArray, List.set_cons_zero, List.set_cons_succ]
  refine wpAnyH_take (i := 5) (oi := ⟨some 67, _, _, _, _, _⟩) (v := ?_) rfl (by kernel_rfl) (by kernel_rfl) (by kernel_rfl) (fun _ _ _ h => h) (Or.inl ⟨by rfl, ?_⟩) (by assumption) ?_
  rotate_left
  · intro w hSw
    (try dsimp only at hSw)
    go_simp
    all_goals (with_reducible rfl)
  try simp only [Act.put, List.setIfInBounds_toArray, List.set_cons_zero, List.set_cons_succ]
  refine wpAnyH_take (i := 6) (oi := ⟨some 68, _, _, _, _, _⟩) (v := ?_) rfl (by kernel_rfl) (by kernel_rfl) (by kernel_rfl) (fun _ _ _ h => h) (Or.inl ⟨by rfl, ?_⟩) (by assumption) ?_
  rotate_left
  · intro w hSw
    (try dsimp only at hSw)
    go_simp
    all_goals (with_reducible rfl)
  try simp only [Act.put, List.setIfInBounds_toArray, List.set_cons_zero, List.set_cons_succ]
  refine wpAnyH_ready (rs := [7]) (by kernel_rfl) (by simp) ?_
  refine AllReadyH.cons (o := ⟨some 69, _, _, _, _, _⟩) rfl (fun K hK => ?_) AllReadyH.nil
  go_simp
  have hT := MapI.new wd
  have hTn := h1.below.size
  replace h1 := h1.on ((Below.refl wd.heap.size wd).alloc (Nat.le_refl _) (.map #[] 0))
  replace h2 := h2.alloc (.map #[] 0)
  have hmT : m ≠ wd.heap.size := Nat.ne_of_lt hml
  replace hml : m < (wd.alloc (.map #[] 0)).heap.size := by simp; omega
  obtain ⟨TB, hTB⟩ : ∃ x, wd.heap.size = x := ⟨_, rfl⟩
  rw [hTB] at hT hTn hmT ⊢
  clear hTB hhS
  generalize wd.alloc (.map #[] 0) = w7 at h1 h2 hT hml ⊢
  have hhS := And.intro h1.box h2
  refine hK.out _ _ (hhS) (fun _ => ?_)
  clear hK K
  try simp only [Act.put, List.setIfInBounds_toArray, List.set_cons_zero, List.set_cons_succ]
  refine wpAnyH_take (i := 8) (oi := ⟨some 70, _, _, _, _, _⟩) (v := ?_) rfl (by kernel_rfl) (by kernel_rfl) (by kernel_rfl) (fun _ _ _ h => h) (Or.inl ⟨by rfl, ?_⟩) (by assumption) ?_
  rotate_left
  · intro w hSw
    (try dsimp only at hSw)
    go_simp
    all_goals (with_reducible rfl)
  try simp only [Act.put, List.setIfInBounds_toArray, List.set_cons_zero, List.set_cons_succ]
  refine wpAnyH_ready (rs := [9]) (by kernel_rfl) (by simp) ?_
  refine AllReadyH.cons (o := ⟨some 71, _, _, _, _, _⟩) rfl (fun K hK => ?_) AllReadyH.nil
  go_simp
  have hb := Whole.new w7 90 #[.int .i64 10, .int .i64 2, .int .i64 0, .map (some TB)]
  replace hT : MapI (w7.alloc (.cells #[.int .i64 10, .int .i64 2, .int .i64 0, .map (some TB)] 90)) TB [] := hT.of_block (Below.heap_alloc _ _ _ hT.lt)
  have hBn := h1.below.size
  replace h1 := h1.on ((Below.refl w7.heap.size w7).alloc (Nat.le_refl _) (.cells #[.int .i64 10, .int .i64 2, .int .i64 0, .map (some TB)] 90))
  replace h2 := h2.alloc (.cells #[.int .i64 10, .int .i64 2, .int .i64 0, .map (some TB)] 90)
  have hmD : m ≠ w7.heap.size := Nat.ne_of_lt hml
  obtain ⟨DB, hDB⟩ : ∃ x, w7.heap.size = x := ⟨_, rfl⟩
  rw [hDB] at hb hBn hmD ⊢
  clear hDB hhS
  generalize w7.alloc (.cells #[.int .i64 10, .int .i64 2, .int .i64 0, .map (some TB)] 90) = w9 at h1 h2 hT hb ⊢
  have hhS := And.intro h1.box h2
  refine hK.out _ _ (hhS) (fun _ => ?_)
  clear hK K
  try simp only [Act.put, List.setIfInBounds_toArray, List.set_cons_zero, List.set_cons_succ]
  refine wpAnyH_ready (rs := [10]) (by kernel_rfl) (by simp) ?_
  refine AllReadyH.cons (o := ⟨none, _, _, _, _, _⟩) rfl (fun K hK => ?_) AllReadyH.nil
  obtain ⟨w10, hrun, hM, hG⟩ := put_K0 h1.all ⟨#[116, 49]⟩ 2 (.pointer (some ⟨DB, 0, none⟩))
  go_simp
  have hfin : Met1 W w10 b m DB TB r 10 2 0 [] := ⟨h1.tr.grown hG (fun e => by injection e with e; exact whole_ne_map h1.tr h1.all e), h1.box.grown hG (fun e => by injection e with e; exact whole_ne_map h1.box h1.all e), hM, hb.grown hG (fun e => hmD (by injection e with e; exact e.symm)), hT.of_block (hG.block _ hT.lt (fun e => hmT (by injection e with e; exact e.symm))), h1.geb, h1.gem, hBn, hTn, hmT, h1.below.grown hG h1.below.size (fun i e => by injection e with e; have := h1.gem; omega)⟩
  refine hK.out _ _ (⟨hfin.box, h2.grown hG (fun e => by injection e with e; exact whole_ne_map h2 h1.all e)⟩) (fun _ => ?_)
  clear hK K
  try simp only [Act.put]
  refine wpAnyH_done (by kernel_rfl) ?_ _
  refine NoPanic.normal ?_
  have HF := Lib.hid hfin
  clear hfin
  go_wp2
  go_ret
  exact ⟨rfl, DB, TB, HF.out⟩

end Go.Proofs.YtglcingpolpkdaaDoor
