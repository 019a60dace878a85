/- A trail's length and its head. -/
import Derived.Test.YtglcingpolpkdaaDoorTrail
namespace Go.Proofs.YtglcingpolpkdaaDoor
open Go.RowKit

theorem range_behind {w : World} {g o : Nat} {a b : List Value} (h : w.rangeAt g o (a ++ b)) : w.rangeAt g (o + a.length) b := fun j v hj => by
  have := h (a.length + j) v (by rw [List.getElem?_append_right (by omega)]; simpa using hj)
  rwa [← Nat.add_assoc] at this
theorem range_front {w : World} {g o : Nat} {a b : List Value} (h : w.rangeAt g o (a ++ b)) : w.rangeAt g o a := fun j v hj => h j v (by rw [List.getElem?_append_left (List.getElem?_eq_some_iff.1 hj).1]; exact hj)
/-- The last link's head. -/
theorem TrP.head {W w : World} {tb g n c : Nat} {ns : List Nt} (h : TrP W w tb (.slice (some ⟨g, 0, none⟩) (n + 1) c) ns) (hn : ns.length = n + 1) : w.rangeAt g (n * 38 + 6) (headG ns).vs := by
  obtain ⟨x, hx⟩ := links_last ns n hn
  rw [← hn] at h
  obtain ⟨g', hg, hr⟩ := h.link hx
  obtain rfl : g = g' := by injection hg with hg; injection hg
  exact range_behind hr
theorem TrP.on_row {W w : World} {tb : Nat} {lv : Value} {ns : List Nt} {DB : Nat} (h : TrP W w tb lv ns) (hd : tb ≠ DB ∧ (∀ g, lv.ownBlock = some g → g ≠ DB) ∧ W.heap.size ≤ DB) (cs : Array Value) : TrP W (w.setRow DB cs) tb lv ns :=
  h.only (Only.of_grown (grown_row (World.grownBy.refl w (some DB)) (.inl rfl) cs)) (fun e => hd.1 (by injection e with e; exact e.symm)) (fun g hg e => hd.2.1 g hg (by injection e with e; exact e.symm)) (fun i _ e => by injection e with e; rw [← e]; exact hd.2.2)

set_option maxHeartbeats 400000 in
theorem tnone_yes (w : World) (tb : Nat) (hc : w.cell? ⟨tb, 1, none⟩ = some (.bool true)) : Calls Tryd.prog 27 #[.pointer (some ⟨tb, 0, none⟩)] w fun e w' => e = .returned (.bool false) ∧ w = w' := by
  go_enter Tryd.func27, Tryd.ntmps27
  go_wp2
  go_ret
  exact ⟨rfl, rfl⟩
set_option maxHeartbeats 400000 in
theorem tlen_calls (W w : World) (tb : Nat) (lv : Value) (ns : List Nt) (h : TrP W w tb lv ns) : Calls Tryd.prog 13 #[.pointer (some ⟨tb, 0, none⟩)] w fun e w' => e = .returned (.int .i64 ns.length) ∧ w = w' := by
  obtain ⟨p, c, rfl⟩ := h.shape
  have c0 := h.box.cell 0
  have HC := Lib.hid (tnone_yes w tb (h.box.cell 1))
  clear h
  go_enter Tryd.func13, Tryd.ntmps13
  go_wp2_with (go_at_call 27; refine HC.out.mono ?_; rintro e w' ⟨rfl, rfl⟩)
  go_ret
  exact ⟨rfl, rfl⟩

set_option maxRecDepth 100000 in
set_option maxHeartbeats 2000000 in
theorem thead_calls (W w : World) (tb : Nat) (lv : Value) (ns : List Nt) (h : TrP W w tb lv ns) (hlen : ns.length ≤ 100000) : Calls Tryd.prog 14 #[.pointer (some ⟨tb, 0, none⟩)] w fun e w' => e = .returned (.agg (headG ns).vs.toArray) ∧ Below w.heap.size w w' := by
  have hB1 : Below w.heap.size w (w.alloc (.cells (zeroNums .u8 32).toArray 24)) := (Below.refl _ _).alloc (Nat.le_refl _) _
  have hR := Whole.new w 24 (zeroNums .u8 32).toArray
  have hT1 := h.on hB1
  have hDB : tb ≠ w.heap.size ∧ (∀ g, lv.ownBlock = some g → g ≠ w.heap.size) ∧ W.heap.size ≤ w.heap.size := ⟨Nat.ne_of_lt h.box.lt, fun g hg => Nat.ne_of_lt (row_lt h.row hg), h.below.size⟩
  clear h
  have HL := Lib.hid (fun w1 (hT1 : TrP W w1 tb lv ns) => tlen_calls W w1 tb lv ns hT1)
  cases hn : ns.length with
  | zero =>
    obtain rfl := List.eq_nil_of_length_eq_zero hn
    change Calls _ _ _ _ fun e w' => e = .returned (.agg zeroG.vs.toArray) ∧ _
    rw [zeroG_vs]
    clear hDB hn
    go_enter Tryd.func14, Tryd.ntmps14
    go_upto_region 1 with (refine wpList_alloc_row (by rfl) 24 (by rfl) _ _ info_d ?_)
    generalize (w.alloc (.cells (zeroNums .u8 32).toArray 24)) = w1 at *
    go_upto_region 2 with (go_at_call 13; refine (HL.out _ hT1).mono ?_; rintro e w' ⟨rfl, rfl⟩)
    apply wp_region_lit
    refine wpList_build_as (by rfl) _ _ (by rfl) (zeroNums .u8 32).toArray (by kernel_rfl) ?_
    refine wpList_store_row (by rfl) 24 _ _ (by rfl) w.heap.size (zeroNums .u8 32).toArray (by rfl) (by rfl) 24 _ hR size_d rfl (all_zeros _ _) ?_
    go_wp2
    exact bodyPost_ret (results_cell_row rfl _ _ w.heap.size 24 _ (0, 0) _ rfl (hR.row _) Tryd.underlying24 rfl size_d) rfl ⟨rfl, hB1.grown (grown_row (World.grownBy.refl _ (some w.heap.size)) (.inl rfl) _) hB1.size (fun k hk => by simp at hk; omega)⟩
  | succ n =>
    obtain ⟨p, c, rfl⟩ := hT1.shape
    rw [hn] at hT1 hDB HL
    obtain ⟨g, rfl⟩ : ∃ g, p = some ⟨g, 0, none⟩ := by
      obtain ⟨x, hx⟩ := links_last ns n hn
      rw [← hn] at hT1
      obtain ⟨g, hg, _⟩ := hT1.link hx
      exact ⟨g, hg⟩
    go_enter Tryd.func14, Tryd.ntmps14
    go_upto_region 1 with (refine wpList_alloc_row (by rfl) 24 (by rfl) _ _ info_d ?_)
    obtain ⟨DB, hDBe⟩ : ∃ x, w.heap.size = x := ⟨_, rfl⟩
    rw [hDBe] at hR hDB ⊢
    have HGE := Lib.hid (Nat.le_of_eq hDBe)
    clear hDBe
    generalize (w.alloc (.cells (zeroNums .u8 32).toArray 24)) = w1 at *
    have i0 : ((n : Int) + 1 == 0) = false := beq_eq_false_iff_ne.2 (by omega)
    go_upto_region 3 with (go_at_call 13; refine (HL.out _ hT1).mono ?_; rintro e w' ⟨rfl, rfl⟩)
    have i1 : IntKind.i64.wrap (n : Int) = (n : Int) := IntWalk.i64_in _ (by omega)
    have i2 : 0 ≤ (n : Int) ∧ (n : Int) < (n : Int) + 1 := by omega
    refine wp_region_noPanic ?_
    refine wp_region_held_drew (S := fun w' => TrP W w' tb (.slice (some ⟨g, 0, none⟩) (n + 1) c) ns) (by kernel_rfl) (hT1.on ((Below.refl _ _).drew)) (fun hhS => ?_)
    replace hT1 := hT1.on ((Below.refl w1.heap.size w1).drew)
    replace hR := hR.below ((Below.refl w1.heap.size w1).drew) hR.lt
    replace hB1 := hB1.drew
    clear hhS
    generalize w1.drew = wd at hT1 hR hB1 ⊢
    have hhS := hT1
    refine wpAnyH_take (i := 0) (oi := ⟨some 7, _, _, _, _, _⟩) (v := ?_) rfl (by kernel_rfl) (by kernel_rfl) (by kernel_rfl) (fun _ _ _ h => h) (Or.inl ⟨by rfl, ?_⟩) (by assumption) ?_
    rotate_left
    · intro w hSw
      (try dsimp only at hSw)
      go_simp
      all_goals (with_reducible rfl)
    try simp only [Act.put, List.setIfInBounds_toArray, List.set_cons_zero, List.set_cons_succ]
    refine wpAnyH_take (i := 1) (oi := ⟨some 8, _, _, _, _, _⟩) (v := ?_) rfl (by kernel_rfl) (by kernel_rfl) (by kernel_rfl) (fun _ _ _ h => h) (Or.inl ⟨by rfl, ?_⟩) (by assumption) ?_
    rotate_left
    · intro w hSw
      (try dsimp only at hSw)
      go_simp
      all_goals (with_reducible rfl)
    try simp only [Act.put, List.setIfInBounds_toArray, List.set_cons_zero, List.set_cons_succ]
    refine wpAnyH_take (i := 2) (oi := ⟨some 9, _, _, _, _, _⟩) (v := ?_) rfl (by kernel_rfl) (by kernel_rfl) (by kernel_rfl) (fun _ _ _ h => h) (Or.inl ⟨by rfl, ?_⟩) (by assumption) ?_
    rotate_left
    · intro w hSw
      (try dsimp only at hSw)
      go_simp
      all_goals (with_reducible rfl)
    try simp only [Act.put, List.setIfInBounds_toArray, List.set_cons_zero, List.set_cons_succ]
    refine wpAnyH_take (i := 3) (oi := ⟨some 10, _, _, _, _, _⟩) (v := ?_) rfl (by kernel_rfl) (by kernel_rfl) (by kernel_rfl) (fun _ _ _ h => h) (Or.inl ⟨by rfl, ?_⟩) (by assumption) ?_
    rotate_left
    · intro w hSw
      (try dsimp only at hSw)
      have x0 := hSw.box.cell 0
      go_simp
      all_goals (with_reducible rfl)
    try simp only [Act.put, List.setIfInBounds_toArray, List.set_cons_zero, List.set_cons_succ]
    refine wpAnyH_take (i := 4) (oi := ⟨some 11, _, _, _, _, _⟩) (v := ?_) rfl (by kernel_rfl) (by kernel_rfl) (by kernel_rfl) (fun _ _ _ h => h) (Or.inl ⟨by rfl, ?_⟩) (by assumption) ?_
    rotate_left
    · intro w hSw
      (try dsimp only at hSw)
      go_simp
      all_goals (with_reducible rfl)
    try simp only [Act.put, List.setIfInBounds_toArray, List.set_cons_zero, List.set_cons_succ]
    refine wpAnyH_take (i := 5) (oi := ⟨some 12, _, _, _, _, _⟩) (v := ?_) rfl (by kernel_rfl) (by kernel_rfl) (by kernel_rfl) (fun _ _ _ h => h) (Or.inl ⟨by rfl, ?_⟩) (by assumption) ?_
    rotate_left
    · intro w hSw
      (try dsimp only at hSw)
      go_simp
      all_goals (with_reducible rfl)
    try simp only [Act.put, List.setIfInBounds_toArray, List.set_cons_zero, List.set_cons_succ]
    refine wpAnyH_take (i := 6) (oi := ⟨some 13, _, _, _, _, _⟩) (v := ?_) rfl (by kernel_rfl) (by kernel_rfl) (by kernel_rfl) (fun _ _ _ h => h) (Or.inl ⟨by rfl, ?_⟩) (by assumption) ?_
    rotate_left
    · intro w hSw
      (try dsimp only at hSw)
      go_simp
      all_goals (with_reducible rfl)
    try simp only [Act.put, List.setIfInBounds_toArray, List.set_cons_zero, List.set_cons_succ]
    refine wpAnyH_take (i := 7) (oi := ⟨some 14, _, _, _, _, _⟩) (v := ?_) rfl (by kernel_rfl) (by kernel_rfl) (by kernel_rfl) (fun _ _ _ h => h) (Or.inl ⟨by rfl, ?_⟩) (by assumption) ?_
    rotate_left
    · intro w hSw
      (try dsimp only at hSw)
      have x0 := hSw.box.cell 0
      go_simp
      all_goals (with_reducible rfl)
    try simp only [Act.put, List.setIfInBounds_toArray, List.set_cons_zero, List.set_cons_succ]
    refine wpAnyH_take (i := 8) (oi := ⟨some 15, _, _, _, _, _⟩) (v := ?_) rfl (by kernel_rfl) (by kernel_rfl) (by kernel_rfl) (fun _ _ _ h => h) (Or.inl ⟨by rfl, ?_⟩) (by assumption) ?_
    rotate_left
    · intro w hSw
      (try dsimp only at hSw)
      go_simp
      all_goals (with_reducible rfl)
    try simp only [Act.put, List.setIfInBounds_toArray, List.set_cons_zero, List.set_cons_succ]
    refine wpAnyH_take (i := 9) (oi := ⟨some 16, _, _, _, _, _⟩) (v := ?_) rfl (by kernel_rfl) (by kernel_rfl) (by kernel_rfl) (fun _ _ _ h => h) (Or.inl ⟨by rfl, ?_⟩) (by assumption) ?_
    rotate_left
    · intro w hSw
      (try dsimp only at hSw)
      go_simp
      all_goals (with_reducible rfl)
    try simp only [Act.put, List.setIfInBounds_toArray, List.set_cons_zero, List.set_cons_succ]
    refine wpAnyH_take (i := 10) (oi := ⟨some 17, _, _, _, _, _⟩) (v := ?_) rfl (by kernel_rfl) (by kernel_rfl) (by kernel_rfl) (fun _ _ _ h => h) (Or.inl ⟨by rfl, ?_⟩) (by assumption) ?_
    rotate_left
    · intro w hSw
      (try dsimp only at hSw)
      go_simp
      all_goals (with_reducible rfl)
    try simp only [Act.put, List.setIfInBounds_toArray, List.set_cons_zero, List.set_cons_succ]
    refine wpAnyH_take (i := 11) (oi := ⟨some 18, _, _, _, _, _⟩) (v := ?_) rfl (by kernel_rfl) (by kernel_rfl) (by kernel_rfl) (fun _ _ _ h => h) (Or.inl ⟨by rfl, ?_⟩) (by assumption) ?_
    rotate_left
    · intro w hSw
      (try dsimp only at hSw)
      go_simp
      all_goals (with_reducible rfl)
    try simp only [Act.put, List.setIfInBounds_toArray, List.set_cons_zero, List.set_cons_succ]
    refine wpAnyH_take (i := 12) (oi := ⟨some 19, _, _, _, _, _⟩) (v := _) rfl (by kernel_rfl) (by kernel_rfl) (by kernel_rfl) (fun _ _ _ h => h) (yieldsIf_load_mid (by rfl) _ _ rfl g (n * 38 + 6) (by rfl) ((headG ns).vs) _ (fun w hSw => hSw.head hn) Tryd.underlying24 rfl (by rw [size_d, Dg.vs_length])) (by assumption) ?_
    try simp only [Act.put, List.setIfInBounds_toArray, List.set_cons_zero, List.set_cons_succ]
    refine wpAnyH_ready (rs := [13]) (by kernel_rfl) (by simp) ?_
    refine AllReadyH.cons (o := ⟨none, _, _, _, _, _⟩) rfl (fun K hK => ?_) AllReadyH.nil
    rw [if_pos (by rfl)]
    refine wp_store_row 24 _ _ (by rfl) DB (headG ns).vs.toArray (by rfl) (by rfl) 24 _ hR (by rw [size_d]; simp [Dg.vs_length]) (by simp [zeroNums, Dg.vs_length]) (Dg.all_one _) ?_
    refine hK.out _ _ (hT1.on_row hDB _) (fun _ => ?_)
    clear hK K
    try simp only [Act.put]
    refine wpAnyH_done (by kernel_rfl) ?_ _
    refine NoPanic.normal ?_
    go_wp2
    refine bodyPost_ret (results_cell_row rfl _ _ DB 24 _ (0, 0) _ rfl (hR.row _) Tryd.underlying24 rfl (by rw [size_d]; simp [Dg.vs_length])) rfl ⟨rfl, ?_⟩
    exact hB1.grown (grown_row (World.grownBy.refl _ (some DB)) (.inl rfl) _) hB1.size (fun k hk => by have := HGE.out; simp at hk; omega)

end Go.Proofs.YtglcingpolpkdaaDoor
