/- One more note in a trail. -/
import Derived.Test.YtglcingpolpkdaaDoorTIn
namespace Go.Proofs.YtglcingpolpkdaaDoor
open Go.RowKit

/-- What Add leaves. -/
def AddEnd (W w w' : World) (tb : Nat) (lv : Value) (ns : List Nt) : Prop := ∃ lv', TrP W w' tb lv' ns ∧ Only w w' fun i => i = tb ∨ lv.ownBlock = some i
theorem TrP.under {W w : World} {tb DB : Nat} {lv : Value} {ns : List Nt} {vs : List Value} (h : TrP W w tb lv ns) (hD : Whole w DB 24 vs) (hb : W.heap.size ≤ DB) (cs : Array Value) : TrP W (w.setRow DB cs) tb lv ns := by
  have hn := h.ne hD (by decide) (by decide)
  exact h.on_row ⟨hn.1, hn.2, hb⟩ cs
theorem Only.row {w0 w : World} {S : Nat → Prop} {DB : Nat} (h : Only w0 w S) (hD : w0.heap.size ≤ DB) (cs : Array Value) : Only w0 (w.setRow DB cs) S :=
  (h.trans (Only.of_grown (grown_row (World.grownBy.refl w (some DB)) (.inl rfl) cs))).weak fun i hi hs => hs.elim id fun e => absurd hi (by injection e with e; omega)
theorem AddIn.refused {W w0 w : World} {tb : Nat} {lv : Value} {ns : List Nt} {NB DB : Nat} {n : Nt} {cs : Array Value} (h : AddIn W w0 w tb lv ns NB DB n) : AddEnd W w0 (w.setRow DB cs) tb lv ns :=
  ⟨lv, h.tr.under h.res (Nat.le_trans h.old.1 h.new) cs, (Only.of_below h.below _).row h.new cs⟩
theorem AddIn2.added {W w0 w w9 : World} {tb NB DB H k9 y9 : Nat} {lv : Value} {x9 : Option Addr} {ns : List Nt} {n : Nt} {E : Dg} (h : AddIn2 W w0 w tb lv ns NB DB n H E.vs) (hE : nextG (headG ns) n = E) (hG : w.grownBy w9 lv.ownBlock)
    (hO : w9.ownsRow W.heap.size 74 38 (.slice x9 k9 y9) (links zeroG ns ++ [(n, E)]).length ((links zeroG ns ++ [(n, E)]).flatMap linkCells)) :
    TrP W (w9.setCell ⟨tb, 0, none⟩ (.slice x9 k9 y9)) tb (.slice x9 k9 y9) (ns ++ [n]) ∧ Whole (w9.setCell ⟨tb, 0, none⟩ (.slice x9 k9 y9)) H 24 E.vs ∧ Whole (w9.setCell ⟨tb, 0, none⟩ (.slice x9 k9 y9)) DB 24 (zeroNums .u8 32) ∧ Only w0 (w9.setCell ⟨tb, 0, none⟩ (.slice x9 k9 y9)) fun i => i = tb ∨ lv.ownBlock = some i := by
  have hT9 := h.base.tr.box.appended h.base.tr.row (by decide) hG
  have hH9 := h.cell.appended h.base.tr.row (by decide) hG
  have hD9 := h.base.res.appended h.base.tr.row (by decide) hG
  have hl : links zeroG (ns ++ [n]) = links zeroG ns ++ [(n, E)] := by
    rw [links_add, ← hE]
    rfl
  have hS := Only.set w9 ⟨tb, 0, none⟩ (.slice x9 k9 y9)
  have hOn : Only w0 (w9.setCell ⟨tb, 0, none⟩ (.slice x9 k9 y9)) fun i => i = tb ∨ lv.ownBlock = some i :=
    (((Only.of_below h.base.below fun _ => False).trans (Only.of_grown hG)).trans hS).weak fun i _ hs => by
      rcases hs with (hs | hs) | hs
      · exact hs.elim
      · exact .inr hs
      · exact .inl hs
  refine ⟨⟨hT9.put 0 _, ?_, h.base.tr.new, ?_⟩, hH9.far (whole_ne hH9 hT9 (by decide)) _, hD9.far (whole_ne hD9 hT9 (by decide)) _, hOn⟩
  · have : (ns ++ [n]).length = (links zeroG ns ++ [(n, E)]).length := by rw [← hl, links_length]
    rw [this, hl]
    exact row_only hO hS fun g hg (e : g = tb) => row_ne_whole hO hT9 (by decide) (e ▸ hg)
  · exact (h.base.tr.below.grown hG h.base.tr.below.size (fun k hk => own_ge h.base.tr.row hk)).setCell h.base.tr.new _

noncomputable def taddAppend : Code := subCode [1, 1, 1, 1, 1, 0] ((Tryd.f9.body).getD .skip)

set_option maxRecDepth 100000 in
set_option maxHeartbeats 2000000 in
theorem tadd_append {z1 z2 z5 z7 z8 z9 z10 z11 z12 z13 z14 z15 z16 z17 z18 z19 z20 z21 z22 z23 z24 z25 z26 z27 z28 z29 z30 z31 z32 z33 z34 z35 z36 z37 z38 z39 z40 z41 : Value} {W w wx : World} {tb c NB DB H : Nat} {p : Option Addr} {ns : List Nt} {n : Nt} {E : Dg} (hE : nextG (headG ns) n = E) (hlen : ns.length ≤ 1000) (hA : AddIn2 W w wx tb (.slice p ns.length c) ns NB DB n H E.vs) {Q : Exit → Act → World → Prop}
    (hq : ∀ (y29 y30 y31 y32 y33 y34 y35 y36 y37 y38 y39 y40 : Value) (wz : World) (v9 : Value), TrP W wz tb v9 (ns ++ [n]) → Whole wz H 24 E.vs → Whole wz DB 24 (zeroNums .u8 32) → (Only w wz fun i => i = tb ∨ (Value.slice p ns.length c).ownBlock = some i) → Q .normal ⟨(.pointer (some ⟨tb, 0, none⟩) :: z1 :: z2 :: .pointer (some ⟨NB, 0, none⟩) :: .pointer (some ⟨DB, 0, none⟩) :: z5 :: .pointer (some ⟨H, 0, none⟩) :: z7 :: z8 :: z9 :: z10 :: z11 :: z12 :: z13 :: z14 :: z15 :: z16 :: z17 :: z18 :: z19 :: z20 :: z21 :: z22 :: z23 :: z24 :: z25 :: z26 :: z27 :: z28 :: y29 :: y30 :: y31 :: y32 :: y33 :: y34 :: y35 :: y36 :: y37 :: y38 :: y39 :: y40 :: z41 :: []).toArray, []⟩ wz) : Code.wp Tryd.prog taddAppend Q ⟨(.pointer (some ⟨tb, 0, none⟩) :: z1 :: z2 :: .pointer (some ⟨NB, 0, none⟩) :: .pointer (some ⟨DB, 0, none⟩) :: z5 :: .pointer (some ⟨H, 0, none⟩) :: z7 :: z8 :: z9 :: z10 :: z11 :: z12 :: z13 :: z14 :: z15 :: z16 :: z17 :: z18 :: z19 :: z20 :: z21 :: z22 :: z23 :: z24 :: z25 :: z26 :: z27 :: z28 :: z29 :: z30 :: z31 :: z32 :: z33 :: z34 :: z35 :: z36 :: z37 :: z38 :: z39 :: z40 :: z41 :: []).toArray, []⟩ wx := by
  conv => arg 2; whnf
  have HQ := Lib.hid hq
  clear hq
  refine wp_region_noPanic ?_
  refine wp_region_held_drew (S := fun w' => Whole w' NB 36 n.cells ∧ Whole w' H 24 E.vs) (by kernel_rfl) (⟨hA.base.note.drew, hA.cell.drew⟩) (fun hhS => ?_)
  replace hA := hA.on ((Below.refl wx.heap.size wx).drew)
  clear hhS
  generalize wx.drew = wd at hA ⊢
  have hhS : Whole wd NB 36 n.cells ∧ Whole wd H 24 E.vs := ⟨hA.base.note, hA.cell⟩
  have c0 := hA.base.tr.box.cell 0
  refine wpAnyH_take (i := 0) (oi := ⟨some 29, _, _, _, _, _⟩) (v := ?_) rfl (by kernel_rfl) (by kernel_rfl) (by kernel_rfl) (fun _ _ _ h => h) (Or.inl ⟨by rfl, ?_⟩) (by assumption) ?_
  rotate_left
  · intro w hSw
    (try dsimp only at hSw)
    go_simp
    all_goals (with_reducible rfl)
  try simp only [Act.put, List.setIfInBounds_toArray, List.set_cons_zero, List.set_cons_succ]
  refine wpAnyH_take (i := 1) (oi := ⟨some 30, _, _, _, _, _⟩) (v := ?_) rfl (by kernel_rfl) (by kernel_rfl) (by kernel_rfl) (fun _ _ _ h => h) (Or.inl ⟨by rfl, ?_⟩) (by assumption) ?_
  rotate_left
  · intro w hSw
    (try dsimp only at hSw)
    go_simp
    all_goals (with_reducible rfl)
  try simp only [Act.put, List.setIfInBounds_toArray, List.set_cons_zero, List.set_cons_succ]
  refine wpAnyH_take (i := 2) (oi := ⟨some 31, _, _, _, _, _⟩) (v := ?_) rfl (by kernel_rfl) (by kernel_rfl) (by kernel_rfl) (fun _ _ _ h => h) (Or.inl ⟨by rfl, ?_⟩) (by assumption) ?_
  rotate_left
  · intro w hSw
    (try dsimp only at hSw)
    go_simp
    all_goals (with_reducible rfl)
  try simp only [Act.put, List.setIfInBounds_toArray, List.set_cons_zero, List.set_cons_succ]
  refine wpAnyH_take (i := 3) (oi := ⟨some 32, _, _, _, _, _⟩) (v := ?_) rfl (by kernel_rfl) (by kernel_rfl) (by kernel_rfl) (fun _ _ _ h => h) (Or.inl ⟨by rfl, ?_⟩) (by assumption) ?_
  rotate_left
  · intro w hSw
    (try dsimp only at hSw)
    go_simp
    all_goals (with_reducible rfl)
  try simp only [Act.put, List.setIfInBounds_toArray, List.set_cons_zero, List.set_cons_succ]
  refine wpAnyH_take (i := 5) (oi := ⟨some 34, _, _, _, _, _⟩) (v := _) rfl (by kernel_rfl) (by kernel_rfl) (by kernel_rfl) (fun _ _ _ h => h) (yieldsIf_load_mid (by rfl) _ _ rfl NB 0 (by rfl) (n.cells) _ (fun w hSw => whole_rangeG hSw.1) Tryd.underlying36 rfl (by rw [size_n]; rfl)) (by assumption) ?_
  try simp only [Act.put, List.setIfInBounds_toArray, List.set_cons_zero, List.set_cons_succ]
  refine wpAnyH_take (i := 6) (oi := ⟨some 35, _, _, _, _, _⟩) (v := _) rfl (by kernel_rfl) (by kernel_rfl) (by kernel_rfl) (fun _ _ _ h => h) (yieldsIf_load_mid (by rfl) _ _ rfl H 0 (by rfl) (E.vs) _ (fun w hSw => whole_rangeG hSw.2) Tryd.underlying24 rfl (by rw [size_d, Dg.vs_length])) (by assumption) ?_
  try simp only [Act.put, List.setIfInBounds_toArray, List.set_cons_zero, List.set_cons_succ]
  refine wpAnyH_take (i := 7) (oi := ⟨some 36, _, _, _, _, _⟩) (v := (.agg (linkCells (n, E)).toArray)) rfl (by kernel_rfl) (by kernel_rfl) (by kernel_rfl) (fun _ _ _ h => h) (yieldsIf_build (by rfl) 74 _ _ (by rfl) _ _ (by rfl) (by rfl) _ (built_link (n, E))) (by assumption) ?_
  try simp only [Act.put, List.setIfInBounds_toArray, List.set_cons_zero, List.set_cons_succ]
  refine wpAnyH_ready (rs := [4, 8]) (by kernel_rfl) (by simp) ?_
  refine AllReadyH.cons (o := ⟨some 33, _, _, _, _, _⟩) rfl (fun K hK => ?_) ?_
  · go_simp
    clear c0
    refine hK.out _ _ (⟨hA.base.note, hA.cell⟩) (fun _ => ?_)
    clear hK K
    try simp only [Act.put, List.setIfInBounds_toArray, List.set_cons_zero, List.set_cons_succ]
    refine wpAnyH_ready (rs := [8]) (by kernel_rfl) (by simp) ?_
    refine AllReadyH.cons (o := ⟨some 37, _, _, _, _, _⟩) rfl (fun K hK => ?_) AllReadyH.nil
    rw [if_pos (by rfl)]
    refine wp_build_one 58 74 _ (by rfl) (linkCells (n, E)) _ 38 104 Tryd.underlying58 info_link (linkCells_length _) (by decide) (by decide) (by rfl) ?_
    have hU := src_new (f := linkCells) (n := 38) wd 74 (n, E)
    replace hA := hA.on ((Below.refl _ _).alloc (Nat.le_refl _) (.cells (linkCells (n, E)).toArray 74))
    generalize wd.alloc (.cells (linkCells (n, E)).toArray 74) = w8 at hA hU ⊢
    refine hK.out _ _ (⟨hA.base.note, hA.cell⟩) (fun _ => ?_)
    clear hK K
    try simp only [Act.put, List.setIfInBounds_toArray, List.set_cons_zero, List.set_cons_succ]
    refine wpAnyH_ready (rs := [9]) (by kernel_rfl) (by simp) ?_
    refine AllReadyH.cons (o := ⟨some 38, _, _, _, _, _⟩) rfl (fun K hK => ?_) AllReadyH.nil
    rw [if_pos (by rfl)]
    refine wp_append_gen (f := linkCells) (n := 38) _ _ 58 74 (by rfl) _ 104 Tryd.underlying58 info_link rfl (by decide) (by decide) linkCells_length W.heap.size _ _ (links zeroG ns) [(n, E)] (by rfl) hA.base.tr.row' (by rfl) hU (fun b _ => link_ones b) (by rw [links_length]; simp; omega) hA.base.tr.below.size ?_
    intro v9 w9 hO9 hG9 _
    obtain ⟨x9, k9, y9, he9⟩ := slice_any hO9
    subst he9
    have hT9 := hA.base.tr.box.appended hA.base.tr.row (by decide) hG9
    have hN9 := hA.base.note.appended hA.base.tr.row (by decide) hG9
    have hD9 := hA.base.res.appended hA.base.tr.row (by decide) hG9
    have hH9 := hA.cell.appended hA.base.tr.row (by decide) hG9
    have c6 := hT9.cell 0
    have c7 := hT9.free 0
    refine hK.out _ _ (⟨hN9, hH9⟩) (fun _ => ?_)
    clear hK K
    try simp only [Act.put, List.setIfInBounds_toArray, List.set_cons_zero, List.set_cons_succ]
    refine wpAnyH_take (i := 10) (oi := ⟨some 39, _, _, _, _, _⟩) (v := ?_) rfl (by kernel_rfl) (by kernel_rfl) (by kernel_rfl) (fun _ _ _ h => h) (Or.inl ⟨by rfl, ?_⟩) (by assumption) ?_
    rotate_left
    · intro w hSw
      (try dsimp only at hSw)
      go_simp
      all_goals (with_reducible rfl)
    try simp only [Act.put, List.setIfInBounds_toArray, List.set_cons_zero, List.set_cons_succ]
    refine wpAnyH_take (i := 11) (oi := ⟨some 40, _, _, _, _, _⟩) (v := ?_) rfl (by kernel_rfl) (by kernel_rfl) (by kernel_rfl) (fun _ _ _ h => h) (Or.inl ⟨by rfl, ?_⟩) (by assumption) ?_
    rotate_left
    · intro w hSw
      (try dsimp only at hSw)
      go_simp
      all_goals (with_reducible rfl)
    try simp only [Act.put, List.setIfInBounds_toArray, List.set_cons_zero, List.set_cons_succ]
    refine wpAnyH_ready (rs := [12]) (by kernel_rfl) (by simp) ?_
    refine AllReadyH.cons (o := ⟨none, _, _, _, _, _⟩) rfl (fun K hK => ?_) AllReadyH.nil
    go_simp
    refine hK.out _ _ (⟨hN9.far (whole_ne hN9 hT9 (by decide)) _, hH9.far (whole_ne hH9 hT9 (by decide)) _⟩) (fun _ => ?_)
    clear hK K
    try simp only [Act.put]
    refine wpAnyH_done (by kernel_rfl) ?_ _
    refine NoPanic.normal ?_
    obtain ⟨hTz, hHz, hDz, hOz⟩ := hA.added hE hG9 hO9
    exact HQ.out _ _ _ _ _ _ _ _ _ _ _ _ _ _ hTz hHz hDz hOz
  refine AllReadyH.cons (o := ⟨some 37, _, _, _, _, _⟩) rfl (fun K hK => ?_) AllReadyH.nil
  rw [if_pos (by rfl)]
  refine wp_build_one 58 74 _ (by rfl) (linkCells (n, E)) _ 38 104 Tryd.underlying58 info_link (linkCells_length _) (by decide) (by decide) (by rfl) ?_
  have hU := src_new (f := linkCells) (n := 38) wd 74 (n, E)
  replace hA := hA.on ((Below.refl _ _).alloc (Nat.le_refl _) (.cells (linkCells (n, E)).toArray 74))
  generalize wd.alloc (.cells (linkCells (n, E)).toArray 74) = w8 at hA hU ⊢
  replace c0 := hA.base.tr.box.cell 0
  refine hK.out _ _ (⟨hA.base.note, hA.cell⟩) (fun _ => ?_)
  clear hK K
  try simp only [Act.put, List.setIfInBounds_toArray, List.set_cons_zero, List.set_cons_succ]
  refine wpAnyH_ready (rs := [4]) (by kernel_rfl) (by simp) ?_
  refine AllReadyH.cons (o := ⟨some 33, _, _, _, _, _⟩) rfl (fun K hK => ?_) AllReadyH.nil
  go_simp
  clear c0
  refine hK.out _ _ (⟨hA.base.note, hA.cell⟩) (fun _ => ?_)
  clear hK K
  try simp only [Act.put, List.setIfInBounds_toArray, List.set_cons_zero, List.set_cons_succ]
  refine wpAnyH_ready (rs := [9]) (by kernel_rfl) (by simp) ?_
  refine AllReadyH.cons (o := ⟨some 38, _, _, _, _, _⟩) rfl (fun K hK => ?_) AllReadyH.nil
  rw [if_pos (by rfl)]
  refine wp_append_gen (f := linkCells) (n := 38) _ _ 58 74 (by rfl) _ 104 Tryd.underlying58 info_link rfl (by decide) (by decide) linkCells_length W.heap.size _ _ (links zeroG ns) [(n, E)] (by rfl) hA.base.tr.row' (by rfl) hU (fun b _ => link_ones b) (by rw [links_length]; simp; omega) hA.base.tr.below.size ?_
  intro v9 w9 hO9 hG9 _
  obtain ⟨x9, k9, y9, he9⟩ := slice_any hO9
  subst he9
  have hT9 := hA.base.tr.box.appended hA.base.tr.row (by decide) hG9
  have hN9 := hA.base.note.appended hA.base.tr.row (by decide) hG9
  have hD9 := hA.base.res.appended hA.base.tr.row (by decide) hG9
  have hH9 := hA.cell.appended hA.base.tr.row (by decide) hG9
  have c6 := hT9.cell 0
  have c7 := hT9.free 0
  refine hK.out _ _ (⟨hN9, hH9⟩) (fun _ => ?_)
  clear hK K
  try simp only [Act.put, List.setIfInBounds_toArray, List.set_cons_zero, List.set_cons_succ]
  refine wpAnyH_take (i := 10) (oi := ⟨some 39, _, _, _, _, _⟩) (v := ?_) rfl (by kernel_rfl) (by kernel_rfl) (by kernel_rfl) (fun _ _ _ h => h) (Or.inl ⟨by rfl, ?_⟩) (by assumption) ?_
  rotate_left
  · intro w hSw
    (try dsimp only at hSw)
    go_simp
    all_goals (with_reducible rfl)
  try simp only [Act.put, List.setIfInBounds_toArray, List.set_cons_zero, List.set_cons_succ]
  refine wpAnyH_take (i := 11) (oi := ⟨some 40, _, _, _, _, _⟩) (v := ?_) rfl (by kernel_rfl) (by kernel_rfl) (by kernel_rfl) (fun _ _ _ h => h) (Or.inl ⟨by rfl, ?_⟩) (by assumption) ?_
  rotate_left
  · intro w hSw
    (try dsimp only at hSw)
    go_simp
    all_goals (with_reducible rfl)
  try simp only [Act.put, List.setIfInBounds_toArray, List.set_cons_zero, List.set_cons_succ]
  refine wpAnyH_ready (rs := [12]) (by kernel_rfl) (by simp) ?_
  refine AllReadyH.cons (o := ⟨none, _, _, _, _, _⟩) rfl (fun K hK => ?_) AllReadyH.nil
  go_simp
  refine hK.out _ _ (⟨hN9.far (whole_ne hN9 hT9 (by decide)) _, hH9.far (whole_ne hH9 hT9 (by decide)) _⟩) (fun _ => ?_)
  clear hK K
  try simp only [Act.put]
  refine wpAnyH_done (by kernel_rfl) ?_ _
  refine NoPanic.normal ?_
  obtain ⟨hTz, hHz, hDz, hOz⟩ := hA.added hE hG9 hO9
  exact HQ.out _ _ _ _ _ _ _ _ _ _ _ _ _ _ hTz hHz hDz hOz

set_option maxRecDepth 100000 in
set_option maxHeartbeats 2000000 in
theorem tadd_good (W w : World) (tb c : Nat) (p : Option Addr) (ns : List Nt) (n : Nt) (E : Dg) (hE : nextG (headG ns) n = E) (h : TrP W w tb (.slice p ns.length c) ns) (hK : KTab w) (hlen : ns.length ≤ 1000) (HN : Hid (∀ w', KTab w' → Calls Tryd.prog 11 #[.agg (headG ns).vs.toArray, .agg n.cells.toArray] w' fun e w'' => e = .returned (.tuple #[.agg E.vs.toArray, .int .i64 0]) ∧ Below w'.heap.size w' w'')) :
    Calls Tryd.prog 9 #[.pointer (some ⟨tb, 0, none⟩), .agg n.cells.toArray] w fun e w' => e = .returned (.tuple #[.agg E.vs.toArray, .int .i64 0]) ∧ AddEnd W w w' tb (.slice p ns.length c) (ns ++ [n]) := by
  have hA := AddIn.start n h hK
  have HH := Lib.hid (fun w' (h' : TrP W w' tb (.slice p ns.length c) ns) => thead_calls W w' tb _ ns h' (by omega))
  have HY := Lib.hid (fun w' (h' : TrP W w' tb (.slice p ns.length c) ns) => tnone_yes w' tb (h'.box.cell 1))
  clear h hK
  have i1 : ¬ (4096 : Int) ≤ (ns.length : Int) := by omega
  go_enter Tryd.func9, Tryd.ntmps9
  go_upto_region 1 with (first | (refine wpList_box_cells (by rfl) 36 _ (by rfl) n.cells.toArray (by rfl) ?_) | (refine wpList_alloc_row (by rfl) 24 (by rfl) _ _ info_d ?_) | fail)
  generalize ((w.alloc (.cells n.cells.toArray 36)).alloc (.cells (zeroNums .u8 32).toArray 24)) = w2 at hA ⊢
  try simp only [World.size_alloc]
  revert hA
  obtain ⟨NB, hNB⟩ : ∃ x, w.heap.size = x := ⟨_, rfl⟩
  obtain ⟨DB, hDB⟩ : ∃ x, NB + 1 = x := ⟨_, rfl⟩
  rw [hNB, hDB]
  intro hA
  clear hNB hDB
  go_upto_region 3 with (go_at_call 27; refine (HY.out _ hA.tr).mono ?_; rintro e w' ⟨rfl, rfl⟩)
  refine wp_region_noPanic ?_
  refine wp_region_held_drew (S := fun w' => Whole w' NB 36 n.cells) (by kernel_rfl) (hA.note.drew) (fun hhS => ?_)
  replace hA := hA.on ((Below.refl w2.heap.size w2).drew)
  clear hhS
  generalize w2.drew = wd at hA ⊢
  have hhS := hA.note
  refine wpAnyH_take (i := 0) (oi := ⟨some 12, _, _, _, _, _⟩) (v := ?_) rfl (by kernel_rfl) (by kernel_rfl) (by kernel_rfl) (fun _ _ _ h => h) (Or.inl ⟨by rfl, ?_⟩) (by assumption) ?_
  rotate_left
  · intro w hSw
    (try dsimp only at hSw)
    go_simp
    all_goals (with_reducible rfl)
  try simp only [Act.put, List.setIfInBounds_toArray, List.set_cons_zero, List.set_cons_succ]
  refine wpAnyH_take (i := 2) (oi := ⟨some 14, _, _, _, _, _⟩) (v := _) rfl (by kernel_rfl) (by kernel_rfl) (by kernel_rfl) (fun _ _ _ h => h) (yieldsIf_load_mid (by rfl) _ _ rfl NB 0 (by rfl) (n.cells) _ (fun w hSw => whole_rangeG hSw) Tryd.underlying36 rfl (by rw [size_n]; rfl)) (by assumption) ?_
  try simp only [Act.put, List.setIfInBounds_toArray, List.set_cons_zero, List.set_cons_succ]
  refine wpAnyH_ready (rs := [1, 7]) (by kernel_rfl) (by simp) ?_
  refine AllReadyH.cons (o := ⟨some 13, _, _, _, _, _⟩) rfl (fun K hK => ?_) ?_
  · go_simp
    refine (HH.out _ hA.tr).mono ?_
    rintro e w1 ⟨rfl, hb⟩
    replace hA := hA.on hb
    clear hb
    refine hK.out _ _ (hA.note) (fun _ => ?_)
    clear hK K
    try simp only [Act.put, List.setIfInBounds_toArray, List.set_cons_zero, List.set_cons_succ]
    refine wpAnyH_ready (rs := [3, 7]) (by kernel_rfl) (by simp) ?_
    refine AllReadyH.cons (o := ⟨some 15, _, _, _, _, _⟩) rfl (fun K hK => ?_) ?_
    · go_simp
      refine (HN.out _ hA.tab).mono ?_
      rintro e w3 ⟨rfl, hb⟩
      replace hA := hA.on hb
      clear hb
      refine hK.out _ _ (hA.note) (fun _ => ?_)
      clear hK K
      try simp only [Act.put, List.setIfInBounds_toArray, List.set_cons_zero, List.set_cons_succ]
      refine wpAnyH_take (i := 4) (oi := ⟨some 11, _, _, _, _, _⟩) (v := ?_) rfl (by kernel_rfl) (by kernel_rfl) (by kernel_rfl) (fun _ _ _ h => h) (Or.inl ⟨by rfl, ?_⟩) (by assumption) ?_
      rotate_left
      · intro w hSw
        (try dsimp only at hSw)
        go_simp
        all_goals (with_reducible rfl)
      try simp only [Act.put, List.setIfInBounds_toArray, List.set_cons_zero, List.set_cons_succ]
      refine wpAnyH_take (i := 5) (oi := ⟨some 16, _, _, _, _, _⟩) (v := ?_) rfl (by kernel_rfl) (by kernel_rfl) (by kernel_rfl) (fun _ _ _ h => h) (Or.inl ⟨by rfl, ?_⟩) (by assumption) ?_
      rotate_left
      · intro w hSw
        (try dsimp only at hSw)
        go_simp
        all_goals (with_reducible rfl)
      try simp only [Act.put, List.setIfInBounds_toArray, List.set_cons_zero, List.set_cons_succ]
      refine wpAnyH_take (i := 6) (oi := ⟨some 17, _, _, _, _, _⟩) (v := ?_) rfl (by kernel_rfl) (by kernel_rfl) (by kernel_rfl) (fun _ _ _ h => h) (Or.inl ⟨by rfl, ?_⟩) (by assumption) ?_
      rotate_left
      · intro w hSw
        (try dsimp only at hSw)
        go_simp
        all_goals (with_reducible rfl)
      try simp only [Act.put, List.setIfInBounds_toArray, List.set_cons_zero, List.set_cons_succ]
      refine wpAnyH_ready (rs := [7]) (by kernel_rfl) (by simp) ?_
      refine AllReadyH.cons (o := ⟨some 6, _, _, _, _, _⟩) rfl (fun K hK => ?_) AllReadyH.nil
      rw [if_pos (by rfl)]
      refine wp_alloc_row 24 (by rfl) _ _ info_d ?_
      have hA2 := hA.more
      clear hA
      have hA := hA2
      clear hA2
      obtain ⟨H, hH⟩ : ∃ x, w3.heap.size = x := ⟨_, rfl⟩
      rw [hH] at hA ⊢
      clear hH
      generalize w3.alloc (.cells (zeroNums .u8 32).toArray 24) = wx at hA ⊢
      refine hK.out _ _ (hA.base.note) (fun _ => ?_)
      clear hK K
      try simp only [Act.put, List.setIfInBounds_toArray, List.set_cons_zero, List.set_cons_succ]
      refine wpAnyH_ready (rs := [8]) (by kernel_rfl) (by simp) ?_
      refine AllReadyH.cons (o := ⟨none, _, _, _, _, _⟩) rfl (fun K hK => ?_) AllReadyH.nil
      rw [if_pos (by rfl)]
      refine wp_store_row 24 _ _ (by rfl) H E.vs.toArray (by rfl) (by rfl) 24 _ hA.cell (by rw [size_d]; simp [Dg.vs_length]) (by simp [zeroNums, Dg.vs_length]) (Dg.all_one _) ?_
      replace hA := hA.filled E.vs
      generalize World.setRow _ _ _ = wx at hA ⊢
      refine hK.out _ _ (hA.base.note) (fun _ => ?_)
      clear hK K
      try simp only [Act.put]
      refine wpAnyH_take (i := 9) (oi := ⟨some 7, _, _, _, _, _⟩) (v := ?_) rfl (by kernel_rfl) (by kernel_rfl) (by kernel_rfl) (fun _ _ _ h => h) (Or.inl ⟨by rfl, ?_⟩) (by assumption) ?_
      rotate_left
      · intro w hSw
        (try dsimp only at hSw)
        go_simp
        all_goals (with_reducible rfl)
      try simp only [Act.put, List.setIfInBounds_toArray, List.set_cons_zero, List.set_cons_succ]
      refine wpAnyH_done (by kernel_rfl) ?_ _
      refine NoPanic.normal ?_
      have i0 : ((0 : Int) != 0) = false := rfl
      have c0 := hA.base.tr.box.cell 0
      have HB := Lib.hid (And.intro (Nat.le_trans hA.base.old.1 hA.base.new) hA.base.new)
      go_upto_region 8 with fail
      clear c0
      refine tadd_append hE hlen hA ?_
      intro _ _ _ _ _ _ _ _ _ _ _ _ wz v9 hTz hHz hDz hOz
      go_wp2_with (first | (refine wpList_load_row (by rfl) 24 _ (by rfl) H (by rfl) 24 E.vs.toArray (0, 0) _ hHz Tryd.underlying24 (by rfl) (by rw [size_d]; simp [Dg.vs_length]) ?_) | (refine wpList_store_row (by rfl) 24 _ _ (by rfl) DB E.vs.toArray (by rfl) (by rfl) 24 _ hDz (by rw [size_d]; simp [Dg.vs_length]) (by simp [zeroNums, Dg.vs_length]) (Dg.all_one _) ?_) | fail)
      refine bodyPost_ret (results_cell_two rfl _ _ DB 24 _ (0, 0) _ rfl (hDz.row _) Tryd.underlying24 rfl (by rw [size_d]; simp [Dg.vs_length])) rfl ⟨rfl, ?_⟩
      exact ⟨_, hTz.under hDz HB.out.1 _, hOz.row HB.out.2 _⟩
    refine AllReadyH.cons (o := ⟨some 6, _, _, _, _, _⟩) rfl (fun K hK => ?_) AllReadyH.nil
    rw [if_pos (by rfl)]
    refine wp_alloc_row 24 (by rfl) _ _ info_d ?_
    have hA2 := hA.more
    clear hA
    have hA := hA2
    clear hA2
    obtain ⟨H, hH⟩ : ∃ x, w1.heap.size = x := ⟨_, rfl⟩
    rw [hH] at hA ⊢
    clear hH
    generalize w1.alloc (.cells (zeroNums .u8 32).toArray 24) = wx at hA ⊢
    refine hK.out _ _ (hA.base.note) (fun _ => ?_)
    clear hK K
    try simp only [Act.put, List.setIfInBounds_toArray, List.set_cons_zero, List.set_cons_succ]
    refine wpAnyH_ready (rs := [3]) (by kernel_rfl) (by simp) ?_
    refine AllReadyH.cons (o := ⟨some 15, _, _, _, _, _⟩) rfl (fun K hK => ?_) AllReadyH.nil
    go_simp
    refine (HN.out _ hA.base.tab).mono ?_
    rintro e w3 ⟨rfl, hb⟩
    replace hA := hA.on hb
    clear hb
    refine hK.out _ _ (hA.base.note) (fun _ => ?_)
    clear hK K
    try simp only [Act.put, List.setIfInBounds_toArray, List.set_cons_zero, List.set_cons_succ]
    refine wpAnyH_take (i := 4) (oi := ⟨some 11, _, _, _, _, _⟩) (v := ?_) rfl (by kernel_rfl) (by kernel_rfl) (by kernel_rfl) (fun _ _ _ h => h) (Or.inl ⟨by rfl, ?_⟩) (by assumption) ?_
    rotate_left
    · intro w hSw
      (try dsimp only at hSw)
      go_simp
      all_goals (with_reducible rfl)
    try simp only [Act.put, List.setIfInBounds_toArray, List.set_cons_zero, List.set_cons_succ]
    refine wpAnyH_take (i := 5) (oi := ⟨some 16, _, _, _, _, _⟩) (v := ?_) rfl (by kernel_rfl) (by kernel_rfl) (by kernel_rfl) (fun _ _ _ h => h) (Or.inl ⟨by rfl, ?_⟩) (by assumption) ?_
    rotate_left
    · intro w hSw
      (try dsimp only at hSw)
      go_simp
      all_goals (with_reducible rfl)
    try simp only [Act.put, List.setIfInBounds_toArray, List.set_cons_zero, List.set_cons_succ]
    refine wpAnyH_take (i := 6) (oi := ⟨some 17, _, _, _, _, _⟩) (v := ?_) rfl (by kernel_rfl) (by kernel_rfl) (by kernel_rfl) (fun _ _ _ h => h) (Or.inl ⟨by rfl, ?_⟩) (by assumption) ?_
    rotate_left
    · intro w hSw
      (try dsimp only at hSw)
      go_simp
      all_goals (with_reducible rfl)
    try simp only [Act.put, List.setIfInBounds_toArray, List.set_cons_zero, List.set_cons_succ]
    refine wpAnyH_ready (rs := [8]) (by kernel_rfl) (by simp) ?_
    refine AllReadyH.cons (o := ⟨none, _, _, _, _, _⟩) rfl (fun K hK => ?_) AllReadyH.nil
    rw [if_pos (by rfl)]
    refine wp_store_row 24 _ _ (by rfl) H E.vs.toArray (by rfl) (by rfl) 24 _ hA.cell (by rw [size_d]; simp [Dg.vs_length]) (by simp [zeroNums, Dg.vs_length]) (Dg.all_one _) ?_
    replace hA := hA.filled E.vs
    generalize World.setRow _ _ _ = wx at hA ⊢
    refine hK.out _ _ (hA.base.note) (fun _ => ?_)
    clear hK K
    try simp only [Act.put]
    refine wpAnyH_take (i := 9) (oi := ⟨some 7, _, _, _, _, _⟩) (v := ?_) rfl (by kernel_rfl) (by kernel_rfl) (by kernel_rfl) (fun _ _ _ h => h) (Or.inl ⟨by rfl, ?_⟩) (by assumption) ?_
    rotate_left
    · intro w hSw
      (try dsimp only at hSw)
      go_simp
      all_goals (with_reducible rfl)
    try simp only [Act.put, List.setIfInBounds_toArray, List.set_cons_zero, List.set_cons_succ]
    refine wpAnyH_done (by kernel_rfl) ?_ _
    refine NoPanic.normal ?_
    have i0 : ((0 : Int) != 0) = false := rfl
    have c0 := hA.base.tr.box.cell 0
    have HB := Lib.hid (And.intro (Nat.le_trans hA.base.old.1 hA.base.new) hA.base.new)
    go_upto_region 8 with fail
    clear c0
    refine tadd_append hE hlen hA ?_
    intro _ _ _ _ _ _ _ _ _ _ _ _ wz v9 hTz hHz hDz hOz
    go_wp2_with (first | (refine wpList_load_row (by rfl) 24 _ (by rfl) H (by rfl) 24 E.vs.toArray (0, 0) _ hHz Tryd.underlying24 (by rfl) (by rw [size_d]; simp [Dg.vs_length]) ?_) | (refine wpList_store_row (by rfl) 24 _ _ (by rfl) DB E.vs.toArray (by rfl) (by rfl) 24 _ hDz (by rw [size_d]; simp [Dg.vs_length]) (by simp [zeroNums, Dg.vs_length]) (Dg.all_one _) ?_) | fail)
    refine bodyPost_ret (results_cell_two rfl _ _ DB 24 _ (0, 0) _ rfl (hDz.row _) Tryd.underlying24 rfl (by rw [size_d]; simp [Dg.vs_length])) rfl ⟨rfl, ?_⟩
    exact ⟨_, hTz.under hDz HB.out.1 _, hOz.row HB.out.2 _⟩
  refine AllReadyH.cons (o := ⟨some 6, _, _, _, _, _⟩) rfl (fun K hK => ?_) AllReadyH.nil
  rw [if_pos (by rfl)]
  refine wp_alloc_row 24 (by rfl) _ _ info_d ?_
  have hA2 := hA.more
  clear hA
  have hA := hA2
  clear hA2
  obtain ⟨H, hH⟩ : ∃ x, wd.heap.size = x := ⟨_, rfl⟩
  rw [hH] at hA ⊢
  clear hH
  generalize wd.alloc (.cells (zeroNums .u8 32).toArray 24) = wx at hA ⊢
  refine hK.out _ _ (hA.base.note) (fun _ => ?_)
  clear hK K
  try simp only [Act.put, List.setIfInBounds_toArray, List.set_cons_zero, List.set_cons_succ]
  refine wpAnyH_ready (rs := [1]) (by kernel_rfl) (by simp) ?_
  refine AllReadyH.cons (o := ⟨some 13, _, _, _, _, _⟩) rfl (fun K hK => ?_) AllReadyH.nil
  go_simp
  refine (HH.out _ hA.base.tr).mono ?_
  rintro e w1 ⟨rfl, hb⟩
  replace hA := hA.on hb
  clear hb
  refine hK.out _ _ (hA.base.note) (fun _ => ?_)
  clear hK K
  try simp only [Act.put, List.setIfInBounds_toArray, List.set_cons_zero, List.set_cons_succ]
  refine wpAnyH_ready (rs := [3]) (by kernel_rfl) (by simp) ?_
  refine AllReadyH.cons (o := ⟨some 15, _, _, _, _, _⟩) rfl (fun K hK => ?_) AllReadyH.nil
  go_simp
  refine (HN.out _ hA.base.tab).mono ?_
  rintro e w3 ⟨rfl, hb⟩
  replace hA := hA.on hb
  clear hb
  refine hK.out _ _ (hA.base.note) (fun _ => ?_)
  clear hK K
  try simp only [Act.put, List.setIfInBounds_toArray, List.set_cons_zero, List.set_cons_succ]
  refine wpAnyH_take (i := 4) (oi := ⟨some 11, _, _, _, _, _⟩) (v := ?_) rfl (by kernel_rfl) (by kernel_rfl) (by kernel_rfl) (fun _ _ _ h => h) (Or.inl ⟨by rfl, ?_⟩) (by assumption) ?_
  rotate_left
  · intro w hSw
    (try dsimp only at hSw)
    go_simp
    all_goals (with_reducible rfl)
  try simp only [Act.put, List.setIfInBounds_toArray, List.set_cons_zero, List.set_cons_succ]
  refine wpAnyH_take (i := 5) (oi := ⟨some 16, _, _, _, _, _⟩) (v := ?_) rfl (by kernel_rfl) (by kernel_rfl) (by kernel_rfl) (fun _ _ _ h => h) (Or.inl ⟨by rfl, ?_⟩) (by assumption) ?_
  rotate_left
  · intro w hSw
    (try dsimp only at hSw)
    go_simp
    all_goals (with_reducible rfl)
  try simp only [Act.put, List.setIfInBounds_toArray, List.set_cons_zero, List.set_cons_succ]
  refine wpAnyH_take (i := 6) (oi := ⟨some 17, _, _, _, _, _⟩) (v := ?_) rfl (by kernel_rfl) (by kernel_rfl) (by kernel_rfl) (fun _ _ _ h => h) (Or.inl ⟨by rfl, ?_⟩) (by assumption) ?_
  rotate_left
  · intro w hSw
    (try dsimp only at hSw)
    go_simp
    all_goals (with_reducible rfl)
  try simp only [Act.put, List.setIfInBounds_toArray, List.set_cons_zero, List.set_cons_succ]
  refine wpAnyH_ready (rs := [8]) (by kernel_rfl) (by simp) ?_
  refine AllReadyH.cons (o := ⟨none, _, _, _, _, _⟩) rfl (fun K hK => ?_) AllReadyH.nil
  rw [if_pos (by rfl)]
  refine wp_store_row 24 _ _ (by rfl) H E.vs.toArray (by rfl) (by rfl) 24 _ hA.cell (by rw [size_d]; simp [Dg.vs_length]) (by simp [zeroNums, Dg.vs_length]) (Dg.all_one _) ?_
  replace hA := hA.filled E.vs
  generalize World.setRow _ _ _ = wx at hA ⊢
  refine hK.out _ _ (hA.base.note) (fun _ => ?_)
  clear hK K
  try simp only [Act.put]
  refine wpAnyH_take (i := 9) (oi := ⟨some 7, _, _, _, _, _⟩) (v := ?_) rfl (by kernel_rfl) (by kernel_rfl) (by kernel_rfl) (fun _ _ _ h => h) (Or.inl ⟨by rfl, ?_⟩) (by assumption) ?_
  rotate_left
  · intro w hSw
    (try dsimp only at hSw)
    go_simp
    all_goals (with_reducible rfl)
  try simp only [Act.put, List.setIfInBounds_toArray, List.set_cons_zero, List.set_cons_succ]
  refine wpAnyH_done (by kernel_rfl) ?_ _
  refine NoPanic.normal ?_
  have i0 : ((0 : Int) != 0) = false := rfl
  have c0 := hA.base.tr.box.cell 0
  have HB := Lib.hid (And.intro (Nat.le_trans hA.base.old.1 hA.base.new) hA.base.new)
  go_upto_region 8 with fail
  clear c0
  refine tadd_append hE hlen hA ?_
  intro _ _ _ _ _ _ _ _ _ _ _ _ wz v9 hTz hHz hDz hOz
  go_wp2_with (first | (refine wpList_load_row (by rfl) 24 _ (by rfl) H (by rfl) 24 E.vs.toArray (0, 0) _ hHz Tryd.underlying24 (by rfl) (by rw [size_d]; simp [Dg.vs_length]) ?_) | (refine wpList_store_row (by rfl) 24 _ _ (by rfl) DB E.vs.toArray (by rfl) (by rfl) 24 _ hDz (by rw [size_d]; simp [Dg.vs_length]) (by simp [zeroNums, Dg.vs_length]) (Dg.all_one _) ?_) | fail)
  refine bodyPost_ret (results_cell_two rfl _ _ DB 24 _ (0, 0) _ rfl (hDz.row _) Tryd.underlying24 rfl (by rw [size_d]; simp [Dg.vs_length])) rfl ⟨rfl, ?_⟩
  exact ⟨_, hTz.under hDz HB.out.1 _, hOz.row HB.out.2 _⟩

set_option maxRecDepth 100000 in
set_option maxHeartbeats 2000000 in
theorem tadd_bad (W w : World) (tb c : Nat) (p : Option Addr) (ns : List Nt) (n : Nt) (E : Dg) (h : TrP W w tb (.slice p ns.length c) ns) (hK : KTab w) (hlen : ns.length ≤ 1000) (HN : Hid (∀ w', KTab w' → Calls Tryd.prog 11 #[.agg (headG ns).vs.toArray, .agg n.cells.toArray] w' fun e w'' => e = .returned (.tuple #[.agg E.vs.toArray, .int .i64 2]) ∧ Below w'.heap.size w' w'')) :
    Calls Tryd.prog 9 #[.pointer (some ⟨tb, 0, none⟩), .agg n.cells.toArray] w fun e w' => e = .returned (.tuple #[.agg (zeroNums .u8 32).toArray, .int .i64 2]) ∧ AddEnd W w w' tb (.slice p ns.length c) ns := by
  have hA := AddIn.start n h hK
  have HH := Lib.hid (fun w' (h' : TrP W w' tb (.slice p ns.length c) ns) => thead_calls W w' tb _ ns h' (by omega))
  have HY := Lib.hid (fun w' (h' : TrP W w' tb (.slice p ns.length c) ns) => tnone_yes w' tb (h'.box.cell 1))
  clear h hK
  have i1 : ¬ (4096 : Int) ≤ (ns.length : Int) := by omega
  go_enter Tryd.func9, Tryd.ntmps9
  go_upto_region 1 with (first | (refine wpList_box_cells (by rfl) 36 _ (by rfl) n.cells.toArray (by rfl) ?_) | (refine wpList_alloc_row (by rfl) 24 (by rfl) _ _ info_d ?_) | fail)
  generalize ((w.alloc (.cells n.cells.toArray 36)).alloc (.cells (zeroNums .u8 32).toArray 24)) = w2 at hA ⊢
  try simp only [World.size_alloc]
  revert hA
  obtain ⟨NB, hNB⟩ : ∃ x, w.heap.size = x := ⟨_, rfl⟩
  obtain ⟨DB, hDB⟩ : ∃ x, NB + 1 = x := ⟨_, rfl⟩
  rw [hNB, hDB]
  intro hA
  clear hNB hDB
  go_upto_region 3 with (go_at_call 27; refine (HY.out _ hA.tr).mono ?_; rintro e w' ⟨rfl, rfl⟩)
  refine wp_region_noPanic ?_
  refine wp_region_held_drew (S := fun w' => Whole w' NB 36 n.cells) (by kernel_rfl) (hA.note.drew) (fun hhS => ?_)
  replace hA := hA.on ((Below.refl w2.heap.size w2).drew)
  clear hhS
  generalize w2.drew = wd at hA ⊢
  have hhS := hA.note
  refine wpAnyH_take (i := 0) (oi := ⟨some 12, _, _, _, _, _⟩) (v := ?_) rfl (by kernel_rfl) (by kernel_rfl) (by kernel_rfl) (fun _ _ _ h => h) (Or.inl ⟨by rfl, ?_⟩) (by assumption) ?_
  rotate_left
  · intro w hSw
    (try dsimp only at hSw)
    go_simp
    all_goals (with_reducible rfl)
  try simp only [Act.put, List.setIfInBounds_toArray, List.set_cons_zero, List.set_cons_succ]
  refine wpAnyH_take (i := 2) (oi := ⟨some 14, _, _, _, _, _⟩) (v := _) rfl (by kernel_rfl) (by kernel_rfl) (by kernel_rfl) (fun _ _ _ h => h) (yieldsIf_load_mid (by rfl) _ _ rfl NB 0 (by rfl) (n.cells) _ (fun w hSw => whole_rangeG hSw) Tryd.underlying36 rfl (by rw [size_n]; rfl)) (by assumption) ?_
  try simp only [Act.put, List.setIfInBounds_toArray, List.set_cons_zero, List.set_cons_succ]
  refine wpAnyH_ready (rs := [1, 7]) (by kernel_rfl) (by simp) ?_
  refine AllReadyH.cons (o := ⟨some 13, _, _, _, _, _⟩) rfl (fun K hK => ?_) ?_
  · go_simp
    refine (HH.out _ hA.tr).mono ?_
    rintro e w1 ⟨rfl, hb⟩
    replace hA := hA.on hb
    clear hb
    refine hK.out _ _ (hA.note) (fun _ => ?_)
    clear hK K
    try simp only [Act.put, List.setIfInBounds_toArray, List.set_cons_zero, List.set_cons_succ]
    refine wpAnyH_ready (rs := [3, 7]) (by kernel_rfl) (by simp) ?_
    refine AllReadyH.cons (o := ⟨some 15, _, _, _, _, _⟩) rfl (fun K hK => ?_) ?_
    · go_simp
      refine (HN.out _ hA.tab).mono ?_
      rintro e w3 ⟨rfl, hb⟩
      replace hA := hA.on hb
      clear hb
      refine hK.out _ _ (hA.note) (fun _ => ?_)
      clear hK K
      try simp only [Act.put, List.setIfInBounds_toArray, List.set_cons_zero, List.set_cons_succ]
      refine wpAnyH_take (i := 4) (oi := ⟨some 11, _, _, _, _, _⟩) (v := ?_) rfl (by kernel_rfl) (by kernel_rfl) (by kernel_rfl) (fun _ _ _ h => h) (Or.inl ⟨by rfl, ?_⟩) (by assumption) ?_
      rotate_left
      · intro w hSw
        (try dsimp only at hSw)
        go_simp
        all_goals (with_reducible rfl)
      try simp only [Act.put, List.setIfInBounds_toArray, List.set_cons_zero, List.set_cons_succ]
      refine wpAnyH_take (i := 5) (oi := ⟨some 16, _, _, _, _, _⟩) (v := ?_) rfl (by kernel_rfl) (by kernel_rfl) (by kernel_rfl) (fun _ _ _ h => h) (Or.inl ⟨by rfl, ?_⟩) (by assumption) ?_
      rotate_left
      · intro w hSw
        (try dsimp only at hSw)
        go_simp
        all_goals (with_reducible rfl)
      try simp only [Act.put, List.setIfInBounds_toArray, List.set_cons_zero, List.set_cons_succ]
      refine wpAnyH_take (i := 6) (oi := ⟨some 17, _, _, _, _, _⟩) (v := ?_) rfl (by kernel_rfl) (by kernel_rfl) (by kernel_rfl) (fun _ _ _ h => h) (Or.inl ⟨by rfl, ?_⟩) (by assumption) ?_
      rotate_left
      · intro w hSw
        (try dsimp only at hSw)
        go_simp
        all_goals (with_reducible rfl)
      try simp only [Act.put, List.setIfInBounds_toArray, List.set_cons_zero, List.set_cons_succ]
      refine wpAnyH_ready (rs := [7]) (by kernel_rfl) (by simp) ?_
      refine AllReadyH.cons (o := ⟨some 6, _, _, _, _, _⟩) rfl (fun K hK => ?_) AllReadyH.nil
      rw [if_pos (by rfl)]
      refine wp_alloc_row 24 (by rfl) _ _ info_d ?_
      have hA2 := hA.more
      clear hA
      have hA := hA2
      clear hA2
      obtain ⟨H, hH⟩ : ∃ x, w3.heap.size = x := ⟨_, rfl⟩
      rw [hH] at hA ⊢
      clear hH
      generalize w3.alloc (.cells (zeroNums .u8 32).toArray 24) = wx at hA ⊢
      refine hK.out _ _ (hA.base.note) (fun _ => ?_)
      clear hK K
      try simp only [Act.put, List.setIfInBounds_toArray, List.set_cons_zero, List.set_cons_succ]
      refine wpAnyH_ready (rs := [8]) (by kernel_rfl) (by simp) ?_
      refine AllReadyH.cons (o := ⟨none, _, _, _, _, _⟩) rfl (fun K hK => ?_) AllReadyH.nil
      rw [if_pos (by rfl)]
      refine wp_store_row 24 _ _ (by rfl) H E.vs.toArray (by rfl) (by rfl) 24 _ hA.cell (by rw [size_d]; simp [Dg.vs_length]) (by simp [zeroNums, Dg.vs_length]) (Dg.all_one _) ?_
      replace hA := hA.filled E.vs
      generalize World.setRow _ _ _ = wx at hA ⊢
      refine hK.out _ _ (hA.base.note) (fun _ => ?_)
      clear hK K
      try simp only [Act.put]
      refine wpAnyH_take (i := 9) (oi := ⟨some 7, _, _, _, _, _⟩) (v := ?_) rfl (by kernel_rfl) (by kernel_rfl) (by kernel_rfl) (fun _ _ _ h => h) (Or.inl ⟨by rfl, ?_⟩) (by assumption) ?_
      rotate_left
      · intro w hSw
        (try dsimp only at hSw)
        go_simp
        all_goals (with_reducible rfl)
      try simp only [Act.put, List.setIfInBounds_toArray, List.set_cons_zero, List.set_cons_succ]
      refine wpAnyH_done (by kernel_rfl) ?_ _
      refine NoPanic.normal ?_
      have i0 : ((2 : Int) != 0) = true := rfl
      go_wp2_with (first | (refine wpList_build_as (by rfl) 24 _ (by rfl) (zeroNums .u8 32).toArray (by kernel_rfl) ?_) | (refine wpList_store_row (by rfl) 24 _ _ (by rfl) DB (zeroNums .u8 32).toArray (by rfl) (by rfl) 24 _ hA.base.res size_d rfl (all_zeros _ _) ?_) | fail)
      refine bodyPost_ret (results_cell_two rfl _ _ DB 24 _ (0, 0) _ rfl (hA.base.res.row _) Tryd.underlying24 rfl size_d) rfl ⟨rfl, ?_⟩
      exact hA.base.refused
    refine AllReadyH.cons (o := ⟨some 6, _, _, _, _, _⟩) rfl (fun K hK => ?_) AllReadyH.nil
    rw [if_pos (by rfl)]
    refine wp_alloc_row 24 (by rfl) _ _ info_d ?_
    have hA2 := hA.more
    clear hA
    have hA := hA2
    clear hA2
    obtain ⟨H, hH⟩ : ∃ x, w1.heap.size = x := ⟨_, rfl⟩
    rw [hH] at hA ⊢
    clear hH
    generalize w1.alloc (.cells (zeroNums .u8 32).toArray 24) = wx at hA ⊢
    refine hK.out _ _ (hA.base.note) (fun _ => ?_)
    clear hK K
    try simp only [Act.put, List.setIfInBounds_toArray, List.set_cons_zero, List.set_cons_succ]
    refine wpAnyH_ready (rs := [3]) (by kernel_rfl) (by simp) ?_
    refine AllReadyH.cons (o := ⟨some 15, _, _, _, _, _⟩) rfl (fun K hK => ?_) AllReadyH.nil
    go_simp
    refine (HN.out _ hA.base.tab).mono ?_
    rintro e w3 ⟨rfl, hb⟩
    replace hA := hA.on hb
    clear hb
    refine hK.out _ _ (hA.base.note) (fun _ => ?_)
    clear hK K
    try simp only [Act.put, List.setIfInBounds_toArray, List.set_cons_zero, List.set_cons_succ]
    refine wpAnyH_take (i := 4) (oi := ⟨some 11, _, _, _, _, _⟩) (v := ?_) rfl (by kernel_rfl) (by kernel_rfl) (by kernel_rfl) (fun _ _ _ h => h) (Or.inl ⟨by rfl, ?_⟩) (by assumption) ?_
    rotate_left
    · intro w hSw
      (try dsimp only at hSw)
      go_simp
      all_goals (with_reducible rfl)
    try simp only [Act.put, List.setIfInBounds_toArray, List.set_cons_zero, List.set_cons_succ]
    refine wpAnyH_take (i := 5) (oi := ⟨some 16, _, _, _, _, _⟩) (v := ?_) rfl (by kernel_rfl) (by kernel_rfl) (by kernel_rfl) (fun _ _ _ h => h) (Or.inl ⟨by rfl, ?_⟩) (by assumption) ?_
    rotate_left
    · intro w hSw
      (try dsimp only at hSw)
      go_simp
      all_goals (with_reducible rfl)
    try simp only [Act.put, List.setIfInBounds_toArray, List.set_cons_zero, List.set_cons_succ]
    refine wpAnyH_take (i := 6) (oi := ⟨some 17, _, _, _, _, _⟩) (v := ?_) rfl (by kernel_rfl) (by kernel_rfl) (by kernel_rfl) (fun _ _ _ h => h) (Or.inl ⟨by rfl, ?_⟩) (by assumption) ?_
    rotate_left
    · intro w hSw
      (try dsimp only at hSw)
      go_simp
      all_goals (with_reducible rfl)
    try simp only [Act.put, List.setIfInBounds_toArray, List.set_cons_zero, List.set_cons_succ]
    refine wpAnyH_ready (rs := [8]) (by kernel_rfl) (by simp) ?_
    refine AllReadyH.cons (o := ⟨none, _, _, _, _, _⟩) rfl (fun K hK => ?_) AllReadyH.nil
    rw [if_pos (by rfl)]
    refine wp_store_row 24 _ _ (by rfl) H E.vs.toArray (by rfl) (by rfl) 24 _ hA.cell (by rw [size_d]; simp [Dg.vs_length]) (by simp [zeroNums, Dg.vs_length]) (Dg.all_one _) ?_
    replace hA := hA.filled E.vs
    generalize World.setRow _ _ _ = wx at hA ⊢
    refine hK.out _ _ (hA.base.note) (fun _ => ?_)
    clear hK K
    try simp only [Act.put]
    refine wpAnyH_take (i := 9) (oi := ⟨some 7, _, _, _, _, _⟩) (v := ?_) rfl (by kernel_rfl) (by kernel_rfl) (by kernel_rfl) (fun _ _ _ h => h) (Or.inl ⟨by rfl, ?_⟩) (by assumption) ?_
    rotate_left
    · intro w hSw
      (try dsimp only at hSw)
      go_simp
      all_goals (with_reducible rfl)
    try simp only [Act.put, List.setIfInBounds_toArray, List.set_cons_zero, List.set_cons_succ]
    refine wpAnyH_done (by kernel_rfl) ?_ _
    refine NoPanic.normal ?_
    have i0 : ((2 : Int) != 0) = true := rfl
    go_wp2_with (first | (refine wpList_build_as (by rfl) 24 _ (by rfl) (zeroNums .u8 32).toArray (by kernel_rfl) ?_) | (refine wpList_store_row (by rfl) 24 _ _ (by rfl) DB (zeroNums .u8 32).toArray (by rfl) (by rfl) 24 _ hA.base.res size_d rfl (all_zeros _ _) ?_) | fail)
    refine bodyPost_ret (results_cell_two rfl _ _ DB 24 _ (0, 0) _ rfl (hA.base.res.row _) Tryd.underlying24 rfl size_d) rfl ⟨rfl, ?_⟩
    exact hA.base.refused
  refine AllReadyH.cons (o := ⟨some 6, _, _, _, _, _⟩) rfl (fun K hK => ?_) AllReadyH.nil
  rw [if_pos (by rfl)]
  refine wp_alloc_row 24 (by rfl) _ _ info_d ?_
  have hA2 := hA.more
  clear hA
  have hA := hA2
  clear hA2
  obtain ⟨H, hH⟩ : ∃ x, wd.heap.size = x := ⟨_, rfl⟩
  rw [hH] at hA ⊢
  clear hH
  generalize wd.alloc (.cells (zeroNums .u8 32).toArray 24) = wx at hA ⊢
  refine hK.out _ _ (hA.base.note) (fun _ => ?_)
  clear hK K
  try simp only [Act.put, List.setIfInBounds_toArray, List.set_cons_zero, List.set_cons_succ]
  refine wpAnyH_ready (rs := [1]) (by kernel_rfl) (by simp) ?_
  refine AllReadyH.cons (o := ⟨some 13, _, _, _, _, _⟩) rfl (fun K hK => ?_) AllReadyH.nil
  go_simp
  refine (HH.out _ hA.base.tr).mono ?_
  rintro e w1 ⟨rfl, hb⟩
  replace hA := hA.on hb
  clear hb
  refine hK.out _ _ (hA.base.note) (fun _ => ?_)
  clear hK K
  try simp only [Act.put, List.setIfInBounds_toArray, List.set_cons_zero, List.set_cons_succ]
  refine wpAnyH_ready (rs := [3]) (by kernel_rfl) (by simp) ?_
  refine AllReadyH.cons (o := ⟨some 15, _, _, _, _, _⟩) rfl (fun K hK => ?_) AllReadyH.nil
  go_simp
  refine (HN.out _ hA.base.tab).mono ?_
  rintro e w3 ⟨rfl, hb⟩
  replace hA := hA.on hb
  clear hb
  refine hK.out _ _ (hA.base.note) (fun _ => ?_)
  clear hK K
  try simp only [Act.put, List.setIfInBounds_toArray, List.set_cons_zero, List.set_cons_succ]
  refine wpAnyH_take (i := 4) (oi := ⟨some 11, _, _, _, _, _⟩) (v := ?_) rfl (by kernel_rfl) (by kernel_rfl) (by kernel_rfl) (fun _ _ _ h => h) (Or.inl ⟨by rfl, ?_⟩) (by assumption) ?_
  rotate_left
  · intro w hSw
    (try dsimp only at hSw)
    go_simp
    all_goals (with_reducible rfl)
  try simp only [Act.put, List.setIfInBounds_toArray, List.set_cons_zero, List.set_cons_succ]
  refine wpAnyH_take (i := 5) (oi := ⟨some 16, _, _, _, _, _⟩) (v := ?_) rfl (by kernel_rfl) (by kernel_rfl) (by kernel_rfl) (fun _ _ _ h => h) (Or.inl ⟨by rfl, ?_⟩) (by assumption) ?_
  rotate_left
  · intro w hSw
    (try dsimp only at hSw)
    go_simp
    all_goals (with_reducible rfl)
  try simp only [Act.put, List.setIfInBounds_toArray, List.set_cons_zero, List.set_cons_succ]
  refine wpAnyH_take (i := 6) (oi := ⟨some 17, _, _, _, _, _⟩) (v := ?_) rfl (by kernel_rfl) (by kernel_rfl) (by kernel_rfl) (fun _ _ _ h => h) (Or.inl ⟨by rfl, ?_⟩) (by assumption) ?_
  rotate_left
  · intro w hSw
    (try dsimp only at hSw)
    go_simp
    all_goals (with_reducible rfl)
  try simp only [Act.put, List.setIfInBounds_toArray, List.set_cons_zero, List.set_cons_succ]
  refine wpAnyH_ready (rs := [8]) (by kernel_rfl) (by simp) ?_
  refine AllReadyH.cons (o := ⟨none, _, _, _, _, _⟩) rfl (fun K hK => ?_) AllReadyH.nil
  rw [if_pos (by rfl)]
  refine wp_store_row 24 _ _ (by rfl) H E.vs.toArray (by rfl) (by rfl) 24 _ hA.cell (by rw [size_d]; simp [Dg.vs_length]) (by simp [zeroNums, Dg.vs_length]) (Dg.all_one _) ?_
  replace hA := hA.filled E.vs
  generalize World.setRow _ _ _ = wx at hA ⊢
  refine hK.out _ _ (hA.base.note) (fun _ => ?_)
  clear hK K
  try simp only [Act.put]
  refine wpAnyH_take (i := 9) (oi := ⟨some 7, _, _, _, _, _⟩) (v := ?_) rfl (by kernel_rfl) (by kernel_rfl) (by kernel_rfl) (fun _ _ _ h => h) (Or.inl ⟨by rfl, ?_⟩) (by assumption) ?_
  rotate_left
  · intro w hSw
    (try dsimp only at hSw)
    go_simp
    all_goals (with_reducible rfl)
  try simp only [Act.put, List.setIfInBounds_toArray, List.set_cons_zero, List.set_cons_succ]
  refine wpAnyH_done (by kernel_rfl) ?_ _
  refine NoPanic.normal ?_
  have i0 : ((2 : Int) != 0) = true := rfl
  go_wp2_with (first | (refine wpList_build_as (by rfl) 24 _ (by rfl) (zeroNums .u8 32).toArray (by kernel_rfl) ?_) | (refine wpList_store_row (by rfl) 24 _ _ (by rfl) DB (zeroNums .u8 32).toArray (by rfl) (by rfl) 24 _ hA.base.res size_d rfl (all_zeros _ _) ?_) | fail)
  refine bodyPost_ret (results_cell_two rfl _ _ DB 24 _ (0, 0) _ rfl (hA.base.res.row _) Tryd.underlying24 rfl size_d) rfl ⟨rfl, ?_⟩
  exact hA.base.refused

/-- The notes behind a note: it stays if it may be. -/
def addP (ns : List Nt) (n : Nt) : List Nt := if nextOk n = true then ns ++ [n] else ns
theorem addP_len (ns : List Nt) (n : Nt) : (addP ns n).length ≤ ns.length + 1 := by
  unfold addP
  split
  · simp
  · omega
theorem addP_ok {ns : List Nt} (n : Nt) (h : ∀ m ∈ ns, nextOk m = true) : ∀ m ∈ addP ns n, nextOk m = true := by
  unfold addP
  split
  · rename_i hn
    intro m hm
    rcases List.mem_append.1 hm with hm | hm
    · exact h m hm
    · simp at hm
      rw [hm]
      exact hn
  · exact h
theorem tadd_calls (W w : World) (tb : Nat) (lv : Value) (ns : List Nt) (n : Nt) (h : TrP W w tb lv ns) (hK : KTab w) (hlen : ns.length ≤ 1000) :
    Calls Tryd.prog 9 #[.pointer (some ⟨tb, 0, none⟩), .agg n.cells.toArray] w fun e w' => e = .returned (.tuple #[.agg (nextE (headG ns) n).vs.toArray, .int .i64 (nextC n)]) ∧ AddEnd W w w' tb lv (addP ns n) := by
  obtain ⟨p, c, rfl⟩ := h.shape
  have hN := fun w' (hK' : KTab w') => next_dg w' (headG ns) n hK'
  unfold nextE nextC at hN ⊢
  unfold addP
  by_cases hok : nextOk n = true
  · simp only [if_pos hok] at hN ⊢
    exact tadd_good W w tb c p ns n _ rfl h hK hlen (Lib.hid hN)
  · simp only [if_neg hok] at hN ⊢
    rw [zeroG_vs]
    exact tadd_bad W w tb c p ns n zeroG h hK hlen (Lib.hid hN)

end Go.Proofs.YtglcingpolpkdaaDoor
