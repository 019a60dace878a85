/- One more note is appended to the reference's list. -/
import Derived.Test.YtglcingpolpkdaaDoorRHead
namespace Go.Proofs.YtglcingpolpkdaaDoor
open Go.RowKit

theorem SrcG.grown {α : Type} {f : α → List Value} {n : Nat} {w w' : World} {v : Value} {l : List α} {row : Option Nat} (h : SrcG f n w v l) (hG : w.grownBy w' row) (hv : ∀ g, v.ownBlock = some g → some g ≠ row) : SrcG f n w' v l := by
  rcases h with h | ⟨g, c, rfl, hg, hc⟩
  · exact .inl h
  · exact .inr ⟨g, c, rfl, Nat.lt_of_lt_of_le hg hG.size, fun i a ha j u hj => (World.cell?_of_block (a := ⟨g, i * n + j, none⟩) (hG.block g hg (hv g rfl))).trans (hc i a ha j u hj)⟩
theorem SrcG.far {α : Type} {f : α → List Value} {n g k c x : Nat} {w w' : World} {l : List α} (h : SrcG f n w (.slice (some ⟨g, 0, none⟩) k c) l) (hG : w.grownBy w' (some x)) (hne : g ≠ x) : SrcG f n w' (.slice (some ⟨g, 0, none⟩) k c) l :=
  h.grown hG fun y hy e => hne (by
    have h1 : g = y := by simpa [Value.ownBlock] using hy
    injection e with e
    omega)
theorem Only.more {w0 w w' : World} {S : Nat → Prop} (h : Only w0 w S) (hb : Below w.heap.size w w') : Only w0 w' S :=
  (h.trans (Only.of_below hb fun _ => False)).weak fun _ _ hs => hs.elim id False.elim
/-- What the reference's Add works on. -/
structure RAddIn (W w0 w : World) (rb : Nat) (rv : Value) (ns : List Nt) (NB DB : Nat) (n : Nt) : Prop where
  tr : TrR W w rb rv ns
  note : Whole w NB 36 n.cells
  res : Whole w DB 24 (zeroNums .u8 32)
  tab : KTab w
  below : Below w0.heap.size w0 w
  new : w0.heap.size ≤ DB
  old : W.heap.size ≤ w0.heap.size ∧ 0 < W.heap.size
theorem RAddIn.on {W w0 w w' : World} {rb : Nat} {rv : Value} {ns : List Nt} {NB DB : Nat} {n : Nt} (h : RAddIn W w0 w rb rv ns NB DB n) (hb : Below w.heap.size w w') : RAddIn W w0 w' rb rv ns NB DB n :=
  ⟨h.tr.on hb, h.note.below hb h.note.lt, h.res.below hb h.res.lt, h.tab.below hb h.tab.1, h.below.trans (hb.mono h.below.size), h.new, h.old⟩
/-- All that it works on lies below a world's end. -/
theorem RAddIn.far {W w0 w : World} {rb : Nat} {rv : Value} {ns : List Nt} {NB DB : Nat} {n : Nt} (h : RAddIn W w0 w rb rv ns NB DB n) (w' : World) (e : w'.heap.size = w.heap.size := by rfl) :
    rb ≠ w'.heap.size ∧ (∀ g, rv.ownBlock = some g → g ≠ w'.heap.size) ∧ NB ≠ w'.heap.size ∧ DB ≠ w'.heap.size ∧ w0.heap.size ≤ w'.heap.size := by
  rw [e]
  exact ⟨Nat.ne_of_lt h.tr.box.lt, fun g hg => Nat.ne_of_lt (row_lt h.tr.row hg), Nat.ne_of_lt h.note.lt, Nat.ne_of_lt h.res.lt, h.below.size⟩
theorem RAddIn.over {W w0 w w' : World} {rb : Nat} {rv : Value} {ns : List Nt} {NB DB : Nat} {n : Nt} {S : Nat → Prop} (h : RAddIn W w0 w rb rv ns NB DB n) (ho : Only w w' S) (hs : ∀ i, S i → rb ≠ i ∧ (∀ g, rv.ownBlock = some g → g ≠ i) ∧ NB ≠ i ∧ DB ≠ i ∧ w0.heap.size ≤ i) : RAddIn W w0 w' rb rv ns NB DB n := by
  have ho2 := h.old
  refine ⟨h.tr.only ho (fun s => (hs _ s).1 rfl) (fun g hg s => (hs _ s).2.1 g hg rfl) (fun i _ s => Nat.le_trans h.old.1 (hs i s).2.2.2.2), h.note.only ho (fun s => (hs _ s).2.2.1 rfl), h.res.only ho (fun s => (hs _ s).2.2.2.1 rfl), ?_, h.below.trans (ho.below h.below.size fun i _ s => (hs i s).2.2.2.2), h.new, h.old⟩
  refine ⟨Nat.lt_of_lt_of_le h.tab.1 ho.size, fun i x hx => (World.cell?_of_block (a := ⟨0, i, none⟩) (ho.block 0 h.tab.1 fun s => ?_)).trans (h.tab.2 i x hx)⟩
  have := (hs 0 s).2.2.2.2
  omega
theorem RAddIn.start {W w : World} {rb : Nat} {rv : Value} {ns : List Nt} (n : Nt) (h : TrR W w rb rv ns) (hK : KTab w) (h0 : 0 < W.heap.size) : RAddIn W w ((w.alloc (.cells n.cells.toArray 36)).alloc (.cells (zeroNums .u8 32).toArray 24)) rb rv ns w.heap.size (w.heap.size + 1) n := by
  have b1 : Below w.heap.size w (w.alloc (.cells n.cells.toArray 36)) := (Below.refl _ _).alloc (Nat.le_refl _) _
  have h1 := Whole.new w 36 n.cells.toArray
  have s1 : (w.alloc (.cells n.cells.toArray 36)).heap.size = w.heap.size + 1 := by simp
  generalize w.alloc (.cells n.cells.toArray 36) = w1 at b1 h1 s1 ⊢
  have b2 : Below w1.heap.size w1 (w1.alloc (.cells (zeroNums .u8 32).toArray 24)) := (Below.refl _ _).alloc (Nat.le_refl _) _
  have h2 := Whole.new w1 24 (zeroNums .u8 32).toArray
  rw [s1] at h2
  have b12 := b1.trans (b2.mono b1.size)
  exact ⟨h.on b12, by simpa using h1.below b2 h1.lt, by simpa using h2, hK.below b12 hK.1, b12, by omega, h.below.size, h0⟩
theorem RAddIn.added {W w0 w w9 : World} {rb NB DB k9 y9 : Nat} {rv : Value} {x9 : Option Addr} {ns : List Nt} {n : Nt} (h : RAddIn W w0 w rb rv ns NB DB n) (hb : Below w.heap.size w w9)
    (hO : w9.ownsRow w.heap.size 36 6 (.slice x9 k9 y9) ([] ++ ns ++ [n]).length (([] ++ ns ++ [n]).flatMap Nt.cells)) :
    TrR W (w9.setCell ⟨rb, 0, none⟩ (.slice x9 k9 y9)) rb (.slice x9 k9 y9) (ns ++ [n]) ∧ Whole (w9.setCell ⟨rb, 0, none⟩ (.slice x9 k9 y9)) DB 24 (zeroNums .u8 32) ∧ KTab (w9.setCell ⟨rb, 0, none⟩ (.slice x9 k9 y9)) ∧ Only w0 (w9.setCell ⟨rb, 0, none⟩ (.slice x9 k9 y9)) fun i => i = rb := by
  have h9 := h.on hb
  have hT9 := h9.tr.box
  have hS := Only.set w9 ⟨rb, 0, none⟩ (.slice x9 k9 y9)
  have hw := h.old.1
  have hnew := h.tr.new
  have hz : rb ≠ 0 := by have := h.old.2; omega
  refine ⟨⟨hT9.put 0 _, row_only (own_down h.tr.below.size hO) hS fun g hg (e : g = rb) => row_ne_whole hO hT9 (by decide) (e ▸ hg), h.tr.new, ?_⟩, h9.res.far (whole_ne h9.res hT9 (by decide)) _, ?_, ((Only.of_below h9.below fun _ => False).trans hS).weak fun i _ hs => hs.elim False.elim id⟩
  · exact h9.tr.below.setCell h.tr.new _
  · exact h9.tab.grown (grown_set (World.grownBy.refl _ (some rb)) (.inl rfl) _) (fun e => hz (by injection e))

/-- What the reference's Add leaves. -/
def RAddEnd (W w w' : World) (rb : Nat) (ns : List Nt) : Prop := ∃ rv', TrR W w' rb rv' ns ∧ Only w w' fun i => i = rb

noncomputable def raddAppend : Code := subCode [1, 1, 1, 1, 0] ((Tryd.f10.body).getD .skip)

set_option maxRecDepth 100000 in
set_option maxHeartbeats 2000000 in
theorem radd_append {z1 z2 z5 z6 z7 z8 z9 z10 z11 z12 z13 z14 z15 z16 z17 z18 z19 z20 z21 z22 z23 z24 z25 z26 z27 z28 z29 z30 z31 z32 z33 z34 z35 z36 z37 z38 z39 z40 z41 z42 z43 : Value} {W w wx : World} {rb c NB DB : Nat} {p : Option Addr} {ns : List Nt} {n : Nt} (hlen : ns.length ≤ 900) (hA : RAddIn W w wx rb (.slice p ns.length c) ns NB DB n) {Q : Exit → Act → World → Prop}
    (hq : ∀ (y25 y26 y27 y28 y29 y30 y31 y32 y33 y34 y35 y36 : Value) (wz : World) (v9 : Value), TrR W wz rb v9 (ns ++ [n]) → Whole wz DB 24 (zeroNums .u8 32) → KTab wz → (Only w wz fun i => i = rb) → Q .normal ⟨(.pointer (some ⟨rb, 0, none⟩) :: z1 :: z2 :: .pointer (some ⟨NB, 0, none⟩) :: .pointer (some ⟨DB, 0, none⟩) :: z5 :: z6 :: z7 :: z8 :: z9 :: z10 :: z11 :: z12 :: z13 :: z14 :: z15 :: z16 :: z17 :: z18 :: z19 :: z20 :: z21 :: z22 :: z23 :: z24 :: y25 :: y26 :: y27 :: y28 :: y29 :: y30 :: y31 :: y32 :: y33 :: y34 :: y35 :: y36 :: z37 :: z38 :: z39 :: z40 :: z41 :: z42 :: z43 :: []).toArray, []⟩ wz) : Code.wp Tryd.prog raddAppend Q ⟨(.pointer (some ⟨rb, 0, none⟩) :: z1 :: z2 :: .pointer (some ⟨NB, 0, none⟩) :: .pointer (some ⟨DB, 0, none⟩) :: z5 :: z6 :: z7 :: z8 :: z9 :: z10 :: z11 :: z12 :: z13 :: z14 :: z15 :: z16 :: z17 :: z18 :: z19 :: z20 :: z21 :: z22 :: z23 :: z24 :: z25 :: z26 :: z27 :: z28 :: z29 :: z30 :: z31 :: z32 :: z33 :: z34 :: z35 :: z36 :: z37 :: z38 :: z39 :: z40 :: z41 :: z42 :: z43 :: []).toArray, []⟩ wx := by
  conv => arg 2; whnf
  have HQ := Lib.hid hq
  clear hq
  refine wp_region_noPanic ?_
  refine wp_region_held_drew (S := fun w' => Whole w' NB 36 n.cells) (by kernel_rfl) (hA.note.drew) (fun hhS => ?_)
  replace hA := hA.on ((Below.refl wx.heap.size wx).drew)
  clear hhS
  generalize wx.drew = wd at hA ⊢
  have hhS : Whole wd NB 36 n.cells := hA.note
  have hb : Below wd.heap.size wd wd := Below.refl _ _
  obtain ⟨B0, HB0⟩ : ∃ x, Hid (x = wd.heap.size) := ⟨_, rfl⟩
  refine wpAnyH_take (i := 0) (oi := ⟨some 25, _, _, _, _, _⟩) (v := ?_) rfl (by kernel_rfl) (by kernel_rfl) (by kernel_rfl) (fun _ _ _ h => h) (Or.inl ⟨by rfl, ?_⟩) (by assumption) ?_
  rotate_left
  · intro w hSw
    (try dsimp only at hSw)
    go_simp
    all_goals (with_reducible rfl)
  try simp only [Act.put, List.setIfInBounds_toArray, List.set_cons_zero, List.set_cons_succ]
  refine wpAnyH_take (i := 2) (oi := ⟨some 27, _, _, _, _, _⟩) (v := ?_) rfl (by kernel_rfl) (by kernel_rfl) (by kernel_rfl) (fun _ _ _ h => h) (Or.inl ⟨by rfl, ?_⟩) (by assumption) ?_
  rotate_left
  · intro w hSw
    (try dsimp only at hSw)
    go_simp
    all_goals (with_reducible rfl)
  try simp only [Act.put, List.setIfInBounds_toArray, List.set_cons_zero, List.set_cons_succ]
  refine wpAnyH_take (i := 3) (oi := ⟨some 28, _, _, _, _, _⟩) (v := ?_) rfl (by kernel_rfl) (by kernel_rfl) (by kernel_rfl) (fun _ _ _ h => h) (Or.inl ⟨by rfl, ?_⟩) (by assumption) ?_
  rotate_left
  · intro w hSw
    (try dsimp only at hSw)
    go_simp
    all_goals (with_reducible rfl)
  try simp only [Act.put, List.setIfInBounds_toArray, List.set_cons_zero, List.set_cons_succ]
  refine wpAnyH_take (i := 4) (oi := ⟨some 29, _, _, _, _, _⟩) (v := ?_) rfl (by kernel_rfl) (by kernel_rfl) (by kernel_rfl) (fun _ _ _ h => h) (Or.inl ⟨by rfl, ?_⟩) (by assumption) ?_
  rotate_left
  · intro w hSw
    (try dsimp only at hSw)
    go_simp
    all_goals (with_reducible rfl)
  try simp only [Act.put, List.setIfInBounds_toArray, List.set_cons_zero, List.set_cons_succ]
  refine wpAnyH_take (i := 7) (oi := ⟨some 32, _, _, _, _, _⟩) (v := _) rfl (by kernel_rfl) (by kernel_rfl) (by kernel_rfl) (fun _ _ _ h => h) (yieldsIf_load_mid (by rfl) _ _ rfl NB 0 (by rfl) (n.cells) _ (fun w hSw => whole_rangeG hSw) Tryd.underlying36 rfl (by rw [size_n]; rfl)) (by assumption) ?_
  try simp only [Act.put, List.setIfInBounds_toArray, List.set_cons_zero, List.set_cons_succ]
  refine wpAnyH_ready (rs := [1, 5, 8]) (by kernel_rfl) (by simp) ?_
  refine AllReadyH.cons (o := ⟨some 26, _, _, _, _, _⟩) rfl (fun K hK => ?_) ?_
  · go_simp
    have hE := own_down (B := B0) (Nat.le_trans (Nat.le_of_eq HB0.out) hb.size) (own_empty (α := Nt) (f := Nt.cells) (n := 6) wd 36)
    have b1 : Below wd.heap.size wd (wd.alloc (.cells #[] 36)) := (Below.refl _ _).alloc (Nat.le_refl _) _
    replace hb := hb.trans (b1.mono hb.size)
    clear b1
    obtain ⟨X, hX⟩ : ∃ x, wd.heap.size = x := ⟨_, rfl⟩
    rw [hX] at hE ⊢
    have hX1 : X < (wd.alloc (.cells #[] 36)).heap.size := by simp [hX]
    clear hX
    generalize wd.alloc (.cells #[] 36) = w1 at hE hb hX1 ⊢
    refine hK.out _ _ (hA.note.below hb hA.note.lt) (fun _ => ?_)
    clear hK K
    try simp only [Act.put, List.setIfInBounds_toArray, List.set_cons_zero, List.set_cons_succ]
    refine wpAnyH_ready (rs := [5, 8]) (by kernel_rfl) (by simp) ?_
    refine AllReadyH.cons (o := ⟨some 30, _, _, _, _, _⟩) rfl (fun K hK => ?_) ?_
    · have c0 := (hA.tr.on hb).box.cell 0
      go_simp
      clear c0
      refine hK.out _ _ (hA.note.below hb hA.note.lt) (fun _ => ?_)
      clear hK K
      try simp only [Act.put, List.setIfInBounds_toArray, List.set_cons_zero, List.set_cons_succ]
      refine wpAnyH_ready (rs := [6, 8]) (by kernel_rfl) (by simp) ?_
      refine AllReadyH.cons (o := ⟨some 31, _, _, _, _, _⟩) rfl (fun K hK => ?_) ?_
      · rw [if_pos (by rfl)]
        refine wp_append_gen (f := Nt.cells) (n := 6) _ _ 22 36 (by rfl) _ 72 Tryd.underlying22 info_note rfl (by decide) (by decide) Nt.cells_length B0 _ _ [] ns (by rfl) hE (by rfl) (src_of_own Nt.cells_length (hA.tr.on hb).row) (fun b _ => note_ones b) (by simp; omega) (Nat.le_trans (Nat.le_of_eq HB0.out) hb.size) ?_
        intro v6 w6 hO6 hG6 _
        replace hb := hb.grown hG6 hb.size (fun k hk => Nat.le_trans (Nat.le_of_eq HB0.out.symm) (own_ge hE hk))
        obtain ⟨x6, k6, y6, he6⟩ := slice_any hO6
        subst he6
        clear hE hG6
        refine hK.out _ _ (hA.note.below hb hA.note.lt) (fun _ => ?_)
        clear hK K
        try simp only [Act.put, List.setIfInBounds_toArray, List.set_cons_zero, List.set_cons_succ]
        refine wpAnyH_ready (rs := [8]) (by kernel_rfl) (by simp) ?_
        refine AllReadyH.cons (o := ⟨some 33, _, _, _, _, _⟩) rfl (fun K hK => ?_) AllReadyH.nil
        rw [if_pos (by rfl)]
        refine wp_build_one 22 36 _ (by rfl) n.cells _ 6 72 Tryd.underlying22 info_note (Nt.cells_length _) (by decide) (by decide) (by rfl) ?_
        have hU := src_new (f := Nt.cells) (n := 6) w6 36 n
        have b8 : Below w6.heap.size w6 (w6.alloc (.cells n.cells.toArray 36)) := (Below.refl _ _).alloc (Nat.le_refl _) _
        replace hb := hb.trans (b8.mono hb.size)
        have hY : w6.heap.size < (w6.alloc (.cells n.cells.toArray 36)).heap.size := by simp
        replace hO6 := row_low hO6 b8
        clear b8
        obtain ⟨Y, hYe⟩ : ∃ x, w6.heap.size = x := ⟨_, rfl⟩
        rw [hYe] at hU hY ⊢
        clear hYe
        generalize w6.alloc (.cells n.cells.toArray 36) = w8 at hU hb hY hO6 ⊢
        refine hK.out _ _ (hA.note.below hb hA.note.lt) (fun _ => ?_)
        clear hK K
        try simp only [Act.put, List.setIfInBounds_toArray, List.set_cons_zero, List.set_cons_succ]
        refine wpAnyH_ready (rs := [9]) (by kernel_rfl) (by simp) ?_
        refine AllReadyH.cons (o := ⟨some 34, _, _, _, _, _⟩) rfl (fun K hK => ?_) AllReadyH.nil
        rw [if_pos (by rfl)]
        refine wp_append_gen (f := Nt.cells) (n := 6) _ _ 22 36 (by rfl) _ 72 Tryd.underlying22 info_note rfl (by decide) (by decide) Nt.cells_length B0 _ _ ([] ++ ns) [n] (by rfl) hO6 (by rfl) hU (fun b _ => note_ones b) (by simp; omega) (Nat.le_trans (Nat.le_of_eq HB0.out) hb.size) ?_
        intro v9 w9 hO9 hG9 _
        replace hb := hb.grown hG9 hb.size (fun k hk => Nat.le_trans (Nat.le_of_eq HB0.out.symm) (own_ge hO6 hk))
        obtain ⟨x9, k9, y9, he9⟩ := slice_any hO9
        subst he9
        clear hO6 hG9 hU
        have c6 := (hA.tr.on hb).box.cell 0
        have c7 := (hA.tr.on hb).box.free 0
        refine hK.out _ _ (hA.note.below hb hA.note.lt) (fun _ => ?_)
        clear hK K
        try simp only [Act.put, List.setIfInBounds_toArray, List.set_cons_zero, List.set_cons_succ]
        refine wpAnyH_take (i := 10) (oi := ⟨some 35, _, _, _, _, _⟩) (v := ?_) rfl (by kernel_rfl) (by kernel_rfl) (by kernel_rfl) (fun _ _ _ h => h) (Or.inl ⟨by rfl, ?_⟩) (by assumption) ?_
        rotate_left
        · intro w hSw
          (try dsimp only at hSw)
          go_simp
          all_goals (with_reducible rfl)
        try simp only [Act.put, List.setIfInBounds_toArray, List.set_cons_zero, List.set_cons_succ]
        refine wpAnyH_take (i := 11) (oi := ⟨some 36, _, _, _, _, _⟩) (v := ?_) rfl (by kernel_rfl) (by kernel_rfl) (by kernel_rfl) (fun _ _ _ h => h) (Or.inl ⟨by rfl, ?_⟩) (by assumption) ?_
        rotate_left
        · intro w hSw
          (try dsimp only at hSw)
          go_simp
          all_goals (with_reducible rfl)
        try simp only [Act.put, List.setIfInBounds_toArray, List.set_cons_zero, List.set_cons_succ]
        refine wpAnyH_ready (rs := [12]) (by kernel_rfl) (by simp) ?_
        refine AllReadyH.cons (o := ⟨none, _, _, _, _, _⟩) rfl (fun K hK => ?_) AllReadyH.nil
        go_simp
        refine hK.out _ _ ((hA.note.below hb hA.note.lt).far (whole_ne (hA.note.below hb hA.note.lt) (hA.tr.on hb).box (by decide)) _) (fun _ => ?_)
        clear hK K
        try simp only [Act.put]
        refine wpAnyH_done (by kernel_rfl) ?_ _
        refine NoPanic.normal ?_
        obtain ⟨hTz, hDz, hKz, hOz⟩ := hA.added hb (own_down (Nat.le_of_eq HB0.out.symm) hO9)
        exact HQ.out _ _ _ _ _ _ _ _ _ _ _ _ _ _ hTz hDz hKz hOz
      refine AllReadyH.cons (o := ⟨some 33, _, _, _, _, _⟩) rfl (fun K hK => ?_) AllReadyH.nil
      rw [if_pos (by rfl)]
      refine wp_build_one 22 36 _ (by rfl) n.cells _ 6 72 Tryd.underlying22 info_note (Nt.cells_length _) (by decide) (by decide) (by rfl) ?_
      have hU := src_new (f := Nt.cells) (n := 6) w1 36 n
      have b8 : Below w1.heap.size w1 (w1.alloc (.cells n.cells.toArray 36)) := (Below.refl _ _).alloc (Nat.le_refl _) _
      replace hb := hb.trans (b8.mono hb.size)
      have hY : w1.heap.size < (w1.alloc (.cells n.cells.toArray 36)).heap.size := by simp
      have hXY := Nat.ne_of_gt hX1
      replace hE := row_low hE b8
      clear b8
      obtain ⟨Y, hYe⟩ : ∃ x, w1.heap.size = x := ⟨_, rfl⟩
      rw [hYe] at hU hY hXY ⊢
      clear hYe
      generalize w1.alloc (.cells n.cells.toArray 36) = w8 at hU hb hY hE ⊢
      refine hK.out _ _ (hA.note.below hb hA.note.lt) (fun _ => ?_)
      clear hK K
      try simp only [Act.put, List.setIfInBounds_toArray, List.set_cons_zero, List.set_cons_succ]
      refine wpAnyH_ready (rs := [6]) (by kernel_rfl) (by simp) ?_
      refine AllReadyH.cons (o := ⟨some 31, _, _, _, _, _⟩) rfl (fun K hK => ?_) AllReadyH.nil
      rw [if_pos (by rfl)]
      refine wp_append_gen (f := Nt.cells) (n := 6) _ _ 22 36 (by rfl) _ 72 Tryd.underlying22 info_note rfl (by decide) (by decide) Nt.cells_length B0 _ _ [] ns (by rfl) hE (by rfl) (src_of_own Nt.cells_length (hA.tr.on hb).row) (fun b _ => note_ones b) (by simp; omega) (Nat.le_trans (Nat.le_of_eq HB0.out) hb.size) ?_
      intro v6 w6 hO6 hG6 _
      replace hU := hU.far hG6 hXY
      replace hY := Nat.lt_of_lt_of_le hY hG6.size
      replace hb := hb.grown hG6 hb.size (fun k hk => Nat.le_trans (Nat.le_of_eq HB0.out.symm) (own_ge hE hk))
      obtain ⟨x6, k6, y6, he6⟩ := slice_any hO6
      subst he6
      clear hE hG6
      refine hK.out _ _ (hA.note.below hb hA.note.lt) (fun _ => ?_)
      clear hK K
      try simp only [Act.put, List.setIfInBounds_toArray, List.set_cons_zero, List.set_cons_succ]
      refine wpAnyH_ready (rs := [9]) (by kernel_rfl) (by simp) ?_
      refine AllReadyH.cons (o := ⟨some 34, _, _, _, _, _⟩) rfl (fun K hK => ?_) AllReadyH.nil
      rw [if_pos (by rfl)]
      refine wp_append_gen (f := Nt.cells) (n := 6) _ _ 22 36 (by rfl) _ 72 Tryd.underlying22 info_note rfl (by decide) (by decide) Nt.cells_length B0 _ _ ([] ++ ns) [n] (by rfl) hO6 (by rfl) hU (fun b _ => note_ones b) (by simp; omega) (Nat.le_trans (Nat.le_of_eq HB0.out) hb.size) ?_
      intro v9 w9 hO9 hG9 _
      replace hb := hb.grown hG9 hb.size (fun k hk => Nat.le_trans (Nat.le_of_eq HB0.out.symm) (own_ge hO6 hk))
      obtain ⟨x9, k9, y9, he9⟩ := slice_any hO9
      subst he9
      clear hO6 hG9 hU
      have c6 := (hA.tr.on hb).box.cell 0
      have c7 := (hA.tr.on hb).box.free 0
      refine hK.out _ _ (hA.note.below hb hA.note.lt) (fun _ => ?_)
      clear hK K
      try simp only [Act.put, List.setIfInBounds_toArray, List.set_cons_zero, List.set_cons_succ]
      refine wpAnyH_take (i := 10) (oi := ⟨some 35, _, _, _, _, _⟩) (v := ?_) rfl (by kernel_rfl) (by kernel_rfl) (by kernel_rfl) (fun _ _ _ h => h) (Or.inl ⟨by rfl, ?_⟩) (by assumption) ?_
      rotate_left
      · intro w hSw
        (try dsimp only at hSw)
        go_simp
        all_goals (with_reducible rfl)
      try simp only [Act.put, List.setIfInBounds_toArray, List.set_cons_zero, List.set_cons_succ]
      refine wpAnyH_take (i := 11) (oi := ⟨some 36, _, _, _, _, _⟩) (v := ?_) rfl (by kernel_rfl) (by kernel_rfl) (by kernel_rfl) (fun _ _ _ h => h) (Or.inl ⟨by rfl, ?_⟩) (by assumption) ?_
      rotate_left
      · intro w hSw
        (try dsimp only at hSw)
        go_simp
        all_goals (with_reducible rfl)
      try simp only [Act.put, List.setIfInBounds_toArray, List.set_cons_zero, List.set_cons_succ]
      refine wpAnyH_ready (rs := [12]) (by kernel_rfl) (by simp) ?_
      refine AllReadyH.cons (o := ⟨none, _, _, _, _, _⟩) rfl (fun K hK => ?_) AllReadyH.nil
      go_simp
      refine hK.out _ _ ((hA.note.below hb hA.note.lt).far (whole_ne (hA.note.below hb hA.note.lt) (hA.tr.on hb).box (by decide)) _) (fun _ => ?_)
      clear hK K
      try simp only [Act.put]
      refine wpAnyH_done (by kernel_rfl) ?_ _
      refine NoPanic.normal ?_
      obtain ⟨hTz, hDz, hKz, hOz⟩ := hA.added hb (own_down (Nat.le_of_eq HB0.out.symm) hO9)
      exact HQ.out _ _ _ _ _ _ _ _ _ _ _ _ _ _ hTz hDz hKz hOz
    refine AllReadyH.cons (o := ⟨some 33, _, _, _, _, _⟩) rfl (fun K hK => ?_) AllReadyH.nil
    rw [if_pos (by rfl)]
    refine wp_build_one 22 36 _ (by rfl) n.cells _ 6 72 Tryd.underlying22 info_note (Nt.cells_length _) (by decide) (by decide) (by rfl) ?_
    have hU := src_new (f := Nt.cells) (n := 6) w1 36 n
    have b8 : Below w1.heap.size w1 (w1.alloc (.cells n.cells.toArray 36)) := (Below.refl _ _).alloc (Nat.le_refl _) _
    replace hb := hb.trans (b8.mono hb.size)
    have hY : w1.heap.size < (w1.alloc (.cells n.cells.toArray 36)).heap.size := by simp
    have hXY := Nat.ne_of_gt hX1
    replace hE := row_low hE b8
    clear b8
    obtain ⟨Y, hYe⟩ : ∃ x, w1.heap.size = x := ⟨_, rfl⟩
    rw [hYe] at hU hY hXY ⊢
    clear hYe
    generalize w1.alloc (.cells n.cells.toArray 36) = w8 at hU hb hY hE ⊢
    refine hK.out _ _ (hA.note.below hb hA.note.lt) (fun _ => ?_)
    clear hK K
    try simp only [Act.put, List.setIfInBounds_toArray, List.set_cons_zero, List.set_cons_succ]
    refine wpAnyH_ready (rs := [5]) (by kernel_rfl) (by simp) ?_
    refine AllReadyH.cons (o := ⟨some 30, _, _, _, _, _⟩) rfl (fun K hK => ?_) AllReadyH.nil
    have c0 := (hA.tr.on hb).box.cell 0
    go_simp
    clear c0
    refine hK.out _ _ (hA.note.below hb hA.note.lt) (fun _ => ?_)
    clear hK K
    try simp only [Act.put, List.setIfInBounds_toArray, List.set_cons_zero, List.set_cons_succ]
    refine wpAnyH_ready (rs := [6]) (by kernel_rfl) (by simp) ?_
    refine AllReadyH.cons (o := ⟨some 31, _, _, _, _, _⟩) rfl (fun K hK => ?_) AllReadyH.nil
    rw [if_pos (by rfl)]
    refine wp_append_gen (f := Nt.cells) (n := 6) _ _ 22 36 (by rfl) _ 72 Tryd.underlying22 info_note rfl (by decide) (by decide) Nt.cells_length B0 _ _ [] ns (by rfl) hE (by rfl) (src_of_own Nt.cells_length (hA.tr.on hb).row) (fun b _ => note_ones b) (by simp; omega) (Nat.le_trans (Nat.le_of_eq HB0.out) hb.size) ?_
    intro v6 w6 hO6 hG6 _
    replace hU := hU.far hG6 hXY
    replace hY := Nat.lt_of_lt_of_le hY hG6.size
    replace hb := hb.grown hG6 hb.size (fun k hk => Nat.le_trans (Nat.le_of_eq HB0.out.symm) (own_ge hE hk))
    obtain ⟨x6, k6, y6, he6⟩ := slice_any hO6
    subst he6
    clear hE hG6
    refine hK.out _ _ (hA.note.below hb hA.note.lt) (fun _ => ?_)
    clear hK K
    try simp only [Act.put, List.setIfInBounds_toArray, List.set_cons_zero, List.set_cons_succ]
    refine wpAnyH_ready (rs := [9]) (by kernel_rfl) (by simp) ?_
    refine AllReadyH.cons (o := ⟨some 34, _, _, _, _, _⟩) rfl (fun K hK => ?_) AllReadyH.nil
    rw [if_pos (by rfl)]
    refine wp_append_gen (f := Nt.cells) (n := 6) _ _ 22 36 (by rfl) _ 72 Tryd.underlying22 info_note rfl (by decide) (by decide) Nt.cells_length B0 _ _ ([] ++ ns) [n] (by rfl) hO6 (by rfl) hU (fun b _ => note_ones b) (by simp; omega) (Nat.le_trans (Nat.le_of_eq HB0.out) hb.size) ?_
    intro v9 w9 hO9 hG9 _
    replace hb := hb.grown hG9 hb.size (fun k hk => Nat.le_trans (Nat.le_of_eq HB0.out.symm) (own_ge hO6 hk))
    obtain ⟨x9, k9, y9, he9⟩ := slice_any hO9
    subst he9
    clear hO6 hG9 hU
    have c6 := (hA.tr.on hb).box.cell 0
    have c7 := (hA.tr.on hb).box.free 0
    refine hK.out _ _ (hA.note.below hb hA.note.lt) (fun _ => ?_)
    clear hK K
    try simp only [Act.put, List.setIfInBounds_toArray, List.set_cons_zero, List.set_cons_succ]
    refine wpAnyH_take (i := 10) (oi := ⟨some 35, _, _, _, _, _⟩) (v := ?_) rfl (by kernel_rfl) (by kernel_rfl) (by kernel_rfl) (fun _ _ _ h => h) (Or.inl ⟨by rfl, ?_⟩) (by assumption) ?_
    rotate_left
    · intro w hSw
      (try dsimp only at hSw)
      go_simp
      all_goals (with_reducible rfl)
    try simp only [Act.put, List.setIfInBounds_toArray, List.set_cons_zero, List.set_cons_succ]
    refine wpAnyH_take (i := 11) (oi := ⟨some 36, _, _, _, _, _⟩) (v := ?_) rfl (by kernel_rfl) (by kernel_rfl) (by kernel_rfl) (fun _ _ _ h => h) (Or.inl ⟨by rfl, ?_⟩) (by assumption) ?_
    rotate_left
    · intro w hSw
      (try dsimp only at hSw)
      go_simp
      all_goals (with_reducible rfl)
    try simp only [Act.put, List.setIfInBounds_toArray, List.set_cons_zero, List.set_cons_succ]
    refine wpAnyH_ready (rs := [12]) (by kernel_rfl) (by simp) ?_
    refine AllReadyH.cons (o := ⟨none, _, _, _, _, _⟩) rfl (fun K hK => ?_) AllReadyH.nil
    go_simp
    refine hK.out _ _ ((hA.note.below hb hA.note.lt).far (whole_ne (hA.note.below hb hA.note.lt) (hA.tr.on hb).box (by decide)) _) (fun _ => ?_)
    clear hK K
    try simp only [Act.put]
    refine wpAnyH_done (by kernel_rfl) ?_ _
    refine NoPanic.normal ?_
    obtain ⟨hTz, hDz, hKz, hOz⟩ := hA.added hb (own_down (Nat.le_of_eq HB0.out.symm) hO9)
    exact HQ.out _ _ _ _ _ _ _ _ _ _ _ _ _ _ hTz hDz hKz hOz
  refine AllReadyH.cons (o := ⟨some 30, _, _, _, _, _⟩) rfl (fun K hK => ?_) ?_
  · have c0 := (hA.tr.on hb).box.cell 0
    go_simp
    clear c0
    refine hK.out _ _ (hA.note.below hb hA.note.lt) (fun _ => ?_)
    clear hK K
    try simp only [Act.put, List.setIfInBounds_toArray, List.set_cons_zero, List.set_cons_succ]
    refine wpAnyH_ready (rs := [1, 8]) (by kernel_rfl) (by simp) ?_
    refine AllReadyH.cons (o := ⟨some 26, _, _, _, _, _⟩) rfl (fun K hK => ?_) ?_
    · go_simp
      have hE := own_down (B := B0) (Nat.le_trans (Nat.le_of_eq HB0.out) hb.size) (own_empty (α := Nt) (f := Nt.cells) (n := 6) wd 36)
      have b1 : Below wd.heap.size wd (wd.alloc (.cells #[] 36)) := (Below.refl _ _).alloc (Nat.le_refl _) _
      replace hb := hb.trans (b1.mono hb.size)
      clear b1
      obtain ⟨X, hX⟩ : ∃ x, wd.heap.size = x := ⟨_, rfl⟩
      rw [hX] at hE ⊢
      have hX1 : X < (wd.alloc (.cells #[] 36)).heap.size := by simp [hX]
      clear hX
      generalize wd.alloc (.cells #[] 36) = w1 at hE hb hX1 ⊢
      refine hK.out _ _ (hA.note.below hb hA.note.lt) (fun _ => ?_)
      clear hK K
      try simp only [Act.put, List.setIfInBounds_toArray, List.set_cons_zero, List.set_cons_succ]
      refine wpAnyH_ready (rs := [6, 8]) (by kernel_rfl) (by simp) ?_
      refine AllReadyH.cons (o := ⟨some 31, _, _, _, _, _⟩) rfl (fun K hK => ?_) ?_
      · rw [if_pos (by rfl)]
        refine wp_append_gen (f := Nt.cells) (n := 6) _ _ 22 36 (by rfl) _ 72 Tryd.underlying22 info_note rfl (by decide) (by decide) Nt.cells_length B0 _ _ [] ns (by rfl) hE (by rfl) (src_of_own Nt.cells_length (hA.tr.on hb).row) (fun b _ => note_ones b) (by simp; omega) (Nat.le_trans (Nat.le_of_eq HB0.out) hb.size) ?_
        intro v6 w6 hO6 hG6 _
        replace hb := hb.grown hG6 hb.size (fun k hk => Nat.le_trans (Nat.le_of_eq HB0.out.symm) (own_ge hE hk))
        obtain ⟨x6, k6, y6, he6⟩ := slice_any hO6
        subst he6
        clear hE hG6
        refine hK.out _ _ (hA.note.below hb hA.note.lt) (fun _ => ?_)
        clear hK K
        try simp only [Act.put, List.setIfInBounds_toArray, List.set_cons_zero, List.set_cons_succ]
        refine wpAnyH_ready (rs := [8]) (by kernel_rfl) (by simp) ?_
        refine AllReadyH.cons (o := ⟨some 33, _, _, _, _, _⟩) rfl (fun K hK => ?_) AllReadyH.nil
        rw [if_pos (by rfl)]
        refine wp_build_one 22 36 _ (by rfl) n.cells _ 6 72 Tryd.underlying22 info_note (Nt.cells_length _) (by decide) (by decide) (by rfl) ?_
        have hU := src_new (f := Nt.cells) (n := 6) w6 36 n
        have b8 : Below w6.heap.size w6 (w6.alloc (.cells n.cells.toArray 36)) := (Below.refl _ _).alloc (Nat.le_refl _) _
        replace hb := hb.trans (b8.mono hb.size)
        have hY : w6.heap.size < (w6.alloc (.cells n.cells.toArray 36)).heap.size := by simp
        replace hO6 := row_low hO6 b8
        clear b8
        obtain ⟨Y, hYe⟩ : ∃ x, w6.heap.size = x := ⟨_, rfl⟩
        rw [hYe] at hU hY ⊢
        clear hYe
        generalize w6.alloc (.cells n.cells.toArray 36) = w8 at hU hb hY hO6 ⊢
        refine hK.out _ _ (hA.note.below hb hA.note.lt) (fun _ => ?_)
        clear hK K
        try simp only [Act.put, List.setIfInBounds_toArray, List.set_cons_zero, List.set_cons_succ]
        refine wpAnyH_ready (rs := [9]) (by kernel_rfl) (by simp) ?_
        refine AllReadyH.cons (o := ⟨some 34, _, _, _, _, _⟩) rfl (fun K hK => ?_) AllReadyH.nil
        rw [if_pos (by rfl)]
        refine wp_append_gen (f := Nt.cells) (n := 6) _ _ 22 36 (by rfl) _ 72 Tryd.underlying22 info_note rfl (by decide) (by decide) Nt.cells_length B0 _ _ ([] ++ ns) [n] (by rfl) hO6 (by rfl) hU (fun b _ => note_ones b) (by simp; omega) (Nat.le_trans (Nat.le_of_eq HB0.out) hb.size) ?_
        intro v9 w9 hO9 hG9 _
        replace hb := hb.grown hG9 hb.size (fun k hk => Nat.le_trans (Nat.le_of_eq HB0.out.symm) (own_ge hO6 hk))
        obtain ⟨x9, k9, y9, he9⟩ := slice_any hO9
        subst he9
        clear hO6 hG9 hU
        have c6 := (hA.tr.on hb).box.cell 0
        have c7 := (hA.tr.on hb).box.free 0
        refine hK.out _ _ (hA.note.below hb hA.note.lt) (fun _ => ?_)
        clear hK K
        try simp only [Act.put, List.setIfInBounds_toArray, List.set_cons_zero, List.set_cons_succ]
        refine wpAnyH_take (i := 10) (oi := ⟨some 35, _, _, _, _, _⟩) (v := ?_) rfl (by kernel_rfl) (by kernel_rfl) (by kernel_rfl) (fun _ _ _ h => h) (Or.inl ⟨by rfl, ?_⟩) (by assumption) ?_
        rotate_left
        · intro w hSw
          (try dsimp only at hSw)
          go_simp
          all_goals (with_reducible rfl)
        try simp only [Act.put, List.setIfInBounds_toArray, List.set_cons_zero, List.set_cons_succ]
        refine wpAnyH_take (i := 11) (oi := ⟨some 36, _, _, _, _, _⟩) (v := ?_) rfl (by kernel_rfl) (by kernel_rfl) (by kernel_rfl) (fun _ _ _ h => h) (Or.inl ⟨by rfl, ?_⟩) (by assumption) ?_
        rotate_left
        · intro w hSw
          (try dsimp only at hSw)
          go_simp
          all_goals (with_reducible rfl)
        try simp only [Act.put, List.setIfInBounds_toArray, List.set_cons_zero, List.set_cons_succ]
        refine wpAnyH_ready (rs := [12]) (by kernel_rfl) (by simp) ?_
        refine AllReadyH.cons (o := ⟨none, _, _, _, _, _⟩) rfl (fun K hK => ?_) AllReadyH.nil
        go_simp
        refine hK.out _ _ ((hA.note.below hb hA.note.lt).far (whole_ne (hA.note.below hb hA.note.lt) (hA.tr.on hb).box (by decide)) _) (fun _ => ?_)
        clear hK K
        try simp only [Act.put]
        refine wpAnyH_done (by kernel_rfl) ?_ _
        refine NoPanic.normal ?_
        obtain ⟨hTz, hDz, hKz, hOz⟩ := hA.added hb (own_down (Nat.le_of_eq HB0.out.symm) hO9)
        exact HQ.out _ _ _ _ _ _ _ _ _ _ _ _ _ _ hTz hDz hKz hOz
      refine AllReadyH.cons (o := ⟨some 33, _, _, _, _, _⟩) rfl (fun K hK => ?_) AllReadyH.nil
      rw [if_pos (by rfl)]
      refine wp_build_one 22 36 _ (by rfl) n.cells _ 6 72 Tryd.underlying22 info_note (Nt.cells_length _) (by decide) (by decide) (by rfl) ?_
      have hU := src_new (f := Nt.cells) (n := 6) w1 36 n
      have b8 : Below w1.heap.size w1 (w1.alloc (.cells n.cells.toArray 36)) := (Below.refl _ _).alloc (Nat.le_refl _) _
      replace hb := hb.trans (b8.mono hb.size)
      have hY : w1.heap.size < (w1.alloc (.cells n.cells.toArray 36)).heap.size := by simp
      have hXY := Nat.ne_of_gt hX1
      replace hE := row_low hE b8
      clear b8
      obtain ⟨Y, hYe⟩ : ∃ x, w1.heap.size = x := ⟨_, rfl⟩
      rw [hYe] at hU hY hXY ⊢
      clear hYe
      generalize w1.alloc (.cells n.cells.toArray 36) = w8 at hU hb hY hE ⊢
      refine hK.out _ _ (hA.note.below hb hA.note.lt) (fun _ => ?_)
      clear hK K
      try simp only [Act.put, List.setIfInBounds_toArray, List.set_cons_zero, List.set_cons_succ]
      refine wpAnyH_ready (rs := [6]) (by kernel_rfl) (by simp) ?_
      refine AllReadyH.cons (o := ⟨some 31, _, _, _, _, _⟩) rfl (fun K hK => ?_) AllReadyH.nil
      rw [if_pos (by rfl)]
      refine wp_append_gen (f := Nt.cells) (n := 6) _ _ 22 36 (by rfl) _ 72 Tryd.underlying22 info_note rfl (by decide) (by decide) Nt.cells_length B0 _ _ [] ns (by rfl) hE (by rfl) (src_of_own Nt.cells_length (hA.tr.on hb).row) (fun b _ => note_ones b) (by simp; omega) (Nat.le_trans (Nat.le_of_eq HB0.out) hb.size) ?_
      intro v6 w6 hO6 hG6 _
      replace hU := hU.far hG6 hXY
      replace hY := Nat.lt_of_lt_of_le hY hG6.size
      replace hb := hb.grown hG6 hb.size (fun k hk => Nat.le_trans (Nat.le_of_eq HB0.out.symm) (own_ge hE hk))
      obtain ⟨x6, k6, y6, he6⟩ := slice_any hO6
      subst he6
      clear hE hG6
      refine hK.out _ _ (hA.note.below hb hA.note.lt) (fun _ => ?_)
      clear hK K
      try simp only [Act.put, List.setIfInBounds_toArray, List.set_cons_zero, List.set_cons_succ]
      refine wpAnyH_ready (rs := [9]) (by kernel_rfl) (by simp) ?_
      refine AllReadyH.cons (o := ⟨some 34, _, _, _, _, _⟩) rfl (fun K hK => ?_) AllReadyH.nil
      rw [if_pos (by rfl)]
      refine wp_append_gen (f := Nt.cells) (n := 6) _ _ 22 36 (by rfl) _ 72 Tryd.underlying22 info_note rfl (by decide) (by decide) Nt.cells_length B0 _ _ ([] ++ ns) [n] (by rfl) hO6 (by rfl) hU (fun b _ => note_ones b) (by simp; omega) (Nat.le_trans (Nat.le_of_eq HB0.out) hb.size) ?_
      intro v9 w9 hO9 hG9 _
      replace hb := hb.grown hG9 hb.size (fun k hk => Nat.le_trans (Nat.le_of_eq HB0.out.symm) (own_ge hO6 hk))
      obtain ⟨x9, k9, y9, he9⟩ := slice_any hO9
      subst he9
      clear hO6 hG9 hU
      have c6 := (hA.tr.on hb).box.cell 0
      have c7 := (hA.tr.on hb).box.free 0
      refine hK.out _ _ (hA.note.below hb hA.note.lt) (fun _ => ?_)
      clear hK K
      try simp only [Act.put, List.setIfInBounds_toArray, List.set_cons_zero, List.set_cons_succ]
      refine wpAnyH_take (i := 10) (oi := ⟨some 35, _, _, _, _, _⟩) (v := ?_) rfl (by kernel_rfl) (by kernel_rfl) (by kernel_rfl) (fun _ _ _ h => h) (Or.inl ⟨by rfl, ?_⟩) (by assumption) ?_
      rotate_left
      · intro w hSw
        (try dsimp only at hSw)
        go_simp
        all_goals (with_reducible rfl)
      try simp only [Act.put, List.setIfInBounds_toArray, List.set_cons_zero, List.set_cons_succ]
      refine wpAnyH_take (i := 11) (oi := ⟨some 36, _, _, _, _, _⟩) (v := ?_) rfl (by kernel_rfl) (by kernel_rfl) (by kernel_rfl) (fun _ _ _ h => h) (Or.inl ⟨by rfl, ?_⟩) (by assumption) ?_
      rotate_left
      · intro w hSw
        (try dsimp only at hSw)
        go_simp
        all_goals (with_reducible rfl)
      try simp only [Act.put, List.setIfInBounds_toArray, List.set_cons_zero, List.set_cons_succ]
      refine wpAnyH_ready (rs := [12]) (by kernel_rfl) (by simp) ?_
      refine AllReadyH.cons (o := ⟨none, _, _, _, _, _⟩) rfl (fun K hK => ?_) AllReadyH.nil
      go_simp
      refine hK.out _ _ ((hA.note.below hb hA.note.lt).far (whole_ne (hA.note.below hb hA.note.lt) (hA.tr.on hb).box (by decide)) _) (fun _ => ?_)
      clear hK K
      try simp only [Act.put]
      refine wpAnyH_done (by kernel_rfl) ?_ _
      refine NoPanic.normal ?_
      obtain ⟨hTz, hDz, hKz, hOz⟩ := hA.added hb (own_down (Nat.le_of_eq HB0.out.symm) hO9)
      exact HQ.out _ _ _ _ _ _ _ _ _ _ _ _ _ _ hTz hDz hKz hOz
    refine AllReadyH.cons (o := ⟨some 33, _, _, _, _, _⟩) rfl (fun K hK => ?_) AllReadyH.nil
    rw [if_pos (by rfl)]
    refine wp_build_one 22 36 _ (by rfl) n.cells _ 6 72 Tryd.underlying22 info_note (Nt.cells_length _) (by decide) (by decide) (by rfl) ?_
    have hU := src_new (f := Nt.cells) (n := 6) wd 36 n
    have b8 : Below wd.heap.size wd (wd.alloc (.cells n.cells.toArray 36)) := (Below.refl _ _).alloc (Nat.le_refl _) _
    replace hb := hb.trans (b8.mono hb.size)
    have hY : wd.heap.size < (wd.alloc (.cells n.cells.toArray 36)).heap.size := by simp
    clear b8
    obtain ⟨Y, hYe⟩ : ∃ x, wd.heap.size = x := ⟨_, rfl⟩
    rw [hYe] at hU hY ⊢
    clear hYe
    generalize wd.alloc (.cells n.cells.toArray 36) = w8 at hU hb hY ⊢
    refine hK.out _ _ (hA.note.below hb hA.note.lt) (fun _ => ?_)
    clear hK K
    try simp only [Act.put, List.setIfInBounds_toArray, List.set_cons_zero, List.set_cons_succ]
    refine wpAnyH_ready (rs := [1]) (by kernel_rfl) (by simp) ?_
    refine AllReadyH.cons (o := ⟨some 26, _, _, _, _, _⟩) rfl (fun K hK => ?_) AllReadyH.nil
    go_simp
    have hE := own_down (B := B0) (Nat.le_trans (Nat.le_of_eq HB0.out) hb.size) (own_empty (α := Nt) (f := Nt.cells) (n := 6) w8 36)
    have b1 : Below w8.heap.size w8 (w8.alloc (.cells #[] 36)) := (Below.refl _ _).alloc (Nat.le_refl _) _
    replace hb := hb.trans (b1.mono hb.size)
    have hXY := Nat.ne_of_lt hY
    have hY1 := Nat.lt_of_lt_of_le hY b1.size
    replace hU := hU.low b1
    clear hY
    have hY := hY1
    clear hY1
    clear b1
    obtain ⟨X, hX⟩ : ∃ x, w8.heap.size = x := ⟨_, rfl⟩
    rw [hX] at hE hXY ⊢
    have hX1 : X < (w8.alloc (.cells #[] 36)).heap.size := by simp [hX]
    clear hX
    generalize w8.alloc (.cells #[] 36) = w1 at hE hb hX1 hU hY ⊢
    refine hK.out _ _ (hA.note.below hb hA.note.lt) (fun _ => ?_)
    clear hK K
    try simp only [Act.put, List.setIfInBounds_toArray, List.set_cons_zero, List.set_cons_succ]
    refine wpAnyH_ready (rs := [6]) (by kernel_rfl) (by simp) ?_
    refine AllReadyH.cons (o := ⟨some 31, _, _, _, _, _⟩) rfl (fun K hK => ?_) AllReadyH.nil
    rw [if_pos (by rfl)]
    refine wp_append_gen (f := Nt.cells) (n := 6) _ _ 22 36 (by rfl) _ 72 Tryd.underlying22 info_note rfl (by decide) (by decide) Nt.cells_length B0 _ _ [] ns (by rfl) hE (by rfl) (src_of_own Nt.cells_length (hA.tr.on hb).row) (fun b _ => note_ones b) (by simp; omega) (Nat.le_trans (Nat.le_of_eq HB0.out) hb.size) ?_
    intro v6 w6 hO6 hG6 _
    replace hU := hU.far hG6 hXY
    replace hY := Nat.lt_of_lt_of_le hY hG6.size
    replace hb := hb.grown hG6 hb.size (fun k hk => Nat.le_trans (Nat.le_of_eq HB0.out.symm) (own_ge hE hk))
    obtain ⟨x6, k6, y6, he6⟩ := slice_any hO6
    subst he6
    clear hE hG6
    refine hK.out _ _ (hA.note.below hb hA.note.lt) (fun _ => ?_)
    clear hK K
    try simp only [Act.put, List.setIfInBounds_toArray, List.set_cons_zero, List.set_cons_succ]
    refine wpAnyH_ready (rs := [9]) (by kernel_rfl) (by simp) ?_
    refine AllReadyH.cons (o := ⟨some 34, _, _, _, _, _⟩) rfl (fun K hK => ?_) AllReadyH.nil
    rw [if_pos (by rfl)]
    refine wp_append_gen (f := Nt.cells) (n := 6) _ _ 22 36 (by rfl) _ 72 Tryd.underlying22 info_note rfl (by decide) (by decide) Nt.cells_length B0 _ _ ([] ++ ns) [n] (by rfl) hO6 (by rfl) hU (fun b _ => note_ones b) (by simp; omega) (Nat.le_trans (Nat.le_of_eq HB0.out) hb.size) ?_
    intro v9 w9 hO9 hG9 _
    replace hb := hb.grown hG9 hb.size (fun k hk => Nat.le_trans (Nat.le_of_eq HB0.out.symm) (own_ge hO6 hk))
    obtain ⟨x9, k9, y9, he9⟩ := slice_any hO9
    subst he9
    clear hO6 hG9 hU
    have c6 := (hA.tr.on hb).box.cell 0
    have c7 := (hA.tr.on hb).box.free 0
    refine hK.out _ _ (hA.note.below hb hA.note.lt) (fun _ => ?_)
    clear hK K
    try simp only [Act.put, List.setIfInBounds_toArray, List.set_cons_zero, List.set_cons_succ]
    refine wpAnyH_take (i := 10) (oi := ⟨some 35, _, _, _, _, _⟩) (v := ?_) rfl (by kernel_rfl) (by kernel_rfl) (by kernel_rfl) (fun _ _ _ h => h) (Or.inl ⟨by rfl, ?_⟩) (by assumption) ?_
    rotate_left
    · intro w hSw
      (try dsimp only at hSw)
      go_simp
      all_goals (with_reducible rfl)
    try simp only [Act.put, List.setIfInBounds_toArray, List.set_cons_zero, List.set_cons_succ]
    refine wpAnyH_take (i := 11) (oi := ⟨some 36, _, _, _, _, _⟩) (v := ?_) rfl (by kernel_rfl) (by kernel_rfl) (by kernel_rfl) (fun _ _ _ h => h) (Or.inl ⟨by rfl, ?_⟩) (by assumption) ?_
    rotate_left
    · intro w hSw
      (try dsimp only at hSw)
      go_simp
      all_goals (with_reducible rfl)
    try simp only [Act.put, List.setIfInBounds_toArray, List.set_cons_zero, List.set_cons_succ]
    refine wpAnyH_ready (rs := [12]) (by kernel_rfl) (by simp) ?_
    refine AllReadyH.cons (o := ⟨none, _, _, _, _, _⟩) rfl (fun K hK => ?_) AllReadyH.nil
    go_simp
    refine hK.out _ _ ((hA.note.below hb hA.note.lt).far (whole_ne (hA.note.below hb hA.note.lt) (hA.tr.on hb).box (by decide)) _) (fun _ => ?_)
    clear hK K
    try simp only [Act.put]
    refine wpAnyH_done (by kernel_rfl) ?_ _
    refine NoPanic.normal ?_
    obtain ⟨hTz, hDz, hKz, hOz⟩ := hA.added hb (own_down (Nat.le_of_eq HB0.out.symm) hO9)
    exact HQ.out _ _ _ _ _ _ _ _ _ _ _ _ _ _ hTz hDz hKz hOz
  refine AllReadyH.cons (o := ⟨some 33, _, _, _, _, _⟩) rfl (fun K hK => ?_) AllReadyH.nil
  rw [if_pos (by rfl)]
  refine wp_build_one 22 36 _ (by rfl) n.cells _ 6 72 Tryd.underlying22 info_note (Nt.cells_length _) (by decide) (by decide) (by rfl) ?_
  have hU := src_new (f := Nt.cells) (n := 6) wd 36 n
  have b8 : Below wd.heap.size wd (wd.alloc (.cells n.cells.toArray 36)) := (Below.refl _ _).alloc (Nat.le_refl _) _
  replace hb := hb.trans (b8.mono hb.size)
  have hY : wd.heap.size < (wd.alloc (.cells n.cells.toArray 36)).heap.size := by simp
  clear b8
  obtain ⟨Y, hYe⟩ : ∃ x, wd.heap.size = x := ⟨_, rfl⟩
  rw [hYe] at hU hY ⊢
  clear hYe
  generalize wd.alloc (.cells n.cells.toArray 36) = w8 at hU hb hY ⊢
  refine hK.out _ _ (hA.note.below hb hA.note.lt) (fun _ => ?_)
  clear hK K
  try simp only [Act.put, List.setIfInBounds_toArray, List.set_cons_zero, List.set_cons_succ]
  refine wpAnyH_ready (rs := [1, 5]) (by kernel_rfl) (by simp) ?_
  refine AllReadyH.cons (o := ⟨some 26, _, _, _, _, _⟩) rfl (fun K hK => ?_) ?_
  · go_simp
    have hE := own_down (B := B0) (Nat.le_trans (Nat.le_of_eq HB0.out) hb.size) (own_empty (α := Nt) (f := Nt.cells) (n := 6) w8 36)
    have b1 : Below w8.heap.size w8 (w8.alloc (.cells #[] 36)) := (Below.refl _ _).alloc (Nat.le_refl _) _
    replace hb := hb.trans (b1.mono hb.size)
    have hXY := Nat.ne_of_lt hY
    have hY1 := Nat.lt_of_lt_of_le hY b1.size
    replace hU := hU.low b1
    clear hY
    have hY := hY1
    clear hY1
    clear b1
    obtain ⟨X, hX⟩ : ∃ x, w8.heap.size = x := ⟨_, rfl⟩
    rw [hX] at hE hXY ⊢
    have hX1 : X < (w8.alloc (.cells #[] 36)).heap.size := by simp [hX]
    clear hX
    generalize w8.alloc (.cells #[] 36) = w1 at hE hb hX1 hU hY ⊢
    refine hK.out _ _ (hA.note.below hb hA.note.lt) (fun _ => ?_)
    clear hK K
    try simp only [Act.put, List.setIfInBounds_toArray, List.set_cons_zero, List.set_cons_succ]
    refine wpAnyH_ready (rs := [5]) (by kernel_rfl) (by simp) ?_
    refine AllReadyH.cons (o := ⟨some 30, _, _, _, _, _⟩) rfl (fun K hK => ?_) AllReadyH.nil
    have c0 := (hA.tr.on hb).box.cell 0
    go_simp
    clear c0
    refine hK.out _ _ (hA.note.below hb hA.note.lt) (fun _ => ?_)
    clear hK K
    try simp only [Act.put, List.setIfInBounds_toArray, List.set_cons_zero, List.set_cons_succ]
    refine wpAnyH_ready (rs := [6]) (by kernel_rfl) (by simp) ?_
    refine AllReadyH.cons (o := ⟨some 31, _, _, _, _, _⟩) rfl (fun K hK => ?_) AllReadyH.nil
    rw [if_pos (by rfl)]
    refine wp_append_gen (f := Nt.cells) (n := 6) _ _ 22 36 (by rfl) _ 72 Tryd.underlying22 info_note rfl (by decide) (by decide) Nt.cells_length B0 _ _ [] ns (by rfl) hE (by rfl) (src_of_own Nt.cells_length (hA.tr.on hb).row) (fun b _ => note_ones b) (by simp; omega) (Nat.le_trans (Nat.le_of_eq HB0.out) hb.size) ?_
    intro v6 w6 hO6 hG6 _
    replace hU := hU.far hG6 hXY
    replace hY := Nat.lt_of_lt_of_le hY hG6.size
    replace hb := hb.grown hG6 hb.size (fun k hk => Nat.le_trans (Nat.le_of_eq HB0.out.symm) (own_ge hE hk))
    obtain ⟨x6, k6, y6, he6⟩ := slice_any hO6
    subst he6
    clear hE hG6
    refine hK.out _ _ (hA.note.below hb hA.note.lt) (fun _ => ?_)
    clear hK K
    try simp only [Act.put, List.setIfInBounds_toArray, List.set_cons_zero, List.set_cons_succ]
    refine wpAnyH_ready (rs := [9]) (by kernel_rfl) (by simp) ?_
    refine AllReadyH.cons (o := ⟨some 34, _, _, _, _, _⟩) rfl (fun K hK => ?_) AllReadyH.nil
    rw [if_pos (by rfl)]
    refine wp_append_gen (f := Nt.cells) (n := 6) _ _ 22 36 (by rfl) _ 72 Tryd.underlying22 info_note rfl (by decide) (by decide) Nt.cells_length B0 _ _ ([] ++ ns) [n] (by rfl) hO6 (by rfl) hU (fun b _ => note_ones b) (by simp; omega) (Nat.le_trans (Nat.le_of_eq HB0.out) hb.size) ?_
    intro v9 w9 hO9 hG9 _
    replace hb := hb.grown hG9 hb.size (fun k hk => Nat.le_trans (Nat.le_of_eq HB0.out.symm) (own_ge hO6 hk))
    obtain ⟨x9, k9, y9, he9⟩ := slice_any hO9
    subst he9
    clear hO6 hG9 hU
    have c6 := (hA.tr.on hb).box.cell 0
    have c7 := (hA.tr.on hb).box.free 0
    refine hK.out _ _ (hA.note.below hb hA.note.lt) (fun _ => ?_)
    clear hK K
    try simp only [Act.put, List.setIfInBounds_toArray, List.set_cons_zero, List.set_cons_succ]
    refine wpAnyH_take (i := 10) (oi := ⟨some 35, _, _, _, _, _⟩) (v := ?_) rfl (by kernel_rfl) (by kernel_rfl) (by kernel_rfl) (fun _ _ _ h => h) (Or.inl ⟨by rfl, ?_⟩) (by assumption) ?_
    rotate_left
    · intro w hSw
      (try dsimp only at hSw)
      go_simp
      all_goals (with_reducible rfl)
    try simp only [Act.put, List.setIfInBounds_toArray, List.set_cons_zero, List.set_cons_succ]
    refine wpAnyH_take (i := 11) (oi := ⟨some 36, _, _, _, _, _⟩) (v := ?_) rfl (by kernel_rfl) (by kernel_rfl) (by kernel_rfl) (fun _ _ _ h => h) (Or.inl ⟨by rfl, ?_⟩) (by assumption) ?_
    rotate_left
    · intro w hSw
      (try dsimp only at hSw)
      go_simp
      all_goals (with_reducible rfl)
    try simp only [Act.put, List.setIfInBounds_toArray, List.set_cons_zero, List.set_cons_succ]
    refine wpAnyH_ready (rs := [12]) (by kernel_rfl) (by simp) ?_
    refine AllReadyH.cons (o := ⟨none, _, _, _, _, _⟩) rfl (fun K hK => ?_) AllReadyH.nil
    go_simp
    refine hK.out _ _ ((hA.note.below hb hA.note.lt).far (whole_ne (hA.note.below hb hA.note.lt) (hA.tr.on hb).box (by decide)) _) (fun _ => ?_)
    clear hK K
    try simp only [Act.put]
    refine wpAnyH_done (by kernel_rfl) ?_ _
    refine NoPanic.normal ?_
    obtain ⟨hTz, hDz, hKz, hOz⟩ := hA.added hb (own_down (Nat.le_of_eq HB0.out.symm) hO9)
    exact HQ.out _ _ _ _ _ _ _ _ _ _ _ _ _ _ hTz hDz hKz hOz
  refine AllReadyH.cons (o := ⟨some 30, _, _, _, _, _⟩) rfl (fun K hK => ?_) AllReadyH.nil
  have c0 := (hA.tr.on hb).box.cell 0
  go_simp
  clear c0
  refine hK.out _ _ (hA.note.below hb hA.note.lt) (fun _ => ?_)
  clear hK K
  try simp only [Act.put, List.setIfInBounds_toArray, List.set_cons_zero, List.set_cons_succ]
  refine wpAnyH_ready (rs := [1]) (by kernel_rfl) (by simp) ?_
  refine AllReadyH.cons (o := ⟨some 26, _, _, _, _, _⟩) rfl (fun K hK => ?_) AllReadyH.nil
  go_simp
  have hE := own_down (B := B0) (Nat.le_trans (Nat.le_of_eq HB0.out) hb.size) (own_empty (α := Nt) (f := Nt.cells) (n := 6) w8 36)
  have b1 : Below w8.heap.size w8 (w8.alloc (.cells #[] 36)) := (Below.refl _ _).alloc (Nat.le_refl _) _
  replace hb := hb.trans (b1.mono hb.size)
  have hXY := Nat.ne_of_lt hY
  have hY1 := Nat.lt_of_lt_of_le hY b1.size
  replace hU := hU.low b1
  clear hY
  have hY := hY1
  clear hY1
  clear b1
  obtain ⟨X, hX⟩ : ∃ x, w8.heap.size = x := ⟨_, rfl⟩
  rw [hX] at hE hXY ⊢
  have hX1 : X < (w8.alloc (.cells #[] 36)).heap.size := by simp [hX]
  clear hX
  generalize w8.alloc (.cells #[] 36) = w1 at hE hb hX1 hU hY ⊢
  refine hK.out _ _ (hA.note.below hb hA.note.lt) (fun _ => ?_)
  clear hK K
  try simp only [Act.put, List.setIfInBounds_toArray, List.set_cons_zero, List.set_cons_succ]
  refine wpAnyH_ready (rs := [6]) (by kernel_rfl) (by simp) ?_
  refine AllReadyH.cons (o := ⟨some 31, _, _, _, _, _⟩) rfl (fun K hK => ?_) AllReadyH.nil
  rw [if_pos (by rfl)]
  refine wp_append_gen (f := Nt.cells) (n := 6) _ _ 22 36 (by rfl) _ 72 Tryd.underlying22 info_note rfl (by decide) (by decide) Nt.cells_length B0 _ _ [] ns (by rfl) hE (by rfl) (src_of_own Nt.cells_length (hA.tr.on hb).row) (fun b _ => note_ones b) (by simp; omega) (Nat.le_trans (Nat.le_of_eq HB0.out) hb.size) ?_
  intro v6 w6 hO6 hG6 _
  replace hU := hU.far hG6 hXY
  replace hY := Nat.lt_of_lt_of_le hY hG6.size
  replace hb := hb.grown hG6 hb.size (fun k hk => Nat.le_trans (Nat.le_of_eq HB0.out.symm) (own_ge hE hk))
  obtain ⟨x6, k6, y6, he6⟩ := slice_any hO6
  subst he6
  clear hE hG6
  refine hK.out _ _ (hA.note.below hb hA.note.lt) (fun _ => ?_)
  clear hK K
  try simp only [Act.put, List.setIfInBounds_toArray, List.set_cons_zero, List.set_cons_succ]
  refine wpAnyH_ready (rs := [9]) (by kernel_rfl) (by simp) ?_
  refine AllReadyH.cons (o := ⟨some 34, _, _, _, _, _⟩) rfl (fun K hK => ?_) AllReadyH.nil
  rw [if_pos (by rfl)]
  refine wp_append_gen (f := Nt.cells) (n := 6) _ _ 22 36 (by rfl) _ 72 Tryd.underlying22 info_note rfl (by decide) (by decide) Nt.cells_length B0 _ _ ([] ++ ns) [n] (by rfl) hO6 (by rfl) hU (fun b _ => note_ones b) (by simp; omega) (Nat.le_trans (Nat.le_of_eq HB0.out) hb.size) ?_
  intro v9 w9 hO9 hG9 _
  replace hb := hb.grown hG9 hb.size (fun k hk => Nat.le_trans (Nat.le_of_eq HB0.out.symm) (own_ge hO6 hk))
  obtain ⟨x9, k9, y9, he9⟩ := slice_any hO9
  subst he9
  clear hO6 hG9 hU
  have c6 := (hA.tr.on hb).box.cell 0
  have c7 := (hA.tr.on hb).box.free 0
  refine hK.out _ _ (hA.note.below hb hA.note.lt) (fun _ => ?_)
  clear hK K
  try simp only [Act.put, List.setIfInBounds_toArray, List.set_cons_zero, List.set_cons_succ]
  refine wpAnyH_take (i := 10) (oi := ⟨some 35, _, _, _, _, _⟩) (v := ?_) rfl (by kernel_rfl) (by kernel_rfl) (by kernel_rfl) (fun _ _ _ h => h) (Or.inl ⟨by rfl, ?_⟩) (by assumption) ?_
  rotate_left
  · intro w hSw
    (try dsimp only at hSw)
    go_simp
    all_goals (with_reducible rfl)
  try simp only [Act.put, List.setIfInBounds_toArray, List.set_cons_zero, List.set_cons_succ]
  refine wpAnyH_take (i := 11) (oi := ⟨some 36, _, _, _, _, _⟩) (v := ?_) rfl (by kernel_rfl) (by kernel_rfl) (by kernel_rfl) (fun _ _ _ h => h) (Or.inl ⟨by rfl, ?_⟩) (by assumption) ?_
  rotate_left
  · intro w hSw
    (try dsimp only at hSw)
    go_simp
    all_goals (with_reducible rfl)
  try simp only [Act.put, List.setIfInBounds_toArray, List.set_cons_zero, List.set_cons_succ]
  refine wpAnyH_ready (rs := [12]) (by kernel_rfl) (by simp) ?_
  refine AllReadyH.cons (o := ⟨none, _, _, _, _, _⟩) rfl (fun K hK => ?_) AllReadyH.nil
  go_simp
  refine hK.out _ _ ((hA.note.below hb hA.note.lt).far (whole_ne (hA.note.below hb hA.note.lt) (hA.tr.on hb).box (by decide)) _) (fun _ => ?_)
  clear hK K
  try simp only [Act.put]
  refine wpAnyH_done (by kernel_rfl) ?_ _
  refine NoPanic.normal ?_
  obtain ⟨hTz, hDz, hKz, hOz⟩ := hA.added hb (own_down (Nat.le_of_eq HB0.out.symm) hO9)
  exact HQ.out _ _ _ _ _ _ _ _ _ _ _ _ _ _ hTz hDz hKz hOz

end Go.Proofs.YtglcingpolpkdaaDoor
