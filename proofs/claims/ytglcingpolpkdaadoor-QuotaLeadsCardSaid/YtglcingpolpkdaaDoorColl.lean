/- QuotaLeads: what collide's regions do. -/
import Derived.Test.YtglcingpolpkdaaDoorChk
import Derived.Test.YtglcingpolpkdaaDoorTAdd
namespace Go.Proofs.YtglcingpolpkdaaDoor
open Go.RowKit

/-- Is there a place with the same head behind it, though notes or heads are unlike? -/
def collT : Dg → Dg → List Nt → List Nt → Bool
  | x, y, m :: a, n :: b => if (nextOk m && nextOk n) = true then (if eqD (nextG x m) (nextG y n) && (!eqD x y || !eqN m n) then true else collT (nextG x m) (nextG y n) a b) else false
  | _, _, _, _ => false
theorem collT_yes : ∀ (a b : List Nt) (x y : Dg), a.length = b.length → a.all nextOk = true → b.all nextOk = true → a.foldl nextG x = b.foldl nextG y → (x ≠ y ∨ a ≠ b) → collT x y a b = true
  | [], [], x, y, _, _, _, h, hn => by
    rcases hn with hn | hn
    · exact (hn h).elim
    · exact (hn rfl).elim
  | [], _ :: _, _, _, hl, _, _, _, _ => by simp at hl
  | _ :: _, [], _, _, hl, _, _, _, _ => by simp at hl
  | m :: a, n :: b, x, y, hl, ha, hb, h, hn => by
    rw [List.all_cons, Bool.and_eq_true] at ha hb
    have hok : (nextOk m && nextOk n) = true := by rw [ha.1, hb.1]; rfl
    rw [collT, if_pos hok]
    by_cases hu : nextG x m = nextG y n
    · by_cases hs : x = y ∧ m = n
      · have h1 : eqD x y = true := (eqD_iff _ _).2 hs.1
        have h2 : eqN m n = true := (eqN_iff _ _).2 hs.2
        rw [h1, h2, if_neg (by simp)]
        refine collT_yes a b _ _ (by simpa using hl) ha.2 hb.2 (by simpa using h) (.inr fun e => ?_)
        rcases hn with hn | hn
        · exact hn hs.1
        · exact hn (by rw [hs.2, e])
      · have h1 : (!eqD x y || !eqN m n) = true := by
          rw [← Bool.not_and, Bool.not_eq_true', ← Bool.not_eq_true, Bool.and_eq_true, eqD_iff, eqN_iff]
          exact hs
        have h2 : eqD (nextG x m) (nextG y n) = true := (eqD_iff _ _).2 hu
        rw [h1, h2]
        rfl
    · have h2 : eqD (nextG x m) (nextG y n) = false := by rw [← Bool.not_eq_true, eqD_iff]; exact hu
      rw [h2, if_neg (by simp)]
      exact collT_yes a b _ _ (by simpa using hl) ha.2 hb.2 (by simpa using h) (.inl hu)
theorem rng_low {w w' : World} {g o : Nat} {l : List Value} (h : w.rangeAt g o l) (hg : g < w.heap.size) (hb : Below w.heap.size w w') : w'.rangeAt g o l := fun j u hj => (hb.cell (p := ⟨g, o + j, none⟩) hg).trans (h j u hj)
theorem Only.of_eq {w wd w' : World} {S : Nat → Prop} (h : w.drew = wd) (ho : Only wd w' S) : Only w w' S := by
  subst h
  exact ⟨ho.os, ho.tape, ho.output, ho.size, ho.block⟩
theorem equalIn_note (w : World) (m n : Nt) : (Op.equalIn 10000 36 (.agg m.cells.toArray) (.agg n.cells.toArray)).run Tryd.prog w = .ok (eqN m n) w := by
  obtain ⟨time, who, tenant, what, key, code⟩ := m
  obtain ⟨stime, swho, stenant, swhat, skey, scode⟩ := n
  exact eql_note w
/-- What stands in a round. -/
structure CS (w : World) (XB YB UB VB : Nat) (x y u v : Dg) (g1 p1 : Nat) (m : Nt) (g2 p2 : Nat) (n : Nt) : Prop where
  xb : Whole w XB 24 x.vs
  yb : Whole w YB 24 y.vs
  ub : Whole w UB 24 u.vs
  vb : Whole w VB 24 v.vs
  ra : w.rangeAt g1 p1 m.cells
  rb : w.rangeAt g2 p2 n.cells
theorem CS.drew {w : World} {XB YB UB VB : Nat} {x y u v : Dg} {g1 p1 : Nat} {m : Nt} {g2 p2 : Nat} {n : Nt} (h : CS w XB YB UB VB x y u v g1 p1 m g2 p2 n) : CS w.drew XB YB UB VB x y u v g1 p1 m g2 p2 n :=
  ⟨h.xb.drew, h.yb.drew, h.ub.drew, h.vb.drew, h.ra, h.rb⟩

noncomputable def cstartCode : Code := subCode [1, 0] ((Tryd.f26.body).getD .skip)

set_option maxRecDepth 100000 in
set_option maxHeartbeats 4000000 in
theorem cstart_step {z0 z1 z2 z4 z5 z6 z7 z8 z9 z10 z11 z12 z13 z14 z15 z16 z17 z18 z19 z20 z21 z22 z23 z24 z25 z26 z27 z28 z29 z30 z31 z32 z33 z34 z35 z36 z37 z38 z39 z40 z41 z42 z43 z44 z45 z46 z47 z48 z49 z50 z51 z52 z53 z54 z55 z56 z57 z58 z59 z60 z61 z62 z63 z64 z65 z66 z67 z68 z69 z70 z71 z72 : Value} {w : World} {HB : Nat} {d : Dg} (hF : Whole w HB 24 d.vs) {Q : Exit → Act → World → Prop}
    (hq : ∀ (y14 y15 : Value) (w' : World) (X Y : Nat), Whole w' X 24 d.vs → Whole w' Y 24 d.vs → X ≠ Y → w.heap.size ≤ X → w.heap.size ≤ Y → Below w.heap.size w w' → Q .normal ⟨(z0 :: z1 :: z2 :: .pointer (some ⟨HB, 0, none⟩) :: z4 :: z5 :: z6 :: .pointer (some ⟨X, 0, none⟩) :: .pointer (some ⟨Y, 0, none⟩) :: z9 :: z10 :: z11 :: z12 :: z13 :: y14 :: y15 :: z16 :: z17 :: z18 :: z19 :: z20 :: z21 :: z22 :: z23 :: z24 :: z25 :: z26 :: z27 :: z28 :: z29 :: z30 :: z31 :: z32 :: z33 :: z34 :: z35 :: z36 :: z37 :: z38 :: z39 :: z40 :: z41 :: z42 :: z43 :: z44 :: z45 :: z46 :: z47 :: z48 :: z49 :: z50 :: z51 :: z52 :: z53 :: z54 :: z55 :: z56 :: z57 :: z58 :: z59 :: z60 :: z61 :: z62 :: z63 :: z64 :: z65 :: z66 :: z67 :: z68 :: z69 :: z70 :: z71 :: z72 :: []).toArray, []⟩ w') : Code.wp Tryd.prog cstartCode Q ⟨(z0 :: z1 :: z2 :: .pointer (some ⟨HB, 0, none⟩) :: z4 :: z5 :: z6 :: z7 :: z8 :: z9 :: z10 :: z11 :: z12 :: z13 :: z14 :: z15 :: z16 :: z17 :: z18 :: z19 :: z20 :: z21 :: z22 :: z23 :: z24 :: z25 :: z26 :: z27 :: z28 :: z29 :: z30 :: z31 :: z32 :: z33 :: z34 :: z35 :: z36 :: z37 :: z38 :: z39 :: z40 :: z41 :: z42 :: z43 :: z44 :: z45 :: z46 :: z47 :: z48 :: z49 :: z50 :: z51 :: z52 :: z53 :: z54 :: z55 :: z56 :: z57 :: z58 :: z59 :: z60 :: z61 :: z62 :: z63 :: z64 :: z65 :: z66 :: z67 :: z68 :: z69 :: z70 :: z71 :: z72 :: []).toArray, []⟩ w := by
  conv => arg 2; whnf
  have HQ := Lib.hid hq
  clear hq
  refine wp_region_noPanic ?_
  refine wp_region_held_drew (S := fun w' => Whole w' HB 24 d.vs) (by kernel_rfl) (hF.drew) (fun hhS => ?_)
  have hb : Below w.heap.size w w.drew := (Below.refl _ _).drew
  have hlt := hF.lt
  replace hF := hF.drew
  clear hhS
  generalize w.drew = wd at hb hF ⊢
  have hhS := hF
  refine wpAnyH_take (i := 0) (oi := ⟨some 14, _, _, _, _, _⟩) (v := _) rfl (by kernel_rfl) (by kernel_rfl) (by kernel_rfl) (fun _ _ _ h => h) (yieldsIf_load_mid (by rfl) _ _ rfl HB 0 (by rfl) (d.vs) _ (fun w hSw => whole_rangeG hSw) Tryd.underlying24 rfl (by rw [size_d, Dg.vs_length])) (by assumption) ?_
  try simp only [Act.put, List.setIfInBounds_toArray, List.set_cons_zero, List.set_cons_succ]
  refine wpAnyH_take (i := 1) (oi := ⟨some 15, _, _, _, _, _⟩) (v := _) rfl (by kernel_rfl) (by kernel_rfl) (by kernel_rfl) (fun _ _ _ h => h) (yieldsIf_load_mid (by rfl) _ _ rfl HB 0 (by rfl) (d.vs) _ (fun w hSw => whole_rangeG hSw) Tryd.underlying24 rfl (by rw [size_d, Dg.vs_length])) (by assumption) ?_
  try simp only [Act.put, List.setIfInBounds_toArray, List.set_cons_zero, List.set_cons_succ]
  refine wpAnyH_ready (rs := [2, 3]) (by kernel_rfl) (by simp) ?_
  refine AllReadyH.cons (o := ⟨some 7, _, _, _, _, _⟩) rfl (fun K hK => ?_) ?_
  · rw [if_pos (by rfl)]
    refine wp_alloc_row 24 (by rfl) _ _ info_d ?_
    have hX := Whole.new wd 24 (zeroNums .u8 32).toArray
    have hb9 := hb.trans ((((Below.refl _ _).alloc (Nat.le_refl wd.heap.size) (.cells (zeroNums .u8 32).toArray 24))).mono hb.size)
    replace hF := hF.alloc (.cells (zeroNums .u8 32).toArray 24)
    obtain ⟨X, Xe⟩ : ∃ x, wd.heap.size = x := ⟨_, rfl⟩
    have Xn := Lib.hid (Nat.le_trans hb.size (Nat.le_of_eq Xe))
    clear hb
    have hb := hb9
    clear hb9
    rw [Xe] at hX ⊢
    clear Xe
    generalize wd.alloc (.cells (zeroNums .u8 32).toArray 24) = w2 at hX hb hF ⊢
    refine hK.out _ _ (hF) (fun _ => ?_)
    clear hK K
    try simp only [Act.put, List.setIfInBounds_toArray, List.set_cons_zero, List.set_cons_succ]
    refine wpAnyH_ready (rs := [3]) (by kernel_rfl) (by simp) ?_
    refine AllReadyH.cons (o := ⟨some 8, _, _, _, _, _⟩) rfl (fun K hK => ?_) AllReadyH.nil
    rw [if_pos (by rfl)]
    refine wp_alloc_row 24 (by rfl) _ _ info_d ?_
    have hY := Whole.new w2 24 (zeroNums .u8 32).toArray
    have hb9 := hb.trans ((((Below.refl _ _).alloc (Nat.le_refl w2.heap.size) (.cells (zeroNums .u8 32).toArray 24))).mono hb.size)
    replace hF := hF.alloc (.cells (zeroNums .u8 32).toArray 24)
    have hXY := Nat.ne_of_lt hX.lt
    replace hX := hX.alloc (.cells (zeroNums .u8 32).toArray 24)
    obtain ⟨Y, Ye⟩ : ∃ x, w2.heap.size = x := ⟨_, rfl⟩
    have Yn := Lib.hid (Nat.le_trans hb.size (Nat.le_of_eq Ye))
    clear hb
    have hb := hb9
    clear hb9
    rw [Ye] at hY hXY ⊢
    clear Ye
    generalize w2.alloc (.cells (zeroNums .u8 32).toArray 24) = w3 at hY hX hb hF ⊢
    refine hK.out _ _ (hF) (fun _ => ?_)
    clear hK K
    try simp only [Act.put, List.setIfInBounds_toArray, List.set_cons_zero, List.set_cons_succ]
    refine wpAnyH_ready (rs := [4]) (by kernel_rfl) (by simp) ?_
    refine AllReadyH.cons (o := ⟨none, _, _, _, _, _⟩) rfl (fun K hK => ?_) AllReadyH.nil
    rw [if_pos (by rfl)]
    refine wp_store_row 24 _ _ (by rfl) X d.vs.toArray (by rfl) (by rfl) 24 _ hX (by rw [size_d]; simp [Dg.vs_length]) (by simp [zeroNums, Dg.vs_length]) (Dg.all_one _) ?_
    replace hX := hX.row d.vs
    replace hY := hY.row_far (k := X) (hXY) d.vs.toArray
    replace hF := hF.row_far (k := X) (by have := Xn.out; omega) d.vs.toArray
    replace hb := hb.grown (grown_row (World.grownBy.refl _ (some X)) (.inl rfl) d.vs.toArray) hb.size (fun i hi => by injection hi with hi; have := Xn.out; omega)
    generalize World.setRow _ _ _ = wx at hX hY hF hb ⊢
    refine hK.out _ _ (hF) (fun _ => ?_)
    clear hK K
    try simp only [Act.put]
    refine wpAnyH_ready (rs := [5]) (by kernel_rfl) (by simp) ?_
    refine AllReadyH.cons (o := ⟨none, _, _, _, _, _⟩) rfl (fun K hK => ?_) AllReadyH.nil
    rw [if_pos (by rfl)]
    refine wp_store_row 24 _ _ (by rfl) Y d.vs.toArray (by rfl) (by rfl) 24 _ hY (by rw [size_d]; simp [Dg.vs_length]) (by simp [zeroNums, Dg.vs_length]) (Dg.all_one _) ?_
    replace hY := hY.row d.vs
    replace hX := hX.row_far (k := Y) (hXY.symm) d.vs.toArray
    replace hF := hF.row_far (k := Y) (by have := Yn.out; omega) d.vs.toArray
    replace hb := hb.grown (grown_row (World.grownBy.refl _ (some Y)) (.inl rfl) d.vs.toArray) hb.size (fun i hi => by injection hi with hi; have := Yn.out; omega)
    generalize World.setRow _ _ _ = wx at hX hY hF hb ⊢
    refine hK.out _ _ (hF) (fun _ => ?_)
    clear hK K
    try simp only [Act.put]
    refine wpAnyH_done (by kernel_rfl) ?_ _
    refine NoPanic.normal ?_
    exact HQ.out _ _ _ X Y hX hY (by first | exact hXY | exact hXY.symm) Xn.out Yn.out hb
  refine AllReadyH.cons (o := ⟨some 8, _, _, _, _, _⟩) rfl (fun K hK => ?_) AllReadyH.nil
  rw [if_pos (by rfl)]
  refine wp_alloc_row 24 (by rfl) _ _ info_d ?_
  have hY := Whole.new wd 24 (zeroNums .u8 32).toArray
  have hb9 := hb.trans ((((Below.refl _ _).alloc (Nat.le_refl wd.heap.size) (.cells (zeroNums .u8 32).toArray 24))).mono hb.size)
  replace hF := hF.alloc (.cells (zeroNums .u8 32).toArray 24)
  obtain ⟨Y, Ye⟩ : ∃ x, wd.heap.size = x := ⟨_, rfl⟩
  have Yn := Lib.hid (Nat.le_trans hb.size (Nat.le_of_eq Ye))
  clear hb
  have hb := hb9
  clear hb9
  rw [Ye] at hY ⊢
  clear Ye
  generalize wd.alloc (.cells (zeroNums .u8 32).toArray 24) = w3 at hY hb hF ⊢
  refine hK.out _ _ (hF) (fun _ => ?_)
  clear hK K
  try simp only [Act.put, List.setIfInBounds_toArray, List.set_cons_zero, List.set_cons_succ]
  refine wpAnyH_ready (rs := [2]) (by kernel_rfl) (by simp) ?_
  refine AllReadyH.cons (o := ⟨some 7, _, _, _, _, _⟩) rfl (fun K hK => ?_) AllReadyH.nil
  rw [if_pos (by rfl)]
  refine wp_alloc_row 24 (by rfl) _ _ info_d ?_
  have hX := Whole.new w3 24 (zeroNums .u8 32).toArray
  have hb9 := hb.trans ((((Below.refl _ _).alloc (Nat.le_refl w3.heap.size) (.cells (zeroNums .u8 32).toArray 24))).mono hb.size)
  replace hF := hF.alloc (.cells (zeroNums .u8 32).toArray 24)
  have hXY := Nat.ne_of_lt hY.lt
  replace hY := hY.alloc (.cells (zeroNums .u8 32).toArray 24)
  obtain ⟨X, Xe⟩ : ∃ x, w3.heap.size = x := ⟨_, rfl⟩
  have Xn := Lib.hid (Nat.le_trans hb.size (Nat.le_of_eq Xe))
  clear hb
  have hb := hb9
  clear hb9
  rw [Xe] at hX hXY ⊢
  clear Xe
  generalize w3.alloc (.cells (zeroNums .u8 32).toArray 24) = w2 at hX hY hb hF ⊢
  refine hK.out _ _ (hF) (fun _ => ?_)
  clear hK K
  try simp only [Act.put, List.setIfInBounds_toArray, List.set_cons_zero, List.set_cons_succ]
  refine wpAnyH_ready (rs := [4]) (by kernel_rfl) (by simp) ?_
  refine AllReadyH.cons (o := ⟨none, _, _, _, _, _⟩) rfl (fun K hK => ?_) AllReadyH.nil
  rw [if_pos (by rfl)]
  refine wp_store_row 24 _ _ (by rfl) X d.vs.toArray (by rfl) (by rfl) 24 _ hX (by rw [size_d]; simp [Dg.vs_length]) (by simp [zeroNums, Dg.vs_length]) (Dg.all_one _) ?_
  replace hX := hX.row d.vs
  replace hY := hY.row_far (k := X) (hXY.symm) d.vs.toArray
  replace hF := hF.row_far (k := X) (by have := Xn.out; omega) d.vs.toArray
  replace hb := hb.grown (grown_row (World.grownBy.refl _ (some X)) (.inl rfl) d.vs.toArray) hb.size (fun i hi => by injection hi with hi; have := Xn.out; omega)
  generalize World.setRow _ _ _ = wx at hX hY hF hb ⊢
  refine hK.out _ _ (hF) (fun _ => ?_)
  clear hK K
  try simp only [Act.put]
  refine wpAnyH_ready (rs := [5]) (by kernel_rfl) (by simp) ?_
  refine AllReadyH.cons (o := ⟨none, _, _, _, _, _⟩) rfl (fun K hK => ?_) AllReadyH.nil
  rw [if_pos (by rfl)]
  refine wp_store_row 24 _ _ (by rfl) Y d.vs.toArray (by rfl) (by rfl) 24 _ hY (by rw [size_d]; simp [Dg.vs_length]) (by simp [zeroNums, Dg.vs_length]) (Dg.all_one _) ?_
  replace hY := hY.row d.vs
  replace hX := hX.row_far (k := Y) (hXY) d.vs.toArray
  replace hF := hF.row_far (k := Y) (by have := Yn.out; omega) d.vs.toArray
  replace hb := hb.grown (grown_row (World.grownBy.refl _ (some Y)) (.inl rfl) d.vs.toArray) hb.size (fun i hi => by injection hi with hi; have := Yn.out; omega)
  generalize World.setRow _ _ _ = wx at hX hY hF hb ⊢
  refine hK.out _ _ (hF) (fun _ => ?_)
  clear hK K
  try simp only [Act.put]
  refine wpAnyH_done (by kernel_rfl) ?_ _
  refine NoPanic.normal ?_
  exact HQ.out _ _ _ X Y hX hY (by first | exact hXY | exact hXY.symm) Xn.out Yn.out hb


noncomputable def cnextaCode : Code := subCode [1, 1, 0, 1, 2, 2, 1, 0, 2, 0] ((Tryd.f26.body).getD .skip)

set_option maxRecDepth 100000 in
set_option maxHeartbeats 4000000 in
theorem cnexta_step {z0 z2 z3 z4 z5 z6 z8 z10 z11 z12 z13 z14 z15 z16 z17 z18 z19 z20 z21 z22 z23 z24 z25 z26 z27 z28 z29 z30 z31 z32 z33 z34 z35 z36 z37 z38 z39 z40 z41 z42 z43 z44 z45 z46 z47 z48 z49 z50 z51 z52 z53 z54 z55 z56 z57 z58 z59 z60 z61 z62 z63 z64 z65 z66 z67 z68 z69 z70 z71 z72 : Value} {w : World} {g o k NL c FB : Nat} {first : Dg} {n : Nt} {U : Dg} {C : Int} (hF : Whole w FB 24 first.vs) (hTab : KTab w) (hrng : w.rangeAt g (o + k * 6) n.cells) (hg : g < w.heap.size) (i2 : 0 ≤ (k : Int) ∧ (k : Int) < (NL : Int))
    (HN : Hid (∀ w', KTab w' → Calls Tryd.prog 11 #[.agg first.vs.toArray, .agg n.cells.toArray] w' fun e w'' => e = .returned (.tuple #[.agg U.vs.toArray, .int .i64 C]) ∧ Below w'.heap.size w' w'')) {Q : Exit → Act → World → Prop}
    (hq : ∀ (y28 y29 y30 y31 y32 y33 y34 y35 y36 : Value) (w' : World) (X : Nat), Below w.heap.size w w' → Whole w' X 24 U.vs → w.heap.size ≤ X → Q .normal ⟨(z0 :: .slice (some ⟨g, o, none⟩) NL c :: z2 :: z3 :: z4 :: z5 :: z6 :: .pointer (some ⟨FB, 0, none⟩) :: z8 :: .int .i64 k :: .pointer (some ⟨X, 0, none⟩) :: .int .i64 C :: z12 :: z13 :: z14 :: z15 :: z16 :: z17 :: z18 :: z19 :: z20 :: z21 :: z22 :: z23 :: z24 :: z25 :: z26 :: z27 :: y28 :: y29 :: y30 :: y31 :: y32 :: y33 :: y34 :: y35 :: y36 :: z37 :: z38 :: z39 :: z40 :: z41 :: z42 :: z43 :: z44 :: z45 :: z46 :: z47 :: z48 :: z49 :: z50 :: z51 :: z52 :: z53 :: z54 :: z55 :: z56 :: z57 :: z58 :: z59 :: z60 :: z61 :: z62 :: z63 :: z64 :: z65 :: z66 :: z67 :: z68 :: z69 :: z70 :: z71 :: z72 :: []).toArray, []⟩ w') : Code.wp Tryd.prog cnextaCode Q ⟨(z0 :: .slice (some ⟨g, o, none⟩) NL c :: z2 :: z3 :: z4 :: z5 :: z6 :: .pointer (some ⟨FB, 0, none⟩) :: z8 :: .int .i64 k :: z10 :: z11 :: z12 :: z13 :: z14 :: z15 :: z16 :: z17 :: z18 :: z19 :: z20 :: z21 :: z22 :: z23 :: z24 :: z25 :: z26 :: z27 :: z28 :: z29 :: z30 :: z31 :: z32 :: z33 :: z34 :: z35 :: z36 :: z37 :: z38 :: z39 :: z40 :: z41 :: z42 :: z43 :: z44 :: z45 :: z46 :: z47 :: z48 :: z49 :: z50 :: z51 :: z52 :: z53 :: z54 :: z55 :: z56 :: z57 :: z58 :: z59 :: z60 :: z61 :: z62 :: z63 :: z64 :: z65 :: z66 :: z67 :: z68 :: z69 :: z70 :: z71 :: z72 :: []).toArray, []⟩ w := by
  conv => arg 2; whnf
  have HQ := Lib.hid hq
  clear hq
  refine wp_region_noPanic ?_
  refine wp_region_held_drew (S := fun w' => w'.rangeAt g (o + k * 6) n.cells ∧ Whole w' FB 24 first.vs) (by kernel_rfl) (⟨hrng, hF.drew⟩) (fun hhS => ?_)
  have hb : Below w.heap.size w w.drew := (Below.refl _ _).drew
  clear hhS
  generalize w.drew = wd at hb ⊢
  have hhS : wd.rangeAt g (o + k * 6) n.cells ∧ Whole wd FB 24 first.vs := ⟨rng_low hrng hg hb, hF.below hb hF.lt⟩
  refine wpAnyH_take (i := 0) (oi := ⟨some 29, _, _, _, _, _⟩) (v := _) rfl (by kernel_rfl) (by kernel_rfl) (by kernel_rfl) (fun _ _ _ h => h) (yieldsIf_load_mid (by rfl) _ _ rfl FB 0 (by rfl) (first.vs) _ (fun w hSw => whole_rangeG hSw.2) Tryd.underlying24 rfl (by rw [size_d, Dg.vs_length])) (by assumption) ?_
  try simp only [Act.put, List.setIfInBounds_toArray, List.set_cons_zero, List.set_cons_succ]
  refine wpAnyH_take (i := 1) (oi := ⟨some 30, _, _, _, _, _⟩) (v := ?_) rfl (by kernel_rfl) (by kernel_rfl) (by kernel_rfl) (fun _ _ _ h => h) (Or.inl ⟨by rfl, ?_⟩) (by assumption) ?_
  rotate_left
  · intro w hSw
    (try dsimp only at hSw)
    go_simp
    all_goals (with_reducible rfl)
  try simp only [Act.put, List.setIfInBounds_toArray, List.set_cons_zero, List.set_cons_succ]
  refine wpAnyH_take (i := 2) (oi := ⟨some 31, _, _, _, _, _⟩) (v := ?_) rfl (by kernel_rfl) (by kernel_rfl) (by kernel_rfl) (fun _ _ _ h => h) (Or.inl ⟨by rfl, ?_⟩) (by assumption) ?_
  rotate_left
  · intro w hSw
    (try dsimp only at hSw)
    go_simp
    all_goals (with_reducible rfl)
  try simp only [Act.put, List.setIfInBounds_toArray, List.set_cons_zero, List.set_cons_succ]
  refine wpAnyH_take (i := 3) (oi := ⟨some 32, _, _, _, _, _⟩) (v := ?_) rfl (by kernel_rfl) (by kernel_rfl) (by kernel_rfl) (fun _ _ _ h => h) (Or.inl ⟨by rfl, ?_⟩) (by assumption) ?_
  rotate_left
  · intro w hSw
    (try dsimp only at hSw)
    go_simp
    all_goals (with_reducible rfl)
  try simp only [Act.put, List.setIfInBounds_toArray, List.set_cons_zero, List.set_cons_succ]
  refine wpAnyH_take (i := 4) (oi := ⟨some 33, _, _, _, _, _⟩) (v := _) rfl (by kernel_rfl) (by kernel_rfl) (by kernel_rfl) (fun _ _ _ h => h) (yieldsIf_load_mid (by rfl) _ _ rfl g (o + k * 6) (by rfl) (n.cells) _ (fun w hSw => hSw.1) Tryd.underlying36 rfl (by rw [size_n]; rfl)) (by assumption) ?_
  try simp only [Act.put, List.setIfInBounds_toArray, List.set_cons_zero, List.set_cons_succ]
  refine wpAnyH_ready (rs := [5, 9]) (by kernel_rfl) (by simp) ?_
  refine AllReadyH.cons (o := ⟨some 34, _, _, _, _, _⟩) rfl (fun K hK => ?_) ?_
  · go_simp
    refine (HN.out _ (hTab.below hb hTab.1)).mono ?_
    rintro e w5 ⟨rfl, hb5⟩
    replace hb := hb.trans (hb5.mono hb.size)
    clear hb5
    refine hK.out _ _ (⟨rng_low hrng hg hb, hF.below hb hF.lt⟩) (fun _ => ?_)
    clear hK K
    try simp only [Act.put, List.setIfInBounds_toArray, List.set_cons_zero, List.set_cons_succ]
    refine wpAnyH_take (i := 6) (oi := ⟨some 28, _, _, _, _, _⟩) (v := ?_) rfl (by kernel_rfl) (by kernel_rfl) (by kernel_rfl) (fun _ _ _ h => h) (Or.inl ⟨by rfl, ?_⟩) (by assumption) ?_
    rotate_left
    · intro w hSw
      (try dsimp only at hSw)
      go_simp
      all_goals (with_reducible rfl)
    try simp only [Act.put, List.setIfInBounds_toArray, List.set_cons_zero, List.set_cons_succ]
    refine wpAnyH_take (i := 7) (oi := ⟨some 35, _, _, _, _, _⟩) (v := ?_) rfl (by kernel_rfl) (by kernel_rfl) (by kernel_rfl) (fun _ _ _ h => h) (Or.inl ⟨by rfl, ?_⟩) (by assumption) ?_
    rotate_left
    · intro w hSw
      (try dsimp only at hSw)
      go_simp
      all_goals (with_reducible rfl)
    try simp only [Act.put, List.setIfInBounds_toArray, List.set_cons_zero, List.set_cons_succ]
    refine wpAnyH_take (i := 8) (oi := ⟨some 36, _, _, _, _, _⟩) (v := ?_) rfl (by kernel_rfl) (by kernel_rfl) (by kernel_rfl) (fun _ _ _ h => h) (Or.inl ⟨by rfl, ?_⟩) (by assumption) ?_
    rotate_left
    · intro w hSw
      (try dsimp only at hSw)
      go_simp
      all_goals (with_reducible rfl)
    try simp only [Act.put, List.setIfInBounds_toArray, List.set_cons_zero, List.set_cons_succ]
    refine wpAnyH_ready (rs := [9]) (by kernel_rfl) (by simp) ?_
    refine AllReadyH.cons (o := ⟨some 10, _, _, _, _, _⟩) rfl (fun K hK => ?_) AllReadyH.nil
    rw [if_pos (by rfl)]
    refine wp_alloc_row 24 (by rfl) _ _ info_d ?_
    have hX := Whole.new w5 24 (zeroNums .u8 32).toArray
    have hb9 := hb.trans ((((Below.refl _ _).alloc (Nat.le_refl w5.heap.size) (.cells (zeroNums .u8 32).toArray 24))).mono hb.size)
    obtain ⟨X, hXe⟩ : ∃ x, w5.heap.size = x := ⟨_, rfl⟩
    have HXn := Lib.hid (Nat.le_trans hb.size (Nat.le_of_eq hXe))
    clear hb
    have hb := hb9
    clear hb9
    rw [hXe] at hX ⊢
    clear hXe
    generalize w5.alloc (.cells (zeroNums .u8 32).toArray 24) = w9 at hX hb ⊢
    refine hK.out _ _ (⟨rng_low hrng hg hb, hF.below hb hF.lt⟩) (fun _ => ?_)
    clear hK K
    try simp only [Act.put, List.setIfInBounds_toArray, List.set_cons_zero, List.set_cons_succ]
    refine wpAnyH_ready (rs := [10]) (by kernel_rfl) (by simp) ?_
    refine AllReadyH.cons (o := ⟨none, _, _, _, _, _⟩) rfl (fun K hK => ?_) AllReadyH.nil
    rw [if_pos (by rfl)]
    refine wp_store_row 24 _ _ (by rfl) X U.vs.toArray (by rfl) (by rfl) 24 _ hX (by rw [size_d]; simp [Dg.vs_length]) (by simp [zeroNums, Dg.vs_length]) (Dg.all_one _) ?_
    replace hX := hX.row U.vs
    replace hb := hb.grown (grown_row (World.grownBy.refl _ (some X)) (.inl rfl) U.vs.toArray) hb.size (fun i hi => by injection hi with hi; have := HXn.out; omega)
    generalize World.setRow _ _ _ = wx at hX hb ⊢
    refine hK.out _ _ (⟨rng_low hrng hg hb, hF.below hb hF.lt⟩) (fun _ => ?_)
    clear hK K
    try simp only [Act.put]
    refine wpAnyH_take (i := 11) (oi := ⟨some 11, _, _, _, _, _⟩) (v := ?_) rfl (by kernel_rfl) (by kernel_rfl) (by kernel_rfl) (fun _ _ _ h => h) (Or.inl ⟨by rfl, ?_⟩) (by assumption) ?_
    rotate_left
    · intro w hSw
      (try dsimp only at hSw)
      go_simp
      all_goals (with_reducible rfl)
    try simp only [Act.put, List.setIfInBounds_toArray, List.set_cons_zero, List.set_cons_succ]
    refine wpAnyH_done (by kernel_rfl) ?_ _
    refine NoPanic.normal ?_
    exact HQ.out _ _ _ _ _ _ _ _ _ _ X hb hX HXn.out
  refine AllReadyH.cons (o := ⟨some 10, _, _, _, _, _⟩) rfl (fun K hK => ?_) AllReadyH.nil
  rw [if_pos (by rfl)]
  refine wp_alloc_row 24 (by rfl) _ _ info_d ?_
  have hX := Whole.new wd 24 (zeroNums .u8 32).toArray
  have hb9 := hb.trans ((((Below.refl _ _).alloc (Nat.le_refl wd.heap.size) (.cells (zeroNums .u8 32).toArray 24))).mono hb.size)
  obtain ⟨X, hXe⟩ : ∃ x, wd.heap.size = x := ⟨_, rfl⟩
  have HXn := Lib.hid (Nat.le_trans hb.size (Nat.le_of_eq hXe))
  clear hb
  have hb := hb9
  clear hb9
  rw [hXe] at hX ⊢
  clear hXe
  generalize wd.alloc (.cells (zeroNums .u8 32).toArray 24) = w9 at hX hb ⊢
  refine hK.out _ _ (⟨rng_low hrng hg hb, hF.below hb hF.lt⟩) (fun _ => ?_)
  clear hK K
  try simp only [Act.put, List.setIfInBounds_toArray, List.set_cons_zero, List.set_cons_succ]
  refine wpAnyH_ready (rs := [5]) (by kernel_rfl) (by simp) ?_
  refine AllReadyH.cons (o := ⟨some 34, _, _, _, _, _⟩) rfl (fun K hK => ?_) AllReadyH.nil
  go_simp
  refine (HN.out _ (hTab.below hb hTab.1)).mono ?_
  rintro e w5 ⟨rfl, hb5⟩
  replace hX := hX.below hb5 hX.lt
  replace hb := hb.trans (hb5.mono hb.size)
  clear hb5
  refine hK.out _ _ (⟨rng_low hrng hg hb, hF.below hb hF.lt⟩) (fun _ => ?_)
  clear hK K
  try simp only [Act.put, List.setIfInBounds_toArray, List.set_cons_zero, List.set_cons_succ]
  refine wpAnyH_take (i := 6) (oi := ⟨some 28, _, _, _, _, _⟩) (v := ?_) rfl (by kernel_rfl) (by kernel_rfl) (by kernel_rfl) (fun _ _ _ h => h) (Or.inl ⟨by rfl, ?_⟩) (by assumption) ?_
  rotate_left
  · intro w hSw
    (try dsimp only at hSw)
    go_simp
    all_goals (with_reducible rfl)
  try simp only [Act.put, List.setIfInBounds_toArray, List.set_cons_zero, List.set_cons_succ]
  refine wpAnyH_take (i := 7) (oi := ⟨some 35, _, _, _, _, _⟩) (v := ?_) rfl (by kernel_rfl) (by kernel_rfl) (by kernel_rfl) (fun _ _ _ h => h) (Or.inl ⟨by rfl, ?_⟩) (by assumption) ?_
  rotate_left
  · intro w hSw
    (try dsimp only at hSw)
    go_simp
    all_goals (with_reducible rfl)
  try simp only [Act.put, List.setIfInBounds_toArray, List.set_cons_zero, List.set_cons_succ]
  refine wpAnyH_take (i := 8) (oi := ⟨some 36, _, _, _, _, _⟩) (v := ?_) rfl (by kernel_rfl) (by kernel_rfl) (by kernel_rfl) (fun _ _ _ h => h) (Or.inl ⟨by rfl, ?_⟩) (by assumption) ?_
  rotate_left
  · intro w hSw
    (try dsimp only at hSw)
    go_simp
    all_goals (with_reducible rfl)
  try simp only [Act.put, List.setIfInBounds_toArray, List.set_cons_zero, List.set_cons_succ]
  refine wpAnyH_ready (rs := [10]) (by kernel_rfl) (by simp) ?_
  refine AllReadyH.cons (o := ⟨none, _, _, _, _, _⟩) rfl (fun K hK => ?_) AllReadyH.nil
  rw [if_pos (by rfl)]
  refine wp_store_row 24 _ _ (by rfl) X U.vs.toArray (by rfl) (by rfl) 24 _ hX (by rw [size_d]; simp [Dg.vs_length]) (by simp [zeroNums, Dg.vs_length]) (Dg.all_one _) ?_
  replace hX := hX.row U.vs
  replace hb := hb.grown (grown_row (World.grownBy.refl _ (some X)) (.inl rfl) U.vs.toArray) hb.size (fun i hi => by injection hi with hi; have := HXn.out; omega)
  generalize World.setRow _ _ _ = wx at hX hb ⊢
  refine hK.out _ _ (⟨rng_low hrng hg hb, hF.below hb hF.lt⟩) (fun _ => ?_)
  clear hK K
  try simp only [Act.put]
  refine wpAnyH_take (i := 11) (oi := ⟨some 11, _, _, _, _, _⟩) (v := ?_) rfl (by kernel_rfl) (by kernel_rfl) (by kernel_rfl) (fun _ _ _ h => h) (Or.inl ⟨by rfl, ?_⟩) (by assumption) ?_
  rotate_left
  · intro w hSw
    (try dsimp only at hSw)
    go_simp
    all_goals (with_reducible rfl)
  try simp only [Act.put, List.setIfInBounds_toArray, List.set_cons_zero, List.set_cons_succ]
  refine wpAnyH_done (by kernel_rfl) ?_ _
  refine NoPanic.normal ?_
  exact HQ.out _ _ _ _ _ _ _ _ _ _ X hb hX HXn.out


noncomputable def cnextbCode : Code := subCode [1, 1, 0, 1, 2, 2, 1, 0, 2, 1, 0] ((Tryd.f26.body).getD .skip)

set_option maxRecDepth 100000 in
set_option maxHeartbeats 4000000 in
theorem cnextb_step {z0 z1 z3 z4 z5 z6 z7 z10 z11 z12 z13 z14 z15 z16 z17 z18 z19 z20 z21 z22 z23 z24 z25 z26 z27 z28 z29 z30 z31 z32 z33 z34 z35 z36 z37 z38 z39 z40 z41 z42 z43 z44 z45 z46 z47 z48 z49 z50 z51 z52 z53 z54 z55 z56 z57 z58 z59 z60 z61 z62 z63 z64 z65 z66 z67 z68 z69 z70 z71 z72 : Value} {w : World} {g o k NL c FB : Nat} {first : Dg} {n : Nt} {U : Dg} {C : Int} (hF : Whole w FB 24 first.vs) (hTab : KTab w) (hrng : w.rangeAt g (o + k * 6) n.cells) (hg : g < w.heap.size) (i2 : 0 ≤ (k : Int) ∧ (k : Int) < (NL : Int))
    (HN : Hid (∀ w', KTab w' → Calls Tryd.prog 11 #[.agg first.vs.toArray, .agg n.cells.toArray] w' fun e w'' => e = .returned (.tuple #[.agg U.vs.toArray, .int .i64 C]) ∧ Below w'.heap.size w' w'')) {Q : Exit → Act → World → Prop}
    (hq : ∀ (y37 y38 y39 y40 y41 y42 y43 y44 y45 : Value) (w' : World) (X : Nat), Below w.heap.size w w' → Whole w' X 24 U.vs → w.heap.size ≤ X → Q .normal ⟨(z0 :: z1 :: .slice (some ⟨g, o, none⟩) NL c :: z3 :: z4 :: z5 :: z6 :: z7 :: .pointer (some ⟨FB, 0, none⟩) :: .int .i64 k :: z10 :: z11 :: .pointer (some ⟨X, 0, none⟩) :: .int .i64 C :: z14 :: z15 :: z16 :: z17 :: z18 :: z19 :: z20 :: z21 :: z22 :: z23 :: z24 :: z25 :: z26 :: z27 :: z28 :: z29 :: z30 :: z31 :: z32 :: z33 :: z34 :: z35 :: z36 :: y37 :: y38 :: y39 :: y40 :: y41 :: y42 :: y43 :: y44 :: y45 :: z46 :: z47 :: z48 :: z49 :: z50 :: z51 :: z52 :: z53 :: z54 :: z55 :: z56 :: z57 :: z58 :: z59 :: z60 :: z61 :: z62 :: z63 :: z64 :: z65 :: z66 :: z67 :: z68 :: z69 :: z70 :: z71 :: z72 :: []).toArray, []⟩ w') : Code.wp Tryd.prog cnextbCode Q ⟨(z0 :: z1 :: .slice (some ⟨g, o, none⟩) NL c :: z3 :: z4 :: z5 :: z6 :: z7 :: .pointer (some ⟨FB, 0, none⟩) :: .int .i64 k :: z10 :: z11 :: z12 :: z13 :: z14 :: z15 :: z16 :: z17 :: z18 :: z19 :: z20 :: z21 :: z22 :: z23 :: z24 :: z25 :: z26 :: z27 :: z28 :: z29 :: z30 :: z31 :: z32 :: z33 :: z34 :: z35 :: z36 :: z37 :: z38 :: z39 :: z40 :: z41 :: z42 :: z43 :: z44 :: z45 :: z46 :: z47 :: z48 :: z49 :: z50 :: z51 :: z52 :: z53 :: z54 :: z55 :: z56 :: z57 :: z58 :: z59 :: z60 :: z61 :: z62 :: z63 :: z64 :: z65 :: z66 :: z67 :: z68 :: z69 :: z70 :: z71 :: z72 :: []).toArray, []⟩ w := by
  conv => arg 2; whnf
  have HQ := Lib.hid hq
  clear hq
  refine wp_region_noPanic ?_
  refine wp_region_held_drew (S := fun w' => w'.rangeAt g (o + k * 6) n.cells ∧ Whole w' FB 24 first.vs) (by kernel_rfl) (⟨hrng, hF.drew⟩) (fun hhS => ?_)
  have hb : Below w.heap.size w w.drew := (Below.refl _ _).drew
  clear hhS
  generalize w.drew = wd at hb ⊢
  have hhS : wd.rangeAt g (o + k * 6) n.cells ∧ Whole wd FB 24 first.vs := ⟨rng_low hrng hg hb, hF.below hb hF.lt⟩
  refine wpAnyH_take (i := 0) (oi := ⟨some 38, _, _, _, _, _⟩) (v := _) rfl (by kernel_rfl) (by kernel_rfl) (by kernel_rfl) (fun _ _ _ h => h) (yieldsIf_load_mid (by rfl) _ _ rfl FB 0 (by rfl) (first.vs) _ (fun w hSw => whole_rangeG hSw.2) Tryd.underlying24 rfl (by rw [size_d, Dg.vs_length])) (by assumption) ?_
  try simp only [Act.put, List.setIfInBounds_toArray, List.set_cons_zero, List.set_cons_succ]
  refine wpAnyH_take (i := 1) (oi := ⟨some 39, _, _, _, _, _⟩) (v := ?_) rfl (by kernel_rfl) (by kernel_rfl) (by kernel_rfl) (fun _ _ _ h => h) (Or.inl ⟨by rfl, ?_⟩) (by assumption) ?_
  rotate_left
  · intro w hSw
    (try dsimp only at hSw)
    go_simp
    all_goals (with_reducible rfl)
  try simp only [Act.put, List.setIfInBounds_toArray, List.set_cons_zero, List.set_cons_succ]
  refine wpAnyH_take (i := 2) (oi := ⟨some 40, _, _, _, _, _⟩) (v := ?_) rfl (by kernel_rfl) (by kernel_rfl) (by kernel_rfl) (fun _ _ _ h => h) (Or.inl ⟨by rfl, ?_⟩) (by assumption) ?_
  rotate_left
  · intro w hSw
    (try dsimp only at hSw)
    go_simp
    all_goals (with_reducible rfl)
  try simp only [Act.put, List.setIfInBounds_toArray, List.set_cons_zero, List.set_cons_succ]
  refine wpAnyH_take (i := 3) (oi := ⟨some 41, _, _, _, _, _⟩) (v := ?_) rfl (by kernel_rfl) (by kernel_rfl) (by kernel_rfl) (fun _ _ _ h => h) (Or.inl ⟨by rfl, ?_⟩) (by assumption) ?_
  rotate_left
  · intro w hSw
    (try dsimp only at hSw)
    go_simp
    all_goals (with_reducible rfl)
  try simp only [Act.put, List.setIfInBounds_toArray, List.set_cons_zero, List.set_cons_succ]
  refine wpAnyH_take (i := 4) (oi := ⟨some 42, _, _, _, _, _⟩) (v := _) rfl (by kernel_rfl) (by kernel_rfl) (by kernel_rfl) (fun _ _ _ h => h) (yieldsIf_load_mid (by rfl) _ _ rfl g (o + k * 6) (by rfl) (n.cells) _ (fun w hSw => hSw.1) Tryd.underlying36 rfl (by rw [size_n]; rfl)) (by assumption) ?_
  try simp only [Act.put, List.setIfInBounds_toArray, List.set_cons_zero, List.set_cons_succ]
  refine wpAnyH_ready (rs := [5, 9]) (by kernel_rfl) (by simp) ?_
  refine AllReadyH.cons (o := ⟨some 43, _, _, _, _, _⟩) rfl (fun K hK => ?_) ?_
  · go_simp
    refine (HN.out _ (hTab.below hb hTab.1)).mono ?_
    rintro e w5 ⟨rfl, hb5⟩
    replace hb := hb.trans (hb5.mono hb.size)
    clear hb5
    refine hK.out _ _ (⟨rng_low hrng hg hb, hF.below hb hF.lt⟩) (fun _ => ?_)
    clear hK K
    try simp only [Act.put, List.setIfInBounds_toArray, List.set_cons_zero, List.set_cons_succ]
    refine wpAnyH_take (i := 6) (oi := ⟨some 37, _, _, _, _, _⟩) (v := ?_) rfl (by kernel_rfl) (by kernel_rfl) (by kernel_rfl) (fun _ _ _ h => h) (Or.inl ⟨by rfl, ?_⟩) (by assumption) ?_
    rotate_left
    · intro w hSw
      (try dsimp only at hSw)
      go_simp
      all_goals (with_reducible rfl)
    try simp only [Act.put, List.setIfInBounds_toArray, List.set_cons_zero, List.set_cons_succ]
    refine wpAnyH_take (i := 7) (oi := ⟨some 44, _, _, _, _, _⟩) (v := ?_) rfl (by kernel_rfl) (by kernel_rfl) (by kernel_rfl) (fun _ _ _ h => h) (Or.inl ⟨by rfl, ?_⟩) (by assumption) ?_
    rotate_left
    · intro w hSw
      (try dsimp only at hSw)
      go_simp
      all_goals (with_reducible rfl)
    try simp only [Act.put, List.setIfInBounds_toArray, List.set_cons_zero, List.set_cons_succ]
    refine wpAnyH_take (i := 8) (oi := ⟨some 45, _, _, _, _, _⟩) (v := ?_) rfl (by kernel_rfl) (by kernel_rfl) (by kernel_rfl) (fun _ _ _ h => h) (Or.inl ⟨by rfl, ?_⟩) (by assumption) ?_
    rotate_left
    · intro w hSw
      (try dsimp only at hSw)
      go_simp
      all_goals (with_reducible rfl)
    try simp only [Act.put, List.setIfInBounds_toArray, List.set_cons_zero, List.set_cons_succ]
    refine wpAnyH_ready (rs := [9]) (by kernel_rfl) (by simp) ?_
    refine AllReadyH.cons (o := ⟨some 12, _, _, _, _, _⟩) rfl (fun K hK => ?_) AllReadyH.nil
    rw [if_pos (by rfl)]
    refine wp_alloc_row 24 (by rfl) _ _ info_d ?_
    have hX := Whole.new w5 24 (zeroNums .u8 32).toArray
    have hb9 := hb.trans ((((Below.refl _ _).alloc (Nat.le_refl w5.heap.size) (.cells (zeroNums .u8 32).toArray 24))).mono hb.size)
    obtain ⟨X, hXe⟩ : ∃ x, w5.heap.size = x := ⟨_, rfl⟩
    have HXn := Lib.hid (Nat.le_trans hb.size (Nat.le_of_eq hXe))
    clear hb
    have hb := hb9
    clear hb9
    rw [hXe] at hX ⊢
    clear hXe
    generalize w5.alloc (.cells (zeroNums .u8 32).toArray 24) = w9 at hX hb ⊢
    refine hK.out _ _ (⟨rng_low hrng hg hb, hF.below hb hF.lt⟩) (fun _ => ?_)
    clear hK K
    try simp only [Act.put, List.setIfInBounds_toArray, List.set_cons_zero, List.set_cons_succ]
    refine wpAnyH_ready (rs := [10]) (by kernel_rfl) (by simp) ?_
    refine AllReadyH.cons (o := ⟨none, _, _, _, _, _⟩) rfl (fun K hK => ?_) AllReadyH.nil
    rw [if_pos (by rfl)]
    refine wp_store_row 24 _ _ (by rfl) X U.vs.toArray (by rfl) (by rfl) 24 _ hX (by rw [size_d]; simp [Dg.vs_length]) (by simp [zeroNums, Dg.vs_length]) (Dg.all_one _) ?_
    replace hX := hX.row U.vs
    replace hb := hb.grown (grown_row (World.grownBy.refl _ (some X)) (.inl rfl) U.vs.toArray) hb.size (fun i hi => by injection hi with hi; have := HXn.out; omega)
    generalize World.setRow _ _ _ = wx at hX hb ⊢
    refine hK.out _ _ (⟨rng_low hrng hg hb, hF.below hb hF.lt⟩) (fun _ => ?_)
    clear hK K
    try simp only [Act.put]
    refine wpAnyH_take (i := 11) (oi := ⟨some 13, _, _, _, _, _⟩) (v := ?_) rfl (by kernel_rfl) (by kernel_rfl) (by kernel_rfl) (fun _ _ _ h => h) (Or.inl ⟨by rfl, ?_⟩) (by assumption) ?_
    rotate_left
    · intro w hSw
      (try dsimp only at hSw)
      go_simp
      all_goals (with_reducible rfl)
    try simp only [Act.put, List.setIfInBounds_toArray, List.set_cons_zero, List.set_cons_succ]
    refine wpAnyH_done (by kernel_rfl) ?_ _
    refine NoPanic.normal ?_
    exact HQ.out _ _ _ _ _ _ _ _ _ _ X hb hX HXn.out
  refine AllReadyH.cons (o := ⟨some 12, _, _, _, _, _⟩) rfl (fun K hK => ?_) AllReadyH.nil
  rw [if_pos (by rfl)]
  refine wp_alloc_row 24 (by rfl) _ _ info_d ?_
  have hX := Whole.new wd 24 (zeroNums .u8 32).toArray
  have hb9 := hb.trans ((((Below.refl _ _).alloc (Nat.le_refl wd.heap.size) (.cells (zeroNums .u8 32).toArray 24))).mono hb.size)
  obtain ⟨X, hXe⟩ : ∃ x, wd.heap.size = x := ⟨_, rfl⟩
  have HXn := Lib.hid (Nat.le_trans hb.size (Nat.le_of_eq hXe))
  clear hb
  have hb := hb9
  clear hb9
  rw [hXe] at hX ⊢
  clear hXe
  generalize wd.alloc (.cells (zeroNums .u8 32).toArray 24) = w9 at hX hb ⊢
  refine hK.out _ _ (⟨rng_low hrng hg hb, hF.below hb hF.lt⟩) (fun _ => ?_)
  clear hK K
  try simp only [Act.put, List.setIfInBounds_toArray, List.set_cons_zero, List.set_cons_succ]
  refine wpAnyH_ready (rs := [5]) (by kernel_rfl) (by simp) ?_
  refine AllReadyH.cons (o := ⟨some 43, _, _, _, _, _⟩) rfl (fun K hK => ?_) AllReadyH.nil
  go_simp
  refine (HN.out _ (hTab.below hb hTab.1)).mono ?_
  rintro e w5 ⟨rfl, hb5⟩
  replace hX := hX.below hb5 hX.lt
  replace hb := hb.trans (hb5.mono hb.size)
  clear hb5
  refine hK.out _ _ (⟨rng_low hrng hg hb, hF.below hb hF.lt⟩) (fun _ => ?_)
  clear hK K
  try simp only [Act.put, List.setIfInBounds_toArray, List.set_cons_zero, List.set_cons_succ]
  refine wpAnyH_take (i := 6) (oi := ⟨some 37, _, _, _, _, _⟩) (v := ?_) rfl (by kernel_rfl) (by kernel_rfl) (by kernel_rfl) (fun _ _ _ h => h) (Or.inl ⟨by rfl, ?_⟩) (by assumption) ?_
  rotate_left
  · intro w hSw
    (try dsimp only at hSw)
    go_simp
    all_goals (with_reducible rfl)
  try simp only [Act.put, List.setIfInBounds_toArray, List.set_cons_zero, List.set_cons_succ]
  refine wpAnyH_take (i := 7) (oi := ⟨some 44, _, _, _, _, _⟩) (v := ?_) rfl (by kernel_rfl) (by kernel_rfl) (by kernel_rfl) (fun _ _ _ h => h) (Or.inl ⟨by rfl, ?_⟩) (by assumption) ?_
  rotate_left
  · intro w hSw
    (try dsimp only at hSw)
    go_simp
    all_goals (with_reducible rfl)
  try simp only [Act.put, List.setIfInBounds_toArray, List.set_cons_zero, List.set_cons_succ]
  refine wpAnyH_take (i := 8) (oi := ⟨some 45, _, _, _, _, _⟩) (v := ?_) rfl (by kernel_rfl) (by kernel_rfl) (by kernel_rfl) (fun _ _ _ h => h) (Or.inl ⟨by rfl, ?_⟩) (by assumption) ?_
  rotate_left
  · intro w hSw
    (try dsimp only at hSw)
    go_simp
    all_goals (with_reducible rfl)
  try simp only [Act.put, List.setIfInBounds_toArray, List.set_cons_zero, List.set_cons_succ]
  refine wpAnyH_ready (rs := [10]) (by kernel_rfl) (by simp) ?_
  refine AllReadyH.cons (o := ⟨none, _, _, _, _, _⟩) rfl (fun K hK => ?_) AllReadyH.nil
  rw [if_pos (by rfl)]
  refine wp_store_row 24 _ _ (by rfl) X U.vs.toArray (by rfl) (by rfl) 24 _ hX (by rw [size_d]; simp [Dg.vs_length]) (by simp [zeroNums, Dg.vs_length]) (Dg.all_one _) ?_
  replace hX := hX.row U.vs
  replace hb := hb.grown (grown_row (World.grownBy.refl _ (some X)) (.inl rfl) U.vs.toArray) hb.size (fun i hi => by injection hi with hi; have := HXn.out; omega)
  generalize World.setRow _ _ _ = wx at hX hb ⊢
  refine hK.out _ _ (⟨rng_low hrng hg hb, hF.below hb hF.lt⟩) (fun _ => ?_)
  clear hK K
  try simp only [Act.put]
  refine wpAnyH_take (i := 11) (oi := ⟨some 13, _, _, _, _, _⟩) (v := ?_) rfl (by kernel_rfl) (by kernel_rfl) (by kernel_rfl) (fun _ _ _ h => h) (Or.inl ⟨by rfl, ?_⟩) (by assumption) ?_
  rotate_left
  · intro w hSw
    (try dsimp only at hSw)
    go_simp
    all_goals (with_reducible rfl)
  try simp only [Act.put, List.setIfInBounds_toArray, List.set_cons_zero, List.set_cons_succ]
  refine wpAnyH_done (by kernel_rfl) ?_ _
  refine NoPanic.normal ?_
  exact HQ.out _ _ _ _ _ _ _ _ _ _ X hb hX HXn.out


noncomputable def ctestnCode : Code := subCode [1, 1, 0, 1, 2, 2, 1, 0, 2, 1, 1, 1, 0, 0] ((Tryd.f26.body).getD .skip)

set_option maxRecDepth 100000 in
set_option maxHeartbeats 4000000 in
theorem ctestn_step {z0 z3 z4 z5 z6 z11 z13 z14 z15 z16 z17 z18 z19 z20 z21 z22 z23 z24 z25 z26 z27 z28 z29 z30 z31 z32 z33 z34 z35 z36 z37 z38 z39 z40 z41 z42 z43 z44 z45 z46 z47 z48 z49 z50 z51 z52 z53 z54 z55 z56 z57 z58 z59 z60 z61 z62 z63 z64 z65 z66 z67 z68 z69 z70 z71 z72 : Value} {w : World} {g1 o1 g2 o2 k NA NB ca cb XB YB UB VB : Nat} {x y u v : Dg} {m n : Nt} (hS : CS w XB YB UB VB x y u v g1 (o1 + k * 6) m g2 (o2 + k * 6) n) (h1 : ∀ w, (Op.equalIn 10000 24 (.agg u.vs.toArray) (.agg v.vs.toArray)).run Tryd.prog w = .ok false w) {Q : Exit → Act → World → Prop}
    (hq : ∀ (y52 y53 y54 y55 y56 y57 y58 y59 y60 y61 y62 y63 y64 y65 y66 y67 y68 y69 : Value) (w' : World), Below w.heap.size w w' → Q .normal ⟨(z0 :: .slice (some ⟨g1, o1, none⟩) NA ca :: .slice (some ⟨g2, o2, none⟩) NB cb :: z3 :: z4 :: z5 :: z6 :: .pointer (some ⟨XB, 0, none⟩) :: .pointer (some ⟨YB, 0, none⟩) :: .int .i64 k :: .pointer (some ⟨UB, 0, none⟩) :: z11 :: .pointer (some ⟨VB, 0, none⟩) :: z13 :: z14 :: z15 :: z16 :: z17 :: z18 :: z19 :: z20 :: z21 :: z22 :: z23 :: z24 :: z25 :: z26 :: z27 :: z28 :: z29 :: z30 :: z31 :: z32 :: z33 :: z34 :: z35 :: z36 :: z37 :: z38 :: z39 :: z40 :: z41 :: z42 :: z43 :: z44 :: z45 :: z46 :: z47 :: z48 :: z49 :: z50 :: z51 :: y52 :: y53 :: y54 :: y55 :: y56 :: y57 :: y58 :: y59 :: y60 :: y61 :: y62 :: y63 :: y64 :: y65 :: y66 :: y67 :: y68 :: y69 :: .bool false :: z71 :: z72 :: []).toArray, []⟩ w') : Code.wp Tryd.prog ctestnCode Q ⟨(z0 :: .slice (some ⟨g1, o1, none⟩) NA ca :: .slice (some ⟨g2, o2, none⟩) NB cb :: z3 :: z4 :: z5 :: z6 :: .pointer (some ⟨XB, 0, none⟩) :: .pointer (some ⟨YB, 0, none⟩) :: .int .i64 k :: .pointer (some ⟨UB, 0, none⟩) :: z11 :: .pointer (some ⟨VB, 0, none⟩) :: z13 :: z14 :: z15 :: z16 :: z17 :: z18 :: z19 :: z20 :: z21 :: z22 :: z23 :: z24 :: z25 :: z26 :: z27 :: z28 :: z29 :: z30 :: z31 :: z32 :: z33 :: z34 :: z35 :: z36 :: z37 :: z38 :: z39 :: z40 :: z41 :: z42 :: z43 :: z44 :: z45 :: z46 :: z47 :: z48 :: z49 :: z50 :: z51 :: z52 :: z53 :: z54 :: z55 :: z56 :: z57 :: z58 :: z59 :: z60 :: z61 :: z62 :: z63 :: z64 :: z65 :: z66 :: z67 :: z68 :: z69 :: z70 :: z71 :: z72 :: []).toArray, []⟩ w := by
  conv => arg 2; whnf
  have HQ := Lib.hid hq
  clear hq
  have hgd : Tryd.prog.eqGuardType Tryd.prog.depth 24 = false := by kernel_rfl
  refine wp_region_noPanic ?_
  refine wp_region_held_drew (S := fun w' => CS w' XB YB UB VB x y u v g1 (o1 + k * 6) m g2 (o2 + k * 6) n) (by kernel_rfl) (hS.drew) (fun hhS => ?_)
  replace hhS := hS.drew
  refine wpAnyH_take (i := 0) (oi := ⟨some 52, _, _, _, _, _⟩) (v := _) rfl (by kernel_rfl) (by kernel_rfl) (by kernel_rfl) (fun _ _ _ h => h) (yieldsIf_load_mid (by rfl) _ _ rfl UB 0 (by rfl) (u.vs) _ (fun w hSw => whole_rangeG hSw.ub) Tryd.underlying24 rfl (by rw [size_d, Dg.vs_length])) (by assumption) ?_
  try simp only [Act.put, List.setIfInBounds_toArray, List.set_cons_zero, List.set_cons_succ]
  refine wpAnyH_take (i := 1) (oi := ⟨some 53, _, _, _, _, _⟩) (v := _) rfl (by kernel_rfl) (by kernel_rfl) (by kernel_rfl) (fun _ _ _ h => h) (yieldsIf_load_mid (by rfl) _ _ rfl VB 0 (by rfl) (v.vs) _ (fun w hSw => whole_rangeG hSw.vb) Tryd.underlying24 rfl (by rw [size_d, Dg.vs_length])) (by assumption) ?_
  try simp only [Act.put, List.setIfInBounds_toArray, List.set_cons_zero, List.set_cons_succ]
  refine wpAnyH_take (i := 2) (oi := ⟨some 54, _, _, _, _, _⟩) (v := .bool false) rfl (by kernel_rfl) (by kernel_rfl) (by kernel_rfl) (fun _ _ _ h => h) (Or.inl ⟨by rfl, ?_⟩) (by assumption) ?_
  · intro w hSw
    (try dsimp only at hSw)
    go_simp
    all_goals (first | done | simp)
  try simp only [Act.put, List.setIfInBounds_toArray, List.set_cons_zero, List.set_cons_succ]
  refine wpAnyH_take (i := 3) (oi := ⟨some 55, _, _, _, _, _⟩) (v := ?_) rfl (by kernel_rfl) (by kernel_rfl) (by kernel_rfl) (fun _ _ _ h => h) (Or.inl ⟨by rfl, ?_⟩) (by assumption) ?_
  rotate_left
  · intro w hSw
    (try dsimp only at hSw)
    go_simp
    all_goals (with_reducible rfl)
  try simp only [Act.put, List.setIfInBounds_toArray, List.set_cons_zero, List.set_cons_succ]
  refine wpAnyH_take (i := 4) (oi := ⟨some 56, _, _, _, _, _⟩) (v := undef) rfl (by kernel_rfl) (by kernel_rfl) (by kernel_rfl) (fun _ _ _ h => h) (Or.inr ⟨by rfl, rfl⟩) (by assumption) ?_
  try simp only [Act.put, List.setIfInBounds_toArray, List.set_cons_zero, List.set_cons_succ]
  refine wpAnyH_take (i := 5) (oi := ⟨some 57, _, _, _, _, _⟩) (v := undef) rfl (by kernel_rfl) (by kernel_rfl) (by kernel_rfl) (fun _ _ _ h => h) (Or.inr ⟨by rfl, rfl⟩) (by assumption) ?_
  try simp only [Act.put, List.setIfInBounds_toArray, List.set_cons_zero, List.set_cons_succ]
  refine wpAnyH_take (i := 6) (oi := ⟨some 58, _, _, _, _, _⟩) (v := undef) rfl (by kernel_rfl) (by kernel_rfl) (by kernel_rfl) (fun _ _ _ h => h) (Or.inr ⟨by rfl, rfl⟩) (by assumption) ?_
  try simp only [Act.put, List.setIfInBounds_toArray, List.set_cons_zero, List.set_cons_succ]
  refine wpAnyH_take (i := 7) (oi := ⟨some 59, _, _, _, _, _⟩) (v := undef) rfl (by kernel_rfl) (by kernel_rfl) (by kernel_rfl) (fun _ _ _ h => h) (Or.inr ⟨by rfl, rfl⟩) (by assumption) ?_
  try simp only [Act.put, List.setIfInBounds_toArray, List.set_cons_zero, List.set_cons_succ]
  refine wpAnyH_take (i := 8) (oi := ⟨some 60, _, _, _, _, _⟩) (v := undef) rfl (by kernel_rfl) (by kernel_rfl) (by kernel_rfl) (fun _ _ _ h => h) (Or.inr ⟨by rfl, rfl⟩) (by assumption) ?_
  try simp only [Act.put, List.setIfInBounds_toArray, List.set_cons_zero, List.set_cons_succ]
  refine wpAnyH_take (i := 9) (oi := ⟨some 61, _, _, _, _, _⟩) (v := undef) rfl (by kernel_rfl) (by kernel_rfl) (by kernel_rfl) (fun _ _ _ h => h) (Or.inr ⟨by rfl, rfl⟩) (by assumption) ?_
  try simp only [Act.put, List.setIfInBounds_toArray, List.set_cons_zero, List.set_cons_succ]
  refine wpAnyH_take (i := 10) (oi := ⟨some 62, _, _, _, _, _⟩) (v := undef) rfl (by kernel_rfl) (by kernel_rfl) (by kernel_rfl) (fun _ _ _ h => h) (Or.inr ⟨by rfl, rfl⟩) (by assumption) ?_
  try simp only [Act.put, List.setIfInBounds_toArray, List.set_cons_zero, List.set_cons_succ]
  refine wpAnyH_take (i := 11) (oi := ⟨some 63, _, _, _, _, _⟩) (v := undef) rfl (by kernel_rfl) (by kernel_rfl) (by kernel_rfl) (fun _ _ _ h => h) (Or.inr ⟨by rfl, rfl⟩) (by assumption) ?_
  try simp only [Act.put, List.setIfInBounds_toArray, List.set_cons_zero, List.set_cons_succ]
  refine wpAnyH_take (i := 12) (oi := ⟨some 64, _, _, _, _, _⟩) (v := undef) rfl (by kernel_rfl) (by kernel_rfl) (by kernel_rfl) (fun _ _ _ h => h) (Or.inr ⟨by rfl, rfl⟩) (by assumption) ?_
  try simp only [Act.put, List.setIfInBounds_toArray, List.set_cons_zero, List.set_cons_succ]
  refine wpAnyH_take (i := 13) (oi := ⟨some 65, _, _, _, _, _⟩) (v := undef) rfl (by kernel_rfl) (by kernel_rfl) (by kernel_rfl) (fun _ _ _ h => h) (Or.inr ⟨by rfl, rfl⟩) (by assumption) ?_
  try simp only [Act.put, List.setIfInBounds_toArray, List.set_cons_zero, List.set_cons_succ]
  refine wpAnyH_take (i := 14) (oi := ⟨some 66, _, _, _, _, _⟩) (v := undef) rfl (by kernel_rfl) (by kernel_rfl) (by kernel_rfl) (fun _ _ _ h => h) (Or.inr ⟨by rfl, rfl⟩) (by assumption) ?_
  try simp only [Act.put, List.setIfInBounds_toArray, List.set_cons_zero, List.set_cons_succ]
  refine wpAnyH_take (i := 15) (oi := ⟨some 67, _, _, _, _, _⟩) (v := undef) rfl (by kernel_rfl) (by kernel_rfl) (by kernel_rfl) (fun _ _ _ h => h) (Or.inr ⟨by rfl, rfl⟩) (by assumption) ?_
  try simp only [Act.put, List.setIfInBounds_toArray, List.set_cons_zero, List.set_cons_succ]
  refine wpAnyH_take (i := 16) (oi := ⟨some 68, _, _, _, _, _⟩) (v := undef) rfl (by kernel_rfl) (by kernel_rfl) (by kernel_rfl) (fun _ _ _ h => h) (Or.inr ⟨by rfl, rfl⟩) (by assumption) ?_
  try simp only [Act.put, List.setIfInBounds_toArray, List.set_cons_zero, List.set_cons_succ]
  refine wpAnyH_take (i := 17) (oi := ⟨some 69, _, _, _, _, _⟩) (v := undef) rfl (by kernel_rfl) (by kernel_rfl) (by kernel_rfl) (fun _ _ _ h => h) (Or.inr ⟨by rfl, rfl⟩) (by assumption) ?_
  try simp only [Act.put, List.setIfInBounds_toArray, List.set_cons_zero, List.set_cons_succ]
  refine wpAnyH_take (i := 18) (oi := ⟨some 70, _, _, _, _, _⟩) (v := .bool false) rfl (by kernel_rfl) (by kernel_rfl) (by kernel_rfl) (fun _ _ _ h => h) (Or.inl ⟨by rfl, ?_⟩) (by assumption) ?_
  · intro w hSw
    (try dsimp only at hSw)
    go_simp
    all_goals (first | done | simp)
  try simp only [Act.put, List.setIfInBounds_toArray, List.set_cons_zero, List.set_cons_succ]
  refine wpAnyH_done (by kernel_rfl) ?_ _
  refine NoPanic.normal ?_
  exact HQ.out _ _ _ _ _ _ _ _ _ _ _ _ _ _ _ _ _ _ _ (Below.refl _ _).drew


noncomputable def ctestdCode : Code := subCode [1, 1, 0, 1, 2, 2, 1, 0, 2, 1, 1, 1, 0, 0] ((Tryd.f26.body).getD .skip)

set_option maxRecDepth 100000 in
set_option maxHeartbeats 4000000 in
theorem ctestd_step {z0 z3 z4 z5 z6 z11 z13 z14 z15 z16 z17 z18 z19 z20 z21 z22 z23 z24 z25 z26 z27 z28 z29 z30 z31 z32 z33 z34 z35 z36 z37 z38 z39 z40 z41 z42 z43 z44 z45 z46 z47 z48 z49 z50 z51 z52 z53 z54 z55 z56 z57 z58 z59 z60 z61 z62 z63 z64 z65 z66 z67 z68 z69 z70 z71 z72 : Value} {w : World} {g1 o1 g2 o2 k NA NB ca cb XB YB UB VB : Nat} {x y u v : Dg} {m n : Nt} (hS : CS w XB YB UB VB x y u v g1 (o1 + k * 6) m g2 (o2 + k * 6) n) (h1 : ∀ w, (Op.equalIn 10000 24 (.agg u.vs.toArray) (.agg v.vs.toArray)).run Tryd.prog w = .ok true w) (h2 : ∀ w, (Op.equalIn 10000 24 (.agg x.vs.toArray) (.agg y.vs.toArray)).run Tryd.prog w = .ok false w) {Q : Exit → Act → World → Prop}
    (hq : ∀ (y52 y53 y54 y55 y56 y57 y58 y59 y60 y61 y62 y63 y64 y65 y66 y67 y68 y69 : Value) (w' : World), Below w.heap.size w w' → Q .normal ⟨(z0 :: .slice (some ⟨g1, o1, none⟩) NA ca :: .slice (some ⟨g2, o2, none⟩) NB cb :: z3 :: z4 :: z5 :: z6 :: .pointer (some ⟨XB, 0, none⟩) :: .pointer (some ⟨YB, 0, none⟩) :: .int .i64 k :: .pointer (some ⟨UB, 0, none⟩) :: z11 :: .pointer (some ⟨VB, 0, none⟩) :: z13 :: z14 :: z15 :: z16 :: z17 :: z18 :: z19 :: z20 :: z21 :: z22 :: z23 :: z24 :: z25 :: z26 :: z27 :: z28 :: z29 :: z30 :: z31 :: z32 :: z33 :: z34 :: z35 :: z36 :: z37 :: z38 :: z39 :: z40 :: z41 :: z42 :: z43 :: z44 :: z45 :: z46 :: z47 :: z48 :: z49 :: z50 :: z51 :: y52 :: y53 :: y54 :: y55 :: y56 :: y57 :: y58 :: y59 :: y60 :: y61 :: y62 :: y63 :: y64 :: y65 :: y66 :: y67 :: y68 :: y69 :: .bool true :: z71 :: z72 :: []).toArray, []⟩ w') : Code.wp Tryd.prog ctestdCode Q ⟨(z0 :: .slice (some ⟨g1, o1, none⟩) NA ca :: .slice (some ⟨g2, o2, none⟩) NB cb :: z3 :: z4 :: z5 :: z6 :: .pointer (some ⟨XB, 0, none⟩) :: .pointer (some ⟨YB, 0, none⟩) :: .int .i64 k :: .pointer (some ⟨UB, 0, none⟩) :: z11 :: .pointer (some ⟨VB, 0, none⟩) :: z13 :: z14 :: z15 :: z16 :: z17 :: z18 :: z19 :: z20 :: z21 :: z22 :: z23 :: z24 :: z25 :: z26 :: z27 :: z28 :: z29 :: z30 :: z31 :: z32 :: z33 :: z34 :: z35 :: z36 :: z37 :: z38 :: z39 :: z40 :: z41 :: z42 :: z43 :: z44 :: z45 :: z46 :: z47 :: z48 :: z49 :: z50 :: z51 :: z52 :: z53 :: z54 :: z55 :: z56 :: z57 :: z58 :: z59 :: z60 :: z61 :: z62 :: z63 :: z64 :: z65 :: z66 :: z67 :: z68 :: z69 :: z70 :: z71 :: z72 :: []).toArray, []⟩ w := by
  conv => arg 2; whnf
  have HQ := Lib.hid hq
  clear hq
  have hgd : Tryd.prog.eqGuardType Tryd.prog.depth 24 = false := by kernel_rfl
  refine wp_region_noPanic ?_
  refine wp_region_held_drew (S := fun w' => CS w' XB YB UB VB x y u v g1 (o1 + k * 6) m g2 (o2 + k * 6) n) (by kernel_rfl) (hS.drew) (fun hhS => ?_)
  replace hhS := hS.drew
  refine wpAnyH_take (i := 0) (oi := ⟨some 52, _, _, _, _, _⟩) (v := _) rfl (by kernel_rfl) (by kernel_rfl) (by kernel_rfl) (fun _ _ _ h => h) (yieldsIf_load_mid (by rfl) _ _ rfl UB 0 (by rfl) (u.vs) _ (fun w hSw => whole_rangeG hSw.ub) Tryd.underlying24 rfl (by rw [size_d, Dg.vs_length])) (by assumption) ?_
  try simp only [Act.put, List.setIfInBounds_toArray, List.set_cons_zero, List.set_cons_succ]
  refine wpAnyH_take (i := 1) (oi := ⟨some 53, _, _, _, _, _⟩) (v := _) rfl (by kernel_rfl) (by kernel_rfl) (by kernel_rfl) (fun _ _ _ h => h) (yieldsIf_load_mid (by rfl) _ _ rfl VB 0 (by rfl) (v.vs) _ (fun w hSw => whole_rangeG hSw.vb) Tryd.underlying24 rfl (by rw [size_d, Dg.vs_length])) (by assumption) ?_
  try simp only [Act.put, List.setIfInBounds_toArray, List.set_cons_zero, List.set_cons_succ]
  refine wpAnyH_take (i := 2) (oi := ⟨some 54, _, _, _, _, _⟩) (v := .bool true) rfl (by kernel_rfl) (by kernel_rfl) (by kernel_rfl) (fun _ _ _ h => h) (Or.inl ⟨by rfl, ?_⟩) (by assumption) ?_
  · intro w hSw
    (try dsimp only at hSw)
    go_simp
    all_goals (first | done | simp)
  try simp only [Act.put, List.setIfInBounds_toArray, List.set_cons_zero, List.set_cons_succ]
  refine wpAnyH_take (i := 3) (oi := ⟨some 55, _, _, _, _, _⟩) (v := ?_) rfl (by kernel_rfl) (by kernel_rfl) (by kernel_rfl) (fun _ _ _ h => h) (Or.inl ⟨by rfl, ?_⟩) (by assumption) ?_
  rotate_left
  · intro w hSw
    (try dsimp only at hSw)
    go_simp
    all_goals (with_reducible rfl)
  try simp only [Act.put, List.setIfInBounds_toArray, List.set_cons_zero, List.set_cons_succ]
  refine wpAnyH_take (i := 4) (oi := ⟨some 56, _, _, _, _, _⟩) (v := _) rfl (by kernel_rfl) (by kernel_rfl) (by kernel_rfl) (fun _ _ _ h => h) (yieldsIf_load_mid (by rfl) _ _ rfl XB 0 (by rfl) (x.vs) _ (fun w hSw => whole_rangeG hSw.xb) Tryd.underlying24 rfl (by rw [size_d, Dg.vs_length])) (by assumption) ?_
  try simp only [Act.put, List.setIfInBounds_toArray, List.set_cons_zero, List.set_cons_succ]
  refine wpAnyH_take (i := 5) (oi := ⟨some 57, _, _, _, _, _⟩) (v := _) rfl (by kernel_rfl) (by kernel_rfl) (by kernel_rfl) (fun _ _ _ h => h) (yieldsIf_load_mid (by rfl) _ _ rfl YB 0 (by rfl) (y.vs) _ (fun w hSw => whole_rangeG hSw.yb) Tryd.underlying24 rfl (by rw [size_d, Dg.vs_length])) (by assumption) ?_
  try simp only [Act.put, List.setIfInBounds_toArray, List.set_cons_zero, List.set_cons_succ]
  refine wpAnyH_take (i := 6) (oi := ⟨some 58, _, _, _, _, _⟩) (v := .bool true) rfl (by kernel_rfl) (by kernel_rfl) (by kernel_rfl) (fun _ _ _ h => h) (Or.inl ⟨by rfl, ?_⟩) (by assumption) ?_
  · intro w hSw
    (try dsimp only at hSw)
    go_simp
    all_goals (first | done | simp)
  try simp only [Act.put, List.setIfInBounds_toArray, List.set_cons_zero, List.set_cons_succ]
  refine wpAnyH_take (i := 7) (oi := ⟨some 59, _, _, _, _, _⟩) (v := ?_) rfl (by kernel_rfl) (by kernel_rfl) (by kernel_rfl) (fun _ _ _ h => h) (Or.inl ⟨by rfl, ?_⟩) (by assumption) ?_
  rotate_left
  · intro w hSw
    (try dsimp only at hSw)
    go_simp
    all_goals (with_reducible rfl)
  try simp only [Act.put, List.setIfInBounds_toArray, List.set_cons_zero, List.set_cons_succ]
  refine wpAnyH_take (i := 8) (oi := ⟨some 60, _, _, _, _, _⟩) (v := undef) rfl (by kernel_rfl) (by kernel_rfl) (by kernel_rfl) (fun _ _ _ h => h) (Or.inr ⟨by rfl, rfl⟩) (by assumption) ?_
  try simp only [Act.put, List.setIfInBounds_toArray, List.set_cons_zero, List.set_cons_succ]
  refine wpAnyH_take (i := 9) (oi := ⟨some 61, _, _, _, _, _⟩) (v := undef) rfl (by kernel_rfl) (by kernel_rfl) (by kernel_rfl) (fun _ _ _ h => h) (Or.inr ⟨by rfl, rfl⟩) (by assumption) ?_
  try simp only [Act.put, List.setIfInBounds_toArray, List.set_cons_zero, List.set_cons_succ]
  refine wpAnyH_take (i := 10) (oi := ⟨some 62, _, _, _, _, _⟩) (v := undef) rfl (by kernel_rfl) (by kernel_rfl) (by kernel_rfl) (fun _ _ _ h => h) (Or.inr ⟨by rfl, rfl⟩) (by assumption) ?_
  try simp only [Act.put, List.setIfInBounds_toArray, List.set_cons_zero, List.set_cons_succ]
  refine wpAnyH_take (i := 11) (oi := ⟨some 63, _, _, _, _, _⟩) (v := undef) rfl (by kernel_rfl) (by kernel_rfl) (by kernel_rfl) (fun _ _ _ h => h) (Or.inr ⟨by rfl, rfl⟩) (by assumption) ?_
  try simp only [Act.put, List.setIfInBounds_toArray, List.set_cons_zero, List.set_cons_succ]
  refine wpAnyH_take (i := 12) (oi := ⟨some 64, _, _, _, _, _⟩) (v := undef) rfl (by kernel_rfl) (by kernel_rfl) (by kernel_rfl) (fun _ _ _ h => h) (Or.inr ⟨by rfl, rfl⟩) (by assumption) ?_
  try simp only [Act.put, List.setIfInBounds_toArray, List.set_cons_zero, List.set_cons_succ]
  refine wpAnyH_take (i := 13) (oi := ⟨some 65, _, _, _, _, _⟩) (v := undef) rfl (by kernel_rfl) (by kernel_rfl) (by kernel_rfl) (fun _ _ _ h => h) (Or.inr ⟨by rfl, rfl⟩) (by assumption) ?_
  try simp only [Act.put, List.setIfInBounds_toArray, List.set_cons_zero, List.set_cons_succ]
  refine wpAnyH_take (i := 14) (oi := ⟨some 66, _, _, _, _, _⟩) (v := undef) rfl (by kernel_rfl) (by kernel_rfl) (by kernel_rfl) (fun _ _ _ h => h) (Or.inr ⟨by rfl, rfl⟩) (by assumption) ?_
  try simp only [Act.put, List.setIfInBounds_toArray, List.set_cons_zero, List.set_cons_succ]
  refine wpAnyH_take (i := 15) (oi := ⟨some 67, _, _, _, _, _⟩) (v := undef) rfl (by kernel_rfl) (by kernel_rfl) (by kernel_rfl) (fun _ _ _ h => h) (Or.inr ⟨by rfl, rfl⟩) (by assumption) ?_
  try simp only [Act.put, List.setIfInBounds_toArray, List.set_cons_zero, List.set_cons_succ]
  refine wpAnyH_take (i := 16) (oi := ⟨some 68, _, _, _, _, _⟩) (v := undef) rfl (by kernel_rfl) (by kernel_rfl) (by kernel_rfl) (fun _ _ _ h => h) (Or.inr ⟨by rfl, rfl⟩) (by assumption) ?_
  try simp only [Act.put, List.setIfInBounds_toArray, List.set_cons_zero, List.set_cons_succ]
  refine wpAnyH_take (i := 17) (oi := ⟨some 69, _, _, _, _, _⟩) (v := ?_) rfl (by kernel_rfl) (by kernel_rfl) (by kernel_rfl) (fun _ _ _ h => h) (Or.inl ⟨by rfl, ?_⟩) (by assumption) ?_
  rotate_left
  · intro w hSw
    (try dsimp only at hSw)
    go_simp
    all_goals (with_reducible rfl)
  try simp only [Act.put, List.setIfInBounds_toArray, List.set_cons_zero, List.set_cons_succ]
  refine wpAnyH_take (i := 18) (oi := ⟨some 70, _, _, _, _, _⟩) (v := .bool true) rfl (by kernel_rfl) (by kernel_rfl) (by kernel_rfl) (fun _ _ _ h => h) (Or.inl ⟨by rfl, ?_⟩) (by assumption) ?_
  · intro w hSw
    (try dsimp only at hSw)
    go_simp
    all_goals (first | done | simp)
  try simp only [Act.put, List.setIfInBounds_toArray, List.set_cons_zero, List.set_cons_succ]
  refine wpAnyH_done (by kernel_rfl) ?_ _
  refine NoPanic.normal ?_
  exact HQ.out _ _ _ _ _ _ _ _ _ _ _ _ _ _ _ _ _ _ _ (Below.refl _ _).drew


noncomputable def ctestuCode : Code := subCode [1, 1, 0, 1, 2, 2, 1, 0, 2, 1, 1, 1, 0, 0] ((Tryd.f26.body).getD .skip)

set_option maxRecDepth 100000 in
set_option maxHeartbeats 4000000 in
theorem ctestu_step {z0 z3 z4 z5 z6 z11 z13 z14 z15 z16 z17 z18 z19 z20 z21 z22 z23 z24 z25 z26 z27 z28 z29 z30 z31 z32 z33 z34 z35 z36 z37 z38 z39 z40 z41 z42 z43 z44 z45 z46 z47 z48 z49 z50 z51 z52 z53 z54 z55 z56 z57 z58 z59 z60 z61 z62 z63 z64 z65 z66 z67 z68 z69 z70 z71 z72 : Value} {w : World} {g1 o1 g2 o2 k NA NB ca cb XB YB UB VB : Nat} {x y u v : Dg} {m n : Nt} (hS : CS w XB YB UB VB x y u v g1 (o1 + k * 6) m g2 (o2 + k * 6) n) (h1 : ∀ w, (Op.equalIn 10000 24 (.agg u.vs.toArray) (.agg v.vs.toArray)).run Tryd.prog w = .ok true w) (h2 : ∀ w, (Op.equalIn 10000 24 (.agg x.vs.toArray) (.agg y.vs.toArray)).run Tryd.prog w = .ok true w) (h3 : ∀ w, (Op.equalIn 10000 36 (.agg m.cells.toArray) (.agg n.cells.toArray)).run Tryd.prog w = .ok false w) (i1 : 0 ≤ (k : Int) ∧ (k : Int) < (NA : Int)) (i2 : 0 ≤ (k : Int) ∧ (k : Int) < (NB : Int)) {Q : Exit → Act → World → Prop}
    (hq : ∀ (y52 y53 y54 y55 y56 y57 y58 y59 y60 y61 y62 y63 y64 y65 y66 y67 y68 y69 : Value) (w' : World), Below w.heap.size w w' → Q .normal ⟨(z0 :: .slice (some ⟨g1, o1, none⟩) NA ca :: .slice (some ⟨g2, o2, none⟩) NB cb :: z3 :: z4 :: z5 :: z6 :: .pointer (some ⟨XB, 0, none⟩) :: .pointer (some ⟨YB, 0, none⟩) :: .int .i64 k :: .pointer (some ⟨UB, 0, none⟩) :: z11 :: .pointer (some ⟨VB, 0, none⟩) :: z13 :: z14 :: z15 :: z16 :: z17 :: z18 :: z19 :: z20 :: z21 :: z22 :: z23 :: z24 :: z25 :: z26 :: z27 :: z28 :: z29 :: z30 :: z31 :: z32 :: z33 :: z34 :: z35 :: z36 :: z37 :: z38 :: z39 :: z40 :: z41 :: z42 :: z43 :: z44 :: z45 :: z46 :: z47 :: z48 :: z49 :: z50 :: z51 :: y52 :: y53 :: y54 :: y55 :: y56 :: y57 :: y58 :: y59 :: y60 :: y61 :: y62 :: y63 :: y64 :: y65 :: y66 :: y67 :: y68 :: y69 :: .bool true :: z71 :: z72 :: []).toArray, []⟩ w') : Code.wp Tryd.prog ctestuCode Q ⟨(z0 :: .slice (some ⟨g1, o1, none⟩) NA ca :: .slice (some ⟨g2, o2, none⟩) NB cb :: z3 :: z4 :: z5 :: z6 :: .pointer (some ⟨XB, 0, none⟩) :: .pointer (some ⟨YB, 0, none⟩) :: .int .i64 k :: .pointer (some ⟨UB, 0, none⟩) :: z11 :: .pointer (some ⟨VB, 0, none⟩) :: z13 :: z14 :: z15 :: z16 :: z17 :: z18 :: z19 :: z20 :: z21 :: z22 :: z23 :: z24 :: z25 :: z26 :: z27 :: z28 :: z29 :: z30 :: z31 :: z32 :: z33 :: z34 :: z35 :: z36 :: z37 :: z38 :: z39 :: z40 :: z41 :: z42 :: z43 :: z44 :: z45 :: z46 :: z47 :: z48 :: z49 :: z50 :: z51 :: z52 :: z53 :: z54 :: z55 :: z56 :: z57 :: z58 :: z59 :: z60 :: z61 :: z62 :: z63 :: z64 :: z65 :: z66 :: z67 :: z68 :: z69 :: z70 :: z71 :: z72 :: []).toArray, []⟩ w := by
  conv => arg 2; whnf
  have HQ := Lib.hid hq
  clear hq
  have hgd : Tryd.prog.eqGuardType Tryd.prog.depth 24 = false := by kernel_rfl
  have hgn := guard_note
  refine wp_region_noPanic ?_
  refine wp_region_held_drew (S := fun w' => CS w' XB YB UB VB x y u v g1 (o1 + k * 6) m g2 (o2 + k * 6) n) (by kernel_rfl) (hS.drew) (fun hhS => ?_)
  replace hhS := hS.drew
  refine wpAnyH_take (i := 0) (oi := ⟨some 52, _, _, _, _, _⟩) (v := _) rfl (by kernel_rfl) (by kernel_rfl) (by kernel_rfl) (fun _ _ _ h => h) (yieldsIf_load_mid (by rfl) _ _ rfl UB 0 (by rfl) (u.vs) _ (fun w hSw => whole_rangeG hSw.ub) Tryd.underlying24 rfl (by rw [size_d, Dg.vs_length])) (by assumption) ?_
  try simp only [Act.put, List.setIfInBounds_toArray, List.set_cons_zero, List.set_cons_succ]
  refine wpAnyH_take (i := 1) (oi := ⟨some 53, _, _, _, _, _⟩) (v := _) rfl (by kernel_rfl) (by kernel_rfl) (by kernel_rfl) (fun _ _ _ h => h) (yieldsIf_load_mid (by rfl) _ _ rfl VB 0 (by rfl) (v.vs) _ (fun w hSw => whole_rangeG hSw.vb) Tryd.underlying24 rfl (by rw [size_d, Dg.vs_length])) (by assumption) ?_
  try simp only [Act.put, List.setIfInBounds_toArray, List.set_cons_zero, List.set_cons_succ]
  refine wpAnyH_take (i := 2) (oi := ⟨some 54, _, _, _, _, _⟩) (v := .bool true) rfl (by kernel_rfl) (by kernel_rfl) (by kernel_rfl) (fun _ _ _ h => h) (Or.inl ⟨by rfl, ?_⟩) (by assumption) ?_
  · intro w hSw
    (try dsimp only at hSw)
    go_simp
    all_goals (first | done | simp)
  try simp only [Act.put, List.setIfInBounds_toArray, List.set_cons_zero, List.set_cons_succ]
  refine wpAnyH_take (i := 3) (oi := ⟨some 55, _, _, _, _, _⟩) (v := ?_) rfl (by kernel_rfl) (by kernel_rfl) (by kernel_rfl) (fun _ _ _ h => h) (Or.inl ⟨by rfl, ?_⟩) (by assumption) ?_
  rotate_left
  · intro w hSw
    (try dsimp only at hSw)
    go_simp
    all_goals (with_reducible rfl)
  try simp only [Act.put, List.setIfInBounds_toArray, List.set_cons_zero, List.set_cons_succ]
  refine wpAnyH_take (i := 4) (oi := ⟨some 56, _, _, _, _, _⟩) (v := _) rfl (by kernel_rfl) (by kernel_rfl) (by kernel_rfl) (fun _ _ _ h => h) (yieldsIf_load_mid (by rfl) _ _ rfl XB 0 (by rfl) (x.vs) _ (fun w hSw => whole_rangeG hSw.xb) Tryd.underlying24 rfl (by rw [size_d, Dg.vs_length])) (by assumption) ?_
  try simp only [Act.put, List.setIfInBounds_toArray, List.set_cons_zero, List.set_cons_succ]
  refine wpAnyH_take (i := 5) (oi := ⟨some 57, _, _, _, _, _⟩) (v := _) rfl (by kernel_rfl) (by kernel_rfl) (by kernel_rfl) (fun _ _ _ h => h) (yieldsIf_load_mid (by rfl) _ _ rfl YB 0 (by rfl) (y.vs) _ (fun w hSw => whole_rangeG hSw.yb) Tryd.underlying24 rfl (by rw [size_d, Dg.vs_length])) (by assumption) ?_
  try simp only [Act.put, List.setIfInBounds_toArray, List.set_cons_zero, List.set_cons_succ]
  refine wpAnyH_take (i := 6) (oi := ⟨some 58, _, _, _, _, _⟩) (v := .bool false) rfl (by kernel_rfl) (by kernel_rfl) (by kernel_rfl) (fun _ _ _ h => h) (Or.inl ⟨by rfl, ?_⟩) (by assumption) ?_
  · intro w hSw
    (try dsimp only at hSw)
    go_simp
    all_goals (first | done | simp)
  try simp only [Act.put, List.setIfInBounds_toArray, List.set_cons_zero, List.set_cons_succ]
  refine wpAnyH_take (i := 7) (oi := ⟨some 59, _, _, _, _, _⟩) (v := ?_) rfl (by kernel_rfl) (by kernel_rfl) (by kernel_rfl) (fun _ _ _ h => h) (Or.inl ⟨by rfl, ?_⟩) (by assumption) ?_
  rotate_left
  · intro w hSw
    (try dsimp only at hSw)
    go_simp
    all_goals (with_reducible rfl)
  try simp only [Act.put, List.setIfInBounds_toArray, List.set_cons_zero, List.set_cons_succ]
  refine wpAnyH_take (i := 8) (oi := ⟨some 60, _, _, _, _, _⟩) (v := ?_) rfl (by kernel_rfl) (by kernel_rfl) (by kernel_rfl) (fun _ _ _ h => h) (Or.inl ⟨by rfl, ?_⟩) (by assumption) ?_
  rotate_left
  · intro w hSw
    (try dsimp only at hSw)
    go_simp
    all_goals (with_reducible rfl)
  try simp only [Act.put, List.setIfInBounds_toArray, List.set_cons_zero, List.set_cons_succ]
  refine wpAnyH_take (i := 9) (oi := ⟨some 61, _, _, _, _, _⟩) (v := ?_) rfl (by kernel_rfl) (by kernel_rfl) (by kernel_rfl) (fun _ _ _ h => h) (Or.inl ⟨by rfl, ?_⟩) (by assumption) ?_
  rotate_left
  · intro w hSw
    (try dsimp only at hSw)
    go_simp
    all_goals (with_reducible rfl)
  try simp only [Act.put, List.setIfInBounds_toArray, List.set_cons_zero, List.set_cons_succ]
  refine wpAnyH_take (i := 10) (oi := ⟨some 62, _, _, _, _, _⟩) (v := ?_) rfl (by kernel_rfl) (by kernel_rfl) (by kernel_rfl) (fun _ _ _ h => h) (Or.inl ⟨by rfl, ?_⟩) (by assumption) ?_
  rotate_left
  · intro w hSw
    (try dsimp only at hSw)
    go_simp
    all_goals (with_reducible rfl)
  try simp only [Act.put, List.setIfInBounds_toArray, List.set_cons_zero, List.set_cons_succ]
  refine wpAnyH_take (i := 11) (oi := ⟨some 63, _, _, _, _, _⟩) (v := _) rfl (by kernel_rfl) (by kernel_rfl) (by kernel_rfl) (fun _ _ _ h => h) (yieldsIf_load_mid (by rfl) _ _ rfl g1 (o1 + k * 6) (by rfl) (m.cells) _ (fun w hSw => hSw.ra) Tryd.underlying36 rfl (by rw [size_n]; rfl)) (by assumption) ?_
  try simp only [Act.put, List.setIfInBounds_toArray, List.set_cons_zero, List.set_cons_succ]
  refine wpAnyH_take (i := 12) (oi := ⟨some 64, _, _, _, _, _⟩) (v := ?_) rfl (by kernel_rfl) (by kernel_rfl) (by kernel_rfl) (fun _ _ _ h => h) (Or.inl ⟨by rfl, ?_⟩) (by assumption) ?_
  rotate_left
  · intro w hSw
    (try dsimp only at hSw)
    go_simp
    all_goals (with_reducible rfl)
  try simp only [Act.put, List.setIfInBounds_toArray, List.set_cons_zero, List.set_cons_succ]
  refine wpAnyH_take (i := 13) (oi := ⟨some 65, _, _, _, _, _⟩) (v := ?_) rfl (by kernel_rfl) (by kernel_rfl) (by kernel_rfl) (fun _ _ _ h => h) (Or.inl ⟨by rfl, ?_⟩) (by assumption) ?_
  rotate_left
  · intro w hSw
    (try dsimp only at hSw)
    go_simp
    all_goals (with_reducible rfl)
  try simp only [Act.put, List.setIfInBounds_toArray, List.set_cons_zero, List.set_cons_succ]
  refine wpAnyH_take (i := 14) (oi := ⟨some 66, _, _, _, _, _⟩) (v := ?_) rfl (by kernel_rfl) (by kernel_rfl) (by kernel_rfl) (fun _ _ _ h => h) (Or.inl ⟨by rfl, ?_⟩) (by assumption) ?_
  rotate_left
  · intro w hSw
    (try dsimp only at hSw)
    go_simp
    all_goals (with_reducible rfl)
  try simp only [Act.put, List.setIfInBounds_toArray, List.set_cons_zero, List.set_cons_succ]
  refine wpAnyH_take (i := 15) (oi := ⟨some 67, _, _, _, _, _⟩) (v := _) rfl (by kernel_rfl) (by kernel_rfl) (by kernel_rfl) (fun _ _ _ h => h) (yieldsIf_load_mid (by rfl) _ _ rfl g2 (o2 + k * 6) (by rfl) (n.cells) _ (fun w hSw => hSw.rb) Tryd.underlying36 rfl (by rw [size_n]; rfl)) (by assumption) ?_
  try simp only [Act.put, List.setIfInBounds_toArray, List.set_cons_zero, List.set_cons_succ]
  refine wpAnyH_take (i := 16) (oi := ⟨some 68, _, _, _, _, _⟩) (v := .bool true) rfl (by kernel_rfl) (by kernel_rfl) (by kernel_rfl) (fun _ _ _ h => h) (Or.inl ⟨by rfl, ?_⟩) (by assumption) ?_
  · intro w hSw
    (try dsimp only at hSw)
    go_simp
    all_goals (first | done | simp)
  try simp only [Act.put, List.setIfInBounds_toArray, List.set_cons_zero, List.set_cons_succ]
  refine wpAnyH_take (i := 17) (oi := ⟨some 69, _, _, _, _, _⟩) (v := ?_) rfl (by kernel_rfl) (by kernel_rfl) (by kernel_rfl) (fun _ _ _ h => h) (Or.inl ⟨by rfl, ?_⟩) (by assumption) ?_
  rotate_left
  · intro w hSw
    (try dsimp only at hSw)
    go_simp
    all_goals (with_reducible rfl)
  try simp only [Act.put, List.setIfInBounds_toArray, List.set_cons_zero, List.set_cons_succ]
  refine wpAnyH_take (i := 18) (oi := ⟨some 70, _, _, _, _, _⟩) (v := .bool true) rfl (by kernel_rfl) (by kernel_rfl) (by kernel_rfl) (fun _ _ _ h => h) (Or.inl ⟨by rfl, ?_⟩) (by assumption) ?_
  · intro w hSw
    (try dsimp only at hSw)
    go_simp
    all_goals (first | done | simp)
  try simp only [Act.put, List.setIfInBounds_toArray, List.set_cons_zero, List.set_cons_succ]
  refine wpAnyH_done (by kernel_rfl) ?_ _
  refine NoPanic.normal ?_
  exact HQ.out _ _ _ _ _ _ _ _ _ _ _ _ _ _ _ _ _ _ _ (Below.refl _ _).drew


noncomputable def ctestsCode : Code := subCode [1, 1, 0, 1, 2, 2, 1, 0, 2, 1, 1, 1, 0, 0] ((Tryd.f26.body).getD .skip)

set_option maxRecDepth 100000 in
set_option maxHeartbeats 4000000 in
theorem ctests_step {z0 z3 z4 z5 z6 z11 z13 z14 z15 z16 z17 z18 z19 z20 z21 z22 z23 z24 z25 z26 z27 z28 z29 z30 z31 z32 z33 z34 z35 z36 z37 z38 z39 z40 z41 z42 z43 z44 z45 z46 z47 z48 z49 z50 z51 z52 z53 z54 z55 z56 z57 z58 z59 z60 z61 z62 z63 z64 z65 z66 z67 z68 z69 z70 z71 z72 : Value} {w : World} {g1 o1 g2 o2 k NA NB ca cb XB YB UB VB : Nat} {x y u v : Dg} {m n : Nt} (hS : CS w XB YB UB VB x y u v g1 (o1 + k * 6) m g2 (o2 + k * 6) n) (h1 : ∀ w, (Op.equalIn 10000 24 (.agg u.vs.toArray) (.agg v.vs.toArray)).run Tryd.prog w = .ok true w) (h2 : ∀ w, (Op.equalIn 10000 24 (.agg x.vs.toArray) (.agg y.vs.toArray)).run Tryd.prog w = .ok true w) (h3 : ∀ w, (Op.equalIn 10000 36 (.agg m.cells.toArray) (.agg n.cells.toArray)).run Tryd.prog w = .ok true w) (i1 : 0 ≤ (k : Int) ∧ (k : Int) < (NA : Int)) (i2 : 0 ≤ (k : Int) ∧ (k : Int) < (NB : Int)) {Q : Exit → Act → World → Prop}
    (hq : ∀ (y52 y53 y54 y55 y56 y57 y58 y59 y60 y61 y62 y63 y64 y65 y66 y67 y68 y69 : Value) (w' : World), Below w.heap.size w w' → Q .normal ⟨(z0 :: .slice (some ⟨g1, o1, none⟩) NA ca :: .slice (some ⟨g2, o2, none⟩) NB cb :: z3 :: z4 :: z5 :: z6 :: .pointer (some ⟨XB, 0, none⟩) :: .pointer (some ⟨YB, 0, none⟩) :: .int .i64 k :: .pointer (some ⟨UB, 0, none⟩) :: z11 :: .pointer (some ⟨VB, 0, none⟩) :: z13 :: z14 :: z15 :: z16 :: z17 :: z18 :: z19 :: z20 :: z21 :: z22 :: z23 :: z24 :: z25 :: z26 :: z27 :: z28 :: z29 :: z30 :: z31 :: z32 :: z33 :: z34 :: z35 :: z36 :: z37 :: z38 :: z39 :: z40 :: z41 :: z42 :: z43 :: z44 :: z45 :: z46 :: z47 :: z48 :: z49 :: z50 :: z51 :: y52 :: y53 :: y54 :: y55 :: y56 :: y57 :: y58 :: y59 :: y60 :: y61 :: y62 :: y63 :: y64 :: y65 :: y66 :: y67 :: y68 :: y69 :: .bool false :: z71 :: z72 :: []).toArray, []⟩ w') : Code.wp Tryd.prog ctestsCode Q ⟨(z0 :: .slice (some ⟨g1, o1, none⟩) NA ca :: .slice (some ⟨g2, o2, none⟩) NB cb :: z3 :: z4 :: z5 :: z6 :: .pointer (some ⟨XB, 0, none⟩) :: .pointer (some ⟨YB, 0, none⟩) :: .int .i64 k :: .pointer (some ⟨UB, 0, none⟩) :: z11 :: .pointer (some ⟨VB, 0, none⟩) :: z13 :: z14 :: z15 :: z16 :: z17 :: z18 :: z19 :: z20 :: z21 :: z22 :: z23 :: z24 :: z25 :: z26 :: z27 :: z28 :: z29 :: z30 :: z31 :: z32 :: z33 :: z34 :: z35 :: z36 :: z37 :: z38 :: z39 :: z40 :: z41 :: z42 :: z43 :: z44 :: z45 :: z46 :: z47 :: z48 :: z49 :: z50 :: z51 :: z52 :: z53 :: z54 :: z55 :: z56 :: z57 :: z58 :: z59 :: z60 :: z61 :: z62 :: z63 :: z64 :: z65 :: z66 :: z67 :: z68 :: z69 :: z70 :: z71 :: z72 :: []).toArray, []⟩ w := by
  conv => arg 2; whnf
  have HQ := Lib.hid hq
  clear hq
  have hgd : Tryd.prog.eqGuardType Tryd.prog.depth 24 = false := by kernel_rfl
  have hgn := guard_note
  refine wp_region_noPanic ?_
  refine wp_region_held_drew (S := fun w' => CS w' XB YB UB VB x y u v g1 (o1 + k * 6) m g2 (o2 + k * 6) n) (by kernel_rfl) (hS.drew) (fun hhS => ?_)
  replace hhS := hS.drew
  refine wpAnyH_take (i := 0) (oi := ⟨some 52, _, _, _, _, _⟩) (v := _) rfl (by kernel_rfl) (by kernel_rfl) (by kernel_rfl) (fun _ _ _ h => h) (yieldsIf_load_mid (by rfl) _ _ rfl UB 0 (by rfl) (u.vs) _ (fun w hSw => whole_rangeG hSw.ub) Tryd.underlying24 rfl (by rw [size_d, Dg.vs_length])) (by assumption) ?_
  try simp only [Act.put, List.setIfInBounds_toArray, List.set_cons_zero, List.set_cons_succ]
  refine wpAnyH_take (i := 1) (oi := ⟨some 53, _, _, _, _, _⟩) (v := _) rfl (by kernel_rfl) (by kernel_rfl) (by kernel_rfl) (fun _ _ _ h => h) (yieldsIf_load_mid (by rfl) _ _ rfl VB 0 (by rfl) (v.vs) _ (fun w hSw => whole_rangeG hSw.vb) Tryd.underlying24 rfl (by rw [size_d, Dg.vs_length])) (by assumption) ?_
  try simp only [Act.put, List.setIfInBounds_toArray, List.set_cons_zero, List.set_cons_succ]
  refine wpAnyH_take (i := 2) (oi := ⟨some 54, _, _, _, _, _⟩) (v := .bool true) rfl (by kernel_rfl) (by kernel_rfl) (by kernel_rfl) (fun _ _ _ h => h) (Or.inl ⟨by rfl, ?_⟩) (by assumption) ?_
  · intro w hSw
    (try dsimp only at hSw)
    go_simp
    all_goals (first | done | simp)
  try simp only [Act.put, List.setIfInBounds_toArray, List.set_cons_zero, List.set_cons_succ]
  refine wpAnyH_take (i := 3) (oi := ⟨some 55, _, _, _, _, _⟩) (v := ?_) rfl (by kernel_rfl) (by kernel_rfl) (by kernel_rfl) (fun _ _ _ h => h) (Or.inl ⟨by rfl, ?_⟩) (by assumption) ?_
  rotate_left
  · intro w hSw
    (try dsimp only at hSw)
    go_simp
    all_goals (with_reducible rfl)
  try simp only [Act.put, List.setIfInBounds_toArray, List.set_cons_zero, List.set_cons_succ]
  refine wpAnyH_take (i := 4) (oi := ⟨some 56, _, _, _, _, _⟩) (v := _) rfl (by kernel_rfl) (by kernel_rfl) (by kernel_rfl) (fun _ _ _ h => h) (yieldsIf_load_mid (by rfl) _ _ rfl XB 0 (by rfl) (x.vs) _ (fun w hSw => whole_rangeG hSw.xb) Tryd.underlying24 rfl (by rw [size_d, Dg.vs_length])) (by assumption) ?_
  try simp only [Act.put, List.setIfInBounds_toArray, List.set_cons_zero, List.set_cons_succ]
  refine wpAnyH_take (i := 5) (oi := ⟨some 57, _, _, _, _, _⟩) (v := _) rfl (by kernel_rfl) (by kernel_rfl) (by kernel_rfl) (fun _ _ _ h => h) (yieldsIf_load_mid (by rfl) _ _ rfl YB 0 (by rfl) (y.vs) _ (fun w hSw => whole_rangeG hSw.yb) Tryd.underlying24 rfl (by rw [size_d, Dg.vs_length])) (by assumption) ?_
  try simp only [Act.put, List.setIfInBounds_toArray, List.set_cons_zero, List.set_cons_succ]
  refine wpAnyH_take (i := 6) (oi := ⟨some 58, _, _, _, _, _⟩) (v := .bool false) rfl (by kernel_rfl) (by kernel_rfl) (by kernel_rfl) (fun _ _ _ h => h) (Or.inl ⟨by rfl, ?_⟩) (by assumption) ?_
  · intro w hSw
    (try dsimp only at hSw)
    go_simp
    all_goals (first | done | simp)
  try simp only [Act.put, List.setIfInBounds_toArray, List.set_cons_zero, List.set_cons_succ]
  refine wpAnyH_take (i := 7) (oi := ⟨some 59, _, _, _, _, _⟩) (v := ?_) rfl (by kernel_rfl) (by kernel_rfl) (by kernel_rfl) (fun _ _ _ h => h) (Or.inl ⟨by rfl, ?_⟩) (by assumption) ?_
  rotate_left
  · intro w hSw
    (try dsimp only at hSw)
    go_simp
    all_goals (with_reducible rfl)
  try simp only [Act.put, List.setIfInBounds_toArray, List.set_cons_zero, List.set_cons_succ]
  refine wpAnyH_take (i := 8) (oi := ⟨some 60, _, _, _, _, _⟩) (v := ?_) rfl (by kernel_rfl) (by kernel_rfl) (by kernel_rfl) (fun _ _ _ h => h) (Or.inl ⟨by rfl, ?_⟩) (by assumption) ?_
  rotate_left
  · intro w hSw
    (try dsimp only at hSw)
    go_simp
    all_goals (with_reducible rfl)
  try simp only [Act.put, List.setIfInBounds_toArray, List.set_cons_zero, List.set_cons_succ]
  refine wpAnyH_take (i := 9) (oi := ⟨some 61, _, _, _, _, _⟩) (v := ?_) rfl (by kernel_rfl) (by kernel_rfl) (by kernel_rfl) (fun _ _ _ h => h) (Or.inl ⟨by rfl, ?_⟩) (by assumption) ?_
  rotate_left
  · intro w hSw
    (try dsimp only at hSw)
    go_simp
    all_goals (with_reducible rfl)
  try simp only [Act.put, List.setIfInBounds_toArray, List.set_cons_zero, List.set_cons_succ]
  refine wpAnyH_take (i := 10) (oi := ⟨some 62, _, _, _, _, _⟩) (v := ?_) rfl (by kernel_rfl) (by kernel_rfl) (by kernel_rfl) (fun _ _ _ h => h) (Or.inl ⟨by rfl, ?_⟩) (by assumption) ?_
  rotate_left
  · intro w hSw
    (try dsimp only at hSw)
    go_simp
    all_goals (with_reducible rfl)
  try simp only [Act.put, List.setIfInBounds_toArray, List.set_cons_zero, List.set_cons_succ]
  refine wpAnyH_take (i := 11) (oi := ⟨some 63, _, _, _, _, _⟩) (v := _) rfl (by kernel_rfl) (by kernel_rfl) (by kernel_rfl) (fun _ _ _ h => h) (yieldsIf_load_mid (by rfl) _ _ rfl g1 (o1 + k * 6) (by rfl) (m.cells) _ (fun w hSw => hSw.ra) Tryd.underlying36 rfl (by rw [size_n]; rfl)) (by assumption) ?_
  try simp only [Act.put, List.setIfInBounds_toArray, List.set_cons_zero, List.set_cons_succ]
  refine wpAnyH_take (i := 12) (oi := ⟨some 64, _, _, _, _, _⟩) (v := ?_) rfl (by kernel_rfl) (by kernel_rfl) (by kernel_rfl) (fun _ _ _ h => h) (Or.inl ⟨by rfl, ?_⟩) (by assumption) ?_
  rotate_left
  · intro w hSw
    (try dsimp only at hSw)
    go_simp
    all_goals (with_reducible rfl)
  try simp only [Act.put, List.setIfInBounds_toArray, List.set_cons_zero, List.set_cons_succ]
  refine wpAnyH_take (i := 13) (oi := ⟨some 65, _, _, _, _, _⟩) (v := ?_) rfl (by kernel_rfl) (by kernel_rfl) (by kernel_rfl) (fun _ _ _ h => h) (Or.inl ⟨by rfl, ?_⟩) (by assumption) ?_
  rotate_left
  · intro w hSw
    (try dsimp only at hSw)
    go_simp
    all_goals (with_reducible rfl)
  try simp only [Act.put, List.setIfInBounds_toArray, List.set_cons_zero, List.set_cons_succ]
  refine wpAnyH_take (i := 14) (oi := ⟨some 66, _, _, _, _, _⟩) (v := ?_) rfl (by kernel_rfl) (by kernel_rfl) (by kernel_rfl) (fun _ _ _ h => h) (Or.inl ⟨by rfl, ?_⟩) (by assumption) ?_
  rotate_left
  · intro w hSw
    (try dsimp only at hSw)
    go_simp
    all_goals (with_reducible rfl)
  try simp only [Act.put, List.setIfInBounds_toArray, List.set_cons_zero, List.set_cons_succ]
  refine wpAnyH_take (i := 15) (oi := ⟨some 67, _, _, _, _, _⟩) (v := _) rfl (by kernel_rfl) (by kernel_rfl) (by kernel_rfl) (fun _ _ _ h => h) (yieldsIf_load_mid (by rfl) _ _ rfl g2 (o2 + k * 6) (by rfl) (n.cells) _ (fun w hSw => hSw.rb) Tryd.underlying36 rfl (by rw [size_n]; rfl)) (by assumption) ?_
  try simp only [Act.put, List.setIfInBounds_toArray, List.set_cons_zero, List.set_cons_succ]
  refine wpAnyH_take (i := 16) (oi := ⟨some 68, _, _, _, _, _⟩) (v := .bool false) rfl (by kernel_rfl) (by kernel_rfl) (by kernel_rfl) (fun _ _ _ h => h) (Or.inl ⟨by rfl, ?_⟩) (by assumption) ?_
  · intro w hSw
    (try dsimp only at hSw)
    go_simp
    all_goals (first | done | simp)
  try simp only [Act.put, List.setIfInBounds_toArray, List.set_cons_zero, List.set_cons_succ]
  refine wpAnyH_take (i := 17) (oi := ⟨some 69, _, _, _, _, _⟩) (v := ?_) rfl (by kernel_rfl) (by kernel_rfl) (by kernel_rfl) (fun _ _ _ h => h) (Or.inl ⟨by rfl, ?_⟩) (by assumption) ?_
  rotate_left
  · intro w hSw
    (try dsimp only at hSw)
    go_simp
    all_goals (with_reducible rfl)
  try simp only [Act.put, List.setIfInBounds_toArray, List.set_cons_zero, List.set_cons_succ]
  refine wpAnyH_take (i := 18) (oi := ⟨some 70, _, _, _, _, _⟩) (v := .bool false) rfl (by kernel_rfl) (by kernel_rfl) (by kernel_rfl) (fun _ _ _ h => h) (Or.inl ⟨by rfl, ?_⟩) (by assumption) ?_
  · intro w hSw
    (try dsimp only at hSw)
    go_simp
    all_goals (first | done | simp)
  try simp only [Act.put, List.setIfInBounds_toArray, List.set_cons_zero, List.set_cons_succ]
  refine wpAnyH_done (by kernel_rfl) ?_ _
  refine NoPanic.normal ?_
  exact HQ.out _ _ _ _ _ _ _ _ _ _ _ _ _ _ _ _ _ _ _ (Below.refl _ _).drew


noncomputable def cputCode : Code := subCode [1, 1, 0, 1, 2, 2, 1, 0, 2, 1, 1, 1, 1] ((Tryd.f26.body).getD .skip)

set_option maxRecDepth 100000 in
set_option maxHeartbeats 4000000 in
theorem cput_step {z0 z1 z2 z3 z4 z5 z6 z9 z11 z13 z14 z15 z16 z17 z18 z19 z20 z21 z22 z23 z24 z25 z26 z27 z28 z29 z30 z31 z32 z33 z34 z35 z36 z37 z38 z39 z40 z41 z42 z43 z44 z45 z46 z47 z48 z49 z50 z51 z52 z53 z54 z55 z56 z57 z58 z59 z60 z61 z62 z63 z64 z65 z66 z67 z68 z69 z70 z71 z72 : Value} {w : World} {XB YB UB VB : Nat} {x y u v : Dg} (hX : Whole w XB 24 x.vs) (hY : Whole w YB 24 y.vs) (hU : Whole w UB 24 u.vs) (hV : Whole w VB 24 v.vs) (hXY : XB ≠ YB) (hUX : XB ≠ UB) (hVX : XB ≠ VB) (hUY : YB ≠ UB) (hVY : YB ≠ VB) {Q : Exit → Act → World → Prop}
    (hq : ∀ (y71 y72 : Value) (w' : World), Whole w' XB 24 u.vs → Whole w' YB 24 v.vs → (Only w w' fun i => i = XB ∨ i = YB) → Q .normal ⟨(z0 :: z1 :: z2 :: z3 :: z4 :: z5 :: z6 :: .pointer (some ⟨XB, 0, none⟩) :: .pointer (some ⟨YB, 0, none⟩) :: z9 :: .pointer (some ⟨UB, 0, none⟩) :: z11 :: .pointer (some ⟨VB, 0, none⟩) :: z13 :: z14 :: z15 :: z16 :: z17 :: z18 :: z19 :: z20 :: z21 :: z22 :: z23 :: z24 :: z25 :: z26 :: z27 :: z28 :: z29 :: z30 :: z31 :: z32 :: z33 :: z34 :: z35 :: z36 :: z37 :: z38 :: z39 :: z40 :: z41 :: z42 :: z43 :: z44 :: z45 :: z46 :: z47 :: z48 :: z49 :: z50 :: z51 :: z52 :: z53 :: z54 :: z55 :: z56 :: z57 :: z58 :: z59 :: z60 :: z61 :: z62 :: z63 :: z64 :: z65 :: z66 :: z67 :: z68 :: z69 :: z70 :: y71 :: y72 :: []).toArray, []⟩ w') : Code.wp Tryd.prog cputCode Q ⟨(z0 :: z1 :: z2 :: z3 :: z4 :: z5 :: z6 :: .pointer (some ⟨XB, 0, none⟩) :: .pointer (some ⟨YB, 0, none⟩) :: z9 :: .pointer (some ⟨UB, 0, none⟩) :: z11 :: .pointer (some ⟨VB, 0, none⟩) :: z13 :: z14 :: z15 :: z16 :: z17 :: z18 :: z19 :: z20 :: z21 :: z22 :: z23 :: z24 :: z25 :: z26 :: z27 :: z28 :: z29 :: z30 :: z31 :: z32 :: z33 :: z34 :: z35 :: z36 :: z37 :: z38 :: z39 :: z40 :: z41 :: z42 :: z43 :: z44 :: z45 :: z46 :: z47 :: z48 :: z49 :: z50 :: z51 :: z52 :: z53 :: z54 :: z55 :: z56 :: z57 :: z58 :: z59 :: z60 :: z61 :: z62 :: z63 :: z64 :: z65 :: z66 :: z67 :: z68 :: z69 :: z70 :: z71 :: z72 :: []).toArray, []⟩ w := by
  conv => arg 2; whnf
  have HQ := Lib.hid hq
  clear hq
  refine wp_region_noPanic ?_
  refine wp_region_held_drew (S := fun w' => Whole w' UB 24 u.vs ∧ Whole w' VB 24 v.vs) (by kernel_rfl) (⟨hU.drew, hV.drew⟩) (fun hhS => ?_)
  replace hX := hX.drew
  replace hY := hY.drew
  clear hhS
  have hhS : Whole w.drew UB 24 u.vs ∧ Whole w.drew VB 24 v.vs := ⟨hU.drew, hV.drew⟩
  obtain ⟨wd, hwd⟩ : ∃ x, w.drew = x := ⟨_, rfl⟩
  rw [hwd] at hX hY hhS ⊢
  refine wpAnyH_take (i := 0) (oi := ⟨some 71, _, _, _, _, _⟩) (v := _) rfl (by kernel_rfl) (by kernel_rfl) (by kernel_rfl) (fun _ _ _ h => h) (yieldsIf_load_mid (by rfl) _ _ rfl UB 0 (by rfl) (u.vs) _ (fun w hSw => whole_rangeG hSw.1) Tryd.underlying24 rfl (by rw [size_d, Dg.vs_length])) (by assumption) ?_
  try simp only [Act.put, List.setIfInBounds_toArray, List.set_cons_zero, List.set_cons_succ]
  refine wpAnyH_take (i := 1) (oi := ⟨some 72, _, _, _, _, _⟩) (v := _) rfl (by kernel_rfl) (by kernel_rfl) (by kernel_rfl) (fun _ _ _ h => h) (yieldsIf_load_mid (by rfl) _ _ rfl VB 0 (by rfl) (v.vs) _ (fun w hSw => whole_rangeG hSw.2) Tryd.underlying24 rfl (by rw [size_d, Dg.vs_length])) (by assumption) ?_
  try simp only [Act.put, List.setIfInBounds_toArray, List.set_cons_zero, List.set_cons_succ]
  refine wpAnyH_ready (rs := [2]) (by kernel_rfl) (by simp) ?_
  refine AllReadyH.cons (o := ⟨none, _, _, _, _, _⟩) rfl (fun K hK => ?_) AllReadyH.nil
  rw [if_pos (by rfl)]
  refine wp_store_row 24 _ _ (by rfl) XB u.vs.toArray (by rfl) (by rfl) 24 _ hX (by rw [size_d]; simp [Dg.vs_length]) (by simp [Dg.vs_length]) (Dg.all_one _) ?_
  replace hX := hX.row u.vs
  replace hY := hY.row_far hXY u.vs.toArray
  have hO := grown_row (World.grownBy.refl wd (some XB)) (.inl rfl) u.vs.toArray
  have hS2 : Whole (wd.setRow XB u.vs.toArray) UB 24 u.vs ∧ Whole (wd.setRow XB u.vs.toArray) VB 24 v.vs := ⟨hhS.1.row_far hUX _, hhS.2.row_far hVX _⟩
  replace hO := Only.of_grown hO
  clear hhS
  have hhS := hS2
  clear hS2
  generalize wd.setRow XB u.vs.toArray = wy at hX hY hO hhS ⊢
  refine hK.out _ _ (hhS) (fun _ => ?_)
  clear hK K
  try simp only [Act.put]
  refine wpAnyH_ready (rs := [3]) (by kernel_rfl) (by simp) ?_
  refine AllReadyH.cons (o := ⟨none, _, _, _, _, _⟩) rfl (fun K hK => ?_) AllReadyH.nil
  rw [if_pos (by rfl)]
  refine wp_store_row 24 _ _ (by rfl) YB v.vs.toArray (by rfl) (by rfl) 24 _ hY (by rw [size_d]; simp [Dg.vs_length]) (by simp [Dg.vs_length]) (Dg.all_one _) ?_
  replace hX := hX.row_far hXY.symm v.vs.toArray
  replace hY := hY.row v.vs
  have hO2 := (hO.trans (Only.of_grown (grown_row (World.grownBy.refl wy (some YB)) (.inl rfl) v.vs.toArray)))
  have hS2 : Whole (wy.setRow YB v.vs.toArray) UB 24 u.vs ∧ Whole (wy.setRow YB v.vs.toArray) VB 24 v.vs := ⟨hhS.1.row_far hUY _, hhS.2.row_far hVY _⟩
  clear hhS
  have hhS := hS2
  clear hS2 hO
  generalize wy.setRow YB v.vs.toArray = wz at hX hY hO2 hhS ⊢
  refine hK.out _ _ (hhS) (fun _ => ?_)
  clear hK K
  try simp only [Act.put]
  refine wpAnyH_done (by kernel_rfl) ?_ _
  refine NoPanic.normal ?_
  exact HQ.out _ _ _ hX hY ((Only.of_eq hwd hO2).weak fun i _ h => by rcases h with h | h <;> injection h with h <;> simp [h])


end Go.Proofs.YtglcingpolpkdaaDoor
