/- (*Book).Join: one more member. -/
import Derived.Deep.Light
import Derived.Deep.MidRow
import Derived.Deep.RegionHeld3
import Derived.Deep.RegionHeldLaw
import Derived.Test.YtglcingpolpkdaaAGrantedX2
namespace Go.Proofs.Ytglcingpolpkdaa
open Go.RowKit

/-- A tenant in memory whose set of members is another list than its members: between the two stores. -/
structure TenJ (W w : World) (t : Nat) (rv mv : Value) (mi : Nat) (rules : List Rl) (ms iset : List (ByteArray × ByteArray)) : Prop where
  ten : Whole w t 101 [rv, mv, .map (some mi)]
  rules : OwnR w W.heap.size rv rules
  mems : OwnM w W.heap.size mv ms
  isIn : MapM w mi iset
  get : W.heap.size ≤ t
  gei : W.heap.size ≤ mi
theorem TenJ.on {W w w' : World} {t mi : Nat} {rv mv : Value} {rules : List Rl} {ms iset : List (ByteArray × ByteArray)} (h : TenJ W w t rv mv mi rules ms iset) (hb : Below w.heap.size w w') : TenJ W w' t rv mv mi rules ms iset :=
  ⟨h.ten.below hb h.ten.lt, row_low h.rules hb, row_low h.mems hb, h.isIn.low hb, h.get, h.gei⟩

/-- 'append(l, m)', l a list of members that the call owns. -/
theorem append_member (w : World) {o : Oper} {a : Act} {K : Act → World → Prop} {Q : Exit → Act → World → Prop} (s x : Operand)
    (ho : o.op = .call { callee := .builtin .append, args := #[s, x], argTypes := #[99, 99] })
    (B g : Nat) (v : Value) (l : List (ByteArray × ByteArray)) (hs : a.eval s = v) (hown : OwnM w B v l) (role who : ByteArray)
    (hx : a.eval x = .slice (some ⟨g, 0, none⟩) 1 1) (hg : g = w.heap.size) (hlen : l.length + 1 ≤ 1000000) (hbase : B ≤ w.heap.size)
    (h : ∀ v' w', OwnM w' B v' (l ++ [(role, who)]) → w.grownBy w' v.ownBlock → Moved w v v' → K (a.put o.dst v') w') :
    o.wp Try.prog a (w.alloc (.cells #[.string role, .string who] 106)) K Q := by
  subst hg
  obtain ⟨i, hi, hz, hsz, hby⟩ := info_mem
  refine wp_append_at (w.alloc (.cells #[.string role, .string who] 106)) s x _ ho B _ i _ 2 32 Try.underlying99 hi hz hsz hby rfl (by decide) v l.length (l.flatMap memCells) hs (World.ownsRow.alloc hown _) ⟨w.heap.size, 0, none⟩ 1 1 [.string role, .string who] hx rfl (fun j u hj => ?_) (fun u hu => ?_) (by simp only [maxLen]; omega) (by omega) (by simp; omega) fun v' w' h1 h2 h3 => h v' w' ?_ (grown_trans (grown_alloc (World.grownBy.refl _ _) _) h2) (h3.imp id fun ⟨g, h4, h5⟩ => ⟨g, h4, Nat.le_trans (by simp) h5⟩)
  · rw [Addr.add_lit, (Whole.new w _ #[.string role, .string who]).cell, Nat.zero_add]
    exact hj
  · simp at hu
    rcases hu with rfl | rfl <;> rfl
  · unfold OwnM
    rw [List.length_append, List.flatMap_append]
    exact h1

theorem book_ne_ten {W w : World} {b m t : Nat} {nv : Value} {names : List ByteArray} {l : List (ByteArray × Value)} {cs : List Value} (hB : BookAt W w b m nv names l) (hT : Whole w t 101 cs) : b ≠ t := fun e => by
  subst e
  have h1 := hB.book
  unfold Whole at h1 hT
  rw [h1] at hT
  injection hT with hT
  injection hT with _ hT _
  exact absurd hT (by decide)

theorem join_mem {W wd w7 : World} {b m M t mi : Nat} {nv rv mv v7 : Value} {names : List ByteArray} {l : List (ByteArray × Value)} {rules : List Rl} {ms : List (ByteArray × ByteArray)} {p : ByteArray × ByteArray} {mc : List Value} (hB : BookAt W wd b m nv names l) (hT : TenOwn W wd t rv mv mi rules ms) (hM : Whole wd M 106 mc) (hMt : M ≠ t)
    (hMv : mv.ownBlock ≠ some M) (hO : OwnM w7 W.heap.size v7 (ms ++ [p])) (hG : wd.grownBy w7 mv.ownBlock) :
    w7.cell? ⟨t, 1, none⟩ = some mv ∧ w7.frozen? ⟨t, 1, none⟩ = false ∧ Whole w7 M 106 mc ∧ Whole (w7.setCell ⟨t, 1, none⟩ v7) M 106 mc ∧ BookAt W (w7.setCell ⟨t, 1, none⟩ v7) b m nv names l ∧ TenJ W (w7.setCell ⟨t, 1, none⟩ v7) t rv v7 mi rules (ms ++ [p]) ms ∧ Only wd (w7.setCell ⟨t, 1, none⟩ v7) (fun i => i = t ∨ mv.ownBlock = some i) := by
  have o1 := Only.of_grown hG
  have o2 := Only.set w7 ⟨t, 1, none⟩ v7
  have tv : mv.ownBlock ≠ some t := row_ne_whole hT.mems hT.ten (by decide)
  have t1 := hT.ten.only o1 (fun h => tv h)
  have t2 : Whole (w7.setCell ⟨t, 1, none⟩ v7) t 101 [rv, v7, .map (some mi)] := t1.put 1 v7
  have r1 := hM.only o1 (fun h => hMv h)
  have r2 := r1.only o2 (fun h => hMt h)
  have oA := o1.trans o2
  obtain ⟨em, cm, hm, _⟩ := hB.all
  obtain ⟨ei, ci, hi, _⟩ := hT.isIn
  have bne := book_ne_ten hB hT.ten
  have hTm := whole_ne_map hT.ten hm
  have hTi := whole_ne_map hT.ten hi
  have hoff : ∀ g, (mv.ownBlock = some g ∨ g = t) → W.heap.size ≤ g := fun g h => by
    rcases h with h | rfl
    · exact own_ge hT.mems h
    · exact hT.get
  have nt : ∀ g, nv.ownBlock = some g → ¬ (mv.ownBlock = some g ∨ g = t) := fun g hg h => by
    obtain ⟨c1, h1⟩ := row_type hB.names hg
    rcases h with h | rfl
    · obtain ⟨c2, h2⟩ := row_type hT.mems h
      rw [h1] at h2
      injection h2 with h2
      injection h2 with _ h2 _
      exact absurd h2 (by decide)
    · exact row_ne_whole hB.names hT.ten (by decide) hg
  have nr : ∀ g, rv.ownBlock = some g → ¬ (mv.ownBlock = some g ∨ g = t) := fun g hg h => by
    obtain ⟨c1, h1⟩ := row_type hT.rules hg
    rcases h with h | rfl
    · obtain ⟨c2, h2⟩ := row_type hT.mems h
      rw [h1] at h2
      injection h2 with h2
      injection h2 with _ h2 _
      exact absurd h2 (by decide)
    · exact row_ne_whole hT.rules hT.ten (by decide) hg
  have v7t : ∀ g, v7.ownBlock = some g → ¬ g = t := fun g hg e => by
    subst e
    exact row_ne_whole hO t1 (by decide) hg
  refine ⟨t1.cell 1, t1.free 1, r1, r2, ⟨hB.book.only oA (fun h => ?_), row_only hB.names oA nt, hB.all.only oA (fun h => ?_), hB.geb, hB.gem, hB.below.trans (oA.below hB.below.size fun i _ h => hoff i h)⟩, ⟨t2, row_only hT.rules oA nr, row_only hO o2 v7t, hT.isIn.only oA (fun h => ?_), hT.get, hT.gei⟩, oA.weak fun i _ h => h.symm⟩
  · rcases h with h | h
    · exact row_ne_whole hT.mems hB.book (by decide) h
    · exact bne h
  · rcases h with h | h
    · exact row_ne_map hT.mems hm h
    · exact hTm h.symm
  · rcases h with h | h
    · exact row_ne_map hT.mems hi h
    · exact hTi h.symm

/-- The set's own store. The book's map is another block: it holds no member. -/
theorem join_put {W wd w5 : World} {b m M t mi : Nat} {nv rv mv : Value} {names : List ByteArray} {l : List (ByteArray × Value)} {rules : List Rl} {ms iset iset' : List (ByteArray × ByteArray)} {mc : List Value} (hB : BookAt W wd b m nv names l) (hT : TenJ W wd t rv mv mi rules ms iset) (hM : Whole wd M 106 mc) (hne : m ≠ mi)
    (_ : MapM w5 mi iset') (hG : wd.grownBy w5 (some mi)) : (Whole w5 t 101 [rv, mv, .map (some mi)] ∧ Whole w5 M 106 mc) ∧ BookAt W w5 b m nv names l ∧ (Whole w5 t 101 [rv, mv, .map (some mi)] ∧ OwnR w5 W.heap.size rv rules ∧ OwnM w5 W.heap.size mv ms) ∧ Only wd w5 (fun i => i = mi) := by
  have o := Only.of_grown hG
  obtain ⟨ei, ci, hi, _⟩ := hT.isIn
  have nw : ∀ {g : Nat} {ty : TypeId} {cs : List Value}, Whole wd g ty cs → ¬ some mi = some g := fun h e => by
    injection e with e
    exact whole_ne_map h hi e.symm
  have nrow : ∀ {B n size : Nat} {e : TypeId} {v : Value} {xs : List Value}, wd.ownsRow B e size v n xs → ∀ g, v.ownBlock = some g → ¬ some mi = some g := fun h g hg e => by
    injection e with e
    subst e
    exact row_ne_map h hi hg
  have ht := hT.ten.only o (nw hT.ten)
  refine ⟨⟨ht, hM.only o (nw hM)⟩, ⟨hB.book.only o (nw hB.book), row_only hB.names o (nrow hB.names), hB.all.only o (fun e => ?_), hB.geb, hB.gem, hB.below.trans (o.below hB.below.size fun i _ h => ?_)⟩, ⟨ht, row_only hT.rules o (nrow hT.rules), row_only hT.mems o (nrow hT.mems)⟩, o.weak fun i _ h => by injection h with h; exact h.symm⟩
  · injection e with e
    exact hne e.symm
  · injection h with h
    exact h ▸ hT.gei

noncomputable def joinApp : Code := subCode [1, 1, 1, 1, 1, 0] ((Try.f16.body).getD .skip)
noncomputable def joinPut : Code := subCode [1, 1, 1, 1, 1, 1, 0] ((Try.f16.body).getD .skip)

set_option maxRecDepth 100000 in
set_option maxHeartbeats 2000000 in
theorem join_app {z0 z1 z2 z3 z4 z5 z6 z7 z8 z11 z12 z13 z14 z15 z16 z17 z18 z19 z20 z21 z22 z23 z24 z25 z26 z27 z28 z29 z30 z31 z32 z33 z34 z35 z36 z37 z38 z39 z40 z41 z42 z43 z44 z45 z46 z47 z48 z49 z50 z51 z52 z53 z54 z55 z56 z57 z58 z59 z60 z61 : Value} (W wc : World) (b m M t mi : Nat) (nv rv mv : Value) (names : List ByteArray) (l : List (ByteArray × Value)) (rules : List Rl) (ms : List (ByteArray × ByteArray)) (role who : ByteArray)
    (hB0 : BookAt W wc b m nv names l) (hT0 : TenOwn W wc t rv mv mi rules ms) (hM0 : Whole wc M 106 [.string role, .string who]) (hMlt : M ≠ t) (hMv : mv.ownBlock ≠ some M) (hlen : ms.length < 256) {Q : Exit → Act → World → Prop}
    (hq : ∀ (y47 y48 y49 y50 y51 y52 y53 y54 y55 y56 : Value) (w' : World) (mv' : Value), Whole w' M 106 [.string role, .string who] → BookAt W w' b m nv names l → TenJ W w' t rv mv' mi rules (ms ++ [(role, who)]) ms → Moved wc mv mv' → Only wc w' (fun i => i = t ∨ mv.ownBlock = some i) → Q .normal ⟨(z0 :: z1 :: z2 :: z3 :: z4 :: z5 :: z6 :: z7 :: z8 :: .pointer (some ⟨t, 0, none⟩) :: .pointer (some ⟨M, 0, none⟩) :: z11 :: z12 :: z13 :: z14 :: z15 :: z16 :: z17 :: z18 :: z19 :: z20 :: z21 :: z22 :: z23 :: z24 :: z25 :: z26 :: z27 :: z28 :: z29 :: z30 :: z31 :: z32 :: z33 :: z34 :: z35 :: z36 :: z37 :: z38 :: z39 :: z40 :: z41 :: z42 :: z43 :: z44 :: z45 :: z46 :: y47 :: y48 :: y49 :: y50 :: y51 :: y52 :: y53 :: y54 :: y55 :: y56 :: z57 :: z58 :: z59 :: z60 :: z61 :: []).toArray, []⟩ w') : Code.wp Try.prog joinApp Q ⟨(z0 :: z1 :: z2 :: z3 :: z4 :: z5 :: z6 :: z7 :: z8 :: .pointer (some ⟨t, 0, none⟩) :: .pointer (some ⟨M, 0, none⟩) :: z11 :: z12 :: z13 :: z14 :: z15 :: z16 :: z17 :: z18 :: z19 :: z20 :: z21 :: z22 :: z23 :: z24 :: z25 :: z26 :: z27 :: z28 :: z29 :: z30 :: z31 :: z32 :: z33 :: z34 :: z35 :: z36 :: z37 :: z38 :: z39 :: z40 :: z41 :: z42 :: z43 :: z44 :: z45 :: z46 :: z47 :: z48 :: z49 :: z50 :: z51 :: z52 :: z53 :: z54 :: z55 :: z56 :: z57 :: z58 :: z59 :: z60 :: z61 :: []).toArray, []⟩ wc := by
  conv => arg 2; whnf
  have hD : Below wc.heap.size wc wc.drew := (Below.refl _ _).drew
  have hgB := hB0.on hD
  have hgT := hT0.on hD
  have hgM : Whole wc.drew M 106 [.string role, .string who] := hM0
  have c4 := hgT.ten.cell 1
  obtain ⟨xr, kr, yr, hrv⟩ := slice_any hgT.mems
  subst hrv
  have hQ := Lib.hid hq
  clear hq
  refine wp_region_noPanic ?_
  refine wp_region_held_drew (S := fun w' => Whole w' M 106 [.string role, .string who]) (by kernel_rfl) hgM (fun hhS => ?_)
  generalize wc.drew = wd at hgB hgT hgM c4 hD hhS ⊢
  refine wpAnyH_take (i := 0) (oi := ⟨some 47, _, _, _, _, _⟩) (v := ?_) rfl (by kernel_rfl) (by kernel_rfl) (by kernel_rfl) (fun _ _ _ h => h) (Or.inl ⟨by rfl, ?_⟩) (by assumption) ?_
  rotate_left
  · intro w hSw
    (try dsimp only at hSw)
    go_simp
    all_goals (with_reducible rfl)
  try simp only [Act.put, List.setIfInBounds_toArray, List.set_cons_zero, List.set_cons_succ]
  refine wpAnyH_take (i := 1) (oi := ⟨some 48, _, _, _, _, _⟩) (v := ?_) rfl (by kernel_rfl) (by kernel_rfl) (by kernel_rfl) (fun _ _ _ h => h) (Or.inl ⟨by rfl, ?_⟩) (by assumption) ?_
  rotate_left
  · intro w hSw
    (try dsimp only at hSw)
    go_simp
    all_goals (with_reducible rfl)
  try simp only [Act.put, List.setIfInBounds_toArray, List.set_cons_zero, List.set_cons_succ]
  refine wpAnyH_take (i := 2) (oi := ⟨some 49, _, _, _, _, _⟩) (v := ?_) rfl (by kernel_rfl) (by kernel_rfl) (by kernel_rfl) (fun _ _ _ h => h) (Or.inl ⟨by rfl, ?_⟩) (by assumption) ?_
  rotate_left
  · intro w hSw
    (try dsimp only at hSw)
    go_simp
    all_goals (with_reducible rfl)
  try simp only [Act.put, List.setIfInBounds_toArray, List.set_cons_zero, List.set_cons_succ]
  refine wpAnyH_take (i := 3) (oi := ⟨some 50, _, _, _, _, _⟩) (v := ?_) rfl (by kernel_rfl) (by kernel_rfl) (by kernel_rfl) (fun _ _ _ h => h) (Or.inl ⟨by rfl, ?_⟩) (by assumption) ?_
  rotate_left
  · intro w hSw
    (try dsimp only at hSw)
    go_simp
    all_goals (with_reducible rfl)
  try simp only [Act.put, List.setIfInBounds_toArray, List.set_cons_zero, List.set_cons_succ]
  refine wpAnyH_take (i := 5) (oi := ⟨some 52, _, _, _, _, _⟩) (v := ?_) rfl (by kernel_rfl) (by kernel_rfl) (by kernel_rfl) (fun _ _ _ h => h) (Or.inl ⟨by rfl, ?_⟩) (by assumption) ?_
  rotate_left
  · intro w hSw
    (try dsimp only at hSw)
    have x0 := hSw.cell 0
    have x1 := hSw.cell 1
    go_simp
    all_goals (with_reducible rfl)
  try simp only [Act.put, List.setIfInBounds_toArray, List.set_cons_zero, List.set_cons_succ]
  refine wpAnyH_ready (rs := [4, 6]) (by kernel_rfl) (by simp) ?_
  refine AllReadyH.cons (o := ⟨some 51, _, _, _, _, _⟩) rfl (fun K hK => ?_) ?_
  · go_simp
    refine hK.out _ _ hhS (fun hh4 => ?_)
    clear hK K
    try simp only [Act.put, List.setIfInBounds_toArray, List.set_cons_zero, List.set_cons_succ]
    refine wpAnyH_ready (rs := [6]) (by kernel_rfl) (by simp) ?_
    refine AllReadyH.cons (o := ⟨some 53, _, _, _, _, _⟩) rfl (fun K hK => ?_) AllReadyH.nil
    go_simp
    refine hK.out _ _ (hgM.alloc _) (fun hh6 => ?_)
    clear hK K
    try simp only [Act.put, List.setIfInBounds_toArray, List.set_cons_zero, List.set_cons_succ]
    refine wpAnyH_ready (rs := [7]) (by kernel_rfl) (by simp) ?_
    refine AllReadyH.cons (o := ⟨some 54, _, _, _, _, _⟩) rfl (fun K hK => ?_) AllReadyH.nil
    rw [if_pos (by rfl)]
    refine append_member wd _ _ rfl W.heap.size wd.heap.size (.slice xr kr yr) ms rfl hgT.mems role who rfl rfl (by omega) hgB.below.size ?_
    intro v7 w7 hO7 hG7 hV7
    obtain ⟨x7, k7, y7, hv7⟩ := slice_any hO7
    subst hv7
    obtain ⟨f0, f1, hrw, hfin⟩ := join_mem hgB hgT hgM hMlt hMv hO7 hG7
    refine hK.out _ _ hrw (fun hh7 => ?_)
    clear hK K
    try simp only [Act.put, List.setIfInBounds_toArray, List.set_cons_zero, List.set_cons_succ]
    refine wpAnyH_take (i := 8) (oi := ⟨some 55, _, _, _, _, _⟩) (v := ?_) rfl (by kernel_rfl) (by kernel_rfl) (by kernel_rfl) (fun _ _ _ h => h) (Or.inl ⟨by rfl, ?_⟩) (by assumption) ?_
    rotate_left
    · intro w hSw
      (try dsimp only at hSw)
      go_simp
      all_goals (with_reducible rfl)
    try simp only [Act.put, List.setIfInBounds_toArray, List.set_cons_zero, List.set_cons_succ]
    refine wpAnyH_take (i := 9) (oi := ⟨some 56, _, _, _, _, _⟩) (v := ?_) rfl (by kernel_rfl) (by kernel_rfl) (by kernel_rfl) (fun _ _ _ h => h) (Or.inl ⟨by rfl, ?_⟩) (by assumption) ?_
    rotate_left
    · intro w hSw
      (try dsimp only at hSw)
      go_simp
      all_goals (with_reducible rfl)
    try simp only [Act.put, List.setIfInBounds_toArray, List.set_cons_zero, List.set_cons_succ]
    refine wpAnyH_ready (rs := [10]) (by kernel_rfl) (by simp) ?_
    refine AllReadyH.cons (o := ⟨none, _, _, _, _, _⟩) rfl (fun K hK => ?_) AllReadyH.nil
    go_simp
    refine hK.out _ _ hfin.1 (fun hh10 => ?_)
    clear hK K
    try simp only [Act.put]
    refine wpAnyH_done (by kernel_rfl) ?_ _
    refine NoPanic.normal ?_
    exact hQ.out _ _ _ _ _ _ _ _ _ _ _ _ hfin.1 hfin.2.1 hfin.2.2.1 (hV7.imp id fun ⟨g, h1, h2⟩ => ⟨g, h1, Nat.le_trans hD.size h2⟩) (((Only.of_below hD (fun _ => False)).trans hfin.2.2.2).weak fun i _ h => h.elim False.elim id)
  refine AllReadyH.cons (o := ⟨some 53, _, _, _, _, _⟩) rfl (fun K hK => ?_) AllReadyH.nil
  · go_simp
    refine hK.out _ _ (hgM.alloc _) (fun hh6 => ?_)
    clear hK K
    try simp only [Act.put, List.setIfInBounds_toArray, List.set_cons_zero, List.set_cons_succ]
    have c4 : (wd.alloc (.cells #[.string role, .string who] 106)).cell? ⟨t, 1, none⟩ = some (.slice xr kr yr) := (hgT.ten.alloc _).cell 1
    refine wpAnyH_ready (rs := [4]) (by kernel_rfl) (by simp) ?_
    refine AllReadyH.cons (o := ⟨some 51, _, _, _, _, _⟩) rfl (fun K hK => ?_) AllReadyH.nil
    go_simp
    refine hK.out _ _ hh6 (fun hh4 => ?_)
    clear hK K
    try simp only [Act.put, List.setIfInBounds_toArray, List.set_cons_zero, List.set_cons_succ]
    refine wpAnyH_ready (rs := [7]) (by kernel_rfl) (by simp) ?_
    refine AllReadyH.cons (o := ⟨some 54, _, _, _, _, _⟩) rfl (fun K hK => ?_) AllReadyH.nil
    rw [if_pos (by rfl)]
    refine append_member wd _ _ rfl W.heap.size wd.heap.size (.slice xr kr yr) ms rfl hgT.mems role who rfl rfl (by omega) hgB.below.size ?_
    intro v7 w7 hO7 hG7 hV7
    obtain ⟨x7, k7, y7, hv7⟩ := slice_any hO7
    subst hv7
    obtain ⟨f0, f1, hrw, hfin⟩ := join_mem hgB hgT hgM hMlt hMv hO7 hG7
    refine hK.out _ _ hrw (fun hh7 => ?_)
    clear hK K
    try simp only [Act.put, List.setIfInBounds_toArray, List.set_cons_zero, List.set_cons_succ]
    refine wpAnyH_take (i := 8) (oi := ⟨some 55, _, _, _, _, _⟩) (v := ?_) rfl (by kernel_rfl) (by kernel_rfl) (by kernel_rfl) (fun _ _ _ h => h) (Or.inl ⟨by rfl, ?_⟩) (by assumption) ?_
    rotate_left
    · intro w hSw
      (try dsimp only at hSw)
      go_simp
      all_goals (with_reducible rfl)
    try simp only [Act.put, List.setIfInBounds_toArray, List.set_cons_zero, List.set_cons_succ]
    refine wpAnyH_take (i := 9) (oi := ⟨some 56, _, _, _, _, _⟩) (v := ?_) rfl (by kernel_rfl) (by kernel_rfl) (by kernel_rfl) (fun _ _ _ h => h) (Or.inl ⟨by rfl, ?_⟩) (by assumption) ?_
    rotate_left
    · intro w hSw
      (try dsimp only at hSw)
      go_simp
      all_goals (with_reducible rfl)
    try simp only [Act.put, List.setIfInBounds_toArray, List.set_cons_zero, List.set_cons_succ]
    refine wpAnyH_ready (rs := [10]) (by kernel_rfl) (by simp) ?_
    refine AllReadyH.cons (o := ⟨none, _, _, _, _, _⟩) rfl (fun K hK => ?_) AllReadyH.nil
    go_simp
    refine hK.out _ _ hfin.1 (fun hh10 => ?_)
    clear hK K
    try simp only [Act.put]
    refine wpAnyH_done (by kernel_rfl) ?_ _
    refine NoPanic.normal ?_
    exact hQ.out _ _ _ _ _ _ _ _ _ _ _ _ hfin.1 hfin.2.1 hfin.2.2.1 (hV7.imp id fun ⟨g, h1, h2⟩ => ⟨g, h1, Nat.le_trans hD.size h2⟩) (((Only.of_below hD (fun _ => False)).trans hfin.2.2.2).weak fun i _ h => h.elim False.elim id)

set_option maxRecDepth 100000 in
set_option maxHeartbeats 2000000 in
theorem join_end {z0 z1 z2 z3 z4 z5 z6 z7 z8 z11 z12 z13 z14 z15 z16 z17 z18 z19 z20 z21 z22 z23 z24 z25 z26 z27 z28 z29 z30 z31 z32 z33 z34 z35 z36 z37 z38 z39 z40 z41 z42 z43 z44 z45 z46 z47 z48 z49 z50 z51 z52 z53 z54 z55 z56 z57 z58 z59 z60 z61 : Value} (W wc : World) (b m M t mi : Nat) (nv rv mv : Value) (names : List ByteArray) (l : List (ByteArray × Value)) (rules : List Rl) (ms : List (ByteArray × ByteArray)) (role who : ByteArray)
    (hB0 : BookAt W wc b m nv names l) (hT0 : TenJ W wc t rv mv mi rules (ms ++ [(role, who)]) ms) (hM0 : Whole wc M 106 [.string role, .string who]) (hnew : hasM ms (role, who) = false) (hne : m ≠ mi) {Q : Exit → Act → World → Prop}
    (hq : ∀ (y57 y58 y59 y60 y61 : Value) (w' : World), BookAt W w' b m nv names l → TenOwn W w' t rv mv mi rules (ms ++ [(role, who)]) → Only wc w' (fun i => i = mi) → Q .normal ⟨(z0 :: z1 :: z2 :: z3 :: z4 :: z5 :: z6 :: z7 :: z8 :: .pointer (some ⟨t, 0, none⟩) :: .pointer (some ⟨M, 0, none⟩) :: z11 :: z12 :: z13 :: z14 :: z15 :: z16 :: z17 :: z18 :: z19 :: z20 :: z21 :: z22 :: z23 :: z24 :: z25 :: z26 :: z27 :: z28 :: z29 :: z30 :: z31 :: z32 :: z33 :: z34 :: z35 :: z36 :: z37 :: z38 :: z39 :: z40 :: z41 :: z42 :: z43 :: z44 :: z45 :: z46 :: z47 :: z48 :: z49 :: z50 :: z51 :: z52 :: z53 :: z54 :: z55 :: z56 :: y57 :: y58 :: y59 :: y60 :: y61 :: []).toArray, []⟩ w') : Code.wp Try.prog joinPut Q ⟨(z0 :: z1 :: z2 :: z3 :: z4 :: z5 :: z6 :: z7 :: z8 :: .pointer (some ⟨t, 0, none⟩) :: .pointer (some ⟨M, 0, none⟩) :: z11 :: z12 :: z13 :: z14 :: z15 :: z16 :: z17 :: z18 :: z19 :: z20 :: z21 :: z22 :: z23 :: z24 :: z25 :: z26 :: z27 :: z28 :: z29 :: z30 :: z31 :: z32 :: z33 :: z34 :: z35 :: z36 :: z37 :: z38 :: z39 :: z40 :: z41 :: z42 :: z43 :: z44 :: z45 :: z46 :: z47 :: z48 :: z49 :: z50 :: z51 :: z52 :: z53 :: z54 :: z55 :: z56 :: z57 :: z58 :: z59 :: z60 :: z61 :: []).toArray, []⟩ wc := by
  conv => arg 2; whnf
  have hQ := Lib.hid hq
  clear hq
  refine wp_region_noPanic ?_
  refine wp_region_held_drew (S := fun w' => Whole w' t 101 [rv, mv, .map (some mi)] ∧ Whole w' M 106 [.string role, .string who]) (by kernel_rfl) ⟨hT0.ten, hM0⟩ (fun hhS => ?_)
  have hgB := hB0.on ((Below.refl _ _).drew)
  have hgT := hT0.on ((Below.refl _ _).drew)
  have hD : Below wc.heap.size wc wc.drew := (Below.refl _ _).drew
  generalize wc.drew = wd at hgB hgT hD hhS ⊢
  refine wpAnyH_take (i := 0) (oi := ⟨some 57, _, _, _, _, _⟩) (v := ?_) rfl (by kernel_rfl) (by kernel_rfl) (by kernel_rfl) (fun _ _ _ h => h) (Or.inl ⟨by rfl, ?_⟩) (by assumption) ?_
  rotate_left
  · intro w hSw
    (try dsimp only at hSw)
    go_simp
    all_goals (with_reducible rfl)
  try simp only [Act.put, List.setIfInBounds_toArray, List.set_cons_zero, List.set_cons_succ]
  refine wpAnyH_take (i := 1) (oi := ⟨some 58, _, _, _, _, _⟩) (v := ?_) rfl (by kernel_rfl) (by kernel_rfl) (by kernel_rfl) (fun _ _ _ h => h) (Or.inl ⟨by rfl, ?_⟩) (by assumption) ?_
  rotate_left
  · intro w hSw
    (try dsimp only at hSw)
    go_simp
    all_goals (with_reducible rfl)
  try simp only [Act.put, List.setIfInBounds_toArray, List.set_cons_zero, List.set_cons_succ]
  refine wpAnyH_take (i := 2) (oi := ⟨some 59, _, _, _, _, _⟩) (v := ?_) rfl (by kernel_rfl) (by kernel_rfl) (by kernel_rfl) (fun _ _ _ h => h) (Or.inl ⟨by rfl, ?_⟩) (by assumption) ?_
  rotate_left
  · intro w hSw
    (try dsimp only at hSw)
    go_simp
    all_goals (with_reducible rfl)
  try simp only [Act.put, List.setIfInBounds_toArray, List.set_cons_zero, List.set_cons_succ]
  refine wpAnyH_take (i := 3) (oi := ⟨some 60, _, _, _, _, _⟩) (v := ?_) rfl (by kernel_rfl) (by kernel_rfl) (by kernel_rfl) (fun _ _ _ h => h) (Or.inl ⟨by rfl, ?_⟩) (by assumption) ?_
  rotate_left
  · intro w hSw
    (try dsimp only at hSw)
    have x2 := hSw.1.cell 2
    go_simp
    all_goals (with_reducible rfl)
  try simp only [Act.put, List.setIfInBounds_toArray, List.set_cons_zero, List.set_cons_succ]
  refine wpAnyH_take (i := 4) (oi := ⟨some 61, _, _, _, _, _⟩) (v := ?_) rfl (by kernel_rfl) (by kernel_rfl) (by kernel_rfl) (fun _ _ _ h => h) (Or.inl ⟨by rfl, ?_⟩) (by assumption) ?_
  rotate_left
  · intro w hSw
    (try dsimp only at hSw)
    have x0 := hSw.2.cell 0
    have x1 := hSw.2.cell 1
    go_simp
    all_goals (with_reducible rfl)
  try simp only [Act.put, List.setIfInBounds_toArray, List.set_cons_zero, List.set_cons_succ]
  obtain ⟨w5, hrun, hM5, hG5, _⟩ := put_M hgT.isIn role who hnew
  obtain ⟨hS5, hB5, ⟨ht5, hr5, hm5⟩, hO5⟩ := join_put hgB hgT hhS.2 hne hM5 hG5
  refine wpAnyH_ready (rs := [5]) (by kernel_rfl) (by simp) ?_
  refine AllReadyH.cons (o := ⟨none, _, _, _, _, _⟩) rfl (fun K hK => ?_) AllReadyH.nil
  go_simp
  refine hK.out _ _ hS5 (fun hh5 => ?_)
  clear hK K
  try simp only [Act.put]
  refine wpAnyH_done (by kernel_rfl) ?_ _
  refine NoPanic.normal ?_
  exact hQ.out _ _ _ _ _ _ hB5 ⟨ht5, hr5, hm5, hM5, hgT.get, hgT.gei⟩ (((Only.of_below hD (fun _ => False)).trans hO5).weak fun i _ h => h.elim False.elim id)

end Go.Proofs.Ytglcingpolpkdaa
