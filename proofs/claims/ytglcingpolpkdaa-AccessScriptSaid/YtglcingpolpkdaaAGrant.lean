/- (*Book).Grant: one more rule, or none that may not be. -/
import Derived.Deep.Light
import Derived.Deep.MidRow
import Derived.Deep.RegionHeld3
import Derived.Deep.RegionHeldLaw
import Derived.Test.YtglcingpolpkdaaAOpenX2
namespace Go.Proofs.Ytglcingpolpkdaa
open Go.RowKit

theorem MapM.low {w w' : World} {m : Nat} {ms : List (ByteArray × ByteArray)} (h : MapM w m ms) (hb : Below w.heap.size w w') : MapM w' m ms := by
  obtain ⟨e, c, h, hl⟩ := h
  exact ⟨e, c, (hb.block m (Array.getElem?_eq_some_iff.1 h).1).trans h, hl⟩
theorem MapM.only {w w' : World} {S : Nat → Prop} {m : Nat} {ms : List (ByteArray × ByteArray)} (h : MapM w m ms) (ho : Only w w' S) (hs : ¬ S m) : MapM w' m ms := by
  obtain ⟨e, c, hm, hl⟩ := h
  exact ⟨e, c, (ho.block m (Array.getElem?_eq_some_iff.1 hm).1 hs).trans hm, hl⟩
theorem TenOwn.on {W w w' : World} {t mi : Nat} {rv mv : Value} {rules : List Rl} {ms : List (ByteArray × ByteArray)} (h : TenOwn W w t rv mv mi rules ms) (hb : Below w.heap.size w w') : TenOwn W w' t rv mv mi rules ms :=
  ⟨h.ten.below hb h.ten.lt, row_low h.rules hb, row_low h.mems hb, h.isIn.low hb, h.get, h.gei⟩

/-- 'append(l, r)', l a list of rules that the call owns. -/
theorem append_rule (w : World) {o : Oper} {a : Act} {K : Act → World → Prop} {Q : Exit → Act → World → Prop} (s x : Operand)
    (ho : o.op = .call { callee := .builtin .append, args := #[s, x], argTypes := #[49, 49] })
    (B g : Nat) (v : Value) (l : List Rl) (hs : a.eval s = v) (hown : OwnR w B v l) (who : ByteArray) (what : Int) (key : ByteArray) (deny : Bool)
    (hx : a.eval x = .slice (some ⟨g, 0, none⟩) 1 1) (hg : g = w.heap.size) (hlen : l.length + 1 ≤ 1000000) (hbase : B ≤ w.heap.size)
    (h : ∀ v' w', OwnR w' B v' (l ++ [⟨who, what, key, deny⟩]) → w.grownBy w' v.ownBlock → Moved w v v' → K (a.put o.dst v') w') :
    o.wp Try.prog a (w.alloc (.cells #[.string who, .int .i64 what, .string key, .bool deny] 29)) K Q := by
  subst hg
  obtain ⟨i, hi, hz, hsz, hby⟩ := info_rule
  refine wp_append_at (w.alloc (.cells #[.string who, .int .i64 what, .string key, .bool deny] 29)) s x _ ho B _ i _ 4 48 Try.underlying49 hi hz hsz hby rfl (by decide) v l.length (l.flatMap Rl.cells) hs (World.ownsRow.alloc hown _) ⟨w.heap.size, 0, none⟩ 1 1 [.string who, .int .i64 what, .string key, .bool deny] hx rfl (fun j u hj => ?_) (fun u hu => ?_) (by simp only [maxLen]; omega) (by omega) (by simp; omega) fun v' w' h1 h2 h3 => h v' w' ?_ (grown_trans (grown_alloc (World.grownBy.refl _ _) _) h2) (h3.imp id fun ⟨g, h4, h5⟩ => ⟨g, h4, Nat.le_trans (by simp) h5⟩)
  · rw [Addr.add_lit, (Whole.new w _ #[.string who, .int .i64 what, .string key, .bool deny]).cell, Nat.zero_add]
    exact hj
  · simp at hu
    rcases hu with rfl | rfl | rfl | rfl <;> rfl
  · unfold OwnR
    rw [List.length_append, List.flatMap_append]
    exact h1

theorem grant_mem {W wd w7 : World} {b m R t mi : Nat} {nv rv mv v7 : Value} {names : List ByteArray} {l : List (ByteArray × Value)} {rules : List Rl} {ms : List (ByteArray × ByteArray)} {rl : Rl} {rc : List Value} (hB : BookAt W wd b m nv names l) (hT : TenOwn W wd t rv mv mi rules ms) (hR : Whole wd R 29 rc) (hRt : R ≠ t)
    (hRv : rv.ownBlock ≠ some R) (hO : OwnR w7 W.heap.size v7 (rules ++ [rl])) (hG : wd.grownBy w7 rv.ownBlock) :
    w7.cell? ⟨t, 0, none⟩ = some rv ∧ w7.frozen? ⟨t, 0, none⟩ = false ∧ Whole w7 R 29 rc ∧ Whole (w7.setCell ⟨t, 0, none⟩ v7) R 29 rc ∧ BookAt W (w7.setCell ⟨t, 0, none⟩ v7) b m nv names l ∧ TenOwn W (w7.setCell ⟨t, 0, none⟩ v7) t v7 mv mi (rules ++ [rl]) ms ∧ Only wd (w7.setCell ⟨t, 0, none⟩ v7) (fun i => i = t ∨ rv.ownBlock = some i) := by
  have o1 := Only.of_grown hG
  have o2 := Only.set w7 ⟨t, 0, none⟩ v7
  have tv : rv.ownBlock ≠ some t := row_ne_whole hT.rules hT.ten (by decide)
  have t1 := hT.ten.only o1 (fun h => tv h)
  have t2 : Whole (w7.setCell ⟨t, 0, none⟩ v7) t 101 [v7, mv, .map (some mi)] := t1.put 0 v7
  have r1 := hR.only o1 (fun h => hRv h)
  have r2 := r1.only o2 (fun h => hRt h)
  have oA := o1.trans o2
  obtain ⟨em, cm, hm, _⟩ := hB.all
  obtain ⟨ei, ci, hi, _⟩ := hT.isIn
  have bne : b ≠ t := fun e => by
    subst e
    have h1 := hB.book
    have h2 := hT.ten
    unfold Whole at h1 h2
    rw [h1] at h2
    injection h2 with h2
    injection h2 with _ h2 _
    exact absurd h2 (by decide)
  have hTm := whole_ne_map hT.ten hm
  have hTi := whole_ne_map hT.ten hi
  have hoff : ∀ g, (rv.ownBlock = some g ∨ g = t) → W.heap.size ≤ g := fun g h => by
    rcases h with h | rfl
    · exact own_ge hT.rules h
    · exact hT.get
  have nt : ∀ g, nv.ownBlock = some g → ¬ (rv.ownBlock = some g ∨ g = t) := fun g hg h => by
    obtain ⟨c1, h1⟩ := row_type hB.names hg
    rcases h with h | rfl
    · obtain ⟨c2, h2⟩ := row_type hT.rules h
      rw [h1] at h2
      injection h2 with h2
      injection h2 with _ h2 _
      exact absurd h2 (by decide)
    · exact row_ne_whole hB.names hT.ten (by decide) hg
  have nm : ∀ g, mv.ownBlock = some g → ¬ (rv.ownBlock = some g ∨ g = t) := fun g hg h => by
    obtain ⟨c1, h1⟩ := row_type hT.mems hg
    rcases h with h | rfl
    · obtain ⟨c2, h2⟩ := row_type hT.rules h
      rw [h1] at h2
      injection h2 with h2
      injection h2 with _ h2 _
      exact absurd h2 (by decide)
    · exact row_ne_whole hT.mems hT.ten (by decide) hg
  have v7t : ∀ g, v7.ownBlock = some g → ¬ g = t := fun g hg e => by
    subst e
    exact row_ne_whole hO t1 (by decide) hg
  refine ⟨t1.cell 0, t1.free 0, r1, r2, ⟨hB.book.only oA (fun h => ?_), row_only hB.names oA nt, hB.all.only oA (fun h => ?_), hB.geb, hB.gem, hB.below.trans (oA.below hB.below.size fun i _ h => hoff i h)⟩, ⟨t2, row_only hO o2 v7t, row_only hT.mems oA nm, hT.isIn.only oA (fun h => ?_), hT.get, hT.gei⟩, oA.weak fun i _ h => h.symm⟩
  · rcases h with h | h
    · exact row_ne_whole hT.rules hB.book (by decide) h
    · exact bne h
  · rcases h with h | h
    · exact row_ne_map hT.rules hm h
    · exact hTm h.symm
  · rcases h with h | h
    · exact row_ne_map hT.rules hi h
    · exact hTi h.symm

noncomputable def grantEnd : Code := subCode [1, 1, 1, 1, 0] ((Try.f14.body).getD .skip)

set_option maxRecDepth 100000 in
set_option maxHeartbeats 2000000 in
theorem grant_end {z0 z1 z2 z3 z4 z6 z8 z9 z10 z11 z12 z13 z14 z15 z16 z17 z18 z19 z20 z21 z22 z23 z24 z25 z26 z27 z28 z29 z30 z31 z32 z33 z34 z35 z36 z37 z38 z39 z40 z41 z42 z43 z44 z45 z46 : Value} (W wc : World) (b m R t mi : Nat) (nv rv mv : Value) (names : List ByteArray) (l : List (ByteArray × Value)) (rules : List Rl) (ms : List (ByteArray × ByteArray)) (who key : ByteArray) (what : Int) (deny : Bool)
    (hB0 : BookAt W wc b m nv names l) (hT0 : TenOwn W wc t rv mv mi rules ms) (hR0 : Whole wc R 29 [.string who, .int .i64 what, .string key, .bool deny]) (hRlt : R ≠ t) (hRv : rv.ownBlock ≠ some R) (hlen : rules.length < 128) {Q : Exit → Act → World → Prop}
    (hq : ∀ (y37 y38 y39 y40 y41 y42 y43 y44 y45 y46 : Value) (w' : World), BookAt W w' b m nv names l → (∃ rv', TenOwn W w' t rv' mv mi (rules ++ [⟨who, what, key, deny⟩]) ms ∧ Moved wc rv rv') → Only wc w' (fun i => i = t ∨ rv.ownBlock = some i) → Q .normal ⟨(z0 :: z1 :: z2 :: z3 :: z4 :: .pointer (some ⟨R, 0, none⟩) :: z6 :: .pointer (some ⟨t, 0, none⟩) :: z8 :: z9 :: z10 :: z11 :: z12 :: z13 :: z14 :: z15 :: z16 :: z17 :: z18 :: z19 :: z20 :: z21 :: z22 :: z23 :: z24 :: z25 :: z26 :: z27 :: z28 :: z29 :: z30 :: z31 :: z32 :: z33 :: z34 :: z35 :: z36 :: y37 :: y38 :: y39 :: y40 :: y41 :: y42 :: y43 :: y44 :: y45 :: y46 :: []).toArray, []⟩ w') : Code.wp Try.prog grantEnd Q ⟨(z0 :: z1 :: z2 :: z3 :: z4 :: .pointer (some ⟨R, 0, none⟩) :: z6 :: .pointer (some ⟨t, 0, none⟩) :: z8 :: z9 :: z10 :: z11 :: z12 :: z13 :: z14 :: z15 :: z16 :: z17 :: z18 :: z19 :: z20 :: z21 :: z22 :: z23 :: z24 :: z25 :: z26 :: z27 :: z28 :: z29 :: z30 :: z31 :: z32 :: z33 :: z34 :: z35 :: z36 :: z37 :: z38 :: z39 :: z40 :: z41 :: z42 :: z43 :: z44 :: z45 :: z46 :: []).toArray, []⟩ wc := by
  conv => arg 2; whnf
  have hD : Below wc.heap.size wc wc.drew := (Below.refl _ _).drew
  have hgB := hB0.on hD
  have hgT := hT0.on hD
  have hgR : Whole wc.drew R 29 [.string who, .int .i64 what, .string key, .bool deny] := hR0
  have c4 := hgT.ten.cell 0
  obtain ⟨xr, kr, yr, hrv⟩ := slice_any hgT.rules
  subst hrv
  have hQ := Lib.hid hq
  clear hq
  refine wp_region_noPanic ?_
  refine wp_region_held_drew (S := fun w' => Whole w' R 29 [.string who, .int .i64 what, .string key, .bool deny]) (by kernel_rfl) hgR (fun hhS => ?_)
  generalize wc.drew = wd at hgB hgT hgR c4 hD hhS ⊢
  refine wpAnyH_take (i := 0) (oi := ⟨some 37, _, _, _, _, _⟩) (v := ?_) rfl (by kernel_rfl) (by kernel_rfl) (by kernel_rfl) (fun _ _ _ h => h) (Or.inl ⟨by rfl, ?_⟩) (by assumption) ?_
  rotate_left
  · intro w hSw
    (try dsimp only at hSw)
    go_simp
    all_goals (with_reducible rfl)
  try simp only [Act.put, List.setIfInBounds_toArray, List.set_cons_zero, List.set_cons_succ]
  refine wpAnyH_take (i := 1) (oi := ⟨some 38, _, _, _, _, _⟩) (v := ?_) rfl (by kernel_rfl) (by kernel_rfl) (by kernel_rfl) (fun _ _ _ h => h) (Or.inl ⟨by rfl, ?_⟩) (by assumption) ?_
  rotate_left
  · intro w hSw
    (try dsimp only at hSw)
    go_simp
    all_goals (with_reducible rfl)
  try simp only [Act.put, List.setIfInBounds_toArray, List.set_cons_zero, List.set_cons_succ]
  refine wpAnyH_take (i := 2) (oi := ⟨some 39, _, _, _, _, _⟩) (v := ?_) rfl (by kernel_rfl) (by kernel_rfl) (by kernel_rfl) (fun _ _ _ h => h) (Or.inl ⟨by rfl, ?_⟩) (by assumption) ?_
  rotate_left
  · intro w hSw
    (try dsimp only at hSw)
    go_simp
    all_goals (with_reducible rfl)
  try simp only [Act.put, List.setIfInBounds_toArray, List.set_cons_zero, List.set_cons_succ]
  refine wpAnyH_take (i := 3) (oi := ⟨some 40, _, _, _, _, _⟩) (v := ?_) rfl (by kernel_rfl) (by kernel_rfl) (by kernel_rfl) (fun _ _ _ h => h) (Or.inl ⟨by rfl, ?_⟩) (by assumption) ?_
  rotate_left
  · intro w hSw
    (try dsimp only at hSw)
    go_simp
    all_goals (with_reducible rfl)
  try simp only [Act.put, List.setIfInBounds_toArray, List.set_cons_zero, List.set_cons_succ]
  refine wpAnyH_take (i := 5) (oi := ⟨some 42, _, _, _, _, _⟩) (v := ?_) rfl (by kernel_rfl) (by kernel_rfl) (by kernel_rfl) (fun _ _ _ h => h) (Or.inl ⟨by rfl, ?_⟩) (by assumption) ?_
  rotate_left
  · intro w hSw
    (try dsimp only at hSw)
    have x0 := hSw.cell 0
    have x1 := hSw.cell 1
    have x2 := hSw.cell 2
    have x3 := hSw.cell 3
    go_simp
    all_goals (with_reducible rfl)
  try simp only [Act.put, List.setIfInBounds_toArray, List.set_cons_zero, List.set_cons_succ]
  refine wpAnyH_ready (rs := [4, 6]) (by kernel_rfl) (by simp) ?_
  refine AllReadyH.cons (o := ⟨some 41, _, _, _, _, _⟩) rfl (fun K hK => ?_) ?_
  · go_simp
    refine hK.out _ _ hhS (fun hh4 => ?_)
    clear hK K
    try simp only [Act.put, List.setIfInBounds_toArray, List.set_cons_zero, List.set_cons_succ]
    refine wpAnyH_ready (rs := [6]) (by kernel_rfl) (by simp) ?_
    refine AllReadyH.cons (o := ⟨some 43, _, _, _, _, _⟩) rfl (fun K hK => ?_) AllReadyH.nil
    go_simp
    refine hK.out _ _ (hgR.alloc _) (fun hh6 => ?_)
    clear hK K
    try simp only [Act.put, List.setIfInBounds_toArray, List.set_cons_zero, List.set_cons_succ]
    refine wpAnyH_ready (rs := [7]) (by kernel_rfl) (by simp) ?_
    refine AllReadyH.cons (o := ⟨some 44, _, _, _, _, _⟩) rfl (fun K hK => ?_) AllReadyH.nil
    rw [if_pos (by rfl)]
    refine append_rule wd _ _ rfl W.heap.size wd.heap.size (.slice xr kr yr) rules rfl hgT.rules who what key deny rfl rfl (by omega) hgB.below.size ?_
    intro v7 w7 hO7 hG7 hV7
    obtain ⟨x7, k7, y7, hv7⟩ := slice_any hO7
    subst hv7
    obtain ⟨f0, f1, hrw, hfin⟩ := grant_mem hgB hgT hgR hRlt hRv hO7 hG7
    refine hK.out _ _ hrw (fun hh7 => ?_)
    clear hK K
    try simp only [Act.put, List.setIfInBounds_toArray, List.set_cons_zero, List.set_cons_succ]
    refine wpAnyH_take (i := 8) (oi := ⟨some 45, _, _, _, _, _⟩) (v := ?_) rfl (by kernel_rfl) (by kernel_rfl) (by kernel_rfl) (fun _ _ _ h => h) (Or.inl ⟨by rfl, ?_⟩) (by assumption) ?_
    rotate_left
    · intro w hSw
      (try dsimp only at hSw)
      go_simp
      all_goals (with_reducible rfl)
    try simp only [Act.put, List.setIfInBounds_toArray, List.set_cons_zero, List.set_cons_succ]
    refine wpAnyH_take (i := 9) (oi := ⟨some 46, _, _, _, _, _⟩) (v := ?_) rfl (by kernel_rfl) (by kernel_rfl) (by kernel_rfl) (fun _ _ _ h => h) (Or.inl ⟨by rfl, ?_⟩) (by assumption) ?_
    rotate_left
    · intro w hSw
      (try dsimp only at hSw)
      go_simp
      all_goals (with_reducible rfl)
    try simp only [Act.put, List.setIfInBounds_toArray, List.set_cons_zero, List.set_cons_succ]
    refine wpAnyH_ready (rs := [10]) (by kernel_rfl) (by simp) ?_
    refine AllReadyH.cons (o := ⟨none, _, _, _, _, _⟩) rfl (fun K hK => ?_) AllReadyH.nil
    go_simp
    refine hK.out _ _ hfin.1 (fun hh10 => ?_)
    clear hK K
    try simp only [Act.put]
    refine wpAnyH_done (by kernel_rfl) ?_ _
    refine NoPanic.normal ?_
    exact hQ.out _ _ _ _ _ _ _ _ _ _ _ hfin.2.1 ⟨_, hfin.2.2.1, hV7.imp id fun ⟨g, h1, h2⟩ => ⟨g, h1, Nat.le_trans hD.size h2⟩⟩ (((Only.of_below hD (fun _ => False)).trans hfin.2.2.2).weak fun i _ h => h.elim False.elim id)
  refine AllReadyH.cons (o := ⟨some 43, _, _, _, _, _⟩) rfl (fun K hK => ?_) AllReadyH.nil
  · go_simp
    refine hK.out _ _ (hgR.alloc _) (fun hh6 => ?_)
    clear hK K
    try simp only [Act.put, List.setIfInBounds_toArray, List.set_cons_zero, List.set_cons_succ]
    have c4 : (wd.alloc (.cells #[.string who, .int .i64 what, .string key, .bool deny] 29)).cell? ⟨t, 0, none⟩ = some (.slice xr kr yr) := (hgT.ten.alloc _).cell 0
    refine wpAnyH_ready (rs := [4]) (by kernel_rfl) (by simp) ?_
    refine AllReadyH.cons (o := ⟨some 41, _, _, _, _, _⟩) rfl (fun K hK => ?_) AllReadyH.nil
    go_simp
    refine hK.out _ _ hh6 (fun hh4 => ?_)
    clear hK K
    try simp only [Act.put, List.setIfInBounds_toArray, List.set_cons_zero, List.set_cons_succ]
    refine wpAnyH_ready (rs := [7]) (by kernel_rfl) (by simp) ?_
    refine AllReadyH.cons (o := ⟨some 44, _, _, _, _, _⟩) rfl (fun K hK => ?_) AllReadyH.nil
    rw [if_pos (by rfl)]
    refine append_rule wd _ _ rfl W.heap.size wd.heap.size (.slice xr kr yr) rules rfl hgT.rules who what key deny rfl rfl (by omega) hgB.below.size ?_
    intro v7 w7 hO7 hG7 hV7
    obtain ⟨x7, k7, y7, hv7⟩ := slice_any hO7
    subst hv7
    obtain ⟨f0, f1, hrw, hfin⟩ := grant_mem hgB hgT hgR hRlt hRv hO7 hG7
    refine hK.out _ _ hrw (fun hh7 => ?_)
    clear hK K
    try simp only [Act.put, List.setIfInBounds_toArray, List.set_cons_zero, List.set_cons_succ]
    refine wpAnyH_take (i := 8) (oi := ⟨some 45, _, _, _, _, _⟩) (v := ?_) rfl (by kernel_rfl) (by kernel_rfl) (by kernel_rfl) (fun _ _ _ h => h) (Or.inl ⟨by rfl, ?_⟩) (by assumption) ?_
    rotate_left
    · intro w hSw
      (try dsimp only at hSw)
      go_simp
      all_goals (with_reducible rfl)
    try simp only [Act.put, List.setIfInBounds_toArray, List.set_cons_zero, List.set_cons_succ]
    refine wpAnyH_take (i := 9) (oi := ⟨some 46, _, _, _, _, _⟩) (v := ?_) rfl (by kernel_rfl) (by kernel_rfl) (by kernel_rfl) (fun _ _ _ h => h) (Or.inl ⟨by rfl, ?_⟩) (by assumption) ?_
    rotate_left
    · intro w hSw
      (try dsimp only at hSw)
      go_simp
      all_goals (with_reducible rfl)
    try simp only [Act.put, List.setIfInBounds_toArray, List.set_cons_zero, List.set_cons_succ]
    refine wpAnyH_ready (rs := [10]) (by kernel_rfl) (by simp) ?_
    refine AllReadyH.cons (o := ⟨none, _, _, _, _, _⟩) rfl (fun K hK => ?_) AllReadyH.nil
    go_simp
    refine hK.out _ _ hfin.1 (fun hh10 => ?_)
    clear hK K
    try simp only [Act.put]
    refine wpAnyH_done (by kernel_rfl) ?_ _
    refine NoPanic.normal ?_
    exact hQ.out _ _ _ _ _ _ _ _ _ _ _ hfin.2.1 ⟨_, hfin.2.2.1, hV7.imp id fun ⟨g, h1, h2⟩ => ⟨g, h1, Nat.le_trans hD.size h2⟩⟩ (((Only.of_below hD (fun _ => False)).trans hfin.2.2.2).weak fun i _ h => h.elim False.elim id)

end Go.Proofs.Ytglcingpolpkdaa
