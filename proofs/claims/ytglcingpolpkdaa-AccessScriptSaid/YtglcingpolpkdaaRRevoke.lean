/- The reference's Revoke: the tenant is there. -/
import Derived.Test.YtglcingpolpkdaaRLeave
import Derived.Test.YtglcingpolpkdaaRMay
namespace Go.Proofs.Ytglcingpolpkdaa
open Go.RowKit

theorem part_takerules {w : World} {B k N c mg : Nat} {l : List Rl} (h : OwnR w B (.slice (some ⟨mg, 0, none⟩) N c) l) (hk : k < N) : SrcO Rl.cells 4 w (.slice (some ⟨mg, 0, none⟩) k c) (l.take k) := by
  have hrow := own_rowG (n := 4) lenR (show w.ownsRow B 29 4 (.slice (some ⟨mg, 0, none⟩) N c) l.length (l.flatMap Rl.cells) from h)
  obtain ⟨cap, cur, hv, _, hW, _⟩ := own_full h rfl
  have hn : N = l.length := by injection hv
  refine ⟨mg, 0, c, by rw [List.length_take]; congr 1; omega, hW.lt, fun i a ha => ?_⟩
  rw [Nat.zero_add]
  exact (hrow i a (by rw [List.getElem?_take] at ha; split at ha; exact ha; cases ha)).1
theorem part_droprules {w : World} {B k N c mg o2 : Nat} {l : List Rl} (h : OwnR w B (.slice (some ⟨mg, 0, none⟩) N c) l) (_ : k < N) (hN : l.length = N) (ho : o2 = if c = k + 1 then 0 else (k + 1) * 4) : SrcO Rl.cells 4 w (.slice (some ⟨mg, o2, none⟩) (N - (k + 1)) (c - (k + 1))) (l.drop (k + 1)) := by
  have hrow := own_rowG (n := 4) lenR (show w.ownsRow B 29 4 (.slice (some ⟨mg, 0, none⟩) N c) l.length (l.flatMap Rl.cells) from h)
  obtain ⟨cap, cur, hv, _, hW, hle, _⟩ := own_full h rfl
  refine ⟨mg, o2, c - (k + 1), by rw [List.length_drop, hN], hW.lt, fun i a ha => ?_⟩
  rw [List.getElem?_drop] at ha
  have := (hrow (k + 1 + i) a ha).1
  have hne : c ≠ k + 1 := by
    have h1 := (List.getElem?_eq_some_iff.1 ha).1
    injection hv with _ h2 h3
    omega
  rw [if_neg hne] at ho
  rwa [Nat.add_mul, ← ho] at this

theorem hasR_none {l : List Rl} {r : Rl} : hasR l r = false ↔ ∀ x ∈ l, eqR x r = false := by
  rw [← Bool.not_eq_true, hasR_iff]
  exact ⟨fun h x hx => Bool.not_eq_true _ ▸ fun e => h (eqR_iff.1 e ▸ hx), fun h hr => absurd (eqR_iff.2 rfl) (by rw [h r hr]; simp)⟩
/-- What Revoke leaves: new memory, and one cell written. -/
def LeftR (w w' : World) (g i : Nat) (rs : List Rl) (r : Rl) : Prop :=
  ∃ wd w7 v7 k, Below w.heap.size w wd ∧ Below wd.heap.size wd w7 ∧ OwnR w7 wd.heap.size v7 ([] ++ rs.take k ++ rs.drop (k + 1)) ∧ (∃ x, rs[k]? = some x ∧ eqR x r = true) ∧ (∀ j x, j < k → rs[j]? = some x → eqR x r = false) ∧ w' = w7.setCell ⟨g, i * 3 + 2, none⟩ v7

set_option maxRecDepth 100000 in
set_option maxHeartbeats 4000000 in
theorem refrevoke_at (W w : World) (m g i NT c mg N cm : Nat) (mv : Value) (ts : List Tn) (t : Tn) (n who key : ByteArray) (what : Int) (deny : Bool) (h : RefIs W w m ts) (hlen : ts.length ≤ 1000) (hg : getT ts n = some (i, t)) (hT : TenR W.heap.size w m g i NT c mv (.slice (some ⟨mg, 0, none⟩) N cm) t) (hN : t.rules.length = N) (hml : N ≤ 1000) (hmay : mayB ⟨who, what, key, deny⟩ = true) (hsz : key.size ≤ 1000000)
    (hmg : m ≠ g) (hFZ : ∀ w7, Below w.heap.size w w7 → w7.frozen? ⟨g, i * 3 + 2, none⟩ = false) :
    Calls Try.prog 62 #[.pointer (some ⟨m, 0, none⟩), .string n, .agg #[.string who, .int .i64 what, .string key, .bool deny]] w fun e w' => (e = .returned (.int .i64 6) ∧ hasR t.rules ⟨who, what, key, deny⟩ = false ∧ Below w.heap.size w w') ∨ (e = .returned (.int .i64 0) ∧ LeftR w w' g i t.rules ⟨who, what, key, deny⟩) := by
  have hBA : Below w.heap.size w (w.alloc (.cells #[.string who, .int .i64 what, .string key, .bool deny] 29)) := (Below.refl _ _).alloc (Nat.le_refl _) _
  have hR0 := Whole.new w 29 #[.string who, .int .i64 what, .string key, .bool deny]
  have HAT := Lib.hid (fun w' (hB : Below w.heap.size w w') => refat_calls W w' m ts n (h.on hB) hlen)
  unfold atT at HAT
  rw [hg] at HAT
  have HMAY := Lib.hid (fun w' => hmay ▸ refmay_calls w' who key what deny hsz)
  have HT := Lib.hid hT
  have HN := Lib.hid hN
  have HFZ := Lib.hid hFZ
  have HMG := Lib.hid hmg
  have hcm : N ≤ cm := by
    obtain ⟨cap, cur, hv, _, _, hle, _⟩ := own_full hT.rules rfl
    injection hv with _ h1 h2
    omega
  have i0 : ¬ (i : Int) < 0 := by omega
  have i3 : 0 ≤ (i : Int) ∧ (i : Int) < (NT : Int) := by have := hT.lti; omega
  have HM := Lib.hid (fun w' (hB : Below w.heap.size w w') => refrule_calls w' W.heap.size t.name _ mv t.rules ⟨who, what, key, deny⟩ (row_low hT.rules hB) (by rw [hN]; exact hml))
  clear h hg hT hN hmay hFZ hmg
  generalize hw : (w.alloc (.cells #[.string who, .int .i64 what, .string key, .bool deny] 29)) = w0 at hBA hR0
  obtain ⟨RB, hRB⟩ : ∃ b, w.heap.size = b := ⟨_, rfl⟩
  rw [hRB] at hR0
  have r0 := hR0.cell 0
  have r1 := hR0.cell 1
  have r2 := hR0.cell 2
  have r3 := hR0.cell 3
  go_enter Try.func62, Try.ntmps62
  go_upto_region 4 with (first
    | (go_at_call 93; refine (HAT.out w1 hB1).mono ?_; rintro e w' ⟨rfl, hw⟩; rw [hw]; clear hw)
    | (go_at_call 95; refine (HMAY.out w0).mono ?_; rintro e w1 ⟨rfl, hB10⟩; have hB1 := hBA.trans (hB10.mono hBA.size); have hT1 := HT.out.on hB1; have hR1 := hR0.below hB10 hR0.lt; have q0 := hT1.book; have q1 := hT1.c0; have q2 := hT1.c1; have q3 := hT1.c2; have r0 := hR1.cell 0; have r1 := hR1.cell 1; have r2 := hR1.cell 2; have r3 := hR1.cell 3)
    | (refine wpList_box_cells (by rfl) 29 _ (by rfl) #[.string who, .int .i64 what, .string key, .bool deny] (by rfl) ?_; rw [hw, hRB])
    | fail)
  clear r0 r1 r2 r3
  clear r0 r1 r2 r3 q0 q1 q2 q3
  refine wp_region_noPanic ?_
  refine wp_region_held_drew (S := fun w' => TenR W.heap.size w' m g i NT c mv (.slice (some ⟨mg, 0, none⟩) N cm) t ∧ Whole w' RB 29 #[.string who, .int .i64 what, .string key, .bool deny].toList ∧ Below w.heap.size w w') (by kernel_rfl) ⟨hT1.on ((Below.refl _ _).drew), hR1.below ((Below.refl _ _).drew) hR1.lt, hB1.drew⟩ (fun hhS => ?_)
  refine wpAnyH_take (i := 0) (oi := ⟨some 15, _, _, _, _, _⟩) (v := ?_) rfl (by kernel_rfl) (by kernel_rfl) (by kernel_rfl) (fun _ _ _ h => h) (Or.inl ⟨by rfl, ?_⟩) (by assumption) ?_
  rotate_left
  · intro w hSw
    (try dsimp only at hSw)
    go_simp
    all_goals (with_reducible rfl)
  try simp only [Act.put, List.setIfInBounds_toArray, List.set_cons_zero, List.set_cons_succ]
  refine wpAnyH_take (i := 1) (oi := ⟨some 16, _, _, _, _, _⟩) (v := .bool false) rfl (by kernel_rfl) (by kernel_rfl) (by kernel_rfl) (fun _ _ _ h => h) (Or.inl ⟨by rfl, ?_⟩) (by assumption) ?_
  · intro w hSw
    (try dsimp only at hSw)
    go_simp
    all_goals (with_reducible rfl)
  try simp only [Act.put, List.setIfInBounds_toArray, List.set_cons_zero, List.set_cons_succ]
  refine wpAnyH_take (i := 2) (oi := ⟨some 17, _, _, _, _, _⟩) (v := ?_) rfl (by kernel_rfl) (by kernel_rfl) (by kernel_rfl) (fun _ _ _ h => h) (Or.inl ⟨by rfl, ?_⟩) (by assumption) ?_
  rotate_left
  · intro w hSw
    (try dsimp only at hSw)
    go_simp
    all_goals (with_reducible rfl)
  try simp only [Act.put, List.setIfInBounds_toArray, List.set_cons_zero, List.set_cons_succ]
  refine wpAnyH_take (i := 3) (oi := ⟨some 18, _, _, _, _, _⟩) (v := ?_) rfl (by kernel_rfl) (by kernel_rfl) (by kernel_rfl) (fun _ _ _ h => h) (Or.inl ⟨by rfl, ?_⟩) (by assumption) ?_
  rotate_left
  · intro w hSw
    (try dsimp only at hSw)
    go_simp
    all_goals (with_reducible rfl)
  try simp only [Act.put, List.setIfInBounds_toArray, List.set_cons_zero, List.set_cons_succ]
  refine wpAnyH_take (i := 4) (oi := ⟨some 19, _, _, _, _, _⟩) (v := ?_) rfl (by kernel_rfl) (by kernel_rfl) (by kernel_rfl) (fun _ _ _ h => h) (Or.inl ⟨by rfl, ?_⟩) (by assumption) ?_
  rotate_left
  · intro w hSw
    (try dsimp only at hSw)
    go_simp
    all_goals (with_reducible rfl)
  try simp only [Act.put, List.setIfInBounds_toArray, List.set_cons_zero, List.set_cons_succ]
  refine wpAnyH_take (i := 5) (oi := ⟨some 20, _, _, _, _, _⟩) (v := ?_) rfl (by kernel_rfl) (by kernel_rfl) (by kernel_rfl) (fun _ _ _ h => h) (Or.inl ⟨by rfl, ?_⟩) (by assumption) ?_
  rotate_left
  · intro w hSw
    (try dsimp only at hSw)
    go_simp
    all_goals (with_reducible rfl)
  try simp only [Act.put, List.setIfInBounds_toArray, List.set_cons_zero, List.set_cons_succ]
  refine wpAnyH_take (i := 6) (oi := ⟨some 21, _, _, _, _, _⟩) (v := ?_) rfl (by kernel_rfl) (by kernel_rfl) (by kernel_rfl) (fun _ _ _ h => h) (Or.inl ⟨by rfl, ?_⟩) (by assumption) ?_
  rotate_left
  · intro w hSw
    (try dsimp only at hSw)
    have y0 := hSw.1.book
    go_simp
    all_goals (with_reducible rfl)
  try simp only [Act.put, List.setIfInBounds_toArray, List.set_cons_zero, List.set_cons_succ]
  refine wpAnyH_take (i := 7) (oi := ⟨some 22, _, _, _, _, _⟩) (v := ?_) rfl (by kernel_rfl) (by kernel_rfl) (by kernel_rfl) (fun _ _ _ h => h) (Or.inl ⟨by rfl, ?_⟩) (by assumption) ?_
  rotate_left
  · intro w hSw
    (try dsimp only at hSw)
    go_simp
    all_goals (with_reducible rfl)
  try simp only [Act.put, List.setIfInBounds_toArray, List.set_cons_zero, List.set_cons_succ]
  refine wpAnyH_take (i := 8) (oi := ⟨some 23, _, _, _, _, _⟩) (v := ?_) rfl (by kernel_rfl) (by kernel_rfl) (by kernel_rfl) (fun _ _ _ h => h) (Or.inl ⟨by rfl, ?_⟩) (by assumption) ?_
  rotate_left
  · intro w hSw
    (try dsimp only at hSw)
    go_simp
    all_goals (with_reducible rfl)
  try simp only [Act.put, List.setIfInBounds_toArray, List.set_cons_zero, List.set_cons_succ]
  refine wpAnyH_take (i := 9) (oi := ⟨some 24, _, _, _, _, _⟩) (v := ?_) rfl (by kernel_rfl) (by kernel_rfl) (by kernel_rfl) (fun _ _ _ h => h) (Or.inl ⟨by rfl, ?_⟩) (by assumption) ?_
  rotate_left
  · intro w hSw
    (try dsimp only at hSw)
    have y0 := hSw.1.c0
    have y1 := hSw.1.c1
    have y2 := hSw.1.c2
    go_simp
    all_goals (with_reducible rfl)
  try simp only [Act.put, List.setIfInBounds_toArray, List.set_cons_zero, List.set_cons_succ]
  refine wpAnyH_take (i := 10) (oi := ⟨some 25, _, _, _, _, _⟩) (v := ?_) rfl (by kernel_rfl) (by kernel_rfl) (by kernel_rfl) (fun _ _ _ h => h) (Or.inl ⟨by rfl, ?_⟩) (by assumption) ?_
  rotate_left
  · intro w hSw
    (try dsimp only at hSw)
    have y0 := hSw.2.1.cell 0
    have y1 := hSw.2.1.cell 1
    have y2 := hSw.2.1.cell 2
    have y3 := hSw.2.1.cell 3
    go_simp
    all_goals (with_reducible rfl)
  try simp only [Act.put, List.setIfInBounds_toArray, List.set_cons_zero, List.set_cons_succ]
  refine wpAnyH_ready (rs := [11]) (by kernel_rfl) (by simp) ?_
  refine AllReadyH.cons (o := ⟨some 26, _, _, _, _, _⟩) rfl (fun K hK => ?_) AllReadyH.nil
  go_simp
  refine (HM.out _ hhS.2.2).mono ?_
  rintro e w2 ⟨ix, rfl, hix2, hB20⟩
  have hT2 := hhS.1.on hB20
  have hR2 := hhS.2.1.below hB20 hhS.2.1.lt
  have hB2 := hhS.2.2.trans (hB20.mono hhS.2.2.size)
  refine hK.out _ _ ⟨hT2, hR2, hB2⟩ (fun _ => ?_)
  clear hK K
  try simp only [Act.put, List.setIfInBounds_toArray, List.set_cons_zero, List.set_cons_succ]
  clear hhS
  have hix : ((ix = -1 ∧ ∀ x ∈ t.rules, eqR x ⟨who, what, key, deny⟩ = false) ∨ ∃ k : Nat, ix = k ∧ k < t.rules.length ∧ (∃ x, t.rules[k]? = some x ∧ eqR x ⟨who, what, key, deny⟩ = true) ∧ ∀ j x, j < k → t.rules[j]? = some x → eqR x ⟨who, what, key, deny⟩ = false) := hix2
  clear hix2
  rcases hix with ⟨rfl, hno⟩ | ⟨k1, rfl, _, ⟨x1, hx1, he1⟩, _⟩
  · refine wpAnyH_take (i := 12) (oi := ⟨some 27, _, _, _, _, _⟩) (v := .bool true) rfl (by kernel_rfl) (by kernel_rfl) (by kernel_rfl) (fun _ _ _ h => h) (Or.inl ⟨by rfl, ?_⟩) (by assumption) ?_
    · intro w hSw
      (try dsimp only at hSw)
      go_simp
      all_goals (with_reducible rfl)
    try simp only [Act.put, List.setIfInBounds_toArray, List.set_cons_zero, List.set_cons_succ]
    refine wpAnyH_take (i := 13) (oi := ⟨some 28, _, _, _, _, _⟩) (v := ?_) rfl (by kernel_rfl) (by kernel_rfl) (by kernel_rfl) (fun _ _ _ h => h) (Or.inl ⟨by rfl, ?_⟩) (by assumption) ?_
    rotate_left
    · intro w hSw
      (try dsimp only at hSw)
      go_simp
      all_goals (with_reducible rfl)
    try simp only [Act.put, List.setIfInBounds_toArray, List.set_cons_zero, List.set_cons_succ]
    refine wpAnyH_done (by kernel_rfl) ?_ _
    refine NoPanic.normal ?_
    go_wp2
    go_ret
    exact .inl ⟨rfl, hasR_none.2 hno, by first | exact hB2 | (rw [← hRB]; exact hB2)⟩
  have k1f : ¬ (k1 : Int) < 0 := by omega
  refine wpAnyH_take (i := 12) (oi := ⟨some 27, _, _, _, _, _⟩) (v := .bool false) rfl (by kernel_rfl) (by kernel_rfl) (by kernel_rfl) (fun _ _ _ h => h) (Or.inl ⟨by rfl, ?_⟩) (by assumption) ?_
  · intro w hSw
    (try dsimp only at hSw)
    go_simp
    all_goals (with_reducible rfl)
  try simp only [Act.put, List.setIfInBounds_toArray, List.set_cons_zero, List.set_cons_succ]
  refine wpAnyH_take (i := 13) (oi := ⟨some 28, _, _, _, _, _⟩) (v := ?_) rfl (by kernel_rfl) (by kernel_rfl) (by kernel_rfl) (fun _ _ _ h => h) (Or.inl ⟨by rfl, ?_⟩) (by assumption) ?_
  rotate_left
  · intro w hSw
    (try dsimp only at hSw)
    go_simp
    all_goals (with_reducible rfl)
  try simp only [Act.put, List.setIfInBounds_toArray, List.set_cons_zero, List.set_cons_succ]
  refine wpAnyH_done (by kernel_rfl) ?_ _
  refine NoPanic.normal ?_
  go_wp2
  refine wp_region_noPanic ?_
  refine wp_region_held_drew (S := fun w' => TenR W.heap.size w' m g i NT c mv (.slice (some ⟨mg, 0, none⟩) N cm) t ∧ Whole w' RB 29 #[.string who, .int .i64 what, .string key, .bool deny].toList ∧ Below w.heap.size w w') (by kernel_rfl) ⟨hT2.on ((Below.refl _ _).drew), hR2.below ((Below.refl _ _).drew) hR2.lt, hB2.drew⟩ (fun hhS => ?_)
  refine wpAnyH_take (i := 0) (oi := ⟨some 29, _, _, _, _, _⟩) (v := ?_) rfl (by kernel_rfl) (by kernel_rfl) (by kernel_rfl) (fun _ _ _ h => h) (Or.inl ⟨by rfl, ?_⟩) (by assumption) ?_
  rotate_left
  · intro w hSw
    (try dsimp only at hSw)
    go_simp
    all_goals (with_reducible rfl)
  try simp only [Act.put, List.setIfInBounds_toArray, List.set_cons_zero, List.set_cons_succ]
  refine wpAnyH_take (i := 1) (oi := ⟨some 30, _, _, _, _, _⟩) (v := ?_) rfl (by kernel_rfl) (by kernel_rfl) (by kernel_rfl) (fun _ _ _ h => h) (Or.inl ⟨by rfl, ?_⟩) (by assumption) ?_
  rotate_left
  · intro w hSw
    (try dsimp only at hSw)
    go_simp
    all_goals (with_reducible rfl)
  try simp only [Act.put, List.setIfInBounds_toArray, List.set_cons_zero, List.set_cons_succ]
  refine wpAnyH_take (i := 2) (oi := ⟨some 31, _, _, _, _, _⟩) (v := ?_) rfl (by kernel_rfl) (by kernel_rfl) (by kernel_rfl) (fun _ _ _ h => h) (Or.inl ⟨by rfl, ?_⟩) (by assumption) ?_
  rotate_left
  · intro w hSw
    (try dsimp only at hSw)
    go_simp
    all_goals (with_reducible rfl)
  try simp only [Act.put, List.setIfInBounds_toArray, List.set_cons_zero, List.set_cons_succ]
  refine wpAnyH_take (i := 3) (oi := ⟨some 32, _, _, _, _, _⟩) (v := ?_) rfl (by kernel_rfl) (by kernel_rfl) (by kernel_rfl) (fun _ _ _ h => h) (Or.inl ⟨by rfl, ?_⟩) (by assumption) ?_
  rotate_left
  · intro w hSw
    (try dsimp only at hSw)
    have y0 := hSw.1.book
    go_simp
    all_goals (with_reducible rfl)
  try simp only [Act.put, List.setIfInBounds_toArray, List.set_cons_zero, List.set_cons_succ]
  refine wpAnyH_take (i := 4) (oi := ⟨some 33, _, _, _, _, _⟩) (v := ?_) rfl (by kernel_rfl) (by kernel_rfl) (by kernel_rfl) (fun _ _ _ h => h) (Or.inl ⟨by rfl, ?_⟩) (by assumption) ?_
  rotate_left
  · intro w hSw
    (try dsimp only at hSw)
    go_simp
    all_goals (with_reducible rfl)
  try simp only [Act.put, List.setIfInBounds_toArray, List.set_cons_zero, List.set_cons_succ]
  refine wpAnyH_take (i := 5) (oi := ⟨some 34, _, _, _, _, _⟩) (v := ?_) rfl (by kernel_rfl) (by kernel_rfl) (by kernel_rfl) (fun _ _ _ h => h) (Or.inl ⟨by rfl, ?_⟩) (by assumption) ?_
  rotate_left
  · intro w hSw
    (try dsimp only at hSw)
    go_simp
    all_goals (with_reducible rfl)
  try simp only [Act.put, List.setIfInBounds_toArray, List.set_cons_zero, List.set_cons_succ]
  refine wpAnyH_take (i := 6) (oi := ⟨some 35, _, _, _, _, _⟩) (v := ?_) rfl (by kernel_rfl) (by kernel_rfl) (by kernel_rfl) (fun _ _ _ h => h) (Or.inl ⟨by rfl, ?_⟩) (by assumption) ?_
  rotate_left
  · intro w hSw
    (try dsimp only at hSw)
    have y0 := hSw.1.c0
    have y1 := hSw.1.c1
    have y2 := hSw.1.c2
    go_simp
    all_goals (with_reducible rfl)
  try simp only [Act.put, List.setIfInBounds_toArray, List.set_cons_zero, List.set_cons_succ]
  refine wpAnyH_take (i := 7) (oi := ⟨some 36, _, _, _, _, _⟩) (v := ?_) rfl (by kernel_rfl) (by kernel_rfl) (by kernel_rfl) (fun _ _ _ h => h) (Or.inl ⟨by rfl, ?_⟩) (by assumption) ?_
  rotate_left
  · intro w hSw
    (try dsimp only at hSw)
    have y0 := hSw.2.1.cell 0
    have y1 := hSw.2.1.cell 1
    have y2 := hSw.2.1.cell 2
    have y3 := hSw.2.1.cell 3
    go_simp
    all_goals (with_reducible rfl)
  try simp only [Act.put, List.setIfInBounds_toArray, List.set_cons_zero, List.set_cons_succ]
  refine wpAnyH_ready (rs := [8]) (by kernel_rfl) (by simp) ?_
  refine AllReadyH.cons (o := ⟨some 37, _, _, _, _, _⟩) rfl (fun K hK => ?_) AllReadyH.nil
  go_simp
  refine (HM.out _ hhS.2.2).mono ?_
  rintro e w3 ⟨ix, rfl, hix3, hB30⟩
  have hT3 := hhS.1.on hB30
  have hR3 := hhS.2.1.below hB30 hhS.2.1.lt
  have hB3 := hhS.2.2.trans (hB30.mono hhS.2.2.size)
  refine hK.out _ _ ⟨hT3, hR3, hB3⟩ (fun _ => ?_)
  clear hK K
  try simp only [Act.put, List.setIfInBounds_toArray, List.set_cons_zero, List.set_cons_succ]
  clear hhS
  refine wpAnyH_take (i := 9) (oi := ⟨some 8, _, _, _, _, _⟩) (v := ?_) rfl (by kernel_rfl) (by kernel_rfl) (by kernel_rfl) (fun _ _ _ h => h) (Or.inl ⟨by rfl, ?_⟩) (by assumption) ?_
  rotate_left
  · intro w hSw
    (try dsimp only at hSw)
    go_simp
    all_goals (with_reducible rfl)
  try simp only [Act.put, List.setIfInBounds_toArray, List.set_cons_zero, List.set_cons_succ]
  refine wpAnyH_done (by kernel_rfl) ?_ _
  refine NoPanic.normal ?_
  have hix : ((ix = -1 ∧ ∀ x ∈ t.rules, eqR x ⟨who, what, key, deny⟩ = false) ∨ ∃ k : Nat, ix = k ∧ k < t.rules.length ∧ (∃ x, t.rules[k]? = some x ∧ eqR x ⟨who, what, key, deny⟩ = true) ∧ ∀ j x, j < k → t.rules[j]? = some x → eqR x ⟨who, what, key, deny⟩ = false) := hix3
  clear hix3
  obtain ⟨k, rfl, hk0⟩ := hix.elim (fun h => absurd he1 (by rw [h.2 _ (List.mem_of_getElem? hx1)]; simp)) id
  have hB := hB3
  have hTc := hT3
  obtain ⟨hkl, hkx, hkn⟩ := hk0
  have hkN : k < N := by rw [← HN.out]; exact hkl
  have j1 : 0 ≤ (k : Int) ∧ (k : Int) ≤ (N : Int) := by omega
  have j2 : 0 ≤ (k : Int) ∧ (k : Int) ≤ (cm : Int) := by omega
  have j3 : 0 ≤ (k : Int) + 1 ∧ (k : Int) + 1 ≤ (N : Int) := by omega
  have j4 : ((k : Int) + 1).toNat = k + 1 := by omega
  have b2 : IntKind.i64.wrap ((k : Int) + 1) = (k : Int) + 1 := IntWalk.i64_in _ (by omega)
  obtain ⟨o2, ho2⟩ : ∃ o2, o2 = if cm = k + 1 then 0 else (k + 1) * 4 := ⟨_, rfl⟩
  have HO2 := Lib.hid ho2
  clear ho2
  go_wp2
  refine wp_region_noPanic ?_
  refine wp_region_held_drew (S := fun w' => (w'.cell? ⟨m, 0, none⟩ = some (.slice (some ⟨g, 0, none⟩) NT c) ∧ m < w'.heap.size)) (by kernel_rfl) ⟨(hTc.on ((Below.refl _ _).drew)).book, hTc.ltm⟩ (fun hhS => ?_)
  have hTd := hTc.on ((Below.refl w3.heap.size w3).drew)
  have hBd := hB.drew
  clear hhS
  generalize w3.drew = wd at hTd hBd ⊢
  have hA1 : Below wd.heap.size wd (wd.alloc (.cells #[] 29)) := (Below.refl _ _).alloc (Nat.le_refl _) _
  have hT5 := hTd.on hA1
  have hhS := And.intro hTd.book hTd.ltm
  refine wpAnyH_take (i := 0) (oi := ⟨some 38, _, _, _, _, _⟩) (v := ?_) rfl (by kernel_rfl) (by kernel_rfl) (by kernel_rfl) (fun _ _ _ h => h) (Or.inl ⟨by rfl, ?_⟩) (by assumption) ?_
  rotate_left
  · intro w hSw
    (try dsimp only at hSw)
    go_simp
    all_goals (with_reducible rfl)
  try simp only [Act.put, List.setIfInBounds_toArray, List.set_cons_zero, List.set_cons_succ]
  refine wpAnyH_take (i := 1) (oi := ⟨some 39, _, _, _, _, _⟩) (v := ?_) rfl (by kernel_rfl) (by kernel_rfl) (by kernel_rfl) (fun _ _ _ h => h) (Or.inl ⟨by rfl, ?_⟩) (by assumption) ?_
  rotate_left
  · intro w hSw
    (try dsimp only at hSw)
    go_simp
    all_goals (with_reducible rfl)
  try simp only [Act.put, List.setIfInBounds_toArray, List.set_cons_zero, List.set_cons_succ]
  refine wpAnyH_take (i := 2) (oi := ⟨some 40, _, _, _, _, _⟩) (v := ?_) rfl (by kernel_rfl) (by kernel_rfl) (by kernel_rfl) (fun _ _ _ h => h) (Or.inl ⟨by rfl, ?_⟩) (by assumption) ?_
  rotate_left
  · intro w hSw
    (try dsimp only at hSw)
    go_simp
    all_goals (with_reducible rfl)
  try simp only [Act.put, List.setIfInBounds_toArray, List.set_cons_zero, List.set_cons_succ]
  refine wpAnyH_take (i := 3) (oi := ⟨some 41, _, _, _, _, _⟩) (v := ?_) rfl (by kernel_rfl) (by kernel_rfl) (by kernel_rfl) (fun _ _ _ h => h) (Or.inl ⟨by rfl, ?_⟩) (by assumption) ?_
  rotate_left
  · intro w hSw
    (try dsimp only at hSw)
    have y0 := hSw.1
    go_simp
    all_goals (with_reducible rfl)
  try simp only [Act.put, List.setIfInBounds_toArray, List.set_cons_zero, List.set_cons_succ]
  refine wpAnyH_take (i := 4) (oi := ⟨some 42, _, _, _, _, _⟩) (v := ?_) rfl (by kernel_rfl) (by kernel_rfl) (by kernel_rfl) (fun _ _ _ h => h) (Or.inl ⟨by rfl, ?_⟩) (by assumption) ?_
  rotate_left
  · intro w hSw
    (try dsimp only at hSw)
    go_simp
    all_goals (with_reducible rfl)
  try simp only [Act.put, List.setIfInBounds_toArray, List.set_cons_zero, List.set_cons_succ]
  refine wpAnyH_take (i := 6) (oi := ⟨some 44, _, _, _, _, _⟩) (v := ?_) rfl (by kernel_rfl) (by kernel_rfl) (by kernel_rfl) (fun _ _ _ h => h) (Or.inl ⟨by rfl, ?_⟩) (by assumption) ?_
  rotate_left
  · intro w hSw
    (try dsimp only at hSw)
    go_simp
    all_goals (with_reducible rfl)
  try simp only [Act.put, List.setIfInBounds_toArray, List.set_cons_zero, List.set_cons_succ]
  refine wpAnyH_take (i := 7) (oi := ⟨some 45, _, _, _, _, _⟩) (v := ?_) rfl (by kernel_rfl) (by kernel_rfl) (by kernel_rfl) (fun _ _ _ h => h) (Or.inl ⟨by rfl, ?_⟩) (by assumption) ?_
  rotate_left
  · intro w hSw
    (try dsimp only at hSw)
    go_simp
    all_goals (with_reducible rfl)
  try simp only [Act.put, List.setIfInBounds_toArray, List.set_cons_zero, List.set_cons_succ]
  refine wpAnyH_take (i := 8) (oi := ⟨some 46, _, _, _, _, _⟩) (v := ?_) rfl (by kernel_rfl) (by kernel_rfl) (by kernel_rfl) (fun _ _ _ h => h) (Or.inl ⟨by rfl, ?_⟩) (by assumption) ?_
  rotate_left
  · intro w hSw
    (try dsimp only at hSw)
    go_simp
    all_goals (with_reducible rfl)
  try simp only [Act.put, List.setIfInBounds_toArray, List.set_cons_zero, List.set_cons_succ]
  refine wpAnyH_take (i := 9) (oi := ⟨some 47, _, _, _, _, _⟩) (v := ?_) rfl (by kernel_rfl) (by kernel_rfl) (by kernel_rfl) (fun _ _ _ h => h) (Or.inl ⟨by rfl, ?_⟩) (by assumption) ?_
  rotate_left
  · intro w hSw
    (try dsimp only at hSw)
    have y0 := hSw.1
    go_simp
    all_goals (with_reducible rfl)
  try simp only [Act.put, List.setIfInBounds_toArray, List.set_cons_zero, List.set_cons_succ]
  refine wpAnyH_take (i := 10) (oi := ⟨some 48, _, _, _, _, _⟩) (v := ?_) rfl (by kernel_rfl) (by kernel_rfl) (by kernel_rfl) (fun _ _ _ h => h) (Or.inl ⟨by rfl, ?_⟩) (by assumption) ?_
  rotate_left
  · intro w hSw
    (try dsimp only at hSw)
    go_simp
    all_goals (with_reducible rfl)
  try simp only [Act.put, List.setIfInBounds_toArray, List.set_cons_zero, List.set_cons_succ]
  refine wpAnyH_take (i := 11) (oi := ⟨some 49, _, _, _, _, _⟩) (v := ?_) rfl (by kernel_rfl) (by kernel_rfl) (by kernel_rfl) (fun _ _ _ h => h) (Or.inl ⟨by rfl, ?_⟩) (by assumption) ?_
  rotate_left
  · intro w hSw
    (try dsimp only at hSw)
    go_simp
    all_goals (with_reducible rfl)
  try simp only [Act.put, List.setIfInBounds_toArray, List.set_cons_zero, List.set_cons_succ]
  refine wpAnyH_take (i := 12) (oi := ⟨some 50, _, _, _, _, _⟩) (v := ?_) rfl (by kernel_rfl) (by kernel_rfl) (by kernel_rfl) (fun _ _ _ h => h) (Or.inl ⟨by rfl, ?_⟩) (by assumption) ?_
  rotate_left
  · intro w hSw
    (try dsimp only at hSw)
    go_simp
    all_goals (with_reducible rfl)
  try simp only [Act.put, List.setIfInBounds_toArray, List.set_cons_zero, List.set_cons_succ]
  refine wpAnyH_take (i := 14) (oi := ⟨some 52, _, _, _, _, _⟩) (v := ?_) rfl (by kernel_rfl) (by kernel_rfl) (by kernel_rfl) (fun _ _ _ h => h) (Or.inl ⟨by rfl, ?_⟩) (by assumption) ?_
  rotate_left
  · intro w hSw
    (try dsimp only at hSw)
    go_simp
    all_goals (with_reducible rfl)
  try simp only [Act.put, List.setIfInBounds_toArray, List.set_cons_zero, List.set_cons_succ]
  refine wpAnyH_take (i := 17) (oi := ⟨some 55, _, _, _, _, _⟩) (v := ?_) rfl (by kernel_rfl) (by kernel_rfl) (by kernel_rfl) (fun _ _ _ h => h) (Or.inl ⟨by rfl, ?_⟩) (by assumption) ?_
  rotate_left
  · intro w hSw
    (try dsimp only at hSw)
    go_simp
    all_goals (with_reducible rfl)
  try simp only [Act.put, List.setIfInBounds_toArray, List.set_cons_zero, List.set_cons_succ]
  refine wpAnyH_take (i := 18) (oi := ⟨some 56, _, _, _, _, _⟩) (v := ?_) rfl (by kernel_rfl) (by kernel_rfl) (by kernel_rfl) (fun _ _ _ h => h) (Or.inl ⟨by rfl, ?_⟩) (by assumption) ?_
  rotate_left
  · intro w hSw
    (try dsimp only at hSw)
    go_simp
    all_goals (with_reducible rfl)
  try simp only [Act.put, List.setIfInBounds_toArray, List.set_cons_zero, List.set_cons_succ]
  refine wpAnyH_take (i := 19) (oi := ⟨some 57, _, _, _, _, _⟩) (v := ?_) rfl (by kernel_rfl) (by kernel_rfl) (by kernel_rfl) (fun _ _ _ h => h) (Or.inl ⟨by rfl, ?_⟩) (by assumption) ?_
  rotate_left
  · intro w hSw
    (try dsimp only at hSw)
    go_simp
    all_goals (with_reducible rfl)
  try simp only [Act.put, List.setIfInBounds_toArray, List.set_cons_zero, List.set_cons_succ]
  refine wpAnyH_take (i := 20) (oi := ⟨some 58, _, _, _, _, _⟩) (v := ?_) rfl (by kernel_rfl) (by kernel_rfl) (by kernel_rfl) (fun _ _ _ h => h) (Or.inl ⟨by rfl, ?_⟩) (by assumption) ?_
  rotate_left
  · intro w hSw
    (try dsimp only at hSw)
    have y0 := hSw.1
    go_simp
    all_goals (with_reducible rfl)
  try simp only [Act.put, List.setIfInBounds_toArray, List.set_cons_zero, List.set_cons_succ]
  refine wpAnyH_take (i := 21) (oi := ⟨some 59, _, _, _, _, _⟩) (v := ?_) rfl (by kernel_rfl) (by kernel_rfl) (by kernel_rfl) (fun _ _ _ h => h) (Or.inl ⟨by rfl, ?_⟩) (by assumption) ?_
  rotate_left
  · intro w hSw
    (try dsimp only at hSw)
    go_simp
    all_goals (with_reducible rfl)
  try simp only [Act.put, List.setIfInBounds_toArray, List.set_cons_zero, List.set_cons_succ]
  refine wpAnyH_take (i := 22) (oi := ⟨some 60, _, _, _, _, _⟩) (v := ?_) rfl (by kernel_rfl) (by kernel_rfl) (by kernel_rfl) (fun _ _ _ h => h) (Or.inl ⟨by rfl, ?_⟩) (by assumption) ?_
  rotate_left
  · intro w hSw
    (try dsimp only at hSw)
    go_simp
    all_goals (with_reducible rfl)
  try simp only [Act.put, List.setIfInBounds_toArray, List.set_cons_zero, List.set_cons_succ]
  refine wpAnyH_take (i := 23) (oi := ⟨some 61, _, _, _, _, _⟩) (v := ?_) rfl (by kernel_rfl) (by kernel_rfl) (by kernel_rfl) (fun _ _ _ h => h) (Or.inl ⟨by rfl, ?_⟩) (by assumption) ?_
  rotate_left
  · intro w hSw
    (try dsimp only at hSw)
    go_simp
    all_goals (with_reducible rfl)
  try simp only [Act.put, List.setIfInBounds_toArray, List.set_cons_zero, List.set_cons_succ]
  refine wpAnyH_take (i := 25) (oi := ⟨some 63, _, _, _, _, _⟩) (v := ?_) rfl (by kernel_rfl) (by kernel_rfl) (by kernel_rfl) (fun _ _ _ h => h) (Or.inl ⟨by rfl, ?_⟩) (by assumption) ?_
  rotate_left
  · intro w hSw
    (try dsimp only at hSw)
    go_simp
    all_goals (with_reducible rfl)
  try simp only [Act.put, List.setIfInBounds_toArray, List.set_cons_zero, List.set_cons_succ]
  refine wpAnyH_take (i := 26) (oi := ⟨some 64, _, _, _, _, _⟩) (v := ?_) rfl (by kernel_rfl) (by kernel_rfl) (by kernel_rfl) (fun _ _ _ h => h) (Or.inl ⟨by rfl, ?_⟩) (by assumption) ?_
  rotate_left
  · intro w hSw
    (try dsimp only at hSw)
    go_simp
    all_goals (with_reducible rfl)
  try simp only [Act.put, List.setIfInBounds_toArray, List.set_cons_zero, List.set_cons_succ]
  refine wpAnyH_ready (rs := [5, 13, 24]) (by kernel_rfl) (by simp) ?_
  refine AllReadyH.cons (o := ⟨some 43, _, _, _, _, _⟩) rfl (fun K hK => ?_) ?_
  · go_simp
    refine hK.out _ _ ⟨hT5.book, hT5.ltm⟩ (fun _ => ?_)
    clear hK K
    try simp only [Act.put, List.setIfInBounds_toArray, List.set_cons_zero, List.set_cons_succ]
    refine wpAnyH_ready (rs := [13, 24]) (by kernel_rfl) (by simp) ?_
    refine AllReadyH.cons (o := ⟨some 51, _, _, _, _, _⟩) rfl (fun K hK => ?_) ?_
    · have y1 := hT5.c2
      go_simp
      refine hK.out _ _ ⟨hT5.book, hT5.ltm⟩ (fun _ => ?_)
      clear hK K y1
      try simp only [Act.put, List.setIfInBounds_toArray, List.set_cons_zero, List.set_cons_succ]
      refine wpAnyH_take (i := 15) (oi := ⟨some 53, _, _, _, _, _⟩) (v := ?_) rfl (by kernel_rfl) (by kernel_rfl) (by kernel_rfl) (fun _ _ _ h => h) (Or.inl ⟨by rfl, ?_⟩) (by assumption) ?_
      rotate_left
      · intro w hSw
        (try dsimp only at hSw)
        go_simp
        all_goals (with_reducible rfl)
      try simp only [Act.put, List.setIfInBounds_toArray, List.set_cons_zero, List.set_cons_succ]
      refine wpAnyH_ready (rs := [16, 24]) (by kernel_rfl) (by simp) ?_
      refine AllReadyH.cons (o := ⟨some 54, _, _, _, _, _⟩) rfl (fun K hK => ?_) ?_
      · rw [if_pos (by rfl)]
        refine wp_append_off (f := Rl.cells) (n := 4) _ _ _ 29 (by rfl) _ 48 Try.underlying49 info_rule rfl (by decide) (by decide) lenR wd.heap.size _ _ [] (t.rules.take k) (by rfl) (own_empty wd _) (by rfl) (part_takerules hT5.rules hkN) (fun b _ y hy => by simp [Rl.cells] at hy; rcases hy with rfl | rfl | rfl | rfl <;> rfl) (by have := HN.out; simp; omega) (by simp) ?_
        intro v6 w6 hO6 hG6 hM6
        have hB6 : Below wd.heap.size wd w6 := hA1.trans ((Only.of_grown hG6).below (by simp) fun _ _ e => own_ge (own_empty (f := Rl.cells) (n := 4) wd 29) e)
        obtain ⟨x6, k6, y6, he6⟩ := slice_any hO6
        subst he6
        have hT6 := hTd.on hB6
        refine hK.out _ _ ⟨hT6.book, hT6.ltm⟩ (fun _ => ?_)
        clear hK K
        try simp only [Act.put, List.setIfInBounds_toArray, List.set_cons_zero, List.set_cons_succ]
        refine wpAnyH_ready (rs := [24]) (by kernel_rfl) (by simp) ?_
        refine AllReadyH.cons (o := ⟨some 62, _, _, _, _, _⟩) rfl (fun K hK => ?_) AllReadyH.nil
        have y1 := hT6.c2
        go_simp
        refine hK.out _ _ ⟨hT6.book, hT6.ltm⟩ (fun _ => ?_)
        clear hK K y1
        try simp only [Act.put, List.setIfInBounds_toArray, List.set_cons_zero, List.set_cons_succ]
        refine wpAnyH_take (i := 27) (oi := ⟨some 65, _, _, _, _, _⟩) (v := .slice (some ⟨mg, o2, none⟩) (N - (k + 1)) (cm - (k + 1))) rfl (by kernel_rfl) (by kernel_rfl) (by kernel_rfl) (fun _ _ _ h => h) (Or.inl ⟨by rfl, ?_⟩) (by assumption) ?_
        · intro w hSw
          (try dsimp only at hSw)
          go_simp
          all_goals first
            | (with_reducible rfl)
            | omega
            | (simp [Nat.add_mul]; done)
            | (simp [Nat.add_mul]; omega)
            | (have h := HO2.out; split at h <;> simp_all [Nat.add_mul]; done)
            | (trace_state; fail)
        try simp only [Act.put, List.setIfInBounds_toArray, List.set_cons_zero, List.set_cons_succ]
        refine wpAnyH_ready (rs := [28]) (by kernel_rfl) (by simp) ?_
        refine AllReadyH.cons (o := ⟨some 66, _, _, _, _, _⟩) rfl (fun K hK => ?_) AllReadyH.nil
        rw [if_pos (by rfl)]
        refine wp_append_off (f := Rl.cells) (n := 4) _ _ _ 29 (by rfl) _ 48 Try.underlying49 info_rule rfl (by decide) (by decide) lenR wd.heap.size _ _ ([] ++ t.rules.take k) (t.rules.drop (k + 1)) (by rfl) hO6 (by rfl) (part_droprules hT6.rules hkN HN.out HO2.out) (fun b _ y hy => by simp [Rl.cells] at hy; rcases hy with rfl | rfl | rfl | rfl <;> rfl) (by have := HN.out; simp; omega) hB6.size ?_
        intro v7 w7 hO7 hG7 hM7
        have hB7 : Below wd.heap.size wd w7 := hB6.trans ((Only.of_grown hG7).below hB6.size fun _ _ e => own_ge hO6 e)
        obtain ⟨x7, k7, y7, he7⟩ := slice_any hO7
        subst he7
        have hT7 := hTd.on hB7
        have f1 := hT7.c2
        have f0 := HFZ.out w7 (hBd.trans (hB7.mono hBd.size))
        refine hK.out _ _ ⟨hT7.book, hT7.ltm⟩ (fun _ => ?_)
        clear hK K
        try simp only [Act.put, List.setIfInBounds_toArray, List.set_cons_zero, List.set_cons_succ]
        refine wpAnyH_take (i := 29) (oi := ⟨some 67, _, _, _, _, _⟩) (v := ?_) rfl (by kernel_rfl) (by kernel_rfl) (by kernel_rfl) (fun _ _ _ h => h) (Or.inl ⟨by rfl, ?_⟩) (by assumption) ?_
        rotate_left
        · intro w hSw
          (try dsimp only at hSw)
          go_simp
          all_goals (with_reducible rfl)
        try simp only [Act.put, List.setIfInBounds_toArray, List.set_cons_zero, List.set_cons_succ]
        refine wpAnyH_take (i := 30) (oi := ⟨some 68, _, _, _, _, _⟩) (v := ?_) rfl (by kernel_rfl) (by kernel_rfl) (by kernel_rfl) (fun _ _ _ h => h) (Or.inl ⟨by rfl, ?_⟩) (by assumption) ?_
        rotate_left
        · intro w hSw
          (try dsimp only at hSw)
          go_simp
          all_goals (with_reducible rfl)
        try simp only [Act.put, List.setIfInBounds_toArray, List.set_cons_zero, List.set_cons_succ]
        refine wpAnyH_ready (rs := [31]) (by kernel_rfl) (by simp) ?_
        refine AllReadyH.cons (o := ⟨none, _, _, _, _, _⟩) rfl (fun K hK => ?_) AllReadyH.nil
        go_simp
        refine hK.out _ _ ⟨(World.cell?_setCell_other _ _ _ _ (fun e => HMG.out (by injection e with e _ _; exact e.symm))).trans hT7.book, by simpa using hT7.ltm⟩ (fun _ => ?_)
        clear hK K
        try simp only [Act.put]
        refine wpAnyH_done (by kernel_rfl) ?_ _
        refine NoPanic.normal ?_
        go_wp2
        go_ret
        exact .inr ⟨rfl, wd, w7, _, k, hBd, hB7, hO7, hkx, hkn, rfl⟩
      refine AllReadyH.cons (o := ⟨some 62, _, _, _, _, _⟩) rfl (fun K hK => ?_) AllReadyH.nil
      have y1 := hT5.c2
      go_simp
      refine hK.out _ _ ⟨hT5.book, hT5.ltm⟩ (fun _ => ?_)
      clear hK K y1
      try simp only [Act.put, List.setIfInBounds_toArray, List.set_cons_zero, List.set_cons_succ]
      refine wpAnyH_take (i := 27) (oi := ⟨some 65, _, _, _, _, _⟩) (v := .slice (some ⟨mg, o2, none⟩) (N - (k + 1)) (cm - (k + 1))) rfl (by kernel_rfl) (by kernel_rfl) (by kernel_rfl) (fun _ _ _ h => h) (Or.inl ⟨by rfl, ?_⟩) (by assumption) ?_
      · intro w hSw
        (try dsimp only at hSw)
        go_simp
        all_goals first
          | (with_reducible rfl)
          | omega
          | (simp [Nat.add_mul]; done)
          | (simp [Nat.add_mul]; omega)
          | (have h := HO2.out; split at h <;> simp_all [Nat.add_mul]; done)
          | (trace_state; fail)
      try simp only [Act.put, List.setIfInBounds_toArray, List.set_cons_zero, List.set_cons_succ]
      refine wpAnyH_ready (rs := [16]) (by kernel_rfl) (by simp) ?_
      refine AllReadyH.cons (o := ⟨some 54, _, _, _, _, _⟩) rfl (fun K hK => ?_) AllReadyH.nil
      rw [if_pos (by rfl)]
      refine wp_append_off (f := Rl.cells) (n := 4) _ _ _ 29 (by rfl) _ 48 Try.underlying49 info_rule rfl (by decide) (by decide) lenR wd.heap.size _ _ [] (t.rules.take k) (by rfl) (own_empty wd _) (by rfl) (part_takerules hT5.rules hkN) (fun b _ y hy => by simp [Rl.cells] at hy; rcases hy with rfl | rfl | rfl | rfl <;> rfl) (by have := HN.out; simp; omega) (by simp) ?_
      intro v6 w6 hO6 hG6 hM6
      have hB6 : Below wd.heap.size wd w6 := hA1.trans ((Only.of_grown hG6).below (by simp) fun _ _ e => own_ge (own_empty (f := Rl.cells) (n := 4) wd 29) e)
      obtain ⟨x6, k6, y6, he6⟩ := slice_any hO6
      subst he6
      have hT6 := hTd.on hB6
      refine hK.out _ _ ⟨hT6.book, hT6.ltm⟩ (fun _ => ?_)
      clear hK K
      try simp only [Act.put, List.setIfInBounds_toArray, List.set_cons_zero, List.set_cons_succ]
      refine wpAnyH_ready (rs := [28]) (by kernel_rfl) (by simp) ?_
      refine AllReadyH.cons (o := ⟨some 66, _, _, _, _, _⟩) rfl (fun K hK => ?_) AllReadyH.nil
      rw [if_pos (by rfl)]
      refine wp_append_off (f := Rl.cells) (n := 4) _ _ _ 29 (by rfl) _ 48 Try.underlying49 info_rule rfl (by decide) (by decide) lenR wd.heap.size _ _ ([] ++ t.rules.take k) (t.rules.drop (k + 1)) (by rfl) hO6 (by rfl) (part_droprules hT6.rules hkN HN.out HO2.out) (fun b _ y hy => by simp [Rl.cells] at hy; rcases hy with rfl | rfl | rfl | rfl <;> rfl) (by have := HN.out; simp; omega) hB6.size ?_
      intro v7 w7 hO7 hG7 hM7
      have hB7 : Below wd.heap.size wd w7 := hB6.trans ((Only.of_grown hG7).below hB6.size fun _ _ e => own_ge hO6 e)
      obtain ⟨x7, k7, y7, he7⟩ := slice_any hO7
      subst he7
      have hT7 := hTd.on hB7
      have f1 := hT7.c2
      have f0 := HFZ.out w7 (hBd.trans (hB7.mono hBd.size))
      refine hK.out _ _ ⟨hT7.book, hT7.ltm⟩ (fun _ => ?_)
      clear hK K
      try simp only [Act.put, List.setIfInBounds_toArray, List.set_cons_zero, List.set_cons_succ]
      refine wpAnyH_take (i := 29) (oi := ⟨some 67, _, _, _, _, _⟩) (v := ?_) rfl (by kernel_rfl) (by kernel_rfl) (by kernel_rfl) (fun _ _ _ h => h) (Or.inl ⟨by rfl, ?_⟩) (by assumption) ?_
      rotate_left
      · intro w hSw
        (try dsimp only at hSw)
        go_simp
        all_goals (with_reducible rfl)
      try simp only [Act.put, List.setIfInBounds_toArray, List.set_cons_zero, List.set_cons_succ]
      refine wpAnyH_take (i := 30) (oi := ⟨some 68, _, _, _, _, _⟩) (v := ?_) rfl (by kernel_rfl) (by kernel_rfl) (by kernel_rfl) (fun _ _ _ h => h) (Or.inl ⟨by rfl, ?_⟩) (by assumption) ?_
      rotate_left
      · intro w hSw
        (try dsimp only at hSw)
        go_simp
        all_goals (with_reducible rfl)
      try simp only [Act.put, List.setIfInBounds_toArray, List.set_cons_zero, List.set_cons_succ]
      refine wpAnyH_ready (rs := [31]) (by kernel_rfl) (by simp) ?_
      refine AllReadyH.cons (o := ⟨none, _, _, _, _, _⟩) rfl (fun K hK => ?_) AllReadyH.nil
      go_simp
      refine hK.out _ _ ⟨(World.cell?_setCell_other _ _ _ _ (fun e => HMG.out (by injection e with e _ _; exact e.symm))).trans hT7.book, by simpa using hT7.ltm⟩ (fun _ => ?_)
      clear hK K
      try simp only [Act.put]
      refine wpAnyH_done (by kernel_rfl) ?_ _
      refine NoPanic.normal ?_
      go_wp2
      go_ret
      exact .inr ⟨rfl, wd, w7, _, k, hBd, hB7, hO7, hkx, hkn, rfl⟩
    refine AllReadyH.cons (o := ⟨some 62, _, _, _, _, _⟩) rfl (fun K hK => ?_) AllReadyH.nil
    have y1 := hT5.c2
    go_simp
    refine hK.out _ _ ⟨hT5.book, hT5.ltm⟩ (fun _ => ?_)
    clear hK K y1
    try simp only [Act.put, List.setIfInBounds_toArray, List.set_cons_zero, List.set_cons_succ]
    refine wpAnyH_take (i := 27) (oi := ⟨some 65, _, _, _, _, _⟩) (v := .slice (some ⟨mg, o2, none⟩) (N - (k + 1)) (cm - (k + 1))) rfl (by kernel_rfl) (by kernel_rfl) (by kernel_rfl) (fun _ _ _ h => h) (Or.inl ⟨by rfl, ?_⟩) (by assumption) ?_
    · intro w hSw
      (try dsimp only at hSw)
      go_simp
      all_goals first
        | (with_reducible rfl)
        | omega
        | (simp [Nat.add_mul]; done)
        | (simp [Nat.add_mul]; omega)
        | (have h := HO2.out; split at h <;> simp_all [Nat.add_mul]; done)
        | (trace_state; fail)
    try simp only [Act.put, List.setIfInBounds_toArray, List.set_cons_zero, List.set_cons_succ]
    refine wpAnyH_ready (rs := [13]) (by kernel_rfl) (by simp) ?_
    refine AllReadyH.cons (o := ⟨some 51, _, _, _, _, _⟩) rfl (fun K hK => ?_) AllReadyH.nil
    have y1 := hT5.c2
    go_simp
    refine hK.out _ _ ⟨hT5.book, hT5.ltm⟩ (fun _ => ?_)
    clear hK K y1
    try simp only [Act.put, List.setIfInBounds_toArray, List.set_cons_zero, List.set_cons_succ]
    refine wpAnyH_take (i := 15) (oi := ⟨some 53, _, _, _, _, _⟩) (v := ?_) rfl (by kernel_rfl) (by kernel_rfl) (by kernel_rfl) (fun _ _ _ h => h) (Or.inl ⟨by rfl, ?_⟩) (by assumption) ?_
    rotate_left
    · intro w hSw
      (try dsimp only at hSw)
      go_simp
      all_goals (with_reducible rfl)
    try simp only [Act.put, List.setIfInBounds_toArray, List.set_cons_zero, List.set_cons_succ]
    refine wpAnyH_ready (rs := [16]) (by kernel_rfl) (by simp) ?_
    refine AllReadyH.cons (o := ⟨some 54, _, _, _, _, _⟩) rfl (fun K hK => ?_) AllReadyH.nil
    rw [if_pos (by rfl)]
    refine wp_append_off (f := Rl.cells) (n := 4) _ _ _ 29 (by rfl) _ 48 Try.underlying49 info_rule rfl (by decide) (by decide) lenR wd.heap.size _ _ [] (t.rules.take k) (by rfl) (own_empty wd _) (by rfl) (part_takerules hT5.rules hkN) (fun b _ y hy => by simp [Rl.cells] at hy; rcases hy with rfl | rfl | rfl | rfl <;> rfl) (by have := HN.out; simp; omega) (by simp) ?_
    intro v6 w6 hO6 hG6 hM6
    have hB6 : Below wd.heap.size wd w6 := hA1.trans ((Only.of_grown hG6).below (by simp) fun _ _ e => own_ge (own_empty (f := Rl.cells) (n := 4) wd 29) e)
    obtain ⟨x6, k6, y6, he6⟩ := slice_any hO6
    subst he6
    have hT6 := hTd.on hB6
    refine hK.out _ _ ⟨hT6.book, hT6.ltm⟩ (fun _ => ?_)
    clear hK K
    try simp only [Act.put, List.setIfInBounds_toArray, List.set_cons_zero, List.set_cons_succ]
    refine wpAnyH_ready (rs := [28]) (by kernel_rfl) (by simp) ?_
    refine AllReadyH.cons (o := ⟨some 66, _, _, _, _, _⟩) rfl (fun K hK => ?_) AllReadyH.nil
    rw [if_pos (by rfl)]
    refine wp_append_off (f := Rl.cells) (n := 4) _ _ _ 29 (by rfl) _ 48 Try.underlying49 info_rule rfl (by decide) (by decide) lenR wd.heap.size _ _ ([] ++ t.rules.take k) (t.rules.drop (k + 1)) (by rfl) hO6 (by rfl) (part_droprules hT6.rules hkN HN.out HO2.out) (fun b _ y hy => by simp [Rl.cells] at hy; rcases hy with rfl | rfl | rfl | rfl <;> rfl) (by have := HN.out; simp; omega) hB6.size ?_
    intro v7 w7 hO7 hG7 hM7
    have hB7 : Below wd.heap.size wd w7 := hB6.trans ((Only.of_grown hG7).below hB6.size fun _ _ e => own_ge hO6 e)
    obtain ⟨x7, k7, y7, he7⟩ := slice_any hO7
    subst he7
    have hT7 := hTd.on hB7
    have f1 := hT7.c2
    have f0 := HFZ.out w7 (hBd.trans (hB7.mono hBd.size))
    refine hK.out _ _ ⟨hT7.book, hT7.ltm⟩ (fun _ => ?_)
    clear hK K
    try simp only [Act.put, List.setIfInBounds_toArray, List.set_cons_zero, List.set_cons_succ]
    refine wpAnyH_take (i := 29) (oi := ⟨some 67, _, _, _, _, _⟩) (v := ?_) rfl (by kernel_rfl) (by kernel_rfl) (by kernel_rfl) (fun _ _ _ h => h) (Or.inl ⟨by rfl, ?_⟩) (by assumption) ?_
    rotate_left
    · intro w hSw
      (try dsimp only at hSw)
      go_simp
      all_goals (with_reducible rfl)
    try simp only [Act.put, List.setIfInBounds_toArray, List.set_cons_zero, List.set_cons_succ]
    refine wpAnyH_take (i := 30) (oi := ⟨some 68, _, _, _, _, _⟩) (v := ?_) rfl (by kernel_rfl) (by kernel_rfl) (by kernel_rfl) (fun _ _ _ h => h) (Or.inl ⟨by rfl, ?_⟩) (by assumption) ?_
    rotate_left
    · intro w hSw
      (try dsimp only at hSw)
      go_simp
      all_goals (with_reducible rfl)
    try simp only [Act.put, List.setIfInBounds_toArray, List.set_cons_zero, List.set_cons_succ]
    refine wpAnyH_ready (rs := [31]) (by kernel_rfl) (by simp) ?_
    refine AllReadyH.cons (o := ⟨none, _, _, _, _, _⟩) rfl (fun K hK => ?_) AllReadyH.nil
    go_simp
    refine hK.out _ _ ⟨(World.cell?_setCell_other _ _ _ _ (fun e => HMG.out (by injection e with e _ _; exact e.symm))).trans hT7.book, by simpa using hT7.ltm⟩ (fun _ => ?_)
    clear hK K
    try simp only [Act.put]
    refine wpAnyH_done (by kernel_rfl) ?_ _
    refine NoPanic.normal ?_
    go_wp2
    go_ret
    exact .inr ⟨rfl, wd, w7, _, k, hBd, hB7, hO7, hkx, hkn, rfl⟩
  refine AllReadyH.cons (o := ⟨some 51, _, _, _, _, _⟩) rfl (fun K hK => ?_) ?_
  · have y1 := hTd.c2
    go_simp
    refine hK.out _ _ ⟨hTd.book, hTd.ltm⟩ (fun _ => ?_)
    clear hK K y1
    try simp only [Act.put, List.setIfInBounds_toArray, List.set_cons_zero, List.set_cons_succ]
    refine wpAnyH_take (i := 15) (oi := ⟨some 53, _, _, _, _, _⟩) (v := ?_) rfl (by kernel_rfl) (by kernel_rfl) (by kernel_rfl) (fun _ _ _ h => h) (Or.inl ⟨by rfl, ?_⟩) (by assumption) ?_
    rotate_left
    · intro w hSw
      (try dsimp only at hSw)
      go_simp
      all_goals (with_reducible rfl)
    try simp only [Act.put, List.setIfInBounds_toArray, List.set_cons_zero, List.set_cons_succ]
    refine wpAnyH_ready (rs := [5, 24]) (by kernel_rfl) (by simp) ?_
    refine AllReadyH.cons (o := ⟨some 43, _, _, _, _, _⟩) rfl (fun K hK => ?_) ?_
    · go_simp
      refine hK.out _ _ ⟨hT5.book, hT5.ltm⟩ (fun _ => ?_)
      clear hK K
      try simp only [Act.put, List.setIfInBounds_toArray, List.set_cons_zero, List.set_cons_succ]
      refine wpAnyH_ready (rs := [16, 24]) (by kernel_rfl) (by simp) ?_
      refine AllReadyH.cons (o := ⟨some 54, _, _, _, _, _⟩) rfl (fun K hK => ?_) ?_
      · rw [if_pos (by rfl)]
        refine wp_append_off (f := Rl.cells) (n := 4) _ _ _ 29 (by rfl) _ 48 Try.underlying49 info_rule rfl (by decide) (by decide) lenR wd.heap.size _ _ [] (t.rules.take k) (by rfl) (own_empty wd _) (by rfl) (part_takerules hT5.rules hkN) (fun b _ y hy => by simp [Rl.cells] at hy; rcases hy with rfl | rfl | rfl | rfl <;> rfl) (by have := HN.out; simp; omega) (by simp) ?_
        intro v6 w6 hO6 hG6 hM6
        have hB6 : Below wd.heap.size wd w6 := hA1.trans ((Only.of_grown hG6).below (by simp) fun _ _ e => own_ge (own_empty (f := Rl.cells) (n := 4) wd 29) e)
        obtain ⟨x6, k6, y6, he6⟩ := slice_any hO6
        subst he6
        have hT6 := hTd.on hB6
        refine hK.out _ _ ⟨hT6.book, hT6.ltm⟩ (fun _ => ?_)
        clear hK K
        try simp only [Act.put, List.setIfInBounds_toArray, List.set_cons_zero, List.set_cons_succ]
        refine wpAnyH_ready (rs := [24]) (by kernel_rfl) (by simp) ?_
        refine AllReadyH.cons (o := ⟨some 62, _, _, _, _, _⟩) rfl (fun K hK => ?_) AllReadyH.nil
        have y1 := hT6.c2
        go_simp
        refine hK.out _ _ ⟨hT6.book, hT6.ltm⟩ (fun _ => ?_)
        clear hK K y1
        try simp only [Act.put, List.setIfInBounds_toArray, List.set_cons_zero, List.set_cons_succ]
        refine wpAnyH_take (i := 27) (oi := ⟨some 65, _, _, _, _, _⟩) (v := .slice (some ⟨mg, o2, none⟩) (N - (k + 1)) (cm - (k + 1))) rfl (by kernel_rfl) (by kernel_rfl) (by kernel_rfl) (fun _ _ _ h => h) (Or.inl ⟨by rfl, ?_⟩) (by assumption) ?_
        · intro w hSw
          (try dsimp only at hSw)
          go_simp
          all_goals first
            | (with_reducible rfl)
            | omega
            | (simp [Nat.add_mul]; done)
            | (simp [Nat.add_mul]; omega)
            | (have h := HO2.out; split at h <;> simp_all [Nat.add_mul]; done)
            | (trace_state; fail)
        try simp only [Act.put, List.setIfInBounds_toArray, List.set_cons_zero, List.set_cons_succ]
        refine wpAnyH_ready (rs := [28]) (by kernel_rfl) (by simp) ?_
        refine AllReadyH.cons (o := ⟨some 66, _, _, _, _, _⟩) rfl (fun K hK => ?_) AllReadyH.nil
        rw [if_pos (by rfl)]
        refine wp_append_off (f := Rl.cells) (n := 4) _ _ _ 29 (by rfl) _ 48 Try.underlying49 info_rule rfl (by decide) (by decide) lenR wd.heap.size _ _ ([] ++ t.rules.take k) (t.rules.drop (k + 1)) (by rfl) hO6 (by rfl) (part_droprules hT6.rules hkN HN.out HO2.out) (fun b _ y hy => by simp [Rl.cells] at hy; rcases hy with rfl | rfl | rfl | rfl <;> rfl) (by have := HN.out; simp; omega) hB6.size ?_
        intro v7 w7 hO7 hG7 hM7
        have hB7 : Below wd.heap.size wd w7 := hB6.trans ((Only.of_grown hG7).below hB6.size fun _ _ e => own_ge hO6 e)
        obtain ⟨x7, k7, y7, he7⟩ := slice_any hO7
        subst he7
        have hT7 := hTd.on hB7
        have f1 := hT7.c2
        have f0 := HFZ.out w7 (hBd.trans (hB7.mono hBd.size))
        refine hK.out _ _ ⟨hT7.book, hT7.ltm⟩ (fun _ => ?_)
        clear hK K
        try simp only [Act.put, List.setIfInBounds_toArray, List.set_cons_zero, List.set_cons_succ]
        refine wpAnyH_take (i := 29) (oi := ⟨some 67, _, _, _, _, _⟩) (v := ?_) rfl (by kernel_rfl) (by kernel_rfl) (by kernel_rfl) (fun _ _ _ h => h) (Or.inl ⟨by rfl, ?_⟩) (by assumption) ?_
        rotate_left
        · intro w hSw
          (try dsimp only at hSw)
          go_simp
          all_goals (with_reducible rfl)
        try simp only [Act.put, List.setIfInBounds_toArray, List.set_cons_zero, List.set_cons_succ]
        refine wpAnyH_take (i := 30) (oi := ⟨some 68, _, _, _, _, _⟩) (v := ?_) rfl (by kernel_rfl) (by kernel_rfl) (by kernel_rfl) (fun _ _ _ h => h) (Or.inl ⟨by rfl, ?_⟩) (by assumption) ?_
        rotate_left
        · intro w hSw
          (try dsimp only at hSw)
          go_simp
          all_goals (with_reducible rfl)
        try simp only [Act.put, List.setIfInBounds_toArray, List.set_cons_zero, List.set_cons_succ]
        refine wpAnyH_ready (rs := [31]) (by kernel_rfl) (by simp) ?_
        refine AllReadyH.cons (o := ⟨none, _, _, _, _, _⟩) rfl (fun K hK => ?_) AllReadyH.nil
        go_simp
        refine hK.out _ _ ⟨(World.cell?_setCell_other _ _ _ _ (fun e => HMG.out (by injection e with e _ _; exact e.symm))).trans hT7.book, by simpa using hT7.ltm⟩ (fun _ => ?_)
        clear hK K
        try simp only [Act.put]
        refine wpAnyH_done (by kernel_rfl) ?_ _
        refine NoPanic.normal ?_
        go_wp2
        go_ret
        exact .inr ⟨rfl, wd, w7, _, k, hBd, hB7, hO7, hkx, hkn, rfl⟩
      refine AllReadyH.cons (o := ⟨some 62, _, _, _, _, _⟩) rfl (fun K hK => ?_) AllReadyH.nil
      have y1 := hT5.c2
      go_simp
      refine hK.out _ _ ⟨hT5.book, hT5.ltm⟩ (fun _ => ?_)
      clear hK K y1
      try simp only [Act.put, List.setIfInBounds_toArray, List.set_cons_zero, List.set_cons_succ]
      refine wpAnyH_take (i := 27) (oi := ⟨some 65, _, _, _, _, _⟩) (v := .slice (some ⟨mg, o2, none⟩) (N - (k + 1)) (cm - (k + 1))) rfl (by kernel_rfl) (by kernel_rfl) (by kernel_rfl) (fun _ _ _ h => h) (Or.inl ⟨by rfl, ?_⟩) (by assumption) ?_
      · intro w hSw
        (try dsimp only at hSw)
        go_simp
        all_goals first
          | (with_reducible rfl)
          | omega
          | (simp [Nat.add_mul]; done)
          | (simp [Nat.add_mul]; omega)
          | (have h := HO2.out; split at h <;> simp_all [Nat.add_mul]; done)
          | (trace_state; fail)
      try simp only [Act.put, List.setIfInBounds_toArray, List.set_cons_zero, List.set_cons_succ]
      refine wpAnyH_ready (rs := [16]) (by kernel_rfl) (by simp) ?_
      refine AllReadyH.cons (o := ⟨some 54, _, _, _, _, _⟩) rfl (fun K hK => ?_) AllReadyH.nil
      rw [if_pos (by rfl)]
      refine wp_append_off (f := Rl.cells) (n := 4) _ _ _ 29 (by rfl) _ 48 Try.underlying49 info_rule rfl (by decide) (by decide) lenR wd.heap.size _ _ [] (t.rules.take k) (by rfl) (own_empty wd _) (by rfl) (part_takerules hT5.rules hkN) (fun b _ y hy => by simp [Rl.cells] at hy; rcases hy with rfl | rfl | rfl | rfl <;> rfl) (by have := HN.out; simp; omega) (by simp) ?_
      intro v6 w6 hO6 hG6 hM6
      have hB6 : Below wd.heap.size wd w6 := hA1.trans ((Only.of_grown hG6).below (by simp) fun _ _ e => own_ge (own_empty (f := Rl.cells) (n := 4) wd 29) e)
      obtain ⟨x6, k6, y6, he6⟩ := slice_any hO6
      subst he6
      have hT6 := hTd.on hB6
      refine hK.out _ _ ⟨hT6.book, hT6.ltm⟩ (fun _ => ?_)
      clear hK K
      try simp only [Act.put, List.setIfInBounds_toArray, List.set_cons_zero, List.set_cons_succ]
      refine wpAnyH_ready (rs := [28]) (by kernel_rfl) (by simp) ?_
      refine AllReadyH.cons (o := ⟨some 66, _, _, _, _, _⟩) rfl (fun K hK => ?_) AllReadyH.nil
      rw [if_pos (by rfl)]
      refine wp_append_off (f := Rl.cells) (n := 4) _ _ _ 29 (by rfl) _ 48 Try.underlying49 info_rule rfl (by decide) (by decide) lenR wd.heap.size _ _ ([] ++ t.rules.take k) (t.rules.drop (k + 1)) (by rfl) hO6 (by rfl) (part_droprules hT6.rules hkN HN.out HO2.out) (fun b _ y hy => by simp [Rl.cells] at hy; rcases hy with rfl | rfl | rfl | rfl <;> rfl) (by have := HN.out; simp; omega) hB6.size ?_
      intro v7 w7 hO7 hG7 hM7
      have hB7 : Below wd.heap.size wd w7 := hB6.trans ((Only.of_grown hG7).below hB6.size fun _ _ e => own_ge hO6 e)
      obtain ⟨x7, k7, y7, he7⟩ := slice_any hO7
      subst he7
      have hT7 := hTd.on hB7
      have f1 := hT7.c2
      have f0 := HFZ.out w7 (hBd.trans (hB7.mono hBd.size))
      refine hK.out _ _ ⟨hT7.book, hT7.ltm⟩ (fun _ => ?_)
      clear hK K
      try simp only [Act.put, List.setIfInBounds_toArray, List.set_cons_zero, List.set_cons_succ]
      refine wpAnyH_take (i := 29) (oi := ⟨some 67, _, _, _, _, _⟩) (v := ?_) rfl (by kernel_rfl) (by kernel_rfl) (by kernel_rfl) (fun _ _ _ h => h) (Or.inl ⟨by rfl, ?_⟩) (by assumption) ?_
      rotate_left
      · intro w hSw
        (try dsimp only at hSw)
        go_simp
        all_goals (with_reducible rfl)
      try simp only [Act.put, List.setIfInBounds_toArray, List.set_cons_zero, List.set_cons_succ]
      refine wpAnyH_take (i := 30) (oi := ⟨some 68, _, _, _, _, _⟩) (v := ?_) rfl (by kernel_rfl) (by kernel_rfl) (by kernel_rfl) (fun _ _ _ h => h) (Or.inl ⟨by rfl, ?_⟩) (by assumption) ?_
      rotate_left
      · intro w hSw
        (try dsimp only at hSw)
        go_simp
        all_goals (with_reducible rfl)
      try simp only [Act.put, List.setIfInBounds_toArray, List.set_cons_zero, List.set_cons_succ]
      refine wpAnyH_ready (rs := [31]) (by kernel_rfl) (by simp) ?_
      refine AllReadyH.cons (o := ⟨none, _, _, _, _, _⟩) rfl (fun K hK => ?_) AllReadyH.nil
      go_simp
      refine hK.out _ _ ⟨(World.cell?_setCell_other _ _ _ _ (fun e => HMG.out (by injection e with e _ _; exact e.symm))).trans hT7.book, by simpa using hT7.ltm⟩ (fun _ => ?_)
      clear hK K
      try simp only [Act.put]
      refine wpAnyH_done (by kernel_rfl) ?_ _
      refine NoPanic.normal ?_
      go_wp2
      go_ret
      exact .inr ⟨rfl, wd, w7, _, k, hBd, hB7, hO7, hkx, hkn, rfl⟩
    refine AllReadyH.cons (o := ⟨some 62, _, _, _, _, _⟩) rfl (fun K hK => ?_) AllReadyH.nil
    have y1 := hTd.c2
    go_simp
    refine hK.out _ _ ⟨hTd.book, hTd.ltm⟩ (fun _ => ?_)
    clear hK K y1
    try simp only [Act.put, List.setIfInBounds_toArray, List.set_cons_zero, List.set_cons_succ]
    refine wpAnyH_take (i := 27) (oi := ⟨some 65, _, _, _, _, _⟩) (v := .slice (some ⟨mg, o2, none⟩) (N - (k + 1)) (cm - (k + 1))) rfl (by kernel_rfl) (by kernel_rfl) (by kernel_rfl) (fun _ _ _ h => h) (Or.inl ⟨by rfl, ?_⟩) (by assumption) ?_
    · intro w hSw
      (try dsimp only at hSw)
      go_simp
      all_goals first
        | (with_reducible rfl)
        | omega
        | (simp [Nat.add_mul]; done)
        | (simp [Nat.add_mul]; omega)
        | (have h := HO2.out; split at h <;> simp_all [Nat.add_mul]; done)
        | (trace_state; fail)
    try simp only [Act.put, List.setIfInBounds_toArray, List.set_cons_zero, List.set_cons_succ]
    refine wpAnyH_ready (rs := [5]) (by kernel_rfl) (by simp) ?_
    refine AllReadyH.cons (o := ⟨some 43, _, _, _, _, _⟩) rfl (fun K hK => ?_) AllReadyH.nil
    go_simp
    refine hK.out _ _ ⟨hT5.book, hT5.ltm⟩ (fun _ => ?_)
    clear hK K
    try simp only [Act.put, List.setIfInBounds_toArray, List.set_cons_zero, List.set_cons_succ]
    refine wpAnyH_ready (rs := [16]) (by kernel_rfl) (by simp) ?_
    refine AllReadyH.cons (o := ⟨some 54, _, _, _, _, _⟩) rfl (fun K hK => ?_) AllReadyH.nil
    rw [if_pos (by rfl)]
    refine wp_append_off (f := Rl.cells) (n := 4) _ _ _ 29 (by rfl) _ 48 Try.underlying49 info_rule rfl (by decide) (by decide) lenR wd.heap.size _ _ [] (t.rules.take k) (by rfl) (own_empty wd _) (by rfl) (part_takerules hT5.rules hkN) (fun b _ y hy => by simp [Rl.cells] at hy; rcases hy with rfl | rfl | rfl | rfl <;> rfl) (by have := HN.out; simp; omega) (by simp) ?_
    intro v6 w6 hO6 hG6 hM6
    have hB6 : Below wd.heap.size wd w6 := hA1.trans ((Only.of_grown hG6).below (by simp) fun _ _ e => own_ge (own_empty (f := Rl.cells) (n := 4) wd 29) e)
    obtain ⟨x6, k6, y6, he6⟩ := slice_any hO6
    subst he6
    have hT6 := hTd.on hB6
    refine hK.out _ _ ⟨hT6.book, hT6.ltm⟩ (fun _ => ?_)
    clear hK K
    try simp only [Act.put, List.setIfInBounds_toArray, List.set_cons_zero, List.set_cons_succ]
    refine wpAnyH_ready (rs := [28]) (by kernel_rfl) (by simp) ?_
    refine AllReadyH.cons (o := ⟨some 66, _, _, _, _, _⟩) rfl (fun K hK => ?_) AllReadyH.nil
    rw [if_pos (by rfl)]
    refine wp_append_off (f := Rl.cells) (n := 4) _ _ _ 29 (by rfl) _ 48 Try.underlying49 info_rule rfl (by decide) (by decide) lenR wd.heap.size _ _ ([] ++ t.rules.take k) (t.rules.drop (k + 1)) (by rfl) hO6 (by rfl) (part_droprules hT6.rules hkN HN.out HO2.out) (fun b _ y hy => by simp [Rl.cells] at hy; rcases hy with rfl | rfl | rfl | rfl <;> rfl) (by have := HN.out; simp; omega) hB6.size ?_
    intro v7 w7 hO7 hG7 hM7
    have hB7 : Below wd.heap.size wd w7 := hB6.trans ((Only.of_grown hG7).below hB6.size fun _ _ e => own_ge hO6 e)
    obtain ⟨x7, k7, y7, he7⟩ := slice_any hO7
    subst he7
    have hT7 := hTd.on hB7
    have f1 := hT7.c2
    have f0 := HFZ.out w7 (hBd.trans (hB7.mono hBd.size))
    refine hK.out _ _ ⟨hT7.book, hT7.ltm⟩ (fun _ => ?_)
    clear hK K
    try simp only [Act.put, List.setIfInBounds_toArray, List.set_cons_zero, List.set_cons_succ]
    refine wpAnyH_take (i := 29) (oi := ⟨some 67, _, _, _, _, _⟩) (v := ?_) rfl (by kernel_rfl) (by kernel_rfl) (by kernel_rfl) (fun _ _ _ h => h) (Or.inl ⟨by rfl, ?_⟩) (by assumption) ?_
    rotate_left
    · intro w hSw
      (try dsimp only at hSw)
      go_simp
      all_goals (with_reducible rfl)
    try simp only [Act.put, List.setIfInBounds_toArray, List.set_cons_zero, List.set_cons_succ]
    refine wpAnyH_take (i := 30) (oi := ⟨some 68, _, _, _, _, _⟩) (v := ?_) rfl (by kernel_rfl) (by kernel_rfl) (by kernel_rfl) (fun _ _ _ h => h) (Or.inl ⟨by rfl, ?_⟩) (by assumption) ?_
    rotate_left
    · intro w hSw
      (try dsimp only at hSw)
      go_simp
      all_goals (with_reducible rfl)
    try simp only [Act.put, List.setIfInBounds_toArray, List.set_cons_zero, List.set_cons_succ]
    refine wpAnyH_ready (rs := [31]) (by kernel_rfl) (by simp) ?_
    refine AllReadyH.cons (o := ⟨none, _, _, _, _, _⟩) rfl (fun K hK => ?_) AllReadyH.nil
    go_simp
    refine hK.out _ _ ⟨(World.cell?_setCell_other _ _ _ _ (fun e => HMG.out (by injection e with e _ _; exact e.symm))).trans hT7.book, by simpa using hT7.ltm⟩ (fun _ => ?_)
    clear hK K
    try simp only [Act.put]
    refine wpAnyH_done (by kernel_rfl) ?_ _
    refine NoPanic.normal ?_
    go_wp2
    go_ret
    exact .inr ⟨rfl, wd, w7, _, k, hBd, hB7, hO7, hkx, hkn, rfl⟩
  refine AllReadyH.cons (o := ⟨some 62, _, _, _, _, _⟩) rfl (fun K hK => ?_) AllReadyH.nil
  have y1 := hTd.c2
  go_simp
  refine hK.out _ _ ⟨hTd.book, hTd.ltm⟩ (fun _ => ?_)
  clear hK K y1
  try simp only [Act.put, List.setIfInBounds_toArray, List.set_cons_zero, List.set_cons_succ]
  refine wpAnyH_take (i := 27) (oi := ⟨some 65, _, _, _, _, _⟩) (v := .slice (some ⟨mg, o2, none⟩) (N - (k + 1)) (cm - (k + 1))) rfl (by kernel_rfl) (by kernel_rfl) (by kernel_rfl) (fun _ _ _ h => h) (Or.inl ⟨by rfl, ?_⟩) (by assumption) ?_
  · intro w hSw
    (try dsimp only at hSw)
    go_simp
    all_goals first
      | (with_reducible rfl)
      | omega
      | (simp [Nat.add_mul]; done)
      | (simp [Nat.add_mul]; omega)
      | (have h := HO2.out; split at h <;> simp_all [Nat.add_mul]; done)
      | (trace_state; fail)
  try simp only [Act.put, List.setIfInBounds_toArray, List.set_cons_zero, List.set_cons_succ]
  refine wpAnyH_ready (rs := [5, 13]) (by kernel_rfl) (by simp) ?_
  refine AllReadyH.cons (o := ⟨some 43, _, _, _, _, _⟩) rfl (fun K hK => ?_) ?_
  · go_simp
    refine hK.out _ _ ⟨hT5.book, hT5.ltm⟩ (fun _ => ?_)
    clear hK K
    try simp only [Act.put, List.setIfInBounds_toArray, List.set_cons_zero, List.set_cons_succ]
    refine wpAnyH_ready (rs := [13]) (by kernel_rfl) (by simp) ?_
    refine AllReadyH.cons (o := ⟨some 51, _, _, _, _, _⟩) rfl (fun K hK => ?_) AllReadyH.nil
    have y1 := hT5.c2
    go_simp
    refine hK.out _ _ ⟨hT5.book, hT5.ltm⟩ (fun _ => ?_)
    clear hK K y1
    try simp only [Act.put, List.setIfInBounds_toArray, List.set_cons_zero, List.set_cons_succ]
    refine wpAnyH_take (i := 15) (oi := ⟨some 53, _, _, _, _, _⟩) (v := ?_) rfl (by kernel_rfl) (by kernel_rfl) (by kernel_rfl) (fun _ _ _ h => h) (Or.inl ⟨by rfl, ?_⟩) (by assumption) ?_
    rotate_left
    · intro w hSw
      (try dsimp only at hSw)
      go_simp
      all_goals (with_reducible rfl)
    try simp only [Act.put, List.setIfInBounds_toArray, List.set_cons_zero, List.set_cons_succ]
    refine wpAnyH_ready (rs := [16]) (by kernel_rfl) (by simp) ?_
    refine AllReadyH.cons (o := ⟨some 54, _, _, _, _, _⟩) rfl (fun K hK => ?_) AllReadyH.nil
    rw [if_pos (by rfl)]
    refine wp_append_off (f := Rl.cells) (n := 4) _ _ _ 29 (by rfl) _ 48 Try.underlying49 info_rule rfl (by decide) (by decide) lenR wd.heap.size _ _ [] (t.rules.take k) (by rfl) (own_empty wd _) (by rfl) (part_takerules hT5.rules hkN) (fun b _ y hy => by simp [Rl.cells] at hy; rcases hy with rfl | rfl | rfl | rfl <;> rfl) (by have := HN.out; simp; omega) (by simp) ?_
    intro v6 w6 hO6 hG6 hM6
    have hB6 : Below wd.heap.size wd w6 := hA1.trans ((Only.of_grown hG6).below (by simp) fun _ _ e => own_ge (own_empty (f := Rl.cells) (n := 4) wd 29) e)
    obtain ⟨x6, k6, y6, he6⟩ := slice_any hO6
    subst he6
    have hT6 := hTd.on hB6
    refine hK.out _ _ ⟨hT6.book, hT6.ltm⟩ (fun _ => ?_)
    clear hK K
    try simp only [Act.put, List.setIfInBounds_toArray, List.set_cons_zero, List.set_cons_succ]
    refine wpAnyH_ready (rs := [28]) (by kernel_rfl) (by simp) ?_
    refine AllReadyH.cons (o := ⟨some 66, _, _, _, _, _⟩) rfl (fun K hK => ?_) AllReadyH.nil
    rw [if_pos (by rfl)]
    refine wp_append_off (f := Rl.cells) (n := 4) _ _ _ 29 (by rfl) _ 48 Try.underlying49 info_rule rfl (by decide) (by decide) lenR wd.heap.size _ _ ([] ++ t.rules.take k) (t.rules.drop (k + 1)) (by rfl) hO6 (by rfl) (part_droprules hT6.rules hkN HN.out HO2.out) (fun b _ y hy => by simp [Rl.cells] at hy; rcases hy with rfl | rfl | rfl | rfl <;> rfl) (by have := HN.out; simp; omega) hB6.size ?_
    intro v7 w7 hO7 hG7 hM7
    have hB7 : Below wd.heap.size wd w7 := hB6.trans ((Only.of_grown hG7).below hB6.size fun _ _ e => own_ge hO6 e)
    obtain ⟨x7, k7, y7, he7⟩ := slice_any hO7
    subst he7
    have hT7 := hTd.on hB7
    have f1 := hT7.c2
    have f0 := HFZ.out w7 (hBd.trans (hB7.mono hBd.size))
    refine hK.out _ _ ⟨hT7.book, hT7.ltm⟩ (fun _ => ?_)
    clear hK K
    try simp only [Act.put, List.setIfInBounds_toArray, List.set_cons_zero, List.set_cons_succ]
    refine wpAnyH_take (i := 29) (oi := ⟨some 67, _, _, _, _, _⟩) (v := ?_) rfl (by kernel_rfl) (by kernel_rfl) (by kernel_rfl) (fun _ _ _ h => h) (Or.inl ⟨by rfl, ?_⟩) (by assumption) ?_
    rotate_left
    · intro w hSw
      (try dsimp only at hSw)
      go_simp
      all_goals (with_reducible rfl)
    try simp only [Act.put, List.setIfInBounds_toArray, List.set_cons_zero, List.set_cons_succ]
    refine wpAnyH_take (i := 30) (oi := ⟨some 68, _, _, _, _, _⟩) (v := ?_) rfl (by kernel_rfl) (by kernel_rfl) (by kernel_rfl) (fun _ _ _ h => h) (Or.inl ⟨by rfl, ?_⟩) (by assumption) ?_
    rotate_left
    · intro w hSw
      (try dsimp only at hSw)
      go_simp
      all_goals (with_reducible rfl)
    try simp only [Act.put, List.setIfInBounds_toArray, List.set_cons_zero, List.set_cons_succ]
    refine wpAnyH_ready (rs := [31]) (by kernel_rfl) (by simp) ?_
    refine AllReadyH.cons (o := ⟨none, _, _, _, _, _⟩) rfl (fun K hK => ?_) AllReadyH.nil
    go_simp
    refine hK.out _ _ ⟨(World.cell?_setCell_other _ _ _ _ (fun e => HMG.out (by injection e with e _ _; exact e.symm))).trans hT7.book, by simpa using hT7.ltm⟩ (fun _ => ?_)
    clear hK K
    try simp only [Act.put]
    refine wpAnyH_done (by kernel_rfl) ?_ _
    refine NoPanic.normal ?_
    go_wp2
    go_ret
    exact .inr ⟨rfl, wd, w7, _, k, hBd, hB7, hO7, hkx, hkn, rfl⟩
  refine AllReadyH.cons (o := ⟨some 51, _, _, _, _, _⟩) rfl (fun K hK => ?_) AllReadyH.nil
  have y1 := hTd.c2
  go_simp
  refine hK.out _ _ ⟨hTd.book, hTd.ltm⟩ (fun _ => ?_)
  clear hK K y1
  try simp only [Act.put, List.setIfInBounds_toArray, List.set_cons_zero, List.set_cons_succ]
  refine wpAnyH_take (i := 15) (oi := ⟨some 53, _, _, _, _, _⟩) (v := ?_) rfl (by kernel_rfl) (by kernel_rfl) (by kernel_rfl) (fun _ _ _ h => h) (Or.inl ⟨by rfl, ?_⟩) (by assumption) ?_
  rotate_left
  · intro w hSw
    (try dsimp only at hSw)
    go_simp
    all_goals (with_reducible rfl)
  try simp only [Act.put, List.setIfInBounds_toArray, List.set_cons_zero, List.set_cons_succ]
  refine wpAnyH_ready (rs := [5]) (by kernel_rfl) (by simp) ?_
  refine AllReadyH.cons (o := ⟨some 43, _, _, _, _, _⟩) rfl (fun K hK => ?_) AllReadyH.nil
  go_simp
  refine hK.out _ _ ⟨hT5.book, hT5.ltm⟩ (fun _ => ?_)
  clear hK K
  try simp only [Act.put, List.setIfInBounds_toArray, List.set_cons_zero, List.set_cons_succ]
  refine wpAnyH_ready (rs := [16]) (by kernel_rfl) (by simp) ?_
  refine AllReadyH.cons (o := ⟨some 54, _, _, _, _, _⟩) rfl (fun K hK => ?_) AllReadyH.nil
  rw [if_pos (by rfl)]
  refine wp_append_off (f := Rl.cells) (n := 4) _ _ _ 29 (by rfl) _ 48 Try.underlying49 info_rule rfl (by decide) (by decide) lenR wd.heap.size _ _ [] (t.rules.take k) (by rfl) (own_empty wd _) (by rfl) (part_takerules hT5.rules hkN) (fun b _ y hy => by simp [Rl.cells] at hy; rcases hy with rfl | rfl | rfl | rfl <;> rfl) (by have := HN.out; simp; omega) (by simp) ?_
  intro v6 w6 hO6 hG6 hM6
  have hB6 : Below wd.heap.size wd w6 := hA1.trans ((Only.of_grown hG6).below (by simp) fun _ _ e => own_ge (own_empty (f := Rl.cells) (n := 4) wd 29) e)
  obtain ⟨x6, k6, y6, he6⟩ := slice_any hO6
  subst he6
  have hT6 := hTd.on hB6
  refine hK.out _ _ ⟨hT6.book, hT6.ltm⟩ (fun _ => ?_)
  clear hK K
  try simp only [Act.put, List.setIfInBounds_toArray, List.set_cons_zero, List.set_cons_succ]
  refine wpAnyH_ready (rs := [28]) (by kernel_rfl) (by simp) ?_
  refine AllReadyH.cons (o := ⟨some 66, _, _, _, _, _⟩) rfl (fun K hK => ?_) AllReadyH.nil
  rw [if_pos (by rfl)]
  refine wp_append_off (f := Rl.cells) (n := 4) _ _ _ 29 (by rfl) _ 48 Try.underlying49 info_rule rfl (by decide) (by decide) lenR wd.heap.size _ _ ([] ++ t.rules.take k) (t.rules.drop (k + 1)) (by rfl) hO6 (by rfl) (part_droprules hT6.rules hkN HN.out HO2.out) (fun b _ y hy => by simp [Rl.cells] at hy; rcases hy with rfl | rfl | rfl | rfl <;> rfl) (by have := HN.out; simp; omega) hB6.size ?_
  intro v7 w7 hO7 hG7 hM7
  have hB7 : Below wd.heap.size wd w7 := hB6.trans ((Only.of_grown hG7).below hB6.size fun _ _ e => own_ge hO6 e)
  obtain ⟨x7, k7, y7, he7⟩ := slice_any hO7
  subst he7
  have hT7 := hTd.on hB7
  have f1 := hT7.c2
  have f0 := HFZ.out w7 (hBd.trans (hB7.mono hBd.size))
  refine hK.out _ _ ⟨hT7.book, hT7.ltm⟩ (fun _ => ?_)
  clear hK K
  try simp only [Act.put, List.setIfInBounds_toArray, List.set_cons_zero, List.set_cons_succ]
  refine wpAnyH_take (i := 29) (oi := ⟨some 67, _, _, _, _, _⟩) (v := ?_) rfl (by kernel_rfl) (by kernel_rfl) (by kernel_rfl) (fun _ _ _ h => h) (Or.inl ⟨by rfl, ?_⟩) (by assumption) ?_
  rotate_left
  · intro w hSw
    (try dsimp only at hSw)
    go_simp
    all_goals (with_reducible rfl)
  try simp only [Act.put, List.setIfInBounds_toArray, List.set_cons_zero, List.set_cons_succ]
  refine wpAnyH_take (i := 30) (oi := ⟨some 68, _, _, _, _, _⟩) (v := ?_) rfl (by kernel_rfl) (by kernel_rfl) (by kernel_rfl) (fun _ _ _ h => h) (Or.inl ⟨by rfl, ?_⟩) (by assumption) ?_
  rotate_left
  · intro w hSw
    (try dsimp only at hSw)
    go_simp
    all_goals (with_reducible rfl)
  try simp only [Act.put, List.setIfInBounds_toArray, List.set_cons_zero, List.set_cons_succ]
  refine wpAnyH_ready (rs := [31]) (by kernel_rfl) (by simp) ?_
  refine AllReadyH.cons (o := ⟨none, _, _, _, _, _⟩) rfl (fun K hK => ?_) AllReadyH.nil
  go_simp
  refine hK.out _ _ ⟨(World.cell?_setCell_other _ _ _ _ (fun e => HMG.out (by injection e with e _ _; exact e.symm))).trans hT7.book, by simpa using hT7.ltm⟩ (fun _ => ?_)
  clear hK K
  try simp only [Act.put]
  refine wpAnyH_done (by kernel_rfl) ?_ _
  refine NoPanic.normal ?_
  go_wp2
  go_ret
  exact .inr ⟨rfl, wd, w7, _, k, hBd, hB7, hO7, hkx, hkn, rfl⟩

end Go.Proofs.Ytglcingpolpkdaa
