/- The reference's Grant: the tenant is there. -/
import Derived.Test.YtglcingpolpkdaaRJoin
import Derived.Test.YtglcingpolpkdaaRRevoke
namespace Go.Proofs.Ytglcingpolpkdaa
open Go.RowKit

/-- What Grant leaves: new memory, and one cell written. -/
def GrantR (w w' : World) (g i : Nat) (rs : List Rl) (r : Rl) : Prop :=
  ∃ wd w7 v7, Below w.heap.size w wd ∧ Below wd.heap.size wd w7 ∧ OwnR w7 wd.heap.size v7 ([] ++ rs ++ [r]) ∧ w' = w7.setCell ⟨g, i * 3 + 2, none⟩ v7

def GrantEnd (e : Ending) (w w' : World) (N g i : Nat) (rs : List Rl) (r : Rl) : Prop :=
  (e = .returned (.int .i64 7) ∧ hasR rs r = true ∧ Below w.heap.size w w') ∨ (e = .returned (.int .i64 8) ∧ hasR rs r = false ∧ 128 ≤ N ∧ Below w.heap.size w w') ∨ (e = .returned (.int .i64 0) ∧ hasR rs r = false ∧ N < 128 ∧ GrantR w w' g i rs r)

set_option maxRecDepth 100000 in
set_option maxHeartbeats 4000000 in
theorem refgrant_at (W w : World) (m g i NT c N cm : Nat) (p : Option Addr) (mv : Value) (ts : List Tn) (t : Tn) (n who key : ByteArray) (what : Int) (deny : Bool) (h : RefIs W w m ts) (hlen : ts.length ≤ 1000) (hg : getT ts n = some (i, t)) (hT : TenR W.heap.size w m g i NT c mv (.slice p N cm) t) (hN : t.rules.length = N) (hml : N ≤ 1000) (hmay : mayB ⟨who, what, key, deny⟩ = true) (hsz : key.size ≤ 1000000)
    (hmg : m ≠ g) (hFZ : ∀ w7, Below w.heap.size w w7 → w7.frozen? ⟨g, i * 3 + 2, none⟩ = false) :
    Calls Try.prog 61 #[.pointer (some ⟨m, 0, none⟩), .string n, .agg #[.string who, .int .i64 what, .string key, .bool deny]] w fun e w' => GrantEnd e w w' N g i t.rules ⟨who, what, key, deny⟩ := by
  have hBA : Below w.heap.size w (w.alloc (.cells #[.string who, .int .i64 what, .string key, .bool deny] 29)) := (Below.refl _ _).alloc (Nat.le_refl _) _
  have hR0 := Whole.new w 29 #[.string who, .int .i64 what, .string key, .bool deny]
  have HAT := Lib.hid (fun w' (hB : Below w.heap.size w w') => refat_calls W w' m ts n (h.on hB) hlen)
  unfold atT at HAT
  rw [hg] at HAT
  have HMAY := Lib.hid (fun w' => hmay ▸ refmay_calls w' who key what deny hsz)
  have HT := Lib.hid hT
  have HN := Lib.hid hN
  have HFZ := Lib.hid hFZ
  have HMG := Lib.hid hmg
  have HRG := Lib.hid (show w.heap.size ≠ g from Nat.ne_of_gt hT.ltg)
  have i0 : ¬ (i : Int) < 0 := by omega
  have i3 : 0 ≤ (i : Int) ∧ (i : Int) < (NT : Int) := by have := hT.lti; omega
  have HM := Lib.hid (fun w' (hB : Below w.heap.size w w') => refrule_calls w' W.heap.size t.name _ mv t.rules ⟨who, what, key, deny⟩ (row_low hT.rules hB) (by rw [hN]; exact hml))
  clear h hg hT hN hmay hFZ hmg
  generalize hw : (w.alloc (.cells #[.string who, .int .i64 what, .string key, .bool deny] 29)) = w0 at hBA hR0
  obtain ⟨RB, hRB⟩ : ∃ b, w.heap.size = b := ⟨_, rfl⟩
  rw [hRB] at hR0 HRG
  have r0 := hR0.cell 0
  have r1 := hR0.cell 1
  have r2 := hR0.cell 2
  have r3 := hR0.cell 3
  go_enter Try.func61, Try.ntmps61
  go_upto_region 6 with (first
    | (go_at_call 93; refine (HAT.out w1 hB1).mono ?_; rintro e w' ⟨rfl, hw⟩; rw [hw]; clear hw)
    | (go_at_call 95; refine (HMAY.out w0).mono ?_; rintro e w1 ⟨rfl, hB10⟩; have hB1 := hBA.trans (hB10.mono hBA.size); have hT1 := HT.out.on hB1; have hR1 := hR0.below hB10 hR0.lt; have q0 := hT1.book; have q1 := hT1.c0; have q2 := hT1.c1; have q3 := hT1.c2; have r0 := hR1.cell 0; have r1 := hR1.cell 1; have r2 := hR1.cell 2; have r3 := hR1.cell 3)
    | (refine wpList_box_cells (by rfl) 29 _ (by rfl) #[.string who, .int .i64 what, .string key, .bool deny] (by rfl) ?_; rw [hw, hRB])
    | fail)
  clear r0 r1 r2 r3
  clear r0 r1 r2 r3 q0 q1 q2 q3
  refine wp_region_noPanic ?_
  refine wp_region_held_drew (S := fun w' => TenR W.heap.size w' m g i NT c mv (.slice p N cm) t ∧ Whole w' RB 29 #[.string who, .int .i64 what, .string key, .bool deny].toList ∧ Below w.heap.size w w') (by kernel_rfl) ⟨hT1.on ((Below.refl _ _).drew), hR1.below ((Below.refl _ _).drew) hR1.lt, hB1.drew⟩ (fun hhS => ?_)
  refine wpAnyH_take (i := 0) (oi := ⟨some 16, _, _, _, _, _⟩) (v := ?_) rfl (by kernel_rfl) (by kernel_rfl) (by kernel_rfl) (fun _ _ _ h => h) (Or.inl ⟨by rfl, ?_⟩) (by assumption) ?_
  rotate_left
  · intro w hSw
    (try dsimp only at hSw)
    go_simp
    all_goals (with_reducible rfl)
  try simp only [Act.put, List.setIfInBounds_toArray, List.set_cons_zero, List.set_cons_succ]
  refine wpAnyH_take (i := 1) (oi := ⟨some 17, _, _, _, _, _⟩) (v := ?_) rfl (by kernel_rfl) (by kernel_rfl) (by kernel_rfl) (fun _ _ _ h => h) (Or.inl ⟨by rfl, ?_⟩) (by assumption) ?_
  rotate_left
  · intro w hSw
    (try dsimp only at hSw)
    go_simp
    all_goals (with_reducible rfl)
  try simp only [Act.put, List.setIfInBounds_toArray, List.set_cons_zero, List.set_cons_succ]
  refine wpAnyH_take (i := 2) (oi := ⟨some 18, _, _, _, _, _⟩) (v := ?_) rfl (by kernel_rfl) (by kernel_rfl) (by kernel_rfl) (fun _ _ _ h => h) (Or.inl ⟨by rfl, ?_⟩) (by assumption) ?_
  rotate_left
  · intro w hSw
    (try dsimp only at hSw)
    go_simp
    all_goals (with_reducible rfl)
  try simp only [Act.put, List.setIfInBounds_toArray, List.set_cons_zero, List.set_cons_succ]
  refine wpAnyH_take (i := 3) (oi := ⟨some 19, _, _, _, _, _⟩) (v := ?_) rfl (by kernel_rfl) (by kernel_rfl) (by kernel_rfl) (fun _ _ _ h => h) (Or.inl ⟨by rfl, ?_⟩) (by assumption) ?_
  rotate_left
  · intro w hSw
    (try dsimp only at hSw)
    have y0 := hSw.1.book
    go_simp
    all_goals (with_reducible rfl)
  try simp only [Act.put, List.setIfInBounds_toArray, List.set_cons_zero, List.set_cons_succ]
  refine wpAnyH_take (i := 4) (oi := ⟨some 20, _, _, _, _, _⟩) (v := ?_) rfl (by kernel_rfl) (by kernel_rfl) (by kernel_rfl) (fun _ _ _ h => h) (Or.inl ⟨by rfl, ?_⟩) (by assumption) ?_
  rotate_left
  · intro w hSw
    (try dsimp only at hSw)
    go_simp
    all_goals (with_reducible rfl)
  try simp only [Act.put, List.setIfInBounds_toArray, List.set_cons_zero, List.set_cons_succ]
  refine wpAnyH_take (i := 5) (oi := ⟨some 21, _, _, _, _, _⟩) (v := ?_) rfl (by kernel_rfl) (by kernel_rfl) (by kernel_rfl) (fun _ _ _ h => h) (Or.inl ⟨by rfl, ?_⟩) (by assumption) ?_
  rotate_left
  · intro w hSw
    (try dsimp only at hSw)
    go_simp
    all_goals (with_reducible rfl)
  try simp only [Act.put, List.setIfInBounds_toArray, List.set_cons_zero, List.set_cons_succ]
  refine wpAnyH_take (i := 6) (oi := ⟨some 22, _, _, _, _, _⟩) (v := ?_) rfl (by kernel_rfl) (by kernel_rfl) (by kernel_rfl) (fun _ _ _ h => h) (Or.inl ⟨by rfl, ?_⟩) (by assumption) ?_
  rotate_left
  · intro w hSw
    (try dsimp only at hSw)
    have y0 := hSw.1.c0
    have y1 := hSw.1.c1
    have y2 := hSw.1.c2
    go_simp
    all_goals (with_reducible rfl)
  try simp only [Act.put, List.setIfInBounds_toArray, List.set_cons_zero, List.set_cons_succ]
  refine wpAnyH_take (i := 7) (oi := ⟨some 23, _, _, _, _, _⟩) (v := ?_) rfl (by kernel_rfl) (by kernel_rfl) (by kernel_rfl) (fun _ _ _ h => h) (Or.inl ⟨by rfl, ?_⟩) (by assumption) ?_
  rotate_left
  · intro w hSw
    (try dsimp only at hSw)
    have y0 := hSw.2.1.cell 0
    have y1 := hSw.2.1.cell 1
    have y2 := hSw.2.1.cell 2
    have y3 := hSw.2.1.cell 3
    go_simp
    all_goals (with_reducible rfl)
  try simp only [Act.put, List.setIfInBounds_toArray, List.set_cons_zero, List.set_cons_succ]
  refine wpAnyH_ready (rs := [8]) (by kernel_rfl) (by simp) ?_
  refine AllReadyH.cons (o := ⟨some 24, _, _, _, _, _⟩) rfl (fun K hK => ?_) AllReadyH.nil
  go_simp
  refine (HM.out _ hhS.2.2).mono ?_
  rintro e w2 ⟨ix, rfl, hix2, hB20⟩
  have hT2 := hhS.1.on hB20
  have hR2 := hhS.2.1.below hB20 hhS.2.1.lt
  have hB2 := hhS.2.2.trans (hB20.mono hhS.2.2.size)
  refine hK.out _ _ ⟨hT2, hR2, hB2⟩ (fun _ => ?_)
  clear hK K
  try simp only [Act.put, List.setIfInBounds_toArray, List.set_cons_zero, List.set_cons_succ]
  clear hhS
  have hix : ((ix = -1 ∧ ∀ x ∈ t.rules, eqR x ⟨who, what, key, deny⟩ = false) ∨ ∃ k : Nat, ix = k ∧ k < t.rules.length ∧ (∃ x, t.rules[k]? = some x ∧ eqR x ⟨who, what, key, deny⟩ = true) ∧ ∀ j x, j < k → t.rules[j]? = some x → eqR x ⟨who, what, key, deny⟩ = false) := hix2
  clear hix2
  rcases hix with ⟨rfl, hno⟩ | ⟨k1, rfl, _, ⟨x1, hx1, he1⟩, _⟩
  · refine wpAnyH_take (i := 9) (oi := ⟨some 25, _, _, _, _, _⟩) (v := .bool false) rfl (by kernel_rfl) (by kernel_rfl) (by kernel_rfl) (fun _ _ _ h => h) (Or.inl ⟨by rfl, ?_⟩) (by assumption) ?_
    · intro w hSw
      (try dsimp only at hSw)
      go_simp
      all_goals (with_reducible rfl)
    try simp only [Act.put, List.setIfInBounds_toArray, List.set_cons_zero, List.set_cons_succ]
    refine wpAnyH_done (by kernel_rfl) ?_ _
    refine NoPanic.normal ?_
    have q0 := hT2.book
    have q1 := hT2.c0
    have q2 := hT2.c1
    have q3 := hT2.c2
    by_cases hfull : 128 ≤ N
    · have n0 : (128 : Int) ≤ (N : Int) := by omega
      go_wp2
      go_ret
      exact Or.inr (Or.inl ⟨rfl, hasR_none.2 hno, hfull, by first | exact hB2 | (rw [← hRB]; exact hB2)⟩)
    · have n0 : ¬ (128 : Int) ≤ (N : Int) := by omega
      go_upto_region 10 with fail
      clear q0 q1 q2 q3
      have hTc := hT2
      have hRc := hR2
      have hno := hasR_none.2 hno
      refine wp_region_noPanic ?_
      refine wp_region_held_drew (S := fun w' => (w'.cell? ⟨m, 0, none⟩ = some (.slice (some ⟨g, 0, none⟩) NT c) ∧ m < w'.heap.size ∧ Whole w' RB 29 #[.string who, .int .i64 what, .string key, .bool deny].toList)) (by kernel_rfl) ⟨(hTc.on ((Below.refl _ _).drew)).book, hTc.ltm, hRc.below ((Below.refl _ _).drew) hRc.lt⟩ (fun hhS => ?_)
      have hTd := hTc.on ((Below.refl w2.heap.size w2).drew)
      have hBd := hB2.drew
      have hRd := hRc.below ((Below.refl w2.heap.size w2).drew) hRc.lt
      clear hhS
      generalize w2.drew = wd at hTd hBd hRd ⊢
      have hB0 : Below wd.heap.size wd wd := Below.refl _ _
      have hhS := And.intro hTd.book (And.intro hTd.ltm hRd)
      refine wpAnyH_take (i := 0) (oi := ⟨some 36, _, _, _, _, _⟩) (v := ?_) rfl (by kernel_rfl) (by kernel_rfl) (by kernel_rfl) (fun _ _ _ h => h) (Or.inl ⟨by rfl, ?_⟩) (by assumption) ?_
      rotate_left
      · intro w hSw
        (try dsimp only at hSw)
        go_simp
        all_goals (with_reducible rfl)
      try simp only [Act.put, List.setIfInBounds_toArray, List.set_cons_zero, List.set_cons_succ]
      refine wpAnyH_take (i := 1) (oi := ⟨some 37, _, _, _, _, _⟩) (v := ?_) rfl (by kernel_rfl) (by kernel_rfl) (by kernel_rfl) (fun _ _ _ h => h) (Or.inl ⟨by rfl, ?_⟩) (by assumption) ?_
      rotate_left
      · intro w hSw
        (try dsimp only at hSw)
        go_simp
        all_goals (with_reducible rfl)
      try simp only [Act.put, List.setIfInBounds_toArray, List.set_cons_zero, List.set_cons_succ]
      refine wpAnyH_take (i := 2) (oi := ⟨some 38, _, _, _, _, _⟩) (v := ?_) rfl (by kernel_rfl) (by kernel_rfl) (by kernel_rfl) (fun _ _ _ h => h) (Or.inl ⟨by rfl, ?_⟩) (by assumption) ?_
      rotate_left
      · intro w hSw
        (try dsimp only at hSw)
        go_simp
        all_goals (with_reducible rfl)
      try simp only [Act.put, List.setIfInBounds_toArray, List.set_cons_zero, List.set_cons_succ]
      refine wpAnyH_take (i := 3) (oi := ⟨some 39, _, _, _, _, _⟩) (v := ?_) rfl (by kernel_rfl) (by kernel_rfl) (by kernel_rfl) (fun _ _ _ h => h) (Or.inl ⟨by rfl, ?_⟩) (by assumption) ?_
      rotate_left
      · intro w hSw
        (try dsimp only at hSw)
        have y0 := hSw.1
        go_simp
        all_goals (with_reducible rfl)
      try simp only [Act.put, List.setIfInBounds_toArray, List.set_cons_zero, List.set_cons_succ]
      refine wpAnyH_take (i := 4) (oi := ⟨some 40, _, _, _, _, _⟩) (v := ?_) rfl (by kernel_rfl) (by kernel_rfl) (by kernel_rfl) (fun _ _ _ h => h) (Or.inl ⟨by rfl, ?_⟩) (by assumption) ?_
      rotate_left
      · intro w hSw
        (try dsimp only at hSw)
        go_simp
        all_goals (with_reducible rfl)
      try simp only [Act.put, List.setIfInBounds_toArray, List.set_cons_zero, List.set_cons_succ]
      refine wpAnyH_take (i := 6) (oi := ⟨some 42, _, _, _, _, _⟩) (v := ?_) rfl (by kernel_rfl) (by kernel_rfl) (by kernel_rfl) (fun _ _ _ h => h) (Or.inl ⟨by rfl, ?_⟩) (by assumption) ?_
      rotate_left
      · intro w hSw
        (try dsimp only at hSw)
        go_simp
        all_goals (with_reducible rfl)
      try simp only [Act.put, List.setIfInBounds_toArray, List.set_cons_zero, List.set_cons_succ]
      refine wpAnyH_take (i := 7) (oi := ⟨some 43, _, _, _, _, _⟩) (v := ?_) rfl (by kernel_rfl) (by kernel_rfl) (by kernel_rfl) (fun _ _ _ h => h) (Or.inl ⟨by rfl, ?_⟩) (by assumption) ?_
      rotate_left
      · intro w hSw
        (try dsimp only at hSw)
        go_simp
        all_goals (with_reducible rfl)
      try simp only [Act.put, List.setIfInBounds_toArray, List.set_cons_zero, List.set_cons_succ]
      refine wpAnyH_take (i := 8) (oi := ⟨some 44, _, _, _, _, _⟩) (v := ?_) rfl (by kernel_rfl) (by kernel_rfl) (by kernel_rfl) (fun _ _ _ h => h) (Or.inl ⟨by rfl, ?_⟩) (by assumption) ?_
      rotate_left
      · intro w hSw
        (try dsimp only at hSw)
        go_simp
        all_goals (with_reducible rfl)
      try simp only [Act.put, List.setIfInBounds_toArray, List.set_cons_zero, List.set_cons_succ]
      refine wpAnyH_take (i := 9) (oi := ⟨some 45, _, _, _, _, _⟩) (v := ?_) rfl (by kernel_rfl) (by kernel_rfl) (by kernel_rfl) (fun _ _ _ h => h) (Or.inl ⟨by rfl, ?_⟩) (by assumption) ?_
      rotate_left
      · intro w hSw
        (try dsimp only at hSw)
        have y0 := hSw.1
        go_simp
        all_goals (with_reducible rfl)
      try simp only [Act.put, List.setIfInBounds_toArray, List.set_cons_zero, List.set_cons_succ]
      refine wpAnyH_take (i := 10) (oi := ⟨some 46, _, _, _, _, _⟩) (v := ?_) rfl (by kernel_rfl) (by kernel_rfl) (by kernel_rfl) (fun _ _ _ h => h) (Or.inl ⟨by rfl, ?_⟩) (by assumption) ?_
      rotate_left
      · intro w hSw
        (try dsimp only at hSw)
        go_simp
        all_goals (with_reducible rfl)
      try simp only [Act.put, List.setIfInBounds_toArray, List.set_cons_zero, List.set_cons_succ]
      refine wpAnyH_take (i := 11) (oi := ⟨some 47, _, _, _, _, _⟩) (v := ?_) rfl (by kernel_rfl) (by kernel_rfl) (by kernel_rfl) (fun _ _ _ h => h) (Or.inl ⟨by rfl, ?_⟩) (by assumption) ?_
      rotate_left
      · intro w hSw
        (try dsimp only at hSw)
        go_simp
        all_goals (with_reducible rfl)
      try simp only [Act.put, List.setIfInBounds_toArray, List.set_cons_zero, List.set_cons_succ]
      refine wpAnyH_take (i := 12) (oi := ⟨some 48, _, _, _, _, _⟩) (v := ?_) rfl (by kernel_rfl) (by kernel_rfl) (by kernel_rfl) (fun _ _ _ h => h) (Or.inl ⟨by rfl, ?_⟩) (by assumption) ?_
      rotate_left
      · intro w hSw
        (try dsimp only at hSw)
        go_simp
        all_goals (with_reducible rfl)
      try simp only [Act.put, List.setIfInBounds_toArray, List.set_cons_zero, List.set_cons_succ]
      refine wpAnyH_take (i := 15) (oi := ⟨some 51, _, _, _, _, _⟩) (v := ?_) rfl (by kernel_rfl) (by kernel_rfl) (by kernel_rfl) (fun _ _ _ h => h) (Or.inl ⟨by rfl, ?_⟩) (by assumption) ?_
      rotate_left
      · intro w hSw
        (try dsimp only at hSw)
        have y0 := hSw.2.2.cell 0
        have y1 := hSw.2.2.cell 1
        have y2 := hSw.2.2.cell 2
        have y3 := hSw.2.2.cell 3
        go_simp
        all_goals (with_reducible rfl)
      try simp only [Act.put, List.setIfInBounds_toArray, List.set_cons_zero, List.set_cons_succ]
      refine wpAnyH_ready (rs := [5, 13, 16]) (by kernel_rfl) (by simp) ?_
      refine AllReadyH.cons (o := ⟨some 41, _, _, _, _, _⟩) rfl (fun K hK => ?_) ?_
      · have hA : Below wd.heap.size wd (wd.alloc (.cells #[] 29)) := (Below.refl _ _).alloc (Nat.le_refl _) _
        have hT1 := hTd.on hA
        have hB1 := hB0.trans (hA.mono hB0.size)
        have hOe : (wd.alloc (.cells #[] 29)).ownsRow wd.heap.size 29 4 (.slice (some ⟨wd.heap.size, 0, none⟩) 0 0) ([] : List _).length (([] : List _).flatMap Rl.cells) := own_down hB0.size (at_eq (by simp) (own_empty (f := Rl.cells) (n := 4) wd 29))
        go_simp
        refine hK.out _ _ ⟨hT1.book, hT1.ltm, hRd.below hB1 hRd.lt⟩ (fun _ => ?_)
        clear hK K hA
        try simp only [Act.put, List.setIfInBounds_toArray, List.set_cons_zero, List.set_cons_succ]
        refine wpAnyH_ready (rs := [13, 16]) (by kernel_rfl) (by simp) ?_
        refine AllReadyH.cons (o := ⟨some 49, _, _, _, _, _⟩) rfl (fun K hK => ?_) ?_
        · have y1 := hT1.c2
          go_simp
          refine hK.out _ _ ⟨hT1.book, hT1.ltm, hRd.below hB1 hRd.lt⟩ (fun _ => ?_)
          clear hK K y1
          try simp only [Act.put, List.setIfInBounds_toArray, List.set_cons_zero, List.set_cons_succ]
          refine wpAnyH_ready (rs := [14, 16]) (by kernel_rfl) (by simp) ?_
          refine AllReadyH.cons (o := ⟨some 50, _, _, _, _, _⟩) rfl (fun K hK => ?_) ?_
          · rw [if_pos (by rfl)]
            refine wp_append_gen (f := Rl.cells) (n := 4) _ _ _ 29 (by rfl) _ 48 Try.underlying49 info_rule rfl (by decide) (by decide) lenR wd.heap.size _ _ [] t.rules (by rfl) hOe (by rfl) (src_of_own lenR hT1.rules) (fun b _ y hy => by simp [Rl.cells] at hy; rcases hy with rfl | rfl | rfl | rfl <;> rfl) (by have := HN.out; simp; omega) hB1.size ?_
            intro v6 w6 hO6 hG6 hM6
            have hB2 := hB1.trans ((Only.of_grown hG6).below hB1.size fun _ _ e => own_ge hOe e)
            obtain ⟨x6, k6, y6, he6⟩ := slice_any hO6
            subst he6
            have hT2 := hTd.on hB2
            refine hK.out _ _ ⟨hT2.book, hT2.ltm, hRd.below hB2 hRd.lt⟩ (fun _ => ?_)
            clear hK K hOe hG6 hM6
            try simp only [Act.put, List.setIfInBounds_toArray, List.set_cons_zero, List.set_cons_succ]
            refine wpAnyH_ready (rs := [16]) (by kernel_rfl) (by simp) ?_
            refine AllReadyH.cons (o := ⟨some 52, _, _, _, _, _⟩) rfl (fun K hK => ?_) AllReadyH.nil
            have hA : Below w6.heap.size w6 (w6.alloc (.cells #[.string who, .int .i64 what, .string key, .bool deny] 29)) := (Below.refl _ _).alloc (Nat.le_refl _) _
            have hT3 := hT2.on hA
            have hB3 := hB2.trans (hA.mono hB2.size)
            have hO6 := row_low hO6 hA
            have hJ : SrcG Rl.cells 4 (w6.alloc (.cells #[.string who, .int .i64 what, .string key, .bool deny] 29)) (.slice (some ⟨w6.heap.size, 0, none⟩) 1 1) [⟨who, what, key, deny⟩] := src_eq (by simp) (src_new (f := Rl.cells) (n := 4) w6 29 ⟨who, what, key, deny⟩)
            go_simp
            refine hK.out _ _ ⟨hT3.book, hT3.ltm, hRd.below hB3 hRd.lt⟩ (fun _ => ?_)
            clear hK K hA
            try simp only [Act.put, List.setIfInBounds_toArray, List.set_cons_zero, List.set_cons_succ]
            refine wpAnyH_ready (rs := [17]) (by kernel_rfl) (by simp) ?_
            refine AllReadyH.cons (o := ⟨some 53, _, _, _, _, _⟩) rfl (fun K hK => ?_) AllReadyH.nil
            rw [if_pos (by rfl)]
            refine wp_append_gen (f := Rl.cells) (n := 4) _ _ _ 29 (by rfl) _ 48 Try.underlying49 info_rule rfl (by decide) (by decide) lenR wd.heap.size _ _ ([] ++ t.rules) [⟨who, what, key, deny⟩] (by rfl) hO6 (by rfl) hJ (fun b hb y hy => by simp at hb; subst hb; simp [Rl.cells] at hy; rcases hy with rfl | rfl | rfl | rfl <;> rfl) (by have := HN.out; simp; omega) hB3.size ?_
            intro v7 w7 hO7 hG7 hM7
            have hB7 := hB3.trans ((Only.of_grown hG7).below hB3.size fun _ _ e => own_ge hO6 e)
            obtain ⟨x7, k7, y7, he7⟩ := slice_any hO7
            subst he7
            have hT7 := hTd.on hB7
            have f1 := hT7.c2
            have f0 := HFZ.out w7 (hBd.trans (hB7.mono hBd.size))
            refine hK.out _ _ ⟨hT7.book, hT7.ltm, hRd.below hB7 hRd.lt⟩ (fun _ => ?_)
            clear hK K
            try simp only [Act.put, List.setIfInBounds_toArray, List.set_cons_zero, List.set_cons_succ]
            refine wpAnyH_take (i := 18) (oi := ⟨some 54, _, _, _, _, _⟩) (v := ?_) rfl (by kernel_rfl) (by kernel_rfl) (by kernel_rfl) (fun _ _ _ h => h) (Or.inl ⟨by rfl, ?_⟩) (by assumption) ?_
            rotate_left
            · intro w hSw
              (try dsimp only at hSw)
              go_simp
              all_goals (with_reducible rfl)
            try simp only [Act.put, List.setIfInBounds_toArray, List.set_cons_zero, List.set_cons_succ]
            refine wpAnyH_take (i := 19) (oi := ⟨some 55, _, _, _, _, _⟩) (v := ?_) rfl (by kernel_rfl) (by kernel_rfl) (by kernel_rfl) (fun _ _ _ h => h) (Or.inl ⟨by rfl, ?_⟩) (by assumption) ?_
            rotate_left
            · intro w hSw
              (try dsimp only at hSw)
              go_simp
              all_goals (with_reducible rfl)
            try simp only [Act.put, List.setIfInBounds_toArray, List.set_cons_zero, List.set_cons_succ]
            refine wpAnyH_ready (rs := [20]) (by kernel_rfl) (by simp) ?_
            refine AllReadyH.cons (o := ⟨none, _, _, _, _, _⟩) rfl (fun K hK => ?_) AllReadyH.nil
            go_simp
            refine hK.out _ _ ⟨(World.cell?_setCell_other _ _ _ _ (fun e => HMG.out (by injection e with e _ _; exact e.symm))).trans hT7.book, by simpa using hT7.ltm, (hRd.below hB7 hRd.lt).only (Only.set w7 ⟨g, i * 3 + 2, none⟩ _) (fun e => HRG.out e)⟩ (fun _ => ?_)
            clear hK K
            try simp only [Act.put]
            refine wpAnyH_done (by kernel_rfl) ?_ _
            refine NoPanic.normal ?_
            go_wp2
            go_ret
            exact Or.inr (Or.inr ⟨rfl, hno, Nat.lt_of_not_le hfull, wd, w7, _, hBd, hB7, hO7, rfl⟩)
          refine AllReadyH.cons (o := ⟨some 52, _, _, _, _, _⟩) rfl (fun K hK => ?_) AllReadyH.nil
          have hA : Below (wd.alloc (.cells #[] 29)).heap.size (wd.alloc (.cells #[] 29)) ((wd.alloc (.cells #[] 29)).alloc (.cells #[.string who, .int .i64 what, .string key, .bool deny] 29)) := (Below.refl _ _).alloc (Nat.le_refl _) _
          have hT2 := hT1.on hA
          have hB2 := hB1.trans (hA.mono hB1.size)
          have hOe := row_low hOe hA
          have hJ : SrcG Rl.cells 4 ((wd.alloc (.cells #[] 29)).alloc (.cells #[.string who, .int .i64 what, .string key, .bool deny] 29)) (.slice (some ⟨wd.heap.size + 1, 0, none⟩) 1 1) [⟨who, what, key, deny⟩] := src_eq (by simp) (src_new (f := Rl.cells) (n := 4) (wd.alloc (.cells #[] 29)) 29 ⟨who, what, key, deny⟩)
          go_simp
          refine hK.out _ _ ⟨hT2.book, hT2.ltm, hRd.below hB2 hRd.lt⟩ (fun _ => ?_)
          clear hK K hA
          try simp only [Act.put, List.setIfInBounds_toArray, List.set_cons_zero, List.set_cons_succ]
          refine wpAnyH_ready (rs := [14]) (by kernel_rfl) (by simp) ?_
          refine AllReadyH.cons (o := ⟨some 50, _, _, _, _, _⟩) rfl (fun K hK => ?_) AllReadyH.nil
          rw [if_pos (by rfl)]
          refine wp_append_gen (f := Rl.cells) (n := 4) _ _ _ 29 (by rfl) _ 48 Try.underlying49 info_rule rfl (by decide) (by decide) lenR wd.heap.size _ _ [] t.rules (by rfl) hOe (by rfl) (src_of_own lenR hT2.rules) (fun b _ y hy => by simp [Rl.cells] at hy; rcases hy with rfl | rfl | rfl | rfl <;> rfl) (by have := HN.out; simp; omega) hB2.size ?_
          intro v6 w6 hO6 hG6 hM6
          have hB3 := hB2.trans ((Only.of_grown hG6).below hB2.size fun _ _ e => own_ge hOe e)
          obtain ⟨x6, k6, y6, he6⟩ := slice_any hO6
          subst he6
          have hT3 := hTd.on hB3
          have hJ := src_only hJ (Only.of_grown hG6) (fun g e => by simp [Value.ownBlock] at e ⊢; omega)
          refine hK.out _ _ ⟨hT3.book, hT3.ltm, hRd.below hB3 hRd.lt⟩ (fun _ => ?_)
          clear hK K hOe hG6 hM6
          try simp only [Act.put, List.setIfInBounds_toArray, List.set_cons_zero, List.set_cons_succ]
          refine wpAnyH_ready (rs := [17]) (by kernel_rfl) (by simp) ?_
          refine AllReadyH.cons (o := ⟨some 53, _, _, _, _, _⟩) rfl (fun K hK => ?_) AllReadyH.nil
          rw [if_pos (by rfl)]
          refine wp_append_gen (f := Rl.cells) (n := 4) _ _ _ 29 (by rfl) _ 48 Try.underlying49 info_rule rfl (by decide) (by decide) lenR wd.heap.size _ _ ([] ++ t.rules) [⟨who, what, key, deny⟩] (by rfl) hO6 (by rfl) hJ (fun b hb y hy => by simp at hb; subst hb; simp [Rl.cells] at hy; rcases hy with rfl | rfl | rfl | rfl <;> rfl) (by have := HN.out; simp; omega) hB3.size ?_
          intro v7 w7 hO7 hG7 hM7
          have hB7 := hB3.trans ((Only.of_grown hG7).below hB3.size fun _ _ e => own_ge hO6 e)
          obtain ⟨x7, k7, y7, he7⟩ := slice_any hO7
          subst he7
          have hT7 := hTd.on hB7
          have f1 := hT7.c2
          have f0 := HFZ.out w7 (hBd.trans (hB7.mono hBd.size))
          refine hK.out _ _ ⟨hT7.book, hT7.ltm, hRd.below hB7 hRd.lt⟩ (fun _ => ?_)
          clear hK K
          try simp only [Act.put, List.setIfInBounds_toArray, List.set_cons_zero, List.set_cons_succ]
          refine wpAnyH_take (i := 18) (oi := ⟨some 54, _, _, _, _, _⟩) (v := ?_) rfl (by kernel_rfl) (by kernel_rfl) (by kernel_rfl) (fun _ _ _ h => h) (Or.inl ⟨by rfl, ?_⟩) (by assumption) ?_
          rotate_left
          · intro w hSw
            (try dsimp only at hSw)
            go_simp
            all_goals (with_reducible rfl)
          try simp only [Act.put, List.setIfInBounds_toArray, List.set_cons_zero, List.set_cons_succ]
          refine wpAnyH_take (i := 19) (oi := ⟨some 55, _, _, _, _, _⟩) (v := ?_) rfl (by kernel_rfl) (by kernel_rfl) (by kernel_rfl) (fun _ _ _ h => h) (Or.inl ⟨by rfl, ?_⟩) (by assumption) ?_
          rotate_left
          · intro w hSw
            (try dsimp only at hSw)
            go_simp
            all_goals (with_reducible rfl)
          try simp only [Act.put, List.setIfInBounds_toArray, List.set_cons_zero, List.set_cons_succ]
          refine wpAnyH_ready (rs := [20]) (by kernel_rfl) (by simp) ?_
          refine AllReadyH.cons (o := ⟨none, _, _, _, _, _⟩) rfl (fun K hK => ?_) AllReadyH.nil
          go_simp
          refine hK.out _ _ ⟨(World.cell?_setCell_other _ _ _ _ (fun e => HMG.out (by injection e with e _ _; exact e.symm))).trans hT7.book, by simpa using hT7.ltm, (hRd.below hB7 hRd.lt).only (Only.set w7 ⟨g, i * 3 + 2, none⟩ _) (fun e => HRG.out e)⟩ (fun _ => ?_)
          clear hK K
          try simp only [Act.put]
          refine wpAnyH_done (by kernel_rfl) ?_ _
          refine NoPanic.normal ?_
          go_wp2
          go_ret
          exact Or.inr (Or.inr ⟨rfl, hno, Nat.lt_of_not_le hfull, wd, w7, _, hBd, hB7, hO7, rfl⟩)
        refine AllReadyH.cons (o := ⟨some 52, _, _, _, _, _⟩) rfl (fun K hK => ?_) AllReadyH.nil
        have hA : Below (wd.alloc (.cells #[] 29)).heap.size (wd.alloc (.cells #[] 29)) ((wd.alloc (.cells #[] 29)).alloc (.cells #[.string who, .int .i64 what, .string key, .bool deny] 29)) := (Below.refl _ _).alloc (Nat.le_refl _) _
        have hT2 := hT1.on hA
        have hB2 := hB1.trans (hA.mono hB1.size)
        have hOe := row_low hOe hA
        have hJ : SrcG Rl.cells 4 ((wd.alloc (.cells #[] 29)).alloc (.cells #[.string who, .int .i64 what, .string key, .bool deny] 29)) (.slice (some ⟨wd.heap.size + 1, 0, none⟩) 1 1) [⟨who, what, key, deny⟩] := src_eq (by simp) (src_new (f := Rl.cells) (n := 4) (wd.alloc (.cells #[] 29)) 29 ⟨who, what, key, deny⟩)
        go_simp
        refine hK.out _ _ ⟨hT2.book, hT2.ltm, hRd.below hB2 hRd.lt⟩ (fun _ => ?_)
        clear hK K hA
        try simp only [Act.put, List.setIfInBounds_toArray, List.set_cons_zero, List.set_cons_succ]
        refine wpAnyH_ready (rs := [13]) (by kernel_rfl) (by simp) ?_
        refine AllReadyH.cons (o := ⟨some 49, _, _, _, _, _⟩) rfl (fun K hK => ?_) AllReadyH.nil
        have y1 := hT2.c2
        go_simp
        refine hK.out _ _ ⟨hT2.book, hT2.ltm, hRd.below hB2 hRd.lt⟩ (fun _ => ?_)
        clear hK K y1
        try simp only [Act.put, List.setIfInBounds_toArray, List.set_cons_zero, List.set_cons_succ]
        refine wpAnyH_ready (rs := [14]) (by kernel_rfl) (by simp) ?_
        refine AllReadyH.cons (o := ⟨some 50, _, _, _, _, _⟩) rfl (fun K hK => ?_) AllReadyH.nil
        rw [if_pos (by rfl)]
        refine wp_append_gen (f := Rl.cells) (n := 4) _ _ _ 29 (by rfl) _ 48 Try.underlying49 info_rule rfl (by decide) (by decide) lenR wd.heap.size _ _ [] t.rules (by rfl) hOe (by rfl) (src_of_own lenR hT2.rules) (fun b _ y hy => by simp [Rl.cells] at hy; rcases hy with rfl | rfl | rfl | rfl <;> rfl) (by have := HN.out; simp; omega) hB2.size ?_
        intro v6 w6 hO6 hG6 hM6
        have hB3 := hB2.trans ((Only.of_grown hG6).below hB2.size fun _ _ e => own_ge hOe e)
        obtain ⟨x6, k6, y6, he6⟩ := slice_any hO6
        subst he6
        have hT3 := hTd.on hB3
        have hJ := src_only hJ (Only.of_grown hG6) (fun g e => by simp [Value.ownBlock] at e ⊢; omega)
        refine hK.out _ _ ⟨hT3.book, hT3.ltm, hRd.below hB3 hRd.lt⟩ (fun _ => ?_)
        clear hK K hOe hG6 hM6
        try simp only [Act.put, List.setIfInBounds_toArray, List.set_cons_zero, List.set_cons_succ]
        refine wpAnyH_ready (rs := [17]) (by kernel_rfl) (by simp) ?_
        refine AllReadyH.cons (o := ⟨some 53, _, _, _, _, _⟩) rfl (fun K hK => ?_) AllReadyH.nil
        rw [if_pos (by rfl)]
        refine wp_append_gen (f := Rl.cells) (n := 4) _ _ _ 29 (by rfl) _ 48 Try.underlying49 info_rule rfl (by decide) (by decide) lenR wd.heap.size _ _ ([] ++ t.rules) [⟨who, what, key, deny⟩] (by rfl) hO6 (by rfl) hJ (fun b hb y hy => by simp at hb; subst hb; simp [Rl.cells] at hy; rcases hy with rfl | rfl | rfl | rfl <;> rfl) (by have := HN.out; simp; omega) hB3.size ?_
        intro v7 w7 hO7 hG7 hM7
        have hB7 := hB3.trans ((Only.of_grown hG7).below hB3.size fun _ _ e => own_ge hO6 e)
        obtain ⟨x7, k7, y7, he7⟩ := slice_any hO7
        subst he7
        have hT7 := hTd.on hB7
        have f1 := hT7.c2
        have f0 := HFZ.out w7 (hBd.trans (hB7.mono hBd.size))
        refine hK.out _ _ ⟨hT7.book, hT7.ltm, hRd.below hB7 hRd.lt⟩ (fun _ => ?_)
        clear hK K
        try simp only [Act.put, List.setIfInBounds_toArray, List.set_cons_zero, List.set_cons_succ]
        refine wpAnyH_take (i := 18) (oi := ⟨some 54, _, _, _, _, _⟩) (v := ?_) rfl (by kernel_rfl) (by kernel_rfl) (by kernel_rfl) (fun _ _ _ h => h) (Or.inl ⟨by rfl, ?_⟩) (by assumption) ?_
        rotate_left
        · intro w hSw
          (try dsimp only at hSw)
          go_simp
          all_goals (with_reducible rfl)
        try simp only [Act.put, List.setIfInBounds_toArray, List.set_cons_zero, List.set_cons_succ]
        refine wpAnyH_take (i := 19) (oi := ⟨some 55, _, _, _, _, _⟩) (v := ?_) rfl (by kernel_rfl) (by kernel_rfl) (by kernel_rfl) (fun _ _ _ h => h) (Or.inl ⟨by rfl, ?_⟩) (by assumption) ?_
        rotate_left
        · intro w hSw
          (try dsimp only at hSw)
          go_simp
          all_goals (with_reducible rfl)
        try simp only [Act.put, List.setIfInBounds_toArray, List.set_cons_zero, List.set_cons_succ]
        refine wpAnyH_ready (rs := [20]) (by kernel_rfl) (by simp) ?_
        refine AllReadyH.cons (o := ⟨none, _, _, _, _, _⟩) rfl (fun K hK => ?_) AllReadyH.nil
        go_simp
        refine hK.out _ _ ⟨(World.cell?_setCell_other _ _ _ _ (fun e => HMG.out (by injection e with e _ _; exact e.symm))).trans hT7.book, by simpa using hT7.ltm, (hRd.below hB7 hRd.lt).only (Only.set w7 ⟨g, i * 3 + 2, none⟩ _) (fun e => HRG.out e)⟩ (fun _ => ?_)
        clear hK K
        try simp only [Act.put]
        refine wpAnyH_done (by kernel_rfl) ?_ _
        refine NoPanic.normal ?_
        go_wp2
        go_ret
        exact Or.inr (Or.inr ⟨rfl, hno, Nat.lt_of_not_le hfull, wd, w7, _, hBd, hB7, hO7, rfl⟩)
      refine AllReadyH.cons (o := ⟨some 49, _, _, _, _, _⟩) rfl (fun K hK => ?_) ?_
      · have y1 := hTd.c2
        go_simp
        refine hK.out _ _ ⟨hTd.book, hTd.ltm, hRd.below hB0 hRd.lt⟩ (fun _ => ?_)
        clear hK K y1
        try simp only [Act.put, List.setIfInBounds_toArray, List.set_cons_zero, List.set_cons_succ]
        refine wpAnyH_ready (rs := [5, 16]) (by kernel_rfl) (by simp) ?_
        refine AllReadyH.cons (o := ⟨some 41, _, _, _, _, _⟩) rfl (fun K hK => ?_) ?_
        · have hA : Below wd.heap.size wd (wd.alloc (.cells #[] 29)) := (Below.refl _ _).alloc (Nat.le_refl _) _
          have hT1 := hTd.on hA
          have hB1 := hB0.trans (hA.mono hB0.size)
          have hOe : (wd.alloc (.cells #[] 29)).ownsRow wd.heap.size 29 4 (.slice (some ⟨wd.heap.size, 0, none⟩) 0 0) ([] : List _).length (([] : List _).flatMap Rl.cells) := own_down hB0.size (at_eq (by simp) (own_empty (f := Rl.cells) (n := 4) wd 29))
          go_simp
          refine hK.out _ _ ⟨hT1.book, hT1.ltm, hRd.below hB1 hRd.lt⟩ (fun _ => ?_)
          clear hK K hA
          try simp only [Act.put, List.setIfInBounds_toArray, List.set_cons_zero, List.set_cons_succ]
          refine wpAnyH_ready (rs := [14, 16]) (by kernel_rfl) (by simp) ?_
          refine AllReadyH.cons (o := ⟨some 50, _, _, _, _, _⟩) rfl (fun K hK => ?_) ?_
          · rw [if_pos (by rfl)]
            refine wp_append_gen (f := Rl.cells) (n := 4) _ _ _ 29 (by rfl) _ 48 Try.underlying49 info_rule rfl (by decide) (by decide) lenR wd.heap.size _ _ [] t.rules (by rfl) hOe (by rfl) (src_of_own lenR hT1.rules) (fun b _ y hy => by simp [Rl.cells] at hy; rcases hy with rfl | rfl | rfl | rfl <;> rfl) (by have := HN.out; simp; omega) hB1.size ?_
            intro v6 w6 hO6 hG6 hM6
            have hB2 := hB1.trans ((Only.of_grown hG6).below hB1.size fun _ _ e => own_ge hOe e)
            obtain ⟨x6, k6, y6, he6⟩ := slice_any hO6
            subst he6
            have hT2 := hTd.on hB2
            refine hK.out _ _ ⟨hT2.book, hT2.ltm, hRd.below hB2 hRd.lt⟩ (fun _ => ?_)
            clear hK K hOe hG6 hM6
            try simp only [Act.put, List.setIfInBounds_toArray, List.set_cons_zero, List.set_cons_succ]
            refine wpAnyH_ready (rs := [16]) (by kernel_rfl) (by simp) ?_
            refine AllReadyH.cons (o := ⟨some 52, _, _, _, _, _⟩) rfl (fun K hK => ?_) AllReadyH.nil
            have hA : Below w6.heap.size w6 (w6.alloc (.cells #[.string who, .int .i64 what, .string key, .bool deny] 29)) := (Below.refl _ _).alloc (Nat.le_refl _) _
            have hT3 := hT2.on hA
            have hB3 := hB2.trans (hA.mono hB2.size)
            have hO6 := row_low hO6 hA
            have hJ : SrcG Rl.cells 4 (w6.alloc (.cells #[.string who, .int .i64 what, .string key, .bool deny] 29)) (.slice (some ⟨w6.heap.size, 0, none⟩) 1 1) [⟨who, what, key, deny⟩] := src_eq (by simp) (src_new (f := Rl.cells) (n := 4) w6 29 ⟨who, what, key, deny⟩)
            go_simp
            refine hK.out _ _ ⟨hT3.book, hT3.ltm, hRd.below hB3 hRd.lt⟩ (fun _ => ?_)
            clear hK K hA
            try simp only [Act.put, List.setIfInBounds_toArray, List.set_cons_zero, List.set_cons_succ]
            refine wpAnyH_ready (rs := [17]) (by kernel_rfl) (by simp) ?_
            refine AllReadyH.cons (o := ⟨some 53, _, _, _, _, _⟩) rfl (fun K hK => ?_) AllReadyH.nil
            rw [if_pos (by rfl)]
            refine wp_append_gen (f := Rl.cells) (n := 4) _ _ _ 29 (by rfl) _ 48 Try.underlying49 info_rule rfl (by decide) (by decide) lenR wd.heap.size _ _ ([] ++ t.rules) [⟨who, what, key, deny⟩] (by rfl) hO6 (by rfl) hJ (fun b hb y hy => by simp at hb; subst hb; simp [Rl.cells] at hy; rcases hy with rfl | rfl | rfl | rfl <;> rfl) (by have := HN.out; simp; omega) hB3.size ?_
            intro v7 w7 hO7 hG7 hM7
            have hB7 := hB3.trans ((Only.of_grown hG7).below hB3.size fun _ _ e => own_ge hO6 e)
            obtain ⟨x7, k7, y7, he7⟩ := slice_any hO7
            subst he7
            have hT7 := hTd.on hB7
            have f1 := hT7.c2
            have f0 := HFZ.out w7 (hBd.trans (hB7.mono hBd.size))
            refine hK.out _ _ ⟨hT7.book, hT7.ltm, hRd.below hB7 hRd.lt⟩ (fun _ => ?_)
            clear hK K
            try simp only [Act.put, List.setIfInBounds_toArray, List.set_cons_zero, List.set_cons_succ]
            refine wpAnyH_take (i := 18) (oi := ⟨some 54, _, _, _, _, _⟩) (v := ?_) rfl (by kernel_rfl) (by kernel_rfl) (by kernel_rfl) (fun _ _ _ h => h) (Or.inl ⟨by rfl, ?_⟩) (by assumption) ?_
            rotate_left
            · intro w hSw
              (try dsimp only at hSw)
              go_simp
              all_goals (with_reducible rfl)
            try simp only [Act.put, List.setIfInBounds_toArray, List.set_cons_zero, List.set_cons_succ]
            refine wpAnyH_take (i := 19) (oi := ⟨some 55, _, _, _, _, _⟩) (v := ?_) rfl (by kernel_rfl) (by kernel_rfl) (by kernel_rfl) (fun _ _ _ h => h) (Or.inl ⟨by rfl, ?_⟩) (by assumption) ?_
            rotate_left
            · intro w hSw
              (try dsimp only at hSw)
              go_simp
              all_goals (with_reducible rfl)
            try simp only [Act.put, List.setIfInBounds_toArray, List.set_cons_zero, List.set_cons_succ]
            refine wpAnyH_ready (rs := [20]) (by kernel_rfl) (by simp) ?_
            refine AllReadyH.cons (o := ⟨none, _, _, _, _, _⟩) rfl (fun K hK => ?_) AllReadyH.nil
            go_simp
            refine hK.out _ _ ⟨(World.cell?_setCell_other _ _ _ _ (fun e => HMG.out (by injection e with e _ _; exact e.symm))).trans hT7.book, by simpa using hT7.ltm, (hRd.below hB7 hRd.lt).only (Only.set w7 ⟨g, i * 3 + 2, none⟩ _) (fun e => HRG.out e)⟩ (fun _ => ?_)
            clear hK K
            try simp only [Act.put]
            refine wpAnyH_done (by kernel_rfl) ?_ _
            refine NoPanic.normal ?_
            go_wp2
            go_ret
            exact Or.inr (Or.inr ⟨rfl, hno, Nat.lt_of_not_le hfull, wd, w7, _, hBd, hB7, hO7, rfl⟩)
          refine AllReadyH.cons (o := ⟨some 52, _, _, _, _, _⟩) rfl (fun K hK => ?_) AllReadyH.nil
          have hA : Below (wd.alloc (.cells #[] 29)).heap.size (wd.alloc (.cells #[] 29)) ((wd.alloc (.cells #[] 29)).alloc (.cells #[.string who, .int .i64 what, .string key, .bool deny] 29)) := (Below.refl _ _).alloc (Nat.le_refl _) _
          have hT2 := hT1.on hA
          have hB2 := hB1.trans (hA.mono hB1.size)
          have hOe := row_low hOe hA
          have hJ : SrcG Rl.cells 4 ((wd.alloc (.cells #[] 29)).alloc (.cells #[.string who, .int .i64 what, .string key, .bool deny] 29)) (.slice (some ⟨wd.heap.size + 1, 0, none⟩) 1 1) [⟨who, what, key, deny⟩] := src_eq (by simp) (src_new (f := Rl.cells) (n := 4) (wd.alloc (.cells #[] 29)) 29 ⟨who, what, key, deny⟩)
          go_simp
          refine hK.out _ _ ⟨hT2.book, hT2.ltm, hRd.below hB2 hRd.lt⟩ (fun _ => ?_)
          clear hK K hA
          try simp only [Act.put, List.setIfInBounds_toArray, List.set_cons_zero, List.set_cons_succ]
          refine wpAnyH_ready (rs := [14]) (by kernel_rfl) (by simp) ?_
          refine AllReadyH.cons (o := ⟨some 50, _, _, _, _, _⟩) rfl (fun K hK => ?_) AllReadyH.nil
          rw [if_pos (by rfl)]
          refine wp_append_gen (f := Rl.cells) (n := 4) _ _ _ 29 (by rfl) _ 48 Try.underlying49 info_rule rfl (by decide) (by decide) lenR wd.heap.size _ _ [] t.rules (by rfl) hOe (by rfl) (src_of_own lenR hT2.rules) (fun b _ y hy => by simp [Rl.cells] at hy; rcases hy with rfl | rfl | rfl | rfl <;> rfl) (by have := HN.out; simp; omega) hB2.size ?_
          intro v6 w6 hO6 hG6 hM6
          have hB3 := hB2.trans ((Only.of_grown hG6).below hB2.size fun _ _ e => own_ge hOe e)
          obtain ⟨x6, k6, y6, he6⟩ := slice_any hO6
          subst he6
          have hT3 := hTd.on hB3
          have hJ := src_only hJ (Only.of_grown hG6) (fun g e => by simp [Value.ownBlock] at e ⊢; omega)
          refine hK.out _ _ ⟨hT3.book, hT3.ltm, hRd.below hB3 hRd.lt⟩ (fun _ => ?_)
          clear hK K hOe hG6 hM6
          try simp only [Act.put, List.setIfInBounds_toArray, List.set_cons_zero, List.set_cons_succ]
          refine wpAnyH_ready (rs := [17]) (by kernel_rfl) (by simp) ?_
          refine AllReadyH.cons (o := ⟨some 53, _, _, _, _, _⟩) rfl (fun K hK => ?_) AllReadyH.nil
          rw [if_pos (by rfl)]
          refine wp_append_gen (f := Rl.cells) (n := 4) _ _ _ 29 (by rfl) _ 48 Try.underlying49 info_rule rfl (by decide) (by decide) lenR wd.heap.size _ _ ([] ++ t.rules) [⟨who, what, key, deny⟩] (by rfl) hO6 (by rfl) hJ (fun b hb y hy => by simp at hb; subst hb; simp [Rl.cells] at hy; rcases hy with rfl | rfl | rfl | rfl <;> rfl) (by have := HN.out; simp; omega) hB3.size ?_
          intro v7 w7 hO7 hG7 hM7
          have hB7 := hB3.trans ((Only.of_grown hG7).below hB3.size fun _ _ e => own_ge hO6 e)
          obtain ⟨x7, k7, y7, he7⟩ := slice_any hO7
          subst he7
          have hT7 := hTd.on hB7
          have f1 := hT7.c2
          have f0 := HFZ.out w7 (hBd.trans (hB7.mono hBd.size))
          refine hK.out _ _ ⟨hT7.book, hT7.ltm, hRd.below hB7 hRd.lt⟩ (fun _ => ?_)
          clear hK K
          try simp only [Act.put, List.setIfInBounds_toArray, List.set_cons_zero, List.set_cons_succ]
          refine wpAnyH_take (i := 18) (oi := ⟨some 54, _, _, _, _, _⟩) (v := ?_) rfl (by kernel_rfl) (by kernel_rfl) (by kernel_rfl) (fun _ _ _ h => h) (Or.inl ⟨by rfl, ?_⟩) (by assumption) ?_
          rotate_left
          · intro w hSw
            (try dsimp only at hSw)
            go_simp
            all_goals (with_reducible rfl)
          try simp only [Act.put, List.setIfInBounds_toArray, List.set_cons_zero, List.set_cons_succ]
          refine wpAnyH_take (i := 19) (oi := ⟨some 55, _, _, _, _, _⟩) (v := ?_) rfl (by kernel_rfl) (by kernel_rfl) (by kernel_rfl) (fun _ _ _ h => h) (Or.inl ⟨by rfl, ?_⟩) (by assumption) ?_
          rotate_left
          · intro w hSw
            (try dsimp only at hSw)
            go_simp
            all_goals (with_reducible rfl)
          try simp only [Act.put, List.setIfInBounds_toArray, List.set_cons_zero, List.set_cons_succ]
          refine wpAnyH_ready (rs := [20]) (by kernel_rfl) (by simp) ?_
          refine AllReadyH.cons (o := ⟨none, _, _, _, _, _⟩) rfl (fun K hK => ?_) AllReadyH.nil
          go_simp
          refine hK.out _ _ ⟨(World.cell?_setCell_other _ _ _ _ (fun e => HMG.out (by injection e with e _ _; exact e.symm))).trans hT7.book, by simpa using hT7.ltm, (hRd.below hB7 hRd.lt).only (Only.set w7 ⟨g, i * 3 + 2, none⟩ _) (fun e => HRG.out e)⟩ (fun _ => ?_)
          clear hK K
          try simp only [Act.put]
          refine wpAnyH_done (by kernel_rfl) ?_ _
          refine NoPanic.normal ?_
          go_wp2
          go_ret
          exact Or.inr (Or.inr ⟨rfl, hno, Nat.lt_of_not_le hfull, wd, w7, _, hBd, hB7, hO7, rfl⟩)
        refine AllReadyH.cons (o := ⟨some 52, _, _, _, _, _⟩) rfl (fun K hK => ?_) AllReadyH.nil
        have hA : Below wd.heap.size wd (wd.alloc (.cells #[.string who, .int .i64 what, .string key, .bool deny] 29)) := (Below.refl _ _).alloc (Nat.le_refl _) _
        have hT1 := hTd.on hA
        have hB1 := hB0.trans (hA.mono hB0.size)
        have hJ : SrcG Rl.cells 4 (wd.alloc (.cells #[.string who, .int .i64 what, .string key, .bool deny] 29)) (.slice (some ⟨wd.heap.size, 0, none⟩) 1 1) [⟨who, what, key, deny⟩] := src_eq (by simp) (src_new (f := Rl.cells) (n := 4) wd 29 ⟨who, what, key, deny⟩)
        go_simp
        refine hK.out _ _ ⟨hT1.book, hT1.ltm, hRd.below hB1 hRd.lt⟩ (fun _ => ?_)
        clear hK K hA
        try simp only [Act.put, List.setIfInBounds_toArray, List.set_cons_zero, List.set_cons_succ]
        refine wpAnyH_ready (rs := [5]) (by kernel_rfl) (by simp) ?_
        refine AllReadyH.cons (o := ⟨some 41, _, _, _, _, _⟩) rfl (fun K hK => ?_) AllReadyH.nil
        have hA : Below (wd.alloc (.cells #[.string who, .int .i64 what, .string key, .bool deny] 29)).heap.size (wd.alloc (.cells #[.string who, .int .i64 what, .string key, .bool deny] 29)) ((wd.alloc (.cells #[.string who, .int .i64 what, .string key, .bool deny] 29)).alloc (.cells #[] 29)) := (Below.refl _ _).alloc (Nat.le_refl _) _
        have hT2 := hT1.on hA
        have hB2 := hB1.trans (hA.mono hB1.size)
        have hJ := hJ.low hA
        have hOe : ((wd.alloc (.cells #[.string who, .int .i64 what, .string key, .bool deny] 29)).alloc (.cells #[] 29)).ownsRow wd.heap.size 29 4 (.slice (some ⟨wd.heap.size + 1, 0, none⟩) 0 0) ([] : List _).length (([] : List _).flatMap Rl.cells) := own_down hB1.size (at_eq (by simp) (own_empty (f := Rl.cells) (n := 4) (wd.alloc (.cells #[.string who, .int .i64 what, .string key, .bool deny] 29)) 29))
        go_simp
        refine hK.out _ _ ⟨hT2.book, hT2.ltm, hRd.below hB2 hRd.lt⟩ (fun _ => ?_)
        clear hK K hA
        try simp only [Act.put, List.setIfInBounds_toArray, List.set_cons_zero, List.set_cons_succ]
        refine wpAnyH_ready (rs := [14]) (by kernel_rfl) (by simp) ?_
        refine AllReadyH.cons (o := ⟨some 50, _, _, _, _, _⟩) rfl (fun K hK => ?_) AllReadyH.nil
        rw [if_pos (by rfl)]
        refine wp_append_gen (f := Rl.cells) (n := 4) _ _ _ 29 (by rfl) _ 48 Try.underlying49 info_rule rfl (by decide) (by decide) lenR wd.heap.size _ _ [] t.rules (by rfl) hOe (by rfl) (src_of_own lenR hT2.rules) (fun b _ y hy => by simp [Rl.cells] at hy; rcases hy with rfl | rfl | rfl | rfl <;> rfl) (by have := HN.out; simp; omega) hB2.size ?_
        intro v6 w6 hO6 hG6 hM6
        have hB3 := hB2.trans ((Only.of_grown hG6).below hB2.size fun _ _ e => own_ge hOe e)
        obtain ⟨x6, k6, y6, he6⟩ := slice_any hO6
        subst he6
        have hT3 := hTd.on hB3
        have hJ := src_only hJ (Only.of_grown hG6) (fun g e => by simp [Value.ownBlock] at e ⊢; omega)
        refine hK.out _ _ ⟨hT3.book, hT3.ltm, hRd.below hB3 hRd.lt⟩ (fun _ => ?_)
        clear hK K hOe hG6 hM6
        try simp only [Act.put, List.setIfInBounds_toArray, List.set_cons_zero, List.set_cons_succ]
        refine wpAnyH_ready (rs := [17]) (by kernel_rfl) (by simp) ?_
        refine AllReadyH.cons (o := ⟨some 53, _, _, _, _, _⟩) rfl (fun K hK => ?_) AllReadyH.nil
        rw [if_pos (by rfl)]
        refine wp_append_gen (f := Rl.cells) (n := 4) _ _ _ 29 (by rfl) _ 48 Try.underlying49 info_rule rfl (by decide) (by decide) lenR wd.heap.size _ _ ([] ++ t.rules) [⟨who, what, key, deny⟩] (by rfl) hO6 (by rfl) hJ (fun b hb y hy => by simp at hb; subst hb; simp [Rl.cells] at hy; rcases hy with rfl | rfl | rfl | rfl <;> rfl) (by have := HN.out; simp; omega) hB3.size ?_
        intro v7 w7 hO7 hG7 hM7
        have hB7 := hB3.trans ((Only.of_grown hG7).below hB3.size fun _ _ e => own_ge hO6 e)
        obtain ⟨x7, k7, y7, he7⟩ := slice_any hO7
        subst he7
        have hT7 := hTd.on hB7
        have f1 := hT7.c2
        have f0 := HFZ.out w7 (hBd.trans (hB7.mono hBd.size))
        refine hK.out _ _ ⟨hT7.book, hT7.ltm, hRd.below hB7 hRd.lt⟩ (fun _ => ?_)
        clear hK K
        try simp only [Act.put, List.setIfInBounds_toArray, List.set_cons_zero, List.set_cons_succ]
        refine wpAnyH_take (i := 18) (oi := ⟨some 54, _, _, _, _, _⟩) (v := ?_) rfl (by kernel_rfl) (by kernel_rfl) (by kernel_rfl) (fun _ _ _ h => h) (Or.inl ⟨by rfl, ?_⟩) (by assumption) ?_
        rotate_left
        · intro w hSw
          (try dsimp only at hSw)
          go_simp
          all_goals (with_reducible rfl)
        try simp only [Act.put, List.setIfInBounds_toArray, List.set_cons_zero, List.set_cons_succ]
        refine wpAnyH_take (i := 19) (oi := ⟨some 55, _, _, _, _, _⟩) (v := ?_) rfl (by kernel_rfl) (by kernel_rfl) (by kernel_rfl) (fun _ _ _ h => h) (Or.inl ⟨by rfl, ?_⟩) (by assumption) ?_
        rotate_left
        · intro w hSw
          (try dsimp only at hSw)
          go_simp
          all_goals (with_reducible rfl)
        try simp only [Act.put, List.setIfInBounds_toArray, List.set_cons_zero, List.set_cons_succ]
        refine wpAnyH_ready (rs := [20]) (by kernel_rfl) (by simp) ?_
        refine AllReadyH.cons (o := ⟨none, _, _, _, _, _⟩) rfl (fun K hK => ?_) AllReadyH.nil
        go_simp
        refine hK.out _ _ ⟨(World.cell?_setCell_other _ _ _ _ (fun e => HMG.out (by injection e with e _ _; exact e.symm))).trans hT7.book, by simpa using hT7.ltm, (hRd.below hB7 hRd.lt).only (Only.set w7 ⟨g, i * 3 + 2, none⟩ _) (fun e => HRG.out e)⟩ (fun _ => ?_)
        clear hK K
        try simp only [Act.put]
        refine wpAnyH_done (by kernel_rfl) ?_ _
        refine NoPanic.normal ?_
        go_wp2
        go_ret
        exact Or.inr (Or.inr ⟨rfl, hno, Nat.lt_of_not_le hfull, wd, w7, _, hBd, hB7, hO7, rfl⟩)
      refine AllReadyH.cons (o := ⟨some 52, _, _, _, _, _⟩) rfl (fun K hK => ?_) AllReadyH.nil
      have hA : Below wd.heap.size wd (wd.alloc (.cells #[.string who, .int .i64 what, .string key, .bool deny] 29)) := (Below.refl _ _).alloc (Nat.le_refl _) _
      have hT1 := hTd.on hA
      have hB1 := hB0.trans (hA.mono hB0.size)
      have hJ : SrcG Rl.cells 4 (wd.alloc (.cells #[.string who, .int .i64 what, .string key, .bool deny] 29)) (.slice (some ⟨wd.heap.size, 0, none⟩) 1 1) [⟨who, what, key, deny⟩] := src_eq (by simp) (src_new (f := Rl.cells) (n := 4) wd 29 ⟨who, what, key, deny⟩)
      go_simp
      refine hK.out _ _ ⟨hT1.book, hT1.ltm, hRd.below hB1 hRd.lt⟩ (fun _ => ?_)
      clear hK K hA
      try simp only [Act.put, List.setIfInBounds_toArray, List.set_cons_zero, List.set_cons_succ]
      refine wpAnyH_ready (rs := [5, 13]) (by kernel_rfl) (by simp) ?_
      refine AllReadyH.cons (o := ⟨some 41, _, _, _, _, _⟩) rfl (fun K hK => ?_) ?_
      · have hA : Below (wd.alloc (.cells #[.string who, .int .i64 what, .string key, .bool deny] 29)).heap.size (wd.alloc (.cells #[.string who, .int .i64 what, .string key, .bool deny] 29)) ((wd.alloc (.cells #[.string who, .int .i64 what, .string key, .bool deny] 29)).alloc (.cells #[] 29)) := (Below.refl _ _).alloc (Nat.le_refl _) _
        have hT2 := hT1.on hA
        have hB2 := hB1.trans (hA.mono hB1.size)
        have hJ := hJ.low hA
        have hOe : ((wd.alloc (.cells #[.string who, .int .i64 what, .string key, .bool deny] 29)).alloc (.cells #[] 29)).ownsRow wd.heap.size 29 4 (.slice (some ⟨wd.heap.size + 1, 0, none⟩) 0 0) ([] : List _).length (([] : List _).flatMap Rl.cells) := own_down hB1.size (at_eq (by simp) (own_empty (f := Rl.cells) (n := 4) (wd.alloc (.cells #[.string who, .int .i64 what, .string key, .bool deny] 29)) 29))
        go_simp
        refine hK.out _ _ ⟨hT2.book, hT2.ltm, hRd.below hB2 hRd.lt⟩ (fun _ => ?_)
        clear hK K hA
        try simp only [Act.put, List.setIfInBounds_toArray, List.set_cons_zero, List.set_cons_succ]
        refine wpAnyH_ready (rs := [13]) (by kernel_rfl) (by simp) ?_
        refine AllReadyH.cons (o := ⟨some 49, _, _, _, _, _⟩) rfl (fun K hK => ?_) AllReadyH.nil
        have y1 := hT2.c2
        go_simp
        refine hK.out _ _ ⟨hT2.book, hT2.ltm, hRd.below hB2 hRd.lt⟩ (fun _ => ?_)
        clear hK K y1
        try simp only [Act.put, List.setIfInBounds_toArray, List.set_cons_zero, List.set_cons_succ]
        refine wpAnyH_ready (rs := [14]) (by kernel_rfl) (by simp) ?_
        refine AllReadyH.cons (o := ⟨some 50, _, _, _, _, _⟩) rfl (fun K hK => ?_) AllReadyH.nil
        rw [if_pos (by rfl)]
        refine wp_append_gen (f := Rl.cells) (n := 4) _ _ _ 29 (by rfl) _ 48 Try.underlying49 info_rule rfl (by decide) (by decide) lenR wd.heap.size _ _ [] t.rules (by rfl) hOe (by rfl) (src_of_own lenR hT2.rules) (fun b _ y hy => by simp [Rl.cells] at hy; rcases hy with rfl | rfl | rfl | rfl <;> rfl) (by have := HN.out; simp; omega) hB2.size ?_
        intro v6 w6 hO6 hG6 hM6
        have hB3 := hB2.trans ((Only.of_grown hG6).below hB2.size fun _ _ e => own_ge hOe e)
        obtain ⟨x6, k6, y6, he6⟩ := slice_any hO6
        subst he6
        have hT3 := hTd.on hB3
        have hJ := src_only hJ (Only.of_grown hG6) (fun g e => by simp [Value.ownBlock] at e ⊢; omega)
        refine hK.out _ _ ⟨hT3.book, hT3.ltm, hRd.below hB3 hRd.lt⟩ (fun _ => ?_)
        clear hK K hOe hG6 hM6
        try simp only [Act.put, List.setIfInBounds_toArray, List.set_cons_zero, List.set_cons_succ]
        refine wpAnyH_ready (rs := [17]) (by kernel_rfl) (by simp) ?_
        refine AllReadyH.cons (o := ⟨some 53, _, _, _, _, _⟩) rfl (fun K hK => ?_) AllReadyH.nil
        rw [if_pos (by rfl)]
        refine wp_append_gen (f := Rl.cells) (n := 4) _ _ _ 29 (by rfl) _ 48 Try.underlying49 info_rule rfl (by decide) (by decide) lenR wd.heap.size _ _ ([] ++ t.rules) [⟨who, what, key, deny⟩] (by rfl) hO6 (by rfl) hJ (fun b hb y hy => by simp at hb; subst hb; simp [Rl.cells] at hy; rcases hy with rfl | rfl | rfl | rfl <;> rfl) (by have := HN.out; simp; omega) hB3.size ?_
        intro v7 w7 hO7 hG7 hM7
        have hB7 := hB3.trans ((Only.of_grown hG7).below hB3.size fun _ _ e => own_ge hO6 e)
        obtain ⟨x7, k7, y7, he7⟩ := slice_any hO7
        subst he7
        have hT7 := hTd.on hB7
        have f1 := hT7.c2
        have f0 := HFZ.out w7 (hBd.trans (hB7.mono hBd.size))
        refine hK.out _ _ ⟨hT7.book, hT7.ltm, hRd.below hB7 hRd.lt⟩ (fun _ => ?_)
        clear hK K
        try simp only [Act.put, List.setIfInBounds_toArray, List.set_cons_zero, List.set_cons_succ]
        refine wpAnyH_take (i := 18) (oi := ⟨some 54, _, _, _, _, _⟩) (v := ?_) rfl (by kernel_rfl) (by kernel_rfl) (by kernel_rfl) (fun _ _ _ h => h) (Or.inl ⟨by rfl, ?_⟩) (by assumption) ?_
        rotate_left
        · intro w hSw
          (try dsimp only at hSw)
          go_simp
          all_goals (with_reducible rfl)
        try simp only [Act.put, List.setIfInBounds_toArray, List.set_cons_zero, List.set_cons_succ]
        refine wpAnyH_take (i := 19) (oi := ⟨some 55, _, _, _, _, _⟩) (v := ?_) rfl (by kernel_rfl) (by kernel_rfl) (by kernel_rfl) (fun _ _ _ h => h) (Or.inl ⟨by rfl, ?_⟩) (by assumption) ?_
        rotate_left
        · intro w hSw
          (try dsimp only at hSw)
          go_simp
          all_goals (with_reducible rfl)
        try simp only [Act.put, List.setIfInBounds_toArray, List.set_cons_zero, List.set_cons_succ]
        refine wpAnyH_ready (rs := [20]) (by kernel_rfl) (by simp) ?_
        refine AllReadyH.cons (o := ⟨none, _, _, _, _, _⟩) rfl (fun K hK => ?_) AllReadyH.nil
        go_simp
        refine hK.out _ _ ⟨(World.cell?_setCell_other _ _ _ _ (fun e => HMG.out (by injection e with e _ _; exact e.symm))).trans hT7.book, by simpa using hT7.ltm, (hRd.below hB7 hRd.lt).only (Only.set w7 ⟨g, i * 3 + 2, none⟩ _) (fun e => HRG.out e)⟩ (fun _ => ?_)
        clear hK K
        try simp only [Act.put]
        refine wpAnyH_done (by kernel_rfl) ?_ _
        refine NoPanic.normal ?_
        go_wp2
        go_ret
        exact Or.inr (Or.inr ⟨rfl, hno, Nat.lt_of_not_le hfull, wd, w7, _, hBd, hB7, hO7, rfl⟩)
      refine AllReadyH.cons (o := ⟨some 49, _, _, _, _, _⟩) rfl (fun K hK => ?_) AllReadyH.nil
      have y1 := hT1.c2
      go_simp
      refine hK.out _ _ ⟨hT1.book, hT1.ltm, hRd.below hB1 hRd.lt⟩ (fun _ => ?_)
      clear hK K y1
      try simp only [Act.put, List.setIfInBounds_toArray, List.set_cons_zero, List.set_cons_succ]
      refine wpAnyH_ready (rs := [5]) (by kernel_rfl) (by simp) ?_
      refine AllReadyH.cons (o := ⟨some 41, _, _, _, _, _⟩) rfl (fun K hK => ?_) AllReadyH.nil
      have hA : Below (wd.alloc (.cells #[.string who, .int .i64 what, .string key, .bool deny] 29)).heap.size (wd.alloc (.cells #[.string who, .int .i64 what, .string key, .bool deny] 29)) ((wd.alloc (.cells #[.string who, .int .i64 what, .string key, .bool deny] 29)).alloc (.cells #[] 29)) := (Below.refl _ _).alloc (Nat.le_refl _) _
      have hT2 := hT1.on hA
      have hB2 := hB1.trans (hA.mono hB1.size)
      have hJ := hJ.low hA
      have hOe : ((wd.alloc (.cells #[.string who, .int .i64 what, .string key, .bool deny] 29)).alloc (.cells #[] 29)).ownsRow wd.heap.size 29 4 (.slice (some ⟨wd.heap.size + 1, 0, none⟩) 0 0) ([] : List _).length (([] : List _).flatMap Rl.cells) := own_down hB1.size (at_eq (by simp) (own_empty (f := Rl.cells) (n := 4) (wd.alloc (.cells #[.string who, .int .i64 what, .string key, .bool deny] 29)) 29))
      go_simp
      refine hK.out _ _ ⟨hT2.book, hT2.ltm, hRd.below hB2 hRd.lt⟩ (fun _ => ?_)
      clear hK K hA
      try simp only [Act.put, List.setIfInBounds_toArray, List.set_cons_zero, List.set_cons_succ]
      refine wpAnyH_ready (rs := [14]) (by kernel_rfl) (by simp) ?_
      refine AllReadyH.cons (o := ⟨some 50, _, _, _, _, _⟩) rfl (fun K hK => ?_) AllReadyH.nil
      rw [if_pos (by rfl)]
      refine wp_append_gen (f := Rl.cells) (n := 4) _ _ _ 29 (by rfl) _ 48 Try.underlying49 info_rule rfl (by decide) (by decide) lenR wd.heap.size _ _ [] t.rules (by rfl) hOe (by rfl) (src_of_own lenR hT2.rules) (fun b _ y hy => by simp [Rl.cells] at hy; rcases hy with rfl | rfl | rfl | rfl <;> rfl) (by have := HN.out; simp; omega) hB2.size ?_
      intro v6 w6 hO6 hG6 hM6
      have hB3 := hB2.trans ((Only.of_grown hG6).below hB2.size fun _ _ e => own_ge hOe e)
      obtain ⟨x6, k6, y6, he6⟩ := slice_any hO6
      subst he6
      have hT3 := hTd.on hB3
      have hJ := src_only hJ (Only.of_grown hG6) (fun g e => by simp [Value.ownBlock] at e ⊢; omega)
      refine hK.out _ _ ⟨hT3.book, hT3.ltm, hRd.below hB3 hRd.lt⟩ (fun _ => ?_)
      clear hK K hOe hG6 hM6
      try simp only [Act.put, List.setIfInBounds_toArray, List.set_cons_zero, List.set_cons_succ]
      refine wpAnyH_ready (rs := [17]) (by kernel_rfl) (by simp) ?_
      refine AllReadyH.cons (o := ⟨some 53, _, _, _, _, _⟩) rfl (fun K hK => ?_) AllReadyH.nil
      rw [if_pos (by rfl)]
      refine wp_append_gen (f := Rl.cells) (n := 4) _ _ _ 29 (by rfl) _ 48 Try.underlying49 info_rule rfl (by decide) (by decide) lenR wd.heap.size _ _ ([] ++ t.rules) [⟨who, what, key, deny⟩] (by rfl) hO6 (by rfl) hJ (fun b hb y hy => by simp at hb; subst hb; simp [Rl.cells] at hy; rcases hy with rfl | rfl | rfl | rfl <;> rfl) (by have := HN.out; simp; omega) hB3.size ?_
      intro v7 w7 hO7 hG7 hM7
      have hB7 := hB3.trans ((Only.of_grown hG7).below hB3.size fun _ _ e => own_ge hO6 e)
      obtain ⟨x7, k7, y7, he7⟩ := slice_any hO7
      subst he7
      have hT7 := hTd.on hB7
      have f1 := hT7.c2
      have f0 := HFZ.out w7 (hBd.trans (hB7.mono hBd.size))
      refine hK.out _ _ ⟨hT7.book, hT7.ltm, hRd.below hB7 hRd.lt⟩ (fun _ => ?_)
      clear hK K
      try simp only [Act.put, List.setIfInBounds_toArray, List.set_cons_zero, List.set_cons_succ]
      refine wpAnyH_take (i := 18) (oi := ⟨some 54, _, _, _, _, _⟩) (v := ?_) rfl (by kernel_rfl) (by kernel_rfl) (by kernel_rfl) (fun _ _ _ h => h) (Or.inl ⟨by rfl, ?_⟩) (by assumption) ?_
      rotate_left
      · intro w hSw
        (try dsimp only at hSw)
        go_simp
        all_goals (with_reducible rfl)
      try simp only [Act.put, List.setIfInBounds_toArray, List.set_cons_zero, List.set_cons_succ]
      refine wpAnyH_take (i := 19) (oi := ⟨some 55, _, _, _, _, _⟩) (v := ?_) rfl (by kernel_rfl) (by kernel_rfl) (by kernel_rfl) (fun _ _ _ h => h) (Or.inl ⟨by rfl, ?_⟩) (by assumption) ?_
      rotate_left
      · intro w hSw
        (try dsimp only at hSw)
        go_simp
        all_goals (with_reducible rfl)
      try simp only [Act.put, List.setIfInBounds_toArray, List.set_cons_zero, List.set_cons_succ]
      refine wpAnyH_ready (rs := [20]) (by kernel_rfl) (by simp) ?_
      refine AllReadyH.cons (o := ⟨none, _, _, _, _, _⟩) rfl (fun K hK => ?_) AllReadyH.nil
      go_simp
      refine hK.out _ _ ⟨(World.cell?_setCell_other _ _ _ _ (fun e => HMG.out (by injection e with e _ _; exact e.symm))).trans hT7.book, by simpa using hT7.ltm, (hRd.below hB7 hRd.lt).only (Only.set w7 ⟨g, i * 3 + 2, none⟩ _) (fun e => HRG.out e)⟩ (fun _ => ?_)
      clear hK K
      try simp only [Act.put]
      refine wpAnyH_done (by kernel_rfl) ?_ _
      refine NoPanic.normal ?_
      go_wp2
      go_ret
      exact Or.inr (Or.inr ⟨rfl, hno, Nat.lt_of_not_le hfull, wd, w7, _, hBd, hB7, hO7, rfl⟩)
  · have k1f : (0 : Int) ≤ (k1 : Int) := by omega
    refine wpAnyH_take (i := 9) (oi := ⟨some 25, _, _, _, _, _⟩) (v := .bool true) rfl (by kernel_rfl) (by kernel_rfl) (by kernel_rfl) (fun _ _ _ h => h) (Or.inl ⟨by rfl, ?_⟩) (by assumption) ?_
    · intro w hSw
      (try dsimp only at hSw)
      go_simp
      all_goals (with_reducible rfl)
    try simp only [Act.put, List.setIfInBounds_toArray, List.set_cons_zero, List.set_cons_succ]
    refine wpAnyH_done (by kernel_rfl) ?_ _
    refine NoPanic.normal ?_
    go_wp2
    go_ret
    exact Or.inl ⟨rfl, hasR_iff.2 (eqR_iff.1 he1 ▸ List.mem_of_getElem? hx1), by first | exact hB2 | (rw [← hRB]; exact hB2)⟩

end Go.Proofs.Ytglcingpolpkdaa
