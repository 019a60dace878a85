/- The reference's Leave: the member is there. -/
import Derived.Test.YtglcingpolpkdaaABookFX2
import Derived.Test.YtglcingpolpkdaaRTurnX2
namespace Go.Proofs.Ytglcingpolpkdaa
open Go.RowKit

theorem part_takemems {w : World} {B k N c mg : Nat} {l : List (ByteArray × ByteArray)} (h : OwnN w B (.slice (some ⟨mg, 0, none⟩) N c) l) (hk : k < N) : SrcO memCells 2 w (.slice (some ⟨mg, 0, none⟩) k c) (l.take k) := by
  have hrow := own_rowG (n := 2) lenM (show w.ownsRow B 144 2 (.slice (some ⟨mg, 0, none⟩) N c) l.length (l.flatMap memCells) from h)
  obtain ⟨cap, cur, hv, _, hW, _⟩ := own_full h rfl
  have hn : N = l.length := by injection hv
  refine ⟨mg, 0, c, by rw [List.length_take]; congr 1; omega, hW.lt, fun i a ha => ?_⟩
  rw [Nat.zero_add]
  exact (hrow i a (by rw [List.getElem?_take] at ha; split at ha; exact ha; cases ha)).1
theorem part_dropmems {w : World} {B k N c mg o2 : Nat} {l : List (ByteArray × ByteArray)} (h : OwnN w B (.slice (some ⟨mg, 0, none⟩) N c) l) (_ : k < N) (hN : l.length = N) (ho : o2 = if c = k + 1 then 0 else (k + 1) * 2) : SrcO memCells 2 w (.slice (some ⟨mg, o2, none⟩) (N - (k + 1)) (c - (k + 1))) (l.drop (k + 1)) := by
  have hrow := own_rowG (n := 2) lenM (show w.ownsRow B 144 2 (.slice (some ⟨mg, 0, none⟩) N c) l.length (l.flatMap memCells) from h)
  obtain ⟨cap, cur, hv, _, hW, hle, _⟩ := own_full h rfl
  refine ⟨mg, o2, c - (k + 1), by rw [List.length_drop, hN], hW.lt, fun i a ha => ?_⟩
  rw [List.getElem?_drop] at ha
  have := (hrow (k + 1 + i) a ha).1
  have hne : c ≠ k + 1 := by
    have h1 := (List.getElem?_eq_some_iff.1 ha).1
    injection hv with _ h2 h3
    omega
  rw [if_neg hne] at ho
  rwa [Nat.add_mul, ← ho] at this

/-- What Leave leaves: new memory, and one cell written. -/
def LeftM (w w' : World) (g i : Nat) (ms : List (ByteArray × ByteArray)) (role who : ByteArray) : Prop :=
  ∃ wd w7 v7 k, Below w.heap.size w wd ∧ Below wd.heap.size wd w7 ∧ OwnN w7 wd.heap.size v7 ([] ++ ms.take k ++ ms.drop (k + 1)) ∧ (∃ x, ms[k]? = some x ∧ eqM x (role, who) = true) ∧ (∀ j x, j < k → ms[j]? = some x → eqM x (role, who) = false) ∧ w' = w7.setCell ⟨g, i * 3 + 1, none⟩ v7

set_option maxRecDepth 100000 in
set_option maxHeartbeats 4000000 in
theorem refleave_new (W w : World) (m g i NT c mg N cm : Nat) (rv : Value) (ts : List Tn) (t : Tn) (n role who : ByteArray) (h : RefIs W w m ts) (hlen : ts.length ≤ 1000) (hg : getT ts n = some (i, t)) (hT : TenR W.heap.size w m g i NT c (.slice (some ⟨mg, 0, none⟩) N cm) rv t) (hN : t.ms.length = N) (hml : N ≤ 1000) (hr : nameB role = true) (hw : nameB who = true) (hin : hasM t.ms (role, who) = true)
    (hmg : m ≠ g) (hFZ : ∀ w7, Below w.heap.size w w7 → w7.frozen? ⟨g, i * 3 + 1, none⟩ = false) :
    Calls Try.prog 60 #[.pointer (some ⟨m, 0, none⟩), .string n, .string role, .string who] w fun e w' => e = .returned (.int .i64 0) ∧ LeftM w w' g i t.ms role who := by
  have HAT := Lib.hid (refat_calls W w m ts n h hlen)
  unfold atT at HAT
  rw [hg] at HAT
  have HNR := Lib.hid (hr ▸ refname_calls w role)
  have HNW := Lib.hid (hw ▸ refname_calls w who)
  have HT := Lib.hid hT
  have HN := Lib.hid hN
  have HIN := Lib.hid (hasM_iff.1 hin)
  have HFZ := Lib.hid hFZ
  have HMG := Lib.hid hmg
  have hcm : N ≤ cm := by
    obtain ⟨cap, cur, hv, _, _, hle, _⟩ := own_full hT.mems rfl
    injection hv with _ h1 h2
    omega
  have q0 := hT.book
  have q1 := hT.c0
  have q2 := hT.c1
  have q3 := hT.c2
  have i0 : ¬ (i : Int) < 0 := by omega
  have i3 : 0 ≤ (i : Int) ∧ (i : Int) < (NT : Int) := by have := hT.lti; omega
  have HM := Lib.hid (fun w' (hB : Below w.heap.size w w') => refmember_calls w' W.heap.size t.name _ rv t.ms (role, who) (row_low hT.mems hB) (by rw [hN]; exact hml))
  clear h hg hT hN hr hw hin hFZ hmg
  go_enter Try.func60, Try.ntmps60
  go_upto_region 7 with (first
    | (go_at_call 94; refine (HM.out w1 hB1).mono ?_; rintro e w2 ⟨ix, rfl, hix, hB2⟩; obtain ⟨k, rfl, hk0⟩ : ∃ k : Nat, ix = k ∧ k < t.ms.length ∧ (∃ x, t.ms[k]? = some x ∧ eqM x (role, who) = true) ∧ ∀ j x, j < k → t.ms[j]? = some x → eqM x (role, who) = false := hix.elim (fun h => absurd (eqM_iff.2 rfl) (by rw [h.2 _ HIN.out]; simp)) id)
    | (go_at_call 94; refine (HM.out w (Below.refl _ _)).mono ?_; rintro e w1 ⟨ix, rfl, hix, hB1⟩; obtain ⟨k1, rfl, _⟩ : ∃ k : Nat, ix = k ∧ k < t.ms.length ∧ (∃ x, t.ms[k]? = some x ∧ eqM x (role, who) = true) ∧ ∀ j x, j < k → t.ms[j]? = some x → eqM x (role, who) = false := hix.elim (fun h => absurd (eqM_iff.2 rfl) (by rw [h.2 _ HIN.out]; simp)) id; have k1f : ¬ (k1 : Int) < 0 := (by omega); have hT1 := HT.out.on hB1; have q0 := hT1.book; have q1 := hT1.c0; have q2 := hT1.c1; have q3 := hT1.c2)
    | (go_at_call 93; refine HAT.out.mono ?_; rintro e w' ⟨rfl, hw⟩; rw [hw]; clear hw)
    | (go_at_call 92; refine HNW2.out.mono ?_; rintro e w' ⟨rfl, hw⟩; rw [hw]; clear hw)
    | (go_at_call 92; refine HNR.out.mono ?_; rintro e w' ⟨rfl, hw⟩; rw [hw]; clear hw; have HNW2 := HNW)
    | fail)
  obtain ⟨hkl, hkx, hkn⟩ := hk0
  have hkN : k < N := by rw [← HN.out]; exact hkl
  have hTc := HT.out.on (hB1.trans (hB2.mono hB1.size))
  have j1 : 0 ≤ (k : Int) ∧ (k : Int) ≤ (N : Int) := by omega
  have j2 : 0 ≤ (k : Int) ∧ (k : Int) ≤ (cm : Int) := by omega
  have j3 : 0 ≤ (k : Int) + 1 ∧ (k : Int) + 1 ≤ (N : Int) := by omega
  have j4 : ((k : Int) + 1).toNat = k + 1 := by omega
  have b2 : IntKind.i64.wrap ((k : Int) + 1) = (k : Int) + 1 := IntWalk.i64_in _ (by omega)
  clear q0 q1 q2 q3
  obtain ⟨o2, ho2⟩ : ∃ o2, o2 = if cm = k + 1 then 0 else (k + 1) * 2 := ⟨_, rfl⟩
  have HO2 := Lib.hid ho2
  clear ho2
  refine wp_region_noPanic ?_
  refine wp_region_held_drew (S := fun w' => (w'.cell? ⟨m, 0, none⟩ = some (.slice (some ⟨g, 0, none⟩) NT c) ∧ m < w'.heap.size)) (by kernel_rfl) ⟨(hTc.on ((Below.refl _ _).drew)).book, hTc.ltm⟩ (fun hhS => ?_)
  have hTd := hTc.on ((Below.refl w2.heap.size w2).drew)
  have hBd := (hB1.trans (hB2.mono hB1.size)).drew
  clear hhS
  generalize w2.drew = wd at hTd hBd ⊢
  have hA1 : Below wd.heap.size wd (wd.alloc (.cells #[] 144)) := (Below.refl _ _).alloc (Nat.le_refl _) _
  have hT5 := hTd.on hA1
  have hhS := And.intro hTd.book hTd.ltm
  refine wpAnyH_take (i := 0) (oi := ⟨some 49, _, _, _, _, _⟩) (v := ?_) rfl (by kernel_rfl) (by kernel_rfl) (by kernel_rfl) (fun _ _ _ h => h) (Or.inl ⟨by rfl, ?_⟩) (by assumption) ?_
  rotate_left
  · intro w hSw
    (try dsimp only at hSw)
    go_simp
    all_goals (with_reducible rfl)
  try simp only [Act.put, List.setIfInBounds_toArray, List.set_cons_zero, List.set_cons_succ]
  refine wpAnyH_take (i := 1) (oi := ⟨some 50, _, _, _, _, _⟩) (v := ?_) rfl (by kernel_rfl) (by kernel_rfl) (by kernel_rfl) (fun _ _ _ h => h) (Or.inl ⟨by rfl, ?_⟩) (by assumption) ?_
  rotate_left
  · intro w hSw
    (try dsimp only at hSw)
    go_simp
    all_goals (with_reducible rfl)
  try simp only [Act.put, List.setIfInBounds_toArray, List.set_cons_zero, List.set_cons_succ]
  refine wpAnyH_take (i := 2) (oi := ⟨some 51, _, _, _, _, _⟩) (v := ?_) rfl (by kernel_rfl) (by kernel_rfl) (by kernel_rfl) (fun _ _ _ h => h) (Or.inl ⟨by rfl, ?_⟩) (by assumption) ?_
  rotate_left
  · intro w hSw
    (try dsimp only at hSw)
    go_simp
    all_goals (with_reducible rfl)
  try simp only [Act.put, List.setIfInBounds_toArray, List.set_cons_zero, List.set_cons_succ]
  refine wpAnyH_take (i := 3) (oi := ⟨some 52, _, _, _, _, _⟩) (v := ?_) rfl (by kernel_rfl) (by kernel_rfl) (by kernel_rfl) (fun _ _ _ h => h) (Or.inl ⟨by rfl, ?_⟩) (by assumption) ?_
  rotate_left
  · intro w hSw
    (try dsimp only at hSw)
    have y0 := hSw.1
    go_simp
    all_goals (with_reducible rfl)
  try simp only [Act.put, List.setIfInBounds_toArray, List.set_cons_zero, List.set_cons_succ]
  refine wpAnyH_take (i := 4) (oi := ⟨some 53, _, _, _, _, _⟩) (v := ?_) rfl (by kernel_rfl) (by kernel_rfl) (by kernel_rfl) (fun _ _ _ h => h) (Or.inl ⟨by rfl, ?_⟩) (by assumption) ?_
  rotate_left
  · intro w hSw
    (try dsimp only at hSw)
    go_simp
    all_goals (with_reducible rfl)
  try simp only [Act.put, List.setIfInBounds_toArray, List.set_cons_zero, List.set_cons_succ]
  refine wpAnyH_take (i := 6) (oi := ⟨some 55, _, _, _, _, _⟩) (v := ?_) rfl (by kernel_rfl) (by kernel_rfl) (by kernel_rfl) (fun _ _ _ h => h) (Or.inl ⟨by rfl, ?_⟩) (by assumption) ?_
  rotate_left
  · intro w hSw
    (try dsimp only at hSw)
    go_simp
    all_goals (with_reducible rfl)
  try simp only [Act.put, List.setIfInBounds_toArray, List.set_cons_zero, List.set_cons_succ]
  refine wpAnyH_take (i := 7) (oi := ⟨some 56, _, _, _, _, _⟩) (v := ?_) rfl (by kernel_rfl) (by kernel_rfl) (by kernel_rfl) (fun _ _ _ h => h) (Or.inl ⟨by rfl, ?_⟩) (by assumption) ?_
  rotate_left
  · intro w hSw
    (try dsimp only at hSw)
    go_simp
    all_goals (with_reducible rfl)
  try simp only [Act.put, List.setIfInBounds_toArray, List.set_cons_zero, List.set_cons_succ]
  refine wpAnyH_take (i := 8) (oi := ⟨some 57, _, _, _, _, _⟩) (v := ?_) rfl (by kernel_rfl) (by kernel_rfl) (by kernel_rfl) (fun _ _ _ h => h) (Or.inl ⟨by rfl, ?_⟩) (by assumption) ?_
  rotate_left
  · intro w hSw
    (try dsimp only at hSw)
    go_simp
    all_goals (with_reducible rfl)
  try simp only [Act.put, List.setIfInBounds_toArray, List.set_cons_zero, List.set_cons_succ]
  refine wpAnyH_take (i := 9) (oi := ⟨some 58, _, _, _, _, _⟩) (v := ?_) rfl (by kernel_rfl) (by kernel_rfl) (by kernel_rfl) (fun _ _ _ h => h) (Or.inl ⟨by rfl, ?_⟩) (by assumption) ?_
  rotate_left
  · intro w hSw
    (try dsimp only at hSw)
    have y0 := hSw.1
    go_simp
    all_goals (with_reducible rfl)
  try simp only [Act.put, List.setIfInBounds_toArray, List.set_cons_zero, List.set_cons_succ]
  refine wpAnyH_take (i := 10) (oi := ⟨some 59, _, _, _, _, _⟩) (v := ?_) rfl (by kernel_rfl) (by kernel_rfl) (by kernel_rfl) (fun _ _ _ h => h) (Or.inl ⟨by rfl, ?_⟩) (by assumption) ?_
  rotate_left
  · intro w hSw
    (try dsimp only at hSw)
    go_simp
    all_goals (with_reducible rfl)
  try simp only [Act.put, List.setIfInBounds_toArray, List.set_cons_zero, List.set_cons_succ]
  refine wpAnyH_take (i := 11) (oi := ⟨some 60, _, _, _, _, _⟩) (v := ?_) rfl (by kernel_rfl) (by kernel_rfl) (by kernel_rfl) (fun _ _ _ h => h) (Or.inl ⟨by rfl, ?_⟩) (by assumption) ?_
  rotate_left
  · intro w hSw
    (try dsimp only at hSw)
    go_simp
    all_goals (with_reducible rfl)
  try simp only [Act.put, List.setIfInBounds_toArray, List.set_cons_zero, List.set_cons_succ]
  refine wpAnyH_take (i := 12) (oi := ⟨some 61, _, _, _, _, _⟩) (v := ?_) rfl (by kernel_rfl) (by kernel_rfl) (by kernel_rfl) (fun _ _ _ h => h) (Or.inl ⟨by rfl, ?_⟩) (by assumption) ?_
  rotate_left
  · intro w hSw
    (try dsimp only at hSw)
    go_simp
    all_goals (with_reducible rfl)
  try simp only [Act.put, List.setIfInBounds_toArray, List.set_cons_zero, List.set_cons_succ]
  refine wpAnyH_take (i := 14) (oi := ⟨some 63, _, _, _, _, _⟩) (v := ?_) rfl (by kernel_rfl) (by kernel_rfl) (by kernel_rfl) (fun _ _ _ h => h) (Or.inl ⟨by rfl, ?_⟩) (by assumption) ?_
  rotate_left
  · intro w hSw
    (try dsimp only at hSw)
    go_simp
    all_goals (with_reducible rfl)
  try simp only [Act.put, List.setIfInBounds_toArray, List.set_cons_zero, List.set_cons_succ]
  refine wpAnyH_take (i := 17) (oi := ⟨some 66, _, _, _, _, _⟩) (v := ?_) rfl (by kernel_rfl) (by kernel_rfl) (by kernel_rfl) (fun _ _ _ h => h) (Or.inl ⟨by rfl, ?_⟩) (by assumption) ?_
  rotate_left
  · intro w hSw
    (try dsimp only at hSw)
    go_simp
    all_goals (with_reducible rfl)
  try simp only [Act.put, List.setIfInBounds_toArray, List.set_cons_zero, List.set_cons_succ]
  refine wpAnyH_take (i := 18) (oi := ⟨some 67, _, _, _, _, _⟩) (v := ?_) rfl (by kernel_rfl) (by kernel_rfl) (by kernel_rfl) (fun _ _ _ h => h) (Or.inl ⟨by rfl, ?_⟩) (by assumption) ?_
  rotate_left
  · intro w hSw
    (try dsimp only at hSw)
    go_simp
    all_goals (with_reducible rfl)
  try simp only [Act.put, List.setIfInBounds_toArray, List.set_cons_zero, List.set_cons_succ]
  refine wpAnyH_take (i := 19) (oi := ⟨some 68, _, _, _, _, _⟩) (v := ?_) rfl (by kernel_rfl) (by kernel_rfl) (by kernel_rfl) (fun _ _ _ h => h) (Or.inl ⟨by rfl, ?_⟩) (by assumption) ?_
  rotate_left
  · intro w hSw
    (try dsimp only at hSw)
    go_simp
    all_goals (with_reducible rfl)
  try simp only [Act.put, List.setIfInBounds_toArray, List.set_cons_zero, List.set_cons_succ]
  refine wpAnyH_take (i := 20) (oi := ⟨some 69, _, _, _, _, _⟩) (v := ?_) rfl (by kernel_rfl) (by kernel_rfl) (by kernel_rfl) (fun _ _ _ h => h) (Or.inl ⟨by rfl, ?_⟩) (by assumption) ?_
  rotate_left
  · intro w hSw
    (try dsimp only at hSw)
    have y0 := hSw.1
    go_simp
    all_goals (with_reducible rfl)
  try simp only [Act.put, List.setIfInBounds_toArray, List.set_cons_zero, List.set_cons_succ]
  refine wpAnyH_take (i := 21) (oi := ⟨some 70, _, _, _, _, _⟩) (v := ?_) rfl (by kernel_rfl) (by kernel_rfl) (by kernel_rfl) (fun _ _ _ h => h) (Or.inl ⟨by rfl, ?_⟩) (by assumption) ?_
  rotate_left
  · intro w hSw
    (try dsimp only at hSw)
    go_simp
    all_goals (with_reducible rfl)
  try simp only [Act.put, List.setIfInBounds_toArray, List.set_cons_zero, List.set_cons_succ]
  refine wpAnyH_take (i := 22) (oi := ⟨some 71, _, _, _, _, _⟩) (v := ?_) rfl (by kernel_rfl) (by kernel_rfl) (by kernel_rfl) (fun _ _ _ h => h) (Or.inl ⟨by rfl, ?_⟩) (by assumption) ?_
  rotate_left
  · intro w hSw
    (try dsimp only at hSw)
    go_simp
    all_goals (with_reducible rfl)
  try simp only [Act.put, List.setIfInBounds_toArray, List.set_cons_zero, List.set_cons_succ]
  refine wpAnyH_take (i := 23) (oi := ⟨some 72, _, _, _, _, _⟩) (v := ?_) rfl (by kernel_rfl) (by kernel_rfl) (by kernel_rfl) (fun _ _ _ h => h) (Or.inl ⟨by rfl, ?_⟩) (by assumption) ?_
  rotate_left
  · intro w hSw
    (try dsimp only at hSw)
    go_simp
    all_goals (with_reducible rfl)
  try simp only [Act.put, List.setIfInBounds_toArray, List.set_cons_zero, List.set_cons_succ]
  refine wpAnyH_take (i := 25) (oi := ⟨some 74, _, _, _, _, _⟩) (v := ?_) rfl (by kernel_rfl) (by kernel_rfl) (by kernel_rfl) (fun _ _ _ h => h) (Or.inl ⟨by rfl, ?_⟩) (by assumption) ?_
  rotate_left
  · intro w hSw
    (try dsimp only at hSw)
    go_simp
    all_goals (with_reducible rfl)
  try simp only [Act.put, List.setIfInBounds_toArray, List.set_cons_zero, List.set_cons_succ]
  refine wpAnyH_take (i := 26) (oi := ⟨some 75, _, _, _, _, _⟩) (v := ?_) rfl (by kernel_rfl) (by kernel_rfl) (by kernel_rfl) (fun _ _ _ h => h) (Or.inl ⟨by rfl, ?_⟩) (by assumption) ?_
  rotate_left
  · intro w hSw
    (try dsimp only at hSw)
    go_simp
    all_goals (with_reducible rfl)
  try simp only [Act.put, List.setIfInBounds_toArray, List.set_cons_zero, List.set_cons_succ]
  refine wpAnyH_ready (rs := [5, 13, 24]) (by kernel_rfl) (by simp) ?_
  refine AllReadyH.cons (o := ⟨some 54, _, _, _, _, _⟩) rfl (fun K hK => ?_) ?_
  · go_simp
    refine hK.out _ _ ⟨hT5.book, hT5.ltm⟩ (fun _ => ?_)
    clear hK K
    try simp only [Act.put, List.setIfInBounds_toArray, List.set_cons_zero, List.set_cons_succ]
    refine wpAnyH_ready (rs := [13, 24]) (by kernel_rfl) (by simp) ?_
    refine AllReadyH.cons (o := ⟨some 62, _, _, _, _, _⟩) rfl (fun K hK => ?_) ?_
    · have y1 := hT5.c1
      go_simp
      refine hK.out _ _ ⟨hT5.book, hT5.ltm⟩ (fun _ => ?_)
      clear hK K y1
      try simp only [Act.put, List.setIfInBounds_toArray, List.set_cons_zero, List.set_cons_succ]
      refine wpAnyH_take (i := 15) (oi := ⟨some 64, _, _, _, _, _⟩) (v := ?_) rfl (by kernel_rfl) (by kernel_rfl) (by kernel_rfl) (fun _ _ _ h => h) (Or.inl ⟨by rfl, ?_⟩) (by assumption) ?_
      rotate_left
      · intro w hSw
        (try dsimp only at hSw)
        go_simp
        all_goals (with_reducible rfl)
      try simp only [Act.put, List.setIfInBounds_toArray, List.set_cons_zero, List.set_cons_succ]
      refine wpAnyH_ready (rs := [16, 24]) (by kernel_rfl) (by simp) ?_
      refine AllReadyH.cons (o := ⟨some 65, _, _, _, _, _⟩) rfl (fun K hK => ?_) ?_
      · rw [if_pos (by rfl)]
        refine wp_append_off (f := memCells) (n := 2) _ _ _ 144 (by rfl) _ 32 Try.underlying139 info_rmem rfl (by decide) (by decide) lenM wd.heap.size _ _ [] (t.ms.take k) (by rfl) (own_empty wd _) (by rfl) (part_takemems hT5.mems hkN) (fun b _ y hy => by simp [memCells] at hy; rcases hy with rfl | rfl <;> rfl) (by have := HN.out; simp; omega) (by simp) ?_
        intro v6 w6 hO6 hG6 hM6
        have hB6 : Below wd.heap.size wd w6 := hA1.trans ((Only.of_grown hG6).below (by simp) fun _ _ e => own_ge (own_empty (f := memCells) (n := 2) wd 144) e)
        obtain ⟨x6, k6, y6, he6⟩ := slice_any hO6
        subst he6
        have hT6 := hTd.on hB6
        refine hK.out _ _ ⟨hT6.book, hT6.ltm⟩ (fun _ => ?_)
        clear hK K
        try simp only [Act.put, List.setIfInBounds_toArray, List.set_cons_zero, List.set_cons_succ]
        refine wpAnyH_ready (rs := [24]) (by kernel_rfl) (by simp) ?_
        refine AllReadyH.cons (o := ⟨some 73, _, _, _, _, _⟩) rfl (fun K hK => ?_) AllReadyH.nil
        have y1 := hT6.c1
        go_simp
        refine hK.out _ _ ⟨hT6.book, hT6.ltm⟩ (fun _ => ?_)
        clear hK K y1
        try simp only [Act.put, List.setIfInBounds_toArray, List.set_cons_zero, List.set_cons_succ]
        refine wpAnyH_take (i := 27) (oi := ⟨some 76, _, _, _, _, _⟩) (v := .slice (some ⟨mg, o2, none⟩) (N - (k + 1)) (cm - (k + 1))) rfl (by kernel_rfl) (by kernel_rfl) (by kernel_rfl) (fun _ _ _ h => h) (Or.inl ⟨by rfl, ?_⟩) (by assumption) ?_
        · intro w hSw
          (try dsimp only at hSw)
          go_simp
          all_goals first
            | (with_reducible rfl)
            | omega
            | (simp [Nat.add_mul]; done)
            | (simp [Nat.add_mul]; omega)
            | (have h := HO2.out; split at h <;> simp_all [Nat.add_mul]; done)
            | (trace_state; fail)
        try simp only [Act.put, List.setIfInBounds_toArray, List.set_cons_zero, List.set_cons_succ]
        refine wpAnyH_ready (rs := [28]) (by kernel_rfl) (by simp) ?_
        refine AllReadyH.cons (o := ⟨some 77, _, _, _, _, _⟩) rfl (fun K hK => ?_) AllReadyH.nil
        rw [if_pos (by rfl)]
        refine wp_append_off (f := memCells) (n := 2) _ _ _ 144 (by rfl) _ 32 Try.underlying139 info_rmem rfl (by decide) (by decide) lenM wd.heap.size _ _ ([] ++ t.ms.take k) (t.ms.drop (k + 1)) (by rfl) hO6 (by rfl) (part_dropmems hT6.mems hkN HN.out HO2.out) (fun b _ y hy => by simp [memCells] at hy; rcases hy with rfl | rfl <;> rfl) (by have := HN.out; simp; omega) hB6.size ?_
        intro v7 w7 hO7 hG7 hM7
        have hB7 : Below wd.heap.size wd w7 := hB6.trans ((Only.of_grown hG7).below hB6.size fun _ _ e => own_ge hO6 e)
        obtain ⟨x7, k7, y7, he7⟩ := slice_any hO7
        subst he7
        have hT7 := hTd.on hB7
        have f1 := hT7.c1
        have f0 := HFZ.out w7 (hBd.trans (hB7.mono hBd.size))
        refine hK.out _ _ ⟨hT7.book, hT7.ltm⟩ (fun _ => ?_)
        clear hK K
        try simp only [Act.put, List.setIfInBounds_toArray, List.set_cons_zero, List.set_cons_succ]
        refine wpAnyH_take (i := 29) (oi := ⟨some 78, _, _, _, _, _⟩) (v := ?_) rfl (by kernel_rfl) (by kernel_rfl) (by kernel_rfl) (fun _ _ _ h => h) (Or.inl ⟨by rfl, ?_⟩) (by assumption) ?_
        rotate_left
        · intro w hSw
          (try dsimp only at hSw)
          go_simp
          all_goals (with_reducible rfl)
        try simp only [Act.put, List.setIfInBounds_toArray, List.set_cons_zero, List.set_cons_succ]
        refine wpAnyH_take (i := 30) (oi := ⟨some 79, _, _, _, _, _⟩) (v := ?_) rfl (by kernel_rfl) (by kernel_rfl) (by kernel_rfl) (fun _ _ _ h => h) (Or.inl ⟨by rfl, ?_⟩) (by assumption) ?_
        rotate_left
        · intro w hSw
          (try dsimp only at hSw)
          go_simp
          all_goals (with_reducible rfl)
        try simp only [Act.put, List.setIfInBounds_toArray, List.set_cons_zero, List.set_cons_succ]
        refine wpAnyH_ready (rs := [31]) (by kernel_rfl) (by simp) ?_
        refine AllReadyH.cons (o := ⟨none, _, _, _, _, _⟩) rfl (fun K hK => ?_) AllReadyH.nil
        go_simp
        refine hK.out _ _ ⟨(World.cell?_setCell_other _ _ _ _ (fun e => HMG.out (by injection e with e _ _; exact e.symm))).trans hT7.book, by simpa using hT7.ltm⟩ (fun _ => ?_)
        clear hK K
        try simp only [Act.put]
        refine wpAnyH_done (by kernel_rfl) ?_ _
        refine NoPanic.normal ?_
        go_wp2
        go_ret
        exact ⟨rfl, wd, w7, _, k, hBd, hB7, hO7, hkx, hkn, rfl⟩
      refine AllReadyH.cons (o := ⟨some 73, _, _, _, _, _⟩) rfl (fun K hK => ?_) AllReadyH.nil
      have y1 := hT5.c1
      go_simp
      refine hK.out _ _ ⟨hT5.book, hT5.ltm⟩ (fun _ => ?_)
      clear hK K y1
      try simp only [Act.put, List.setIfInBounds_toArray, List.set_cons_zero, List.set_cons_succ]
      refine wpAnyH_take (i := 27) (oi := ⟨some 76, _, _, _, _, _⟩) (v := .slice (some ⟨mg, o2, none⟩) (N - (k + 1)) (cm - (k + 1))) rfl (by kernel_rfl) (by kernel_rfl) (by kernel_rfl) (fun _ _ _ h => h) (Or.inl ⟨by rfl, ?_⟩) (by assumption) ?_
      · intro w hSw
        (try dsimp only at hSw)
        go_simp
        all_goals first
          | (with_reducible rfl)
          | omega
          | (simp [Nat.add_mul]; done)
          | (simp [Nat.add_mul]; omega)
          | (have h := HO2.out; split at h <;> simp_all [Nat.add_mul]; done)
          | (trace_state; fail)
      try simp only [Act.put, List.setIfInBounds_toArray, List.set_cons_zero, List.set_cons_succ]
      refine wpAnyH_ready (rs := [16]) (by kernel_rfl) (by simp) ?_
      refine AllReadyH.cons (o := ⟨some 65, _, _, _, _, _⟩) rfl (fun K hK => ?_) AllReadyH.nil
      rw [if_pos (by rfl)]
      refine wp_append_off (f := memCells) (n := 2) _ _ _ 144 (by rfl) _ 32 Try.underlying139 info_rmem rfl (by decide) (by decide) lenM wd.heap.size _ _ [] (t.ms.take k) (by rfl) (own_empty wd _) (by rfl) (part_takemems hT5.mems hkN) (fun b _ y hy => by simp [memCells] at hy; rcases hy with rfl | rfl <;> rfl) (by have := HN.out; simp; omega) (by simp) ?_
      intro v6 w6 hO6 hG6 hM6
      have hB6 : Below wd.heap.size wd w6 := hA1.trans ((Only.of_grown hG6).below (by simp) fun _ _ e => own_ge (own_empty (f := memCells) (n := 2) wd 144) e)
      obtain ⟨x6, k6, y6, he6⟩ := slice_any hO6
      subst he6
      have hT6 := hTd.on hB6
      refine hK.out _ _ ⟨hT6.book, hT6.ltm⟩ (fun _ => ?_)
      clear hK K
      try simp only [Act.put, List.setIfInBounds_toArray, List.set_cons_zero, List.set_cons_succ]
      refine wpAnyH_ready (rs := [28]) (by kernel_rfl) (by simp) ?_
      refine AllReadyH.cons (o := ⟨some 77, _, _, _, _, _⟩) rfl (fun K hK => ?_) AllReadyH.nil
      rw [if_pos (by rfl)]
      refine wp_append_off (f := memCells) (n := 2) _ _ _ 144 (by rfl) _ 32 Try.underlying139 info_rmem rfl (by decide) (by decide) lenM wd.heap.size _ _ ([] ++ t.ms.take k) (t.ms.drop (k + 1)) (by rfl) hO6 (by rfl) (part_dropmems hT6.mems hkN HN.out HO2.out) (fun b _ y hy => by simp [memCells] at hy; rcases hy with rfl | rfl <;> rfl) (by have := HN.out; simp; omega) hB6.size ?_
      intro v7 w7 hO7 hG7 hM7
      have hB7 : Below wd.heap.size wd w7 := hB6.trans ((Only.of_grown hG7).below hB6.size fun _ _ e => own_ge hO6 e)
      obtain ⟨x7, k7, y7, he7⟩ := slice_any hO7
      subst he7
      have hT7 := hTd.on hB7
      have f1 := hT7.c1
      have f0 := HFZ.out w7 (hBd.trans (hB7.mono hBd.size))
      refine hK.out _ _ ⟨hT7.book, hT7.ltm⟩ (fun _ => ?_)
      clear hK K
      try simp only [Act.put, List.setIfInBounds_toArray, List.set_cons_zero, List.set_cons_succ]
      refine wpAnyH_take (i := 29) (oi := ⟨some 78, _, _, _, _, _⟩) (v := ?_) rfl (by kernel_rfl) (by kernel_rfl) (by kernel_rfl) (fun _ _ _ h => h) (Or.inl ⟨by rfl, ?_⟩) (by assumption) ?_
      rotate_left
      · intro w hSw
        (try dsimp only at hSw)
        go_simp
        all_goals (with_reducible rfl)
      try simp only [Act.put, List.setIfInBounds_toArray, List.set_cons_zero, List.set_cons_succ]
      refine wpAnyH_take (i := 30) (oi := ⟨some 79, _, _, _, _, _⟩) (v := ?_) rfl (by kernel_rfl) (by kernel_rfl) (by kernel_rfl) (fun _ _ _ h => h) (Or.inl ⟨by rfl, ?_⟩) (by assumption) ?_
      rotate_left
      · intro w hSw
        (try dsimp only at hSw)
        go_simp
        all_goals (with_reducible rfl)
      try simp only [Act.put, List.setIfInBounds_toArray, List.set_cons_zero, List.set_cons_succ]
      refine wpAnyH_ready (rs := [31]) (by kernel_rfl) (by simp) ?_
      refine AllReadyH.cons (o := ⟨none, _, _, _, _, _⟩) rfl (fun K hK => ?_) AllReadyH.nil
      go_simp
      refine hK.out _ _ ⟨(World.cell?_setCell_other _ _ _ _ (fun e => HMG.out (by injection e with e _ _; exact e.symm))).trans hT7.book, by simpa using hT7.ltm⟩ (fun _ => ?_)
      clear hK K
      try simp only [Act.put]
      refine wpAnyH_done (by kernel_rfl) ?_ _
      refine NoPanic.normal ?_
      go_wp2
      go_ret
      exact ⟨rfl, wd, w7, _, k, hBd, hB7, hO7, hkx, hkn, rfl⟩
    refine AllReadyH.cons (o := ⟨some 73, _, _, _, _, _⟩) rfl (fun K hK => ?_) AllReadyH.nil
    have y1 := hT5.c1
    go_simp
    refine hK.out _ _ ⟨hT5.book, hT5.ltm⟩ (fun _ => ?_)
    clear hK K y1
    try simp only [Act.put, List.setIfInBounds_toArray, List.set_cons_zero, List.set_cons_succ]
    refine wpAnyH_take (i := 27) (oi := ⟨some 76, _, _, _, _, _⟩) (v := .slice (some ⟨mg, o2, none⟩) (N - (k + 1)) (cm - (k + 1))) rfl (by kernel_rfl) (by kernel_rfl) (by kernel_rfl) (fun _ _ _ h => h) (Or.inl ⟨by rfl, ?_⟩) (by assumption) ?_
    · intro w hSw
      (try dsimp only at hSw)
      go_simp
      all_goals first
        | (with_reducible rfl)
        | omega
        | (simp [Nat.add_mul]; done)
        | (simp [Nat.add_mul]; omega)
        | (have h := HO2.out; split at h <;> simp_all [Nat.add_mul]; done)
        | (trace_state; fail)
    try simp only [Act.put, List.setIfInBounds_toArray, List.set_cons_zero, List.set_cons_succ]
    refine wpAnyH_ready (rs := [13]) (by kernel_rfl) (by simp) ?_
    refine AllReadyH.cons (o := ⟨some 62, _, _, _, _, _⟩) rfl (fun K hK => ?_) AllReadyH.nil
    have y1 := hT5.c1
    go_simp
    refine hK.out _ _ ⟨hT5.book, hT5.ltm⟩ (fun _ => ?_)
    clear hK K y1
    try simp only [Act.put, List.setIfInBounds_toArray, List.set_cons_zero, List.set_cons_succ]
    refine wpAnyH_take (i := 15) (oi := ⟨some 64, _, _, _, _, _⟩) (v := ?_) rfl (by kernel_rfl) (by kernel_rfl) (by kernel_rfl) (fun _ _ _ h => h) (Or.inl ⟨by rfl, ?_⟩) (by assumption) ?_
    rotate_left
    · intro w hSw
      (try dsimp only at hSw)
      go_simp
      all_goals (with_reducible rfl)
    try simp only [Act.put, List.setIfInBounds_toArray, List.set_cons_zero, List.set_cons_succ]
    refine wpAnyH_ready (rs := [16]) (by kernel_rfl) (by simp) ?_
    refine AllReadyH.cons (o := ⟨some 65, _, _, _, _, _⟩) rfl (fun K hK => ?_) AllReadyH.nil
    rw [if_pos (by rfl)]
    refine wp_append_off (f := memCells) (n := 2) _ _ _ 144 (by rfl) _ 32 Try.underlying139 info_rmem rfl (by decide) (by decide) lenM wd.heap.size _ _ [] (t.ms.take k) (by rfl) (own_empty wd _) (by rfl) (part_takemems hT5.mems hkN) (fun b _ y hy => by simp [memCells] at hy; rcases hy with rfl | rfl <;> rfl) (by have := HN.out; simp; omega) (by simp) ?_
    intro v6 w6 hO6 hG6 hM6
    have hB6 : Below wd.heap.size wd w6 := hA1.trans ((Only.of_grown hG6).below (by simp) fun _ _ e => own_ge (own_empty (f := memCells) (n := 2) wd 144) e)
    obtain ⟨x6, k6, y6, he6⟩ := slice_any hO6
    subst he6
    have hT6 := hTd.on hB6
    refine hK.out _ _ ⟨hT6.book, hT6.ltm⟩ (fun _ => ?_)
    clear hK K
    try simp only [Act.put, List.setIfInBounds_toArray, List.set_cons_zero, List.set_cons_succ]
    refine wpAnyH_ready (rs := [28]) (by kernel_rfl) (by simp) ?_
    refine AllReadyH.cons (o := ⟨some 77, _, _, _, _, _⟩) rfl (fun K hK => ?_) AllReadyH.nil
    rw [if_pos (by rfl)]
    refine wp_append_off (f := memCells) (n := 2) _ _ _ 144 (by rfl) _ 32 Try.underlying139 info_rmem rfl (by decide) (by decide) lenM wd.heap.size _ _ ([] ++ t.ms.take k) (t.ms.drop (k + 1)) (by rfl) hO6 (by rfl) (part_dropmems hT6.mems hkN HN.out HO2.out) (fun b _ y hy => by simp [memCells] at hy; rcases hy with rfl | rfl <;> rfl) (by have := HN.out; simp; omega) hB6.size ?_
    intro v7 w7 hO7 hG7 hM7
    have hB7 : Below wd.heap.size wd w7 := hB6.trans ((Only.of_grown hG7).below hB6.size fun _ _ e => own_ge hO6 e)
    obtain ⟨x7, k7, y7, he7⟩ := slice_any hO7
    subst he7
    have hT7 := hTd.on hB7
    have f1 := hT7.c1
    have f0 := HFZ.out w7 (hBd.trans (hB7.mono hBd.size))
    refine hK.out _ _ ⟨hT7.book, hT7.ltm⟩ (fun _ => ?_)
    clear hK K
    try simp only [Act.put, List.setIfInBounds_toArray, List.set_cons_zero, List.set_cons_succ]
    refine wpAnyH_take (i := 29) (oi := ⟨some 78, _, _, _, _, _⟩) (v := ?_) rfl (by kernel_rfl) (by kernel_rfl) (by kernel_rfl) (fun _ _ _ h => h) (Or.inl ⟨by rfl, ?_⟩) (by assumption) ?_
    rotate_left
    · intro w hSw
      (try dsimp only at hSw)
      go_simp
      all_goals (with_reducible rfl)
    try simp only [Act.put, List.setIfInBounds_toArray, List.set_cons_zero, List.set_cons_succ]
    refine wpAnyH_take (i := 30) (oi := ⟨some 79, _, _, _, _, _⟩) (v := ?_) rfl (by kernel_rfl) (by kernel_rfl) (by kernel_rfl) (fun _ _ _ h => h) (Or.inl ⟨by rfl, ?_⟩) (by assumption) ?_
    rotate_left
    · intro w hSw
      (try dsimp only at hSw)
      go_simp
      all_goals (with_reducible rfl)
    try simp only [Act.put, List.setIfInBounds_toArray, List.set_cons_zero, List.set_cons_succ]
    refine wpAnyH_ready (rs := [31]) (by kernel_rfl) (by simp) ?_
    refine AllReadyH.cons (o := ⟨none, _, _, _, _, _⟩) rfl (fun K hK => ?_) AllReadyH.nil
    go_simp
    refine hK.out _ _ ⟨(World.cell?_setCell_other _ _ _ _ (fun e => HMG.out (by injection e with e _ _; exact e.symm))).trans hT7.book, by simpa using hT7.ltm⟩ (fun _ => ?_)
    clear hK K
    try simp only [Act.put]
    refine wpAnyH_done (by kernel_rfl) ?_ _
    refine NoPanic.normal ?_
    go_wp2
    go_ret
    exact ⟨rfl, wd, w7, _, k, hBd, hB7, hO7, hkx, hkn, rfl⟩
  refine AllReadyH.cons (o := ⟨some 62, _, _, _, _, _⟩) rfl (fun K hK => ?_) ?_
  · have y1 := hTd.c1
    go_simp
    refine hK.out _ _ ⟨hTd.book, hTd.ltm⟩ (fun _ => ?_)
    clear hK K y1
    try simp only [Act.put, List.setIfInBounds_toArray, List.set_cons_zero, List.set_cons_succ]
    refine wpAnyH_take (i := 15) (oi := ⟨some 64, _, _, _, _, _⟩) (v := ?_) rfl (by kernel_rfl) (by kernel_rfl) (by kernel_rfl) (fun _ _ _ h => h) (Or.inl ⟨by rfl, ?_⟩) (by assumption) ?_
    rotate_left
    · intro w hSw
      (try dsimp only at hSw)
      go_simp
      all_goals (with_reducible rfl)
    try simp only [Act.put, List.setIfInBounds_toArray, List.set_cons_zero, List.set_cons_succ]
    refine wpAnyH_ready (rs := [5, 24]) (by kernel_rfl) (by simp) ?_
    refine AllReadyH.cons (o := ⟨some 54, _, _, _, _, _⟩) rfl (fun K hK => ?_) ?_
    · go_simp
      refine hK.out _ _ ⟨hT5.book, hT5.ltm⟩ (fun _ => ?_)
      clear hK K
      try simp only [Act.put, List.setIfInBounds_toArray, List.set_cons_zero, List.set_cons_succ]
      refine wpAnyH_ready (rs := [16, 24]) (by kernel_rfl) (by simp) ?_
      refine AllReadyH.cons (o := ⟨some 65, _, _, _, _, _⟩) rfl (fun K hK => ?_) ?_
      · rw [if_pos (by rfl)]
        refine wp_append_off (f := memCells) (n := 2) _ _ _ 144 (by rfl) _ 32 Try.underlying139 info_rmem rfl (by decide) (by decide) lenM wd.heap.size _ _ [] (t.ms.take k) (by rfl) (own_empty wd _) (by rfl) (part_takemems hT5.mems hkN) (fun b _ y hy => by simp [memCells] at hy; rcases hy with rfl | rfl <;> rfl) (by have := HN.out; simp; omega) (by simp) ?_
        intro v6 w6 hO6 hG6 hM6
        have hB6 : Below wd.heap.size wd w6 := hA1.trans ((Only.of_grown hG6).below (by simp) fun _ _ e => own_ge (own_empty (f := memCells) (n := 2) wd 144) e)
        obtain ⟨x6, k6, y6, he6⟩ := slice_any hO6
        subst he6
        have hT6 := hTd.on hB6
        refine hK.out _ _ ⟨hT6.book, hT6.ltm⟩ (fun _ => ?_)
        clear hK K
        try simp only [Act.put, List.setIfInBounds_toArray, List.set_cons_zero, List.set_cons_succ]
        refine wpAnyH_ready (rs := [24]) (by kernel_rfl) (by simp) ?_
        refine AllReadyH.cons (o := ⟨some 73, _, _, _, _, _⟩) rfl (fun K hK => ?_) AllReadyH.nil
        have y1 := hT6.c1
        go_simp
        refine hK.out _ _ ⟨hT6.book, hT6.ltm⟩ (fun _ => ?_)
        clear hK K y1
        try simp only [Act.put, List.setIfInBounds_toArray, List.set_cons_zero, List.set_cons_succ]
        refine wpAnyH_take (i := 27) (oi := ⟨some 76, _, _, _, _, _⟩) (v := .slice (some ⟨mg, o2, none⟩) (N - (k + 1)) (cm - (k + 1))) rfl (by kernel_rfl) (by kernel_rfl) (by kernel_rfl) (fun _ _ _ h => h) (Or.inl ⟨by rfl, ?_⟩) (by assumption) ?_
        · intro w hSw
          (try dsimp only at hSw)
          go_simp
          all_goals first
            | (with_reducible rfl)
            | omega
            | (simp [Nat.add_mul]; done)
            | (simp [Nat.add_mul]; omega)
            | (have h := HO2.out; split at h <;> simp_all [Nat.add_mul]; done)
            | (trace_state; fail)
        try simp only [Act.put, List.setIfInBounds_toArray, List.set_cons_zero, List.set_cons_succ]
        refine wpAnyH_ready (rs := [28]) (by kernel_rfl) (by simp) ?_
        refine AllReadyH.cons (o := ⟨some 77, _, _, _, _, _⟩) rfl (fun K hK => ?_) AllReadyH.nil
        rw [if_pos (by rfl)]
        refine wp_append_off (f := memCells) (n := 2) _ _ _ 144 (by rfl) _ 32 Try.underlying139 info_rmem rfl (by decide) (by decide) lenM wd.heap.size _ _ ([] ++ t.ms.take k) (t.ms.drop (k + 1)) (by rfl) hO6 (by rfl) (part_dropmems hT6.mems hkN HN.out HO2.out) (fun b _ y hy => by simp [memCells] at hy; rcases hy with rfl | rfl <;> rfl) (by have := HN.out; simp; omega) hB6.size ?_
        intro v7 w7 hO7 hG7 hM7
        have hB7 : Below wd.heap.size wd w7 := hB6.trans ((Only.of_grown hG7).below hB6.size fun _ _ e => own_ge hO6 e)
        obtain ⟨x7, k7, y7, he7⟩ := slice_any hO7
        subst he7
        have hT7 := hTd.on hB7
        have f1 := hT7.c1
        have f0 := HFZ.out w7 (hBd.trans (hB7.mono hBd.size))
        refine hK.out _ _ ⟨hT7.book, hT7.ltm⟩ (fun _ => ?_)
        clear hK K
        try simp only [Act.put, List.setIfInBounds_toArray, List.set_cons_zero, List.set_cons_succ]
        refine wpAnyH_take (i := 29) (oi := ⟨some 78, _, _, _, _, _⟩) (v := ?_) rfl (by kernel_rfl) (by kernel_rfl) (by kernel_rfl) (fun _ _ _ h => h) (Or.inl ⟨by rfl, ?_⟩) (by assumption) ?_
        rotate_left
        · intro w hSw
          (try dsimp only at hSw)
          go_simp
          all_goals (with_reducible rfl)
        try simp only [Act.put, List.setIfInBounds_toArray, List.set_cons_zero, List.set_cons_succ]
        refine wpAnyH_take (i := 30) (oi := ⟨some 79, _, _, _, _, _⟩) (v := ?_) rfl (by kernel_rfl) (by kernel_rfl) (by kernel_rfl) (fun _ _ _ h => h) (Or.inl ⟨by rfl, ?_⟩) (by assumption) ?_
        rotate_left
        · intro w hSw
          (try dsimp only at hSw)
          go_simp
          all_goals (with_reducible rfl)
        try simp only [Act.put, List.setIfInBounds_toArray, List.set_cons_zero, List.set_cons_succ]
        refine wpAnyH_ready (rs := [31]) (by kernel_rfl) (by simp) ?_
        refine AllReadyH.cons (o := ⟨none, _, _, _, _, _⟩) rfl (fun K hK => ?_) AllReadyH.nil
        go_simp
        refine hK.out _ _ ⟨(World.cell?_setCell_other _ _ _ _ (fun e => HMG.out (by injection e with e _ _; exact e.symm))).trans hT7.book, by simpa using hT7.ltm⟩ (fun _ => ?_)
        clear hK K
        try simp only [Act.put]
        refine wpAnyH_done (by kernel_rfl) ?_ _
        refine NoPanic.normal ?_
        go_wp2
        go_ret
        exact ⟨rfl, wd, w7, _, k, hBd, hB7, hO7, hkx, hkn, rfl⟩
      refine AllReadyH.cons (o := ⟨some 73, _, _, _, _, _⟩) rfl (fun K hK => ?_) AllReadyH.nil
      have y1 := hT5.c1
      go_simp
      refine hK.out _ _ ⟨hT5.book, hT5.ltm⟩ (fun _ => ?_)
      clear hK K y1
      try simp only [Act.put, List.setIfInBounds_toArray, List.set_cons_zero, List.set_cons_succ]
      refine wpAnyH_take (i := 27) (oi := ⟨some 76, _, _, _, _, _⟩) (v := .slice (some ⟨mg, o2, none⟩) (N - (k + 1)) (cm - (k + 1))) rfl (by kernel_rfl) (by kernel_rfl) (by kernel_rfl) (fun _ _ _ h => h) (Or.inl ⟨by rfl, ?_⟩) (by assumption) ?_
      · intro w hSw
        (try dsimp only at hSw)
        go_simp
        all_goals first
          | (with_reducible rfl)
          | omega
          | (simp [Nat.add_mul]; done)
          | (simp [Nat.add_mul]; omega)
          | (have h := HO2.out; split at h <;> simp_all [Nat.add_mul]; done)
          | (trace_state; fail)
      try simp only [Act.put, List.setIfInBounds_toArray, List.set_cons_zero, List.set_cons_succ]
      refine wpAnyH_ready (rs := [16]) (by kernel_rfl) (by simp) ?_
      refine AllReadyH.cons (o := ⟨some 65, _, _, _, _, _⟩) rfl (fun K hK => ?_) AllReadyH.nil
      rw [if_pos (by rfl)]
      refine wp_append_off (f := memCells) (n := 2) _ _ _ 144 (by rfl) _ 32 Try.underlying139 info_rmem rfl (by decide) (by decide) lenM wd.heap.size _ _ [] (t.ms.take k) (by rfl) (own_empty wd _) (by rfl) (part_takemems hT5.mems hkN) (fun b _ y hy => by simp [memCells] at hy; rcases hy with rfl | rfl <;> rfl) (by have := HN.out; simp; omega) (by simp) ?_
      intro v6 w6 hO6 hG6 hM6
      have hB6 : Below wd.heap.size wd w6 := hA1.trans ((Only.of_grown hG6).below (by simp) fun _ _ e => own_ge (own_empty (f := memCells) (n := 2) wd 144) e)
      obtain ⟨x6, k6, y6, he6⟩ := slice_any hO6
      subst he6
      have hT6 := hTd.on hB6
      refine hK.out _ _ ⟨hT6.book, hT6.ltm⟩ (fun _ => ?_)
      clear hK K
      try simp only [Act.put, List.setIfInBounds_toArray, List.set_cons_zero, List.set_cons_succ]
      refine wpAnyH_ready (rs := [28]) (by kernel_rfl) (by simp) ?_
      refine AllReadyH.cons (o := ⟨some 77, _, _, _, _, _⟩) rfl (fun K hK => ?_) AllReadyH.nil
      rw [if_pos (by rfl)]
      refine wp_append_off (f := memCells) (n := 2) _ _ _ 144 (by rfl) _ 32 Try.underlying139 info_rmem rfl (by decide) (by decide) lenM wd.heap.size _ _ ([] ++ t.ms.take k) (t.ms.drop (k + 1)) (by rfl) hO6 (by rfl) (part_dropmems hT6.mems hkN HN.out HO2.out) (fun b _ y hy => by simp [memCells] at hy; rcases hy with rfl | rfl <;> rfl) (by have := HN.out; simp; omega) hB6.size ?_
      intro v7 w7 hO7 hG7 hM7
      have hB7 : Below wd.heap.size wd w7 := hB6.trans ((Only.of_grown hG7).below hB6.size fun _ _ e => own_ge hO6 e)
      obtain ⟨x7, k7, y7, he7⟩ := slice_any hO7
      subst he7
      have hT7 := hTd.on hB7
      have f1 := hT7.c1
      have f0 := HFZ.out w7 (hBd.trans (hB7.mono hBd.size))
      refine hK.out _ _ ⟨hT7.book, hT7.ltm⟩ (fun _ => ?_)
      clear hK K
      try simp only [Act.put, List.setIfInBounds_toArray, List.set_cons_zero, List.set_cons_succ]
      refine wpAnyH_take (i := 29) (oi := ⟨some 78, _, _, _, _, _⟩) (v := ?_) rfl (by kernel_rfl) (by kernel_rfl) (by kernel_rfl) (fun _ _ _ h => h) (Or.inl ⟨by rfl, ?_⟩) (by assumption) ?_
      rotate_left
      · intro w hSw
        (try dsimp only at hSw)
        go_simp
        all_goals (with_reducible rfl)
      try simp only [Act.put, List.setIfInBounds_toArray, List.set_cons_zero, List.set_cons_succ]
      refine wpAnyH_take (i := 30) (oi := ⟨some 79, _, _, _, _, _⟩) (v := ?_) rfl (by kernel_rfl) (by kernel_rfl) (by kernel_rfl) (fun _ _ _ h => h) (Or.inl ⟨by rfl, ?_⟩) (by assumption) ?_
      rotate_left
      · intro w hSw
        (try dsimp only at hSw)
        go_simp
        all_goals (with_reducible rfl)
      try simp only [Act.put, List.setIfInBounds_toArray, List.set_cons_zero, List.set_cons_succ]
      refine wpAnyH_ready (rs := [31]) (by kernel_rfl) (by simp) ?_
      refine AllReadyH.cons (o := ⟨none, _, _, _, _, _⟩) rfl (fun K hK => ?_) AllReadyH.nil
      go_simp
      refine hK.out _ _ ⟨(World.cell?_setCell_other _ _ _ _ (fun e => HMG.out (by injection e with e _ _; exact e.symm))).trans hT7.book, by simpa using hT7.ltm⟩ (fun _ => ?_)
      clear hK K
      try simp only [Act.put]
      refine wpAnyH_done (by kernel_rfl) ?_ _
      refine NoPanic.normal ?_
      go_wp2
      go_ret
      exact ⟨rfl, wd, w7, _, k, hBd, hB7, hO7, hkx, hkn, rfl⟩
    refine AllReadyH.cons (o := ⟨some 73, _, _, _, _, _⟩) rfl (fun K hK => ?_) AllReadyH.nil
    have y1 := hTd.c1
    go_simp
    refine hK.out _ _ ⟨hTd.book, hTd.ltm⟩ (fun _ => ?_)
    clear hK K y1
    try simp only [Act.put, List.setIfInBounds_toArray, List.set_cons_zero, List.set_cons_succ]
    refine wpAnyH_take (i := 27) (oi := ⟨some 76, _, _, _, _, _⟩) (v := .slice (some ⟨mg, o2, none⟩) (N - (k + 1)) (cm - (k + 1))) rfl (by kernel_rfl) (by kernel_rfl) (by kernel_rfl) (fun _ _ _ h => h) (Or.inl ⟨by rfl, ?_⟩) (by assumption) ?_
    · intro w hSw
      (try dsimp only at hSw)
      go_simp
      all_goals first
        | (with_reducible rfl)
        | omega
        | (simp [Nat.add_mul]; done)
        | (simp [Nat.add_mul]; omega)
        | (have h := HO2.out; split at h <;> simp_all [Nat.add_mul]; done)
        | (trace_state; fail)
    try simp only [Act.put, List.setIfInBounds_toArray, List.set_cons_zero, List.set_cons_succ]
    refine wpAnyH_ready (rs := [5]) (by kernel_rfl) (by simp) ?_
    refine AllReadyH.cons (o := ⟨some 54, _, _, _, _, _⟩) rfl (fun K hK => ?_) AllReadyH.nil
    go_simp
    refine hK.out _ _ ⟨hT5.book, hT5.ltm⟩ (fun _ => ?_)
    clear hK K
    try simp only [Act.put, List.setIfInBounds_toArray, List.set_cons_zero, List.set_cons_succ]
    refine wpAnyH_ready (rs := [16]) (by kernel_rfl) (by simp) ?_
    refine AllReadyH.cons (o := ⟨some 65, _, _, _, _, _⟩) rfl (fun K hK => ?_) AllReadyH.nil
    rw [if_pos (by rfl)]
    refine wp_append_off (f := memCells) (n := 2) _ _ _ 144 (by rfl) _ 32 Try.underlying139 info_rmem rfl (by decide) (by decide) lenM wd.heap.size _ _ [] (t.ms.take k) (by rfl) (own_empty wd _) (by rfl) (part_takemems hT5.mems hkN) (fun b _ y hy => by simp [memCells] at hy; rcases hy with rfl | rfl <;> rfl) (by have := HN.out; simp; omega) (by simp) ?_
    intro v6 w6 hO6 hG6 hM6
    have hB6 : Below wd.heap.size wd w6 := hA1.trans ((Only.of_grown hG6).below (by simp) fun _ _ e => own_ge (own_empty (f := memCells) (n := 2) wd 144) e)
    obtain ⟨x6, k6, y6, he6⟩ := slice_any hO6
    subst he6
    have hT6 := hTd.on hB6
    refine hK.out _ _ ⟨hT6.book, hT6.ltm⟩ (fun _ => ?_)
    clear hK K
    try simp only [Act.put, List.setIfInBounds_toArray, List.set_cons_zero, List.set_cons_succ]
    refine wpAnyH_ready (rs := [28]) (by kernel_rfl) (by simp) ?_
    refine AllReadyH.cons (o := ⟨some 77, _, _, _, _, _⟩) rfl (fun K hK => ?_) AllReadyH.nil
    rw [if_pos (by rfl)]
    refine wp_append_off (f := memCells) (n := 2) _ _ _ 144 (by rfl) _ 32 Try.underlying139 info_rmem rfl (by decide) (by decide) lenM wd.heap.size _ _ ([] ++ t.ms.take k) (t.ms.drop (k + 1)) (by rfl) hO6 (by rfl) (part_dropmems hT6.mems hkN HN.out HO2.out) (fun b _ y hy => by simp [memCells] at hy; rcases hy with rfl | rfl <;> rfl) (by have := HN.out; simp; omega) hB6.size ?_
    intro v7 w7 hO7 hG7 hM7
    have hB7 : Below wd.heap.size wd w7 := hB6.trans ((Only.of_grown hG7).below hB6.size fun _ _ e => own_ge hO6 e)
    obtain ⟨x7, k7, y7, he7⟩ := slice_any hO7
    subst he7
    have hT7 := hTd.on hB7
    have f1 := hT7.c1
    have f0 := HFZ.out w7 (hBd.trans (hB7.mono hBd.size))
    refine hK.out _ _ ⟨hT7.book, hT7.ltm⟩ (fun _ => ?_)
    clear hK K
    try simp only [Act.put, List.setIfInBounds_toArray, List.set_cons_zero, List.set_cons_succ]
    refine wpAnyH_take (i := 29) (oi := ⟨some 78, _, _, _, _, _⟩) (v := ?_) rfl (by kernel_rfl) (by kernel_rfl) (by kernel_rfl) (fun _ _ _ h => h) (Or.inl ⟨by rfl, ?_⟩) (by assumption) ?_
    rotate_left
    · intro w hSw
      (try dsimp only at hSw)
      go_simp
      all_goals (with_reducible rfl)
    try simp only [Act.put, List.setIfInBounds_toArray, List.set_cons_zero, List.set_cons_succ]
    refine wpAnyH_take (i := 30) (oi := ⟨some 79, _, _, _, _, _⟩) (v := ?_) rfl (by kernel_rfl) (by kernel_rfl) (by kernel_rfl) (fun _ _ _ h => h) (Or.inl ⟨by rfl, ?_⟩) (by assumption) ?_
    rotate_left
    · intro w hSw
      (try dsimp only at hSw)
      go_simp
      all_goals (with_reducible rfl)
    try simp only [Act.put, List.setIfInBounds_toArray, List.set_cons_zero, List.set_cons_succ]
    refine wpAnyH_ready (rs := [31]) (by kernel_rfl) (by simp) ?_
    refine AllReadyH.cons (o := ⟨none, _, _, _, _, _⟩) rfl (fun K hK => ?_) AllReadyH.nil
    go_simp
    refine hK.out _ _ ⟨(World.cell?_setCell_other _ _ _ _ (fun e => HMG.out (by injection e with e _ _; exact e.symm))).trans hT7.book, by simpa using hT7.ltm⟩ (fun _ => ?_)
    clear hK K
    try simp only [Act.put]
    refine wpAnyH_done (by kernel_rfl) ?_ _
    refine NoPanic.normal ?_
    go_wp2
    go_ret
    exact ⟨rfl, wd, w7, _, k, hBd, hB7, hO7, hkx, hkn, rfl⟩
  refine AllReadyH.cons (o := ⟨some 73, _, _, _, _, _⟩) rfl (fun K hK => ?_) AllReadyH.nil
  have y1 := hTd.c1
  go_simp
  refine hK.out _ _ ⟨hTd.book, hTd.ltm⟩ (fun _ => ?_)
  clear hK K y1
  try simp only [Act.put, List.setIfInBounds_toArray, List.set_cons_zero, List.set_cons_succ]
  refine wpAnyH_take (i := 27) (oi := ⟨some 76, _, _, _, _, _⟩) (v := .slice (some ⟨mg, o2, none⟩) (N - (k + 1)) (cm - (k + 1))) rfl (by kernel_rfl) (by kernel_rfl) (by kernel_rfl) (fun _ _ _ h => h) (Or.inl ⟨by rfl, ?_⟩) (by assumption) ?_
  · intro w hSw
    (try dsimp only at hSw)
    go_simp
    all_goals first
      | (with_reducible rfl)
      | omega
      | (simp [Nat.add_mul]; done)
      | (simp [Nat.add_mul]; omega)
      | (have h := HO2.out; split at h <;> simp_all [Nat.add_mul]; done)
      | (trace_state; fail)
  try simp only [Act.put, List.setIfInBounds_toArray, List.set_cons_zero, List.set_cons_succ]
  refine wpAnyH_ready (rs := [5, 13]) (by kernel_rfl) (by simp) ?_
  refine AllReadyH.cons (o := ⟨some 54, _, _, _, _, _⟩) rfl (fun K hK => ?_) ?_
  · go_simp
    refine hK.out _ _ ⟨hT5.book, hT5.ltm⟩ (fun _ => ?_)
    clear hK K
    try simp only [Act.put, List.setIfInBounds_toArray, List.set_cons_zero, List.set_cons_succ]
    refine wpAnyH_ready (rs := [13]) (by kernel_rfl) (by simp) ?_
    refine AllReadyH.cons (o := ⟨some 62, _, _, _, _, _⟩) rfl (fun K hK => ?_) AllReadyH.nil
    have y1 := hT5.c1
    go_simp
    refine hK.out _ _ ⟨hT5.book, hT5.ltm⟩ (fun _ => ?_)
    clear hK K y1
    try simp only [Act.put, List.setIfInBounds_toArray, List.set_cons_zero, List.set_cons_succ]
    refine wpAnyH_take (i := 15) (oi := ⟨some 64, _, _, _, _, _⟩) (v := ?_) rfl (by kernel_rfl) (by kernel_rfl) (by kernel_rfl) (fun _ _ _ h => h) (Or.inl ⟨by rfl, ?_⟩) (by assumption) ?_
    rotate_left
    · intro w hSw
      (try dsimp only at hSw)
      go_simp
      all_goals (with_reducible rfl)
    try simp only [Act.put, List.setIfInBounds_toArray, List.set_cons_zero, List.set_cons_succ]
    refine wpAnyH_ready (rs := [16]) (by kernel_rfl) (by simp) ?_
    refine AllReadyH.cons (o := ⟨some 65, _, _, _, _, _⟩) rfl (fun K hK => ?_) AllReadyH.nil
    rw [if_pos (by rfl)]
    refine wp_append_off (f := memCells) (n := 2) _ _ _ 144 (by rfl) _ 32 Try.underlying139 info_rmem rfl (by decide) (by decide) lenM wd.heap.size _ _ [] (t.ms.take k) (by rfl) (own_empty wd _) (by rfl) (part_takemems hT5.mems hkN) (fun b _ y hy => by simp [memCells] at hy; rcases hy with rfl | rfl <;> rfl) (by have := HN.out; simp; omega) (by simp) ?_
    intro v6 w6 hO6 hG6 hM6
    have hB6 : Below wd.heap.size wd w6 := hA1.trans ((Only.of_grown hG6).below (by simp) fun _ _ e => own_ge (own_empty (f := memCells) (n := 2) wd 144) e)
    obtain ⟨x6, k6, y6, he6⟩ := slice_any hO6
    subst he6
    have hT6 := hTd.on hB6
    refine hK.out _ _ ⟨hT6.book, hT6.ltm⟩ (fun _ => ?_)
    clear hK K
    try simp only [Act.put, List.setIfInBounds_toArray, List.set_cons_zero, List.set_cons_succ]
    refine wpAnyH_ready (rs := [28]) (by kernel_rfl) (by simp) ?_
    refine AllReadyH.cons (o := ⟨some 77, _, _, _, _, _⟩) rfl (fun K hK => ?_) AllReadyH.nil
    rw [if_pos (by rfl)]
    refine wp_append_off (f := memCells) (n := 2) _ _ _ 144 (by rfl) _ 32 Try.underlying139 info_rmem rfl (by decide) (by decide) lenM wd.heap.size _ _ ([] ++ t.ms.take k) (t.ms.drop (k + 1)) (by rfl) hO6 (by rfl) (part_dropmems hT6.mems hkN HN.out HO2.out) (fun b _ y hy => by simp [memCells] at hy; rcases hy with rfl | rfl <;> rfl) (by have := HN.out; simp; omega) hB6.size ?_
    intro v7 w7 hO7 hG7 hM7
    have hB7 : Below wd.heap.size wd w7 := hB6.trans ((Only.of_grown hG7).below hB6.size fun _ _ e => own_ge hO6 e)
    obtain ⟨x7, k7, y7, he7⟩ := slice_any hO7
    subst he7
    have hT7 := hTd.on hB7
    have f1 := hT7.c1
    have f0 := HFZ.out w7 (hBd.trans (hB7.mono hBd.size))
    refine hK.out _ _ ⟨hT7.book, hT7.ltm⟩ (fun _ => ?_)
    clear hK K
    try simp only [Act.put, List.setIfInBounds_toArray, List.set_cons_zero, List.set_cons_succ]
    refine wpAnyH_take (i := 29) (oi := ⟨some 78, _, _, _, _, _⟩) (v := ?_) rfl (by kernel_rfl) (by kernel_rfl) (by kernel_rfl) (fun _ _ _ h => h) (Or.inl ⟨by rfl, ?_⟩) (by assumption) ?_
    rotate_left
    · intro w hSw
      (try dsimp only at hSw)
      go_simp
      all_goals (with_reducible rfl)
    try simp only [Act.put, List.setIfInBounds_toArray, List.set_cons_zero, List.set_cons_succ]
    refine wpAnyH_take (i := 30) (oi := ⟨some 79, _, _, _, _, _⟩) (v := ?_) rfl (by kernel_rfl) (by kernel_rfl) (by kernel_rfl) (fun _ _ _ h => h) (Or.inl ⟨by rfl, ?_⟩) (by assumption) ?_
    rotate_left
    · intro w hSw
      (try dsimp only at hSw)
      go_simp
      all_goals (with_reducible rfl)
    try simp only [Act.put, List.setIfInBounds_toArray, List.set_cons_zero, List.set_cons_succ]
    refine wpAnyH_ready (rs := [31]) (by kernel_rfl) (by simp) ?_
    refine AllReadyH.cons (o := ⟨none, _, _, _, _, _⟩) rfl (fun K hK => ?_) AllReadyH.nil
    go_simp
    refine hK.out _ _ ⟨(World.cell?_setCell_other _ _ _ _ (fun e => HMG.out (by injection e with e _ _; exact e.symm))).trans hT7.book, by simpa using hT7.ltm⟩ (fun _ => ?_)
    clear hK K
    try simp only [Act.put]
    refine wpAnyH_done (by kernel_rfl) ?_ _
    refine NoPanic.normal ?_
    go_wp2
    go_ret
    exact ⟨rfl, wd, w7, _, k, hBd, hB7, hO7, hkx, hkn, rfl⟩
  refine AllReadyH.cons (o := ⟨some 62, _, _, _, _, _⟩) rfl (fun K hK => ?_) AllReadyH.nil
  have y1 := hTd.c1
  go_simp
  refine hK.out _ _ ⟨hTd.book, hTd.ltm⟩ (fun _ => ?_)
  clear hK K y1
  try simp only [Act.put, List.setIfInBounds_toArray, List.set_cons_zero, List.set_cons_succ]
  refine wpAnyH_take (i := 15) (oi := ⟨some 64, _, _, _, _, _⟩) (v := ?_) rfl (by kernel_rfl) (by kernel_rfl) (by kernel_rfl) (fun _ _ _ h => h) (Or.inl ⟨by rfl, ?_⟩) (by assumption) ?_
  rotate_left
  · intro w hSw
    (try dsimp only at hSw)
    go_simp
    all_goals (with_reducible rfl)
  try simp only [Act.put, List.setIfInBounds_toArray, List.set_cons_zero, List.set_cons_succ]
  refine wpAnyH_ready (rs := [5]) (by kernel_rfl) (by simp) ?_
  refine AllReadyH.cons (o := ⟨some 54, _, _, _, _, _⟩) rfl (fun K hK => ?_) AllReadyH.nil
  go_simp
  refine hK.out _ _ ⟨hT5.book, hT5.ltm⟩ (fun _ => ?_)
  clear hK K
  try simp only [Act.put, List.setIfInBounds_toArray, List.set_cons_zero, List.set_cons_succ]
  refine wpAnyH_ready (rs := [16]) (by kernel_rfl) (by simp) ?_
  refine AllReadyH.cons (o := ⟨some 65, _, _, _, _, _⟩) rfl (fun K hK => ?_) AllReadyH.nil
  rw [if_pos (by rfl)]
  refine wp_append_off (f := memCells) (n := 2) _ _ _ 144 (by rfl) _ 32 Try.underlying139 info_rmem rfl (by decide) (by decide) lenM wd.heap.size _ _ [] (t.ms.take k) (by rfl) (own_empty wd _) (by rfl) (part_takemems hT5.mems hkN) (fun b _ y hy => by simp [memCells] at hy; rcases hy with rfl | rfl <;> rfl) (by have := HN.out; simp; omega) (by simp) ?_
  intro v6 w6 hO6 hG6 hM6
  have hB6 : Below wd.heap.size wd w6 := hA1.trans ((Only.of_grown hG6).below (by simp) fun _ _ e => own_ge (own_empty (f := memCells) (n := 2) wd 144) e)
  obtain ⟨x6, k6, y6, he6⟩ := slice_any hO6
  subst he6
  have hT6 := hTd.on hB6
  refine hK.out _ _ ⟨hT6.book, hT6.ltm⟩ (fun _ => ?_)
  clear hK K
  try simp only [Act.put, List.setIfInBounds_toArray, List.set_cons_zero, List.set_cons_succ]
  refine wpAnyH_ready (rs := [28]) (by kernel_rfl) (by simp) ?_
  refine AllReadyH.cons (o := ⟨some 77, _, _, _, _, _⟩) rfl (fun K hK => ?_) AllReadyH.nil
  rw [if_pos (by rfl)]
  refine wp_append_off (f := memCells) (n := 2) _ _ _ 144 (by rfl) _ 32 Try.underlying139 info_rmem rfl (by decide) (by decide) lenM wd.heap.size _ _ ([] ++ t.ms.take k) (t.ms.drop (k + 1)) (by rfl) hO6 (by rfl) (part_dropmems hT6.mems hkN HN.out HO2.out) (fun b _ y hy => by simp [memCells] at hy; rcases hy with rfl | rfl <;> rfl) (by have := HN.out; simp; omega) hB6.size ?_
  intro v7 w7 hO7 hG7 hM7
  have hB7 : Below wd.heap.size wd w7 := hB6.trans ((Only.of_grown hG7).below hB6.size fun _ _ e => own_ge hO6 e)
  obtain ⟨x7, k7, y7, he7⟩ := slice_any hO7
  subst he7
  have hT7 := hTd.on hB7
  have f1 := hT7.c1
  have f0 := HFZ.out w7 (hBd.trans (hB7.mono hBd.size))
  refine hK.out _ _ ⟨hT7.book, hT7.ltm⟩ (fun _ => ?_)
  clear hK K
  try simp only [Act.put, List.setIfInBounds_toArray, List.set_cons_zero, List.set_cons_succ]
  refine wpAnyH_take (i := 29) (oi := ⟨some 78, _, _, _, _, _⟩) (v := ?_) rfl (by kernel_rfl) (by kernel_rfl) (by kernel_rfl) (fun _ _ _ h => h) (Or.inl ⟨by rfl, ?_⟩) (by assumption) ?_
  rotate_left
  · intro w hSw
    (try dsimp only at hSw)
    go_simp
    all_goals (with_reducible rfl)
  try simp only [Act.put, List.setIfInBounds_toArray, List.set_cons_zero, List.set_cons_succ]
  refine wpAnyH_take (i := 30) (oi := ⟨some 79, _, _, _, _, _⟩) (v := ?_) rfl (by kernel_rfl) (by kernel_rfl) (by kernel_rfl) (fun _ _ _ h => h) (Or.inl ⟨by rfl, ?_⟩) (by assumption) ?_
  rotate_left
  · intro w hSw
    (try dsimp only at hSw)
    go_simp
    all_goals (with_reducible rfl)
  try simp only [Act.put, List.setIfInBounds_toArray, List.set_cons_zero, List.set_cons_succ]
  refine wpAnyH_ready (rs := [31]) (by kernel_rfl) (by simp) ?_
  refine AllReadyH.cons (o := ⟨none, _, _, _, _, _⟩) rfl (fun K hK => ?_) AllReadyH.nil
  go_simp
  refine hK.out _ _ ⟨(World.cell?_setCell_other _ _ _ _ (fun e => HMG.out (by injection e with e _ _; exact e.symm))).trans hT7.book, by simpa using hT7.ltm⟩ (fun _ => ?_)
  clear hK K
  try simp only [Act.put]
  refine wpAnyH_done (by kernel_rfl) ?_ _
  refine NoPanic.normal ?_
  go_wp2
  go_ret
  exact ⟨rfl, wd, w7, _, k, hBd, hB7, hO7, hkx, hkn, rfl⟩

end Go.Proofs.Ytglcingpolpkdaa
