/- The reference's Join: the tenant is there. -/
import Derived.Test.YtglcingpolpkdaaRLeave
namespace Go.Proofs.Ytglcingpolpkdaa
open Go.RowKit

theorem own_down {w : World} {B B' n k : Nat} {e : TypeId} {v : Value} {xs : List Value} (hz : B ≤ B') (h : w.ownsRow B' e n v k xs) : w.ownsRow B e n v k xs := by
  obtain ⟨h1, h2⟩ := h
  refine ⟨h1, h2.imp id ?_⟩
  rintro ⟨g, cap, cur, e, hb, r⟩
  exact ⟨g, cap, cur, e, Nat.le_trans hz hb, r⟩
theorem cell_heap {w w' : World} {g off : Nat} (h : w'.heap[g]? = w.heap[g]?) : w'.cell? ⟨g, off, none⟩ = w.cell? ⟨g, off, none⟩ := by
  unfold World.cell?
  rw [h]
theorem src_only {α : Type} {f : α → List Value} {n : Nat} {w w' : World} {S : Nat → Prop} {v : Value} {l : List α} (h : SrcG f n w v l) (ho : Only w w' S) (hs : ∀ g, v.ownBlock = some g → ¬ S g) : SrcG f n w' v l := by
  rcases h with h | ⟨g, c, rfl, hg, hc⟩
  · exact .inl h
  · exact .inr ⟨g, c, rfl, Nat.lt_of_lt_of_le hg ho.size, fun i a ha j u hj => (cell_heap (ho.block g hg (hs g rfl))).trans (hc i a ha j u hj)⟩
theorem at_eq {w : World} {B b b' n k c l : Nat} {e : TypeId} {xs : List Value} (hb : b = b') (h : w.ownsRow B e n (.slice (some ⟨b, 0, none⟩) l c) k xs) : w.ownsRow B e n (.slice (some ⟨b', 0, none⟩) l c) k xs := hb ▸ h
theorem src_eq {α : Type} {f : α → List Value} {n b b' c l : Nat} {w : World} {xs : List α} (hb : b = b') (h : SrcG f n w (.slice (some ⟨b, 0, none⟩) l c) xs) : SrcG f n w (.slice (some ⟨b', 0, none⟩) l c) xs := hb ▸ h
theorem hasM_none {l : List (ByteArray × ByteArray)} {r : ByteArray × ByteArray} : hasM l r = false ↔ ∀ x ∈ l, eqM x r = false := by
  rw [← Bool.not_eq_true, hasM_iff]
  exact ⟨fun h x hx => Bool.not_eq_true _ ▸ fun e => h (eqM_iff.1 e ▸ hx), fun h hr => absurd (eqM_iff.2 rfl) (by rw [h r hr]; simp)⟩
/-- What Join leaves: new memory, and one cell written. -/
def JoinM (w w' : World) (g i : Nat) (ms : List (ByteArray × ByteArray)) (role who : ByteArray) : Prop :=
  ∃ wd w7 v7, Below w.heap.size w wd ∧ Below wd.heap.size wd w7 ∧ OwnN w7 wd.heap.size v7 ([] ++ ms ++ [(role, who)]) ∧ w' = w7.setCell ⟨g, i * 3 + 1, none⟩ v7
theorem refmember_no (w : World) (B : Nat) (name : ByteArray) (v : Value) (rv : Value) (l : List (ByteArray × ByteArray)) (r : (ByteArray × ByteArray)) (hv : OwnN w B v l) (hlen : l.length ≤ 1000) (hno : hasM l r = false) :
    Calls Try.prog 94 #[.agg #[.string name, v, rv], .agg #[.string r.1, .string r.2]] w fun e w' => e = .returned (.int .i64 (-1)) ∧ Below w.heap.size w w' := (refmember_calls w B name v rv l r hv hlen).mono fun e w' ⟨ix, he, h, hb⟩ => by
  rcases h with ⟨rfl, _⟩ | ⟨k, _, _, ⟨x, hx, hy⟩, _⟩
  · exact ⟨he, hb⟩
  · exact absurd hy (by rw [hasM_none.1 hno x (List.mem_of_getElem? hx)]; simp)
theorem refmember_yes (w : World) (B : Nat) (name : ByteArray) (v : Value) (rv : Value) (l : List (ByteArray × ByteArray)) (r : (ByteArray × ByteArray)) (hv : OwnN w B v l) (hlen : l.length ≤ 1000) (hin : hasM l r = true) :
    Calls Try.prog 94 #[.agg #[.string name, v, rv], .agg #[.string r.1, .string r.2]] w fun e w' => ∃ k : Nat, e = .returned (.int .i64 k) ∧ Below w.heap.size w w' := (refmember_calls w B name v rv l r hv hlen).mono fun e w' ⟨ix, he, h, hb⟩ => by
  rcases h with ⟨_, h⟩ | ⟨k, rfl, _⟩
  · exact absurd (eqM_iff.2 rfl) (by rw [h _ (hasM_iff.1 hin)]; simp)
  · exact ⟨k, he, hb⟩

set_option maxRecDepth 100000 in
set_option maxHeartbeats 4000000 in
theorem refjoin_there (W w : World) (m g i NT c N cm : Nat) (p : Option Addr) (rv : Value) (ts : List Tn) (t : Tn) (n role who : ByteArray) (h : RefIs W w m ts) (hlen : ts.length ≤ 1000) (hg : getT ts n = some (i, t)) (hT : TenR W.heap.size w m g i NT c (.slice p N cm) rv t) (hN : t.ms.length = N) (hml : N ≤ 1000) (hr : nameB role = true) (hw : nameB who = true) (hin : hasM t.ms (role, who) = true) :
    Calls Try.prog 59 #[.pointer (some ⟨m, 0, none⟩), .string n, .string role, .string who] w fun e w' => e = .returned (.int .i64 7) ∧ Below w.heap.size w w' := by
  have HAT := Lib.hid (refat_calls W w m ts n h hlen)
  unfold atT at HAT
  rw [hg] at HAT
  have HNR := Lib.hid (hr ▸ refname_calls w role)
  have HNW := Lib.hid (hw ▸ refname_calls w who)
  have HT := Lib.hid hT
  have HN := Lib.hid hN
  have q0 := hT.book
  have q1 := hT.c0
  have q2 := hT.c1
  have q3 := hT.c2
  have i0 : ¬ (i : Int) < 0 := by omega
  have i3 : 0 ≤ (i : Int) ∧ (i : Int) < (NT : Int) := by have := hT.lti; omega
  have HM := Lib.hid (refmember_yes w W.heap.size t.name _ rv t.ms (role, who) hT.mems (by rw [hN]; exact hml) hin)
  clear h hg hT hN hr hw hin
  go_enter Try.func59, Try.ntmps59
  go_wp2_with (first
    | (go_at_call 94; refine HM.out.mono ?_; rintro e w1 ⟨k, rfl, hB1⟩; have k1 : (0 : Int) ≤ (k : Int) := (by omega))
    | (go_at_call 93; refine HAT.out.mono ?_; rintro e w' ⟨rfl, hw⟩; rw [hw]; clear hw)
    | (go_at_call 92; refine HNW2.out.mono ?_; rintro e w' ⟨rfl, hw⟩; rw [hw]; clear hw)
    | (go_at_call 92; refine HNR.out.mono ?_; rintro e w' ⟨rfl, hw⟩; rw [hw]; clear hw; have HNW2 := HNW)
    | fail)
  go_ret
  exact ⟨rfl, hB1⟩

set_option maxRecDepth 100000 in
set_option maxHeartbeats 4000000 in
theorem refjoin_full (W w : World) (m g i NT c N cm : Nat) (p : Option Addr) (rv : Value) (ts : List Tn) (t : Tn) (n role who : ByteArray) (h : RefIs W w m ts) (hlen : ts.length ≤ 1000) (hg : getT ts n = some (i, t)) (hT : TenR W.heap.size w m g i NT c (.slice p N cm) rv t) (hN : t.ms.length = N) (hml : N ≤ 1000) (hr : nameB role = true) (hw : nameB who = true) (hin : hasM t.ms (role, who) = false) (hfull : 256 ≤ N) :
    Calls Try.prog 59 #[.pointer (some ⟨m, 0, none⟩), .string n, .string role, .string who] w fun e w' => e = .returned (.int .i64 8) ∧ Below w.heap.size w w' := by
  have HAT := Lib.hid (refat_calls W w m ts n h hlen)
  unfold atT at HAT
  rw [hg] at HAT
  have HNR := Lib.hid (hr ▸ refname_calls w role)
  have HNW := Lib.hid (hw ▸ refname_calls w who)
  have HT := Lib.hid hT
  have HN := Lib.hid hN
  have q0 := hT.book
  have q1 := hT.c0
  have q2 := hT.c1
  have q3 := hT.c2
  have i0 : ¬ (i : Int) < 0 := by omega
  have i3 : 0 ≤ (i : Int) ∧ (i : Int) < (NT : Int) := by have := hT.lti; omega
  have HM := Lib.hid (refmember_no w W.heap.size t.name _ rv t.ms (role, who) hT.mems (by rw [hN]; exact hml) hin)
  have n0 : (256 : Int) ≤ (N : Int) := by omega
  clear h hg hT hN hr hw hin hfull
  go_enter Try.func59, Try.ntmps59
  go_wp2_with (first
    | (go_at_call 94; refine HM.out.mono ?_; rintro e w1 ⟨rfl, hB1⟩; have hT1 := HT.out.on hB1; have q0 := hT1.book; have q1 := hT1.c0; have q2 := hT1.c1; have q3 := hT1.c2)
    | (go_at_call 93; refine HAT.out.mono ?_; rintro e w' ⟨rfl, hw⟩; rw [hw]; clear hw)
    | (go_at_call 92; refine HNW2.out.mono ?_; rintro e w' ⟨rfl, hw⟩; rw [hw]; clear hw)
    | (go_at_call 92; refine HNR.out.mono ?_; rintro e w' ⟨rfl, hw⟩; rw [hw]; clear hw; have HNW2 := HNW)
    | fail)
  go_ret
  exact ⟨rfl, hB1⟩

set_option maxRecDepth 100000 in
set_option maxHeartbeats 4000000 in
theorem refjoin_new (W w : World) (m g i NT c N cm : Nat) (p : Option Addr) (rv : Value) (ts : List Tn) (t : Tn) (n role who : ByteArray) (h : RefIs W w m ts) (hlen : ts.length ≤ 1000) (hg : getT ts n = some (i, t)) (hT : TenR W.heap.size w m g i NT c (.slice p N cm) rv t) (hN : t.ms.length = N) (hml : N ≤ 1000) (hr : nameB role = true) (hw : nameB who = true) (hin : hasM t.ms (role, who) = false) (hfull : N < 256) (hmg : m ≠ g) (hFZ : ∀ w7, Below w.heap.size w w7 → w7.frozen? ⟨g, i * 3 + 1, none⟩ = false) :
    Calls Try.prog 59 #[.pointer (some ⟨m, 0, none⟩), .string n, .string role, .string who] w fun e w' => e = .returned (.int .i64 0) ∧ JoinM w w' g i t.ms role who := by
  have HAT := Lib.hid (refat_calls W w m ts n h hlen)
  unfold atT at HAT
  rw [hg] at HAT
  have HNR := Lib.hid (hr ▸ refname_calls w role)
  have HNW := Lib.hid (hw ▸ refname_calls w who)
  have HT := Lib.hid hT
  have HN := Lib.hid hN
  have q0 := hT.book
  have q1 := hT.c0
  have q2 := hT.c1
  have q3 := hT.c2
  have i0 : ¬ (i : Int) < 0 := by omega
  have i3 : 0 ≤ (i : Int) ∧ (i : Int) < (NT : Int) := by have := hT.lti; omega
  have HM := Lib.hid (refmember_no w W.heap.size t.name _ rv t.ms (role, who) hT.mems (by rw [hN]; exact hml) hin)
  have n0 : ¬ (256 : Int) ≤ (N : Int) := by omega
  have HFZ := Lib.hid hFZ
  have HMG := Lib.hid hmg
  clear h hg hT hN hr hw hin hFZ hmg
  go_enter Try.func59, Try.ntmps59
  go_upto_region 10 with (first
    | (go_at_call 94; refine HM.out.mono ?_; rintro e w1 ⟨rfl, hB1⟩; have hT1 := HT.out.on hB1; have q0 := hT1.book; have q1 := hT1.c0; have q2 := hT1.c1; have q3 := hT1.c2)
    | (go_at_call 93; refine HAT.out.mono ?_; rintro e w' ⟨rfl, hw⟩; rw [hw]; clear hw)
    | (go_at_call 92; refine HNW2.out.mono ?_; rintro e w' ⟨rfl, hw⟩; rw [hw]; clear hw)
    | (go_at_call 92; refine HNR.out.mono ?_; rintro e w' ⟨rfl, hw⟩; rw [hw]; clear hw; have HNW2 := HNW)
    | fail)
  have hTc := HT.out.on hB1
  clear q0 q1 q2 q3
  refine wp_region_noPanic ?_
  refine wp_region_held_drew (S := fun w' => (w'.cell? ⟨m, 0, none⟩ = some (.slice (some ⟨g, 0, none⟩) NT c) ∧ m < w'.heap.size)) (by kernel_rfl) ⟨(hTc.on ((Below.refl _ _).drew)).book, hTc.ltm⟩ (fun hhS => ?_)
  have hTd := hTc.on ((Below.refl w1.heap.size w1).drew)
  have hBd := hB1.drew
  clear hhS
  generalize w1.drew = wd at hTd hBd ⊢
  have hB0 : Below wd.heap.size wd wd := Below.refl _ _
  have hhS := And.intro hTd.book hTd.ltm
  refine wpAnyH_take (i := 0) (oi := ⟨some 45, _, _, _, _, _⟩) (v := ?_) rfl (by kernel_rfl) (by kernel_rfl) (by kernel_rfl) (fun _ _ _ h => h) (Or.inl ⟨by rfl, ?_⟩) (by assumption) ?_
  rotate_left
  · intro w hSw
    (try dsimp only at hSw)
    go_simp
    all_goals (with_reducible rfl)
  try simp only [Act.put, List.setIfInBounds_toArray, List.set_cons_zero, List.set_cons_succ]
  refine wpAnyH_take (i := 1) (oi := ⟨some 46, _, _, _, _, _⟩) (v := ?_) rfl (by kernel_rfl) (by kernel_rfl) (by kernel_rfl) (fun _ _ _ h => h) (Or.inl ⟨by rfl, ?_⟩) (by assumption) ?_
  rotate_left
  · intro w hSw
    (try dsimp only at hSw)
    go_simp
    all_goals (with_reducible rfl)
  try simp only [Act.put, List.setIfInBounds_toArray, List.set_cons_zero, List.set_cons_succ]
  refine wpAnyH_take (i := 2) (oi := ⟨some 47, _, _, _, _, _⟩) (v := ?_) rfl (by kernel_rfl) (by kernel_rfl) (by kernel_rfl) (fun _ _ _ h => h) (Or.inl ⟨by rfl, ?_⟩) (by assumption) ?_
  rotate_left
  · intro w hSw
    (try dsimp only at hSw)
    go_simp
    all_goals (with_reducible rfl)
  try simp only [Act.put, List.setIfInBounds_toArray, List.set_cons_zero, List.set_cons_succ]
  refine wpAnyH_take (i := 3) (oi := ⟨some 48, _, _, _, _, _⟩) (v := ?_) rfl (by kernel_rfl) (by kernel_rfl) (by kernel_rfl) (fun _ _ _ h => h) (Or.inl ⟨by rfl, ?_⟩) (by assumption) ?_
  rotate_left
  · intro w hSw
    (try dsimp only at hSw)
    have y0 := hSw.1
    go_simp
    all_goals (with_reducible rfl)
  try simp only [Act.put, List.setIfInBounds_toArray, List.set_cons_zero, List.set_cons_succ]
  refine wpAnyH_take (i := 4) (oi := ⟨some 49, _, _, _, _, _⟩) (v := ?_) rfl (by kernel_rfl) (by kernel_rfl) (by kernel_rfl) (fun _ _ _ h => h) (Or.inl ⟨by rfl, ?_⟩) (by assumption) ?_
  rotate_left
  · intro w hSw
    (try dsimp only at hSw)
    go_simp
    all_goals (with_reducible rfl)
  try simp only [Act.put, List.setIfInBounds_toArray, List.set_cons_zero, List.set_cons_succ]
  refine wpAnyH_take (i := 6) (oi := ⟨some 51, _, _, _, _, _⟩) (v := ?_) rfl (by kernel_rfl) (by kernel_rfl) (by kernel_rfl) (fun _ _ _ h => h) (Or.inl ⟨by rfl, ?_⟩) (by assumption) ?_
  rotate_left
  · intro w hSw
    (try dsimp only at hSw)
    go_simp
    all_goals (with_reducible rfl)
  try simp only [Act.put, List.setIfInBounds_toArray, List.set_cons_zero, List.set_cons_succ]
  refine wpAnyH_take (i := 7) (oi := ⟨some 52, _, _, _, _, _⟩) (v := ?_) rfl (by kernel_rfl) (by kernel_rfl) (by kernel_rfl) (fun _ _ _ h => h) (Or.inl ⟨by rfl, ?_⟩) (by assumption) ?_
  rotate_left
  · intro w hSw
    (try dsimp only at hSw)
    go_simp
    all_goals (with_reducible rfl)
  try simp only [Act.put, List.setIfInBounds_toArray, List.set_cons_zero, List.set_cons_succ]
  refine wpAnyH_take (i := 8) (oi := ⟨some 53, _, _, _, _, _⟩) (v := ?_) rfl (by kernel_rfl) (by kernel_rfl) (by kernel_rfl) (fun _ _ _ h => h) (Or.inl ⟨by rfl, ?_⟩) (by assumption) ?_
  rotate_left
  · intro w hSw
    (try dsimp only at hSw)
    go_simp
    all_goals (with_reducible rfl)
  try simp only [Act.put, List.setIfInBounds_toArray, List.set_cons_zero, List.set_cons_succ]
  refine wpAnyH_take (i := 9) (oi := ⟨some 54, _, _, _, _, _⟩) (v := ?_) rfl (by kernel_rfl) (by kernel_rfl) (by kernel_rfl) (fun _ _ _ h => h) (Or.inl ⟨by rfl, ?_⟩) (by assumption) ?_
  rotate_left
  · intro w hSw
    (try dsimp only at hSw)
    have y0 := hSw.1
    go_simp
    all_goals (with_reducible rfl)
  try simp only [Act.put, List.setIfInBounds_toArray, List.set_cons_zero, List.set_cons_succ]
  refine wpAnyH_take (i := 10) (oi := ⟨some 55, _, _, _, _, _⟩) (v := ?_) rfl (by kernel_rfl) (by kernel_rfl) (by kernel_rfl) (fun _ _ _ h => h) (Or.inl ⟨by rfl, ?_⟩) (by assumption) ?_
  rotate_left
  · intro w hSw
    (try dsimp only at hSw)
    go_simp
    all_goals (with_reducible rfl)
  try simp only [Act.put, List.setIfInBounds_toArray, List.set_cons_zero, List.set_cons_succ]
  refine wpAnyH_take (i := 11) (oi := ⟨some 56, _, _, _, _, _⟩) (v := ?_) rfl (by kernel_rfl) (by kernel_rfl) (by kernel_rfl) (fun _ _ _ h => h) (Or.inl ⟨by rfl, ?_⟩) (by assumption) ?_
  rotate_left
  · intro w hSw
    (try dsimp only at hSw)
    go_simp
    all_goals (with_reducible rfl)
  try simp only [Act.put, List.setIfInBounds_toArray, List.set_cons_zero, List.set_cons_succ]
  refine wpAnyH_take (i := 12) (oi := ⟨some 57, _, _, _, _, _⟩) (v := ?_) rfl (by kernel_rfl) (by kernel_rfl) (by kernel_rfl) (fun _ _ _ h => h) (Or.inl ⟨by rfl, ?_⟩) (by assumption) ?_
  rotate_left
  · intro w hSw
    (try dsimp only at hSw)
    go_simp
    all_goals (with_reducible rfl)
  try simp only [Act.put, List.setIfInBounds_toArray, List.set_cons_zero, List.set_cons_succ]
  refine wpAnyH_take (i := 15) (oi := ⟨some 60, _, _, _, _, _⟩) (v := ?_) rfl (by kernel_rfl) (by kernel_rfl) (by kernel_rfl) (fun _ _ _ h => h) (Or.inl ⟨by rfl, ?_⟩) (by assumption) ?_
  rotate_left
  · intro w hSw
    (try dsimp only at hSw)
    go_simp
    all_goals (with_reducible rfl)
  try simp only [Act.put, List.setIfInBounds_toArray, List.set_cons_zero, List.set_cons_succ]
  refine wpAnyH_take (i := 16) (oi := ⟨some 61, _, _, _, _, _⟩) (v := ?_) rfl (by kernel_rfl) (by kernel_rfl) (by kernel_rfl) (fun _ _ _ h => h) (Or.inl ⟨by rfl, ?_⟩) (by assumption) ?_
  rotate_left
  · intro w hSw
    (try dsimp only at hSw)
    go_simp
    all_goals (with_reducible rfl)
  try simp only [Act.put, List.setIfInBounds_toArray, List.set_cons_zero, List.set_cons_succ]
  refine wpAnyH_take (i := 17) (oi := ⟨some 62, _, _, _, _, _⟩) (v := ?_) rfl (by kernel_rfl) (by kernel_rfl) (by kernel_rfl) (fun _ _ _ h => h) (Or.inl ⟨by rfl, ?_⟩) (by assumption) ?_
  rotate_left
  · intro w hSw
    (try dsimp only at hSw)
    go_simp
    all_goals (with_reducible rfl)
  try simp only [Act.put, List.setIfInBounds_toArray, List.set_cons_zero, List.set_cons_succ]
  refine wpAnyH_ready (rs := [5, 13, 18]) (by kernel_rfl) (by simp) ?_
  refine AllReadyH.cons (o := ⟨some 50, _, _, _, _, _⟩) rfl (fun K hK => ?_) ?_
  · have hA : Below wd.heap.size wd (wd.alloc (.cells #[] 144)) := (Below.refl _ _).alloc (Nat.le_refl _) _
    have hT1 := hTd.on hA
    have hB1 := hB0.trans (hA.mono hB0.size)
    have hOe : (wd.alloc (.cells #[] 144)).ownsRow wd.heap.size 144 2 (.slice (some ⟨wd.heap.size, 0, none⟩) 0 0) ([] : List _).length (([] : List _).flatMap memCells) := own_down hB0.size (at_eq (by simp) (own_empty (f := memCells) (n := 2) wd 144))
    go_simp
    refine hK.out _ _ ⟨hT1.book, hT1.ltm⟩ (fun _ => ?_)
    clear hK K hA
    try simp only [Act.put, List.setIfInBounds_toArray, List.set_cons_zero, List.set_cons_succ]
    refine wpAnyH_ready (rs := [13, 18]) (by kernel_rfl) (by simp) ?_
    refine AllReadyH.cons (o := ⟨some 58, _, _, _, _, _⟩) rfl (fun K hK => ?_) ?_
    · have y1 := hT1.c1
      go_simp
      refine hK.out _ _ ⟨hT1.book, hT1.ltm⟩ (fun _ => ?_)
      clear hK K y1
      try simp only [Act.put, List.setIfInBounds_toArray, List.set_cons_zero, List.set_cons_succ]
      refine wpAnyH_ready (rs := [14, 18]) (by kernel_rfl) (by simp) ?_
      refine AllReadyH.cons (o := ⟨some 59, _, _, _, _, _⟩) rfl (fun K hK => ?_) ?_
      · rw [if_pos (by rfl)]
        refine wp_append_gen (f := memCells) (n := 2) _ _ _ 144 (by rfl) _ 32 Try.underlying139 info_rmem rfl (by decide) (by decide) lenM wd.heap.size _ _ [] t.ms (by rfl) hOe (by rfl) (src_of_own lenM hT1.mems) (fun b _ y hy => by simp [memCells] at hy; rcases hy with rfl | rfl <;> rfl) (by have := HN.out; simp; omega) hB1.size ?_
        intro v6 w6 hO6 hG6 hM6
        have hB2 := hB1.trans ((Only.of_grown hG6).below hB1.size fun _ _ e => own_ge hOe e)
        obtain ⟨x6, k6, y6, he6⟩ := slice_any hO6
        subst he6
        have hT2 := hTd.on hB2
        refine hK.out _ _ ⟨hT2.book, hT2.ltm⟩ (fun _ => ?_)
        clear hK K hOe hG6 hM6
        try simp only [Act.put, List.setIfInBounds_toArray, List.set_cons_zero, List.set_cons_succ]
        refine wpAnyH_ready (rs := [18]) (by kernel_rfl) (by simp) ?_
        refine AllReadyH.cons (o := ⟨some 63, _, _, _, _, _⟩) rfl (fun K hK => ?_) AllReadyH.nil
        have hA : Below w6.heap.size w6 (w6.alloc (.cells #[.string role, .string who] 144)) := (Below.refl _ _).alloc (Nat.le_refl _) _
        have hT3 := hT2.on hA
        have hB3 := hB2.trans (hA.mono hB2.size)
        have hO6 := row_low hO6 hA
        have hJ : SrcG memCells 2 (w6.alloc (.cells #[.string role, .string who] 144)) (.slice (some ⟨w6.heap.size, 0, none⟩) 1 1) [(role, who)] := src_eq (by simp) (src_new (f := memCells) (n := 2) w6 144 (role, who))
        go_simp
        refine hK.out _ _ ⟨hT3.book, hT3.ltm⟩ (fun _ => ?_)
        clear hK K hA
        try simp only [Act.put, List.setIfInBounds_toArray, List.set_cons_zero, List.set_cons_succ]
        refine wpAnyH_ready (rs := [19]) (by kernel_rfl) (by simp) ?_
        refine AllReadyH.cons (o := ⟨some 64, _, _, _, _, _⟩) rfl (fun K hK => ?_) AllReadyH.nil
        rw [if_pos (by rfl)]
        refine wp_append_gen (f := memCells) (n := 2) _ _ _ 144 (by rfl) _ 32 Try.underlying139 info_rmem rfl (by decide) (by decide) lenM wd.heap.size _ _ ([] ++ t.ms) [(role, who)] (by rfl) hO6 (by rfl) hJ (fun b hb y hy => by simp at hb; subst hb; simp [memCells] at hy; rcases hy with rfl | rfl <;> rfl) (by have := HN.out; simp; omega) hB3.size ?_
        intro v7 w7 hO7 hG7 hM7
        have hB7 := hB3.trans ((Only.of_grown hG7).below hB3.size fun _ _ e => own_ge hO6 e)
        obtain ⟨x7, k7, y7, he7⟩ := slice_any hO7
        subst he7
        have hT7 := hTd.on hB7
        have f1 := hT7.c1
        have f0 := HFZ.out w7 (hBd.trans (hB7.mono hBd.size))
        refine hK.out _ _ ⟨hT7.book, hT7.ltm⟩ (fun _ => ?_)
        clear hK K
        try simp only [Act.put, List.setIfInBounds_toArray, List.set_cons_zero, List.set_cons_succ]
        refine wpAnyH_take (i := 20) (oi := ⟨some 65, _, _, _, _, _⟩) (v := ?_) rfl (by kernel_rfl) (by kernel_rfl) (by kernel_rfl) (fun _ _ _ h => h) (Or.inl ⟨by rfl, ?_⟩) (by assumption) ?_
        rotate_left
        · intro w hSw
          (try dsimp only at hSw)
          go_simp
          all_goals (with_reducible rfl)
        try simp only [Act.put, List.setIfInBounds_toArray, List.set_cons_zero, List.set_cons_succ]
        refine wpAnyH_take (i := 21) (oi := ⟨some 66, _, _, _, _, _⟩) (v := ?_) rfl (by kernel_rfl) (by kernel_rfl) (by kernel_rfl) (fun _ _ _ h => h) (Or.inl ⟨by rfl, ?_⟩) (by assumption) ?_
        rotate_left
        · intro w hSw
          (try dsimp only at hSw)
          go_simp
          all_goals (with_reducible rfl)
        try simp only [Act.put, List.setIfInBounds_toArray, List.set_cons_zero, List.set_cons_succ]
        refine wpAnyH_ready (rs := [22]) (by kernel_rfl) (by simp) ?_
        refine AllReadyH.cons (o := ⟨none, _, _, _, _, _⟩) rfl (fun K hK => ?_) AllReadyH.nil
        go_simp
        refine hK.out _ _ ⟨(World.cell?_setCell_other _ _ _ _ (fun e => HMG.out (by injection e with e _ _; exact e.symm))).trans hT7.book, by simpa using hT7.ltm⟩ (fun _ => ?_)
        clear hK K
        try simp only [Act.put]
        refine wpAnyH_done (by kernel_rfl) ?_ _
        refine NoPanic.normal ?_
        go_wp2
        go_ret
        exact ⟨rfl, wd, w7, _, hBd, hB7, hO7, rfl⟩
      refine AllReadyH.cons (o := ⟨some 63, _, _, _, _, _⟩) rfl (fun K hK => ?_) AllReadyH.nil
      have hA : Below (wd.alloc (.cells #[] 144)).heap.size (wd.alloc (.cells #[] 144)) ((wd.alloc (.cells #[] 144)).alloc (.cells #[.string role, .string who] 144)) := (Below.refl _ _).alloc (Nat.le_refl _) _
      have hT2 := hT1.on hA
      have hB2 := hB1.trans (hA.mono hB1.size)
      have hOe := row_low hOe hA
      have hJ : SrcG memCells 2 ((wd.alloc (.cells #[] 144)).alloc (.cells #[.string role, .string who] 144)) (.slice (some ⟨wd.heap.size + 1, 0, none⟩) 1 1) [(role, who)] := src_eq (by simp) (src_new (f := memCells) (n := 2) (wd.alloc (.cells #[] 144)) 144 (role, who))
      go_simp
      refine hK.out _ _ ⟨hT2.book, hT2.ltm⟩ (fun _ => ?_)
      clear hK K hA
      try simp only [Act.put, List.setIfInBounds_toArray, List.set_cons_zero, List.set_cons_succ]
      refine wpAnyH_ready (rs := [14]) (by kernel_rfl) (by simp) ?_
      refine AllReadyH.cons (o := ⟨some 59, _, _, _, _, _⟩) rfl (fun K hK => ?_) AllReadyH.nil
      rw [if_pos (by rfl)]
      refine wp_append_gen (f := memCells) (n := 2) _ _ _ 144 (by rfl) _ 32 Try.underlying139 info_rmem rfl (by decide) (by decide) lenM wd.heap.size _ _ [] t.ms (by rfl) hOe (by rfl) (src_of_own lenM hT2.mems) (fun b _ y hy => by simp [memCells] at hy; rcases hy with rfl | rfl <;> rfl) (by have := HN.out; simp; omega) hB2.size ?_
      intro v6 w6 hO6 hG6 hM6
      have hB3 := hB2.trans ((Only.of_grown hG6).below hB2.size fun _ _ e => own_ge hOe e)
      obtain ⟨x6, k6, y6, he6⟩ := slice_any hO6
      subst he6
      have hT3 := hTd.on hB3
      have hJ := src_only hJ (Only.of_grown hG6) (fun g e => by simp [Value.ownBlock] at e ⊢; omega)
      refine hK.out _ _ ⟨hT3.book, hT3.ltm⟩ (fun _ => ?_)
      clear hK K hOe hG6 hM6
      try simp only [Act.put, List.setIfInBounds_toArray, List.set_cons_zero, List.set_cons_succ]
      refine wpAnyH_ready (rs := [19]) (by kernel_rfl) (by simp) ?_
      refine AllReadyH.cons (o := ⟨some 64, _, _, _, _, _⟩) rfl (fun K hK => ?_) AllReadyH.nil
      rw [if_pos (by rfl)]
      refine wp_append_gen (f := memCells) (n := 2) _ _ _ 144 (by rfl) _ 32 Try.underlying139 info_rmem rfl (by decide) (by decide) lenM wd.heap.size _ _ ([] ++ t.ms) [(role, who)] (by rfl) hO6 (by rfl) hJ (fun b hb y hy => by simp at hb; subst hb; simp [memCells] at hy; rcases hy with rfl | rfl <;> rfl) (by have := HN.out; simp; omega) hB3.size ?_
      intro v7 w7 hO7 hG7 hM7
      have hB7 := hB3.trans ((Only.of_grown hG7).below hB3.size fun _ _ e => own_ge hO6 e)
      obtain ⟨x7, k7, y7, he7⟩ := slice_any hO7
      subst he7
      have hT7 := hTd.on hB7
      have f1 := hT7.c1
      have f0 := HFZ.out w7 (hBd.trans (hB7.mono hBd.size))
      refine hK.out _ _ ⟨hT7.book, hT7.ltm⟩ (fun _ => ?_)
      clear hK K
      try simp only [Act.put, List.setIfInBounds_toArray, List.set_cons_zero, List.set_cons_succ]
      refine wpAnyH_take (i := 20) (oi := ⟨some 65, _, _, _, _, _⟩) (v := ?_) rfl (by kernel_rfl) (by kernel_rfl) (by kernel_rfl) (fun _ _ _ h => h) (Or.inl ⟨by rfl, ?_⟩) (by assumption) ?_
      rotate_left
      · intro w hSw
        (try dsimp only at hSw)
        go_simp
        all_goals (with_reducible rfl)
      try simp only [Act.put, List.setIfInBounds_toArray, List.set_cons_zero, List.set_cons_succ]
      refine wpAnyH_take (i := 21) (oi := ⟨some 66, _, _, _, _, _⟩) (v := ?_) rfl (by kernel_rfl) (by kernel_rfl) (by kernel_rfl) (fun _ _ _ h => h) (Or.inl ⟨by rfl, ?_⟩) (by assumption) ?_
      rotate_left
      · intro w hSw
        (try dsimp only at hSw)
        go_simp
        all_goals (with_reducible rfl)
      try simp only [Act.put, List.setIfInBounds_toArray, List.set_cons_zero, List.set_cons_succ]
      refine wpAnyH_ready (rs := [22]) (by kernel_rfl) (by simp) ?_
      refine AllReadyH.cons (o := ⟨none, _, _, _, _, _⟩) rfl (fun K hK => ?_) AllReadyH.nil
      go_simp
      refine hK.out _ _ ⟨(World.cell?_setCell_other _ _ _ _ (fun e => HMG.out (by injection e with e _ _; exact e.symm))).trans hT7.book, by simpa using hT7.ltm⟩ (fun _ => ?_)
      clear hK K
      try simp only [Act.put]
      refine wpAnyH_done (by kernel_rfl) ?_ _
      refine NoPanic.normal ?_
      go_wp2
      go_ret
      exact ⟨rfl, wd, w7, _, hBd, hB7, hO7, rfl⟩
    refine AllReadyH.cons (o := ⟨some 63, _, _, _, _, _⟩) rfl (fun K hK => ?_) AllReadyH.nil
    have hA : Below (wd.alloc (.cells #[] 144)).heap.size (wd.alloc (.cells #[] 144)) ((wd.alloc (.cells #[] 144)).alloc (.cells #[.string role, .string who] 144)) := (Below.refl _ _).alloc (Nat.le_refl _) _
    have hT2 := hT1.on hA
    have hB2 := hB1.trans (hA.mono hB1.size)
    have hOe := row_low hOe hA
    have hJ : SrcG memCells 2 ((wd.alloc (.cells #[] 144)).alloc (.cells #[.string role, .string who] 144)) (.slice (some ⟨wd.heap.size + 1, 0, none⟩) 1 1) [(role, who)] := src_eq (by simp) (src_new (f := memCells) (n := 2) (wd.alloc (.cells #[] 144)) 144 (role, who))
    go_simp
    refine hK.out _ _ ⟨hT2.book, hT2.ltm⟩ (fun _ => ?_)
    clear hK K hA
    try simp only [Act.put, List.setIfInBounds_toArray, List.set_cons_zero, List.set_cons_succ]
    refine wpAnyH_ready (rs := [13]) (by kernel_rfl) (by simp) ?_
    refine AllReadyH.cons (o := ⟨some 58, _, _, _, _, _⟩) rfl (fun K hK => ?_) AllReadyH.nil
    have y1 := hT2.c1
    go_simp
    refine hK.out _ _ ⟨hT2.book, hT2.ltm⟩ (fun _ => ?_)
    clear hK K y1
    try simp only [Act.put, List.setIfInBounds_toArray, List.set_cons_zero, List.set_cons_succ]
    refine wpAnyH_ready (rs := [14]) (by kernel_rfl) (by simp) ?_
    refine AllReadyH.cons (o := ⟨some 59, _, _, _, _, _⟩) rfl (fun K hK => ?_) AllReadyH.nil
    rw [if_pos (by rfl)]
    refine wp_append_gen (f := memCells) (n := 2) _ _ _ 144 (by rfl) _ 32 Try.underlying139 info_rmem rfl (by decide) (by decide) lenM wd.heap.size _ _ [] t.ms (by rfl) hOe (by rfl) (src_of_own lenM hT2.mems) (fun b _ y hy => by simp [memCells] at hy; rcases hy with rfl | rfl <;> rfl) (by have := HN.out; simp; omega) hB2.size ?_
    intro v6 w6 hO6 hG6 hM6
    have hB3 := hB2.trans ((Only.of_grown hG6).below hB2.size fun _ _ e => own_ge hOe e)
    obtain ⟨x6, k6, y6, he6⟩ := slice_any hO6
    subst he6
    have hT3 := hTd.on hB3
    have hJ := src_only hJ (Only.of_grown hG6) (fun g e => by simp [Value.ownBlock] at e ⊢; omega)
    refine hK.out _ _ ⟨hT3.book, hT3.ltm⟩ (fun _ => ?_)
    clear hK K hOe hG6 hM6
    try simp only [Act.put, List.setIfInBounds_toArray, List.set_cons_zero, List.set_cons_succ]
    refine wpAnyH_ready (rs := [19]) (by kernel_rfl) (by simp) ?_
    refine AllReadyH.cons (o := ⟨some 64, _, _, _, _, _⟩) rfl (fun K hK => ?_) AllReadyH.nil
    rw [if_pos (by rfl)]
    refine wp_append_gen (f := memCells) (n := 2) _ _ _ 144 (by rfl) _ 32 Try.underlying139 info_rmem rfl (by decide) (by decide) lenM wd.heap.size _ _ ([] ++ t.ms) [(role, who)] (by rfl) hO6 (by rfl) hJ (fun b hb y hy => by simp at hb; subst hb; simp [memCells] at hy; rcases hy with rfl | rfl <;> rfl) (by have := HN.out; simp; omega) hB3.size ?_
    intro v7 w7 hO7 hG7 hM7
    have hB7 := hB3.trans ((Only.of_grown hG7).below hB3.size fun _ _ e => own_ge hO6 e)
    obtain ⟨x7, k7, y7, he7⟩ := slice_any hO7
    subst he7
    have hT7 := hTd.on hB7
    have f1 := hT7.c1
    have f0 := HFZ.out w7 (hBd.trans (hB7.mono hBd.size))
    refine hK.out _ _ ⟨hT7.book, hT7.ltm⟩ (fun _ => ?_)
    clear hK K
    try simp only [Act.put, List.setIfInBounds_toArray, List.set_cons_zero, List.set_cons_succ]
    refine wpAnyH_take (i := 20) (oi := ⟨some 65, _, _, _, _, _⟩) (v := ?_) rfl (by kernel_rfl) (by kernel_rfl) (by kernel_rfl) (fun _ _ _ h => h) (Or.inl ⟨by rfl, ?_⟩) (by assumption) ?_
    rotate_left
    · intro w hSw
      (try dsimp only at hSw)
      go_simp
      all_goals (with_reducible rfl)
    try simp only [Act.put, List.setIfInBounds_toArray, List.set_cons_zero, List.set_cons_succ]
    refine wpAnyH_take (i := 21) (oi := ⟨some 66, _, _, _, _, _⟩) (v := ?_) rfl (by kernel_rfl) (by kernel_rfl) (by kernel_rfl) (fun _ _ _ h => h) (Or.inl ⟨by rfl, ?_⟩) (by assumption) ?_
    rotate_left
    · intro w hSw
      (try dsimp only at hSw)
      go_simp
      all_goals (with_reducible rfl)
    try simp only [Act.put, List.setIfInBounds_toArray, List.set_cons_zero, List.set_cons_succ]
    refine wpAnyH_ready (rs := [22]) (by kernel_rfl) (by simp) ?_
    refine AllReadyH.cons (o := ⟨none, _, _, _, _, _⟩) rfl (fun K hK => ?_) AllReadyH.nil
    go_simp
    refine hK.out _ _ ⟨(World.cell?_setCell_other _ _ _ _ (fun e => HMG.out (by injection e with e _ _; exact e.symm))).trans hT7.book, by simpa using hT7.ltm⟩ (fun _ => ?_)
    clear hK K
    try simp only [Act.put]
    refine wpAnyH_done (by kernel_rfl) ?_ _
    refine NoPanic.normal ?_
    go_wp2
    go_ret
    exact ⟨rfl, wd, w7, _, hBd, hB7, hO7, rfl⟩
  refine AllReadyH.cons (o := ⟨some 58, _, _, _, _, _⟩) rfl (fun K hK => ?_) ?_
  · have y1 := hTd.c1
    go_simp
    refine hK.out _ _ ⟨hTd.book, hTd.ltm⟩ (fun _ => ?_)
    clear hK K y1
    try simp only [Act.put, List.setIfInBounds_toArray, List.set_cons_zero, List.set_cons_succ]
    refine wpAnyH_ready (rs := [5, 18]) (by kernel_rfl) (by simp) ?_
    refine AllReadyH.cons (o := ⟨some 50, _, _, _, _, _⟩) rfl (fun K hK => ?_) ?_
    · have hA : Below wd.heap.size wd (wd.alloc (.cells #[] 144)) := (Below.refl _ _).alloc (Nat.le_refl _) _
      have hT1 := hTd.on hA
      have hB1 := hB0.trans (hA.mono hB0.size)
      have hOe : (wd.alloc (.cells #[] 144)).ownsRow wd.heap.size 144 2 (.slice (some ⟨wd.heap.size, 0, none⟩) 0 0) ([] : List _).length (([] : List _).flatMap memCells) := own_down hB0.size (at_eq (by simp) (own_empty (f := memCells) (n := 2) wd 144))
      go_simp
      refine hK.out _ _ ⟨hT1.book, hT1.ltm⟩ (fun _ => ?_)
      clear hK K hA
      try simp only [Act.put, List.setIfInBounds_toArray, List.set_cons_zero, List.set_cons_succ]
      refine wpAnyH_ready (rs := [14, 18]) (by kernel_rfl) (by simp) ?_
      refine AllReadyH.cons (o := ⟨some 59, _, _, _, _, _⟩) rfl (fun K hK => ?_) ?_
      · rw [if_pos (by rfl)]
        refine wp_append_gen (f := memCells) (n := 2) _ _ _ 144 (by rfl) _ 32 Try.underlying139 info_rmem rfl (by decide) (by decide) lenM wd.heap.size _ _ [] t.ms (by rfl) hOe (by rfl) (src_of_own lenM hT1.mems) (fun b _ y hy => by simp [memCells] at hy; rcases hy with rfl | rfl <;> rfl) (by have := HN.out; simp; omega) hB1.size ?_
        intro v6 w6 hO6 hG6 hM6
        have hB2 := hB1.trans ((Only.of_grown hG6).below hB1.size fun _ _ e => own_ge hOe e)
        obtain ⟨x6, k6, y6, he6⟩ := slice_any hO6
        subst he6
        have hT2 := hTd.on hB2
        refine hK.out _ _ ⟨hT2.book, hT2.ltm⟩ (fun _ => ?_)
        clear hK K hOe hG6 hM6
        try simp only [Act.put, List.setIfInBounds_toArray, List.set_cons_zero, List.set_cons_succ]
        refine wpAnyH_ready (rs := [18]) (by kernel_rfl) (by simp) ?_
        refine AllReadyH.cons (o := ⟨some 63, _, _, _, _, _⟩) rfl (fun K hK => ?_) AllReadyH.nil
        have hA : Below w6.heap.size w6 (w6.alloc (.cells #[.string role, .string who] 144)) := (Below.refl _ _).alloc (Nat.le_refl _) _
        have hT3 := hT2.on hA
        have hB3 := hB2.trans (hA.mono hB2.size)
        have hO6 := row_low hO6 hA
        have hJ : SrcG memCells 2 (w6.alloc (.cells #[.string role, .string who] 144)) (.slice (some ⟨w6.heap.size, 0, none⟩) 1 1) [(role, who)] := src_eq (by simp) (src_new (f := memCells) (n := 2) w6 144 (role, who))
        go_simp
        refine hK.out _ _ ⟨hT3.book, hT3.ltm⟩ (fun _ => ?_)
        clear hK K hA
        try simp only [Act.put, List.setIfInBounds_toArray, List.set_cons_zero, List.set_cons_succ]
        refine wpAnyH_ready (rs := [19]) (by kernel_rfl) (by simp) ?_
        refine AllReadyH.cons (o := ⟨some 64, _, _, _, _, _⟩) rfl (fun K hK => ?_) AllReadyH.nil
        rw [if_pos (by rfl)]
        refine wp_append_gen (f := memCells) (n := 2) _ _ _ 144 (by rfl) _ 32 Try.underlying139 info_rmem rfl (by decide) (by decide) lenM wd.heap.size _ _ ([] ++ t.ms) [(role, who)] (by rfl) hO6 (by rfl) hJ (fun b hb y hy => by simp at hb; subst hb; simp [memCells] at hy; rcases hy with rfl | rfl <;> rfl) (by have := HN.out; simp; omega) hB3.size ?_
        intro v7 w7 hO7 hG7 hM7
        have hB7 := hB3.trans ((Only.of_grown hG7).below hB3.size fun _ _ e => own_ge hO6 e)
        obtain ⟨x7, k7, y7, he7⟩ := slice_any hO7
        subst he7
        have hT7 := hTd.on hB7
        have f1 := hT7.c1
        have f0 := HFZ.out w7 (hBd.trans (hB7.mono hBd.size))
        refine hK.out _ _ ⟨hT7.book, hT7.ltm⟩ (fun _ => ?_)
        clear hK K
        try simp only [Act.put, List.setIfInBounds_toArray, List.set_cons_zero, List.set_cons_succ]
        refine wpAnyH_take (i := 20) (oi := ⟨some 65, _, _, _, _, _⟩) (v := ?_) rfl (by kernel_rfl) (by kernel_rfl) (by kernel_rfl) (fun _ _ _ h => h) (Or.inl ⟨by rfl, ?_⟩) (by assumption) ?_
        rotate_left
        · intro w hSw
          (try dsimp only at hSw)
          go_simp
          all_goals (with_reducible rfl)
        try simp only [Act.put, List.setIfInBounds_toArray, List.set_cons_zero, List.set_cons_succ]
        refine wpAnyH_take (i := 21) (oi := ⟨some 66, _, _, _, _, _⟩) (v := ?_) rfl (by kernel_rfl) (by kernel_rfl) (by kernel_rfl) (fun _ _ _ h => h) (Or.inl ⟨by rfl, ?_⟩) (by assumption) ?_
        rotate_left
        · intro w hSw
          (try dsimp only at hSw)
          go_simp
          all_goals (with_reducible rfl)
        try simp only [Act.put, List.setIfInBounds_toArray, List.set_cons_zero, List.set_cons_succ]
        refine wpAnyH_ready (rs := [22]) (by kernel_rfl) (by simp) ?_
        refine AllReadyH.cons (o := ⟨none, _, _, _, _, _⟩) rfl (fun K hK => ?_) AllReadyH.nil
        go_simp
        refine hK.out _ _ ⟨(World.cell?_setCell_other _ _ _ _ (fun e => HMG.out (by injection e with e _ _; exact e.symm))).trans hT7.book, by simpa using hT7.ltm⟩ (fun _ => ?_)
        clear hK K
        try simp only [Act.put]
        refine wpAnyH_done (by kernel_rfl) ?_ _
        refine NoPanic.normal ?_
        go_wp2
        go_ret
        exact ⟨rfl, wd, w7, _, hBd, hB7, hO7, rfl⟩
      refine AllReadyH.cons (o := ⟨some 63, _, _, _, _, _⟩) rfl (fun K hK => ?_) AllReadyH.nil
      have hA : Below (wd.alloc (.cells #[] 144)).heap.size (wd.alloc (.cells #[] 144)) ((wd.alloc (.cells #[] 144)).alloc (.cells #[.string role, .string who] 144)) := (Below.refl _ _).alloc (Nat.le_refl _) _
      have hT2 := hT1.on hA
      have hB2 := hB1.trans (hA.mono hB1.size)
      have hOe := row_low hOe hA
      have hJ : SrcG memCells 2 ((wd.alloc (.cells #[] 144)).alloc (.cells #[.string role, .string who] 144)) (.slice (some ⟨wd.heap.size + 1, 0, none⟩) 1 1) [(role, who)] := src_eq (by simp) (src_new (f := memCells) (n := 2) (wd.alloc (.cells #[] 144)) 144 (role, who))
      go_simp
      refine hK.out _ _ ⟨hT2.book, hT2.ltm⟩ (fun _ => ?_)
      clear hK K hA
      try simp only [Act.put, List.setIfInBounds_toArray, List.set_cons_zero, List.set_cons_succ]
      refine wpAnyH_ready (rs := [14]) (by kernel_rfl) (by simp) ?_
      refine AllReadyH.cons (o := ⟨some 59, _, _, _, _, _⟩) rfl (fun K hK => ?_) AllReadyH.nil
      rw [if_pos (by rfl)]
      refine wp_append_gen (f := memCells) (n := 2) _ _ _ 144 (by rfl) _ 32 Try.underlying139 info_rmem rfl (by decide) (by decide) lenM wd.heap.size _ _ [] t.ms (by rfl) hOe (by rfl) (src_of_own lenM hT2.mems) (fun b _ y hy => by simp [memCells] at hy; rcases hy with rfl | rfl <;> rfl) (by have := HN.out; simp; omega) hB2.size ?_
      intro v6 w6 hO6 hG6 hM6
      have hB3 := hB2.trans ((Only.of_grown hG6).below hB2.size fun _ _ e => own_ge hOe e)
      obtain ⟨x6, k6, y6, he6⟩ := slice_any hO6
      subst he6
      have hT3 := hTd.on hB3
      have hJ := src_only hJ (Only.of_grown hG6) (fun g e => by simp [Value.ownBlock] at e ⊢; omega)
      refine hK.out _ _ ⟨hT3.book, hT3.ltm⟩ (fun _ => ?_)
      clear hK K hOe hG6 hM6
      try simp only [Act.put, List.setIfInBounds_toArray, List.set_cons_zero, List.set_cons_succ]
      refine wpAnyH_ready (rs := [19]) (by kernel_rfl) (by simp) ?_
      refine AllReadyH.cons (o := ⟨some 64, _, _, _, _, _⟩) rfl (fun K hK => ?_) AllReadyH.nil
      rw [if_pos (by rfl)]
      refine wp_append_gen (f := memCells) (n := 2) _ _ _ 144 (by rfl) _ 32 Try.underlying139 info_rmem rfl (by decide) (by decide) lenM wd.heap.size _ _ ([] ++ t.ms) [(role, who)] (by rfl) hO6 (by rfl) hJ (fun b hb y hy => by simp at hb; subst hb; simp [memCells] at hy; rcases hy with rfl | rfl <;> rfl) (by have := HN.out; simp; omega) hB3.size ?_
      intro v7 w7 hO7 hG7 hM7
      have hB7 := hB3.trans ((Only.of_grown hG7).below hB3.size fun _ _ e => own_ge hO6 e)
      obtain ⟨x7, k7, y7, he7⟩ := slice_any hO7
      subst he7
      have hT7 := hTd.on hB7
      have f1 := hT7.c1
      have f0 := HFZ.out w7 (hBd.trans (hB7.mono hBd.size))
      refine hK.out _ _ ⟨hT7.book, hT7.ltm⟩ (fun _ => ?_)
      clear hK K
      try simp only [Act.put, List.setIfInBounds_toArray, List.set_cons_zero, List.set_cons_succ]
      refine wpAnyH_take (i := 20) (oi := ⟨some 65, _, _, _, _, _⟩) (v := ?_) rfl (by kernel_rfl) (by kernel_rfl) (by kernel_rfl) (fun _ _ _ h => h) (Or.inl ⟨by rfl, ?_⟩) (by assumption) ?_
      rotate_left
      · intro w hSw
        (try dsimp only at hSw)
        go_simp
        all_goals (with_reducible rfl)
      try simp only [Act.put, List.setIfInBounds_toArray, List.set_cons_zero, List.set_cons_succ]
      refine wpAnyH_take (i := 21) (oi := ⟨some 66, _, _, _, _, _⟩) (v := ?_) rfl (by kernel_rfl) (by kernel_rfl) (by kernel_rfl) (fun _ _ _ h => h) (Or.inl ⟨by rfl, ?_⟩) (by assumption) ?_
      rotate_left
      · intro w hSw
        (try dsimp only at hSw)
        go_simp
        all_goals (with_reducible rfl)
      try simp only [Act.put, List.setIfInBounds_toArray, List.set_cons_zero, List.set_cons_succ]
      refine wpAnyH_ready (rs := [22]) (by kernel_rfl) (by simp) ?_
      refine AllReadyH.cons (o := ⟨none, _, _, _, _, _⟩) rfl (fun K hK => ?_) AllReadyH.nil
      go_simp
      refine hK.out _ _ ⟨(World.cell?_setCell_other _ _ _ _ (fun e => HMG.out (by injection e with e _ _; exact e.symm))).trans hT7.book, by simpa using hT7.ltm⟩ (fun _ => ?_)
      clear hK K
      try simp only [Act.put]
      refine wpAnyH_done (by kernel_rfl) ?_ _
      refine NoPanic.normal ?_
      go_wp2
      go_ret
      exact ⟨rfl, wd, w7, _, hBd, hB7, hO7, rfl⟩
    refine AllReadyH.cons (o := ⟨some 63, _, _, _, _, _⟩) rfl (fun K hK => ?_) AllReadyH.nil
    have hA : Below wd.heap.size wd (wd.alloc (.cells #[.string role, .string who] 144)) := (Below.refl _ _).alloc (Nat.le_refl _) _
    have hT1 := hTd.on hA
    have hB1 := hB0.trans (hA.mono hB0.size)
    have hJ : SrcG memCells 2 (wd.alloc (.cells #[.string role, .string who] 144)) (.slice (some ⟨wd.heap.size, 0, none⟩) 1 1) [(role, who)] := src_eq (by simp) (src_new (f := memCells) (n := 2) wd 144 (role, who))
    go_simp
    refine hK.out _ _ ⟨hT1.book, hT1.ltm⟩ (fun _ => ?_)
    clear hK K hA
    try simp only [Act.put, List.setIfInBounds_toArray, List.set_cons_zero, List.set_cons_succ]
    refine wpAnyH_ready (rs := [5]) (by kernel_rfl) (by simp) ?_
    refine AllReadyH.cons (o := ⟨some 50, _, _, _, _, _⟩) rfl (fun K hK => ?_) AllReadyH.nil
    have hA : Below (wd.alloc (.cells #[.string role, .string who] 144)).heap.size (wd.alloc (.cells #[.string role, .string who] 144)) ((wd.alloc (.cells #[.string role, .string who] 144)).alloc (.cells #[] 144)) := (Below.refl _ _).alloc (Nat.le_refl _) _
    have hT2 := hT1.on hA
    have hB2 := hB1.trans (hA.mono hB1.size)
    have hJ := hJ.low hA
    have hOe : ((wd.alloc (.cells #[.string role, .string who] 144)).alloc (.cells #[] 144)).ownsRow wd.heap.size 144 2 (.slice (some ⟨wd.heap.size + 1, 0, none⟩) 0 0) ([] : List _).length (([] : List _).flatMap memCells) := own_down hB1.size (at_eq (by simp) (own_empty (f := memCells) (n := 2) (wd.alloc (.cells #[.string role, .string who] 144)) 144))
    go_simp
    refine hK.out _ _ ⟨hT2.book, hT2.ltm⟩ (fun _ => ?_)
    clear hK K hA
    try simp only [Act.put, List.setIfInBounds_toArray, List.set_cons_zero, List.set_cons_succ]
    refine wpAnyH_ready (rs := [14]) (by kernel_rfl) (by simp) ?_
    refine AllReadyH.cons (o := ⟨some 59, _, _, _, _, _⟩) rfl (fun K hK => ?_) AllReadyH.nil
    rw [if_pos (by rfl)]
    refine wp_append_gen (f := memCells) (n := 2) _ _ _ 144 (by rfl) _ 32 Try.underlying139 info_rmem rfl (by decide) (by decide) lenM wd.heap.size _ _ [] t.ms (by rfl) hOe (by rfl) (src_of_own lenM hT2.mems) (fun b _ y hy => by simp [memCells] at hy; rcases hy with rfl | rfl <;> rfl) (by have := HN.out; simp; omega) hB2.size ?_
    intro v6 w6 hO6 hG6 hM6
    have hB3 := hB2.trans ((Only.of_grown hG6).below hB2.size fun _ _ e => own_ge hOe e)
    obtain ⟨x6, k6, y6, he6⟩ := slice_any hO6
    subst he6
    have hT3 := hTd.on hB3
    have hJ := src_only hJ (Only.of_grown hG6) (fun g e => by simp [Value.ownBlock] at e ⊢; omega)
    refine hK.out _ _ ⟨hT3.book, hT3.ltm⟩ (fun _ => ?_)
    clear hK K hOe hG6 hM6
    try simp only [Act.put, List.setIfInBounds_toArray, List.set_cons_zero, List.set_cons_succ]
    refine wpAnyH_ready (rs := [19]) (by kernel_rfl) (by simp) ?_
    refine AllReadyH.cons (o := ⟨some 64, _, _, _, _, _⟩) rfl (fun K hK => ?_) AllReadyH.nil
    rw [if_pos (by rfl)]
    refine wp_append_gen (f := memCells) (n := 2) _ _ _ 144 (by rfl) _ 32 Try.underlying139 info_rmem rfl (by decide) (by decide) lenM wd.heap.size _ _ ([] ++ t.ms) [(role, who)] (by rfl) hO6 (by rfl) hJ (fun b hb y hy => by simp at hb; subst hb; simp [memCells] at hy; rcases hy with rfl | rfl <;> rfl) (by have := HN.out; simp; omega) hB3.size ?_
    intro v7 w7 hO7 hG7 hM7
    have hB7 := hB3.trans ((Only.of_grown hG7).below hB3.size fun _ _ e => own_ge hO6 e)
    obtain ⟨x7, k7, y7, he7⟩ := slice_any hO7
    subst he7
    have hT7 := hTd.on hB7
    have f1 := hT7.c1
    have f0 := HFZ.out w7 (hBd.trans (hB7.mono hBd.size))
    refine hK.out _ _ ⟨hT7.book, hT7.ltm⟩ (fun _ => ?_)
    clear hK K
    try simp only [Act.put, List.setIfInBounds_toArray, List.set_cons_zero, List.set_cons_succ]
    refine wpAnyH_take (i := 20) (oi := ⟨some 65, _, _, _, _, _⟩) (v := ?_) rfl (by kernel_rfl) (by kernel_rfl) (by kernel_rfl) (fun _ _ _ h => h) (Or.inl ⟨by rfl, ?_⟩) (by assumption) ?_
    rotate_left
    · intro w hSw
      (try dsimp only at hSw)
      go_simp
      all_goals (with_reducible rfl)
    try simp only [Act.put, List.setIfInBounds_toArray, List.set_cons_zero, List.set_cons_succ]
    refine wpAnyH_take (i := 21) (oi := ⟨some 66, _, _, _, _, _⟩) (v := ?_) rfl (by kernel_rfl) (by kernel_rfl) (by kernel_rfl) (fun _ _ _ h => h) (Or.inl ⟨by rfl, ?_⟩) (by assumption) ?_
    rotate_left
    · intro w hSw
      (try dsimp only at hSw)
      go_simp
      all_goals (with_reducible rfl)
    try simp only [Act.put, List.setIfInBounds_toArray, List.set_cons_zero, List.set_cons_succ]
    refine wpAnyH_ready (rs := [22]) (by kernel_rfl) (by simp) ?_
    refine AllReadyH.cons (o := ⟨none, _, _, _, _, _⟩) rfl (fun K hK => ?_) AllReadyH.nil
    go_simp
    refine hK.out _ _ ⟨(World.cell?_setCell_other _ _ _ _ (fun e => HMG.out (by injection e with e _ _; exact e.symm))).trans hT7.book, by simpa using hT7.ltm⟩ (fun _ => ?_)
    clear hK K
    try simp only [Act.put]
    refine wpAnyH_done (by kernel_rfl) ?_ _
    refine NoPanic.normal ?_
    go_wp2
    go_ret
    exact ⟨rfl, wd, w7, _, hBd, hB7, hO7, rfl⟩
  refine AllReadyH.cons (o := ⟨some 63, _, _, _, _, _⟩) rfl (fun K hK => ?_) AllReadyH.nil
  have hA : Below wd.heap.size wd (wd.alloc (.cells #[.string role, .string who] 144)) := (Below.refl _ _).alloc (Nat.le_refl _) _
  have hT1 := hTd.on hA
  have hB1 := hB0.trans (hA.mono hB0.size)
  have hJ : SrcG memCells 2 (wd.alloc (.cells #[.string role, .string who] 144)) (.slice (some ⟨wd.heap.size, 0, none⟩) 1 1) [(role, who)] := src_eq (by simp) (src_new (f := memCells) (n := 2) wd 144 (role, who))
  go_simp
  refine hK.out _ _ ⟨hT1.book, hT1.ltm⟩ (fun _ => ?_)
  clear hK K hA
  try simp only [Act.put, List.setIfInBounds_toArray, List.set_cons_zero, List.set_cons_succ]
  refine wpAnyH_ready (rs := [5, 13]) (by kernel_rfl) (by simp) ?_
  refine AllReadyH.cons (o := ⟨some 50, _, _, _, _, _⟩) rfl (fun K hK => ?_) ?_
  · have hA : Below (wd.alloc (.cells #[.string role, .string who] 144)).heap.size (wd.alloc (.cells #[.string role, .string who] 144)) ((wd.alloc (.cells #[.string role, .string who] 144)).alloc (.cells #[] 144)) := (Below.refl _ _).alloc (Nat.le_refl _) _
    have hT2 := hT1.on hA
    have hB2 := hB1.trans (hA.mono hB1.size)
    have hJ := hJ.low hA
    have hOe : ((wd.alloc (.cells #[.string role, .string who] 144)).alloc (.cells #[] 144)).ownsRow wd.heap.size 144 2 (.slice (some ⟨wd.heap.size + 1, 0, none⟩) 0 0) ([] : List _).length (([] : List _).flatMap memCells) := own_down hB1.size (at_eq (by simp) (own_empty (f := memCells) (n := 2) (wd.alloc (.cells #[.string role, .string who] 144)) 144))
    go_simp
    refine hK.out _ _ ⟨hT2.book, hT2.ltm⟩ (fun _ => ?_)
    clear hK K hA
    try simp only [Act.put, List.setIfInBounds_toArray, List.set_cons_zero, List.set_cons_succ]
    refine wpAnyH_ready (rs := [13]) (by kernel_rfl) (by simp) ?_
    refine AllReadyH.cons (o := ⟨some 58, _, _, _, _, _⟩) rfl (fun K hK => ?_) AllReadyH.nil
    have y1 := hT2.c1
    go_simp
    refine hK.out _ _ ⟨hT2.book, hT2.ltm⟩ (fun _ => ?_)
    clear hK K y1
    try simp only [Act.put, List.setIfInBounds_toArray, List.set_cons_zero, List.set_cons_succ]
    refine wpAnyH_ready (rs := [14]) (by kernel_rfl) (by simp) ?_
    refine AllReadyH.cons (o := ⟨some 59, _, _, _, _, _⟩) rfl (fun K hK => ?_) AllReadyH.nil
    rw [if_pos (by rfl)]
    refine wp_append_gen (f := memCells) (n := 2) _ _ _ 144 (by rfl) _ 32 Try.underlying139 info_rmem rfl (by decide) (by decide) lenM wd.heap.size _ _ [] t.ms (by rfl) hOe (by rfl) (src_of_own lenM hT2.mems) (fun b _ y hy => by simp [memCells] at hy; rcases hy with rfl | rfl <;> rfl) (by have := HN.out; simp; omega) hB2.size ?_
    intro v6 w6 hO6 hG6 hM6
    have hB3 := hB2.trans ((Only.of_grown hG6).below hB2.size fun _ _ e => own_ge hOe e)
    obtain ⟨x6, k6, y6, he6⟩ := slice_any hO6
    subst he6
    have hT3 := hTd.on hB3
    have hJ := src_only hJ (Only.of_grown hG6) (fun g e => by simp [Value.ownBlock] at e ⊢; omega)
    refine hK.out _ _ ⟨hT3.book, hT3.ltm⟩ (fun _ => ?_)
    clear hK K hOe hG6 hM6
    try simp only [Act.put, List.setIfInBounds_toArray, List.set_cons_zero, List.set_cons_succ]
    refine wpAnyH_ready (rs := [19]) (by kernel_rfl) (by simp) ?_
    refine AllReadyH.cons (o := ⟨some 64, _, _, _, _, _⟩) rfl (fun K hK => ?_) AllReadyH.nil
    rw [if_pos (by rfl)]
    refine wp_append_gen (f := memCells) (n := 2) _ _ _ 144 (by rfl) _ 32 Try.underlying139 info_rmem rfl (by decide) (by decide) lenM wd.heap.size _ _ ([] ++ t.ms) [(role, who)] (by rfl) hO6 (by rfl) hJ (fun b hb y hy => by simp at hb; subst hb; simp [memCells] at hy; rcases hy with rfl | rfl <;> rfl) (by have := HN.out; simp; omega) hB3.size ?_
    intro v7 w7 hO7 hG7 hM7
    have hB7 := hB3.trans ((Only.of_grown hG7).below hB3.size fun _ _ e => own_ge hO6 e)
    obtain ⟨x7, k7, y7, he7⟩ := slice_any hO7
    subst he7
    have hT7 := hTd.on hB7
    have f1 := hT7.c1
    have f0 := HFZ.out w7 (hBd.trans (hB7.mono hBd.size))
    refine hK.out _ _ ⟨hT7.book, hT7.ltm⟩ (fun _ => ?_)
    clear hK K
    try simp only [Act.put, List.setIfInBounds_toArray, List.set_cons_zero, List.set_cons_succ]
    refine wpAnyH_take (i := 20) (oi := ⟨some 65, _, _, _, _, _⟩) (v := ?_) rfl (by kernel_rfl) (by kernel_rfl) (by kernel_rfl) (fun _ _ _ h => h) (Or.inl ⟨by rfl, ?_⟩) (by assumption) ?_
    rotate_left
    · intro w hSw
      (try dsimp only at hSw)
      go_simp
      all_goals (with_reducible rfl)
    try simp only [Act.put, List.setIfInBounds_toArray, List.set_cons_zero, List.set_cons_succ]
    refine wpAnyH_take (i := 21) (oi := ⟨some 66, _, _, _, _, _⟩) (v := ?_) rfl (by kernel_rfl) (by kernel_rfl) (by kernel_rfl) (fun _ _ _ h => h) (Or.inl ⟨by rfl, ?_⟩) (by assumption) ?_
    rotate_left
    · intro w hSw
      (try dsimp only at hSw)
      go_simp
      all_goals (with_reducible rfl)
    try simp only [Act.put, List.setIfInBounds_toArray, List.set_cons_zero, List.set_cons_succ]
    refine wpAnyH_ready (rs := [22]) (by kernel_rfl) (by simp) ?_
    refine AllReadyH.cons (o := ⟨none, _, _, _, _, _⟩) rfl (fun K hK => ?_) AllReadyH.nil
    go_simp
    refine hK.out _ _ ⟨(World.cell?_setCell_other _ _ _ _ (fun e => HMG.out (by injection e with e _ _; exact e.symm))).trans hT7.book, by simpa using hT7.ltm⟩ (fun _ => ?_)
    clear hK K
    try simp only [Act.put]
    refine wpAnyH_done (by kernel_rfl) ?_ _
    refine NoPanic.normal ?_
    go_wp2
    go_ret
    exact ⟨rfl, wd, w7, _, hBd, hB7, hO7, rfl⟩
  refine AllReadyH.cons (o := ⟨some 58, _, _, _, _, _⟩) rfl (fun K hK => ?_) AllReadyH.nil
  have y1 := hT1.c1
  go_simp
  refine hK.out _ _ ⟨hT1.book, hT1.ltm⟩ (fun _ => ?_)
  clear hK K y1
  try simp only [Act.put, List.setIfInBounds_toArray, List.set_cons_zero, List.set_cons_succ]
  refine wpAnyH_ready (rs := [5]) (by kernel_rfl) (by simp) ?_
  refine AllReadyH.cons (o := ⟨some 50, _, _, _, _, _⟩) rfl (fun K hK => ?_) AllReadyH.nil
  have hA : Below (wd.alloc (.cells #[.string role, .string who] 144)).heap.size (wd.alloc (.cells #[.string role, .string who] 144)) ((wd.alloc (.cells #[.string role, .string who] 144)).alloc (.cells #[] 144)) := (Below.refl _ _).alloc (Nat.le_refl _) _
  have hT2 := hT1.on hA
  have hB2 := hB1.trans (hA.mono hB1.size)
  have hJ := hJ.low hA
  have hOe : ((wd.alloc (.cells #[.string role, .string who] 144)).alloc (.cells #[] 144)).ownsRow wd.heap.size 144 2 (.slice (some ⟨wd.heap.size + 1, 0, none⟩) 0 0) ([] : List _).length (([] : List _).flatMap memCells) := own_down hB1.size (at_eq (by simp) (own_empty (f := memCells) (n := 2) (wd.alloc (.cells #[.string role, .string who] 144)) 144))
  go_simp
  refine hK.out _ _ ⟨hT2.book, hT2.ltm⟩ (fun _ => ?_)
  clear hK K hA
  try simp only [Act.put, List.setIfInBounds_toArray, List.set_cons_zero, List.set_cons_succ]
  refine wpAnyH_ready (rs := [14]) (by kernel_rfl) (by simp) ?_
  refine AllReadyH.cons (o := ⟨some 59, _, _, _, _, _⟩) rfl (fun K hK => ?_) AllReadyH.nil
  rw [if_pos (by rfl)]
  refine wp_append_gen (f := memCells) (n := 2) _ _ _ 144 (by rfl) _ 32 Try.underlying139 info_rmem rfl (by decide) (by decide) lenM wd.heap.size _ _ [] t.ms (by rfl) hOe (by rfl) (src_of_own lenM hT2.mems) (fun b _ y hy => by simp [memCells] at hy; rcases hy with rfl | rfl <;> rfl) (by have := HN.out; simp; omega) hB2.size ?_
  intro v6 w6 hO6 hG6 hM6
  have hB3 := hB2.trans ((Only.of_grown hG6).below hB2.size fun _ _ e => own_ge hOe e)
  obtain ⟨x6, k6, y6, he6⟩ := slice_any hO6
  subst he6
  have hT3 := hTd.on hB3
  have hJ := src_only hJ (Only.of_grown hG6) (fun g e => by simp [Value.ownBlock] at e ⊢; omega)
  refine hK.out _ _ ⟨hT3.book, hT3.ltm⟩ (fun _ => ?_)
  clear hK K hOe hG6 hM6
  try simp only [Act.put, List.setIfInBounds_toArray, List.set_cons_zero, List.set_cons_succ]
  refine wpAnyH_ready (rs := [19]) (by kernel_rfl) (by simp) ?_
  refine AllReadyH.cons (o := ⟨some 64, _, _, _, _, _⟩) rfl (fun K hK => ?_) AllReadyH.nil
  rw [if_pos (by rfl)]
  refine wp_append_gen (f := memCells) (n := 2) _ _ _ 144 (by rfl) _ 32 Try.underlying139 info_rmem rfl (by decide) (by decide) lenM wd.heap.size _ _ ([] ++ t.ms) [(role, who)] (by rfl) hO6 (by rfl) hJ (fun b hb y hy => by simp at hb; subst hb; simp [memCells] at hy; rcases hy with rfl | rfl <;> rfl) (by have := HN.out; simp; omega) hB3.size ?_
  intro v7 w7 hO7 hG7 hM7
  have hB7 := hB3.trans ((Only.of_grown hG7).below hB3.size fun _ _ e => own_ge hO6 e)
  obtain ⟨x7, k7, y7, he7⟩ := slice_any hO7
  subst he7
  have hT7 := hTd.on hB7
  have f1 := hT7.c1
  have f0 := HFZ.out w7 (hBd.trans (hB7.mono hBd.size))
  refine hK.out _ _ ⟨hT7.book, hT7.ltm⟩ (fun _ => ?_)
  clear hK K
  try simp only [Act.put, List.setIfInBounds_toArray, List.set_cons_zero, List.set_cons_succ]
  refine wpAnyH_take (i := 20) (oi := ⟨some 65, _, _, _, _, _⟩) (v := ?_) rfl (by kernel_rfl) (by kernel_rfl) (by kernel_rfl) (fun _ _ _ h => h) (Or.inl ⟨by rfl, ?_⟩) (by assumption) ?_
  rotate_left
  · intro w hSw
    (try dsimp only at hSw)
    go_simp
    all_goals (with_reducible rfl)
  try simp only [Act.put, List.setIfInBounds_toArray, List.set_cons_zero, List.set_cons_succ]
  refine wpAnyH_take (i := 21) (oi := ⟨some 66, _, _, _, _, _⟩) (v := ?_) rfl (by kernel_rfl) (by kernel_rfl) (by kernel_rfl) (fun _ _ _ h => h) (Or.inl ⟨by rfl, ?_⟩) (by assumption) ?_
  rotate_left
  · intro w hSw
    (try dsimp only at hSw)
    go_simp
    all_goals (with_reducible rfl)
  try simp only [Act.put, List.setIfInBounds_toArray, List.set_cons_zero, List.set_cons_succ]
  refine wpAnyH_ready (rs := [22]) (by kernel_rfl) (by simp) ?_
  refine AllReadyH.cons (o := ⟨none, _, _, _, _, _⟩) rfl (fun K hK => ?_) AllReadyH.nil
  go_simp
  refine hK.out _ _ ⟨(World.cell?_setCell_other _ _ _ _ (fun e => HMG.out (by injection e with e _ _; exact e.symm))).trans hT7.book, by simpa using hT7.ltm⟩ (fun _ => ?_)
  clear hK K
  try simp only [Act.put]
  refine wpAnyH_done (by kernel_rfl) ?_ _
  refine NoPanic.normal ?_
  go_wp2
  go_ret
  exact ⟨rfl, wd, w7, _, hBd, hB7, hO7, rfl⟩

end Go.Proofs.Ytglcingpolpkdaa
