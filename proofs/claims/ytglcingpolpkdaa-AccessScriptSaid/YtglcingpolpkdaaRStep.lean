/- Each call of the reference: the answer, what it leaves. -/
import Derived.Test.YtglcingpolpkdaaRGrant
namespace Go.Proofs.Ytglcingpolpkdaa
open Go.RowKit

/-- A list without its first element that equals r: the list of the others, where none is twice there. -/
theorem erase_first {α : Type} {p : α → Bool} {r : α} (hp : ∀ x, p x = true ↔ x = r) : ∀ {l : List α} {k : Nat}, l.Nodup → (∃ x, l[k]? = some x ∧ p x = true) → (∀ j x, j < k → l[j]? = some x → p x = false) → [] ++ l.take k ++ l.drop (k + 1) = l.filter fun x => !p x
  | [], k, _, ⟨x, hx, _⟩, _ => by simp at hx
  | a :: l, 0, hn, ⟨x, hx, hy⟩, _ => by
    have hax : a = x := by simpa using hx
    subst hax
    have har := (hp a).1 hy
    have hnl := (List.nodup_cons.1 hn).1
    rw [List.filter_cons, if_neg (by simp [hy])]
    show l = _
    symm
    rw [List.filter_eq_self]
    intro b hb
    cases hq : p b
    · rfl
    · exact absurd (((hp b).1 hq).trans har.symm ▸ hb) hnl
  | a :: l, k + 1, hn, ⟨x, hx, hy⟩, hno => by
    have ih := erase_first hp (l := l) (k := k) (List.nodup_cons.1 hn).2 ⟨x, by simpa using hx, hy⟩ (fun j x hj hx => hno (j + 1) x (by omega) (by simpa using hx))
    rw [List.filter_cons, if_pos (by simp [hno 0 a (by omega) rfl]), ← ih]
    rfl

theorem RefBook.free {W w w' : World} {m g i d n c : Nat} {xs : List (ByteArray × Value × Value)} {ts : List Tn} {x : ByteArray × Value × Value} (h : RefBook W w m (.slice (some ⟨g, 0, none⟩) n c) xs ts) (hx : xs[i]? = some x) (hd : d < 3) (hb : Below w.heap.size w w') : w'.frozen? ⟨g, i * 3 + d, none⟩ = false :=
  ((own_rowG lenT (show w'.ownsRow W.heap.size 141 3 (.slice (some ⟨g, 0, none⟩) n c) xs.length (xs.flatMap tenCells) from (h.on hb).row) i x hx).2 d hd).2
theorem RefBook.ten {W w : World} {m i : Nat} {lv : Value} {xs : List (ByteArray × Value × Value)} {ts : List Tn} {t : Tn} (h : RefBook W w m lv xs ts) (ht : ts[i]? = some t) : ∃ g c x, lv = .slice (some ⟨g, 0, none⟩) ts.length c ∧ m ≠ g ∧ xs[i]? = some x ∧ TenR W.heap.size w m g i ts.length c x.2.1 x.2.2 t := by
  have hi : i < xs.length := by rw [h.len]; exact (List.getElem?_eq_some_iff.1 ht).1
  have hx := List.getElem?_eq_getElem hi
  obtain ⟨h1, h2, h3⟩ := h.each i _ t hx ht
  rcases row_shape h.row with ⟨_, hn⟩ | ⟨g, cap, hv, _, hg, hc⟩
  · omega
  · subst hv
    have d0 := hc _ _ (flat_at lenT xs i _ 0 _ hx rfl)
    have d1 := hc _ _ (flat_at lenT xs i _ 1 _ hx rfl)
    have d2 := hc _ _ (flat_at lenT xs i _ 2 _ hx rfl)
    rw [h1] at d0
    refine ⟨g, cap, _, by rw [h.len], fun e => ?_, hx, ⟨by rw [← h.len]; exact h.book.cell 0, d0, d1, d2, h2, h3, h.book.lt, hg, by rw [← h.len]; exact hi⟩⟩
    obtain ⟨_, _, _, _, hW, _⟩ := own_full h.row rfl
    have hb := h.book
    subst e
    unfold Whole at hb hW
    rw [hb] at hW
    injection hW with hW
    injection hW with _ hW _
    exact absurd hW (by decide)
theorem RefBook.turnM {W w wd w7 : World} {m g i n c : Nat} {xs : List (ByteArray × Value × Value)} {ts : List Tn} {x : ByteArray × Value × Value} {t : Tn} {v7 : Value} {ms : List (ByteArray × ByteArray)} (h : RefBook W w m (.slice (some ⟨g, 0, none⟩) n c) xs ts) (hx : xs[i]? = some x) (ht : ts[i]? = some t) (hBd : Below w.heap.size w wd) (hB7 : Below wd.heap.size wd w7) (hO : OwnN w7 wd.heap.size v7 ms) :
    RStep W w (w7.setCell ⟨g, i * 3 + 1, none⟩ v7) m (.slice (some ⟨g, 0, none⟩) n c) xs (ts.set i ⟨t.name, t.rules, ms⟩) := by
  have hb := hBd.trans (hB7.mono hBd.size)
  exact h.turn (d := 1) (x' := (x.1, v7, x.2.2)) rfl hx ht hb (.inl ⟨rfl, rfl⟩) rfl (own_down (Nat.le_trans h.below.size hBd.size) hO) ((h.on hb).each i x t hx ht).2.2 fun k hk => Nat.le_trans hBd.size (own_ge hO hk)
theorem RefBook.turnR {W w wd w7 : World} {m g i n c : Nat} {xs : List (ByteArray × Value × Value)} {ts : List Tn} {x : ByteArray × Value × Value} {t : Tn} {v7 : Value} {rs : List Rl} (h : RefBook W w m (.slice (some ⟨g, 0, none⟩) n c) xs ts) (hx : xs[i]? = some x) (ht : ts[i]? = some t) (hBd : Below w.heap.size w wd) (hB7 : Below wd.heap.size wd w7) (hO : OwnR w7 wd.heap.size v7 rs) :
    RStep W w (w7.setCell ⟨g, i * 3 + 2, none⟩ v7) m (.slice (some ⟨g, 0, none⟩) n c) xs (ts.set i ⟨t.name, rs, t.ms⟩) := by
  have hb := hBd.trans (hB7.mono hBd.size)
  exact h.turn (d := 2) (x' := (x.1, x.2.1, v7)) rfl hx ht hb (.inr ⟨rfl, rfl⟩) rfl ((h.on hb).each i x t hx ht).2.1 (own_down (Nat.le_trans h.below.size hBd.size) hO) fun k hk => Nat.le_trans hBd.size (own_ge hO hk)

set_option maxRecDepth 100000 in
set_option maxHeartbeats 1000000 in
theorem refjoin_bad (w : World) (m : Nat) (n role who : ByteArray) (hn : (nameB role && nameB who) = false) :
    Calls Try.prog 59 #[.pointer (some ⟨m, 0, none⟩), .string n, .string role, .string who] w fun e w' => e = .returned (.int .i64 2) ∧ Below w.heap.size w w' := by
  cases hr : nameB role
  · have HNR := Lib.hid (hr ▸ refname_calls w role)
    clear hn hr
    go_enter Try.func59, Try.ntmps59
    go_wp2_with (go_at_call 92; refine HNR.out.mono ?_; rintro e w' ⟨rfl, hw⟩; rw [hw]; clear hw)
    go_ret
    exact ⟨rfl, Below.refl _ _⟩
  · have hw : nameB who = false := by rwa [hr, Bool.true_and] at hn
    have HNR := Lib.hid (hr ▸ refname_calls w role)
    have HNW := Lib.hid (hw ▸ refname_calls w who)
    clear hn hr hw
    go_enter Try.func59, Try.ntmps59
    go_wp2_with (first
      | (go_at_call 92; refine HNW2.out.mono ?_; rintro e w' ⟨rfl, hw⟩; rw [hw]; clear hw)
      | (go_at_call 92; refine HNR.out.mono ?_; rintro e w' ⟨rfl, hw⟩; rw [hw]; clear hw; have HNW2 := HNW))
    go_ret
    exact ⟨rfl, Below.refl _ _⟩
set_option maxRecDepth 100000 in
set_option maxHeartbeats 1000000 in
theorem refjoin_missing (W w : World) (m : Nat) (ts : List Tn) (n role who : ByteArray) (h : RefIs W w m ts) (hlen : ts.length ≤ 1000) (hg : getT ts n = none) (hr : nameB role = true) (hw : nameB who = true) :
    Calls Try.prog 59 #[.pointer (some ⟨m, 0, none⟩), .string n, .string role, .string who] w fun e w' => e = .returned (.int .i64 6) ∧ Below w.heap.size w w' := by
  have HAT := Lib.hid (refat_calls W w m ts n h hlen)
  unfold atT at HAT
  rw [hg] at HAT
  have HNR := Lib.hid (hr ▸ refname_calls w role)
  have HNW := Lib.hid (hw ▸ refname_calls w who)
  clear h hg hr hw
  go_enter Try.func59, Try.ntmps59
  go_wp2_with (first
    | (go_at_call 93; refine HAT.out.mono ?_; rintro e w' ⟨rfl, hw⟩; rw [hw]; clear hw)
    | (go_at_call 92; refine HNW2.out.mono ?_; rintro e w' ⟨rfl, hw⟩; rw [hw]; clear hw)
    | (go_at_call 92; refine HNR.out.mono ?_; rintro e w' ⟨rfl, hw⟩; rw [hw]; clear hw; have HNW2 := HNW))
  go_ret
  exact ⟨rfl, Below.refl _ _⟩
set_option maxRecDepth 100000 in
set_option maxHeartbeats 1000000 in
theorem refleave_bad (w : World) (m : Nat) (n role who : ByteArray) (hn : (nameB role && nameB who) = false) :
    Calls Try.prog 60 #[.pointer (some ⟨m, 0, none⟩), .string n, .string role, .string who] w fun e w' => e = .returned (.int .i64 2) ∧ Below w.heap.size w w' := by
  cases hr : nameB role
  · have HNR := Lib.hid (hr ▸ refname_calls w role)
    clear hn hr
    go_enter Try.func60, Try.ntmps60
    go_wp2_with (go_at_call 92; refine HNR.out.mono ?_; rintro e w' ⟨rfl, hw⟩; rw [hw]; clear hw)
    go_ret
    exact ⟨rfl, Below.refl _ _⟩
  · have hw : nameB who = false := by rwa [hr, Bool.true_and] at hn
    have HNR := Lib.hid (hr ▸ refname_calls w role)
    have HNW := Lib.hid (hw ▸ refname_calls w who)
    clear hn hr hw
    go_enter Try.func60, Try.ntmps60
    go_wp2_with (first
      | (go_at_call 92; refine HNW2.out.mono ?_; rintro e w' ⟨rfl, hw⟩; rw [hw]; clear hw)
      | (go_at_call 92; refine HNR.out.mono ?_; rintro e w' ⟨rfl, hw⟩; rw [hw]; clear hw; have HNW2 := HNW))
    go_ret
    exact ⟨rfl, Below.refl _ _⟩
set_option maxRecDepth 100000 in
set_option maxHeartbeats 1000000 in
theorem refleave_missing (W w : World) (m : Nat) (ts : List Tn) (n role who : ByteArray) (h : RefIs W w m ts) (hlen : ts.length ≤ 1000) (hg : getT ts n = none) (hr : nameB role = true) (hw : nameB who = true) :
    Calls Try.prog 60 #[.pointer (some ⟨m, 0, none⟩), .string n, .string role, .string who] w fun e w' => e = .returned (.int .i64 6) ∧ Below w.heap.size w w' := by
  have HAT := Lib.hid (refat_calls W w m ts n h hlen)
  unfold atT at HAT
  rw [hg] at HAT
  have HNR := Lib.hid (hr ▸ refname_calls w role)
  have HNW := Lib.hid (hw ▸ refname_calls w who)
  clear h hg hr hw
  go_enter Try.func60, Try.ntmps60
  go_wp2_with (first
    | (go_at_call 93; refine HAT.out.mono ?_; rintro e w' ⟨rfl, hw⟩; rw [hw]; clear hw)
    | (go_at_call 92; refine HNW2.out.mono ?_; rintro e w' ⟨rfl, hw⟩; rw [hw]; clear hw)
    | (go_at_call 92; refine HNR.out.mono ?_; rintro e w' ⟨rfl, hw⟩; rw [hw]; clear hw; have HNW2 := HNW))
  go_ret
  exact ⟨rfl, Below.refl _ _⟩
set_option maxRecDepth 100000 in
set_option maxHeartbeats 1000000 in
theorem refleave_not (W w : World) (m g i NT c : Nat) (mv rv : Value) (ts : List Tn) (t : Tn) (n role who : ByteArray) (h : RefIs W w m ts) (hlen : ts.length ≤ 1000) (hg : getT ts n = some (i, t)) (hT : TenR W.heap.size w m g i NT c mv rv t) (hml : t.ms.length ≤ 1000) (hr : nameB role = true) (hw : nameB who = true) (hin : hasM t.ms (role, who) = false) :
    Calls Try.prog 60 #[.pointer (some ⟨m, 0, none⟩), .string n, .string role, .string who] w fun e w' => e = .returned (.int .i64 6) ∧ Below w.heap.size w w' := by
  have HAT := Lib.hid (refat_calls W w m ts n h hlen)
  unfold atT at HAT
  rw [hg] at HAT
  have HNR := Lib.hid (hr ▸ refname_calls w role)
  have HNW := Lib.hid (hw ▸ refname_calls w who)
  have q0 := hT.book
  have q1 := hT.c0
  have q2 := hT.c1
  have q3 := hT.c2
  have i0 : ¬ (i : Int) < 0 := by omega
  have i3 : 0 ≤ (i : Int) ∧ (i : Int) < (NT : Int) := by have := hT.lti; omega
  have HM := Lib.hid (refmember_no w W.heap.size t.name _ rv t.ms (role, who) hT.mems hml hin)
  clear h hg hT hr hw hin
  go_enter Try.func60, Try.ntmps60
  go_wp2_with (first
    | (go_at_call 94; refine HM.out.mono ?_; rintro e w1 ⟨rfl, hB1⟩)
    | (go_at_call 93; refine HAT.out.mono ?_; rintro e w' ⟨rfl, hw⟩; rw [hw]; clear hw)
    | (go_at_call 92; refine HNW2.out.mono ?_; rintro e w' ⟨rfl, hw⟩; rw [hw]; clear hw)
    | (go_at_call 92; refine HNR.out.mono ?_; rintro e w' ⟨rfl, hw⟩; rw [hw]; clear hw; have HNW2 := HNW))
  go_ret
  exact ⟨rfl, hB1⟩
set_option maxRecDepth 100000 in
set_option maxHeartbeats 1000000 in
theorem refgrant_bad (w : World) (m : Nat) (n who key : ByteArray) (what : Int) (deny : Bool) (hmay : mayB ⟨who, what, key, deny⟩ = false) (hsz : key.size ≤ 1000000) :
    Calls Try.prog 61 #[.pointer (some ⟨m, 0, none⟩), .string n, .agg #[.string who, .int .i64 what, .string key, .bool deny]] w fun e w' => e = .returned (.int .i64 2) ∧ Below w.heap.size w w' := by
  have hBA : Below w.heap.size w (w.alloc (.cells #[.string who, .int .i64 what, .string key, .bool deny] 29)) := (Below.refl _ _).alloc (Nat.le_refl _) _
  have hR0 := Whole.new w 29 #[.string who, .int .i64 what, .string key, .bool deny]
  have HMAY := Lib.hid (fun w' => hmay ▸ refmay_calls w' who key what deny hsz)
  clear hmay
  generalize hw : (w.alloc (.cells #[.string who, .int .i64 what, .string key, .bool deny] 29)) = w0 at hBA hR0
  obtain ⟨RB, hRB⟩ : ∃ b, w.heap.size = b := ⟨_, rfl⟩
  rw [hRB] at hR0
  have r0 := hR0.cell 0
  have r1 := hR0.cell 1
  have r2 := hR0.cell 2
  have r3 := hR0.cell 3
  go_enter Try.func61, Try.ntmps61
  go_wp2_with (first
    | (go_at_call 95; refine (HMAY.out w0).mono ?_; rintro e w1 ⟨rfl, hB10⟩; have hB1 := hBA.trans (hB10.mono hBA.size))
    | (refine wpList_box_cells (by rfl) 29 _ (by rfl) #[.string who, .int .i64 what, .string key, .bool deny] (by rfl) ?_; rw [hw, hRB]))
  go_ret
  exact ⟨rfl, by first | exact hB1 | exact hB1.trans ⟨rfl, rfl, rfl, Nat.le_refl _, fun _ _ => rfl⟩ | (rw [← hRB]; exact hB1)⟩
set_option maxRecDepth 100000 in
set_option maxHeartbeats 1000000 in
theorem refgrant_missing (W w : World) (m : Nat) (ts : List Tn) (n who key : ByteArray) (what : Int) (deny : Bool) (h : RefIs W w m ts) (hlen : ts.length ≤ 1000) (hg : getT ts n = none) (hmay : mayB ⟨who, what, key, deny⟩ = true) (hsz : key.size ≤ 1000000) :
    Calls Try.prog 61 #[.pointer (some ⟨m, 0, none⟩), .string n, .agg #[.string who, .int .i64 what, .string key, .bool deny]] w fun e w' => e = .returned (.int .i64 6) ∧ Below w.heap.size w w' := by
  have hBA : Below w.heap.size w (w.alloc (.cells #[.string who, .int .i64 what, .string key, .bool deny] 29)) := (Below.refl _ _).alloc (Nat.le_refl _) _
  have hR0 := Whole.new w 29 #[.string who, .int .i64 what, .string key, .bool deny]
  have HAT := Lib.hid (fun w' (hB : Below w.heap.size w w') => refat_calls W w' m ts n (h.on hB) hlen)
  unfold atT at HAT
  rw [hg] at HAT
  have HMAY := Lib.hid (fun w' => hmay ▸ refmay_calls w' who key what deny hsz)
  clear h hg hmay
  generalize hw : (w.alloc (.cells #[.string who, .int .i64 what, .string key, .bool deny] 29)) = w0 at hBA hR0
  obtain ⟨RB, hRB⟩ : ∃ b, w.heap.size = b := ⟨_, rfl⟩
  rw [hRB] at hR0
  have r0 := hR0.cell 0
  have r1 := hR0.cell 1
  have r2 := hR0.cell 2
  have r3 := hR0.cell 3
  go_enter Try.func61, Try.ntmps61
  go_wp2_with (first
    | (go_at_call 93; refine (HAT.out w1 hB1).mono ?_; rintro e w' ⟨rfl, hw⟩; rw [hw]; clear hw)
    | (go_at_call 95; refine (HMAY.out w0).mono ?_; rintro e w1 ⟨rfl, hB10⟩; have hB1 := hBA.trans (hB10.mono hBA.size))
    | (refine wpList_box_cells (by rfl) 29 _ (by rfl) #[.string who, .int .i64 what, .string key, .bool deny] (by rfl) ?_; rw [hw, hRB])
    | fail)
  go_ret
  exact ⟨rfl, by first | exact hB1 | exact hB1.trans ⟨rfl, rfl, rfl, Nat.le_refl _, fun _ _ => rfl⟩ | (rw [← hRB]; exact hB1)⟩
set_option maxRecDepth 100000 in
set_option maxHeartbeats 1000000 in
theorem refrevoke_bad (w : World) (m : Nat) (n who key : ByteArray) (what : Int) (deny : Bool) (hmay : mayB ⟨who, what, key, deny⟩ = false) (hsz : key.size ≤ 1000000) :
    Calls Try.prog 62 #[.pointer (some ⟨m, 0, none⟩), .string n, .agg #[.string who, .int .i64 what, .string key, .bool deny]] w fun e w' => e = .returned (.int .i64 2) ∧ Below w.heap.size w w' := by
  have hBA : Below w.heap.size w (w.alloc (.cells #[.string who, .int .i64 what, .string key, .bool deny] 29)) := (Below.refl _ _).alloc (Nat.le_refl _) _
  have hR0 := Whole.new w 29 #[.string who, .int .i64 what, .string key, .bool deny]
  have HMAY := Lib.hid (fun w' => hmay ▸ refmay_calls w' who key what deny hsz)
  clear hmay
  generalize hw : (w.alloc (.cells #[.string who, .int .i64 what, .string key, .bool deny] 29)) = w0 at hBA hR0
  obtain ⟨RB, hRB⟩ : ∃ b, w.heap.size = b := ⟨_, rfl⟩
  rw [hRB] at hR0
  have r0 := hR0.cell 0
  have r1 := hR0.cell 1
  have r2 := hR0.cell 2
  have r3 := hR0.cell 3
  go_enter Try.func62, Try.ntmps62
  go_wp2_with (first
    | (go_at_call 95; refine (HMAY.out w0).mono ?_; rintro e w1 ⟨rfl, hB10⟩; have hB1 := hBA.trans (hB10.mono hBA.size))
    | (refine wpList_box_cells (by rfl) 29 _ (by rfl) #[.string who, .int .i64 what, .string key, .bool deny] (by rfl) ?_; rw [hw, hRB]))
  go_ret
  exact ⟨rfl, by first | exact hB1 | exact hB1.trans ⟨rfl, rfl, rfl, Nat.le_refl _, fun _ _ => rfl⟩ | (rw [← hRB]; exact hB1)⟩
set_option maxRecDepth 100000 in
set_option maxHeartbeats 1000000 in
theorem refrevoke_missing (W w : World) (m : Nat) (ts : List Tn) (n who key : ByteArray) (what : Int) (deny : Bool) (h : RefIs W w m ts) (hlen : ts.length ≤ 1000) (hg : getT ts n = none) (hmay : mayB ⟨who, what, key, deny⟩ = true) (hsz : key.size ≤ 1000000) :
    Calls Try.prog 62 #[.pointer (some ⟨m, 0, none⟩), .string n, .agg #[.string who, .int .i64 what, .string key, .bool deny]] w fun e w' => e = .returned (.int .i64 6) ∧ Below w.heap.size w w' := by
  have hBA : Below w.heap.size w (w.alloc (.cells #[.string who, .int .i64 what, .string key, .bool deny] 29)) := (Below.refl _ _).alloc (Nat.le_refl _) _
  have hR0 := Whole.new w 29 #[.string who, .int .i64 what, .string key, .bool deny]
  have HAT := Lib.hid (fun w' (hB : Below w.heap.size w w') => refat_calls W w' m ts n (h.on hB) hlen)
  unfold atT at HAT
  rw [hg] at HAT
  have HMAY := Lib.hid (fun w' => hmay ▸ refmay_calls w' who key what deny hsz)
  clear h hg hmay
  generalize hw : (w.alloc (.cells #[.string who, .int .i64 what, .string key, .bool deny] 29)) = w0 at hBA hR0
  obtain ⟨RB, hRB⟩ : ∃ b, w.heap.size = b := ⟨_, rfl⟩
  rw [hRB] at hR0
  have r0 := hR0.cell 0
  have r1 := hR0.cell 1
  have r2 := hR0.cell 2
  have r3 := hR0.cell 3
  go_enter Try.func62, Try.ntmps62
  go_upto_region 4 with (first
    | (go_at_call 93; refine (HAT.out w1 hB1).mono ?_; rintro e w' ⟨rfl, hw⟩; rw [hw]; clear hw)
    | (go_at_call 95; refine (HMAY.out w0).mono ?_; rintro e w1 ⟨rfl, hB10⟩; have hB1 := hBA.trans (hB10.mono hBA.size))
    | (refine wpList_box_cells (by rfl) 29 _ (by rfl) #[.string who, .int .i64 what, .string key, .bool deny] (by rfl) ?_; rw [hw, hRB])
    | fail)
  go_quiet (fail)
  go_wp2
  go_ret
  exact ⟨rfl, by first | exact hB1 | exact hB1.trans ⟨rfl, rfl, rfl, Nat.le_refl _, fun _ _ => rfl⟩ | (rw [← hRB]; exact hB1)⟩
set_option maxRecDepth 100000 in
set_option maxHeartbeats 1000000 in
theorem refrevoke_not (W w : World) (m g i NT c N cm : Nat) (p : Option Addr) (mv : Value) (ts : List Tn) (t : Tn) (n who key : ByteArray) (what : Int) (deny : Bool) (h : RefIs W w m ts) (hlen : ts.length ≤ 1000) (hg : getT ts n = some (i, t)) (hT : TenR W.heap.size w m g i NT c mv (.slice p N cm) t) (hN : t.rules.length = N) (hml : N ≤ 1000) (hmay : mayB ⟨who, what, key, deny⟩ = true) (hsz : key.size ≤ 1000000) (hin : hasR t.rules ⟨who, what, key, deny⟩ = false) :
    Calls Try.prog 62 #[.pointer (some ⟨m, 0, none⟩), .string n, .agg #[.string who, .int .i64 what, .string key, .bool deny]] w fun e w' => e = .returned (.int .i64 6) ∧ Below w.heap.size w w' := by
  have hBA : Below w.heap.size w (w.alloc (.cells #[.string who, .int .i64 what, .string key, .bool deny] 29)) := (Below.refl _ _).alloc (Nat.le_refl _) _
  have hR0 := Whole.new w 29 #[.string who, .int .i64 what, .string key, .bool deny]
  have HAT := Lib.hid (fun w' (hB : Below w.heap.size w w') => refat_calls W w' m ts n (h.on hB) hlen)
  unfold atT at HAT
  rw [hg] at HAT
  have HMAY := Lib.hid (fun w' => hmay ▸ refmay_calls w' who key what deny hsz)
  have HT := Lib.hid hT
  have HIN := Lib.hid hin
  have i0 : ¬ (i : Int) < 0 := by omega
  have i3 : 0 ≤ (i : Int) ∧ (i : Int) < (NT : Int) := by have := hT.lti; omega
  have HM := Lib.hid (fun w' (hB : Below w.heap.size w w') => refrule_calls w' W.heap.size t.name _ mv t.rules ⟨who, what, key, deny⟩ (row_low hT.rules hB) (by rw [hN]; exact hml))
  clear h hg hT hN hmay hin
  generalize hw : (w.alloc (.cells #[.string who, .int .i64 what, .string key, .bool deny] 29)) = w0 at hBA hR0
  obtain ⟨RB, hRB⟩ : ∃ b, w.heap.size = b := ⟨_, rfl⟩
  rw [hRB] at hR0
  have r0 := hR0.cell 0
  have r1 := hR0.cell 1
  have r2 := hR0.cell 2
  have r3 := hR0.cell 3
  go_enter Try.func62, Try.ntmps62
  go_upto_region 4 with (first
    | (go_at_call 93; refine (HAT.out w1 hB1).mono ?_; rintro e w' ⟨rfl, hw⟩; rw [hw]; clear hw)
    | (go_at_call 95; refine (HMAY.out w0).mono ?_; rintro e w1 ⟨rfl, hB10⟩; have hB1 := hBA.trans (hB10.mono hBA.size); have hT1 := HT.out.on hB1; have hR1 := hR0.below hB10 hR0.lt; have q0 := hT1.book; have q1 := hT1.c0; have q2 := hT1.c1; have q3 := hT1.c2; have r0 := hR1.cell 0; have r1 := hR1.cell 1; have r2 := hR1.cell 2; have r3 := hR1.cell 3)
    | (refine wpList_box_cells (by rfl) 29 _ (by rfl) #[.string who, .int .i64 what, .string key, .bool deny] (by rfl) ?_; rw [hw, hRB])
    | fail)
  clear r0 r1 r2 r3
  clear r0 r1 r2 r3 q0 q1 q2 q3
  refine wp_region_noPanic ?_
  refine wp_region_held_drew (S := fun w' => TenR W.heap.size w' m g i NT c mv (.slice p N cm) t ∧ Whole w' RB 29 #[.string who, .int .i64 what, .string key, .bool deny].toList ∧ Below w.heap.size w w') (by kernel_rfl) ⟨hT1.on ((Below.refl _ _).drew), hR1.below ((Below.refl _ _).drew) hR1.lt, hB1.drew⟩ (fun hhS => ?_)
  refine wpAnyH_take (i := 0) (oi := ⟨some 15, _, _, _, _, _⟩) (v := ?_) rfl (by kernel_rfl) (by kernel_rfl) (by kernel_rfl) (fun _ _ _ h => h) (Or.inl ⟨by rfl, ?_⟩) (by assumption) ?_
  rotate_left
  · intro w hSw
    (try dsimp only at hSw)
    go_simp
    all_goals (with_reducible rfl)
  try simp only [Act.put, List.setIfInBounds_toArray, List.set_cons_zero, List.set_cons_succ]
  refine wpAnyH_take (i := 1) (oi := ⟨some 16, _, _, _, _, _⟩) (v := .bool false) rfl (by kernel_rfl) (by kernel_rfl) (by kernel_rfl) (fun _ _ _ h => h) (Or.inl ⟨by rfl, ?_⟩) (by assumption) ?_
  · intro w hSw
    (try dsimp only at hSw)
    go_simp
    all_goals (with_reducible rfl)
  try simp only [Act.put, List.setIfInBounds_toArray, List.set_cons_zero, List.set_cons_succ]
  refine wpAnyH_take (i := 2) (oi := ⟨some 17, _, _, _, _, _⟩) (v := ?_) rfl (by kernel_rfl) (by kernel_rfl) (by kernel_rfl) (fun _ _ _ h => h) (Or.inl ⟨by rfl, ?_⟩) (by assumption) ?_
  rotate_left
  · intro w hSw
    (try dsimp only at hSw)
    go_simp
    all_goals (with_reducible rfl)
  try simp only [Act.put, List.setIfInBounds_toArray, List.set_cons_zero, List.set_cons_succ]
  refine wpAnyH_take (i := 3) (oi := ⟨some 18, _, _, _, _, _⟩) (v := ?_) rfl (by kernel_rfl) (by kernel_rfl) (by kernel_rfl) (fun _ _ _ h => h) (Or.inl ⟨by rfl, ?_⟩) (by assumption) ?_
  rotate_left
  · intro w hSw
    (try dsimp only at hSw)
    go_simp
    all_goals (with_reducible rfl)
  try simp only [Act.put, List.setIfInBounds_toArray, List.set_cons_zero, List.set_cons_succ]
  refine wpAnyH_take (i := 4) (oi := ⟨some 19, _, _, _, _, _⟩) (v := ?_) rfl (by kernel_rfl) (by kernel_rfl) (by kernel_rfl) (fun _ _ _ h => h) (Or.inl ⟨by rfl, ?_⟩) (by assumption) ?_
  rotate_left
  · intro w hSw
    (try dsimp only at hSw)
    go_simp
    all_goals (with_reducible rfl)
  try simp only [Act.put, List.setIfInBounds_toArray, List.set_cons_zero, List.set_cons_succ]
  refine wpAnyH_take (i := 5) (oi := ⟨some 20, _, _, _, _, _⟩) (v := ?_) rfl (by kernel_rfl) (by kernel_rfl) (by kernel_rfl) (fun _ _ _ h => h) (Or.inl ⟨by rfl, ?_⟩) (by assumption) ?_
  rotate_left
  · intro w hSw
    (try dsimp only at hSw)
    go_simp
    all_goals (with_reducible rfl)
  try simp only [Act.put, List.setIfInBounds_toArray, List.set_cons_zero, List.set_cons_succ]
  refine wpAnyH_take (i := 6) (oi := ⟨some 21, _, _, _, _, _⟩) (v := ?_) rfl (by kernel_rfl) (by kernel_rfl) (by kernel_rfl) (fun _ _ _ h => h) (Or.inl ⟨by rfl, ?_⟩) (by assumption) ?_
  rotate_left
  · intro w hSw
    (try dsimp only at hSw)
    have y0 := hSw.1.book
    go_simp
    all_goals (with_reducible rfl)
  try simp only [Act.put, List.setIfInBounds_toArray, List.set_cons_zero, List.set_cons_succ]
  refine wpAnyH_take (i := 7) (oi := ⟨some 22, _, _, _, _, _⟩) (v := ?_) rfl (by kernel_rfl) (by kernel_rfl) (by kernel_rfl) (fun _ _ _ h => h) (Or.inl ⟨by rfl, ?_⟩) (by assumption) ?_
  rotate_left
  · intro w hSw
    (try dsimp only at hSw)
    go_simp
    all_goals (with_reducible rfl)
  try simp only [Act.put, List.setIfInBounds_toArray, List.set_cons_zero, List.set_cons_succ]
  refine wpAnyH_take (i := 8) (oi := ⟨some 23, _, _, _, _, _⟩) (v := ?_) rfl (by kernel_rfl) (by kernel_rfl) (by kernel_rfl) (fun _ _ _ h => h) (Or.inl ⟨by rfl, ?_⟩) (by assumption) ?_
  rotate_left
  · intro w hSw
    (try dsimp only at hSw)
    go_simp
    all_goals (with_reducible rfl)
  try simp only [Act.put, List.setIfInBounds_toArray, List.set_cons_zero, List.set_cons_succ]
  refine wpAnyH_take (i := 9) (oi := ⟨some 24, _, _, _, _, _⟩) (v := ?_) rfl (by kernel_rfl) (by kernel_rfl) (by kernel_rfl) (fun _ _ _ h => h) (Or.inl ⟨by rfl, ?_⟩) (by assumption) ?_
  rotate_left
  · intro w hSw
    (try dsimp only at hSw)
    have y0 := hSw.1.c0
    have y1 := hSw.1.c1
    have y2 := hSw.1.c2
    go_simp
    all_goals (with_reducible rfl)
  try simp only [Act.put, List.setIfInBounds_toArray, List.set_cons_zero, List.set_cons_succ]
  refine wpAnyH_take (i := 10) (oi := ⟨some 25, _, _, _, _, _⟩) (v := ?_) rfl (by kernel_rfl) (by kernel_rfl) (by kernel_rfl) (fun _ _ _ h => h) (Or.inl ⟨by rfl, ?_⟩) (by assumption) ?_
  rotate_left
  · intro w hSw
    (try dsimp only at hSw)
    have y0 := hSw.2.1.cell 0
    have y1 := hSw.2.1.cell 1
    have y2 := hSw.2.1.cell 2
    have y3 := hSw.2.1.cell 3
    go_simp
    all_goals (with_reducible rfl)
  try simp only [Act.put, List.setIfInBounds_toArray, List.set_cons_zero, List.set_cons_succ]
  refine wpAnyH_ready (rs := [11]) (by kernel_rfl) (by simp) ?_
  refine AllReadyH.cons (o := ⟨some 26, _, _, _, _, _⟩) rfl (fun K hK => ?_) AllReadyH.nil
  go_simp
  refine (HM.out _ hhS.2.2).mono ?_
  rintro e w2 ⟨ix, rfl, hix2, hB20⟩
  have hT2 := hhS.1.on hB20
  have hR2 := hhS.2.1.below hB20 hhS.2.1.lt
  have hB2 := hhS.2.2.trans (hB20.mono hhS.2.2.size)
  refine hK.out _ _ ⟨hT2, hR2, hB2⟩ (fun _ => ?_)
  clear hK K
  try simp only [Act.put, List.setIfInBounds_toArray, List.set_cons_zero, List.set_cons_succ]
  clear hhS
  have hix : ((ix = -1 ∧ ∀ x ∈ t.rules, eqR x ⟨who, what, key, deny⟩ = false) ∨ ∃ k : Nat, ix = k ∧ k < t.rules.length ∧ (∃ x, t.rules[k]? = some x ∧ eqR x ⟨who, what, key, deny⟩ = true) ∧ ∀ j x, j < k → t.rules[j]? = some x → eqR x ⟨who, what, key, deny⟩ = false) := hix2
  clear hix2
  rcases hix with ⟨rfl, hno⟩ | ⟨k1, rfl, _, ⟨x1, hx1, he1⟩, _⟩
  · refine wpAnyH_take (i := 12) (oi := ⟨some 27, _, _, _, _, _⟩) (v := .bool true) rfl (by kernel_rfl) (by kernel_rfl) (by kernel_rfl) (fun _ _ _ h => h) (Or.inl ⟨by rfl, ?_⟩) (by assumption) ?_
    · intro w hSw
      (try dsimp only at hSw)
      go_simp
      all_goals (with_reducible rfl)
    try simp only [Act.put, List.setIfInBounds_toArray, List.set_cons_zero, List.set_cons_succ]
    refine wpAnyH_take (i := 13) (oi := ⟨some 28, _, _, _, _, _⟩) (v := ?_) rfl (by kernel_rfl) (by kernel_rfl) (by kernel_rfl) (fun _ _ _ h => h) (Or.inl ⟨by rfl, ?_⟩) (by assumption) ?_
    rotate_left
    · intro w hSw
      (try dsimp only at hSw)
      go_simp
      all_goals (with_reducible rfl)
    try simp only [Act.put, List.setIfInBounds_toArray, List.set_cons_zero, List.set_cons_succ]
    refine wpAnyH_done (by kernel_rfl) ?_ _
    refine NoPanic.normal ?_
    go_wp2
    go_ret
    exact ⟨rfl, by first | exact hB2 | (rw [← hRB]; exact hB2)⟩
  · exact absurd he1 (by rw [hasR_none.1 HIN.out _ (List.mem_of_getElem? hx1)]; simp)


theorem refjoin_step (W w : World) (m : Nat) (lv : Value) (xs : List (ByteArray × Value × Value)) (ts : List Tn) (n role who : ByteArray) (h : RefBook W w m lv xs ts) (hc : Cap ts) :
    Calls Try.prog 59 #[.pointer (some ⟨m, 0, none⟩), .string n, .string role, .string who] w fun e w' => e = .returned (.int .i64 (joinF ts n role who).1) ∧ RStep W w w' m lv xs (joinF ts n role who).2 := by
  have hlen : ts.length ≤ 1000 := by have := hc.len; omega
  unfold joinF
  by_cases hn : (nameB role && nameB who) = false
  · rw [if_pos hn]
    exact (refjoin_bad w m n role who hn).mono fun e w' ⟨he, hb⟩ => ⟨he, RStep.same h hb⟩
  · rw [if_neg hn]
    have hn : nameB role = true ∧ nameB who = true := by simpa using hn
    cases hg : getT ts n with
    | none => exact (refjoin_missing W w m ts n role who ⟨_, _, h⟩ hlen hg hn.1 hn.2).mono fun e w' ⟨he, hb⟩ => ⟨he, RStep.same h hb⟩
    | some q =>
      obtain ⟨i, t⟩ := q
      have ht := (getT_at hg).1
      have hml := hc.ms t (List.mem_of_getElem? ht)
      obtain ⟨g, c, x, rfl, hmg, hx, hT⟩ := h.ten ht
      obtain ⟨p, cm, hv⟩ := slice_of_row hT.mems
      show Calls _ _ _ _ fun e w' => e = .returned (.int .i64 (if hasM t.ms (role, who) = true then ((7 : Int), ts) else if 256 ≤ t.ms.length then (8, ts) else (0, ts.set i ⟨t.name, t.rules, t.ms ++ [(role, who)]⟩)).1) ∧ RStep W w w' m _ xs (if hasM t.ms (role, who) = true then ((7 : Int), ts) else if 256 ≤ t.ms.length then (8, ts) else (0, ts.set i ⟨t.name, t.rules, t.ms ++ [(role, who)]⟩)).2
      have hT2 := hv ▸ hT
      by_cases hh : hasM t.ms (role, who) = true
      · rw [if_pos hh]
        exact (refjoin_there W w m g i ts.length c _ cm p x.2.2 ts t n role who ⟨_, _, h⟩ hlen hg hT2 rfl (by omega) hn.1 hn.2 hh).mono fun e w' ⟨he, hb⟩ => ⟨he, RStep.same h hb⟩
      · rw [if_neg hh]
        have hh : hasM t.ms (role, who) = false := by simpa using hh
        by_cases hl : 256 ≤ t.ms.length
        · rw [if_pos hl]
          exact (refjoin_full W w m g i ts.length c _ cm p x.2.2 ts t n role who ⟨_, _, h⟩ hlen hg hT2 rfl (by omega) hn.1 hn.2 hh hl).mono fun e w' ⟨he, hb⟩ => ⟨he, RStep.same h hb⟩
        · rw [if_neg hl]
          refine (refjoin_new W w m g i ts.length c _ cm p x.2.2 ts t n role who ⟨_, _, h⟩ hlen hg hT2 rfl (by omega) hn.1 hn.2 hh (by omega) hmg fun w7 hb => h.free hx (by decide) hb).mono ?_
          rintro e w' ⟨he, wd, w7, v7, hBd, hB7, hO, rfl⟩
          exact ⟨he, h.turnM hx ht hBd hB7 hO⟩

theorem refleave_step (W w : World) (m : Nat) (lv : Value) (xs : List (ByteArray × Value × Value)) (ts : List Tn) (n role who : ByteArray) (h : RefBook W w m lv xs ts) (hc : Cap ts) :
    Calls Try.prog 60 #[.pointer (some ⟨m, 0, none⟩), .string n, .string role, .string who] w fun e w' => e = .returned (.int .i64 (leaveT ts n role who).1) ∧ RStep W w w' m lv xs (leaveT ts n role who).2 := by
  have hlen : ts.length ≤ 1000 := by have := hc.len; omega
  unfold leaveT
  by_cases hn : (nameB role && nameB who) = false
  · rw [if_pos hn]
    exact (refleave_bad w m n role who hn).mono fun e w' ⟨he, hb⟩ => ⟨he, RStep.same h hb⟩
  · rw [if_neg hn]
    have hn : nameB role = true ∧ nameB who = true := by simpa using hn
    cases hg : getT ts n with
    | none => exact (refleave_missing W w m ts n role who ⟨_, _, h⟩ hlen hg hn.1 hn.2).mono fun e w' ⟨he, hb⟩ => ⟨he, RStep.same h hb⟩
    | some q =>
      obtain ⟨i, t⟩ := q
      have ht := (getT_at hg).1
      have hml := hc.ms t (List.mem_of_getElem? ht)
      obtain ⟨g, c, x, rfl, hmg, hx, hT⟩ := h.ten ht
      show Calls _ _ _ _ fun e w' => e = .returned (.int .i64 (if hasM t.ms (role, who) = false then ((6 : Int), ts) else (0, ts.set i ⟨t.name, t.rules, t.ms.filter fun x => !eqM x (role, who)⟩)).1) ∧ RStep W w w' m _ xs (if hasM t.ms (role, who) = false then ((6 : Int), ts) else (0, ts.set i ⟨t.name, t.rules, t.ms.filter fun x => !eqM x (role, who)⟩)).2
      by_cases hh : hasM t.ms (role, who) = false
      · rw [if_pos hh]
        exact (refleave_not W w m g i ts.length c _ _ ts t n role who ⟨_, _, h⟩ hlen hg hT (by omega) hn.1 hn.2 hh).mono fun e w' ⟨he, hb⟩ => ⟨he, RStep.same h hb⟩
      · rw [if_neg hh]
        have hh : hasM t.ms (role, who) = true := by simpa using hh
        rcases row_shape hT.mems with ⟨_, hz⟩ | ⟨mg, cm, hv, _⟩
        · rw [List.eq_nil_of_length_eq_zero hz] at hh
          cases hh
        have hT2 := hv ▸ hT
        refine (refleave_new W w m g i ts.length c mg _ cm x.2.2 ts t n role who ⟨_, _, h⟩ hlen hg hT2 rfl (by omega) hn.1 hn.2 hh hmg fun w7 hb => h.free hx (by decide) hb).mono ?_
        rintro e w' ⟨he, wd, w7, v7, k, hBd, hB7, hO, h1, h2, rfl⟩
        rw [erase_first (fun x => eqM_iff) (hc.nodup t (List.mem_of_getElem? ht)) h1 h2] at hO
        exact ⟨he, h.turnM hx ht hBd hB7 hO⟩

theorem refgrant_step (W w : World) (m : Nat) (lv : Value) (xs : List (ByteArray × Value × Value)) (ts : List Tn) (n who key : ByteArray) (what : Int) (deny : Bool) (h : RefBook W w m lv xs ts) (hc : Cap ts) (hsz : key.size ≤ 1000000) :
    Calls Try.prog 61 #[.pointer (some ⟨m, 0, none⟩), .string n, .agg #[.string who, .int .i64 what, .string key, .bool deny]] w fun e w' => e = .returned (.int .i64 (grantF ts n ⟨who, what, key, deny⟩).1) ∧ RStep W w w' m lv xs (grantF ts n ⟨who, what, key, deny⟩).2 := by
  have hlen : ts.length ≤ 1000 := by have := hc.len; omega
  unfold grantF
  by_cases hn : mayB ⟨who, what, key, deny⟩ = false
  · rw [if_pos hn]
    exact (refgrant_bad w m n who key what deny hn hsz).mono fun e w' ⟨he, hb⟩ => ⟨he, RStep.same h hb⟩
  · rw [if_neg hn]
    have hn : mayB ⟨who, what, key, deny⟩ = true := by simpa using hn
    cases hg : getT ts n with
    | none => exact (refgrant_missing W w m ts n who key what deny ⟨_, _, h⟩ hlen hg hn hsz).mono fun e w' ⟨he, hb⟩ => ⟨he, RStep.same h hb⟩
    | some q =>
      obtain ⟨i, t⟩ := q
      have ht := (getT_at hg).1
      have hml := hc.rules t (List.mem_of_getElem? ht)
      obtain ⟨g, c, x, rfl, hmg, hx, hT⟩ := h.ten ht
      obtain ⟨p, cm, hv⟩ := slice_of_row hT.rules
      show Calls _ _ _ _ fun e w' => e = .returned (.int .i64 (if hasR t.rules ⟨who, what, key, deny⟩ = true then ((7 : Int), ts) else if 128 ≤ t.rules.length then (8, ts) else (0, ts.set i ⟨t.name, t.rules ++ [⟨who, what, key, deny⟩], t.ms⟩)).1) ∧ RStep W w w' m _ xs (if hasR t.rules ⟨who, what, key, deny⟩ = true then ((7 : Int), ts) else if 128 ≤ t.rules.length then (8, ts) else (0, ts.set i ⟨t.name, t.rules ++ [⟨who, what, key, deny⟩], t.ms⟩)).2
      have hT2 := hv ▸ hT
      refine (refgrant_at W w m g i ts.length c _ cm p x.2.1 ts t n who key what deny ⟨_, _, h⟩ hlen hg hT2 rfl (by omega) hn hsz hmg fun w7 hb => h.free hx (by decide) hb).mono ?_
      rintro e w' (⟨he, hh, hb⟩ | ⟨he, hh, hl, hb⟩ | ⟨he, hh, hl, wd, w7, v7, hBd, hB7, hO, rfl⟩)
      · rw [if_pos hh]
        exact ⟨he, RStep.same h hb⟩
      · rw [if_neg (by simp [hh]), if_pos hl]
        exact ⟨he, RStep.same h hb⟩
      · rw [if_neg (by simp [hh]), if_neg (by omega)]
        exact ⟨he, h.turnR hx ht hBd hB7 hO⟩

theorem refrevoke_step (W w : World) (m : Nat) (lv : Value) (xs : List (ByteArray × Value × Value)) (ts : List Tn) (n who key : ByteArray) (what : Int) (deny : Bool) (h : RefBook W w m lv xs ts) (hc : Cap ts) (hnd : ∀ t ∈ ts, t.rules.Nodup) (hsz : key.size ≤ 1000000) :
    Calls Try.prog 62 #[.pointer (some ⟨m, 0, none⟩), .string n, .agg #[.string who, .int .i64 what, .string key, .bool deny]] w fun e w' => e = .returned (.int .i64 (revokeT ts n ⟨who, what, key, deny⟩).1) ∧ RStep W w w' m lv xs (revokeT ts n ⟨who, what, key, deny⟩).2 := by
  have hlen : ts.length ≤ 1000 := by have := hc.len; omega
  unfold revokeT
  by_cases hn : mayB ⟨who, what, key, deny⟩ = false
  · rw [if_pos hn]
    exact (refrevoke_bad w m n who key what deny hn hsz).mono fun e w' ⟨he, hb⟩ => ⟨he, RStep.same h hb⟩
  · rw [if_neg hn]
    have hn : mayB ⟨who, what, key, deny⟩ = true := by simpa using hn
    cases hg : getT ts n with
    | none => exact (refrevoke_missing W w m ts n who key what deny ⟨_, _, h⟩ hlen hg hn hsz).mono fun e w' ⟨he, hb⟩ => ⟨he, RStep.same h hb⟩
    | some q =>
      obtain ⟨i, t⟩ := q
      have ht := (getT_at hg).1
      have hml := hc.rules t (List.mem_of_getElem? ht)
      obtain ⟨g, c, x, rfl, hmg, hx, hT⟩ := h.ten ht
      show Calls _ _ _ _ fun e w' => e = .returned (.int .i64 (if hasR t.rules ⟨who, what, key, deny⟩ = false then ((6 : Int), ts) else (0, ts.set i ⟨t.name, t.rules.filter fun x => !eqR x ⟨who, what, key, deny⟩, t.ms⟩)).1) ∧ RStep W w w' m _ xs (if hasR t.rules ⟨who, what, key, deny⟩ = false then ((6 : Int), ts) else (0, ts.set i ⟨t.name, t.rules.filter fun x => !eqR x ⟨who, what, key, deny⟩, t.ms⟩)).2
      rcases row_shape hT.rules with ⟨hv, hz⟩ | ⟨mg, cm, hv, _⟩
      · have hnil := List.eq_nil_of_length_eq_zero hz
        have hh : hasR t.rules ⟨who, what, key, deny⟩ = false := by rw [hnil]; rfl
        rw [if_pos hh]
        exact (refrevoke_not W w m g i ts.length c 0 0 none x.2.1 ts t n who key what deny ⟨_, _, h⟩ hlen hg (hv ▸ hT) hz (by omega) hn hsz hh).mono fun e w' ⟨he, hb⟩ => ⟨he, RStep.same h hb⟩
      have hT2 := hv ▸ hT
      refine (refrevoke_at W w m g i ts.length c mg _ cm x.2.1 ts t n who key what deny ⟨_, _, h⟩ hlen hg hT2 rfl (by omega) hn hsz hmg fun w7 hb => h.free hx (by decide) hb).mono ?_
      rintro e w' (⟨he, hh, hb⟩ | ⟨he, wd, w7, v7, k, hBd, hB7, hO, h1, h2, rfl⟩)
      · rw [if_pos hh]
        exact ⟨he, RStep.same h hb⟩
      · obtain ⟨x1, hx1, he1⟩ := h1
        rw [if_neg (by rw [hasR_iff.2 (eqR_iff.1 he1 ▸ List.mem_of_getElem? hx1)]; simp)]
        rw [erase_first (fun x => eqR_iff) (hnd t (List.mem_of_getElem? ht)) ⟨x1, hx1, he1⟩ h2] at hO
        exact ⟨he, h.turnR hx ht hBd hB7 hO⟩

end Go.Proofs.Ytglcingpolpkdaa
