/- (*Book).Join: what it answers, and what it leaves. -/
import Derived.Test.YtglcingpolpkdaaAJoin
namespace Go.Proofs.Ytglcingpolpkdaa
open Go.RowKit

theorem map_ne {w : World} {m mi : Nat} {l : List (ByteArray × Value)} {ms : List (ByteArray × ByteArray)} (h : MapS w m l) (hm : MapM w mi ms) (hl : l ≠ []) : m ≠ mi := fun e => by
  subst e
  obtain ⟨e1, c1, h1, h2⟩ := h
  obtain ⟨e3, c3, h3, h4⟩ := hm
  rw [h1] at h3
  injection h3 with h3
  injection h3 with h3 _
  subst h3
  rw [h2] at h4
  cases l with
  | nil => exact hl rfl
  | cons p l =>
    cases ms with
    | nil => simp at h4
    | cons q ms => simp at h4

/-- While a member is looked for. -/
structure JK (W w : World) (b m M t mi : Nat) (nv rv mv : Value) (names : List ByteArray) (l : List (ByteArray × Value)) (rules : List Rl) (ms : List (ByteArray × ByteArray)) (role who : ByteArray) : Prop where
  book : BookAt W w b m nv names l
  ten : TenOwn W w t rv mv mi rules ms
  mem : Whole w M 106 [.string role, .string who]
theorem JK.on {W w w' : World} {b m M t mi : Nat} {nv rv mv : Value} {names : List ByteArray} {l : List (ByteArray × Value)} {rules : List Rl} {ms : List (ByteArray × ByteArray)} {role who : ByteArray} (h : JK W w b m M t mi nv rv mv names l rules ms role who) (hb : Below w.heap.size w w') : JK W w' b m M t mi nv rv mv names l rules ms role who :=
  ⟨h.book.on hb, h.ten.on hb, h.mem.below hb h.mem.lt⟩
theorem JK.facts {W w : World} {b m M t mi : Nat} {nv rv mv : Value} {names : List ByteArray} {l : List (ByteArray × Value)} {rules : List Rl} {ms : List (ByteArray × ByteArray)} {role who : ByteArray} (h : JK W w b m M t mi nv rv mv names l rules ms role who) :
    w.cell? ⟨t, 1, none⟩ = some mv ∧ w.cell? ⟨t, 2, none⟩ = some (.map (some mi)) ∧ w.cell? ⟨M, 0, none⟩ = some (.string role) ∧ w.cell? ⟨M, 1, none⟩ = some (.string who) :=
  ⟨h.ten.ten.cell 1, h.ten.ten.cell 2, h.mem.cell 0, h.mem.cell 1⟩

set_option maxRecDepth 100000 in
set_option maxHeartbeats 4000000 in
theorem join_new (W w : World) (b m t mi : Nat) (nv rv mv : Value) (names : List ByteArray) (l : List (ByteArray × Value)) (name role who : ByteArray) (rules : List Rl) (ms : List (ByteArray × ByteArray))
    (hB : BookAt W w b m nv names l) (hT : TenOwn W w t rv mv mi rules ms) (hl : findS l name = some (.pointer (some ⟨t, 0, none⟩))) (hr : nameB role = true) (hw : nameB who = true) (hnew : hasM ms (role, who) = false) (hlen : ms.length < 256) :
    Calls Try.prog 16 #[.pointer (some ⟨b, 0, none⟩), .string name, .string role, .string who] w fun e w' => e = .returned (.int .i64 0) ∧ BookAt W w' b m nv names l ∧ (∃ mv', TenOwn W w' t rv mv' mi rules (ms ++ [(role, who)]) ∧ Moved w mv mv') ∧ Only w w' (fun i => (i = t ∨ mv.ownBlock = some i) ∨ i = mi) := by
  have hz : ∀ w : World, (zeroValue 97).run Try.prog w = .ok (.pointer none) w := fun w => by kernel_rfl
  have c1 := hB.book.cell 1
  have mk := made_calls w b m c1
  have NR := Lib.hid (fun (w : World) => hr ▸ name_calls w role)
  have NW := Lib.hid (fun (w : World) => hw ▸ name_calls w who)
  obtain ⟨xr, kr, yr, hrv⟩ := slice_any hT.mems
  have hkr : kr < 256 := by
    obtain ⟨a, c, h⟩ := slice_of_row hT.mems
    rw [hrv] at h
    injection h with _ h _
    omega
  subst hrv
  have i1 : ¬ (256 : Int) ≤ (kr : Int) := by omega
  have hne : m ≠ mi := map_ne hB.all hT.isIn (by rintro rfl; cases hl)
  have HNEW := Lib.hid hnew
  have HLEN := Lib.hid hlen
  have HB := Lib.hid hB
  have HT := Lib.hid hT
  have HL := Lib.hid hl
  have HNE := Lib.hid hne
  clear hB hT hl hr hw hnew hlen hne
  go_enter Try.func16, Try.ntmps16
  go_wp2_with (first
    | (go_at_call 42; refine mk.mono ?_; rintro e w' ⟨rfl, hw⟩; rw [hw]; clear hw)
    | (go_at_call 43; refine (NW.out w1).mono ?_; rintro e w2 ⟨rfl, hB2⟩; have hBk := HB.out.on (hB1.trans (hB2.mono hB1.size)); have hlk := look_S Try.underlying44 Try.underlying9 hBk.all name (hz w2); rw [HL.out] at hlk; have d1 := hBk.book.cell 1; have hTk := Lib.hid (HT.out.on (hB1.trans (hB2.mono hB1.size))); have HBk := Lib.hid hBk; clear hBk)
    | (go_at_call 43; refine (NR.out _).mono ?_; rintro e w1 ⟨rfl, hB1⟩))
  have hBA : Below w2.heap.size w2 (w2.alloc (.cells #[.string role, .string who] 106)) := (Below.refl _ _).alloc (Nat.le_refl _) _
  obtain ⟨M, hM⟩ : ∃ M, w2.heap.size = M := ⟨_, rfl⟩
  have hMt : M ≠ t := by
    have := hTk.out.ten.lt
    omega
  have hMv : (Value.slice xr kr yr).ownBlock ≠ some M := fun h => by
    obtain ⟨cur, hc⟩ := row_type hTk.out.mems h
    have := (Array.getElem?_eq_some_iff.1 hc).1
    omega
  have hJ : JK W (w2.alloc (.cells #[.string role, .string who] 106)) b m M t mi nv rv (.slice xr kr yr) names l rules ms role who := ⟨HBk.out.on hBA, hTk.out.on hBA, hM ▸ Whole.new w2 106 #[.string role, .string who]⟩
  rw [hM]
  have hOld3 : Below w.heap.size w (w2.alloc (.cells #[.string role, .string who] 106)) := (hB1.trans (hB2.mono hB1.size)).trans (hBA.mono (Nat.le_trans hB1.size hB2.size))
  clear hBA hlk d1
  generalize (w2.alloc (.cells #[.string role, .string who] 106)) = w3 at hJ hOld3 ⊢
  refine wp_region_noPanic ?_
  refine wp_region_held_drew (S := fun w' => JK W w' b m M t mi nv rv (.slice xr kr yr) names l rules ms role who) (by kernel_rfl) (hJ.on ((Below.refl _ _).drew)) (fun hhS => ?_)
  refine wpAnyH_take (i := 0) (oi := ⟨some 34, _, _, _, _, _⟩) (v := ?_) rfl (by kernel_rfl) (by kernel_rfl) (by kernel_rfl) (fun _ _ _ h => h) (Or.inl ⟨by rfl, ?_⟩) (by assumption) ?_
  rotate_left
  · intro w hSw
    (try dsimp only at hSw)
    go_simp
    all_goals (with_reducible rfl)
  try simp only [Act.put, List.setIfInBounds_toArray, List.set_cons_zero, List.set_cons_succ]
  refine wpAnyH_take (i := 1) (oi := ⟨some 35, _, _, _, _, _⟩) (v := ?_) rfl (by kernel_rfl) (by kernel_rfl) (by kernel_rfl) (fun _ _ _ h => h) (Or.inl ⟨by rfl, ?_⟩) (by assumption) ?_
  rotate_left
  · intro w hSw
    (try dsimp only at hSw)
    go_simp
    all_goals (with_reducible rfl)
  try simp only [Act.put, List.setIfInBounds_toArray, List.set_cons_zero, List.set_cons_succ]
  refine wpAnyH_take (i := 2) (oi := ⟨some 36, _, _, _, _, _⟩) (v := ?_) rfl (by kernel_rfl) (by kernel_rfl) (by kernel_rfl) (fun _ _ _ h => h) (Or.inl ⟨by rfl, ?_⟩) (by assumption) ?_
  rotate_left
  · intro w hSw
    (try dsimp only at hSw)
    go_simp
    all_goals (with_reducible rfl)
  try simp only [Act.put, List.setIfInBounds_toArray, List.set_cons_zero, List.set_cons_succ]
  refine wpAnyH_take (i := 3) (oi := ⟨some 37, _, _, _, _, _⟩) (v := ?_) rfl (by kernel_rfl) (by kernel_rfl) (by kernel_rfl) (fun _ _ _ h => h) (Or.inl ⟨by rfl, ?_⟩) (by assumption) ?_
  rotate_left
  · intro w hSw
    (try dsimp only at hSw)
    obtain ⟨t1, t2, x0, x1⟩ := hSw.facts
    go_simp
    all_goals (with_reducible rfl)
  try simp only [Act.put, List.setIfInBounds_toArray, List.set_cons_zero, List.set_cons_succ]
  refine wpAnyH_take (i := 4) (oi := ⟨some 38, _, _, _, _, _⟩) (v := ?_) rfl (by kernel_rfl) (by kernel_rfl) (by kernel_rfl) (fun _ _ _ h => h) (Or.inl ⟨by rfl, ?_⟩) (by assumption) ?_
  rotate_left
  · intro w hSw
    (try dsimp only at hSw)
    obtain ⟨t1, t2, x0, x1⟩ := hSw.facts
    go_simp
    all_goals (with_reducible rfl)
  try simp only [Act.put, List.setIfInBounds_toArray, List.set_cons_zero, List.set_cons_succ]
  refine wpAnyH_take (i := 5) (oi := ⟨some 39, _, _, _, _, _⟩) (v := ?_) rfl (by kernel_rfl) (by kernel_rfl) (by kernel_rfl) (fun _ _ _ h => h) (Or.inl ⟨by rfl, ?_⟩) (by assumption) ?_
  rotate_left
  · intro w hSw
    (try dsimp only at hSw)
    have lk := look_M hSw.ten.isIn role who
    rw [HNEW.out] at lk
    go_simp
    all_goals (with_reducible rfl)
  try simp only [Act.put, List.setIfInBounds_toArray, List.set_cons_zero, List.set_cons_succ]
  refine wpAnyH_take (i := 6) (oi := ⟨some 33, _, _, _, _, _⟩) (v := ?_) rfl (by kernel_rfl) (by kernel_rfl) (by kernel_rfl) (fun _ _ _ h => h) (Or.inl ⟨by rfl, ?_⟩) (by assumption) ?_
  rotate_left
  · intro w hSw
    (try dsimp only at hSw)
    go_simp
    all_goals (with_reducible rfl)
  try simp only [Act.put, List.setIfInBounds_toArray, List.set_cons_zero, List.set_cons_succ]
  refine wpAnyH_done (by kernel_rfl) ?_ _
  refine NoPanic.normal ?_
  have hJ8 := hhS
  have hOld : Below w.heap.size w w3.drew := hOld3.drew
  generalize w3.drew = w8 at hJ8 hOld ⊢
  obtain ⟨t1, t2, x0, x1⟩ := hJ8.facts
  go_wp2
  refine join_app W _ b m M t mi nv rv _ names l rules ms role who hJ8.book hJ8.ten hJ8.mem hMt hMv HLEN.out ?_
  intro _ _ _ _ _ _ _ _ _ _ w9 mv9 hM9 hB9 hT9 hV9 hO9
  go_wp2
  refine join_end W _ b m M t mi nv rv mv9 names l rules ms role who hB9 hT9 hM9 HNEW.out HNE.out ?_
  intro _ _ _ _ _ w10 hB10 hT10 hO10
  go_wp2
  go_ret
  exact ⟨rfl, hB10, ⟨mv9, hT10, hV9.imp id fun ⟨g, h1, h2⟩ => ⟨g, h1, Nat.le_trans hOld.size h2⟩⟩, ((Only.of_below hOld (fun _ => False)).trans (hO9.trans hO10)).weak fun i _ h => h.elim False.elim id⟩

end Go.Proofs.Ytglcingpolpkdaa

/- Open, Join, Grant, Allowed: the answers that leave the book as it is. -/
namespace Go.Proofs.Ytglcingpolpkdaa
open Go.RowKit

set_option maxRecDepth 100000 in
set_option maxHeartbeats 1000000 in
theorem open_bad (W w : World) (b m : Nat) (nv : Value) (names : List ByteArray) (l : List (ByteArray × Value)) (name : ByteArray) (hB : BookAt W w b m nv names l) (hname : nameB name = false) :
    Calls Try.prog 13 #[.pointer (some ⟨b, 0, none⟩), .string name] w fun e w' => e = .returned (.int .i64 2) ∧ Below w.heap.size w w' := by
  have NC := Lib.hid (fun (w : World) => hname ▸ name_calls w name)
  have mk := made_calls w b m (hB.book.cell 1)
  clear hB hname
  go_enter Try.func13, Try.ntmps13
  go_wp2_with (first
    | (go_at_call 42; refine mk.mono ?_; rintro e w' ⟨rfl, hw⟩; rw [hw]; clear hw)
    | (go_at_call 43; refine (NC.out _).mono ?_; rintro e w1 ⟨rfl, hB1⟩))
  go_ret
  exact ⟨rfl, hB1⟩

set_option maxRecDepth 100000 in
set_option maxHeartbeats 2000000 in
theorem grant_bad (W w : World) (b m : Nat) (nv : Value) (names : List ByteArray) (l : List (ByteArray × Value)) (name who key : ByteArray) (what : Int) (deny : Bool) (hB : BookAt W w b m nv names l) (hmay : mayB ⟨who, what, key, deny⟩ = false) (hsz : key.size ≤ 9223372036854775807) :
    Calls Try.prog 14 #[.pointer (some ⟨b, 0, none⟩), .string name, .agg #[.string who, .int .i64 what, .string key, .bool deny]] w fun e w' => e = .returned (.int .i64 2) ∧ Below w.heap.size w w' := by
  have hBA : Below w.heap.size w (w.alloc (.cells #[.string who, .int .i64 what, .string key, .bool deny] 29)) := (Below.refl _ _).alloc (Nat.le_refl _) _
  have hR := Whole.new w 29 #[.string who, .int .i64 what, .string key, .bool deny]
  have hB0 := hB.on hBA
  have r0 := hR.cell 0
  have r1 := hR.cell 1
  have r2 := hR.cell 2
  have r3 := hR.cell 3
  have c1 := hB0.book.cell 1
  have hz : ∀ w : World, (zeroValue 97).run Try.prog w = .ok (.pointer none) w := fun w => by kernel_rfl
  have hlk := look_S Try.underlying44 Try.underlying9 hB0.all name (hz _)
  generalize (findS l name).getD (.pointer none) = v at hlk
  have mk := made_calls (w.alloc (.cells #[.string who, .int .i64 what, .string key, .bool deny] 29)) b m c1
  have MC := Lib.hid (hmay ▸ may_calls (w.alloc (.cells #[.string who, .int .i64 what, .string key, .bool deny] 29)) who key what deny hsz)
  clear hz hR hB0 hB
  go_enter Try.func14, Try.ntmps14
  go_wp2_with (first
    | (refine wpList_box_cells (by rfl) 29 _ (by rfl) #[.string who, .int .i64 what, .string key, .bool deny] (by rfl) ?_)
    | (go_at_call 42; refine mk.mono ?_; rintro e w' ⟨rfl, hw⟩; rw [hw]; clear hw)
    | (go_at_call 44; refine MC.out.mono ?_; rintro e w1 ⟨rfl, hB1⟩))
  go_ret
  exact ⟨rfl, hBA.trans (hB1.mono hBA.size)⟩

set_option maxRecDepth 100000 in
set_option maxHeartbeats 2000000 in
theorem grant_missing (W w : World) (b m : Nat) (nv : Value) (names : List ByteArray) (l : List (ByteArray × Value)) (name who key : ByteArray) (what : Int) (deny : Bool) (hB : BookAt W w b m nv names l) (hl : findS l name = none) (hmay : mayB ⟨who, what, key, deny⟩ = true) (hsz : key.size ≤ 9223372036854775807) :
    Calls Try.prog 14 #[.pointer (some ⟨b, 0, none⟩), .string name, .agg #[.string who, .int .i64 what, .string key, .bool deny]] w fun e w' => e = .returned (.int .i64 6) ∧ Below w.heap.size w w' := by
  have hBA : Below w.heap.size w (w.alloc (.cells #[.string who, .int .i64 what, .string key, .bool deny] 29)) := (Below.refl _ _).alloc (Nat.le_refl _) _
  have hR := Whole.new w 29 #[.string who, .int .i64 what, .string key, .bool deny]
  have hB0 := hB.on hBA
  have r0 := hR.cell 0
  have r1 := hR.cell 1
  have r2 := hR.cell 2
  have r3 := hR.cell 3
  have c1 := hB0.book.cell 1
  have hz : ∀ w : World, (zeroValue 97).run Try.prog w = .ok (.pointer none) w := fun w => by kernel_rfl
  have hlk := look_S Try.underlying44 Try.underlying9 hB0.all name (hz _)
  rw [hl] at hlk
  have mk := made_calls (w.alloc (.cells #[.string who, .int .i64 what, .string key, .bool deny] 29)) b m c1
  have MC := Lib.hid (hmay ▸ may_calls (w.alloc (.cells #[.string who, .int .i64 what, .string key, .bool deny] 29)) who key what deny hsz)
  clear hz hR hB0 hB hl
  go_enter Try.func14, Try.ntmps14
  go_wp2_with (first
    | (refine wpList_box_cells (by rfl) 29 _ (by rfl) #[.string who, .int .i64 what, .string key, .bool deny] (by rfl) ?_)
    | (go_at_call 42; refine mk.mono ?_; rintro e w' ⟨rfl, hw⟩; rw [hw]; clear hw)
    | (go_at_call 44; refine MC.out.mono ?_; rintro e w1 ⟨rfl, hB1⟩))
  go_ret
  exact ⟨rfl, hBA.trans (hB1.mono hBA.size)⟩

set_option maxRecDepth 100000 in
set_option maxHeartbeats 2000000 in
theorem join_bad (W w : World) (b m : Nat) (nv : Value) (names : List ByteArray) (l : List (ByteArray × Value)) (name role who : ByteArray) (hB : BookAt W w b m nv names l) (hbad : (nameB role && nameB who) = false) :
    Calls Try.prog 16 #[.pointer (some ⟨b, 0, none⟩), .string name, .string role, .string who] w fun e w' => e = .returned (.int .i64 2) ∧ Below w.heap.size w w' := by
  have mk := made_calls w b m (hB.book.cell 1)
  obtain ⟨x, hx⟩ : ∃ x, nameB role = x := ⟨_, rfl⟩
  obtain ⟨y, hy⟩ : ∃ y, nameB who = y := ⟨_, rfl⟩
  rw [hx, hy] at hbad
  have NR := Lib.hid (fun (w : World) => hx ▸ name_calls w role)
  have NW := Lib.hid (fun (w : World) => hy ▸ name_calls w who)
  clear hB hx hy
  cases x
  · go_enter Try.func16, Try.ntmps16
    go_wp2_with (first
      | (go_at_call 42; refine mk.mono ?_; rintro e w' ⟨rfl, hw⟩; rw [hw]; clear hw)
      | (go_at_call 43; refine (NR.out _).mono ?_; rintro e w1 ⟨rfl, hB1⟩))
    go_ret
    exact ⟨rfl, hB1⟩
  · obtain rfl : y = false := by simpa using hbad
    go_enter Try.func16, Try.ntmps16
    go_wp2_with (first
      | (go_at_call 42; refine mk.mono ?_; rintro e w' ⟨rfl, hw⟩; rw [hw]; clear hw)
      | (go_at_call 43; refine (NW.out w1).mono ?_; rintro e w2 ⟨rfl, hB2⟩)
      | (go_at_call 43; refine (NR.out _).mono ?_; rintro e w1 ⟨rfl, hB1⟩))
    go_ret
    exact ⟨rfl, hB1.trans (hB2.mono hB1.size)⟩

set_option maxRecDepth 100000 in
set_option maxHeartbeats 2000000 in
theorem join_missing (W w : World) (b m : Nat) (nv : Value) (names : List ByteArray) (l : List (ByteArray × Value)) (name role who : ByteArray) (hB : BookAt W w b m nv names l) (hl : findS l name = none) (hr : nameB role = true) (hw : nameB who = true) :
    Calls Try.prog 16 #[.pointer (some ⟨b, 0, none⟩), .string name, .string role, .string who] w fun e w' => e = .returned (.int .i64 6) ∧ Below w.heap.size w w' := by
  have hz : ∀ w : World, (zeroValue 97).run Try.prog w = .ok (.pointer none) w := fun w => by kernel_rfl
  have mk := made_calls w b m (hB.book.cell 1)
  have NR := Lib.hid (fun (w : World) => hr ▸ name_calls w role)
  have NW := Lib.hid (fun (w : World) => hw ▸ name_calls w who)
  have HB := Lib.hid hB
  have HL := Lib.hid hl
  clear hB hl hr hw
  go_enter Try.func16, Try.ntmps16
  go_wp2_with (first
    | (go_at_call 42; refine mk.mono ?_; rintro e w' ⟨rfl, hw⟩; rw [hw]; clear hw)
    | (go_at_call 43; refine (NW.out w1).mono ?_; rintro e w2 ⟨rfl, hB2⟩; have hBk := HB.out.on (hB1.trans (hB2.mono hB1.size)); have hlk := look_S Try.underlying44 Try.underlying9 hBk.all name (hz w2); rw [HL.out] at hlk; have d1 := hBk.book.cell 1)
    | (go_at_call 43; refine (NR.out _).mono ?_; rintro e w1 ⟨rfl, hB1⟩))
  go_ret
  exact ⟨rfl, (hB1.trans (hB2.mono hB1.size)).alloc (Nat.le_trans hB1.size hB2.size) _⟩

set_option maxRecDepth 100000 in
set_option maxHeartbeats 2000000 in
theorem allowed_missing (W w : World) (b m : Nat) (nv : Value) (names : List ByteArray) (l : List (ByteArray × Value)) (name who key : ByteArray) (what : Int) (hB : BookAt W w b m nv names l) (hl : findS l name = none) :
    Calls Try.prog 15 #[.pointer (some ⟨b, 0, none⟩), .string name, .string who, .int .i64 what, .string key] w fun e w' => e = .returned (.bool false) ∧ Below w.heap.size w w' := by
  have hz : ∀ w : World, (zeroValue 97).run Try.prog w = .ok (.pointer none) w := fun w => by kernel_rfl
  have mk := made_calls w b m (hB.book.cell 1)
  have hlk := look_S Try.underlying44 Try.underlying9 hB.all name (hz w)
  rw [hl] at hlk
  have c1 := hB.book.cell 1
  clear hB hl hz
  go_enter Try.func15, Try.ntmps15
  go_wp2
  apply wp_scope_straight
  go_wp2_with (go_at_call 42; refine mk.mono ?_; rintro e w' ⟨rfl, hw⟩; rw [hw]; clear hw)
  rw [Exit.noGoto_ret]
  go_ret
  exact ⟨rfl, Below.refl _ _⟩

end Go.Proofs.Ytglcingpolpkdaa
