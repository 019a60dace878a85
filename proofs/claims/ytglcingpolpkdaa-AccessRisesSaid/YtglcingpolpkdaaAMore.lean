/- Open, Join, Grant, Allowed: the answers that leave the book as it is. -/
import Derived.Test.YtglcingpolpkdaaAJoined
namespace Go.Proofs.Ytglcingpolpkdaa
open Go.RowKit

set_option maxRecDepth 100000 in
set_option maxHeartbeats 1000000 in
theorem open_bad (W w : World) (b m : Nat) (nv : Value) (names : List ByteArray) (l : List (ByteArray × Value)) (name : ByteArray) (hB : BookAt W w b m nv names l) (hname : nameB name = false) :
    Calls Try.prog 13 #[.pointer (some ⟨b, 0, none⟩), .string name] w fun e w' => e = .returned (.int .i64 2) ∧ Below w.heap.size w w' := by
  have NC := Lib.hid (fun (w : World) => hname ▸ name_calls w name)
  have mk := made_calls w b m (hB.book.cell 1)
  clear hB hname
  go_enter Try.func13, Try.ntmps13
  go_wp2_with (first
    | (go_at_call 42; refine mk.mono ?_; rintro e w' ⟨rfl, hw⟩; rw [hw]; clear hw)
    | (go_at_call 43; refine (NC.out _).mono ?_; rintro e w1 ⟨rfl, hB1⟩))
  go_ret
  exact ⟨rfl, hB1⟩

set_option maxRecDepth 100000 in
set_option maxHeartbeats 2000000 in
theorem grant_bad (W w : World) (b m : Nat) (nv : Value) (names : List ByteArray) (l : List (ByteArray × Value)) (name who key : ByteArray) (what : Int) (deny : Bool) (hB : BookAt W w b m nv names l) (hmay : mayB ⟨who, what, key, deny⟩ = false) (hsz : key.size ≤ 9223372036854775807) :
    Calls Try.prog 14 #[.pointer (some ⟨b, 0, none⟩), .string name, .agg #[.string who, .int .i64 what, .string key, .bool deny]] w fun e w' => e = .returned (.int .i64 2) ∧ Below w.heap.size w w' := by
  have hBA : Below w.heap.size w (w.alloc (.cells #[.string who, .int .i64 what, .string key, .bool deny] 29)) := (Below.refl _ _).alloc (Nat.le_refl _) _
  have hR := Whole.new w 29 #[.string who, .int .i64 what, .string key, .bool deny]
  have hB0 := hB.on hBA
  have r0 := hR.cell 0
  have r1 := hR.cell 1
  have r2 := hR.cell 2
  have r3 := hR.cell 3
  have c1 := hB0.book.cell 1
  have hz : ∀ w : World, (zeroValue 97).run Try.prog w = .ok (.pointer none) w := fun w => by kernel_rfl
  have hlk := look_S Try.underlying44 Try.underlying9 hB0.all name (hz _)
  generalize (findS l name).getD (.pointer none) = v at hlk
  have mk := made_calls (w.alloc (.cells #[.string who, .int .i64 what, .string key, .bool deny] 29)) b m c1
  have MC := Lib.hid (hmay ▸ may_calls (w.alloc (.cells #[.string who, .int .i64 what, .string key, .bool deny] 29)) who key what deny hsz)
  clear hz hR hB0 hB
  go_enter Try.func14, Try.ntmps14
  go_wp2_with (first
    | (refine wpList_box_cells (by rfl) 29 _ (by rfl) #[.string who, .int .i64 what, .string key, .bool deny] (by rfl) ?_)
    | (go_at_call 42; refine mk.mono ?_; rintro e w' ⟨rfl, hw⟩; rw [hw]; clear hw)
    | (go_at_call 44; refine MC.out.mono ?_; rintro e w1 ⟨rfl, hB1⟩))
  go_ret
  exact ⟨rfl, hBA.trans (hB1.mono hBA.size)⟩

set_option maxRecDepth 100000 in
set_option maxHeartbeats 2000000 in
theorem grant_missing (W w : World) (b m : Nat) (nv : Value) (names : List ByteArray) (l : List (ByteArray × Value)) (name who key : ByteArray) (what : Int) (deny : Bool) (hB : BookAt W w b m nv names l) (hl : findS l name = none) (hmay : mayB ⟨who, what, key, deny⟩ = true) (hsz : key.size ≤ 9223372036854775807) :
    Calls Try.prog 14 #[.pointer (some ⟨b, 0, none⟩), .string name, .agg #[.string who, .int .i64 what, .string key, .bool deny]] w fun e w' => e = .returned (.int .i64 6) ∧ Below w.heap.size w w' := by
  have hBA : Below w.heap.size w (w.alloc (.cells #[.string who, .int .i64 what, .string key, .bool deny] 29)) := (Below.refl _ _).alloc (Nat.le_refl _) _
  have hR := Whole.new w 29 #[.string who, .int .i64 what, .string key, .bool deny]
  have hB0 := hB.on hBA
  have r0 := hR.cell 0
  have r1 := hR.cell 1
  have r2 := hR.cell 2
  have r3 := hR.cell 3
  have c1 := hB0.book.cell 1
  have hz : ∀ w : World, (zeroValue 97).run Try.prog w = .ok (.pointer none) w := fun w => by kernel_rfl
  have hlk := look_S Try.underlying44 Try.underlying9 hB0.all name (hz _)
  rw [hl] at hlk
  have mk := made_calls (w.alloc (.cells #[.string who, .int .i64 what, .string key, .bool deny] 29)) b m c1
  have MC := Lib.hid (hmay ▸ may_calls (w.alloc (.cells #[.string who, .int .i64 what, .string key, .bool deny] 29)) who key what deny hsz)
  clear hz hR hB0 hB hl
  go_enter Try.func14, Try.ntmps14
  go_wp2_with (first
    | (refine wpList_box_cells (by rfl) 29 _ (by rfl) #[.string who, .int .i64 what, .string key, .bool deny] (by rfl) ?_)
    | (go_at_call 42; refine mk.mono ?_; rintro e w' ⟨rfl, hw⟩; rw [hw]; clear hw)
    | (go_at_call 44; refine MC.out.mono ?_; rintro e w1 ⟨rfl, hB1⟩))
  go_ret
  exact ⟨rfl, hBA.trans (hB1.mono hBA.size)⟩

set_option maxRecDepth 100000 in
set_option maxHeartbeats 2000000 in
theorem join_bad (W w : World) (b m : Nat) (nv : Value) (names : List ByteArray) (l : List (ByteArray × Value)) (name role who : ByteArray) (hB : BookAt W w b m nv names l) (hbad : (nameB role && nameB who) = false) :
    Calls Try.prog 16 #[.pointer (some ⟨b, 0, none⟩), .string name, .string role, .string who] w fun e w' => e = .returned (.int .i64 2) ∧ Below w.heap.size w w' := by
  have mk := made_calls w b m (hB.book.cell 1)
  obtain ⟨x, hx⟩ : ∃ x, nameB role = x := ⟨_, rfl⟩
  obtain ⟨y, hy⟩ : ∃ y, nameB who = y := ⟨_, rfl⟩
  rw [hx, hy] at hbad
  have NR := Lib.hid (fun (w : World) => hx ▸ name_calls w role)
  have NW := Lib.hid (fun (w : World) => hy ▸ name_calls w who)
  clear hB hx hy
  cases x
  · go_enter Try.func16, Try.ntmps16
    go_wp2_with (first
      | (go_at_call 42; refine mk.mono ?_; rintro e w' ⟨rfl, hw⟩; rw [hw]; clear hw)
      | (go_at_call 43; refine (NR.out _).mono ?_; rintro e w1 ⟨rfl, hB1⟩))
    go_ret
    exact ⟨rfl, hB1⟩
  · obtain rfl : y = false := by simpa using hbad
    go_enter Try.func16, Try.ntmps16
    go_wp2_with (first
      | (go_at_call 42; refine mk.mono ?_; rintro e w' ⟨rfl, hw⟩; rw [hw]; clear hw)
      | (go_at_call 43; refine (NW.out w1).mono ?_; rintro e w2 ⟨rfl, hB2⟩)
      | (go_at_call 43; refine (NR.out _).mono ?_; rintro e w1 ⟨rfl, hB1⟩))
    go_ret
    exact ⟨rfl, hB1.trans (hB2.mono hB1.size)⟩

set_option maxRecDepth 100000 in
set_option maxHeartbeats 2000000 in
theorem join_missing (W w : World) (b m : Nat) (nv : Value) (names : List ByteArray) (l : List (ByteArray × Value)) (name role who : ByteArray) (hB : BookAt W w b m nv names l) (hl : findS l name = none) (hr : nameB role = true) (hw : nameB who = true) :
    Calls Try.prog 16 #[.pointer (some ⟨b, 0, none⟩), .string name, .string role, .string who] w fun e w' => e = .returned (.int .i64 6) ∧ Below w.heap.size w w' := by
  have hz : ∀ w : World, (zeroValue 97).run Try.prog w = .ok (.pointer none) w := fun w => by kernel_rfl
  have mk := made_calls w b m (hB.book.cell 1)
  have NR := Lib.hid (fun (w : World) => hr ▸ name_calls w role)
  have NW := Lib.hid (fun (w : World) => hw ▸ name_calls w who)
  have HB := Lib.hid hB
  have HL := Lib.hid hl
  clear hB hl hr hw
  go_enter Try.func16, Try.ntmps16
  go_wp2_with (first
    | (go_at_call 42; refine mk.mono ?_; rintro e w' ⟨rfl, hw⟩; rw [hw]; clear hw)
    | (go_at_call 43; refine (NW.out w1).mono ?_; rintro e w2 ⟨rfl, hB2⟩; have hBk := HB.out.on (hB1.trans (hB2.mono hB1.size)); have hlk := look_S Try.underlying44 Try.underlying9 hBk.all name (hz w2); rw [HL.out] at hlk; have d1 := hBk.book.cell 1)
    | (go_at_call 43; refine (NR.out _).mono ?_; rintro e w1 ⟨rfl, hB1⟩))
  go_ret
  exact ⟨rfl, (hB1.trans (hB2.mono hB1.size)).alloc (Nat.le_trans hB1.size hB2.size) _⟩

set_option maxRecDepth 100000 in
set_option maxHeartbeats 2000000 in
theorem allowed_missing (W w : World) (b m : Nat) (nv : Value) (names : List ByteArray) (l : List (ByteArray × Value)) (name who key : ByteArray) (what : Int) (hB : BookAt W w b m nv names l) (hl : findS l name = none) :
    Calls Try.prog 15 #[.pointer (some ⟨b, 0, none⟩), .string name, .string who, .int .i64 what, .string key] w fun e w' => e = .returned (.bool false) ∧ Below w.heap.size w w' := by
  have hz : ∀ w : World, (zeroValue 97).run Try.prog w = .ok (.pointer none) w := fun w => by kernel_rfl
  have mk := made_calls w b m (hB.book.cell 1)
  have hlk := look_S Try.underlying44 Try.underlying9 hB.all name (hz w)
  rw [hl] at hlk
  have c1 := hB.book.cell 1
  clear hB hl hz
  go_enter Try.func15, Try.ntmps15
  go_wp2
  apply wp_scope_straight
  go_wp2_with (go_at_call 42; refine mk.mono ?_; rintro e w' ⟨rfl, hw⟩; rw [hw]; clear hw)
  rw [Exit.noGoto_ret]
  go_ret
  exact ⟨rfl, Below.refl _ _⟩

end Go.Proofs.Ytglcingpolpkdaa
