/- JournalNil: the methods of a log that is none answer nothing. -/
import Derived.Test.YtglcingpolpkdaaFrameP
import Derived.WalkKit
import Derived.WalkSpells
import Derived.WalkLawsBesides
import Derived.Deep.QuietTactic
import Derived.BigQuiet
import Derived.Deep.DeepCutAuto
import Derived.Deep.CutBlock
import Derived.OwnWalk
import Derived.Test.YtglcingpolpkdaaMem
namespace Go.Proofs.Ytglcingpolpkdaa
open Go.RowKit

/-- A pointer that is no log: nil, or one on no disk. -/
def NoJ (w : World) (p : Value) : Prop := p = .pointer none ∨ ∃ a, p = .pointer (some ⟨a, 0, none⟩) ∧ w.cell? ⟨a, 0, none⟩ = some (.pointer none)
/-- A pointer that is no disk: nil, or one that no call made. -/
def NoD (w : World) (p : Value) : Prop := p = .pointer none ∨ ∃ a, p = .pointer (some ⟨a, 0, none⟩) ∧ w.cell? ⟨a, 0, none⟩ = some (.map none)

set_option maxRecDepth 100000 in
theorem jnone_no (w : World) (p : Value) (h : NoJ w p) : Calls Try.prog 70 #[p] w fun e w' => e = .returned (.bool true) ∧ w = w' := by
  rcases h with rfl | ⟨a, rfl, hc⟩
  · go_enter Try.func70, Try.ntmps70
    go_wp2
    go_ret
    exact ⟨rfl, rfl⟩
  · go_enter Try.func70, Try.ntmps70
    go_wp2
    go_ret
    exact ⟨rfl, rfl⟩

set_option maxRecDepth 100000 in
theorem dnone_no (w : World) (p : Value) (h : NoD w p) : Calls Try.prog 81 #[p] w fun e w' => e = .returned (.bool true) ∧ w = w' := by
  rcases h with rfl | ⟨a, rfl, hc⟩
  · go_enter Try.func81, Try.ntmps81
    go_wp2
    go_ret
    exact ⟨rfl, rfl⟩
  · have q : (binOp .eql 72 (.map none) (.map none)).run Try.prog w = .ok (.bool true) w := run_eql_map_nil w _ _ _ _ Try.underlying72
    go_enter Try.func81, Try.ntmps81
    go_wp2
    go_ret
    exact ⟨rfl, rfl⟩

theorem jappend_no (w : World) (p b : Value) (h : NoJ w p) : Calls Try.prog 27 #[p, b] w fun e w' => e = .returned (.int .i64 1) ∧ w = w' := by
  go_enter Try.func27, Try.ntmps27
  go_wp2_with (go_at_call 70; refine (jnone_no _ _ h).mono ?_; rintro e w' ⟨rfl, rfl⟩)
  go_ret
  exact ⟨rfl, rfl⟩

theorem jsync_no (w : World) (p : Value) (h : NoJ w p) : Calls Try.prog 28 #[p] w fun e w' => e = .returned (.int .i64 1) ∧ w = w' := by
  go_enter Try.func28, Try.ntmps28
  go_wp2_with (go_at_call 70; refine (jnone_no _ _ h).mono ?_; rintro e w' ⟨rfl, rfl⟩)
  go_ret
  exact ⟨rfl, rfl⟩

theorem jlen_no (w : World) (p : Value) (h : NoJ w p) : Calls Try.prog 29 #[p] w fun e w' => e = .returned (.int .i64 0) ∧ w = w' := by
  go_enter Try.func29, Try.ntmps29
  go_wp2_with (go_at_call 70; refine (jnone_no _ _ h).mono ?_; rintro e w' ⟨rfl, rfl⟩)
  go_ret
  exact ⟨rfl, rfl⟩

theorem jsize_no (w : World) (p : Value) (h : NoJ w p) : Calls Try.prog 30 #[p] w fun e w' => e = .returned (.int .i64 0) ∧ w = w' := by
  go_enter Try.func30, Try.ntmps30
  go_wp2_with (go_at_call 70; refine (jnone_no _ _ h).mono ?_; rintro e w' ⟨rfl, rfl⟩)
  go_ret
  exact ⟨rfl, rfl⟩

theorem dread_no (w : World) (p s : Value) (h : NoD w p) : Calls Try.prog 75 #[p, s] w fun e w' => e = .returned (.tuple #[.slice none 0 0, .int .i64 1]) ∧ w = w' := by
  go_enter Try.func75, Try.ntmps75
  go_wp2_with (go_at_call 81; refine (dnone_no _ _ h).mono ?_; rintro e w' ⟨rfl, rfl⟩)
  go_ret2
  exact ⟨rfl, rfl⟩

theorem jopen_no (w : World) (p s : Value) (h : NoD w p) : Calls Try.prog 31 #[p, s] w fun e w' => e = .returned (.tuple #[.pointer none, .slice none 0 0, .int .i64 1]) ∧ w = w' := by
  go_enter Try.func31, Try.ntmps31
  go_wp2_with (go_at_call 75; refine (dread_no _ _ _ h).mono ?_; rintro e w' ⟨rfl, rfl⟩)
  go_ret3
  exact ⟨rfl, rfl⟩


theorem NoJ.below {B : Nat} {w w' : World} {p : Value} (h : NoJ w p) (hb : Below B w w') (hp : ∀ a, p = .pointer (some ⟨a, 0, none⟩) → a < B) : NoJ w' p := by
  rcases h with rfl | ⟨a, rfl, hc⟩
  · exact .inl rfl
  · exact .inr ⟨a, rfl, (hb.cell (p := ⟨a, 0, none⟩) (hp a rfl)).trans hc⟩

theorem zero_j : (Try.zeroCells64.toList)[0]? = some (.pointer none) := by kernel_rfl
theorem zero_j_cell (W : World) : (W.alloc (.cells Try.zeroCells64 64)).cell? ⟨W.heap.size, 0, none⟩ = some (.pointer none) := by
  rw [(Whole.new W 64 Try.zeroCells64).cell 0]
  exact zero_j

set_option maxRecDepth 100000 in
set_option maxHeartbeats 1000000 in
theorem journalNil_walk (W : World) (v0 v1 : Value) : Answers Try.prog 8 #[v0, v1] W := by
  have hno : NoJ (W.alloc (.cells Try.zeroCells64 64)) (.pointer (some ⟨W.heap.size, 0, none⟩)) := .inr ⟨W.heap.size, rfl, zero_j_cell W⟩
  have hS := Whole.new (W.alloc (.cells Try.zeroCells64 64)) 59 #[.pointer none, .pointer (some ⟨W.heap.size, 0, none⟩)]
  rw [World.size_alloc] at hS
  have hno2 := hno.below ((Below.refl (W.heap.size + 1) _).alloc (o := .cells #[.pointer none, .pointer (some ⟨W.heap.size, 0, none⟩)] 59) (by simp)) (fun a ha => by cases ha; omega)
  have hB : Below W.heap.size W ((W.alloc (.cells Try.zeroCells64 64)).alloc (.cells #[.pointer none, .pointer (some ⟨W.heap.size, 0, none⟩)] 59)) := ((Below.refl _ _).alloc (Nat.le_refl _) _).alloc (by simp) _
  unfold Answers
  go_enter Try.func8, Try.ntmps8
  go_wp2
  generalize hw0 : ((W.alloc (.cells Try.zeroCells64 64)).alloc (.cells #[.pointer none, .pointer (some ⟨W.heap.size, 0, none⟩)] 59)) = w0 at hS hno2 hB ⊢
  have hsz : W.heap.size + 2 ≤ w0.heap.size := by rw [← hw0]; simp
  clear hw0 hno
  go_loopw [6] (fun i wr => ∃ k : Nat, k ≤ 2 ∧ i = .int .i64 k ∧ wr = w0) (fun i _ => 2 - (intOf i).toNat)
  case atStart => exact ⟨0, by omega, rfl, rfl⟩
  case round =>
    obtain ⟨k, hk, rfl, rfl⟩ := hrel
    by_cases hlt : k < 2
    · have hc : ∃ p : Value, wr.cell? ⟨W.heap.size + 1, k, none⟩ = some p ∧ (p = .pointer none ∨ p = .pointer (some ⟨W.heap.size, 0, none⟩)) := by
        have h01 : k = 0 ∨ k = 1 := by omega
        rcases h01 with rfl | rfl
        · exact ⟨_, hS.cell 0, .inl rfl⟩
        · exact ⟨_, hS.cell 1, .inr rfl⟩
      obtain ⟨p, hc, hp⟩ := hc
      have hnj : NoJ wr p := by
        rcases hp with rfl | rfl
        · exact .inl rfl
        · exact hno2
      have H := Lib.hid hp
      clear hp
      go_wp2_with (first
        | (go_at_call 27; refine (jappend_no _ _ _ hnj).mono ?_; rintro e w' ⟨rfl, rfl⟩)
        | (go_at_call 28; refine (jsync_no _ _ hnj).mono ?_; rintro e w' ⟨rfl, rfl⟩)
        | (go_at_call 29; refine (jlen_no _ _ hnj).mono ?_; rintro e w' ⟨rfl, rfl⟩)
        | (go_at_call 30; refine (jsize_no _ _ hnj).mono ?_; rintro e w' ⟨rfl, rfl⟩))
      go_roundw
      case rel => exact ⟨k + 1, by omega, by go_num, trivial⟩
      case measure => simp [intOf]; omega
    · obtain rfl : k = 2 := by omega
      have hd : NoD (wr.alloc (.cells #[.map none, .map none, .int .i64 0] 75)) (.pointer (some ⟨wr.heap.size, 0, none⟩)) := .inr ⟨wr.heap.size, rfl, (Whole.new wr 75 #[.map none, .map none, .int .i64 0]).cell 0⟩
      go_wp2_with (go_at_call 31; refine (jopen_no _ _ _ (by first | exact .inl rfl | exact hd)).mono ?_; rintro e w' ⟨rfl, rfl⟩)
      go_ret
      exact ⟨rfl, hB.alloc (by omega) _⟩

end Go.Proofs.Ytglcingpolpkdaa
