/- DiskNil: the methods of a disk that is none answer nothing. -/
import Derived.Test.YtebaikipppflhaaFrameP
import Derived.WalkKit
import Derived.WalkSpells
import Derived.WalkLawsBesides
import Derived.Deep.QuietTactic
import Derived.BigQuiet
import Derived.Deep.DeepCutAuto
import Derived.Deep.CutBlock
import Derived.OwnWalk
import Derived.WalkMore
import Derived.Test.YtebaikipppflhaaShape
namespace Go.Proofs.Ytebaikipppflhaa
open Go.RowKit

/-- A pointer that is no disk: nil, or one that no call made. -/
def NoD (w : World) (p : Value) : Prop := p = .pointer none ∨ ∃ a, p = .pointer (some ⟨a, 0, none⟩) ∧ w.cell? ⟨a, 0, none⟩ = some (.map none)

set_option maxRecDepth 100000 in
theorem dnone_no (w : World) (p : Value) (h : NoD w p) : Calls Try.prog 15 #[p] w fun e w' => e = .returned (.bool true) ∧ w = w' := by
  rcases h with rfl | ⟨a, rfl, hc⟩
  · go_enter Try.func15, Try.ntmps15
    go_wp2
    go_ret
    exact ⟨rfl, rfl⟩
  · have q : (binOp .eql 27 (.map none) (.map none)).run Try.prog w = .ok (.bool true) w := run_eql_map_nil w _ _ _ _ Try.underlying27
    go_enter Try.func15, Try.ntmps15
    go_wp2
    go_ret
    exact ⟨rfl, rfl⟩

theorem dcount_no (w : World) (p : Value) (h : NoD w p) : Calls Try.prog 17 #[p] w fun e w' => e = .returned (.int .i64 1) ∧ w = w' := by
  go_enter Try.func17, Try.ntmps17
  go_wp2_with (go_at_call 15; refine (dnone_no _ _ h).mono ?_; rintro e w' ⟨rfl, rfl⟩)
  go_ret
  exact ⟨rfl, rfl⟩

theorem dread_no (w : World) (p x : Value) (h : NoD w p) : Calls Try.prog 4 #[p, x] w fun e w' => e = .returned (.tuple #[.slice none 0 0, .int .i64 1]) ∧ w = w' := by
  go_enter Try.func4, Try.ntmps4
  go_wp2_with (go_at_call 15; refine (dnone_no _ _ h).mono ?_; rintro e w' ⟨rfl, rfl⟩)
  go_ret2
  exact ⟨rfl, rfl⟩

theorem dappend_no (w : World) (p x y : Value) (h : NoD w p) : Calls Try.prog 5 #[p, x, y] w fun e w' => e = .returned (.int .i64 1) ∧ w = w' := by
  go_enter Try.func5, Try.ntmps5
  go_wp2_with (go_at_call 17; refine (dcount_no _ _ h).mono ?_; rintro e w' ⟨rfl, rfl⟩)
  go_ret
  exact ⟨rfl, rfl⟩

theorem dcut_no (w : World) (p x y : Value) (h : NoD w p) : Calls Try.prog 6 #[p, x, y] w fun e w' => e = .returned (.int .i64 1) ∧ w = w' := by
  go_enter Try.func6, Try.ntmps6
  go_wp2_with (go_at_call 17; refine (dcount_no _ _ h).mono ?_; rintro e w' ⟨rfl, rfl⟩)
  go_ret
  exact ⟨rfl, rfl⟩

theorem dsync_no (w : World) (p x : Value) (h : NoD w p) : Calls Try.prog 7 #[p, x] w fun e w' => e = .returned (.int .i64 1) ∧ w = w' := by
  go_enter Try.func7, Try.ntmps7
  go_wp2_with (go_at_call 17; refine (dcount_no _ _ h).mono ?_; rintro e w' ⟨rfl, rfl⟩)
  go_ret
  exact ⟨rfl, rfl⟩

theorem drename_no (w : World) (p x y : Value) (h : NoD w p) : Calls Try.prog 8 #[p, x, y] w fun e w' => e = .returned (.int .i64 1) ∧ w = w' := by
  go_enter Try.func8, Try.ntmps8
  go_wp2_with (go_at_call 17; refine (dcount_no _ _ h).mono ?_; rintro e w' ⟨rfl, rfl⟩)
  go_ret
  exact ⟨rfl, rfl⟩

theorem dremove_no (w : World) (p x : Value) (h : NoD w p) : Calls Try.prog 9 #[p, x] w fun e w' => e = .returned (.int .i64 1) ∧ w = w' := by
  go_enter Try.func9, Try.ntmps9
  go_wp2_with (go_at_call 17; refine (dcount_no _ _ h).mono ?_; rintro e w' ⟨rfl, rfl⟩)
  go_ret
  exact ⟨rfl, rfl⟩

theorem dcrash_no (w : World) (p x : Value) (h : NoD w p) : Calls Try.prog 10 #[p, x] w fun e w' => e = .returned (.int .i64 1) ∧ w = w' := by
  go_enter Try.func10, Try.ntmps10
  go_wp2_with (go_at_call 15; refine (dnone_no _ _ h).mono ?_; rintro e w' ⟨rfl, rfl⟩)
  go_ret
  exact ⟨rfl, rfl⟩

theorem dspoil_no (w : World) (p x y : Value) (h : NoD w p) : Calls Try.prog 11 #[p, x, y] w fun e w' => e = .returned (.int .i64 1) ∧ w = w' := by
  go_enter Try.func11, Try.ntmps11
  go_wp2_with (go_at_call 15; refine (dnone_no _ _ h).mono ?_; rintro e w' ⟨rfl, rfl⟩)
  go_ret
  exact ⟨rfl, rfl⟩

theorem dnames_no (w : World) (p : Value) (h : NoD w p) : Calls Try.prog 12 #[p] w fun e w' => e = .returned (.slice none 0 0) ∧ w = w' := by
  go_enter Try.func12, Try.ntmps12
  go_wp2_with (go_at_call 15; refine (dnone_no _ _ h).mono ?_; rintro e w' ⟨rfl, rfl⟩)
  go_ret
  exact ⟨rfl, rfl⟩

theorem dpending_no (w : World) (p x : Value) (h : NoD w p) : Calls Try.prog 13 #[p, x] w fun e w' => e = .returned (.int .i64 0) ∧ w = w' := by
  go_enter Try.func13, Try.ntmps13
  go_wp2_with (go_at_call 15; refine (dnone_no _ _ h).mono ?_; rintro e w' ⟨rfl, rfl⟩)
  go_ret
  exact ⟨rfl, rfl⟩

theorem dops_no (w : World) (p : Value) (h : NoD w p) : Calls Try.prog 14 #[p] w fun e w' => e = .returned (.int .i64 0) ∧ w = w' := by
  go_enter Try.func14, Try.ntmps14
  go_wp2_with (go_at_call 15; refine (dnone_no _ _ h).mono ?_; rintro e w' ⟨rfl, rfl⟩)
  go_ret
  exact ⟨rfl, rfl⟩

set_option maxRecDepth 100000 in
set_option maxHeartbeats 2000000 in
theorem diskNil_walk (W : World) (c0 c1 c2 c3 c4 c5 : Value) : Answers Try.prog 3 #[.agg #[c0, c1, c2, c3, c4, c5]] W := by
  have h0 := Whole.new W 25 #[c0, c1, c2, c3, c4, c5]
  have h1 := Whole.new (W.alloc (.cells #[c0, c1, c2, c3, c4, c5] 25)) 30 #[.map none, .map none, .int .i64 0]
  have h2 := Whole.new ((W.alloc (.cells #[c0, c1, c2, c3, c4, c5] 25)).alloc (.cells #[.map none, .map none, .int .i64 0] 30)) 26 #[.pointer none, .pointer (some ⟨W.heap.size + 1, 0, none⟩)]
  simp only [World.size_alloc] at h1 h2
  have hA := (h0.alloc (.cells #[.map none, .map none, .int .i64 0] 30)).alloc (.cells #[.pointer none, .pointer (some ⟨W.heap.size + 1, 0, none⟩)] 26)
  have hno : NoD (((W.alloc (.cells #[c0, c1, c2, c3, c4, c5] 25)).alloc (.cells #[.map none, .map none, .int .i64 0] 30)).alloc (.cells #[.pointer none, .pointer (some ⟨W.heap.size + 1, 0, none⟩)] 26)) (.pointer (some ⟨W.heap.size + 1, 0, none⟩)) := .inr ⟨_, rfl, (h1.alloc (.cells #[.pointer none, .pointer (some ⟨W.heap.size + 1, 0, none⟩)] 26)).cell 0⟩
  have hB : Below W.heap.size W (((W.alloc (.cells #[c0, c1, c2, c3, c4, c5] 25)).alloc (.cells #[.map none, .map none, .int .i64 0] 30)).alloc (.cells #[.pointer none, .pointer (some ⟨W.heap.size + 1, 0, none⟩)] 26)) := (((Below.refl _ _).alloc (Nat.le_refl _) _).alloc (by simp) _).alloc (by simp; omega) _
  unfold Answers
  go_enter Try.func3, Try.ntmps3
  go_wp2_with (refine wpList_box_cells (by rfl) 25 _ (by rfl) #[c0, c1, c2, c3, c4, c5] (by rfl) ?_)
  generalize (((W.alloc (.cells #[c0, c1, c2, c3, c4, c5] 25)).alloc (.cells #[.map none, .map none, .int .i64 0] 30)).alloc (.cells #[.pointer none, .pointer (some ⟨W.heap.size + 1, 0, none⟩)] 26)) = w0 at hA h2 hno hB ⊢
  have e1 : w0.cell? ⟨W.heap.size, 1, none⟩ = some c1 := hA.cell 1
  have e2 : w0.cell? ⟨W.heap.size, 2, none⟩ = some c2 := hA.cell 2
  have e3 : w0.cell? ⟨W.heap.size, 3, none⟩ = some c3 := hA.cell 3
  have e4 : w0.cell? ⟨W.heap.size, 4, none⟩ = some c4 := hA.cell 4
  have e5 : w0.cell? ⟨W.heap.size, 5, none⟩ = some c5 := hA.cell 5
  clear h0 h1 hA
  go_loopw [4] (fun i wr => ∃ k : Nat, k ≤ 2 ∧ i = .int .i64 k ∧ wr = w0) (fun i _ => 2 - (intOf i).toNat)
  case atStart => exact ⟨0, by omega, rfl, rfl⟩
  case round =>
    obtain ⟨k, hk, rfl, rfl⟩ := hrel
    by_cases hlt : k < 2
    · have hc : ∃ p : Value, wr.cell? ⟨W.heap.size + 2, k, none⟩ = some p ∧ (p = .pointer none ∨ p = .pointer (some ⟨W.heap.size + 1, 0, none⟩)) := by
        have h01 : k = 0 ∨ k = 1 := by omega
        rcases h01 with rfl | rfl
        · exact ⟨_, h2.cell 0, .inl rfl⟩
        · exact ⟨_, h2.cell 1, .inr rfl⟩
      obtain ⟨p, hc, hp⟩ := hc
      have hnj : NoD wr p := by
        rcases hp with rfl | rfl
        · exact .inl rfl
        · exact hno
      clear hp
      go_wp2_with (first
        | (go_at_call 4; refine (dread_no _ _ _ hnj).mono ?_; rintro e w' ⟨rfl, rfl⟩)
        | (go_at_call 5; refine (dappend_no _ _ _ _ hnj).mono ?_; rintro e w' ⟨rfl, rfl⟩)
        | (go_at_call 6; refine (dcut_no _ _ _ _ hnj).mono ?_; rintro e w' ⟨rfl, rfl⟩)
        | (go_at_call 7; refine (dsync_no _ _ _ hnj).mono ?_; rintro e w' ⟨rfl, rfl⟩)
        | (go_at_call 8; refine (drename_no _ _ _ _ hnj).mono ?_; rintro e w' ⟨rfl, rfl⟩)
        | (go_at_call 9; refine (dremove_no _ _ _ hnj).mono ?_; rintro e w' ⟨rfl, rfl⟩)
        | (go_at_call 10; refine (dcrash_no _ _ _ hnj).mono ?_; rintro e w' ⟨rfl, rfl⟩)
        | (go_at_call 11; refine (dspoil_no _ _ _ _ hnj).mono ?_; rintro e w' ⟨rfl, rfl⟩)
        | (go_at_call 12; refine (dnames_no _ _  hnj).mono ?_; rintro e w' ⟨rfl, rfl⟩)
        | (go_at_call 13; refine (dpending_no _ _ _ hnj).mono ?_; rintro e w' ⟨rfl, rfl⟩)
        | (go_at_call 14; refine (dops_no _ _  hnj).mono ?_; rintro e w' ⟨rfl, rfl⟩))
      go_roundw
      case rel => exact ⟨k + 1, by omega, by go_num, trivial⟩
      case measure => simp [intOf]; omega
    · obtain rfl : k = 2 := by omega
      go_wp2
      go_ret
      exact ⟨rfl, hB⟩

end Go.Proofs.Ytebaikipppflhaa
