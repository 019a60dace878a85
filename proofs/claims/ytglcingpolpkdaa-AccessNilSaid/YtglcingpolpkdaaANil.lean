/- AccessNil: the methods of a book that is none answer nothing. -/
import Derived.Test.YtglcingpolpkdaaFrameP
import Derived.WalkKit
import Derived.WalkSpells
import Derived.WalkLawsBesides
import Derived.Deep.QuietTactic
import Derived.BigQuiet
import Derived.Deep.DeepCutAuto
import Derived.Deep.CutBlock
import Derived.OwnWalk
import Derived.WalkMore
import Derived.Test.YtglcingpolpkdaaShape
namespace Go.Proofs.Ytglcingpolpkdaa
open Go.RowKit

/-- A pointer that is no book: nil, or one that no call made. -/
def NoBk (w : World) (p : Value) : Prop := p = .pointer none ∨ ∃ a, p = .pointer (some ⟨a, 0, none⟩) ∧ w.cell? ⟨a, 1, none⟩ = some (.map none)

set_option maxRecDepth 100000 in
theorem bnone_no (w : World) (p : Value) (h : NoBk w p) : Calls Try.prog 42 #[p] w fun e w' => e = .returned (.bool true) ∧ w = w' := by
  rcases h with rfl | ⟨a, rfl, hc⟩
  · go_enter Try.func42, Try.ntmps42
    go_wp2
    go_ret
    exact ⟨rfl, rfl⟩
  · have q : (binOp .eql 44 (.map none) (.map none)).run Try.prog w = .ok (.bool true) w := run_eql_map_nil w _ _ _ _ Try.underlying44
    go_enter Try.func42, Try.ntmps42
    go_wp2
    go_ret
    exact ⟨rfl, rfl⟩

theorem bopen_no (w : World) (p x : Value) (h : NoBk w p) : Calls Try.prog 13 #[p, x] w fun e w' => e = .returned (.int .i64 1) ∧ w = w' := by
  go_enter Try.func13, Try.ntmps13
  go_wp2_with (go_at_call 42; refine (bnone_no _ _ h).mono ?_; rintro e w' ⟨rfl, rfl⟩)
  go_ret
  exact ⟨rfl, rfl⟩

theorem bjoin_no (w : World) (p x y z : Value) (h : NoBk w p) : Calls Try.prog 16 #[p, x, y, z] w fun e w' => e = .returned (.int .i64 1) ∧ w = w' := by
  go_enter Try.func16, Try.ntmps16
  go_wp2_with (go_at_call 42; refine (bnone_no _ _ h).mono ?_; rintro e w' ⟨rfl, rfl⟩)
  go_ret
  exact ⟨rfl, rfl⟩

theorem bleave_no (w : World) (p x y z : Value) (h : NoBk w p) : Calls Try.prog 22 #[p, x, y, z] w fun e w' => e = .returned (.int .i64 1) ∧ w = w' := by
  go_enter Try.func22, Try.ntmps22
  go_wp2_with (go_at_call 42; refine (bnone_no _ _ h).mono ?_; rintro e w' ⟨rfl, rfl⟩)
  go_ret
  exact ⟨rfl, rfl⟩

theorem NoBk.below {B : Nat} {w w' : World} {p : Value} (h : NoBk w p) (hb : Below B w w') (hp : ∀ a, p = .pointer (some ⟨a, 0, none⟩) → a < B) : NoBk w' p := by
  rcases h with rfl | ⟨a, rfl, hc⟩
  · exact .inl rfl
  · exact .inr ⟨a, rfl, (hb.cell (p := ⟨a, 1, none⟩) (hp a rfl)).trans hc⟩

theorem bgrant_no (w : World) (p x : Value) (cs : Array Value) (h : NoBk w p) (hp : ∀ a, p = .pointer (some ⟨a, 0, none⟩) → a < w.heap.size) : Calls Try.prog 14 #[p, x, .agg cs] w fun e w' => e = .returned (.int .i64 1) ∧ Below w.heap.size w w' := by
  have hB : Below w.heap.size w (w.alloc (.cells cs 29)) := (Below.refl _ _).alloc (Nat.le_refl _) _
  have h2 := h.below hB hp
  go_enter Try.func14, Try.ntmps14
  go_wp2_with (first
    | (refine wpList_box_cells (by rfl) 29 _ (by rfl) cs (by rfl) ?_)
    | (go_at_call 42; refine (bnone_no _ _ h2).mono ?_; rintro e w' ⟨rfl, rfl⟩))
  go_ret
  exact ⟨rfl, hB⟩

theorem brevoke_no (w : World) (p x : Value) (cs : Array Value) (h : NoBk w p) (hp : ∀ a, p = .pointer (some ⟨a, 0, none⟩) → a < w.heap.size) : Calls Try.prog 21 #[p, x, .agg cs] w fun e w' => e = .returned (.int .i64 1) ∧ Below w.heap.size w w' := by
  have hB : Below w.heap.size w (w.alloc (.cells cs 29)) := (Below.refl _ _).alloc (Nat.le_refl _) _
  have h2 := h.below hB hp
  go_enter Try.func21, Try.ntmps21
  go_wp2_with (first
    | (refine wpList_box_cells (by rfl) 29 _ (by rfl) cs (by rfl) ?_)
    | (go_at_call 42; refine (bnone_no _ _ h2).mono ?_; rintro e w' ⟨rfl, rfl⟩))
  go_ret
  exact ⟨rfl, hB⟩

theorem ballowed_no (w : World) (p x y z u : Value) (h : NoBk w p) : Calls Try.prog 15 #[p, x, y, z, u] w fun e w' => e = .returned (.bool false) ∧ w = w' := by
  go_enter Try.func15, Try.ntmps15
  go_wp2
  apply wp_scope_straight
  go_wp2_with (go_at_call 42; refine (bnone_no _ _ h).mono ?_; rintro e w' ⟨rfl, rfl⟩)
  rw [Exit.noGoto_ret]
  go_ret
  exact ⟨rfl, rfl⟩

theorem btenants_no (w : World) (p : Value) (h : NoBk w p) : Calls Try.prog 23 #[p] w fun e w' => e = .returned (.slice none 0 0) ∧ w = w' := by
  go_enter Try.func23, Try.ntmps23
  go_wp2_with (go_at_call 42; refine (bnone_no _ _ h).mono ?_; rintro e w' ⟨rfl, rfl⟩)
  go_ret
  exact ⟨rfl, rfl⟩

theorem brules_no (w : World) (p x : Value) (h : NoBk w p) : Calls Try.prog 24 #[p, x] w fun e w' => e = .returned (.slice none 0 0) ∧ w = w' := by
  go_enter Try.func24, Try.ntmps24
  go_wp2_with (go_at_call 42; refine (bnone_no _ _ h).mono ?_; rintro e w' ⟨rfl, rfl⟩)
  go_ret
  exact ⟨rfl, rfl⟩

theorem bmembers_no (w : World) (p x y : Value) (h : NoBk w p) : Calls Try.prog 25 #[p, x, y] w fun e w' => e = .returned (.slice none 0 0) ∧ w = w' := by
  go_enter Try.func25, Try.ntmps25
  go_wp2_with (go_at_call 42; refine (bnone_no _ _ h).mono ?_; rintro e w' ⟨rfl, rfl⟩)
  go_ret
  exact ⟨rfl, rfl⟩

theorem ten_cells {w : World} {b : Nat} {t : TypeId} {c0 c1 c2 c3 c4 c5 c6 c7 c8 c9 : Value} (h : Whole w b t [c0, c1, c2, c3, c4, c5, c6, c7, c8, c9]) :
    w.cell? ⟨b, 1, none⟩ = some c1 ∧ w.cell? ⟨b, 2, none⟩ = some c2 ∧ w.cell? ⟨b, 3, none⟩ = some c3 ∧ w.cell? ⟨b, 4, none⟩ = some c4 ∧ w.cell? ⟨b, 5, none⟩ = some c5 ∧ w.cell? ⟨b, 6, none⟩ = some c6 ∧ w.cell? ⟨b, 7, none⟩ = some c7 ∧ w.cell? ⟨b, 8, none⟩ = some c8 ∧ w.cell? ⟨b, 9, none⟩ = some c9 :=
  ⟨h.cell 1, h.cell 2, h.cell 3, h.cell 4, h.cell 5, h.cell 6, h.cell 7, h.cell 8, h.cell 9⟩

/-- What stays through the rounds. -/
structure AKeeps (W w : World) (c0 c1 c2 c3 c4 c5 c6 c7 c8 c9 : Value) : Prop where
  cells : Whole w W.heap.size 38 [c0, c1, c2, c3, c4, c5, c6, c7, c8, c9]
  list : Whole w (W.heap.size + 2) 22 [.pointer none, .pointer (some ⟨W.heap.size + 1, 0, none⟩)]
  no : NoBk w (.pointer (some ⟨W.heap.size + 1, 0, none⟩))
  size : W.heap.size + 3 ≤ w.heap.size
  below : Below W.heap.size W w
theorem AKeeps.on {W w w' : World} {c0 c1 c2 c3 c4 c5 c6 c7 c8 c9 : Value} (h : AKeeps W w c0 c1 c2 c3 c4 c5 c6 c7 c8 c9) (hb : Below w.heap.size w w') : AKeeps W w' c0 c1 c2 c3 c4 c5 c6 c7 c8 c9 :=
  ⟨h.cells.below hb h.cells.lt, h.list.below hb h.list.lt, h.no.below hb (fun a ha => by cases ha; have := h.size; omega), Nat.le_trans h.size hb.size, h.below.trans (hb.mono (by have := h.size; omega))⟩

set_option maxRecDepth 100000 in
set_option maxHeartbeats 2000000 in
theorem accessNil_walk (W : World) (c0 c1 c2 c3 c4 c5 c6 c7 c8 c9 : Value) : Answers Try.prog 6 #[.agg #[c0, c1, c2, c3, c4, c5, c6, c7, c8, c9]] W := by
  have hK : AKeeps W (((W.alloc (.cells #[c0, c1, c2, c3, c4, c5, c6, c7, c8, c9] 38)).alloc (.cells #[.slice none 0 0, .map none] 46)).alloc (.cells #[.pointer none, .pointer (some ⟨W.heap.size + 1, 0, none⟩)] 22)) c0 c1 c2 c3 c4 c5 c6 c7 c8 c9 := by
    have h0 := Whole.new W 38 #[c0, c1, c2, c3, c4, c5, c6, c7, c8, c9]
    have h1 := Whole.new (W.alloc (.cells #[c0, c1, c2, c3, c4, c5, c6, c7, c8, c9] 38)) 46 #[.slice none 0 0, .map none]
    have h2 := Whole.new ((W.alloc (.cells #[c0, c1, c2, c3, c4, c5, c6, c7, c8, c9] 38)).alloc (.cells #[.slice none 0 0, .map none] 46)) 22 #[.pointer none, .pointer (some ⟨W.heap.size + 1, 0, none⟩)]
    simp only [World.size_alloc] at h1 h2
    exact ⟨(h0.alloc _).alloc _, h2, .inr ⟨_, rfl, (h1.alloc _).cell 1⟩, by simp, (((Below.refl _ _).alloc (Nat.le_refl _) _).alloc (by simp) _).alloc (by simp; omega) _⟩
  unfold Answers
  go_enter Try.func6, Try.ntmps6
  go_wp2_with (refine wpList_box_cells (by rfl) 38 _ (by rfl) #[c0, c1, c2, c3, c4, c5, c6, c7, c8, c9] (by rfl) ?_)
  generalize (((W.alloc (.cells #[c0, c1, c2, c3, c4, c5, c6, c7, c8, c9] 38)).alloc (.cells #[.slice none 0 0, .map none] 46)).alloc (.cells #[.pointer none, .pointer (some ⟨W.heap.size + 1, 0, none⟩)] 22)) = w0 at hK ⊢
  go_loopw [4] (fun i wr => ∃ k : Nat, k ≤ 2 ∧ i = .int .i64 k ∧ AKeeps W wr c0 c1 c2 c3 c4 c5 c6 c7 c8 c9) (fun i _ => 2 - (intOf i).toNat)
  case atStart => exact ⟨0, by omega, rfl, hK⟩
  case round =>
    clear hK
    obtain ⟨k, hk, rfl, hK⟩ := hrel
    by_cases hlt : k < 2
    · have hc : ∃ p : Value, wr.cell? ⟨W.heap.size + 2, k, none⟩ = some p ∧ (p = .pointer none ∨ p = .pointer (some ⟨W.heap.size + 1, 0, none⟩)) := by
        have h01 : k = 0 ∨ k = 1 := by omega
        rcases h01 with rfl | rfl
        · exact ⟨_, hK.list.cell 0, .inl rfl⟩
        · exact ⟨_, hK.list.cell 1, .inr rfl⟩
      obtain ⟨p, hc, hp⟩ := hc
      have hno : ∀ w, AKeeps W w c0 c1 c2 c3 c4 c5 c6 c7 c8 c9 → NoBk w p := fun w h => by
        rcases hp with rfl | rfl
        · exact .inl rfl
        · exact h.no
      have hlp : ∀ w, AKeeps W w c0 c1 c2 c3 c4 c5 c6 c7 c8 c9 → ∀ a, p = .pointer (some ⟨a, 0, none⟩) → a < w.heap.size := fun w h a ha => by
        have := h.size
        rcases hp with rfl | rfl
        · cases ha
        · cases ha; omega
      have H1 := Lib.hid hno
      have H2 := Lib.hid hlp
      have H3 := Lib.hid hK
      have h0 := hno _ hK
      have hl0 := Lib.hid (hlp _ hK)
      obtain ⟨e1, e2, e3, e4, e5, e6, e7, e8, e9⟩ := ten_cells hK.cells
      clear hp hno hlp hK
      go_wp2_with (first
        | (go_at_call 13; refine (bopen_no _ _ _ h0).mono ?_; rintro e w' ⟨rfl, rfl⟩)
        | (go_at_call 16; refine (bjoin_no _ _ _ _ _ h0).mono ?_; rintro e w' ⟨rfl, rfl⟩)
        | (go_at_call 22; refine (bleave_no _ _ _ _ _ h0).mono ?_; rintro e w' ⟨rfl, rfl⟩)
        | (go_at_call 14; refine (bgrant_no _ _ _ _ h0 hl0.out).mono ?_; rintro e w1 ⟨rfl, hb1⟩; have K1 := H3.out.on hb1; have h1 := H1.out _ K1; have hl1 := Lib.hid (H2.out _ K1); obtain ⟨a1, a2, a3, a4, a5, a6, a7, a8, a9⟩ := ten_cells K1.cells; have K1h := Lib.hid K1; clear K1 hb1)
        | (go_at_call 21; refine (brevoke_no _ _ _ _ h1 hl1.out).mono ?_; rintro e w2 ⟨rfl, hb2⟩; have K2 := K1h.out.on hb2; have h2 := H1.out _ K2; obtain ⟨b1, b2, b3, b4, b5, b6, b7, b8, b9⟩ := ten_cells K2.cells; have K2h := Lib.hid K2; clear K2 hb2)
        | (go_at_call 15; refine (ballowed_no _ _ _ _ _ _ h2).mono ?_; rintro e w' ⟨rfl, rfl⟩)
        | (go_at_call 23; refine (btenants_no _ _ h2).mono ?_; rintro e w' ⟨rfl, rfl⟩)
        | (go_at_call 24; refine (brules_no _ _ _ h2).mono ?_; rintro e w' ⟨rfl, rfl⟩)
        | (go_at_call 25; refine (bmembers_no _ _ _ _ h2).mono ?_; rintro e w' ⟨rfl, rfl⟩))
      go_roundw
      case rel => exact ⟨k + 1, by omega, by go_num, K2h.out⟩
      case measure => simp [intOf]; omega
    · obtain rfl : k = 2 := by omega
      have hsz := hK.size
      go_wp2
      go_ret
      exact ⟨rfl, hK.below⟩

end Go.Proofs.Ytglcingpolpkdaa
