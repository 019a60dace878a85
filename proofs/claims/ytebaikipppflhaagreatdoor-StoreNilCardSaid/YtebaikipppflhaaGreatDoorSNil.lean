/- StoreNil: the methods of a store that is none answer nothing. -/
import Derived.Test.YtebaikipppflhaaGreatDoorFrame
import Derived.WalkKit
import Derived.WalkSpells
import Derived.WalkLawsBesides
import Derived.Deep.QuietTactic
import Derived.BigQuiet
import Derived.Deep.DeepCutAuto
import Derived.Deep.CutBlock
import Derived.OwnWalk
import Derived.WalkMore
import Derived.Test.YtebaikipppflhaaGreatDoorShape
namespace Go.Proofs.YtebaikipppflhaaGreatDoor
open Go.RowKit

/-- A pointer that is no disk, and one that is no store: nil, or one that no call made. -/
def NoD (w : World) (p : Value) : Prop := p = .pointer none ∨ ∃ a, p = .pointer (some ⟨a, 0, none⟩) ∧ w.cell? ⟨a, 0, none⟩ = some (.map none)
def NoS (w : World) (p : Value) : Prop := p = .pointer none ∨ ∃ a, p = .pointer (some ⟨a, 0, none⟩) ∧ w.cell? ⟨a, 3, none⟩ = some (.pointer none)

set_option maxRecDepth 100000 in
theorem dnone_no (w : World) (p : Value) (h : NoD w p) : Calls Tryz.prog 58 #[p] w fun e w' => e = .returned (.bool true) ∧ w = w' := by
  rcases h with rfl | ⟨a, rfl, hc⟩
  · go_enter Tryz.func58, Tryz.ntmps58
    go_wp2
    go_ret
    exact ⟨rfl, rfl⟩
  · have q : (binOp .eql 41 (.map none) (.map none)).run Tryz.prog w = .ok (.bool true) w := run_eql_map_nil w _ _ _ _ Tryz.underlying41
    go_enter Tryz.func58, Tryz.ntmps58
    go_wp2
    go_ret
    exact ⟨rfl, rfl⟩

set_option maxRecDepth 100000 in
theorem snone_no (w : World) (p : Value) (h : NoS w p) : Calls Tryz.prog 12 #[p] w fun e w' => e = .returned (.bool true) ∧ w = w' := by
  rcases h with rfl | ⟨a, rfl, hc⟩
  · go_enter Tryz.func12, Tryz.ntmps12
    go_wp2
    go_ret
    exact ⟨rfl, rfl⟩
  · go_enter Tryz.func12, Tryz.ntmps12
    go_wp2
    go_ret
    exact ⟨rfl, rfl⟩

set_option maxRecDepth 100000 in
theorem dread_no (w : World) (p x : Value) (h : NoD w p) : Calls Tryz.prog 33 #[p, x] w fun e w' => e = .returned (.tuple #[.slice none 0 0, .int .i64 1]) ∧ w = w' := by
  go_enter Tryz.func33, Tryz.ntmps33
  go_wp2_with (go_at_call 58; refine (dnone_no _ _ h).mono ?_; rintro e w' ⟨rfl, rfl⟩)
  go_ret2
  exact ⟨rfl, rfl⟩

set_option maxRecDepth 100000 in
theorem sget_no (w : World) (p x : Value) (h : NoS w p) : Calls Tryz.prog 4 #[p, x] w fun e w' => e = .returned (.tuple #[.slice none 0 0, .bool false]) ∧ w = w' := by
  go_enter Tryz.func4, Tryz.ntmps4
  go_wp2_with (go_at_call 12; refine (snone_no _ _ h).mono ?_; rintro e w' ⟨rfl, rfl⟩)
  go_ret2
  exact ⟨rfl, rfl⟩

set_option maxRecDepth 100000 in
theorem scommit_no (w : World) (p x : Value) (h : NoS w p) : Calls Tryz.prog 5 #[p, x] w fun e w' => e = .returned (.int .i64 1) ∧ w = w' := by
  go_enter Tryz.func5, Tryz.ntmps5
  go_wp2_with (go_at_call 12; refine (snone_no _ _ h).mono ?_; rintro e w' ⟨rfl, rfl⟩)
  go_ret
  exact ⟨rfl, rfl⟩

set_option maxRecDepth 100000 in
theorem ssync_no (w : World) (p : Value) (h : NoS w p) : Calls Tryz.prog 6 #[p] w fun e w' => e = .returned (.int .i64 1) ∧ w = w' := by
  go_enter Tryz.func6, Tryz.ntmps6
  go_wp2_with (go_at_call 12; refine (snone_no _ _ h).mono ?_; rintro e w' ⟨rfl, rfl⟩)
  go_ret
  exact ⟨rfl, rfl⟩

set_option maxRecDepth 100000 in
theorem spairs_no (w : World) (p : Value) (h : NoS w p) : Calls Tryz.prog 8 #[p] w fun e w' => e = .returned (.slice none 0 0) ∧ w = w' := by
  go_enter Tryz.func8, Tryz.ntmps8
  go_wp2_with (go_at_call 12; refine (snone_no _ _ h).mono ?_; rintro e w' ⟨rfl, rfl⟩)
  go_ret
  exact ⟨rfl, rfl⟩

set_option maxRecDepth 100000 in
theorem slen_no (w : World) (p : Value) (h : NoS w p) : Calls Tryz.prog 9 #[p] w fun e w' => e = .returned (.int .i64 0) ∧ w = w' := by
  go_enter Tryz.func9, Tryz.ntmps9
  go_wp2_with (go_at_call 12; refine (snone_no _ _ h).mono ?_; rintro e w' ⟨rfl, rfl⟩)
  go_ret
  exact ⟨rfl, rfl⟩

set_option maxRecDepth 100000 in
theorem sgen_no (w : World) (p : Value) (h : NoS w p) : Calls Tryz.prog 10 #[p] w fun e w' => e = .returned (.int .i64 0) ∧ w = w' := by
  go_enter Tryz.func10, Tryz.ntmps10
  go_wp2_with (go_at_call 12; refine (snone_no _ _ h).mono ?_; rintro e w' ⟨rfl, rfl⟩)
  go_ret
  exact ⟨rfl, rfl⟩

theorem NoS.below {B : Nat} {w w' : World} {p : Value} (h : NoS w p) (hb : Below B w w') (hp : ∀ a, p = .pointer (some ⟨a, 0, none⟩) → a < B) : NoS w' p := by
  rcases h with rfl | ⟨a, rfl, hc⟩
  · exact .inl rfl
  · exact .inr ⟨a, rfl, (hb.cell (p := ⟨a, 3, none⟩) (hp a rfl)).trans hc⟩
theorem NoD.below {B : Nat} {w w' : World} {p : Value} (h : NoD w p) (hb : Below B w w') (hp : ∀ a, p = .pointer (some ⟨a, 0, none⟩) → a < B) : NoD w' p := by
  rcases h with rfl | ⟨a, rfl, hc⟩
  · exact .inl rfl
  · exact .inr ⟨a, rfl, (hb.cell (p := ⟨a, 0, none⟩) (hp a rfl)).trans hc⟩
set_option maxRecDepth 100000 in
set_option maxHeartbeats 1000000 in
theorem scheck_no (w : World) (p : Value) (h : NoS w p) (hp : ∀ a, p = .pointer (some ⟨a, 0, none⟩) → a < w.heap.size) : Calls Tryz.prog 7 #[p] w fun e w' => e = .returned (.int .i64 1) ∧ Below w.heap.size w w' := by
  have hB : Below w.heap.size w (w.alloc (.cells #[p] 23)) := (Below.refl _ _).alloc (Nat.le_refl _) _
  have h2 := h.below hB hp
  have hc := (Whole.new w 23 #[p]).cell 0
  rcases h with rfl | ⟨a, rfl, _⟩
  · go_enter Tryz.func7, Tryz.ntmps7
    go_wp2_with (go_at_call 12; refine (snone_no _ _ h2).mono ?_; rintro e w' ⟨rfl, rfl⟩)
    go_ret
    exact ⟨rfl, hB⟩
  · go_enter Tryz.func7, Tryz.ntmps7
    go_wp2_with (go_at_call 12; refine (snone_no _ _ h2).mono ?_; rintro e w' ⟨rfl, rfl⟩)
    go_ret
    exact ⟨rfl, hB⟩

set_option maxRecDepth 100000 in
set_option maxHeartbeats 1000000 in
theorem sopen_no (w : World) (p : Value) (x : ByteArray) (hx : x.size ≤ 4611686018427387904) (h : NoD w p) (hp : ∀ a, p = .pointer (some ⟨a, 0, none⟩) → a < w.heap.size) :
    Calls Tryz.prog 11 #[p, .string x] w fun e w' => e = .returned (.tuple #[.pointer none, .int .i64 1]) ∧ Below w.heap.size w w' := by
  have hsx : ¬ (9223372036854775807 : Int) < (x.size : Int) + 5 := by omega
  have hmm : ∀ w : World, (Instr.makeMap 26 none).run Tryz.prog w = .ok (.map (some w.heap.size)) (w.alloc (.map #[] 0)) := fun w => run_makeMap _ w
  have h' := h
  rcases h' with rfl | ⟨a, rfl, hc⟩
  · have hB : Below w.heap.size w (((w.alloc (.map #[] 0)).alloc (.cells #[.pointer none, .string x, .int .i64 0, .pointer none, .map (some w.heap.size)] 28)).alloc (.cells #[.pointer (some ⟨w.heap.size + 1, 0, none⟩)] 23)) := (((Below.refl _ _).alloc (Nat.le_refl _) _).alloc (by simp) _).alloc (by simp; omega) _
    have h2 := h.below hB hp
    go_enter Tryz.func11, Tryz.ntmps11
    go_wp2_with (go_at_call 33; refine (dread_no _ _ _ h2).mono ?_; rintro e w' ⟨rfl, rfl⟩)
    go_ret2
    exact ⟨rfl, hB⟩
  · have hB : Below w.heap.size w (((w.alloc (.map #[] 0)).alloc (.cells #[.pointer (some ⟨a, 0, none⟩), .string x, .int .i64 0, .pointer none, .map (some w.heap.size)] 28)).alloc (.cells #[.pointer (some ⟨w.heap.size + 1, 0, none⟩)] 23)) := (((Below.refl _ _).alloc (Nat.le_refl _) _).alloc (by simp) _).alloc (by simp; omega) _
    have h2 := h.below hB hp
    go_enter Tryz.func11, Tryz.ntmps11
    go_wp2_with (go_at_call 33; refine (dread_no _ _ _ h2).mono ?_; rintro e w' ⟨rfl, rfl⟩)
    go_ret2
    exact ⟨rfl, hB⟩

/-- What stays through the rounds. -/
structure SKeeps (W w : World) : Prop where
  list : Whole w (W.heap.size + 1) 23 [.pointer none, .pointer (some ⟨W.heap.size, 0, none⟩)]
  no : NoS w (.pointer (some ⟨W.heap.size, 0, none⟩))
  size : W.heap.size + 2 ≤ w.heap.size
  below : Below W.heap.size W w
theorem SKeeps.on {W w w' : World} (h : SKeeps W w) (hb : Below w.heap.size w w') : SKeeps W w' :=
  ⟨h.list.below hb h.list.lt, h.no.below hb (fun a ha => by cases ha; have := h.size; omega), Nat.le_trans h.size hb.size, h.below.trans (hb.mono (by have := h.size; omega))⟩

set_option maxRecDepth 100000 in
set_option maxHeartbeats 2000000 in
theorem storeNil_walk (W : World) (x : ByteArray) (v1 v2 : Value) (hx : x.size ≤ 4611686018427387904) : Answers Tryz.prog 3 #[.string x, v1, v2] W := by
  have hK : SKeeps W ((W.alloc (.cells #[.pointer none, .string ⟨#[]⟩, .int .i64 0, .pointer none, .map none] 28)).alloc (.cells #[.pointer none, .pointer (some ⟨W.heap.size, 0, none⟩)] 23)) := by
    have h0 := Whole.new W 28 #[.pointer none, .string ⟨#[]⟩, .int .i64 0, .pointer none, .map none]
    have h1 := Whole.new (W.alloc (.cells #[.pointer none, .string ⟨#[]⟩, .int .i64 0, .pointer none, .map none] 28)) 23 #[.pointer none, .pointer (some ⟨W.heap.size, 0, none⟩)]
    simp only [World.size_alloc] at h1
    exact ⟨h1, .inr ⟨_, rfl, (h0.alloc (.cells #[.pointer none, .pointer (some ⟨W.heap.size, 0, none⟩)] 23)).cell 3⟩, by simp, ((Below.refl _ _).alloc (Nat.le_refl _) _).alloc (by simp) _⟩
  unfold Answers
  go_enter Tryz.func3, Tryz.ntmps3
  go_wp2
  generalize ((W.alloc (.cells #[.pointer none, .string ⟨#[]⟩, .int .i64 0, .pointer none, .map none] 28)).alloc (.cells #[.pointer none, .pointer (some ⟨W.heap.size, 0, none⟩)] 23)) = w0 at hK ⊢
  go_loopw [8] (fun i wr => ∃ k : Nat, k ≤ 2 ∧ i = .int .i64 k ∧ SKeeps W wr) (fun i _ => 2 - (intOf i).toNat)
  case atStart => exact ⟨0, by omega, rfl, hK⟩
  case round =>
    clear hK
    obtain ⟨k, hk, rfl, hK⟩ := hrel
    by_cases hlt : k < 2
    · have hc : ∃ p : Value, wr.cell? ⟨W.heap.size + 1, k, none⟩ = some p ∧ (p = .pointer none ∨ p = .pointer (some ⟨W.heap.size, 0, none⟩)) := by
        have h01 : k = 0 ∨ k = 1 := by omega
        rcases h01 with rfl | rfl
        · exact ⟨_, hK.list.cell 0, .inl rfl⟩
        · exact ⟨_, hK.list.cell 1, .inr rfl⟩
      obtain ⟨p, hc, hp⟩ := hc
      have hno : ∀ w, SKeeps W w → NoS w p := fun w h => by
        rcases hp with rfl | rfl
        · exact .inl rfl
        · exact h.no
      have hlp : ∀ a, p = .pointer (some ⟨a, 0, none⟩) → a < wr.heap.size := fun a ha => by
        have := hK.size
        rcases hp with rfl | rfl
        · cases ha
        · cases ha; omega
      have hnj := hno _ hK
      have H1 := Lib.hid hno
      have H2 := Lib.hid hlp
      have H3 := Lib.hid hK
      clear hp hno hlp hK
      go_wp2_with (first
        | (go_at_call 4; refine (sget_no _ _ _ hnj).mono ?_; rintro e w' ⟨rfl, rfl⟩)
        | (go_at_call 5; refine (scommit_no _ _ _ hnj).mono ?_; rintro e w' ⟨rfl, rfl⟩)
        | (go_at_call 6; refine (ssync_no _ _  hnj).mono ?_; rintro e w' ⟨rfl, rfl⟩)
        | (go_at_call 7; refine (scheck_no _ _ hnj H2.out).mono ?_; rintro e w1 ⟨rfl, hb1⟩; have K1 := H3.out.on hb1; have hn1 := H1.out _ K1; have K1h := Lib.hid K1; clear K1 hb1)
        | (go_at_call 8; refine (spairs_no _ _  hn1).mono ?_; rintro e w' ⟨rfl, rfl⟩)
        | (go_at_call 9; refine (slen_no _ _  hn1).mono ?_; rintro e w' ⟨rfl, rfl⟩)
        | (go_at_call 10; refine (sgen_no _ _  hn1).mono ?_; rintro e w' ⟨rfl, rfl⟩))
      go_roundw
      case rel => exact ⟨k + 1, by omega, by go_num, K1h.out⟩
      case measure => simp [intOf]; omega
    · obtain rfl : k = 2 := by omega
      have hB := hK.below
      have hD : ∀ w : World, NoD (w.alloc (.cells #[.map none, .map none, .int .i64 0] 44)) (.pointer (some ⟨w.heap.size, 0, none⟩)) := fun w => .inr ⟨_, rfl, (Whole.new w 44 #[.map none, .map none, .int .i64 0]).cell 0⟩
      have HB := Lib.hid hB
      clear hK hB
      go_wp2_with (first
        | (go_at_call 11; refine (sopen_no _ _ _ hx (hD w2) (by intro a ha; cases ha; simp)).mono ?_; rintro e w3 ⟨rfl, hB3⟩; have H4 := Lib.hid ((H3.out.alloc H3.out.size (.cells #[.map none, .map none, .int .i64 0] 44)).trans (hB3.mono (Nat.le_trans H3.out.size (by simp)))))
        | (go_at_call 11; refine (sopen_no _ _ _ hx (.inl rfl) (by intro a ha; cases ha)).mono ?_; rintro e w2 ⟨rfl, hB2⟩; have H3 := Lib.hid (HB.out.trans (hB2.mono HB.out.size)))
        | fail)
      go_ret
      exact ⟨rfl, H4.out⟩

end Go.Proofs.YtebaikipppflhaaGreatDoor
