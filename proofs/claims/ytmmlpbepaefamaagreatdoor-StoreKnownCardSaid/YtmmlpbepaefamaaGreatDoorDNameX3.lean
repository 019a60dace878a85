/- A file's name. -/
import Derived.Test.YtmmlpbepaefamaaGreatDoorDBaseX2
import Derived.Test.YtmmlpbepaefamaaGreatDoorTexB
namespace Go.Proofs.YtmmlpbepaefamaaGreatDoor
open Go.RowKit

/-- May a byte stand in a name? -/
def okB (y : BitVec 8) : Bool := (decide (97 ≤ y.toNat) && decide (y.toNat ≤ 122)) || (decide (48 ≤ y.toNat) && decide (y.toNat ≤ 57)) || decide (y.toNat = 46) || decide (y.toNat = 45)
theorem okB_iff (y : BitVec 8) : okB y = true ↔ ((97 ≤ y.toNat ∧ y.toNat ≤ 122) ∨ (48 ≤ y.toNat ∧ y.toNat ≤ 57) ∨ y.toNat = 46 ∨ y.toNat = 45) := by
  simp [okB, or_assoc]
def nameN (s : ByteArray) : Bool := (bytesB s).all okB && (decide (1 ≤ s.size) && decide (s.size ≤ 64))

set_option maxRecDepth 100000 in
set_option maxHeartbeats 2000000 in
theorem named_calls (w : World) (s : ByteArray) (hlen : s.size ≤ 9223372036854775806) : Calls Tryz.prog 75 #[.string s] w fun e w' => e = .returned (.bool (nameN s)) ∧ Below w.heap.size w w' := by
  obtain ⟨N, hN⟩ : ∃ n, s.size = n := ⟨_, rfl⟩
  have hbl : (bytesB s).length = N := by rw [bytesB_length, hN]
  have HN := Lib.hid (And.intro hN hbl)
  rw [hN] at hlen
  clear hN hbl
  go_enter Tryz.func75, Tryz.ntmps75
  go_wp2_with (first
    | (refine wpList_conv_text (by rfl) _ (by rfl) s (by rfl) ?_; intro g k w1 hS b1; rw [HN.out.1] at hS ⊢)
    | fail)
  go_loopw [8] (fun i wr => ∃ k : Nat, k ≤ N ∧ i = .int .i64 k ∧ ((bytesB s).take k).all okB = true ∧ w1 = wr) (fun i _ => N - (intOf i).toNat)
  case atStart => exact ⟨0, by omega, rfl, by simp, rfl⟩
  case round =>
    obtain ⟨j, hj, rfl, hall, rfl⟩ := hrel
    by_cases hlt : j < N
    · have hjl : j < (bytesB s).length := by rw [HN.out.2]; exact hlt
      have hc : w1.cell? ⟨g, j, none⟩ = some (vu8 ((bytesB s).getD j 0)) := by
        rcases hS with ⟨h0, _⟩ | ⟨b, o, c, he, _, hy⟩
        · rw [h0] at hjl
          simp at hjl
        · injection he with he _ _
          injection he with he
          injection he with he1 he2
          subst he1 he2
          have := hy.at_ hjl
          rwa [Nat.zero_add] at this
      have i1 : (j : Int) < (N : Int) := by omega
      have i2 : 0 ≤ (j : Int) ∧ (j : Int) < (N : Int) := by omega
      have b2 : IntKind.i64.wrap ((j : Int) + 1) = (j : Int) + 1 := IntWalk.i64_in _ (by omega)
      obtain ⟨y, hy⟩ : ∃ y, (bytesB s).getD j 0 = y := ⟨_, rfl⟩
      rw [hy] at hc
      have hnx : ((bytesB s).take (j + 1)).all okB = okB y := by
        rw [List.take_succ_eq_append_getElem hjl, List.all_append, hall, ← hy]
        simp [List.getElem?_eq_getElem hjl]
      have HX := Lib.hid (And.intro hnx hy)
      have HJ := Lib.hid hjl
      clear hall hnx hjl hy
      have hno : okB y = false → nameN s = false := fun h => by
        have hm : (bytesB s).all okB = false := by
          rw [← Bool.not_eq_true, List.all_eq_true]
          intro ha
          have hj2 := HJ.out
          have := ha y (by rw [← HX.out.2]; simp [List.getElem?_eq_getElem hj2])
          rw [h] at this
          cases this
        unfold nameN
        rw [hm]
        rfl
      by_cases hob : okB y = true
      · have HO := Lib.hid (And.intro hob (okB_iff y |>.1 hob))
        clear hob hno hS
        go_wp2
        all_goals first
          | (refine ⟨⟨j + 1, by omega, by go_num, by rw [HX.out.1]; exact HO.out.1, by trivial⟩, by simp [intOf]; omega⟩)
          | (exfalso; have hq := HO.out.2; simp at *; omega)
      · have HO := Lib.hid (And.intro (hno (by simpa using hob)) (fun h => hob (okB_iff y |>.2 h)))
        clear hob hno hS
        go_wp2
        all_goals first
          | (go_ret; exact ⟨by rw [HO.out.1] <;> rfl, b1⟩)
          | (exfalso; refine HO.out.2 ?_; simp at *; omega)
    · obtain rfl : j = N := by omega
      have i1 : ¬ (j : Int) < (j : Int) := by omega
      rw [List.take_of_length_le (Nat.le_of_eq HN.out.2)] at hall
      have HA := Lib.hid (show nameN s = (decide (1 ≤ s.size) && decide (s.size ≤ 64)) by unfold nameN; rw [hall]; rfl)
      rw [HN.out.1] at HA
      clear hall hS
      by_cases h1 : 1 ≤ j
      · have i2 : (1 : Int) ≤ (s.size : Int) := by rw [HN.out.1]; omega
        by_cases h2 : j ≤ 64
        · have i3 : (s.size : Int) ≤ 64 := by rw [HN.out.1]; omega
          go_wp2
          go_ret
          exact ⟨by rw [HA.out, decide_eq_true h1, decide_eq_true h2] <;> rfl, b1⟩
        · have i3 : ¬ (s.size : Int) ≤ 64 := by rw [HN.out.1]; omega
          go_wp2
          go_ret
          exact ⟨by rw [HA.out, decide_eq_false h2, Bool.and_false] <;> rfl, b1⟩
      · have i2 : ¬ (1 : Int) ≤ (s.size : Int) := by rw [HN.out.1]; omega
        go_wp2
        go_ret
        exact ⟨by rw [HA.out, decide_eq_false h1, Bool.false_and] <;> rfl, b1⟩

end Go.Proofs.YtmmlpbepaefamaaGreatDoor

/- A log's name. -/
namespace Go.Proofs.YtmmlpbepaefamaaGreatDoor
open Go.RowKit

set_option maxRecDepth 100000 in
set_option maxHeartbeats 2000000 in
theorem jnamed_calls (w : World) (s : ByteArray) (hlen : s.size ≤ 9223372036854775806) : Calls Tryz.prog 55 #[.string s] w fun e w' => e = .returned (.bool (nameN s)) ∧ Below w.heap.size w w' := by
  obtain ⟨N, hN⟩ : ∃ n, s.size = n := ⟨_, rfl⟩
  have hbl : (bytesB s).length = N := by rw [bytesB_length, hN]
  have HN := Lib.hid (And.intro hN hbl)
  rw [hN] at hlen
  clear hN hbl
  go_enter Tryz.func55, Tryz.ntmps55
  go_wp2_with (first
    | (refine wpList_conv_text (by rfl) _ (by rfl) s (by rfl) ?_; intro g k w1 hS b1; rw [HN.out.1] at hS ⊢)
    | fail)
  go_loopw [8] (fun i wr => ∃ k : Nat, k ≤ N ∧ i = .int .i64 k ∧ ((bytesB s).take k).all okB = true ∧ w1 = wr) (fun i _ => N - (intOf i).toNat)
  case atStart => exact ⟨0, by omega, rfl, by simp, rfl⟩
  case round =>
    obtain ⟨j, hj, rfl, hall, rfl⟩ := hrel
    by_cases hlt : j < N
    · have hjl : j < (bytesB s).length := by rw [HN.out.2]; exact hlt
      have hc : w1.cell? ⟨g, j, none⟩ = some (vu8 ((bytesB s).getD j 0)) := by
        rcases hS with ⟨h0, _⟩ | ⟨b, o, c, he, _, hy⟩
        · rw [h0] at hjl
          simp at hjl
        · injection he with he _ _
          injection he with he
          injection he with he1 he2
          subst he1 he2
          have := hy.at_ hjl
          rwa [Nat.zero_add] at this
      have i1 : (j : Int) < (N : Int) := by omega
      have i2 : 0 ≤ (j : Int) ∧ (j : Int) < (N : Int) := by omega
      have b2 : IntKind.i64.wrap ((j : Int) + 1) = (j : Int) + 1 := IntWalk.i64_in _ (by omega)
      obtain ⟨y, hy⟩ : ∃ y, (bytesB s).getD j 0 = y := ⟨_, rfl⟩
      rw [hy] at hc
      have hnx : ((bytesB s).take (j + 1)).all okB = okB y := by
        rw [List.take_succ_eq_append_getElem hjl, List.all_append, hall, ← hy]
        simp [List.getElem?_eq_getElem hjl]
      have HX := Lib.hid (And.intro hnx hy)
      have HJ := Lib.hid hjl
      clear hall hnx hjl hy
      have hno : okB y = false → nameN s = false := fun h => by
        have hm : (bytesB s).all okB = false := by
          rw [← Bool.not_eq_true, List.all_eq_true]
          intro ha
          have hj2 := HJ.out
          have := ha y (by rw [← HX.out.2]; simp [List.getElem?_eq_getElem hj2])
          rw [h] at this
          cases this
        unfold nameN
        rw [hm]
        rfl
      by_cases hob : okB y = true
      · have HO := Lib.hid (And.intro hob (okB_iff y |>.1 hob))
        clear hob hno hS
        go_wp2
        all_goals first
          | (refine ⟨⟨j + 1, by omega, by go_num, by rw [HX.out.1]; exact HO.out.1, by trivial⟩, by simp [intOf]; omega⟩)
          | (exfalso; have hq := HO.out.2; simp at *; omega)
      · have HO := Lib.hid (And.intro (hno (by simpa using hob)) (fun h => hob (okB_iff y |>.2 h)))
        clear hob hno hS
        go_wp2
        all_goals first
          | (go_ret; exact ⟨by rw [HO.out.1] <;> rfl, b1⟩)
          | (exfalso; refine HO.out.2 ?_; simp at *; omega)
    · obtain rfl : j = N := by omega
      have i1 : ¬ (j : Int) < (j : Int) := by omega
      rw [List.take_of_length_le (Nat.le_of_eq HN.out.2)] at hall
      have HA := Lib.hid (show nameN s = (decide (1 ≤ s.size) && decide (s.size ≤ 64)) by unfold nameN; rw [hall]; rfl)
      rw [HN.out.1] at HA
      clear hall hS
      by_cases h1 : 1 ≤ j
      · have i2 : (1 : Int) ≤ (s.size : Int) := by rw [HN.out.1]; omega
        by_cases h2 : j ≤ 64
        · have i3 : (s.size : Int) ≤ 64 := by rw [HN.out.1]; omega
          go_wp2
          go_ret
          exact ⟨by rw [HA.out, decide_eq_true h1, decide_eq_true h2] <;> rfl, b1⟩
        · have i3 : ¬ (s.size : Int) ≤ 64 := by rw [HN.out.1]; omega
          go_wp2
          go_ret
          exact ⟨by rw [HA.out, decide_eq_false h2, Bool.and_false] <;> rfl, b1⟩
      · have i2 : ¬ (1 : Int) ≤ (s.size : Int) := by rw [HN.out.1]; omega
        go_wp2
        go_ret
        exact ⟨by rw [HA.out, decide_eq_false h1, Bool.false_and] <;> rfl, b1⟩

end Go.Proofs.YtmmlpbepaefamaaGreatDoor

/- A store's name. -/
namespace Go.Proofs.YtmmlpbepaefamaaGreatDoor
open Go.RowKit

def nameS (s : ByteArray) : Bool := (bytesB s).all okB && (decide (1 ≤ s.size) && decide (s.size ≤ 40))

set_option maxRecDepth 100000 in
set_option maxHeartbeats 2000000 in
theorem snamed_calls (w : World) (s : ByteArray) (hlen : s.size ≤ 9223372036854775806) : Calls Tryz.prog 21 #[.string s] w fun e w' => e = .returned (.bool (nameS s)) ∧ Below w.heap.size w w' := by
  obtain ⟨N, hN⟩ : ∃ n, s.size = n := ⟨_, rfl⟩
  have hbl : (bytesB s).length = N := by rw [bytesB_length, hN]
  have HN := Lib.hid (And.intro hN hbl)
  rw [hN] at hlen
  clear hN hbl
  go_enter Tryz.func21, Tryz.ntmps21
  go_wp2_with (first
    | (refine wpList_conv_text (by rfl) _ (by rfl) s (by rfl) ?_; intro g k w1 hS b1; rw [HN.out.1] at hS ⊢)
    | fail)
  go_loopw [8] (fun i wr => ∃ k : Nat, k ≤ N ∧ i = .int .i64 k ∧ ((bytesB s).take k).all okB = true ∧ w1 = wr) (fun i _ => N - (intOf i).toNat)
  case atStart => exact ⟨0, by omega, rfl, by simp, rfl⟩
  case round =>
    obtain ⟨j, hj, rfl, hall, rfl⟩ := hrel
    by_cases hlt : j < N
    · have hjl : j < (bytesB s).length := by rw [HN.out.2]; exact hlt
      have hc : w1.cell? ⟨g, j, none⟩ = some (vu8 ((bytesB s).getD j 0)) := by
        rcases hS with ⟨h0, _⟩ | ⟨b, o, c, he, _, hy⟩
        · rw [h0] at hjl
          simp at hjl
        · injection he with he _ _
          injection he with he
          injection he with he1 he2
          subst he1 he2
          have := hy.at_ hjl
          rwa [Nat.zero_add] at this
      have i1 : (j : Int) < (N : Int) := by omega
      have i2 : 0 ≤ (j : Int) ∧ (j : Int) < (N : Int) := by omega
      have b2 : IntKind.i64.wrap ((j : Int) + 1) = (j : Int) + 1 := IntWalk.i64_in _ (by omega)
      obtain ⟨y, hy⟩ : ∃ y, (bytesB s).getD j 0 = y := ⟨_, rfl⟩
      rw [hy] at hc
      have hnx : ((bytesB s).take (j + 1)).all okB = okB y := by
        rw [List.take_succ_eq_append_getElem hjl, List.all_append, hall, ← hy]
        simp [List.getElem?_eq_getElem hjl]
      have HX := Lib.hid (And.intro hnx hy)
      have HJ := Lib.hid hjl
      clear hall hnx hjl hy
      have hno : okB y = false → nameS s = false := fun h => by
        have hm : (bytesB s).all okB = false := by
          rw [← Bool.not_eq_true, List.all_eq_true]
          intro ha
          have hj2 := HJ.out
          have := ha y (by rw [← HX.out.2]; simp [List.getElem?_eq_getElem hj2])
          rw [h] at this
          cases this
        unfold nameS
        rw [hm]
        rfl
      by_cases hob : okB y = true
      · have HO := Lib.hid (And.intro hob (okB_iff y |>.1 hob))
        clear hob hno hS
        go_wp2
        all_goals first
          | (refine ⟨⟨j + 1, by omega, by go_num, by rw [HX.out.1]; exact HO.out.1, by trivial⟩, by simp [intOf]; omega⟩)
          | (exfalso; have hq := HO.out.2; simp at *; omega)
      · have HO := Lib.hid (And.intro (hno (by simpa using hob)) (fun h => hob (okB_iff y |>.2 h)))
        clear hob hno hS
        go_wp2
        all_goals first
          | (go_ret; exact ⟨by rw [HO.out.1] <;> rfl, b1⟩)
          | (exfalso; refine HO.out.2 ?_; simp at *; omega)
    · obtain rfl : j = N := by omega
      have i1 : ¬ (j : Int) < (j : Int) := by omega
      rw [List.take_of_length_le (Nat.le_of_eq HN.out.2)] at hall
      have HA := Lib.hid (show nameS s = (decide (1 ≤ s.size) && decide (s.size ≤ 40)) by unfold nameS; rw [hall]; rfl)
      rw [HN.out.1] at HA
      clear hall hS
      by_cases h1 : 1 ≤ j
      · have i2 : (1 : Int) ≤ (s.size : Int) := by rw [HN.out.1]; omega
        by_cases h2 : j ≤ 40
        · have i3 : (s.size : Int) ≤ 40 := by rw [HN.out.1]; omega
          go_wp2
          go_ret
          exact ⟨by rw [HA.out, decide_eq_true h1, decide_eq_true h2] <;> rfl, b1⟩
        · have i3 : ¬ (s.size : Int) ≤ 40 := by rw [HN.out.1]; omega
          go_wp2
          go_ret
          exact ⟨by rw [HA.out, decide_eq_false h2, Bool.and_false] <;> rfl, b1⟩
      · have i2 : ¬ (1 : Int) ≤ (s.size : Int) := by rw [HN.out.1]; omega
        go_wp2
        go_ret
        exact ⟨by rw [HA.out, decide_eq_false h1, Bool.false_and] <;> rfl, b1⟩

end Go.Proofs.YtmmlpbepaefamaaGreatDoor
