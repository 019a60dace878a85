/- Turned numbers: both texts turn a number of 32 bits alike. -/
import Derived.Test.YtglcingpolpkdaaDoorFrame
import Derived.Test.YtglcingpolpkdaaDoorNum
import Derived.Deep.QuietTactic
import Derived.BigQuiet
import Derived.Lib.Hide
namespace Go.Proofs.YtglcingpolpkdaaDoor
open Go.RowKit

/-- A number turned to the right by k. -/
def rotr (x : BitVec 32) (k : Nat) : BitVec 32 := x <<< (32 - k) ||| x >>> k

theorem ret_any {v v' : Value} {w : World} (h : v = v') : Ending.returned v = .returned v' ∧ w = w := ⟨by rw [h], rfl⟩

theorem right_2 (x : BitVec 32) (w : World) : Calls Tryd.prog 50 #[vu32 x, .int .i64 2] w fun e w' => e = .returned (vu32 (rotr x 2)) ∧ w = w' := by
  go_enter Tryd.func50, Tryd.ntmps50
  go_wp2
  go_ret
  exact ret_any rfl
theorem right_6 (x : BitVec 32) (w : World) : Calls Tryd.prog 50 #[vu32 x, .int .i64 6] w fun e w' => e = .returned (vu32 (rotr x 6)) ∧ w = w' := by
  go_enter Tryd.func50, Tryd.ntmps50
  go_wp2
  go_ret
  exact ret_any rfl
theorem right_7 (x : BitVec 32) (w : World) : Calls Tryd.prog 50 #[vu32 x, .int .i64 7] w fun e w' => e = .returned (vu32 (rotr x 7)) ∧ w = w' := by
  go_enter Tryd.func50, Tryd.ntmps50
  go_wp2
  go_ret
  exact ret_any rfl
theorem right_11 (x : BitVec 32) (w : World) : Calls Tryd.prog 50 #[vu32 x, .int .i64 11] w fun e w' => e = .returned (vu32 (rotr x 11)) ∧ w = w' := by
  go_enter Tryd.func50, Tryd.ntmps50
  go_wp2
  go_ret
  exact ret_any rfl
theorem right_13 (x : BitVec 32) (w : World) : Calls Tryd.prog 50 #[vu32 x, .int .i64 13] w fun e w' => e = .returned (vu32 (rotr x 13)) ∧ w = w' := by
  go_enter Tryd.func50, Tryd.ntmps50
  go_wp2
  go_ret
  exact ret_any rfl
theorem right_17 (x : BitVec 32) (w : World) : Calls Tryd.prog 50 #[vu32 x, .int .i64 17] w fun e w' => e = .returned (vu32 (rotr x 17)) ∧ w = w' := by
  go_enter Tryd.func50, Tryd.ntmps50
  go_wp2
  go_ret
  exact ret_any rfl
theorem right_18 (x : BitVec 32) (w : World) : Calls Tryd.prog 50 #[vu32 x, .int .i64 18] w fun e w' => e = .returned (vu32 (rotr x 18)) ∧ w = w' := by
  go_enter Tryd.func50, Tryd.ntmps50
  go_wp2
  go_ret
  exact ret_any rfl
theorem right_19 (x : BitVec 32) (w : World) : Calls Tryd.prog 50 #[vu32 x, .int .i64 19] w fun e w' => e = .returned (vu32 (rotr x 19)) ∧ w = w' := by
  go_enter Tryd.func50, Tryd.ntmps50
  go_wp2
  go_ret
  exact ret_any rfl
theorem right_22 (x : BitVec 32) (w : World) : Calls Tryd.prog 50 #[vu32 x, .int .i64 22] w fun e w' => e = .returned (vu32 (rotr x 22)) ∧ w = w' := by
  go_enter Tryd.func50, Tryd.ntmps50
  go_wp2
  go_ret
  exact ret_any rfl
theorem right_25 (x : BitVec 32) (w : World) : Calls Tryd.prog 50 #[vu32 x, .int .i64 25] w fun e w' => e = .returned (vu32 (rotr x 25)) ∧ w = w' := by
  go_enter Tryd.func50, Tryd.ntmps50
  go_wp2
  go_ret
  exact ret_any rfl
/-- The turns that the text asks for. -/
def Turn (k : Nat) : Prop := k = 2 ∨ k = 6 ∨ k = 7 ∨ k = 11 ∨ k = 13 ∨ k = 17 ∨ k = 18 ∨ k = 19 ∨ k = 22 ∨ k = 25
theorem right_any (x : BitVec 32) (k : Nat) (h : Turn k) (w : World) : Calls Tryd.prog 50 #[vu32 x, .int .i64 k] w fun e w' => e = .returned (vu32 (rotr x k)) ∧ w = w' := by
  rcases h with rfl | rfl | rfl | rfl | rfl | rfl | rfl | rfl | rfl | rfl
  · exact right_2 x w
  · exact right_6 x w
  · exact right_7 x w
  · exact right_11 x w
  · exact right_13 x w
  · exact right_17 x w
  · exact right_18 x w
  · exact right_19 x w
  · exact right_22 x w
  · exact right_25 x w

/-- The same, of a number of the language's. -/
def TurnI (i : Int) : Prop := i = 2 ∨ i = 6 ∨ i = 7 ∨ i = 11 ∨ i = 13 ∨ i = 17 ∨ i = 18 ∨ i = 19 ∨ i = 22 ∨ i = 25
theorem TurnI.turn {i : Int} (h : TurnI i) : ∃ k : Nat, i = k ∧ Turn k ∧ i.toNat = k := by
  unfold TurnI at h
  exact ⟨i.toNat, by omega, by unfold Turn; omega, rfl⟩
theorem right_int (x : BitVec 32) (i : Int) (h : TurnI i) (w : World) : Calls Tryd.prog 50 #[vu32 x, .int .i64 i] w fun e w' => e = .returned (vu32 (rotr x i.toNat)) ∧ w' = w := by
  obtain ⟨k, rfl, hk, hi⟩ := h.turn
  rw [hi]
  exact (right_any x k hk w).mono fun e w' h => ⟨h.1, h.2.symm⟩

theorem refright_any (x : BitVec 32) (k : Nat) (h1 : 1 ≤ k) (h2 : k ≤ 31) (w : World) : Calls Tryd.prog 51 #[vu32 x, .int .i64 k] w fun e w' => e = .returned (vu32 (rotr x k)) ∧ ∃ n, w' = w.drewN n := by
  have e1 : IntKind.i64.wrap (32 - (k : Int)) = 32 - (k : Int) := IntWalk.i64_in _ (by omega)
  have hs : binOp .shl 103 (vu32 x) (.int .i64 (32 - (k : Int))) = pure (vu32 (x <<< (32 - k))) := by
    rw [binOp_shl_vu32 _ _ _ _ (by omega)]
    congr 3
    omega
  go_enter Tryd.func51, Tryd.ntmps51
  go_wp2
  go_quiet (fail)
  go_wp2
  go_ret
  exact ⟨congrArg (fun z => Ending.returned (vu32 z)) (BitVec.or_comm _ _), _, rfl⟩

theorem refright_int (x : BitVec 32) (i : Int) (h : TurnI i) (w : World) : Calls Tryd.prog 51 #[vu32 x, .int .i64 i] w fun e w' => e = .returned (vu32 (rotr x i.toNat)) ∧ ∃ n, w' = w.drewN n := by
  obtain ⟨k, rfl, hk, hi⟩ := h.turn
  rw [hi]
  exact refright_any x k (by unfold Turn at hk; omega) (by unfold Turn at hk; omega) w

end Go.Proofs.YtglcingpolpkdaaDoor
