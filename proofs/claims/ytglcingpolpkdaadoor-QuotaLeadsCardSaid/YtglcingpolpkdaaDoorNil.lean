/- DigestNil: the methods of a hash that is none answer nothing. -/
import Derived.Test.YtglcingpolpkdaaDoorFrame
import Derived.WalkKit
import Derived.WalkSpells
import Derived.WalkLawsBesides
import Derived.Deep.QuietTactic
import Derived.BigQuiet
import Derived.Deep.DeepCutAuto
import Derived.Deep.CutBlock
import Derived.Test.YtglcingpolpkdaaDoorMem
namespace Go.Proofs.YtglcingpolpkdaaDoor
open Go.RowKit

theorem none_nil (w : World) : Calls Tryd.prog 45 #[.pointer none] w fun e w' => e = .returned (.bool true) ∧ w = w' := by
  go_enter Tryd.func45, Tryd.ntmps45
  go_wp2
  go_ret
  exact ⟨rfl, rfl⟩

theorem none_made (w : World) (a : Nat) (b : Bool) (hc : w.cell? ⟨a, 73, none⟩ = some (.bool b)) : Calls Tryd.prog 45 #[.pointer (some ⟨a, 0, none⟩)] w fun e w' => e = .returned (.bool !b) ∧ w = w' := by
  go_enter Tryd.func45, Tryd.ntmps45
  go_wp2
  go_ret
  exact ⟨rfl, rfl⟩

/-- A pointer that is no hash: nil, or one that no call made. -/
def NoHash (w : World) (p : Value) : Prop := p = .pointer none ∨ ∃ a, p = .pointer (some ⟨a, 0, none⟩) ∧ w.cell? ⟨a, 73, none⟩ = some (.bool false)

theorem none_no (w : World) (p : Value) (h : NoHash w p) : Calls Tryd.prog 45 #[p] w fun e w' => e = .returned (.bool true) ∧ w = w' := by
  rcases h with rfl | ⟨a, rfl, hc⟩
  · exact none_nil w
  · exact none_made w a false hc

theorem write_no (w : World) (p b : Value) (h : NoHash w p) : Calls Tryd.prog 38 #[p, b] w fun e w' => e = .returned (.int .i64 1) ∧ w = w' := by
  go_enter Tryd.func38, Tryd.ntmps38
  go_wp2_with (go_at_call 45; refine (none_no _ _ h).mono ?_; rintro e w' ⟨rfl, rfl⟩)
  go_ret
  exact ⟨rfl, rfl⟩

theorem NoHash.below {B : Nat} {w w' : World} {p : Value} (h : NoHash w p) (hb : Below B w w') (hp : ∀ a, p = .pointer (some ⟨a, 0, none⟩) → a < B) : NoHash w' p := by
  rcases h with rfl | ⟨a, rfl, hc⟩
  · exact .inl rfl
  · exact .inr ⟨a, rfl, (hb.cell (p := ⟨a, 73, none⟩) (hp a rfl)).trans hc⟩

theorem info_d : (Tryd.prog.info? 24).map (fun i => (i.zero, i.size)) = some (some (.agg (zeroNums .u8 32).toArray), 32) := by kernel_rfl
theorem size_d : (Tryd.prog.info? 24).map (·.size) = some 32 := by kernel_rfl
theorem all_zeros (k : IntKind) (n : Nat) : (zeroNums k n).toArray.all (·.oneCell') = true := all_one fun v hv => by
  rw [List.eq_of_mem_replicate hv]
  rfl

set_option maxHeartbeats 400000 in
theorem sum_no (w : World) (p : Value) (h : NoHash w p) (hp : ∀ a, p = .pointer (some ⟨a, 0, none⟩) → a < w.heap.size) :
    Calls Tryd.prog 39 #[p] w fun e w' => e = .returned (.agg (zeroNums .u8 32).toArray) ∧ Below w.heap.size w w' := by
  have hB : Below w.heap.size w ((w.alloc (.cells (zeroNums .u8 32).toArray 24)).alloc (.cells (zeroNums .u8 32).toArray 24)) := ((Below.refl _ _).alloc (Nat.le_refl _) _).alloc (by simp) _
  have h2 := h.below hB hp
  have hz := Whole.new (w.alloc (.cells (zeroNums .u8 32).toArray 24)) 24 (zeroNums .u8 32).toArray
  have hr := (Whole.new w 24 (zeroNums .u8 32).toArray).alloc (.cells (zeroNums .u8 32).toArray 24)
  rw [World.size_alloc] at hz
  go_enter Tryd.func39, Tryd.ntmps39
  go_upto_region 2 with (refine wpList_alloc_row (by rfl) 24 (by rfl) _ _ info_d ?_)
  generalize ((w.alloc (.cells (zeroNums .u8 32).toArray 24)).alloc (.cells (zeroNums .u8 32).toArray 24)) = w2 at *
  go_upto_region 3 with (go_at_call 45; refine (none_no _ _ h2).mono ?_; rintro e w' ⟨rfl, rfl⟩)
  apply wp_region_lit
  refine wpList_load_row (by rfl) 24 _ (by rfl) (w.heap.size + 1) (by rfl) 24 (zeroNums .u8 32).toArray (0, 0) _ hz Tryd.underlying24 (by rfl) size_d ?_
  refine wpList_store_row (by rfl) 24 _ _ (by rfl) w.heap.size (zeroNums .u8 32).toArray (by rfl) (by rfl) 24 _ hr size_d rfl (all_zeros _ _) ?_
  go_wp2
  exact bodyPost_ret (results_cell_row rfl _ _ w.heap.size 24 _ (0, 0) _ rfl (hr.row _) Tryd.underlying24 rfl size_d) rfl ⟨rfl, hB.grown (grown_row (World.grownBy.refl _ (some w.heap.size)) (.inl rfl) _) hB.size (fun k hk => by simp at hk; omega)⟩

theorem guard_d : Tryd.prog.eqGuardType Tryd.prog.depth 24 = false := by kernel_rfl
theorem info_b : (Tryd.prog.info? 5).map (·.size) = some 1 := by kernel_rfl
theorem built_d : Tryd.prog.built 24 [] = some (zeroNums .u8 32).toArray := by kernel_rfl
theorem eq_zero (w : World) : (Op.equalIn 10000 24 (.agg (zeroNums .u8 32).toArray) (.agg #[.int .u8 0, .int .u8 0, .int .u8 0, .int .u8 0, .int .u8 0, .int .u8 0, .int .u8 0, .int .u8 0, .int .u8 0, .int .u8 0, .int .u8 0, .int .u8 0, .int .u8 0, .int .u8 0, .int .u8 0, .int .u8 0, .int .u8 0, .int .u8 0, .int .u8 0, .int .u8 0, .int .u8 0, .int .u8 0, .int .u8 0, .int .u8 0, .int .u8 0, .int .u8 0, .int .u8 0, .int .u8 0, .int .u8 0, .int .u8 0, .int .u8 0, .int .u8 0])).run Tryd.prog w = .ok true w := by
  obtain ⟨i, hi, hs⟩ := Option.map_eq_some_iff.1 info_b
  have h := run_equal_bytes w (t := 24) Tryd.underlying24 hi hs Tryd.underlying5 (List.replicate 32 (0#8)) (List.replicate 32 (0#8)) (by simp) (by simp)
  rw [← zero_bytes] at h
  simp only [decide_true] at h
  exact h

end Go.Proofs.YtglcingpolpkdaaDoor
