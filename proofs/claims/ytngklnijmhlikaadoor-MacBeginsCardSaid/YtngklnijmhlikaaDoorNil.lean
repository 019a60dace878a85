/- DigestNil: the methods of a hash that is none answer nothing. -/
import Derived.Test.YtngklnijmhlikaaDoorFrame
import Derived.WalkKit
import Derived.WalkSpells
import Derived.WalkLawsBesides
import Derived.Deep.QuietTactic
import Derived.BigQuiet
import Derived.Deep.DeepCutAuto
import Derived.Deep.CutBlock
import Derived.Test.YtngklnijmhlikaaDoorMem
namespace Go.Proofs.YtngklnijmhlikaaDoor
open Go.RowKit

theorem none_nil (w : World) : Calls Tryd.prog 71 #[.pointer none] w fun e w' => e = .returned (.bool true) ∧ w = w' := by
  go_enter Tryd.func71, Tryd.ntmps71
  go_wp2
  go_ret
  exact ⟨rfl, rfl⟩

theorem none_made (w : World) (a : Nat) (b : Bool) (hc : w.cell? ⟨a, 73, none⟩ = some (.bool b)) : Calls Tryd.prog 71 #[.pointer (some ⟨a, 0, none⟩)] w fun e w' => e = .returned (.bool !b) ∧ w = w' := by
  go_enter Tryd.func71, Tryd.ntmps71
  go_wp2
  go_ret
  exact ⟨rfl, rfl⟩

/-- A pointer that is no hash: nil, or one that no call made. -/
def NoHash (w : World) (p : Value) : Prop := p = .pointer none ∨ ∃ a, p = .pointer (some ⟨a, 0, none⟩) ∧ w.cell? ⟨a, 73, none⟩ = some (.bool false)

theorem none_no (w : World) (p : Value) (h : NoHash w p) : Calls Tryd.prog 71 #[p] w fun e w' => e = .returned (.bool true) ∧ w = w' := by
  rcases h with rfl | ⟨a, rfl, hc⟩
  · exact none_nil w
  · exact none_made w a false hc

theorem write_no (w : World) (p b : Value) (h : NoHash w p) : Calls Tryd.prog 21 #[p, b] w fun e w' => e = .returned (.int .i64 1) ∧ w = w' := by
  go_enter Tryd.func21, Tryd.ntmps21
  go_wp2_with (go_at_call 71; refine (none_no _ _ h).mono ?_; rintro e w' ⟨rfl, rfl⟩)
  go_ret
  exact ⟨rfl, rfl⟩

theorem len_no (w : World) (p : Value) (h : NoHash w p) : Calls Tryd.prog 23 #[p] w fun e w' => e = .returned (.int .i64 0) ∧ w = w' := by
  go_enter Tryd.func23, Tryd.ntmps23
  go_wp2_with (go_at_call 71; refine (none_no _ _ h).mono ?_; rintro e w' ⟨rfl, rfl⟩)
  go_ret
  exact ⟨rfl, rfl⟩

theorem clone_no (w : World) (p : Value) (h : NoHash w p) : Calls Tryd.prog 24 #[p] w fun e w' => e = .returned (.pointer none) ∧ w = w' := by
  go_enter Tryd.func24, Tryd.ntmps24
  go_wp2_with (go_at_call 71; refine (none_no _ _ h).mono ?_; rintro e w' ⟨rfl, rfl⟩)
  go_ret
  exact ⟨rfl, rfl⟩

theorem NoHash.below {B : Nat} {w w' : World} {p : Value} (h : NoHash w p) (hb : Below B w w') (hp : ∀ a, p = .pointer (some ⟨a, 0, none⟩) → a < B) : NoHash w' p := by
  rcases h with rfl | ⟨a, rfl, hc⟩
  · exact .inl rfl
  · exact .inr ⟨a, rfl, (hb.cell (p := ⟨a, 73, none⟩) (hp a rfl)).trans hc⟩

theorem info_d : (Tryd.prog.info? 25).map (fun i => (i.zero, i.size)) = some (some (.agg (zeroNums .u8 32).toArray), 32) := by kernel_rfl
theorem size_d : (Tryd.prog.info? 25).map (·.size) = some 32 := by kernel_rfl
theorem all_zeros (k : IntKind) (n : Nat) : (zeroNums k n).toArray.all (·.oneCell') = true := all_one fun v hv => by
  rw [List.eq_of_mem_replicate hv]
  rfl

set_option maxHeartbeats 400000 in
theorem sum_no (w : World) (p : Value) (h : NoHash w p) (hp : ∀ a, p = .pointer (some ⟨a, 0, none⟩) → a < w.heap.size) :
    Calls Tryd.prog 22 #[p] w fun e w' => e = .returned (.agg (zeroNums .u8 32).toArray) ∧ Below w.heap.size w w' := by
  have hB : Below w.heap.size w ((w.alloc (.cells (zeroNums .u8 32).toArray 25)).alloc (.cells (zeroNums .u8 32).toArray 25)) := ((Below.refl _ _).alloc (Nat.le_refl _) _).alloc (by simp) _
  have h2 := h.below hB hp
  have hz := Whole.new (w.alloc (.cells (zeroNums .u8 32).toArray 25)) 25 (zeroNums .u8 32).toArray
  have hr := (Whole.new w 25 (zeroNums .u8 32).toArray).alloc (.cells (zeroNums .u8 32).toArray 25)
  rw [World.size_alloc] at hz
  go_enter Tryd.func22, Tryd.ntmps22
  go_upto_region 2 with (refine wpList_alloc_row (by rfl) 25 (by rfl) _ _ info_d ?_)
  generalize ((w.alloc (.cells (zeroNums .u8 32).toArray 25)).alloc (.cells (zeroNums .u8 32).toArray 25)) = w2 at *
  go_upto_region 3 with (go_at_call 71; refine (none_no _ _ h2).mono ?_; rintro e w' ⟨rfl, rfl⟩)
  apply wp_region_lit
  refine wpList_load_row (by rfl) 25 _ (by rfl) (w.heap.size + 1) (by rfl) 25 (zeroNums .u8 32).toArray (0, 0) _ hz Tryd.underlying25 (by rfl) size_d ?_
  refine wpList_store_row (by rfl) 25 _ _ (by rfl) w.heap.size (zeroNums .u8 32).toArray (by rfl) (by rfl) 25 _ hr size_d rfl (all_zeros _ _) ?_
  go_wp2
  exact bodyPost_ret (results_cell_row rfl _ _ w.heap.size 25 _ (0, 0) _ rfl (hr.row _) Tryd.underlying25 rfl size_d) rfl ⟨rfl, hB.grown (grown_row (World.grownBy.refl _ (some w.heap.size)) (.inl rfl) _) hB.size (fun k hk => by simp at hk; omega)⟩

theorem guard_d : Tryd.prog.eqGuardType Tryd.prog.depth 25 = false := by kernel_rfl
theorem info_b : (Tryd.prog.info? 5).map (·.size) = some 1 := by kernel_rfl
theorem built_d : Tryd.prog.built 25 [] = some (zeroNums .u8 32).toArray := by kernel_rfl
theorem zero_at : (Tryd.zeroCells35.toList)[73]? = some (.bool false) := by kernel_rfl
theorem zero_cell (W : World) : (W.alloc (.cells Tryd.zeroCells35 35)).cell? ⟨W.heap.size, 73, none⟩ = some (.bool false) := by
  rw [(Whole.new W 35 Tryd.zeroCells35).cell 73]
  exact zero_at
theorem eq_zero (w : World) : (Op.equalIn 10000 25 (.agg (zeroNums .u8 32).toArray) (.agg #[.int .u8 0, .int .u8 0, .int .u8 0, .int .u8 0, .int .u8 0, .int .u8 0, .int .u8 0, .int .u8 0, .int .u8 0, .int .u8 0, .int .u8 0, .int .u8 0, .int .u8 0, .int .u8 0, .int .u8 0, .int .u8 0, .int .u8 0, .int .u8 0, .int .u8 0, .int .u8 0, .int .u8 0, .int .u8 0, .int .u8 0, .int .u8 0, .int .u8 0, .int .u8 0, .int .u8 0, .int .u8 0, .int .u8 0, .int .u8 0, .int .u8 0, .int .u8 0])).run Tryd.prog w = .ok true w := by
  obtain ⟨i, hi, hs⟩ := Option.map_eq_some_iff.1 info_b
  have h := run_equal_bytes w (t := 25) Tryd.underlying25 hi hs Tryd.underlying5 (List.replicate 32 (0#8)) (List.replicate 32 (0#8)) (by simp) (by simp)
  rw [← zero_bytes] at h
  simp only [decide_true] at h
  exact h

set_option maxRecDepth 100000 in
set_option maxHeartbeats 1000000 in
theorem digestNil_walk (W : World) (v : Value) : Answers Tryd.prog 4 #[v] W := by
  have hm := guard_d
  have hb25 := built_d
  have hz := eq_zero
  have hno : NoHash (W.alloc (.cells Tryd.zeroCells35 35)) (.pointer (some ⟨W.heap.size, 0, none⟩)) := .inr ⟨W.heap.size, rfl, zero_cell W⟩
  have hS := Whole.new (W.alloc (.cells Tryd.zeroCells35 35)) 29 #[.pointer none, .pointer (some ⟨W.heap.size, 0, none⟩)]
  rw [World.size_alloc] at hS
  have hno2 := hno.below ((Below.refl (W.heap.size + 1) _).alloc (o := .cells #[.pointer none, .pointer (some ⟨W.heap.size, 0, none⟩)] 29) (by simp)) (fun a ha => by cases ha; omega)
  have hB : Below W.heap.size W ((W.alloc (.cells Tryd.zeroCells35 35)).alloc (.cells #[.pointer none, .pointer (some ⟨W.heap.size, 0, none⟩)] 29)) := ((Below.refl _ _).alloc (Nat.le_refl _) _).alloc (by simp) _
  unfold Answers
  go_enter Tryd.func4, Tryd.ntmps4
  go_wp2
  generalize hw0 : ((W.alloc (.cells Tryd.zeroCells35 35)).alloc (.cells #[.pointer none, .pointer (some ⟨W.heap.size, 0, none⟩)] 29)) = w0 at hS hno2 hB ⊢
  have hsz : W.heap.size + 2 ≤ w0.heap.size := by rw [← hw0]; simp
  clear hw0 hno
  go_loopw [4] (fun i wr => ∃ k : Nat, k ≤ 2 ∧ i = .int .i64 k ∧ Whole wr (W.heap.size + 1) 29 [.pointer none, .pointer (some ⟨W.heap.size, 0, none⟩)] ∧ NoHash wr (.pointer (some ⟨W.heap.size, 0, none⟩)) ∧ W.heap.size + 2 ≤ wr.heap.size ∧ Below W.heap.size W wr) (fun i _ => 2 - (intOf i).toNat)
  case atStart => exact ⟨0, by omega, rfl, hS, hno2, hsz, hB⟩
  case round =>
    clear hS hno2 hsz hB
    obtain ⟨k, hk, rfl, hS, hno2, hsz, hB⟩ := hrel
    have go : ∀ p : Value, p = .pointer none ∨ p = .pointer (some ⟨W.heap.size, 0, none⟩) → NoHash wr p ∧ ∀ a, p = .pointer (some ⟨a, 0, none⟩) → a < wr.heap.size := by
      rintro p (rfl | rfl)
      · exact ⟨.inl rfl, fun a h => by cases h⟩
      · exact ⟨hno2, fun a h => by cases h; omega⟩
    by_cases hlt : k < 2
    · have hc : ∃ p : Value, wr.cell? ⟨W.heap.size + 1, k, none⟩ = some p ∧ (p = .pointer none ∨ p = .pointer (some ⟨W.heap.size, 0, none⟩)) := by
        have h01 : k = 0 ∨ k = 1 := by omega
        rcases h01 with rfl | rfl
        · exact ⟨_, hS.cell 0, .inl rfl⟩
        · exact ⟨_, hS.cell 1, .inr rfl⟩
      obtain ⟨p, hc, hp⟩ := hc
      obtain ⟨hno, hlp⟩ := go p hp
      have H := Lib.hid hp
      have H2 := Lib.hid hlp
      clear hp hlp go
      go_wp2_with (first
        | (go_at_call 21; refine (write_no _ _ _ hno).mono ?_; rintro e w' ⟨rfl, rfl⟩)
        | (go_at_call 22; refine (sum_no _ _ hno H2.out).mono ?_; rintro e w1 ⟨rfl, hb1⟩; have hno1 := hno.below hb1 H2.out)
        | (go_at_call 23; refine (len_no _ _ (by assumption)).mono ?_; rintro e w' ⟨rfl, rfl⟩)
        | (go_at_call 24; refine (clone_no _ _ (by assumption)).mono ?_; rintro e w' ⟨rfl, rfl⟩))
      go_roundw
      case rel => exact ⟨k + 1, by omega, by go_num, hS.below hb1 hS.lt, hno2.below hb1 (fun a ha => by cases ha; omega), Nat.le_trans hsz hb1.size, hB.trans (hb1.mono (by omega))⟩
      case measure => simp [intOf]; omega
    · obtain rfl : k = 2 := by omega
      go_wp2
      go_ret
      exact ⟨rfl, hB⟩

open Go.ChangeShapes Go.WideShapes in
theorem digestNil_answers {H : Type} {enc : TypeId × Value → H} (W : World) (base : Nat) (args : Array Value) (ds gs : List (DataW H)) (before : List MemPlace)
    (_ : ∀ (j : Nat) t v, Tryd.f4.params[j]? = some t → args[j]? = some v → Value.okWide Tryd.prog W .any base t v)
    (hW : DataW.Whole enc Tryd.prog Tryd.f4.params.toList Rows.digestNilSpec.vars false W args.toList ds gs before)
    (_ : (DataW.weightsEach Tryd.prog (Tryd.f4.params.toList ++ Rows.digestNilSpec.plain.varTypes Tryd.prog) (ds ++ gs)).all (· ≤ reachBytes) = true)
    (_ : laidMetH Tryd.prog Rows.digestNilRow.laid W) : Answers Tryd.prog 4 args W := by
  obtain ⟨p, q, hA, _, _, _, _⟩ := hW
  rw [Tryd.params4] at hA
  obtain ⟨v0, d0, hv, _, _⟩ := trodAll_one hA
  rw [hv]
  exact digestNil_walk W v0

end Go.Proofs.YtngklnijmhlikaaDoor
