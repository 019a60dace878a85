/- The law's walk serves whatever the arguments are. -/
import Derived.Test.YtglcingpolpkdaaARises
namespace Go.Proofs.Ytglcingpolpkdaa
open Go.RowKit

section
open Go.ChangeShapes Go.WideShapes
variable {H : Type} {enc : TypeId × Value → H} {w : World} {base b0 : Nat} {sp : Nat → Bool} {held : Bool} {r : Reach}
set_option maxRecDepth 100000 in
theorem rule_arg {v : Value} {d : DataW H} {ps : List MemPlace} (hv : Value.okWide Try.prog w r b0 29 v) (h : DataW.Trod enc Try.prog w base sp held 29 v d ps) (hw : ∀ n ∈ d.weights Try.prog 29, n ≤ 140737488355328) :
    ∃ a : Rl, v = .agg a.cells.toArray ∧ a.who.size ≤ 140737488355328 ∧ a.key.size ≤ 140737488355328 := by
  obtain ⟨cs, rfl, _⟩ := okWide_struct Try.underlying29 hv
  obtain ⟨fuel, h⟩ := h
  obtain ⟨a, ha, h1, h2⟩ := rule_of_trod h
  refine ⟨a, ?_, hw _ h1, hw _ h2⟩
  rw [← ha]
  rfl
end

set_option maxRecDepth 100000 in
open Go.ChangeShapes Go.WideShapes in
theorem accessRises_answers {H : Type} {enc : TypeId × Value → H} (W : World) (base : Nat) (args : Array Value) (ds gs : List (DataW H)) (before : List MemPlace)
    (hval : ∀ (j : Nat) t v, Try.f5.params[j]? = some t → args[j]? = some v → Value.okWide Try.prog W .any base t v)
    (hW : DataW.Whole enc Try.prog Try.f5.params.toList Rows.accessRisesSpec.vars false W args.toList ds gs before)
    (hsz : (DataW.weightsEach Try.prog (Try.f5.params.toList ++ Rows.accessRisesSpec.plain.varTypes Try.prog) (ds ++ gs)).all (· ≤ reachBytes) = true) : Answers Try.prog 5 args W := by
  obtain ⟨p, q, hA, _, _, _, _⟩ := hW
  rw [Try.params5] at hA hval hsz
  obtain ⟨v0, v1, v2, d0, d1, d2, p0, p1, p2, rfl, rfl, _, h0, h1, h2⟩ := trodAll_three hA
  have hw : ∀ n ∈ d0.weights Try.prog 35, n ≤ 140737488355328 := fun n hn => by
    have h := List.all_eq_true.1 hsz n (DataW.weights_mem_each (j := 0) (t := 35) (d := d0) rfl rfl n hn)
    have h2 : n ≤ reachBytes := by simpa using h
    have := reachBytes_lt
    omega
  have hw1 : ∀ n ∈ d1.weights Try.prog 29, n ≤ 140737488355328 := fun n hn => by
    have h := List.all_eq_true.1 hsz n (DataW.weights_mem_each (j := 1) (t := 29) (d := d1) rfl rfl n hn)
    have h2 : n ≤ reachBytes := by simpa using h
    have := reachBytes_lt
    omega
  have hw2 : ∀ n ∈ d2.weights Try.prog 38, n ≤ 140737488355328 := fun n hn => by
    have h := List.all_eq_true.1 hsz n (DataW.weights_mem_each (j := 2) (t := 38) (d := d2) rfl rfl n hn)
    have h2 : n ≤ reachBytes := by simpa using h
    have := reachBytes_lt
    omega
  obtain ⟨l, hl, hll, hf⟩ := acts_arg (hval 0 _ v0 rfl rfl) h0 hw
  obtain ⟨r, rfl, hr1, hr2⟩ := rule_arg (hval 1 _ v1 rfl rfl) h1 hw1
  obtain ⟨a, rfl, ha⟩ := act_arg (hval 2 _ v2 rfl rfl) h2 hw2
  exact accessRises_walk W v0 l r a hl hll hf ⟨Nat.zero_le _, Nat.zero_le _, Nat.zero_le _, hr1, hr2, Nat.zero_le _⟩ ha

end Go.Proofs.Ytglcingpolpkdaa
