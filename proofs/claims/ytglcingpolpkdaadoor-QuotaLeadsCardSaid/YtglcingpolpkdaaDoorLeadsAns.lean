/- The law's walk serves whatever the arguments are. -/
import Derived.Test.YtglcingpolpkdaaDoorLeads
import Derived.Test.YtglcingpolpkdaaDoorNArgs
namespace Go.Proofs.YtglcingpolpkdaaDoor
open Go.RowKit

set_option maxRecDepth 100000 in
open Go.ChangeShapes Go.WideShapes Go.Deep Go.MakeChecks in
theorem slice_room {H : Type} {enc : TypeId × Value → H} {w : World} {r : Reach} {b0 base : Nat} {sp : Nat → Bool} {held : Bool} {v : Value} {d : DataW H} {ps : List MemPlace} (hv : Value.okWide Tryd.prog w r b0 22 v) (h : DataW.Trod enc Tryd.prog w base sp held 22 v d ps) :
    ∃ a n c, v = .slice a n c ∧ n ≤ c := by
  obtain ⟨ao, len, cap, rfl⟩ := okWide_slice Tryd.underlying22 hv
  obtain ⟨fuel, h⟩ := h
  rcases open_slice Tryd.underlying22 h with ⟨hcs, _⟩ | ⟨a, len', cap', m, n, D, Pl, hcs, _, hl, hm, hmm, hd, hx⟩
  · simp [Value.cells] at hcs
    obtain ⟨rfl, rfl, rfl⟩ := hcs
    exact ⟨_, _, _, rfl, Nat.le_refl _⟩
  · simp [Value.cells] at hcs
    obtain ⟨rfl, rfl, rfl⟩ := hcs
    exact ⟨_, _, _, rfl, hl⟩

set_option maxRecDepth 100000 in
open Go.ChangeShapes Go.WideShapes Go.Deep Go.MakeChecks in
theorem quotaLeads_answers {H : Type} {enc : TypeId × Value → H} (W : World) (base : Nat) (args : Array Value) (ds gs : List (DataW H)) (before : List MemPlace)
    (hval : ∀ (j : Nat) t v, Tryd.f6.params[j]? = some t → args[j]? = some v → Value.okWide Tryd.prog W .any base t v)
    (hW : DataW.Whole enc Tryd.prog Tryd.f6.params.toList Rows.quotaLeadsSpec.vars false W args.toList ds gs before)
    (hsz : (DataW.weightsEach Tryd.prog (Tryd.f6.params.toList ++ Rows.quotaLeadsSpec.plain.varTypes Tryd.prog) (ds ++ gs)).all (· ≤ reachBytes) = true)
    (hL : laidMetH Tryd.prog Rows.quotaLeadsRow.laid W) : Answers Tryd.prog 6 args W := by
  obtain ⟨p, q, hA, _, _, _, _⟩ := hW
  rw [Tryd.params6] at hA hval hsz
  obtain ⟨v0, v1, v2, v3, d0, d1, d2, d3, p0, p1, p2, p3, rfl, rfl, _, h0, h1, h2, h3⟩ := trodAll_four hA
  have hw : ∀ n ∈ d0.weights Tryd.prog 22, n ≤ 140737488355328 := fun n hn => by
    have h := List.all_eq_true.1 hsz n (DataW.weights_mem_each (j := 0) (t := 22) (d := d0) rfl rfl n hn)
    have h2 : n ≤ reachBytes := by simpa using h
    have := reachBytes_lt
    omega
  have hw1 : ∀ n ∈ d1.weights Tryd.prog 22, n ≤ 140737488355328 := fun n hn => by
    have h := List.all_eq_true.1 hsz n (DataW.weights_mem_each (j := 1) (t := 22) (d := d1) rfl rfl n hn)
    have h2 : n ≤ reachBytes := by simpa using h
    have := reachBytes_lt
    omega
  obtain ⟨l, hl, hll, hf⟩ := notes_arg (hval 0 _ v0 rfl rfl) h0 hw
  obtain ⟨m, hm, hml, hmf⟩ := notes_arg (hval 1 _ v1 rfl rfl) h1 hw1
  obtain ⟨a, n, c, rfl, hc⟩ := slice_room (hval 0 _ v0 rfl rfl) h0
  obtain ⟨f, rfl⟩ := okWide_int Tryd.underlying3 (hval 2 _ v2 rfl rfl)
  obtain ⟨t, rfl⟩ := okWide_int Tryd.underlying3 (hval 3 _ v3 rfl rfl)
  obtain ⟨a', c', he⟩ := hl.len
  injection he with he1 he2 he3
  exact quotaLeads_walk W _ v1 l m f t hl hm ⟨a, c, by rw [he2], by omega⟩ hf hmf hll hml (ktab_of hL)

end Go.Proofs.YtglcingpolpkdaaDoor
