/- The law's walk serves whatever the arguments are. -/
import Derived.Test.YtglcingpolpkdaaDoorNArgs
namespace Go.Proofs.YtglcingpolpkdaaDoor
open Go.RowKit

set_option maxRecDepth 100000 in
open Go.ChangeShapes Go.WideShapes in
theorem quotaTrail_answers {H : Type} {enc : TypeId × Value → H} (W : World) (base : Nat) (args : Array Value) (ds gs : List (DataW H)) (before : List MemPlace)
    (hval : ∀ (j : Nat) t v, Tryd.f3.params[j]? = some t → args[j]? = some v → Value.okWide Tryd.prog W .any base t v)
    (hW : DataW.Whole enc Tryd.prog Tryd.f3.params.toList Rows.quotaTrailSpec.vars false W args.toList ds gs before)
    (hsz : (DataW.weightsEach Tryd.prog (Tryd.f3.params.toList ++ Rows.quotaTrailSpec.plain.varTypes Tryd.prog) (ds ++ gs)).all (· ≤ reachBytes) = true)
    (hL : laidMetH Tryd.prog Rows.quotaTrailRow.laid W) : Answers Tryd.prog 3 args W := by
  obtain ⟨p, q, hA, _, _, _, _⟩ := hW
  rw [Tryd.params3] at hA hval hsz
  obtain ⟨v0, v1, v2, v3, v4, d0, d1, d2, d3, d4, p0, p1, p2, p3, p4, rfl, rfl, h0, h1, h2, h3, h4⟩ := trodAll_five hA
  have hw : ∀ n ∈ d0.weights Tryd.prog 22, n ≤ 140737488355328 := fun n hn => by
    have h := List.all_eq_true.1 hsz n (DataW.weights_mem_each (j := 0) (t := 22) (d := d0) rfl rfl n hn)
    have h2 : n ≤ reachBytes := by simpa using h
    have := reachBytes_lt
    omega
  obtain ⟨l, hl, hll, hf⟩ := notes_arg (hval 0 _ v0 rfl rfl) h0 hw
  obtain ⟨db, rfl, hd⟩ := digest_arg (hval 1 _ v1 rfl rfl) h1
  obtain ⟨dc, rfl, hc⟩ := digest_arg (hval 2 _ v2 rfl rfl) h2
  obtain ⟨f, rfl⟩ := okWide_int Tryd.underlying3 (hval 3 _ v3 rfl rfl)
  obtain ⟨t, rfl⟩ := okWide_int Tryd.underlying3 (hval 4 _ v4 rfl rfl)
  exact quotaTrail_walk W v0 l ⟨db, hd⟩ ⟨dc, hc⟩ f t hl hf hll (ktab_of hL)

end Go.Proofs.YtglcingpolpkdaaDoor
