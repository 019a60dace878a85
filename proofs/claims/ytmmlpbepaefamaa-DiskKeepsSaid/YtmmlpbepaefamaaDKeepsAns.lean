/- The law's walk serves whatever the arguments are. -/
import Derived.Test.YtmmlpbepaefamaaDKeeps
import Derived.Test.YtmmlpbepaefamaaFrameP
import Derived.Test.YtmmlpbepaefamaaShape
namespace Go.Proofs.Ytmmlpbepaefamaa
open Go.RowKit

set_option maxRecDepth 100000 in
open Go.ChangeShapes Go.WideShapes Go.Deep Go.MakeChecks in
theorem diskKeeps_answers {H : Type} {enc : TypeId × Value → H} (W : World) (base : Nat) (args : Array Value) (ds gs : List (DataW H)) (before : List MemPlace)
    (hval : ∀ (j : Nat) t v, Try.f5.params[j]? = some t → args[j]? = some v → Value.okWide Try.prog W .any base t v)
    (hW : DataW.Whole enc Try.prog Try.f5.params.toList Rows.diskKeepsSpec.vars false W args.toList ds gs before)
    (hsz : (DataW.weightsEach Try.prog (Try.f5.params.toList ++ Rows.diskKeepsSpec.plain.varTypes Try.prog) (ds ++ gs)).all (· ≤ reachBytes) = true) : Answers Try.prog 5 args W := by
  obtain ⟨p, q, hA, _, _, _, _⟩ := hW
  rw [Try.params5] at hA hval hsz
  obtain ⟨v0, v1, v2, v3, d0, d1, d2, d3, p0, p1, p2, p3, rfl, rfl, _, h0, h1, h2, h3⟩ := trodAll_four hA
  have hw : ∀ n ∈ d0.weights Try.prog 22, n ≤ 140737488355328 := fun n hn => by
    have h := List.all_eq_true.1 hsz n (DataW.weights_mem_each (j := 0) (t := 22) (d := d0) rfl rfl n hn)
    have h2 : n ≤ reachBytes := by simpa using h
    have := reachBytes_lt
    omega
  obtain ⟨ls, hs, _, _⟩ := lists_arg_sized (hval 0 _ v0 rfl rfl) h0 hw
  obtain ⟨sy, rfl⟩ := okWide_int Try.underlying3 (hval 1 _ v1 rfl rfl)
  obtain ⟨op, rfl⟩ := okWide_int Try.underlying3 (hval 2 _ v2 rfl rfl)
  obtain ⟨by_, rfl⟩ := okWide_int Try.underlying3 (hval 3 _ v3 rfl rfl)
  exact diskKeeps_walk W v0 ls sy op by_ hs

end Go.Proofs.Ytmmlpbepaefamaa
