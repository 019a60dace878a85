/- The law's walk serves whatever the arguments are. -/
import Derived.Test.YtmmlpbepaefamaaDKnown
import Derived.Test.YtmmlpbepaefamaaFrameP
import Derived.Test.YtmmlpbepaefamaaShape
namespace Go.Proofs.Ytmmlpbepaefamaa
open Go.RowKit

set_option maxRecDepth 100000 in
open Go.ChangeShapes Go.WideShapes in
theorem diskKnown_answers {H : Type} {enc : TypeId × Value → H} (W : World) (base : Nat) (args : Array Value) (ds gs : List (DataW H)) (before : List MemPlace)
    (_ : ∀ (j : Nat) t v, Try.f4.params[j]? = some t → args[j]? = some v → Value.okWide Try.prog W .any base t v)
    (hW : DataW.Whole enc Try.prog Try.f4.params.toList Rows.diskKnownSpec.vars false W args.toList ds gs before)
    (_ : (DataW.weightsEach Try.prog (Try.f4.params.toList ++ Rows.diskKnownSpec.plain.varTypes Try.prog) (ds ++ gs)).all (· ≤ reachBytes) = true) : Answers Try.prog 4 args W := by
  obtain ⟨p, q, hA, _, _, _, _⟩ := hW
  rw [Try.params4] at hA
  have hargs : args = #[] := by
    have h := (trodAll_nil hA).1
    cases args
    simpa using h
  subst hargs
  exact diskKnown_walk W

end Go.Proofs.Ytmmlpbepaefamaa
