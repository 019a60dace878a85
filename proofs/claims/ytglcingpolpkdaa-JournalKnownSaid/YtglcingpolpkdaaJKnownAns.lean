/- The law's walk serves whatever the arguments are. -/
import Derived.Test.YtglcingpolpkdaaJKnown
import Derived.Test.YtglcingpolpkdaaFrameP
import Derived.Test.YtglcingpolpkdaaShape
namespace Go.Proofs.Ytglcingpolpkdaa
open Go.RowKit

set_option maxRecDepth 100000 in
open Go.ChangeShapes Go.WideShapes in
theorem journalKnown_answers {H : Type} {enc : TypeId × Value → H} (W : World) (base : Nat) (args : Array Value) (ds gs : List (DataW H)) (before : List MemPlace)
    (_ : ∀ (j : Nat) t v, Try.f9.params[j]? = some t → args[j]? = some v → Value.okWide Try.prog W .any base t v)
    (hW : DataW.Whole enc Try.prog Try.f9.params.toList Rows.journalKnownSpec.vars false W args.toList ds gs before)
    (_ : (DataW.weightsEach Try.prog (Try.f9.params.toList ++ Rows.journalKnownSpec.plain.varTypes Try.prog) (ds ++ gs)).all (· ≤ reachBytes) = true) : Answers Try.prog 9 args W := by
  obtain ⟨p, q, hA, _, _, _, _⟩ := hW
  rw [Try.params9] at hA
  have hargs : args = #[] := by
    have h := (trodAll_nil hA).1
    cases args
    simpa using h
  subst hargs
  exact journalKnown_walk W

end Go.Proofs.Ytglcingpolpkdaa
