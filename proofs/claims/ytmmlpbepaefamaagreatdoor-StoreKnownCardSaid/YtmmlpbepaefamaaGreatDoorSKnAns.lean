/- The law's walk serves whatever the arguments are. -/
import Derived.SizedLaws
import Derived.ChangeMaps5
import Derived.Test.YtmmlpbepaefamaaGreatDoorFrame
import Derived.Test.YtmmlpbepaefamaaGreatDoorMemX5
import Derived.Test.YtmmlpbepaefamaaGreatDoorSKcX2
namespace Go.Proofs.YtmmlpbepaefamaaGreatDoor
open Go.RowKit

set_option maxRecDepth 100000 in
open Go.ChangeShapes Go.WideShapes Go.ChangeMaps in
theorem storeKnown_answers {H : Type} {enc : TypeId × Value → H} (W : World) (base : Nat) (args : Array Value) (ds gs : List (DataW H)) (before : List MemPlace)
    (_ : ∀ (j : Nat) t v, Tryz.f3.params[j]? = some t → args[j]? = some v → Value.okWide Tryz.prog W .any base t v)
    (hW : DataW.Whole enc Tryz.prog Tryz.f3.params.toList Rows.storeKnownSpec.vars false W args.toList ds gs before)
    (_ : (DataW.weightsEach Tryz.prog (Tryz.f3.params.toList ++ Rows.storeKnownSpec.plain.varTypes Tryz.prog) (ds ++ gs)).all (· ≤ reachBytes) = true)
    (_ : laidMetH Tryz.prog Rows.storeKnownRow.laid W) : Answers Tryz.prog 3 args W := by
  obtain ⟨p, q, hA, _, _, _, _⟩ := hW
  rw [Tryz.params3] at hA
  have hargs : args = #[] := by
    have h := (trodAll_nil hA).1
    cases args
    simpa using h
  subst hargs
  exact sknown_calls W

end Go.Proofs.YtmmlpbepaefamaaGreatDoor
