/- The law's walk serves whatever the arguments are. -/
import Derived.Test.YtglcingpolpkdaaDoorQKnown
import Derived.Test.YtglcingpolpkdaaDoorArgs
namespace Go.Proofs.YtglcingpolpkdaaDoor
open Go.RowKit

set_option maxRecDepth 100000 in
open Go.ChangeShapes Go.WideShapes in
theorem quotaKnown_answers {H : Type} {enc : TypeId × Value → H} (W : World) (base : Nat) (args : Array Value) (ds gs : List (DataW H)) (before : List MemPlace)
    (_ : ∀ (j : Nat) t v, Tryd.f5.params[j]? = some t → args[j]? = some v → Value.okWide Tryd.prog W .any base t v)
    (hW : DataW.Whole enc Tryd.prog Tryd.f5.params.toList Rows.quotaKnownSpec.vars false W args.toList ds gs before)
    (_ : (DataW.weightsEach Tryd.prog (Tryd.f5.params.toList ++ Rows.quotaKnownSpec.plain.varTypes Tryd.prog) (ds ++ gs)).all (· ≤ reachBytes) = true)
    (hL : laidMetH Tryd.prog Rows.quotaKnownRow.laid W) : Answers Tryd.prog 5 args W := by
  obtain ⟨p, q, hA, _, _, _, _⟩ := hW
  rw [Tryd.params5] at hA
  have hargs : args = #[] := by
    have h := (trodAll_nil hA).1
    cases args
    simpa using h
  subst hargs
  exact quotaKnown_walk W (ktab_of hL)

end Go.Proofs.YtglcingpolpkdaaDoor
