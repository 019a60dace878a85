/- The law's walk serves whatever the arguments are. -/
import Derived.Test.YtglcingpolpkdaaJNil
namespace Go.Proofs.Ytglcingpolpkdaa
open Go.RowKit

set_option maxRecDepth 100000 in
open Go.ChangeShapes Go.WideShapes in
theorem journalNil_answers {H : Type} {enc : TypeId × Value → H} (W : World) (base : Nat) (args : Array Value) (ds gs : List (DataW H)) (before : List MemPlace)
    (_ : ∀ (j : Nat) t v, Try.f8.params[j]? = some t → args[j]? = some v → Value.okWide Try.prog W .any base t v)
    (hW : DataW.Whole enc Try.prog Try.f8.params.toList Rows.journalNilSpec.vars false W args.toList ds gs before)
    (_ : (DataW.weightsEach Try.prog (Try.f8.params.toList ++ Rows.journalNilSpec.plain.varTypes Try.prog) (ds ++ gs)).all (· ≤ reachBytes) = true) : Answers Try.prog 8 args W := by
  obtain ⟨p, q, hA, _, _, _, _⟩ := hW
  rw [Try.params8] at hA
  obtain ⟨v0, v1, d0, d1, p0, p1, hv, _, _, _, _⟩ := trodAll_two hA
  rw [hv]
  exact journalNil_walk W v0 v1

end Go.Proofs.Ytglcingpolpkdaa
