/- The law's walk serves whatever the arguments are. -/
import Derived.Test.YtngklnijmhlikaaDoorScriptWalk
namespace Go.Proofs.YtngklnijmhlikaaDoor
open Go.RowKit

set_option maxRecDepth 100000 in
open Go.ChangeShapes Go.WideShapes in
theorem digestScript_answers {H : Type} {enc : TypeId × Value → H} (W : World) (base : Nat) (args : Array Value) (ds gs : List (DataW H)) (before : List MemPlace)
    (hval : ∀ (j : Nat) t v, Tryd.f5.params[j]? = some t → args[j]? = some v → Value.okWide Tryd.prog W .any base t v)
    (hW : DataW.Whole enc Tryd.prog Tryd.f5.params.toList Rows.digestScriptSpec.vars false W args.toList ds gs before)
    (_ : (DataW.weightsEach Tryd.prog (Tryd.f5.params.toList ++ Rows.digestScriptSpec.plain.varTypes Tryd.prog) (ds ++ gs)).all (· ≤ reachBytes) = true)
    (hL : laidMetH Tryd.prog Rows.digestScriptRow.laid W) : Answers Tryd.prog 5 args W := by
  obtain ⟨p, q, hA, _, _, _, _⟩ := hW
  rw [Tryd.params5] at hA hval
  obtain ⟨v0, d0, rfl, _, h0⟩ := trodAll_one hA
  obtain ⟨acts, ha⟩ := acts_arg (hval 0 _ v0 rfl rfl) h0
  exact digestScript_walk W v0 acts ha (ktab_of hL)

end Go.Proofs.YtngklnijmhlikaaDoor
