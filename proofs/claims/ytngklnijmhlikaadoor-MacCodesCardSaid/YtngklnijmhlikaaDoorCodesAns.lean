/- The law's walk serves whatever the arguments are. -/
import Derived.Test.YtngklnijmhlikaaDoorCodesWalk
namespace Go.Proofs.YtngklnijmhlikaaDoor
open Go.RowKit

set_option maxRecDepth 100000 in
open Go.ChangeShapes Go.WideShapes in
theorem macCodes_answers {H : Type} {enc : TypeId × Value → H} (W : World) (base : Nat) (args : Array Value) (ds gs : List (DataW H)) (before : List MemPlace)
    (hval : ∀ (j : Nat) t v, Tryd.f6.params[j]? = some t → args[j]? = some v → Value.okWide Tryd.prog W .any base t v)
    (hW : DataW.Whole enc Tryd.prog Tryd.f6.params.toList Rows.macCodesSpec.vars false W args.toList ds gs before)
    (_ : (DataW.weightsEach Tryd.prog (Tryd.f6.params.toList ++ Rows.macCodesSpec.plain.varTypes Tryd.prog) (ds ++ gs)).all (· ≤ reachBytes) = true)
    (hL : laidMetH Tryd.prog Rows.macCodesRow.laid W) : Answers Tryd.prog 6 args W := by
  obtain ⟨p, q, hA, _, _, _, _⟩ := hW
  rw [Tryd.params6] at hA hval
  obtain ⟨v0, v1, d0, d1, p0, p1, rfl, rfl, _, h0, h1⟩ := trodAll_two hA
  obtain ⟨key, hk, _⟩ := bytes_arg (hval 0 _ v0 rfl rfl) h0
  obtain ⟨b, hb, _⟩ := bytes_arg (hval 1 _ v1 rfl rfl) h1
  exact macCodes_walk W v0 v1 key b hk hb (ktab_of hL)

end Go.Proofs.YtngklnijmhlikaaDoor
