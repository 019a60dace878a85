/- The law's walk serves whatever the arguments are. -/
import Derived.Test.YtebaikipppflhaaGreatDoorSNil
import Derived.SizedLaws
import Derived.ChangeMaps5
namespace Go.Proofs.YtebaikipppflhaaGreatDoor
open Go.RowKit

set_option maxRecDepth 100000 in
open Go.ChangeShapes Go.WideShapes Go.ChangeMaps in
theorem storeNil_answers {H : Type} {enc : TypeId × Value → H} (W : World) (base : Nat) (args : Array Value) (ds gs : List (DataW H)) (before : List MemPlace)
    (hval : ∀ (j : Nat) t v, Tryz.f3.params[j]? = some t → args[j]? = some v → Value.okWide Tryz.prog W .any base t v)
    (hW : DataW.Whole enc Tryz.prog Tryz.f3.params.toList Rows.storeNilSpec.vars false W args.toList ds gs before)
    (hsz : (DataW.weightsEach Tryz.prog (Tryz.f3.params.toList ++ Rows.storeNilSpec.plain.varTypes Tryz.prog) (ds ++ gs)).all (· ≤ reachBytes) = true)
    (_ : laidMetH Tryz.prog Rows.storeNilRow.laid W) : Answers Tryz.prog 3 args W := by
  obtain ⟨p, q, hA, _, _, _, _⟩ := hW
  rw [Tryz.params3] at hA hval
  obtain ⟨v0, v1, v2, d0, d1, d2, p0, p1, p2, hv, rfl, _, h0, _, _⟩ := trodAll_three hA
  rw [hv] at hval ⊢
  rw [Tryz.params3] at hsz
  obtain ⟨x, rfl, rfl, _, _⟩ := open_string Tryz.underlying9 (hval 0 9 v0 rfl rfl) h0
  have hl := sized_string hsz (j := 0) (t := 9) (bytes := x.data.toList) rfl rfl
  have hR := reachBytes_lt
  exact storeNil_walk W x v1 v2 (by simpa using Nat.le_trans hl (by omega))

end Go.Proofs.YtebaikipppflhaaGreatDoor
