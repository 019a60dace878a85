/- The law's walk serves whatever the arguments are. -/
import Derived.Test.YtebaikipppflhaaDNil
namespace Go.Proofs.Ytebaikipppflhaa
open Go.RowKit

set_option maxRecDepth 100000 in
open Go.ChangeShapes Go.WideShapes in
theorem diskNil_answers {H : Type} {enc : TypeId × Value → H} (W : World) (base : Nat) (args : Array Value) (ds gs : List (DataW H)) (before : List MemPlace)
    (hval : ∀ (j : Nat) t v, Try.f3.params[j]? = some t → args[j]? = some v → Value.okWide Try.prog W .any base t v)
    (hW : DataW.Whole enc Try.prog Try.f3.params.toList Rows.diskNilSpec.vars false W args.toList ds gs before)
    (_ : (DataW.weightsEach Try.prog (Try.f3.params.toList ++ Rows.diskNilSpec.plain.varTypes Try.prog) (ds ++ gs)).all (· ≤ reachBytes) = true) : Answers Try.prog 3 args W := by
  obtain ⟨p, q, hA, _, _, _, _⟩ := hW
  rw [Try.params3] at hA hval
  obtain ⟨v0, d0, hv, _, _⟩ := trodAll_one hA
  rw [hv] at hval ⊢
  obtain ⟨cs, rfl, hn, _⟩ := struct_cells (n := 6) Try.underlying25 (by kernel_rfl) (hval 0 25 v0 rfl rfl)
  match cs, hn with
  | [c0, c1, c2, c3, c4, c5], _ => exact diskNil_walk W c0 c1 c2 c3 c4 c5

end Go.Proofs.Ytebaikipppflhaa
