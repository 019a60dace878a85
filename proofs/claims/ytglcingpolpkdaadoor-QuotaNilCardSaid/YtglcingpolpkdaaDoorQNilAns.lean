/- The law's walk serves whatever the arguments are. -/
import Derived.Test.YtglcingpolpkdaaDoorQNilWalk
namespace Go.Proofs.YtglcingpolpkdaaDoor
open Go.RowKit

set_option maxRecDepth 100000 in
open Go.ChangeShapes Go.WideShapes in
theorem quotaNil_answers {H : Type} {enc : TypeId × Value → H} (W : World) (base : Nat) (args : Array Value) (ds gs : List (DataW H)) (before : List MemPlace)
    (hval : ∀ (j : Nat) t v, Tryd.f4.params[j]? = some t → args[j]? = some v → Value.okWide Tryd.prog W .any base t v)
    (hW : DataW.Whole enc Tryd.prog Tryd.f4.params.toList Rows.quotaNilSpec.vars false W args.toList ds gs before)
    (_ : (DataW.weightsEach Tryd.prog (Tryd.f4.params.toList ++ Rows.quotaNilSpec.plain.varTypes Tryd.prog) (ds ++ gs)).all (· ≤ reachBytes) = true)
    (_ : laidMetH Tryd.prog Rows.quotaNilRow.laid W) : Answers Tryd.prog 4 args W := by
  obtain ⟨p, q, hA, _, _, _, _⟩ := hW
  rw [Tryd.params4] at hA hval
  obtain ⟨v0, v1, d0, d1, p0, p1, hv, _, _, _, _⟩ := trodAll_two hA
  rw [hv] at hval ⊢
  obtain ⟨cs, rfl, hn, ht⟩ := struct_typed (n := 6) (ts := [5, 9, 34, 3, 3, 3]) Tryd.underlying52 (by kernel_rfl) (by kernel_rfl) (hval 0 52 v0 rfl rfl)
  obtain ⟨ns, rfl, hn2, _⟩ := struct_cells (n := 6) Tryd.underlying36 (by kernel_rfl) (hval 1 36 v1 rfl rfl)
  match cs, hn, ns, hn2 with
  | [c0, c1, c2, c3, c4, c5], _, [n0, n1, n2, n3, n4, n5], _ =>
    obtain ⟨x, rfl⟩ := cell_string Tryd.underlying9 (ht 1 c1 9 rfl rfl)
    obtain ⟨y, rfl⟩ := cell_int Tryd.underlying34 (ht 2 c2 34 rfl rfl)
    exact quotaNil_walk W c0 c3 c4 c5 n0 n1 n2 n3 n4 n5 x y

end Go.Proofs.YtglcingpolpkdaaDoor
