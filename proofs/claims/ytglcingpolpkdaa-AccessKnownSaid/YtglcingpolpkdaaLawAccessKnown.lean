/- AccessKnown: for every input the law's call returns true, and leaves every argument as it was. -/
import Derived.Test.YtglcingpolpkdaaAKnownAns
namespace Go.Proofs.Ytglcingpolpkdaa
open Go.ChangeShapes Go.WideShapes Go.ChangeAt Go.WideMaps Go.WideElems Go.RowKit

set_option maxRecDepth 100000 in
theorem accessKnown_lifted (os : Os) (started : os.Started) (H : Type) (enc : TypeId × Value → H) :
    ReturnsInHanded {} Try.checked os 3 .any (Rows.accessKnownSpec.pre6 enc Try.prog Try.f3 [] false) (Rows.accessKnownSpec.post enc Try.prog Try.f3 false true false false) := by
  refine returnsInHanded_of_change_sized (C := Try.checked) own started (by kernel_rfl) Try.func3
    (ChangeSpec.witness6 (enc := enc) (C := Try.checked) false ⟨#[], #[], []⟩ 8 (by kernel_rfl) (by kernel_rfl) (by kernel_rfl) (by kernel_rfl)) ?_
  intro W base args ds gs before hval hW _ hsz _
  exact law_post laidOutP rfl (fun ds h => by
      match ds, h with
      | [], _ => rfl) (params_of 3 Try.f3 Try.params3 (by kernel_rfl)) rfl Try.underlying4 hW (accessKnown_answers W base args ds gs before hval hW hsz)

theorem accessKnown_holds : Rows.AccessKnownSaid :=
  OpenClaim.holds_of_wide 3 Try.f3 rfl rfl rfl rfl rfl rfl rfl ⟨rfl, rfl, rfl, rfl, rfl⟩ rfl rfl rfl rfl rfl (by kernel_rfl) Try.func3 (by kernel_rfl)
    (of_decide_eq_true (by kernel_rfl)) (by unfold Func.isWrapper; first | (rw [if_pos (by decide +kernel)]; kernel_rfl) | (rw [if_neg (by decide +kernel)]; exact ⟨rfl, rfl⟩))
    (fun os started H enc _ => accessKnown_lifted os started H enc)
#print axioms accessKnown_holds
end Go.Proofs.Ytglcingpolpkdaa
