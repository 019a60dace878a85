/- DiskKnown: for every input the law's call returns true, and leaves every argument as it was. -/
import Derived.Test.YtmmlpbepaefamaaDKnownAns
namespace Go.Proofs.Ytmmlpbepaefamaa
open Go.ChangeShapes Go.WideShapes Go.ChangeAt Go.WideMaps Go.WideElems Go.RowKit

set_option maxRecDepth 100000 in
theorem diskKnown_lifted (os : Os) (started : os.Started) (H : Type) (enc : TypeId × Value → H) :
    ReturnsInHanded {} Try.checked os 4 .any (Rows.diskKnownSpec.pre6 enc Try.prog Try.f4 [] false) (Rows.diskKnownSpec.post enc Try.prog Try.f4 false true false false) := by
  refine returnsInHanded_of_change_sized (C := Try.checked) own started (by kernel_rfl) Try.func4
    (ChangeSpec.witness6 (enc := enc) (C := Try.checked) false ⟨#[], #[], []⟩ 8 (by kernel_rfl) (by kernel_rfl) (by kernel_rfl) (by kernel_rfl)) ?_
  intro W base args ds gs before hval hW _ hsz _
  exact law_post laidOutP rfl (fun ds h => by
      match ds, h with
      | [], _ => rfl) (params_of 4 Try.f4 Try.params4 (by kernel_rfl)) rfl Try.underlying4 hW (diskKnown_answers W base args ds gs before hval hW hsz)

theorem diskKnown_holds : Rows.DiskKnownSaid :=
  OpenClaim.holds_of_wide 4 Try.f4 rfl rfl rfl rfl rfl rfl rfl ⟨rfl, rfl, rfl, rfl, rfl⟩ rfl rfl rfl rfl rfl (by kernel_rfl) Try.func4 (by kernel_rfl)
    (of_decide_eq_true (by kernel_rfl)) (by unfold Func.isWrapper; first | (rw [if_pos (by decide +kernel)]; kernel_rfl) | (rw [if_neg (by decide +kernel)]; exact ⟨rfl, rfl⟩))
    (fun os started H enc _ => diskKnown_lifted os started H enc)
#print axioms diskKnown_holds
end Go.Proofs.Ytmmlpbepaefamaa
