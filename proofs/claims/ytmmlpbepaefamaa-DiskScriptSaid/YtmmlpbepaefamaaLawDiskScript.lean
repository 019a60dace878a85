/- DiskScript: for every input the law's call returns true, and leaves every argument as it was. -/
import Derived.Test.YtmmlpbepaefamaaDScrX2
namespace Go.Proofs.Ytmmlpbepaefamaa
open Go.ChangeShapes Go.WideShapes Go.ChangeAt Go.WideMaps Go.WideElems Go.RowKit

set_option maxRecDepth 100000 in
theorem diskScript_lifted (os : Os) (started : os.Started) (H : Type) (enc : TypeId × Value → H) :
    ReturnsInHanded {} Try.checked os 6 .any (Rows.diskScriptSpec.pre6 enc Try.prog Try.f6 [] false) (Rows.diskScriptSpec.post enc Try.prog Try.f6 false true false false) := by
  refine returnsInHanded_of_change_sized (C := Try.checked) own started (by kernel_rfl) Try.func6
    (ChangeSpec.witness6 (enc := enc) (C := Try.checked) false ⟨#[], #[.slice none 0 0, .slice none 0 0], []⟩ 8 (by kernel_rfl) (by kernel_rfl) (by kernel_rfl) (by kernel_rfl)) ?_
  intro W base args ds gs before hval hW _ hsz _
  exact law_post laidOutP rfl (fun ds h => by
      match ds, h with
      | [d0, d1], _ => rfl) (params_of 6 Try.f6 Try.params6 (by kernel_rfl)) rfl Try.underlying4 hW (diskScript_answers W base args ds gs before hval hW hsz)

theorem diskScript_holds : Rows.DiskScriptSaid :=
  OpenClaim.holds_of_wide 6 Try.f6 rfl rfl rfl rfl rfl rfl rfl ⟨rfl, rfl, rfl, rfl, rfl⟩ rfl rfl rfl rfl rfl (by kernel_rfl) Try.func6 (by kernel_rfl)
    (of_decide_eq_true (by kernel_rfl)) (by unfold Func.isWrapper; first | (rw [if_pos (by decide +kernel)]; kernel_rfl) | (rw [if_neg (by decide +kernel)]; exact ⟨rfl, rfl⟩))
    (fun os started H enc _ => diskScript_lifted os started H enc)
#print axioms diskScript_holds
end Go.Proofs.Ytmmlpbepaefamaa
