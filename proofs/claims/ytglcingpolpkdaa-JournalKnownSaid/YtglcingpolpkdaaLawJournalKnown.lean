/- JournalKnown: for every input the law's call returns true, and leaves every argument as it was. -/
import Derived.Test.YtglcingpolpkdaaJKnownAns
namespace Go.Proofs.Ytglcingpolpkdaa
open Go.ChangeShapes Go.WideShapes Go.ChangeAt Go.WideMaps Go.WideElems Go.RowKit

set_option maxRecDepth 100000 in
theorem journalKnown_lifted (os : Os) (started : os.Started) (H : Type) (enc : TypeId × Value → H) :
    ReturnsInHanded {} Try.checked os 9 .any (Rows.journalKnownSpec.pre6 enc Try.prog Try.f9 [] false) (Rows.journalKnownSpec.post enc Try.prog Try.f9 false true false false) := by
  refine returnsInHanded_of_change_sized (C := Try.checked) own started (by kernel_rfl) Try.func9
    (ChangeSpec.witness6 (enc := enc) (C := Try.checked) false ⟨#[], #[], []⟩ 8 (by kernel_rfl) (by kernel_rfl) (by kernel_rfl) (by kernel_rfl)) ?_
  intro W base args ds gs before hval hW _ hsz _
  exact law_post laidOutP rfl (fun ds h => by
      match ds, h with
      | [], _ => rfl) (params_of 9 Try.f9 Try.params9 (by kernel_rfl)) rfl Try.underlying4 hW (journalKnown_answers W base args ds gs before hval hW hsz)

theorem journalKnown_holds : Rows.JournalKnownSaid :=
  OpenClaim.holds_of_wide 9 Try.f9 rfl rfl rfl rfl rfl rfl rfl ⟨rfl, rfl, rfl, rfl, rfl⟩ rfl rfl rfl rfl rfl (by kernel_rfl) Try.func9 (by kernel_rfl)
    (of_decide_eq_true (by kernel_rfl)) (by unfold Func.isWrapper; first | (rw [if_pos (by decide +kernel)]; kernel_rfl) | (rw [if_neg (by decide +kernel)]; exact ⟨rfl, rfl⟩))
    (fun os started H enc _ => journalKnown_lifted os started H enc)
#print axioms journalKnown_holds
end Go.Proofs.Ytglcingpolpkdaa
