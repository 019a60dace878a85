/- DigestScript: for every input the law's call returns true, and leaves every argument as it was, where the listed variables start as the program's text lays them. -/
import Derived.Test.YtngklnijmhlikaaDoorScriptAns
namespace Go.Proofs.YtngklnijmhlikaaDoor
open Go.ChangeShapes Go.WideShapes Go.ChangeAt Go.WideMaps Go.WideElems Go.RowKit

set_option maxRecDepth 100000 in
theorem digestScript_lifted (os : Os) (started : os.Started) (H : Type) (enc : TypeId × Value → H) :
    ReturnsInHanded {} Tryd.checked os 5 .any (fun w args => (Rows.digestScriptSpec.pre enc Tryd.prog Tryd.f5 [] false w args ∧ laidMetH Tryd.prog Rows.digestScriptRow.laid w) ∧ sizedMet enc Tryd.prog Tryd.f5 (OpenSpec.ofChange Rows.digestScriptSpec) false w args)
      (Rows.digestScriptSpec.post enc Tryd.prog Tryd.f5 false true false false) := by
  refine returnsInHanded_of_change_and (C := Tryd.checked) (X := fun w _ => laidMetH Tryd.prog Rows.digestScriptRow.laid w) (fun _ _ _ hh h => h.of_heap hh) own started (by kernel_rfl) Tryd.func5
    (ChangeSpec.witness_shaped (enc := enc) (C := Tryd.checked) (os := os) (X := fun w _ => laidMetH Tryd.prog Rows.digestScriptRow.laid w) false (World.doorLaid Tryd.prog 400 os) #[.slice none 0 0] 8 rfl (World.shaped_of_RefB (by kernel_rfl) (by kernel_rfl)) (by kernel_rfl) (by kernel_rfl) (by kernel_rfl) (laidMetH_of_parts3 (fuel := 8) (laidMet_of_run' 8 (by kernel_rfl) (by kernel_rfl)) (by kernel_rfl) (by kernel_rfl))) ?_
  intro W base args ds gs before hval hW _ hsz hL _
  exact law_post laidOutP rfl (fun ds h => by
      match ds, h with
      | [d0], _ => rfl) (params_of 5 Tryd.f5 Tryd.params5 (by kernel_rfl)) rfl Tryd.underlying4 hW (digestScript_answers W base args ds gs before hval hW hsz hL)

theorem digestScript_holds : Rows.DigestScriptSaid :=
  OpenClaim.holds_of_wide 5 Tryd.f5 rfl rfl rfl rfl rfl rfl rfl ⟨rfl, rfl, rfl, rfl, rfl⟩ rfl rfl rfl rfl rfl (by kernel_rfl) Tryd.func5 (by kernel_rfl)
    (of_decide_eq_true (by kernel_rfl)) (by unfold Func.isWrapper; first | (rw [if_pos (by decide +kernel)]; kernel_rfl) | (rw [if_neg (by decide +kernel)]; exact ⟨rfl, rfl⟩))
    (fun os started H enc _ => digestScript_lifted os started H enc)

theorem digestScript_card_holds : Rows.DigestScriptCardSaid :=
  Claim7.holds_tied_plain_at .later [] [.data] true (true, "8d48d3929de0dcccdd24c410d2d94218c67aac494d91f813fac26cbd44127bcd") false
    digestScript_holds (fun _ h => by cases h) (by kernel_rfl) (fun _ h => by cases h) digestScript_row_tie rfl ⟨rfl, rfl⟩ (by kernel_rfl) rfl
    (fun f fn hf hfn => by
      obtain rfl : f = 5 := Option.some.inj ((show Tryd.prog.funcNamed "reliquary/reliquarylaw08.DigestScript" = some 5 by kernel_rfl).symm.trans hf) |>.symm
      obtain rfl : fn = Tryd.f5 := (Option.some.inj (Tryd.func5.symm.trans hfn)).symm
      exact ⟨by kernel_rfl, fun j t ht => no_stand_in (by kernel_rfl) j t ht⟩)
    (by kernel_rfl)
#print axioms digestScript_card_holds
end Go.Proofs.YtngklnijmhlikaaDoor
