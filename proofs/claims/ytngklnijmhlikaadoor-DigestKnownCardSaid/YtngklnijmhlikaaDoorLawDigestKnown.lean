/- DigestKnown: for every input the law's call returns true, and leaves every argument as it was, where the listed variables start as the program's text lays them. -/
import Derived.Test.YtngklnijmhlikaaDoorKnown
namespace Go.Proofs.YtngklnijmhlikaaDoor
open Go.ChangeShapes Go.WideShapes Go.ChangeAt Go.WideMaps Go.WideElems Go.RowKit

set_option maxRecDepth 100000 in
theorem digestKnown_lifted (os : Os) (started : os.Started) (H : Type) (enc : TypeId × Value → H) :
    ReturnsInHanded {} Tryd.checked os 9 .any (fun w args => (Rows.digestKnownSpec.pre enc Tryd.prog Tryd.f9 [] false w args ∧ laidMetH Tryd.prog Rows.digestKnownRow.laid w) ∧ sizedMet enc Tryd.prog Tryd.f9 (OpenSpec.ofChange Rows.digestKnownSpec) false w args)
      (Rows.digestKnownSpec.post enc Tryd.prog Tryd.f9 false true false false) := by
  refine returnsInHanded_of_change_and (C := Tryd.checked) (X := fun w _ => laidMetH Tryd.prog Rows.digestKnownRow.laid w) (fun _ _ _ hh h => h.of_heap hh) own started (by kernel_rfl) Tryd.func9
    (ChangeSpec.witness_shaped (enc := enc) (C := Tryd.checked) (os := os) (X := fun w _ => laidMetH Tryd.prog Rows.digestKnownRow.laid w) false (World.doorLaid Tryd.prog 400 os) #[] 8 rfl (World.shaped_of_RefB (by kernel_rfl) (by kernel_rfl)) (by kernel_rfl) (by kernel_rfl) (by kernel_rfl) (laidMetH_of_parts3 (fuel := 8) (laidMet_of_run' 8 (by kernel_rfl) (by kernel_rfl)) (by kernel_rfl) (by kernel_rfl))) ?_
  intro W base args ds gs before hval hW _ hsz hL _
  exact law_post laidOutP rfl (fun ds h => by
      match ds, h with
      | [], _ => rfl) (params_of 9 Tryd.f9 Tryd.params9 (by kernel_rfl)) rfl Tryd.underlying4 hW (digestKnown_answers W base args ds gs before hval hW hsz hL)

theorem digestKnown_holds : Rows.DigestKnownSaid :=
  OpenClaim.holds_of_wide 9 Tryd.f9 rfl rfl rfl rfl rfl rfl rfl ⟨rfl, rfl, rfl, rfl, rfl⟩ rfl rfl rfl rfl rfl (by kernel_rfl) Tryd.func9 (by kernel_rfl)
    (of_decide_eq_true (by kernel_rfl)) (by unfold Func.isWrapper; first | (rw [if_pos (by decide +kernel)]; kernel_rfl) | (rw [if_neg (by decide +kernel)]; exact ⟨rfl, rfl⟩))
    (fun os started H enc _ => digestKnown_lifted os started H enc)

theorem digestKnown_card_holds : Rows.DigestKnownCardSaid :=
  Claim7.holds_tied_plain_at .later [] [.data] true (true, "8d48d3929de0dcccdd24c410d2d94218c67aac494d91f813fac26cbd44127bcd") false
    digestKnown_holds (fun _ h => by cases h) (by kernel_rfl) (fun _ h => by cases h) digestKnown_row_tie rfl ⟨rfl, rfl⟩ (by kernel_rfl) rfl
    (fun f fn hf hfn => by
      obtain rfl : f = 9 := Option.some.inj ((show Tryd.prog.funcNamed "reliquary/reliquarylaw08.DigestKnown" = some 9 by kernel_rfl).symm.trans hf) |>.symm
      obtain rfl : fn = Tryd.f9 := (Option.some.inj (Tryd.func9.symm.trans hfn)).symm
      exact ⟨by kernel_rfl, fun j t ht => no_stand_in (by kernel_rfl) j t ht⟩)
    (by kernel_rfl)
#print axioms digestKnown_card_holds
end Go.Proofs.YtngklnijmhlikaaDoor
