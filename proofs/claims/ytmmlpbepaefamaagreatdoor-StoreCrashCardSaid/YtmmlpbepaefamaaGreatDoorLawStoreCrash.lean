/- StoreCrash: for every input the law's call returns true, and leaves every argument as it was, where the listed variables start as the program's text lays them. -/
import Derived.Test.YtmmlpbepaefamaaGreatDoorSCrAns
namespace Go.Proofs.YtmmlpbepaefamaaGreatDoor
open Go.ChangeShapes Go.WideShapes Go.ChangeAt Go.WideMaps Go.WideElems Go.RowKit

set_option maxRecDepth 100000 in
theorem storeCrash_lifted (os : Os) (started : os.Started) (H : Type) (enc : TypeId × Value → H) :
    ReturnsInHanded {} Tryz.checked os 4 .any (fun w args => (Rows.storeCrashSpec.pre enc Tryz.prog Tryz.f4 [] false w args ∧ laidMetH Tryz.prog Rows.storeCrashRow.laid w) ∧ sizedMet enc Tryz.prog Tryz.f4 (OpenSpec.ofChange Rows.storeCrashSpec) false w args)
      (Rows.storeCrashSpec.post enc Tryz.prog Tryz.f4 false true false false) := by
  refine returnsInHanded_of_change_and (C := Tryz.checked) (X := fun w _ => laidMetH Tryz.prog Rows.storeCrashRow.laid w) (fun _ _ _ hh h => h.of_heap hh) own started (by kernel_rfl) Tryz.func4
    (ChangeSpec.witness_shaped (enc := enc) (C := Tryz.checked) (os := os) (X := fun w _ => laidMetH Tryz.prog Rows.storeCrashRow.laid w) false (World.doorLaid Tryz.prog 400 os) #[.slice none 0 0, .slice none 0 0, .slice none 0 0] 8 rfl (World.shaped_of_RefB (by kernel_rfl) (by kernel_rfl)) (by kernel_rfl) (by kernel_rfl) (by kernel_rfl) (laidMetH_of_parts3 (fuel := 8) (laidMet_of_run' 8 (by kernel_rfl) (by kernel_rfl)) (by kernel_rfl) (by kernel_rfl))) ?_
  intro W base args ds gs before hval hW _ hsz hL _
  exact law_post laidOutP rfl (fun ds h => by
      match ds, h with
      | [d0, d1, d2], _ => rfl) (params_of 4 Tryz.f4 Tryz.params4 (by kernel_rfl)) rfl Tryz.underlying4 hW (storeCrash_answers W base args ds gs before hval hW hsz hL)

theorem storeCrash_holds : Rows.StoreCrashSaid :=
  OpenClaim.holds_of_wide 4 Tryz.f4 rfl rfl rfl rfl rfl rfl rfl ⟨rfl, rfl, rfl, rfl, rfl⟩ rfl rfl rfl rfl rfl (by kernel_rfl) Tryz.func4 (by kernel_rfl)
    (of_decide_eq_true (by kernel_rfl)) (by unfold Func.isWrapper; first | (rw [if_pos (by decide +kernel)]; kernel_rfl) | (rw [if_neg (by decide +kernel)]; exact ⟨rfl, rfl⟩))
    (fun os started H enc _ => storeCrash_lifted os started H enc)

theorem storeCrash_card_holds : Rows.StoreCrashCardSaid :=
  Claim7.holds_tied_plain_at .later [] [.data, .data, .data] true (true, "55619141454f4eb0651598ba3a4d76cf65070e3105d94fb49fa94df6974bcdb0") true
    storeCrash_holds (fun _ h => by cases h) (by kernel_rfl) (fun _ h => by cases h) storeCrash_row_tie rfl ⟨rfl, rfl⟩ (by kernel_rfl) rfl
    (fun f fn hf hfn => by
      obtain rfl : f = 4 := Option.some.inj ((show Tryz.prog.funcNamed "reliquary/reliquarylaw15.StoreCrash" = some 4 by kernel_rfl).symm.trans hf) |>.symm
      obtain rfl : fn = Tryz.f4 := (Option.some.inj (Tryz.func4.symm.trans hfn)).symm
      exact ⟨by kernel_rfl, fun j t ht => no_stand_in (by kernel_rfl) j t ht⟩)
    (by kernel_rfl)
#print axioms storeCrash_card_holds
end Go.Proofs.YtmmlpbepaefamaaGreatDoor
