/- MacBegins: for every input the law's call returns true, and leaves every argument as it was, where the listed variables start as the program's text lays them. -/
import Derived.Test.YtngklnijmhlikaaDoorBegins
namespace Go.Proofs.YtngklnijmhlikaaDoor
open Go.ChangeShapes Go.WideShapes Go.ChangeAt Go.WideMaps Go.WideElems Go.RowKit

set_option maxRecDepth 100000 in
theorem macBegins_lifted (os : Os) (started : os.Started) (H : Type) (enc : TypeId × Value → H) :
    ReturnsInHanded {} Tryd.checked os 12 .any (fun w args => (Rows.macBeginsSpec.pre enc Tryd.prog Tryd.f12 [] false w args ∧ laidMetH Tryd.prog Rows.macBeginsRow.laid w) ∧ sizedMet enc Tryd.prog Tryd.f12 (OpenSpec.ofChange Rows.macBeginsSpec) false w args)
      (Rows.macBeginsSpec.post enc Tryd.prog Tryd.f12 false true false false) := by
  refine returnsInHanded_of_change_and (C := Tryd.checked) (X := fun w _ => laidMetH Tryd.prog Rows.macBeginsRow.laid w) (fun _ _ _ hh h => h.of_heap hh) own started (by kernel_rfl) Tryd.func12
    (ChangeSpec.witness_shaped (enc := enc) (C := Tryd.checked) (os := os) (X := fun w _ => laidMetH Tryd.prog Rows.macBeginsRow.laid w) false (World.doorLaid Tryd.prog 400 os) #[.slice none 0 0, .slice none 0 0, .int .i64 0, .int .i64 0] 8 rfl (World.shaped_of_RefB (by kernel_rfl) (by kernel_rfl)) (by kernel_rfl) (by kernel_rfl) (by kernel_rfl) (laidMetH_of_parts3 (fuel := 8) (laidMet_of_run' 8 (by kernel_rfl) (by kernel_rfl)) (by kernel_rfl) (by kernel_rfl))) ?_
  intro W base args ds gs before hval hW _ hsz hL _
  exact law_post laidOutP rfl (fun ds h => by
      match ds, h with
      | [d0, d1, d2, d3], _ => rfl) (params_of 12 Tryd.f12 Tryd.params12 (by kernel_rfl)) rfl Tryd.underlying4 hW (macBegins_answers W base args ds gs before hval hW hsz hL)

theorem macBegins_holds : Rows.MacBeginsSaid :=
  OpenClaim.holds_of_wide 12 Tryd.f12 rfl rfl rfl rfl rfl rfl rfl ⟨rfl, rfl, rfl, rfl, rfl⟩ rfl rfl rfl rfl rfl (by kernel_rfl) Tryd.func12 (by kernel_rfl)
    (of_decide_eq_true (by kernel_rfl)) (by unfold Func.isWrapper; first | (rw [if_pos (by decide +kernel)]; kernel_rfl) | (rw [if_neg (by decide +kernel)]; exact ⟨rfl, rfl⟩))
    (fun os started H enc _ => macBegins_lifted os started H enc)

theorem macBegins_card_holds : Rows.MacBeginsCardSaid :=
  Claim7.holds_tied_plain_at .later [] [.data] true (true, "8d48d3929de0dcccdd24c410d2d94218c67aac494d91f813fac26cbd44127bcd") false
    macBegins_holds (fun _ h => by cases h) (by kernel_rfl) (fun _ h => by cases h) macBegins_row_tie rfl ⟨rfl, rfl⟩ (by kernel_rfl) rfl
    (fun f fn hf hfn => by
      obtain rfl : f = 12 := Option.some.inj ((show Tryd.prog.funcNamed "reliquary/reliquarylaw09.MacBegins" = some 12 by kernel_rfl).symm.trans hf) |>.symm
      obtain rfl : fn = Tryd.f12 := (Option.some.inj (Tryd.func12.symm.trans hfn)).symm
      exact ⟨by kernel_rfl, fun j t ht => no_stand_in (by kernel_rfl) j t ht⟩)
    (by kernel_rfl)
#print axioms macBegins_card_holds
end Go.Proofs.YtngklnijmhlikaaDoor
