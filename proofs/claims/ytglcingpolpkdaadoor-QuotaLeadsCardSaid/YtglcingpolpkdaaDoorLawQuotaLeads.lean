/- QuotaLeads: for every input the law's call returns true, and leaves every argument as it was, where the listed variables start as the program's text lays them. -/
import Derived.Test.YtglcingpolpkdaaDoorLeadsAns
namespace Go.Proofs.YtglcingpolpkdaaDoor
open Go.ChangeShapes Go.WideShapes Go.ChangeAt Go.WideMaps Go.WideElems Go.RowKit

set_option maxRecDepth 100000 in
theorem quotaLeads_lifted (os : Os) (started : os.Started) (H : Type) (enc : TypeId × Value → H) :
    ReturnsInHanded {} Tryd.checked os 6 .any (fun w args => (Rows.quotaLeadsSpec.pre enc Tryd.prog Tryd.f6 [] false w args ∧ laidMetH Tryd.prog Rows.quotaLeadsRow.laid w) ∧ sizedMet enc Tryd.prog Tryd.f6 (OpenSpec.ofChange Rows.quotaLeadsSpec) false w args)
      (Rows.quotaLeadsSpec.post enc Tryd.prog Tryd.f6 false true false false) := by
  refine returnsInHanded_of_change_and (C := Tryd.checked) (X := fun w _ => laidMetH Tryd.prog Rows.quotaLeadsRow.laid w) (fun _ _ _ hh h => h.of_heap hh) own started (by kernel_rfl) Tryd.func6
    (ChangeSpec.witness_shaped (enc := enc) (C := Tryd.checked) (os := os) (X := fun w _ => laidMetH Tryd.prog Rows.quotaLeadsRow.laid w) false (World.doorLaid Tryd.prog 400 os) #[.slice none 0 0, .slice none 0 0, .int .i64 0, .int .i64 0] 8 rfl (World.shaped_of_RefB (by kernel_rfl) (by kernel_rfl)) (by kernel_rfl) (by kernel_rfl) (by kernel_rfl) (laidMetH_of_parts3 (fuel := 8) (laidMet_of_run' 8 (by kernel_rfl) (by kernel_rfl)) (by kernel_rfl) (by kernel_rfl))) ?_
  intro W base args ds gs before hval hW _ hsz hL _
  exact law_post laidOutP rfl (fun ds h => by
      match ds, h with
      | [d0, d1, d2, d3], _ => rfl) (params_of 6 Tryd.f6 Tryd.params6 (by kernel_rfl)) rfl Tryd.underlying4 hW (quotaLeads_answers W base args ds gs before hval hW hsz hL)

theorem quotaLeads_holds : Rows.QuotaLeadsSaid :=
  OpenClaim.holds_of_wide 6 Tryd.f6 rfl rfl rfl rfl rfl rfl rfl ⟨rfl, rfl, rfl, rfl, rfl⟩ rfl rfl rfl rfl rfl (by kernel_rfl) Tryd.func6 (by kernel_rfl)
    (of_decide_eq_true (by kernel_rfl)) (by unfold Func.isWrapper; first | (rw [if_pos (by decide +kernel)]; kernel_rfl) | (rw [if_neg (by decide +kernel)]; exact ⟨rfl, rfl⟩))
    (fun os started H enc _ => quotaLeads_lifted os started H enc)

theorem quotaLeads_card_holds : Rows.QuotaLeadsCardSaid :=
  Claim7.holds_tied_plain_at .later [] [.data] true (true, "fc06d4415265b5b69d777d3aa61596e617f963cd6ea00a4982840c6f7e34a927") false
    quotaLeads_holds (fun _ h => by cases h) (by kernel_rfl) (fun _ h => by cases h) quotaLeads_row_tie rfl ⟨rfl, rfl⟩ (by kernel_rfl) rfl
    (fun f fn hf hfn => by
      obtain rfl : f = 6 := Option.some.inj ((show Tryd.prog.funcNamed "reliquary/reliquarylaw28.QuotaLeads" = some 6 by kernel_rfl).symm.trans hf) |>.symm
      obtain rfl : fn = Tryd.f6 := (Option.some.inj (Tryd.func6.symm.trans hfn)).symm
      exact ⟨by kernel_rfl, fun j t ht => no_stand_in (by kernel_rfl) j t ht⟩)
    (by kernel_rfl)
#print axioms quotaLeads_card_holds
end Go.Proofs.YtglcingpolpkdaaDoor
