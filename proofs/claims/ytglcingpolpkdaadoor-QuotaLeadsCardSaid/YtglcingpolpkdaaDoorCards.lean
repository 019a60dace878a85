/-
  DERIVED. GIVEN WITH THE SEED: THE CARDS: each row of YtglcingpolpkdaaDoorRows.lean that lists a variable, with what it lists TIED to the program's text (the seventh form; the later family's looks); each row that meets fmt, with fmt's text TOLD by the authors' own Lean function (tested against real Go, not proved from fmt's source: count such statements apart). THE CARD IS WHAT COUNTS. Prove the row's statement (the work); the ties are given (YtglcingpolpkdaaDoorTie.lean); close each card by the builder's one call (the guide's Derived/Test/ToyasCard.lean, 'card_holds'). Laid BY PROGRAM, IN A SANDBOX (cutbox-door.mjs). By AI agents, Wed Nov 11 2026. No macro, syntax, notation, axiom, sorry.
-/
import Derived.Test.YtglcingpolpkdaaDoorRows
import GoSem.ClaimSeven
namespace Go.Proofs.YtglcingpolpkdaaDoor
namespace Rows

/-- THE TIED CARD OF 'reliquarylaw28.QuotaTrail'. -/
def quotaTrailCard : Claim7 := { stood := { row := quotaTrailRow, standIns := [], harness := (true, "fc06d4415265b5b69d777d3aa61596e617f963cd6ea00a4982840c6f7e34a927"), looks := false }, kinds := [], alts := [], laidByText := true, laidKinds := [.data], laidTests := true, laidLooks := .later }
def QuotaTrailCardSaid : Prop := Claim7.holds Tryd.pinned (.plain (OpenSpec.ofChange quotaTrailSpec)) quotaTrailCard

/-- THE TIED CARD OF 'reliquarylaw28.QuotaNil'. -/
def quotaNilCard : Claim7 := { stood := { row := quotaNilRow, standIns := [], harness := (true, "fc06d4415265b5b69d777d3aa61596e617f963cd6ea00a4982840c6f7e34a927"), looks := false }, kinds := [], alts := [], laidByText := true, laidKinds := [.data], laidTests := true, laidLooks := .later }
def QuotaNilCardSaid : Prop := Claim7.holds Tryd.pinned (.plain (OpenSpec.ofChange quotaNilSpec)) quotaNilCard

/-- THE TIED CARD OF 'reliquarylaw28.QuotaKnown'. -/
def quotaKnownCard : Claim7 := { stood := { row := quotaKnownRow, standIns := [], harness := (true, "fc06d4415265b5b69d777d3aa61596e617f963cd6ea00a4982840c6f7e34a927"), looks := false }, kinds := [], alts := [], laidByText := true, laidKinds := [.data], laidTests := true, laidLooks := .later }
def QuotaKnownCardSaid : Prop := Claim7.holds Tryd.pinned (.plain (OpenSpec.ofChange quotaKnownSpec)) quotaKnownCard

/-- THE TIED CARD OF 'reliquarylaw28.QuotaLeads'. -/
def quotaLeadsCard : Claim7 := { stood := { row := quotaLeadsRow, standIns := [], harness := (true, "fc06d4415265b5b69d777d3aa61596e617f963cd6ea00a4982840c6f7e34a927"), looks := false }, kinds := [], alts := [], laidByText := true, laidKinds := [.data], laidTests := true, laidLooks := .later }
def QuotaLeadsCardSaid : Prop := Claim7.holds Tryd.pinned (.plain (OpenSpec.ofChange quotaLeadsSpec)) quotaLeadsCard

/-- THE SECOND FORM's CARD OF 'reliquarylaw28.QuotaTrail'. -/
def quotaTrailUptoCard : Claim7 := { stood := { row := quotaTrailUptoRow, standIns := [], harness := (true, "fc06d4415265b5b69d777d3aa61596e617f963cd6ea00a4982840c6f7e34a927"), looks := false }, kinds := [], alts := [], laidByText := true, laidKinds := [.data], laidTests := true, laidLooks := .later }
def QuotaTrailUptoCardSaid : Prop := Claim7.holds Tryd.pinned (.plain (OpenSpec.upto quotaTrailSpec)) quotaTrailUptoCard

/-- THE SECOND FORM's CARD OF 'reliquarylaw28.QuotaNil'. -/
def quotaNilUptoCard : Claim7 := { stood := { row := quotaNilUptoRow, standIns := [], harness := (true, "fc06d4415265b5b69d777d3aa61596e617f963cd6ea00a4982840c6f7e34a927"), looks := false }, kinds := [], alts := [], laidByText := true, laidKinds := [.data], laidTests := true, laidLooks := .later }
def QuotaNilUptoCardSaid : Prop := Claim7.holds Tryd.pinned (.plain (OpenSpec.upto quotaNilSpec)) quotaNilUptoCard

/-- THE SECOND FORM's CARD OF 'reliquarylaw28.QuotaKnown'. -/
def quotaKnownUptoCard : Claim7 := { stood := { row := quotaKnownUptoRow, standIns := [], harness := (true, "fc06d4415265b5b69d777d3aa61596e617f963cd6ea00a4982840c6f7e34a927"), looks := false }, kinds := [], alts := [], laidByText := true, laidKinds := [.data], laidTests := true, laidLooks := .later }
def QuotaKnownUptoCardSaid : Prop := Claim7.holds Tryd.pinned (.plain (OpenSpec.upto quotaKnownSpec)) quotaKnownUptoCard

/-- THE SECOND FORM's CARD OF 'reliquarylaw28.QuotaLeads'. -/
def quotaLeadsUptoCard : Claim7 := { stood := { row := quotaLeadsUptoRow, standIns := [], harness := (true, "fc06d4415265b5b69d777d3aa61596e617f963cd6ea00a4982840c6f7e34a927"), looks := false }, kinds := [], alts := [], laidByText := true, laidKinds := [.data], laidTests := true, laidLooks := .later }
def QuotaLeadsUptoCardSaid : Prop := Claim7.holds Tryd.pinned (.plain (OpenSpec.upto quotaLeadsSpec)) quotaLeadsUptoCard
end Rows
end Go.Proofs.YtglcingpolpkdaaDoor
