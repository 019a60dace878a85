/-
  DERIVED. GIVEN WITH THE SEED: THE CARDS: each row of YtngklnijmhlikaaDoorRows.lean that lists a variable, with what it lists TIED to the program's text (the seventh form; the later family's looks); each row that meets fmt, with fmt's text TOLD by the authors' own Lean function (tested against real Go, not proved from fmt's source: count such statements apart). THE CARD IS WHAT COUNTS. Prove the row's statement (the work); the ties are given (YtngklnijmhlikaaDoorTie.lean); close each card by the builder's one call (the guide's Derived/Test/ToyasCard.lean, 'card_holds'). Laid BY PROGRAM, IN A SANDBOX (cutbox-door.mjs). By AI agents, Wed Nov 11 2026. No macro, syntax, notation, axiom, sorry.
-/
import Derived.Test.YtngklnijmhlikaaDoorRows
import GoSem.ClaimSeven
namespace Go.Proofs.YtngklnijmhlikaaDoor
namespace Rows

/-- THE TIED CARD OF 'reliquarylaw08.DigestSums'. -/
def digestSumsCard : Claim7 := { stood := { row := digestSumsRow, standIns := [], harness := (true, "8d48d3929de0dcccdd24c410d2d94218c67aac494d91f813fac26cbd44127bcd"), looks := false }, kinds := [], alts := [], laidByText := true, laidKinds := [.data], laidTests := true, laidLooks := .later }
def DigestSumsCardSaid : Prop := Claim7.holds Tryd.pinned (.plain (OpenSpec.ofChange digestSumsSpec)) digestSumsCard

/-- THE TIED CARD OF 'reliquarylaw08.DigestNil'. -/
def digestNilCard : Claim7 := { stood := { row := digestNilRow, standIns := [], harness := (true, "8d48d3929de0dcccdd24c410d2d94218c67aac494d91f813fac26cbd44127bcd"), looks := false }, kinds := [], alts := [], laidByText := true, laidKinds := [.data], laidTests := true, laidLooks := .later }
def DigestNilCardSaid : Prop := Claim7.holds Tryd.pinned (.plain (OpenSpec.ofChange digestNilSpec)) digestNilCard

/-- THE TIED CARD OF 'reliquarylaw08.DigestScript'. -/
def digestScriptCard : Claim7 := { stood := { row := digestScriptRow, standIns := [], harness := (true, "8d48d3929de0dcccdd24c410d2d94218c67aac494d91f813fac26cbd44127bcd"), looks := false }, kinds := [], alts := [], laidByText := true, laidKinds := [.data], laidTests := true, laidLooks := .later }
def DigestScriptCardSaid : Prop := Claim7.holds Tryd.pinned (.plain (OpenSpec.ofChange digestScriptSpec)) digestScriptCard

/-- THE TIED CARD OF 'reliquarylaw09.MacCodes'. -/
def macCodesCard : Claim7 := { stood := { row := macCodesRow, standIns := [], harness := (true, "8d48d3929de0dcccdd24c410d2d94218c67aac494d91f813fac26cbd44127bcd"), looks := false }, kinds := [], alts := [], laidByText := true, laidKinds := [.data], laidTests := true, laidLooks := .later }
def MacCodesCardSaid : Prop := Claim7.holds Tryd.pinned (.plain (OpenSpec.ofChange macCodesSpec)) macCodesCard

/-- THE TIED CARD OF 'reliquarylaw08.DigestTexts'. -/
def digestTextsCard : Claim7 := { stood := { row := digestTextsRow, standIns := [], harness := (true, "8d48d3929de0dcccdd24c410d2d94218c67aac494d91f813fac26cbd44127bcd"), looks := false }, kinds := [], alts := [], laidByText := true, laidKinds := [.data], laidTests := true, laidLooks := .later }
def DigestTextsCardSaid : Prop := Claim7.holds Tryd.pinned (.plain (OpenSpec.ofChange digestTextsSpec)) digestTextsCard

/-- THE TIED CARD OF 'reliquarylaw09.MacDerives'. -/
def macDerivesCard : Claim7 := { stood := { row := macDerivesRow, standIns := [], harness := (true, "8d48d3929de0dcccdd24c410d2d94218c67aac494d91f813fac26cbd44127bcd"), looks := false }, kinds := [], alts := [], laidByText := true, laidKinds := [.data], laidTests := true, laidLooks := .later }
def MacDerivesCardSaid : Prop := Claim7.holds Tryd.pinned (.plain (OpenSpec.ofChange macDerivesSpec)) macDerivesCard

/-- THE TIED CARD OF 'reliquarylaw08.DigestKnown'. -/
def digestKnownCard : Claim7 := { stood := { row := digestKnownRow, standIns := [], harness := (true, "8d48d3929de0dcccdd24c410d2d94218c67aac494d91f813fac26cbd44127bcd"), looks := false }, kinds := [], alts := [], laidByText := true, laidKinds := [.data], laidTests := true, laidLooks := .later }
def DigestKnownCardSaid : Prop := Claim7.holds Tryd.pinned (.plain (OpenSpec.ofChange digestKnownSpec)) digestKnownCard

/-- THE TIED CARD OF 'reliquarylaw08.DigestPieces'. -/
def digestPiecesCard : Claim7 := { stood := { row := digestPiecesRow, standIns := [], harness := (true, "8d48d3929de0dcccdd24c410d2d94218c67aac494d91f813fac26cbd44127bcd"), looks := false }, kinds := [], alts := [], laidByText := true, laidKinds := [.data], laidTests := true, laidLooks := .later }
def DigestPiecesCardSaid : Prop := Claim7.holds Tryd.pinned (.plain (OpenSpec.ofChange digestPiecesSpec)) digestPiecesCard

/-- THE TIED CARD OF 'reliquarylaw09.MacKnown'. -/
def macKnownCard : Claim7 := { stood := { row := macKnownRow, standIns := [], harness := (true, "8d48d3929de0dcccdd24c410d2d94218c67aac494d91f813fac26cbd44127bcd"), looks := false }, kinds := [], alts := [], laidByText := true, laidKinds := [.data], laidTests := true, laidLooks := .later }
def MacKnownCardSaid : Prop := Claim7.holds Tryd.pinned (.plain (OpenSpec.ofChange macKnownSpec)) macKnownCard

/-- THE TIED CARD OF 'reliquarylaw09.MacBegins'. -/
def macBeginsCard : Claim7 := { stood := { row := macBeginsRow, standIns := [], harness := (true, "8d48d3929de0dcccdd24c410d2d94218c67aac494d91f813fac26cbd44127bcd"), looks := false }, kinds := [], alts := [], laidByText := true, laidKinds := [.data], laidTests := true, laidLooks := .later }
def MacBeginsCardSaid : Prop := Claim7.holds Tryd.pinned (.plain (OpenSpec.ofChange macBeginsSpec)) macBeginsCard

/-- THE TIED CARD OF 'reliquarylaw28.QuotaTrail'. -/
def quotaTrailCard : Claim7 := { stood := { row := quotaTrailRow, standIns := [], harness := (true, "8d48d3929de0dcccdd24c410d2d94218c67aac494d91f813fac26cbd44127bcd"), looks := false }, kinds := [], alts := [], laidByText := true, laidKinds := [.data], laidTests := true, laidLooks := .later }
def QuotaTrailCardSaid : Prop := Claim7.holds Tryd.pinned (.plain (OpenSpec.ofChange quotaTrailSpec)) quotaTrailCard

/-- THE TIED CARD OF 'reliquarylaw28.QuotaNil'. -/
def quotaNilCard : Claim7 := { stood := { row := quotaNilRow, standIns := [], harness := (true, "8d48d3929de0dcccdd24c410d2d94218c67aac494d91f813fac26cbd44127bcd"), looks := false }, kinds := [], alts := [], laidByText := true, laidKinds := [.data], laidTests := true, laidLooks := .later }
def QuotaNilCardSaid : Prop := Claim7.holds Tryd.pinned (.plain (OpenSpec.ofChange quotaNilSpec)) quotaNilCard

/-- THE TIED CARD OF 'reliquarylaw28.QuotaKnown'. -/
def quotaKnownCard : Claim7 := { stood := { row := quotaKnownRow, standIns := [], harness := (true, "8d48d3929de0dcccdd24c410d2d94218c67aac494d91f813fac26cbd44127bcd"), looks := false }, kinds := [], alts := [], laidByText := true, laidKinds := [.data], laidTests := true, laidLooks := .later }
def QuotaKnownCardSaid : Prop := Claim7.holds Tryd.pinned (.plain (OpenSpec.ofChange quotaKnownSpec)) quotaKnownCard

/-- THE TIED CARD OF 'reliquarylaw28.QuotaLeads'. -/
def quotaLeadsCard : Claim7 := { stood := { row := quotaLeadsRow, standIns := [], harness := (true, "8d48d3929de0dcccdd24c410d2d94218c67aac494d91f813fac26cbd44127bcd"), looks := false }, kinds := [], alts := [], laidByText := true, laidKinds := [.data], laidTests := true, laidLooks := .later }
def QuotaLeadsCardSaid : Prop := Claim7.holds Tryd.pinned (.plain (OpenSpec.ofChange quotaLeadsSpec)) quotaLeadsCard

/-- THE SECOND FORM's CARD OF 'reliquarylaw08.DigestSums'. -/
def digestSumsUptoCard : Claim7 := { stood := { row := digestSumsUptoRow, standIns := [], harness := (true, "8d48d3929de0dcccdd24c410d2d94218c67aac494d91f813fac26cbd44127bcd"), looks := false }, kinds := [], alts := [], laidByText := true, laidKinds := [.data], laidTests := true, laidLooks := .later }
def DigestSumsUptoCardSaid : Prop := Claim7.holds Tryd.pinned (.plain (OpenSpec.upto digestSumsSpec)) digestSumsUptoCard

/-- THE SECOND FORM's CARD OF 'reliquarylaw08.DigestNil'. -/
def digestNilUptoCard : Claim7 := { stood := { row := digestNilUptoRow, standIns := [], harness := (true, "8d48d3929de0dcccdd24c410d2d94218c67aac494d91f813fac26cbd44127bcd"), looks := false }, kinds := [], alts := [], laidByText := true, laidKinds := [.data], laidTests := true, laidLooks := .later }
def DigestNilUptoCardSaid : Prop := Claim7.holds Tryd.pinned (.plain (OpenSpec.upto digestNilSpec)) digestNilUptoCard

/-- THE SECOND FORM's CARD OF 'reliquarylaw08.DigestScript'. -/
def digestScriptUptoCard : Claim7 := { stood := { row := digestScriptUptoRow, standIns := [], harness := (true, "8d48d3929de0dcccdd24c410d2d94218c67aac494d91f813fac26cbd44127bcd"), looks := false }, kinds := [], alts := [], laidByText := true, laidKinds := [.data], laidTests := true, laidLooks := .later }
def DigestScriptUptoCardSaid : Prop := Claim7.holds Tryd.pinned (.plain (OpenSpec.upto digestScriptSpec)) digestScriptUptoCard

/-- THE SECOND FORM's CARD OF 'reliquarylaw09.MacCodes'. -/
def macCodesUptoCard : Claim7 := { stood := { row := macCodesUptoRow, standIns := [], harness := (true, "8d48d3929de0dcccdd24c410d2d94218c67aac494d91f813fac26cbd44127bcd"), looks := false }, kinds := [], alts := [], laidByText := true, laidKinds := [.data], laidTests := true, laidLooks := .later }
def MacCodesUptoCardSaid : Prop := Claim7.holds Tryd.pinned (.plain (OpenSpec.upto macCodesSpec)) macCodesUptoCard

/-- THE SECOND FORM's CARD OF 'reliquarylaw08.DigestTexts'. -/
def digestTextsUptoCard : Claim7 := { stood := { row := digestTextsUptoRow, standIns := [], harness := (true, "8d48d3929de0dcccdd24c410d2d94218c67aac494d91f813fac26cbd44127bcd"), looks := false }, kinds := [], alts := [], laidByText := true, laidKinds := [.data], laidTests := true, laidLooks := .later }
def DigestTextsUptoCardSaid : Prop := Claim7.holds Tryd.pinned (.plain (OpenSpec.upto digestTextsSpec)) digestTextsUptoCard

/-- THE SECOND FORM's CARD OF 'reliquarylaw09.MacDerives'. -/
def macDerivesUptoCard : Claim7 := { stood := { row := macDerivesUptoRow, standIns := [], harness := (true, "8d48d3929de0dcccdd24c410d2d94218c67aac494d91f813fac26cbd44127bcd"), looks := false }, kinds := [], alts := [], laidByText := true, laidKinds := [.data], laidTests := true, laidLooks := .later }
def MacDerivesUptoCardSaid : Prop := Claim7.holds Tryd.pinned (.plain (OpenSpec.upto macDerivesSpec)) macDerivesUptoCard

/-- THE SECOND FORM's CARD OF 'reliquarylaw08.DigestKnown'. -/
def digestKnownUptoCard : Claim7 := { stood := { row := digestKnownUptoRow, standIns := [], harness := (true, "8d48d3929de0dcccdd24c410d2d94218c67aac494d91f813fac26cbd44127bcd"), looks := false }, kinds := [], alts := [], laidByText := true, laidKinds := [.data], laidTests := true, laidLooks := .later }
def DigestKnownUptoCardSaid : Prop := Claim7.holds Tryd.pinned (.plain (OpenSpec.upto digestKnownSpec)) digestKnownUptoCard

/-- THE SECOND FORM's CARD OF 'reliquarylaw08.DigestPieces'. -/
def digestPiecesUptoCard : Claim7 := { stood := { row := digestPiecesUptoRow, standIns := [], harness := (true, "8d48d3929de0dcccdd24c410d2d94218c67aac494d91f813fac26cbd44127bcd"), looks := false }, kinds := [], alts := [], laidByText := true, laidKinds := [.data], laidTests := true, laidLooks := .later }
def DigestPiecesUptoCardSaid : Prop := Claim7.holds Tryd.pinned (.plain (OpenSpec.upto digestPiecesSpec)) digestPiecesUptoCard

/-- THE SECOND FORM's CARD OF 'reliquarylaw09.MacKnown'. -/
def macKnownUptoCard : Claim7 := { stood := { row := macKnownUptoRow, standIns := [], harness := (true, "8d48d3929de0dcccdd24c410d2d94218c67aac494d91f813fac26cbd44127bcd"), looks := false }, kinds := [], alts := [], laidByText := true, laidKinds := [.data], laidTests := true, laidLooks := .later }
def MacKnownUptoCardSaid : Prop := Claim7.holds Tryd.pinned (.plain (OpenSpec.upto macKnownSpec)) macKnownUptoCard

/-- THE SECOND FORM's CARD OF 'reliquarylaw09.MacBegins'. -/
def macBeginsUptoCard : Claim7 := { stood := { row := macBeginsUptoRow, standIns := [], harness := (true, "8d48d3929de0dcccdd24c410d2d94218c67aac494d91f813fac26cbd44127bcd"), looks := false }, kinds := [], alts := [], laidByText := true, laidKinds := [.data], laidTests := true, laidLooks := .later }
def MacBeginsUptoCardSaid : Prop := Claim7.holds Tryd.pinned (.plain (OpenSpec.upto macBeginsSpec)) macBeginsUptoCard

/-- THE SECOND FORM's CARD OF 'reliquarylaw28.QuotaTrail'. -/
def quotaTrailUptoCard : Claim7 := { stood := { row := quotaTrailUptoRow, standIns := [], harness := (true, "8d48d3929de0dcccdd24c410d2d94218c67aac494d91f813fac26cbd44127bcd"), looks := false }, kinds := [], alts := [], laidByText := true, laidKinds := [.data], laidTests := true, laidLooks := .later }
def QuotaTrailUptoCardSaid : Prop := Claim7.holds Tryd.pinned (.plain (OpenSpec.upto quotaTrailSpec)) quotaTrailUptoCard

/-- THE SECOND FORM's CARD OF 'reliquarylaw28.QuotaNil'. -/
def quotaNilUptoCard : Claim7 := { stood := { row := quotaNilUptoRow, standIns := [], harness := (true, "8d48d3929de0dcccdd24c410d2d94218c67aac494d91f813fac26cbd44127bcd"), looks := false }, kinds := [], alts := [], laidByText := true, laidKinds := [.data], laidTests := true, laidLooks := .later }
def QuotaNilUptoCardSaid : Prop := Claim7.holds Tryd.pinned (.plain (OpenSpec.upto quotaNilSpec)) quotaNilUptoCard

/-- THE SECOND FORM's CARD OF 'reliquarylaw28.QuotaKnown'. -/
def quotaKnownUptoCard : Claim7 := { stood := { row := quotaKnownUptoRow, standIns := [], harness := (true, "8d48d3929de0dcccdd24c410d2d94218c67aac494d91f813fac26cbd44127bcd"), looks := false }, kinds := [], alts := [], laidByText := true, laidKinds := [.data], laidTests := true, laidLooks := .later }
def QuotaKnownUptoCardSaid : Prop := Claim7.holds Tryd.pinned (.plain (OpenSpec.upto quotaKnownSpec)) quotaKnownUptoCard

/-- THE SECOND FORM's CARD OF 'reliquarylaw28.QuotaLeads'. -/
def quotaLeadsUptoCard : Claim7 := { stood := { row := quotaLeadsUptoRow, standIns := [], harness := (true, "8d48d3929de0dcccdd24c410d2d94218c67aac494d91f813fac26cbd44127bcd"), looks := false }, kinds := [], alts := [], laidByText := true, laidKinds := [.data], laidTests := true, laidLooks := .later }
def QuotaLeadsUptoCardSaid : Prop := Claim7.holds Tryd.pinned (.plain (OpenSpec.upto quotaLeadsSpec)) quotaLeadsUptoCard
end Rows
end Go.Proofs.YtngklnijmhlikaaDoor
