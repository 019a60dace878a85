/-
  No cell of these rows narrows 'for every input' (looked for: loops, veiled, ifaces, maps, wideKeys, modest, calm, conditions, laid).
  DERIVED. THE GIVEN ROWS OF THIS SEAT. 9 by the template 'for every input the law returns true; each argument reads behind the call as it read before'; 0 by the template 'total and deterministic' (their statements: YtglcingpolpkdaaTotals.lean).
  GIVEN WITH THE SEED: the statements are not yours to turn. If you find one false, say at which input.
  Laid BY PROGRAM, IN A SANDBOX (cutbox-rows.mjs): the forced cells as the released guide's own fill.sh prints them over the translation 17fff8f0d9366575… (all of the seat's roots in one cut). By AI agents, Wed Nov 11 2026. No macro, syntax, notation, axiom, sorry.
-/
import Derived.Test.YtglcingpolpkdaaChecked
import GoSem.Claim
import GoSem.ClaimJoined
import GoSem.ClaimMapViews
import Derived.JoinedTies
import Derived.KernelRfl
namespace Go.Proofs.Ytglcingpolpkdaa
/- THE CELL 'sum', in the pinned program and in every row, IS THE sha256 OF THE DUMP (.gsa) THAT YtglcingpolpkdaaProg.lean LOADS. Nothing in Lean hashes anything: it is a label: what it is worth is what the hold of that sum in a sandbox is worth. -/
noncomputable def Try.pinned : Pinned := { name := "ytglcingpolpkdaa", sum := "17fff8f0d9366575cf8b7b576fcbd05c42d2b346eb9476af5e07f14798662052", checked := Try.checked }
namespace Rows
def none {H : Type} : Left H := { results := [], args := [] }

/-- 'reliquarylaw27.AccessKnown': WHATEVER THE INPUT: true; the input reads as it did. -/
def accessKnownSpec : ChangeSpec := { name := "accessKnown", fn := fun _ => fun
  | [] => { results := [.lit (.bool true)], args := [] }
  | _ => none }
def accessKnownRow : OpenClaim := { program := "ytglcingpolpkdaa", sum := "17fff8f0d9366575cf8b7b576fcbd05c42d2b346eb9476af5e07f14798662052", func := "reliquary/reliquarylaw27.AccessKnown", spec := "accessKnown", plainKeys := false, apart := false }
def AccessKnownSaid : Prop := accessKnownRow.holds Try.pinned (OpenSpec.ofChange accessKnownSpec)

/-- ITS FALSE NEIGHBOUR: 'it returns false'. Refute it at one input. -/
def accessKnownWrong : ChangeSpec := { name := "accessKnown", fn := fun _ => fun
  | [] => { results := [.lit (.bool false)], args := [] }
  | _ => none }
def AccessKnownWrongFalsely : Prop := accessKnownRow.holds Try.pinned (OpenSpec.ofChange accessKnownWrong)

/-- 'reliquarylaw27.AccessTurned': WHATEVER THE INPUT: true; the input reads as it did. -/
def accessTurnedSpec : ChangeSpec := { name := "accessTurned", fn := fun _ => fun
  | [d1, d2, d3] => { results := [.lit (.bool true)], args := [d1, d2, d3] }
  | _ => none }
def accessTurnedRow : OpenClaim := { program := "ytglcingpolpkdaa", sum := "17fff8f0d9366575cf8b7b576fcbd05c42d2b346eb9476af5e07f14798662052", func := "reliquary/reliquarylaw27.AccessTurned", spec := "accessTurned", unfollowed := true, recurses := true, plainKeys := false, apart := false }
def AccessTurnedSaid : Prop := accessTurnedRow.holds Try.pinned (OpenSpec.ofChange accessTurnedSpec)

/-- ITS FALSE NEIGHBOUR: 'it returns false'. Refute it at one input. -/
def accessTurnedWrong : ChangeSpec := { name := "accessTurned", fn := fun _ => fun
  | [d1, d2, d3] => { results := [.lit (.bool false)], args := [d1, d2, d3] }
  | _ => none }
def AccessTurnedWrongFalsely : Prop := accessTurnedRow.holds Try.pinned (OpenSpec.ofChange accessTurnedWrong)

/-- 'reliquarylaw27.AccessRises': WHATEVER THE INPUT: true; the input reads as it did. -/
def accessRisesSpec : ChangeSpec := { name := "accessRises", fn := fun _ => fun
  | [d1, d2, d3] => { results := [.lit (.bool true)], args := [d1, d2, d3] }
  | _ => none }
def accessRisesRow : OpenClaim := { program := "ytglcingpolpkdaa", sum := "17fff8f0d9366575cf8b7b576fcbd05c42d2b346eb9476af5e07f14798662052", func := "reliquary/reliquarylaw27.AccessRises", spec := "accessRises", unfollowed := true, recurses := true, plainKeys := false, apart := false }
def AccessRisesSaid : Prop := accessRisesRow.holds Try.pinned (OpenSpec.ofChange accessRisesSpec)

/-- ITS FALSE NEIGHBOUR: 'it returns false'. Refute it at one input. -/
def accessRisesWrong : ChangeSpec := { name := "accessRises", fn := fun _ => fun
  | [d1, d2, d3] => { results := [.lit (.bool false)], args := [d1, d2, d3] }
  | _ => none }
def AccessRisesWrongFalsely : Prop := accessRisesRow.holds Try.pinned (OpenSpec.ofChange accessRisesWrong)

/-- 'reliquarylaw27.AccessNil': WHATEVER THE INPUT: true; the input reads as it did. -/
def accessNilSpec : ChangeSpec := { name := "accessNil", fn := fun _ => fun
  | [d] => { results := [.lit (.bool true)], args := [d] }
  | _ => none }
def accessNilRow : OpenClaim := { program := "ytglcingpolpkdaa", sum := "17fff8f0d9366575cf8b7b576fcbd05c42d2b346eb9476af5e07f14798662052", func := "reliquary/reliquarylaw27.AccessNil", spec := "accessNil", unfollowed := true, recurses := true, plainKeys := false, apart := false }
def AccessNilSaid : Prop := accessNilRow.holds Try.pinned (OpenSpec.ofChange accessNilSpec)

/-- ITS FALSE NEIGHBOUR: 'it returns false'. Refute it at one input. -/
def accessNilWrong : ChangeSpec := { name := "accessNil", fn := fun _ => fun
  | [d] => { results := [.lit (.bool false)], args := [d] }
  | _ => none }
def AccessNilWrongFalsely : Prop := accessNilRow.holds Try.pinned (OpenSpec.ofChange accessNilWrong)

/-- 'reliquarylaw27.AccessScript': WHATEVER THE INPUT: true; the input reads as it did. -/
def accessScriptSpec : ChangeSpec := { name := "accessScript", fn := fun _ => fun
  | [d] => { results := [.lit (.bool true)], args := [d] }
  | _ => none }
def accessScriptRow : OpenClaim := { program := "ytglcingpolpkdaa", sum := "17fff8f0d9366575cf8b7b576fcbd05c42d2b346eb9476af5e07f14798662052", func := "reliquary/reliquarylaw27.AccessScript", spec := "accessScript", unfollowed := true, recurses := true, plainKeys := false, apart := false }
def AccessScriptSaid : Prop := accessScriptRow.holds Try.pinned (OpenSpec.ofChange accessScriptSpec)

/-- ITS FALSE NEIGHBOUR: 'it returns false'. Refute it at one input. -/
def accessScriptWrong : ChangeSpec := { name := "accessScript", fn := fun _ => fun
  | [d] => { results := [.lit (.bool false)], args := [d] }
  | _ => none }
def AccessScriptWrongFalsely : Prop := accessScriptRow.holds Try.pinned (OpenSpec.ofChange accessScriptWrong)

/-- 'reliquarylaw14.JournalNil': WHATEVER THE INPUT: true; the input reads as it did. -/
def journalNilSpec : ChangeSpec := { name := "journalNil", fn := fun _ => fun
  | [d1, d2] => { results := [.lit (.bool true)], args := [d1, d2] }
  | _ => none }
def journalNilRow : OpenClaim := { program := "ytglcingpolpkdaa", sum := "17fff8f0d9366575cf8b7b576fcbd05c42d2b346eb9476af5e07f14798662052", func := "reliquary/reliquarylaw14.JournalNil", spec := "journalNil", plainKeys := false, apart := false }
def JournalNilSaid : Prop := journalNilRow.holds Try.pinned (OpenSpec.ofChange journalNilSpec)

/-- ITS FALSE NEIGHBOUR: 'it returns false'. Refute it at one input. -/
def journalNilWrong : ChangeSpec := { name := "journalNil", fn := fun _ => fun
  | [d1, d2] => { results := [.lit (.bool false)], args := [d1, d2] }
  | _ => none }
def JournalNilWrongFalsely : Prop := journalNilRow.holds Try.pinned (OpenSpec.ofChange journalNilWrong)

/-- 'reliquarylaw14.JournalKnown': WHATEVER THE INPUT: true; the input reads as it did. -/
def journalKnownSpec : ChangeSpec := { name := "journalKnown", fn := fun _ => fun
  | [] => { results := [.lit (.bool true)], args := [] }
  | _ => none }
def journalKnownRow : OpenClaim := { program := "ytglcingpolpkdaa", sum := "17fff8f0d9366575cf8b7b576fcbd05c42d2b346eb9476af5e07f14798662052", func := "reliquary/reliquarylaw14.JournalKnown", spec := "journalKnown", plainKeys := false, apart := false }
def JournalKnownSaid : Prop := journalKnownRow.holds Try.pinned (OpenSpec.ofChange journalKnownSpec)

/-- ITS FALSE NEIGHBOUR: 'it returns false'. Refute it at one input. -/
def journalKnownWrong : ChangeSpec := { name := "journalKnown", fn := fun _ => fun
  | [] => { results := [.lit (.bool false)], args := [] }
  | _ => none }
def JournalKnownWrongFalsely : Prop := journalKnownRow.holds Try.pinned (OpenSpec.ofChange journalKnownWrong)

/-- 'reliquarylaw14.JournalBack': WHATEVER THE INPUT: true; the input reads as it did. -/
def journalBackSpec : ChangeSpec := { name := "journalBack", fn := fun _ => fun
  | [d1, d2, d3, d4] => { results := [.lit (.bool true)], args := [d1, d2, d3, d4] }
  | _ => none }
def journalBackRow : OpenClaim := { program := "ytglcingpolpkdaa", sum := "17fff8f0d9366575cf8b7b576fcbd05c42d2b346eb9476af5e07f14798662052", func := "reliquary/reliquarylaw14.JournalBack", spec := "journalBack", plainKeys := false, apart := false }
def JournalBackSaid : Prop := journalBackRow.holds Try.pinned (OpenSpec.ofChange journalBackSpec)

/-- ITS FALSE NEIGHBOUR: 'it returns false'. Refute it at one input. -/
def journalBackWrong : ChangeSpec := { name := "journalBack", fn := fun _ => fun
  | [d1, d2, d3, d4] => { results := [.lit (.bool false)], args := [d1, d2, d3, d4] }
  | _ => none }
def JournalBackWrongFalsely : Prop := journalBackRow.holds Try.pinned (OpenSpec.ofChange journalBackWrong)

/-- 'reliquarylaw14.JournalCrash': WHATEVER THE INPUT: true; the input reads as it did. -/
def journalCrashSpec : ChangeSpec := { name := "journalCrash", fn := fun _ => fun
  | [d1, d2, d3, d4] => { results := [.lit (.bool true)], args := [d1, d2, d3, d4] }
  | _ => none }
def journalCrashRow : OpenClaim := { program := "ytglcingpolpkdaa", sum := "17fff8f0d9366575cf8b7b576fcbd05c42d2b346eb9476af5e07f14798662052", func := "reliquary/reliquarylaw14.JournalCrash", spec := "journalCrash", unfollowed := true, recurses := true, plainKeys := false, apart := false }
def JournalCrashSaid : Prop := journalCrashRow.holds Try.pinned (OpenSpec.ofChange journalCrashSpec)

/-- ITS FALSE NEIGHBOUR: 'it returns false'. Refute it at one input. -/
def journalCrashWrong : ChangeSpec := { name := "journalCrash", fn := fun _ => fun
  | [d1, d2, d3, d4] => { results := [.lit (.bool false)], args := [d1, d2, d3, d4] }
  | _ => none }
def JournalCrashWrongFalsely : Prop := journalCrashRow.holds Try.pinned (OpenSpec.ofChange journalCrashWrong)

/- THE SECOND FORM. 'bulk': how many values and letters a reading holds, each counted each time it is reached (what is shared counts as often as it is met; a slice's spare places count too). A statement '..UptoSaid' is the law's where the arguments, and the package variables that the reading takes, are together of bulk at most 1048576: NARROWER than '..Said'. Prove '..Said' where nothing that the law and all that it calls make is longer than what came in: it says more and counts as full. Else prove '..UptoSaid'. A law counts once. -/
mutual
def uptoBulk {H : Type} : DataW H → Nat
  | .lit (.string bytes) => bytes.length + 1
  | .lit _ => 1
  | .nil => 1
  | .ptr d => uptoBulk d + 1
  | .slice elems spare => uptoBulkAll elems + uptoBulkAll spare + 1
  | .agg parts => uptoBulkAll parts + 1
  | .iface _ d => uptoBulk d + 1
  | .map entries => uptoBulkEntries entries + 1
  | .held _ => 1
def uptoBulkAll {H : Type} : List (DataW H) → Nat
  | [] => 0
  | d :: r => uptoBulk d + uptoBulkAll r
def uptoBulkEntries {H : Type} : List (Lit × DataW H) → Nat
  | [] => 0
  | x :: r => uptoBulkEntry x + uptoBulkEntries r
def uptoBulkEntry {H : Type} : Lit × DataW H → Nat
  | (.string bytes, d) => bytes.length + uptoBulk d + 1
  | (_, d) => uptoBulk d + 1
 end
def uptoSmall : (H : Type) → List (DataW H) → Bool := fun _ ds => decide (uptoBulkAll ds ≤ 1048576)
def OpenSpec.upto (s : _root_.Go.ChangeSpec) : _root_.Go.OpenSpec := { _root_.Go.OpenSpec.ofChange s with cond := some uptoSmall }

/-- 'reliquarylaw27.AccessKnown', WHERE WHAT IT READS IS OF BULK AT MOST 1048576: true; the input reads as it did. -/
def accessKnownUptoRow : OpenClaim := { program := "ytglcingpolpkdaa", sum := "17fff8f0d9366575cf8b7b576fcbd05c42d2b346eb9476af5e07f14798662052", func := "reliquary/reliquarylaw27.AccessKnown", spec := "accessKnown", plainKeys := false, apart := false, narrowed := true }
def AccessKnownUptoSaid : Prop := accessKnownUptoRow.holds Try.pinned (OpenSpec.upto accessKnownSpec)

/-- 'reliquarylaw27.AccessTurned', WHERE WHAT IT READS IS OF BULK AT MOST 1048576: true; the input reads as it did. -/
def accessTurnedUptoRow : OpenClaim := { program := "ytglcingpolpkdaa", sum := "17fff8f0d9366575cf8b7b576fcbd05c42d2b346eb9476af5e07f14798662052", func := "reliquary/reliquarylaw27.AccessTurned", spec := "accessTurned", unfollowed := true, recurses := true, plainKeys := false, apart := false, narrowed := true }
def AccessTurnedUptoSaid : Prop := accessTurnedUptoRow.holds Try.pinned (OpenSpec.upto accessTurnedSpec)

/-- 'reliquarylaw27.AccessRises', WHERE WHAT IT READS IS OF BULK AT MOST 1048576: true; the input reads as it did. -/
def accessRisesUptoRow : OpenClaim := { program := "ytglcingpolpkdaa", sum := "17fff8f0d9366575cf8b7b576fcbd05c42d2b346eb9476af5e07f14798662052", func := "reliquary/reliquarylaw27.AccessRises", spec := "accessRises", unfollowed := true, recurses := true, plainKeys := false, apart := false, narrowed := true }
def AccessRisesUptoSaid : Prop := accessRisesUptoRow.holds Try.pinned (OpenSpec.upto accessRisesSpec)

/-- 'reliquarylaw27.AccessNil', WHERE WHAT IT READS IS OF BULK AT MOST 1048576: true; the input reads as it did. -/
def accessNilUptoRow : OpenClaim := { program := "ytglcingpolpkdaa", sum := "17fff8f0d9366575cf8b7b576fcbd05c42d2b346eb9476af5e07f14798662052", func := "reliquary/reliquarylaw27.AccessNil", spec := "accessNil", unfollowed := true, recurses := true, plainKeys := false, apart := false, narrowed := true }
def AccessNilUptoSaid : Prop := accessNilUptoRow.holds Try.pinned (OpenSpec.upto accessNilSpec)

/-- 'reliquarylaw27.AccessScript', WHERE WHAT IT READS IS OF BULK AT MOST 1048576: true; the input reads as it did. -/
def accessScriptUptoRow : OpenClaim := { program := "ytglcingpolpkdaa", sum := "17fff8f0d9366575cf8b7b576fcbd05c42d2b346eb9476af5e07f14798662052", func := "reliquary/reliquarylaw27.AccessScript", spec := "accessScript", unfollowed := true, recurses := true, plainKeys := false, apart := false, narrowed := true }
def AccessScriptUptoSaid : Prop := accessScriptUptoRow.holds Try.pinned (OpenSpec.upto accessScriptSpec)

/-- 'reliquarylaw14.JournalNil', WHERE WHAT IT READS IS OF BULK AT MOST 1048576: true; the input reads as it did. -/
def journalNilUptoRow : OpenClaim := { program := "ytglcingpolpkdaa", sum := "17fff8f0d9366575cf8b7b576fcbd05c42d2b346eb9476af5e07f14798662052", func := "reliquary/reliquarylaw14.JournalNil", spec := "journalNil", plainKeys := false, apart := false, narrowed := true }
def JournalNilUptoSaid : Prop := journalNilUptoRow.holds Try.pinned (OpenSpec.upto journalNilSpec)

/-- 'reliquarylaw14.JournalKnown', WHERE WHAT IT READS IS OF BULK AT MOST 1048576: true; the input reads as it did. -/
def journalKnownUptoRow : OpenClaim := { program := "ytglcingpolpkdaa", sum := "17fff8f0d9366575cf8b7b576fcbd05c42d2b346eb9476af5e07f14798662052", func := "reliquary/reliquarylaw14.JournalKnown", spec := "journalKnown", plainKeys := false, apart := false, narrowed := true }
def JournalKnownUptoSaid : Prop := journalKnownUptoRow.holds Try.pinned (OpenSpec.upto journalKnownSpec)

/-- 'reliquarylaw14.JournalBack', WHERE WHAT IT READS IS OF BULK AT MOST 1048576: true; the input reads as it did. -/
def journalBackUptoRow : OpenClaim := { program := "ytglcingpolpkdaa", sum := "17fff8f0d9366575cf8b7b576fcbd05c42d2b346eb9476af5e07f14798662052", func := "reliquary/reliquarylaw14.JournalBack", spec := "journalBack", plainKeys := false, apart := false, narrowed := true }
def JournalBackUptoSaid : Prop := journalBackUptoRow.holds Try.pinned (OpenSpec.upto journalBackSpec)

/-- 'reliquarylaw14.JournalCrash', WHERE WHAT IT READS IS OF BULK AT MOST 1048576: true; the input reads as it did. -/
def journalCrashUptoRow : OpenClaim := { program := "ytglcingpolpkdaa", sum := "17fff8f0d9366575cf8b7b576fcbd05c42d2b346eb9476af5e07f14798662052", func := "reliquary/reliquarylaw14.JournalCrash", spec := "journalCrash", unfollowed := true, recurses := true, plainKeys := false, apart := false, narrowed := true }
def JournalCrashUptoSaid : Prop := journalCrashUptoRow.holds Try.pinned (OpenSpec.upto journalCrashSpec)

end Rows
end Go.Proofs.Ytglcingpolpkdaa
