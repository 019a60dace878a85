/- DigestKnown: what the examples are, reckoned. -/
import Derived.Test.YtngklnijmhlikaaDoorTextsWalk
namespace Go.Proofs.YtngklnijmhlikaaDoor
open Go.RowKit

def noneText : List (BitVec 8) := [101#8, 51#8, 98#8, 48#8, 99#8, 52#8, 52#8, 50#8, 57#8, 56#8, 102#8, 99#8, 49#8, 99#8, 49#8, 52#8, 57#8, 97#8, 102#8, 98#8, 102#8, 52#8, 99#8, 56#8, 57#8, 57#8, 54#8, 102#8, 98#8, 57#8, 50#8, 52#8, 50#8, 55#8, 97#8, 101#8, 52#8, 49#8, 101#8, 52#8, 54#8, 52#8, 57#8, 98#8, 57#8, 51#8, 52#8, 99#8, 97#8, 52#8, 57#8, 53#8, 57#8, 57#8, 49#8, 98#8, 55#8, 56#8, 53#8, 50#8, 98#8, 56#8, 53#8, 53#8]
def abcText : List (BitVec 8) := [98#8, 97#8, 55#8, 56#8, 49#8, 54#8, 98#8, 102#8, 56#8, 102#8, 48#8, 49#8, 99#8, 102#8, 101#8, 97#8, 52#8, 49#8, 52#8, 49#8, 52#8, 48#8, 100#8, 101#8, 53#8, 100#8, 97#8, 101#8, 50#8, 50#8, 50#8, 51#8, 98#8, 48#8, 48#8, 51#8, 54#8, 49#8, 97#8, 51#8, 57#8, 54#8, 49#8, 55#8, 55#8, 97#8, 57#8, 99#8, 98#8, 52#8, 49#8, 48#8, 102#8, 102#8, 54#8, 49#8, 102#8, 50#8, 48#8, 48#8, 49#8, 53#8, 97#8, 100#8]
theorem sha_none : hexText (sha []) = noneText := by decide +kernel
theorem sha_abc : hexText (sha [97#8, 98#8, 99#8]) = abcText := by decide +kernel
theorem none_ok : parseOk noneText := by
  unfold parseOk
  decide +kernel
theorem none_back : (List.range 32).map (byteAt noneText) = sha [] := by decide +kernel
theorem join_one : joinBytes [[]] = List.replicate 8 0#8 := by decide +kernel
theorem join_none : joinBytes [] = [] := rfl
theorem short_bad : ¬ parseOk (noneText.drop 1) := fun h => absurd h.1 (by decide)
theorem upper_bad : ¬ parseOk (65#8 :: noneText.drop 1) := fun h => absurd (h.2 0 (by omega)) (by decide)

end Go.Proofs.YtngklnijmhlikaaDoor
