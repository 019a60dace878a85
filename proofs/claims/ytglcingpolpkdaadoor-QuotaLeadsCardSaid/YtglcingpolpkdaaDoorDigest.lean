/- digest.Sum: the digest of bytes. -/
import Derived.Test.YtglcingpolpkdaaDoorSum
namespace Go.Proofs.YtglcingpolpkdaaDoor
open Go.RowKit

set_option maxHeartbeats 1000000 in
theorem write_empty (w : World) (h : Nat) (m : List (BitVec 8)) (hh : HashIs w h m) (ao : Option Addr) (cap : Nat) :
    Calls Tryd.prog 38 #[.pointer (some ⟨h, 0, none⟩), .slice ao 0 cap] w fun e w' => e = .returned (.int .i64 0) ∧ w = w' := by
  have hm := hh.made
  go_enter Tryd.func38, Tryd.ntmps38
  go_wp2_with (go_at_call 45; refine (none_made _ _ _ hm).mono ?_; rintro e w' ⟨rfl, rfl⟩)
  go_loopw [11] (fun i wr => i = .int .i64 0 ∧ wr = w) (fun _ _ => 0)
  case atStart => exact ⟨rfl, rfl⟩
  case round =>
    obtain ⟨rfl, rfl⟩ := hrel
    go_wp2
    go_ret
    exact ⟨rfl, rfl⟩

theorem write_slice (w : World) (h : Nat) (m bs : List (BitVec 8)) (sl : Value) (hh : HashIs w h m) (hK : KTab w) (h0 : h ≠ 0) (hsz : m.length + bs.length ≤ 4611686018427387904) (hs : SliceIs w sl bs)
    (hne : ∀ b o c, sl = .slice (some ⟨b, o, none⟩) bs.length c → bs ≠ [] → b ≠ h) :
    Calls Tryd.prog 38 #[.pointer (some ⟨h, 0, none⟩), sl] w fun e w' => e = .returned (.int .i64 0) ∧ HashIs w' h (m ++ bs) ∧ w.grownBy w' (some h) := by
  rcases hs with ⟨rfl, rfl | ⟨ad, c, rfl⟩⟩ | ⟨b, o, c, rfl, hbl, hb⟩
  · refine (write_empty w h m hh none 0).mono ?_
    rintro e w' ⟨rfl, rfl⟩
    exact ⟨rfl, by simpa using hh, World.grownBy.refl _ _⟩
  · refine (write_empty w h m hh (some ad) c).mono ?_
    rintro e w' ⟨rfl, rfl⟩
    exact ⟨rfl, by simpa using hh, World.grownBy.refl _ _⟩
  · by_cases he : bs = []
    · subst he
      refine (write_empty w h m hh _ c).mono ?_
      rintro e w' ⟨rfl, rfl⟩
      exact ⟨rfl, by simpa using hh, World.grownBy.refl _ _⟩
    · exact write_hash w h m bs hh hK h0 hsz b o c (hne b o c rfl he) hbl hb

end Go.Proofs.YtglcingpolpkdaaDoor
