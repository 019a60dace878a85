/- Slices of bytes: what stays, and rows that are new. -/
import Derived.Test.YtglcingpolpkdaaDoorDigest
import Derived.Test.YtglcingpolpkdaaDoorRefSum
namespace Go.Proofs.YtglcingpolpkdaaDoor
open Go.RowKit

section
variable {w w' : World} {s : Value} {ys : List (BitVec 8)}
theorem HashIs.low {h : Nat} {m : List (BitVec 8)} (hh : HashIs w h m) (hb : Below w.heap.size w w') : HashIs w' h m := hh.below hb hh.lt
theorem SliceIs.grown {row : Option Nat} (h : SliceIs w s ys) (hg : w.grownBy w' row) (hr : ∀ b o c, s = .slice (some ⟨b, o, none⟩) ys.length c → ys ≠ [] → some b ≠ row) : SliceIs w' s ys := by
  rcases h with h | ⟨b, o, c, rfl, hl, hy⟩
  · exact .inl h
  · by_cases he : ys = []
    · subst he
      exact .inl ⟨rfl, .inr ⟨_, c, rfl⟩⟩
    · exact .inr ⟨b, o, c, rfl, Nat.lt_of_lt_of_le hl hg.size, hy.grown hg hl (hr b o c rfl he)⟩
theorem SliceIs.lt (h : SliceIs w s ys) : ∀ b o c, s = .slice (some ⟨b, o, none⟩) ys.length c → ys ≠ [] → b < w.heap.size := by
  intro b o c e hne
  rcases h with ⟨h, _⟩ | ⟨b', o', c', rfl, hl, _⟩
  · exact absurd h hne
  · cases e
    exact hl
end
theorem BytesAt.row (w : World) (t : TypeId) (ys : List (BitVec 8)) : BytesAt (w.alloc (.cells (ys.map vu8).toArray t)) w.heap.size 0 ys :=
  BytesAt.of_whole (pre := []) (post := []) (t := t) (by
    have := Whole.new w t (ys.map vu8).toArray
    simpa using this) rfl
theorem SliceIs.row (w : World) (t : TypeId) (ys : List (BitVec 8)) (c : Nat) : SliceIs (w.alloc (.cells (ys.map vu8).toArray t)) (.slice (some ⟨w.heap.size, 0, none⟩) ys.length c) ys :=
  .inr ⟨w.heap.size, 0, c, rfl, by simp, BytesAt.row w t ys⟩
theorem SliceIs.cells {w : World} {sl : Value} {ys : List (BitVec 8)} (h : SliceIs w sl ys) : ∃ sp c, sl = .slice sp ys.length c ∧ (0 < ys.length → ∃ ad, sp = some ad ∧ ∀ j v, (ys.map vu8)[j]? = some v → w.cell? (ad.add j) = some v) := by
  rcases h with ⟨rfl, rfl | ⟨ad, c, rfl⟩⟩ | ⟨b, o, c, rfl, _, hb⟩
  · exact ⟨none, 0, rfl, fun h => by simp at h⟩
  · exact ⟨some ad, c, rfl, fun h => by simp at h⟩
  · refine ⟨_, c, rfl, fun _ => ⟨_, rfl, fun j v hv => ?_⟩⟩
    rw [List.getElem?_map] at hv
    rw [Addr.add_lit]
    cases hj : ys[j]? with
    | none => simp [hj] at hv
    | some y =>
      simp [hj] at hv
      rw [← hv]
      exact hb j y hj

end Go.Proofs.YtglcingpolpkdaaDoor
