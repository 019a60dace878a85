/- Texts that lie in a slice, and lists of them that are the same. -/
import Derived.Test.YtmmlpbepaefamaaKD
namespace Go.Proofs.Ytmmlpbepaefamaa
open Go.RowKit Go.Maps Go.Sort Go.Shelf

/-- Texts lie in a slice. -/
def TxtAt (w : World) (v : Value) (l : List ByteArray) : Prop :=
  (∃ a c, v = .slice a 0 c ∧ l = []) ∨ ∃ b off c, v = .slice (some ⟨b, off, none⟩) l.length c ∧ b < w.heap.size ∧ ∀ j, j < l.length → w.cell? ⟨b, off + j, none⟩ = some (.string (l.getD j ByteArray.empty))
theorem TxtAt.low {w w' : World} {v : Value} {l : List ByteArray} (h : TxtAt w v l) (hb : Below w.heap.size w w') : TxtAt w' v l := by
  rcases h with h | ⟨b, off, c, rfl, hl, hc⟩
  · exact .inl h
  · exact .inr ⟨b, off, c, rfl, Nat.lt_of_lt_of_le hl hb.size, fun j hj => (hb.cell (p := ⟨b, off + j, none⟩) hl).trans (hc j hj)⟩
theorem TxtAt.of_row {w : World} {B : Nat} {v : Value} {ss : List (List UInt8)} (h : w.ownsRow B 9 1 v ss.length (ss.map encStr)) : TxtAt w v (ss.map fun x => ⟨x.toArray⟩) := by
  rcases row_shape h with ⟨rfl, h0⟩ | ⟨g, cap, rfl, _, hg, hc⟩
  · have : ss = [] := List.eq_nil_of_length_eq_zero h0
    subst this
    exact .inl ⟨_, _, rfl, rfl⟩
  · refine .inr ⟨g, 0, cap, by rw [List.length_map], hg, fun j hj => ?_⟩
    rw [List.length_map] at hj
    rw [Nat.zero_add]
    refine (hc j (encStr ss[j]) (by simp [hj])).trans ?_
    simp [hj]
theorem TxtAt.one (w : World) (s : ByteArray) : TxtAt (w.alloc (.cells #[.string s] 9)) (.slice (some ⟨w.heap.size, 0, none⟩) 1 1) [s] := by
  have hW := Whole.new w 9 #[.string s]
  refine .inr ⟨w.heap.size, 0, 1, rfl, hW.lt, fun j hj => ?_⟩
  have : j = 0 := by simp at hj; omega
  subst this
  exact hW.cell 0
theorem TxtAt.slice {w : World} {v : Value} {l : List ByteArray} (h : TxtAt w v l) : ∃ a c, v = .slice a l.length c := by
  rcases h with ⟨a, c, rfl, rfl⟩ | ⟨b, off, c, rfl, _, _⟩
  · exact ⟨a, c, rfl⟩
  · exact ⟨_, c, rfl⟩
theorem TxtAt.at {w : World} {p : Option Addr} {n c k : Nat} {l : List ByteArray} {y : ByteArray} (h : TxtAt w (.slice p n c) l) (hy : l[k]? = some y) : ∃ b off, p = some ⟨b, off, none⟩ ∧ w.cell? ⟨b, off + k, none⟩ = some (.string y) := by
  rcases h with ⟨a, c, he, rfl⟩ | ⟨b, off, c, he, _, hc⟩
  · simp at hy
  · injection he with he _ _
    refine ⟨b, off, he, ?_⟩
    rw [hc k (List.getElem?_eq_some_iff.1 hy).1, List.getD_eq_getElem?_getD, hy]
    rfl

set_option maxRecDepth 100000 in
set_option maxHeartbeats 1000000 in
theorem sametxt_calls (w : World) (u v : Value) (l : List ByteArray) (hu : TxtAt w u l) (hv : TxtAt w v l) (hl : l.length ≤ 1000000) :
    Calls Try.prog 25 #[u, v] w fun e w' => e = .returned (.bool true) ∧ Below w.heap.size w w' := by
  obtain ⟨N, hN⟩ : ∃ N, l.length = N := ⟨_, rfl⟩
  obtain ⟨p, c, hp⟩ := hu.slice
  obtain ⟨p2, c2, hp2⟩ := hv.slice
  rw [hN] at hp hp2 hl
  subst hp hp2
  have HN := Lib.hid hN
  have HU := Lib.hid hu
  have HV := Lib.hid hv
  clear hN hu hv
  go_enter Try.func25, Try.ntmps25
  go_wp2
  go_loopw [5] (fun i wr => ∃ k : Nat, k ≤ N ∧ i = .int .i64 k ∧ Below w.heap.size w wr) (fun i _ => N - (intOf i).toNat)
  case atStart => exact ⟨0, by omega, rfl, Below.refl _ _⟩
  case round =>
    obtain ⟨k, hk, rfl, hB⟩ := hrel
    by_cases hlt : k < N
    · obtain ⟨y, hy⟩ : ∃ y, l[k]? = some y := ⟨_, List.getElem?_eq_getElem (by rw [HN.out]; exact hlt)⟩
      obtain ⟨b, off, rfl, c0⟩ := (HU.out.low hB).at hy
      obtain ⟨b2, off2, rfl, d0⟩ := (HV.out.low hB).at hy
      have i1 : (k : Int) < (N : Int) := by omega
      have i2 : 0 ≤ (k : Int) ∧ (k : Int) < (N : Int) := by omega
      have s2 : IntKind.i64.wrap ((k : Int) + 1) = (k : Int) + 1 := IntWalk.i64_in _ (by omega)
      have hB2 := hB.trans (((Below.refl wr.heap.size wr).drew).mono hB.size)
      clear hy
      go_wp2
      go_still (by kernel_rfl)
      change Exit.then _ _ Exit.normal _ wr.drew
      clear c0 d0
      generalize wr.drew = w2 at hB2 ⊢
      go_wp2
      go_roundw
      case rel => exact ⟨k + 1, by omega, by go_num, hB2⟩
      case measure => simp [intOf]; omega
    · obtain rfl : k = N := by omega
      have i1 : ¬ (k : Int) < (k : Int) := by omega
      go_wp2
      go_ret
      exact ⟨rfl, hB⟩


/-- Bytes of the call's own that the disk does not touch. -/
def Free (w : World) (S : Nat → Prop) (v : Value) (xs : List (BitVec 8)) : Prop := (∃ B, Own w B v xs) ∧ ∀ g, v.ownBlock = some g → ¬ S g
theorem Free.new {w w' : World} {S : Nat → Prop} {v : Value} {xs : List (BitVec 8)} (h : Own w' w.heap.size v xs) (hS : ∀ i, S i → i < w.heap.size) : Free w' S v xs := ⟨⟨_, h⟩, fun g hg e => by
  have h1 := hS g e
  have h2 := own_ge h hg
  omega⟩
theorem Free.low {w w' : World} {S : Nat → Prop} {v : Value} {xs : List (BitVec 8)} (h : Free w S v xs) (hb : Below w.heap.size w w') : Free w' S v xs := by
  obtain ⟨⟨B, h1⟩, h2⟩ := h
  exact ⟨⟨B, row_low h1 hb⟩, h2⟩
theorem Free.on {w w' : World} {S S' : Nat → Prop} {v : Value} {xs : List (BitVec 8)} (h : Free w S v xs) (ho : Only w w' S) (hs : ∀ i, i < w.heap.size → S' i → S i) : Free w' S' v xs := by
  obtain ⟨⟨B, h1⟩, h2⟩ := h
  exact ⟨⟨B, row_only h1 ho h2⟩, fun g hg e => h2 g hg (hs g (row_lt h1 hg) e)⟩
theorem Free.slice {w : World} {S : Nat → Prop} {v : Value} {xs : List (BitVec 8)} (h : Free w S v xs) : SliceIs w v xs := by
  obtain ⟨⟨B, h1⟩, _⟩ := h
  exact Own.slice h1

/-- Texts of the call's own that the disk does not touch. -/
def FreeT (w : World) (S : Nat → Prop) (v : Value) (ss : List (List UInt8)) : Prop := (∃ B, w.ownsRow B 9 1 v ss.length (ss.map encStr)) ∧ ∀ g, v.ownBlock = some g → ¬ S g
theorem FreeT.new {w w' : World} {S : Nat → Prop} {v : Value} {ss : List (List UInt8)} (h : w'.ownsRow w.heap.size 9 1 v ss.length (ss.map encStr)) (hS : ∀ i, S i → i < w.heap.size) : FreeT w' S v ss := ⟨⟨_, h⟩, fun g hg e => by
  have h1 := hS g e
  have h2 := own_ge h hg
  omega⟩
theorem FreeT.low {w w' : World} {S : Nat → Prop} {v : Value} {ss : List (List UInt8)} (h : FreeT w S v ss) (hb : Below w.heap.size w w') : FreeT w' S v ss := by
  obtain ⟨⟨B, h1⟩, h2⟩ := h
  exact ⟨⟨B, row_low h1 hb⟩, h2⟩
theorem FreeT.on {w w' : World} {S S' : Nat → Prop} {v : Value} {ss : List (List UInt8)} (h : FreeT w S v ss) (ho : Only w w' S) (hs : ∀ i, i < w.heap.size → S' i → S i) : FreeT w' S' v ss := by
  obtain ⟨⟨B, h1⟩, h2⟩ := h
  exact ⟨⟨B, row_only h1 ho h2⟩, fun g hg e => h2 g hg (hs g (row_lt h1 hg) e)⟩
theorem FreeT.at {w : World} {S : Nat → Prop} {v : Value} {ss : List (List UInt8)} (h : FreeT w S v ss) : TxtAt w v (ss.map fun x => ⟨x.toArray⟩) := by
  obtain ⟨⟨B, h1⟩, _⟩ := h
  exact TxtAt.of_row h1

end Go.Proofs.Ytmmlpbepaefamaa
