/- Trails: the notes that stay, the heads behind them, and how a trail and the reference's lie in memory. -/
import Derived.Test.YtglcingpolpkdaaDoorNext
import Derived.Test.YtglcingpolpkdaaDoorRefNext
namespace Go.Proofs.YtglcingpolpkdaaDoor
open Go.RowKit

/-- A head: 32 bytes. -/
def Dg : Type := { l : List (BitVec 8) // l.length = 32 }
def zeroG : Dg := ⟨zeroD, by unfold zeroD; simp⟩
def nextG (d : Dg) (n : Nt) : Dg := ⟨nextD d.1 n, nextD_length _ _⟩
/-- What Next answers: a head and a code. -/
def nextE (d : Dg) (n : Nt) : Dg := if nextOk n = true then nextG d n else zeroG
def nextC (n : Nt) : Int := if nextOk n = true then 0 else 2
def Dg.vs (d : Dg) : List Value := d.1.map vu8
theorem Dg.vs_length (d : Dg) : d.vs.length = 32 := by unfold Dg.vs; rw [List.length_map]; exact d.2
theorem zeroG_vs : zeroG.vs = zeroNums .u8 32 := zeroD_cells
theorem Dg.all_one (d : Dg) : d.vs.toArray.all (·.oneCell') = true := all_u8 _
theorem Nt.cells_length (n : Nt) : n.cells.length = 6 := rfl
theorem Nt.all_one (n : Nt) : n.cells.toArray.all (·.oneCell') = true := by simp [Nt.cells, Value.oneCell']

theorem next_dg (w : World) (d : Dg) (n : Nt) (hK : KTab w) :
    Calls Tryd.prog 11 #[.agg d.vs.toArray, .agg n.cells.toArray] w fun e w' => e = .returned (.tuple #[.agg (nextE d n).vs.toArray, .int .i64 (nextC n)]) ∧ Below w.heap.size w w' := by
  refine (next_calls w d.1 n d.2 hK).mono ?_
  rintro e w' ⟨rfl, hB⟩
  refine ⟨?_, hB⟩
  unfold nextE nextC Dg.vs
  by_cases h : nextOk n = true
  · simp only [if_pos h]; rfl
  · simp only [if_neg h]; rfl
theorem refnext_dg (w : World) (d : Dg) (n : Nt) (hK : KTab w) :
    Calls Tryd.prog 12 #[.agg d.vs.toArray, .agg n.cells.toArray] w fun e w' => e = .returned (.tuple #[.agg (nextE d n).vs.toArray, .int .i64 (nextC n)]) ∧ Below w.heap.size w w' := by
  refine (refnext_calls w d.1 n d.2 hK).mono ?_
  rintro e w' ⟨rfl, hB⟩
  refine ⟨?_, hB⟩
  unfold nextE nextC Dg.vs
  by_cases h : nextOk n = true
  · simp only [if_pos h]; rfl
  · simp only [if_neg h]; rfl

/-- A note and the head behind it. -/
def linkCells (p : Nt × Dg) : List Value := p.1.cells ++ p.2.vs
theorem linkCells_length (p : Nt × Dg) : (linkCells p).length = 38 := by
  unfold linkCells
  rw [List.length_append, Dg.vs_length]
  rfl
def links : Dg → List Nt → List (Nt × Dg)
  | _, [] => []
  | d, n :: ns => (n, nextG d n) :: links (nextG d n) ns
theorem links_length : ∀ (d : Dg) (ns : List Nt), (links d ns).length = ns.length
  | _, [] => rfl
  | d, n :: ns => by rw [links, List.length_cons, links_length, List.length_cons]
theorem links_add : ∀ (d : Dg) (ns : List Nt) (n : Nt), links d (ns ++ [n]) = links d ns ++ [(n, nextG (ns.foldl nextG d) n)]
  | _, [], _ => rfl
  | d, m :: ns, n => by rw [List.cons_append, links, links_add, links, List.cons_append, List.foldl_cons]
theorem links_at : ∀ (d : Dg) (ns : List Nt) (i : Nat) (n : Nt), ns[i]? = some n → (links d ns)[i]? = some (n, (ns.take (i + 1)).foldl nextG d)
  | _, [], _, _, h => by simp at h
  | d, m :: ns, 0, n, h => by
    have : m = n := by simpa using h
    subst this
    rfl
  | d, m :: ns, i + 1, n, h => by
    rw [links, List.getElem?_cons_succ, links_at _ ns i n (by simpa using h), List.take_succ_cons, List.foldl_cons]
theorem links_map : ∀ (d : Dg) (ns : List Nt), (links d ns).map (·.1) = ns
  | _, [] => rfl
  | d, n :: ns => by rw [links, List.map_cons, links_map]
/-- The head behind notes. -/
def headG (ns : List Nt) : Dg := ns.foldl nextG zeroG
theorem headG_add (ns : List Nt) (n : Nt) : headG (ns ++ [n]) = nextG (headG ns) n := by
  unfold headG
  rw [List.foldl_append]
  rfl
theorem links_last (ns : List Nt) (n : Nat) (h : ns.length = n + 1) : ∃ x, (links zeroG ns)[n]? = some (x, headG ns) := by
  have hx := List.getElem?_eq_getElem (l := ns) (i := n) (by omega)
  have := links_at zeroG ns n _ hx
  rw [List.take_of_length_le (by omega)] at this
  exact ⟨_, this⟩

/-- A trail: where it lies, its links, all of it newer than W. -/
structure TrP (W w : World) (tb : Nat) (lv : Value) (ns : List Nt) : Prop where
  box : Whole w tb 60 [lv, .bool true]
  row : w.ownsRow W.heap.size 74 38 lv ns.length ((links zeroG ns).flatMap linkCells)
  new : W.heap.size ≤ tb
  below : Below W.heap.size W w
/-- The reference's trail. -/
structure TrR (W w : World) (rb : Nat) (rv : Value) (ns : List Nt) : Prop where
  box : Whole w rb 30 [rv]
  row : w.ownsRow W.heap.size 36 6 rv ns.length (ns.flatMap Nt.cells)
  new : W.heap.size ≤ rb
  below : Below W.heap.size W w
/-- What stands of a trail when only other blocks are written. -/
theorem TrP.on {W w w' : World} {tb : Nat} {lv : Value} {ns : List Nt} (h : TrP W w tb lv ns) (hb : Below w.heap.size w w') : TrP W w' tb lv ns :=
  ⟨h.box.below hb h.box.lt, row_low h.row hb, h.new, h.below.trans (hb.mono h.below.size)⟩
theorem TrR.on {W w w' : World} {rb : Nat} {rv : Value} {ns : List Nt} (h : TrR W w rb rv ns) (hb : Below w.heap.size w w') : TrR W w' rb rv ns :=
  ⟨h.box.below hb h.box.lt, row_low h.row hb, h.new, h.below.trans (hb.mono h.below.size)⟩
theorem TrP.only {W w w' : World} {tb : Nat} {lv : Value} {ns : List Nt} {S : Nat → Prop} (h : TrP W w tb lv ns) (ho : Only w w' S) (h1 : ¬ S tb) (h2 : ∀ g, lv.ownBlock = some g → ¬ S g) (h3 : ∀ i, i < w.heap.size → S i → W.heap.size ≤ i) : TrP W w' tb lv ns :=
  ⟨h.box.only ho h1, row_only h.row ho h2, h.new, h.below.trans (ho.below h.below.size h3)⟩
theorem TrR.only {W w w' : World} {rb : Nat} {rv : Value} {ns : List Nt} {S : Nat → Prop} (h : TrR W w rb rv ns) (ho : Only w w' S) (h1 : ¬ S rb) (h2 : ∀ g, rv.ownBlock = some g → ¬ S g) (h3 : ∀ i, i < w.heap.size → S i → W.heap.size ≤ i) : TrR W w' rb rv ns :=
  ⟨h.box.only ho h1, row_only h.row ho h2, h.new, h.below.trans (ho.below h.below.size h3)⟩
/-- The links' block, and a link's cells. -/
theorem TrP.shape {W w : World} {tb : Nat} {lv : Value} {ns : List Nt} (h : TrP W w tb lv ns) : ∃ p c, lv = .slice p ns.length c := slice_of_row h.row
theorem TrR.shape {W w : World} {rb : Nat} {rv : Value} {ns : List Nt} (h : TrR W w rb rv ns) : ∃ p c, rv = .slice p ns.length c := slice_of_row h.row
theorem TrP.link {W w : World} {tb c i : Nat} {p : Option Addr} {ns : List Nt} (h : TrP W w tb (.slice p ns.length c) ns) {x : Nt × Dg} (hx : (links zeroG ns)[i]? = some x) : ∃ g, p = some ⟨g, 0, none⟩ ∧ w.rangeAt g (i * 38) (linkCells x) := by
  have hr := h.row
  rw [← links_length zeroG ns] at hr
  exact own_at linkCells_length hr hx
theorem TrR.note {W w : World} {rb c i : Nat} {p : Option Addr} {ns : List Nt} (h : TrR W w rb (.slice p ns.length c) ns) {x : Nt} (hx : ns[i]? = some x) : ∃ g, p = some ⟨g, 0, none⟩ ∧ w.rangeAt g (i * 6) x.cells :=
  own_at Nt.cells_length h.row hx

end Go.Proofs.YtglcingpolpkdaaDoor
