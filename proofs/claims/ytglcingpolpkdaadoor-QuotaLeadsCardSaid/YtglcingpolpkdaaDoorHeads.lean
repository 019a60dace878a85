/- QuotaLeads: the heads that are collected, beside the trail. -/
import Derived.Test.YtglcingpolpkdaaDoorLeadsR
import Derived.Test.YtglcingpolpkdaaDoorBuild1
import Derived.Test.YtglcingpolpkdaaDoorTNotes
import Derived.Test.YtglcingpolpkdaaDoorTAdd
namespace Go.Proofs.YtglcingpolpkdaaDoor
open Go.RowKit

/-- The heads behind none, one, two .. notes. -/
def headsOf (ns : List Nt) : List Dg := zeroG :: (links zeroG ns).map (·.2)
theorem headsOf_length (ns : List Nt) : (headsOf ns).length = ns.length + 1 := by simp [headsOf, links_length]
theorem headsOf_add (ns : List Nt) (n : Nt) : headsOf (ns ++ [n]) = headsOf ns ++ [headG (ns ++ [n])] := by
  rw [headG_add]
  simp [headsOf, links_add, headG]
theorem headsOf_at (ns : List Nt) (k : Nat) (hk : k ≤ ns.length) : (headsOf ns)[k]? = some (headG (ns.take k)) := by
  cases k with
  | zero => rfl
  | succ k =>
    have hx := List.getElem?_eq_getElem (l := ns) (i := k) (by omega)
    have := links_at zeroG ns k _ hx
    simp only [headsOf, List.getElem?_cons_succ, List.getElem?_map, this]
    rfl
theorem info_dg : ∃ i, Tryd.prog.info? 24 = some i ∧ i.zero = some (.agg (zeroNums .u8 32).toArray) ∧ i.size = 32 ∧ i.bytes = 32 := info_of (by kernel_rfl)

/-- A trail, and the heads behind its notes. -/
structure QL (W w : World) (tb : Nat) (lv hv : Value) (ns : List Nt) : Prop where
  tr : TrP W w tb lv ns
  hd : w.ownsRow W.heap.size 24 32 hv (headsOf ns).length ((headsOf ns).flatMap Dg.vs)
  tab : KTab w
  pos : 0 < W.heap.size
theorem QL.on {W w w' : World} {tb : Nat} {lv hv : Value} {ns : List Nt} (h : QL W w tb lv hv ns) (hb : Below w.heap.size w w') : QL W w' tb lv hv ns :=
  ⟨h.tr.on hb, row_low h.hd hb, h.tab.below hb h.tab.1, h.pos⟩
theorem rows_apart {w : World} {B B' n n' k k' : Nat} {e e' : TypeId} {v v' : Value} {xs xs' : List Value} (h : w.ownsRow B e n v k xs) (h' : w.ownsRow B' e' n' v' k' xs') (ht : e ≠ e') : ∀ g, v.ownBlock = some g → v'.ownBlock ≠ some g := fun g hg hg' => by
  obtain ⟨cur, hc⟩ := row_type h hg
  obtain ⟨cur', hc'⟩ := row_type h' hg'
  rw [hc] at hc'
  have hc' := Option.some.inj hc'
  injection hc' with _ hc' _
  exact ht hc'
/-- What a note more leaves: the trail is longer, the heads are as they were. -/
structure QL2 (W w : World) (tb : Nat) (lv hv : Value) (ns ms : List Nt) : Prop where
  tr : TrP W w tb lv ms
  hd : w.ownsRow W.heap.size 24 32 hv (headsOf ns).length ((headsOf ns).flatMap Dg.vs)
  tab : KTab w
  pos : 0 < W.heap.size
theorem QL2.on {W w w' : World} {tb : Nat} {lv hv : Value} {ns ms : List Nt} (h : QL2 W w tb lv hv ns ms) (hb : Below w.heap.size w w') : QL2 W w' tb lv hv ns ms :=
  ⟨h.tr.on hb, row_low h.hd hb, h.tab.below hb h.tab.1, h.pos⟩
theorem QL.padd {W w w' : World} {tb : Nat} {lv hv lv' : Value} {ns ms : List Nt} (h : QL W w tb lv hv ns) (ho : Only w w' fun i => i = tb ∨ lv.ownBlock = some i) (ht : TrP W w' tb lv' ms) : QL2 W w' tb lv' hv ns ms :=
  ⟨ht, row_only h.hd ho (fun g hg s => s.elim (fun e => row_ne_whole h.hd h.tr.box (by decide) (e ▸ hg)) (fun e => rows_apart h.hd h.tr.row (by decide) g hg e)),
   h.tab.over ho (fun s => s.elim (fun e => by have := h.tr.new; have := h.pos; omega) (fun e => by have := own_ge h.tr.row e; have := h.pos; omega)), h.pos⟩
theorem QL2.hadd {W w w' : World} {tb : Nat} {lv hv hv' : Value} {ns : List Nt} {n : Nt} (h : QL2 W w tb lv hv ns (ns ++ [n])) (hG : w.grownBy w' hv.ownBlock)
    (hO : w'.ownsRow W.heap.size 24 32 hv' (headsOf ns ++ [headG (ns ++ [n])]).length ((headsOf ns ++ [headG (ns ++ [n])]).flatMap Dg.vs)) : QL W w' tb lv hv' (ns ++ [n]) := by
  have ho := Only.of_grown hG
  refine ⟨h.tr.only ho (fun e => row_ne_whole h.hd h.tr.box (by decide) e) (fun g hg e => rows_apart h.tr.row h.hd (by decide) g hg e) (fun i _ e => own_ge h.hd e), ?_, h.tab.over ho (fun e => by have := own_ge h.hd e; have := h.pos; omega), h.pos⟩
  rw [headsOf_add]
  exact hO
theorem QL.head {W w : World} {tb g n c k : Nat} {lv : Value} {ns : List Nt} (h : QL W w tb lv (.slice (some ⟨g, 0, none⟩) n c) ns) (hk : k ≤ ns.length) : w.rangeAt g (k * 32) (headG (ns.take k)).vs := by
  obtain ⟨g', he, hr⟩ := own_at Dg.vs_length h.hd (headsOf_at ns k hk)
  injection he with he
  injection he with he
  subst he
  exact hr
theorem QL.block {W w : World} {tb g n c : Nat} {lv : Value} {ns : List Nt} (h : QL W w tb lv (.slice (some ⟨g, 0, none⟩) n c) ns) : g < w.heap.size := row_lt h.hd rfl
theorem TrP.fresh0 {W w : World} (hb : Below W.heap.size W w) : TrP W (w.alloc (.cells #[.slice none 0 0, .bool true] 60)) w.heap.size (.slice none 0 0) [] :=
  ⟨Whole.new w 60 _, ⟨rfl, .inl ⟨rfl, rfl⟩⟩, hb.size, hb.alloc hb.size _⟩
theorem tadd_yes (W w : World) (tb : Nat) (lv : Value) (ns : List Nt) (n : Nt) (h : TrP W w tb lv ns) (hK : KTab w) (hlen : ns.length ≤ 1000) (hn : nextOk n = true) :
    Calls Tryd.prog 9 #[.pointer (some ⟨tb, 0, none⟩), .agg n.cells.toArray] w fun e w' => e = .returned (.tuple #[.agg (headG (ns ++ [n])).vs.toArray, .int .i64 0]) ∧ ∃ lv', TrP W w' tb lv' (ns ++ [n]) ∧ Only w w' fun i => i = tb ∨ lv.ownBlock = some i := by
  refine (tadd_calls W w tb lv ns n h hK hlen).mono ?_
  rintro e w' ⟨rfl, lv', h2, hO⟩
  have e1 : addP ns n = ns ++ [n] := by unfold addP; rw [if_pos hn]
  have e2 : nextE (headG ns) n = headG (ns ++ [n]) := by unfold nextE; rw [if_pos hn, headG_add]
  have e3 : nextC n = 0 := by unfold nextC; rw [if_pos hn]
  rw [e1] at h2
  rw [e2, e3]
  exact ⟨rfl, lv', h2, hO⟩
theorem tadd_no (W w : World) (tb : Nat) (lv : Value) (ns : List Nt) (n : Nt) (h : TrP W w tb lv ns) (hK : KTab w) (hlen : ns.length ≤ 1000) (hn : ¬ nextOk n = true) :
    Calls Tryd.prog 9 #[.pointer (some ⟨tb, 0, none⟩), .agg n.cells.toArray] w fun e w' => e = .returned (.tuple #[.agg zeroG.vs.toArray, .int .i64 2]) ∧ Below W.heap.size W w' := by
  refine (tadd_calls W w tb lv ns n h hK hlen).mono ?_
  rintro e w' ⟨rfl, lv', h2, _⟩
  have e2 : nextE (headG ns) n = zeroG := by unfold nextE; rw [if_neg hn]
  have e3 : nextC n = 2 := by unfold nextC; rw [if_neg hn]
  rw [e2, e3]
  exact ⟨rfl, h2.below⟩
theorem heads_new {W w : World} (hb : W.heap.size ≤ w.heap.size) : (w.alloc (.cells zeroG.vs.toArray 24)).ownsRow W.heap.size 24 32 (.slice (some ⟨w.heap.size, 0, none⟩) 1 1) (headsOf []).length ((headsOf []).flatMap Dg.vs) := by
  have h := World.ownsRow_lit (base := W.heap.size) (size := 32) (e := 24) w zeroG.vs.toArray 1 hb (by decide) (by simp [Dg.vs_length])
  simpa [headsOf, links] using h

end Go.Proofs.YtglcingpolpkdaaDoor
