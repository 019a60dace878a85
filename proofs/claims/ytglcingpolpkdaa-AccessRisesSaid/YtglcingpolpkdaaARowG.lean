/- Rows of elements of n cells: one written over, a row's whole block. -/
import Derived.Test.YtglcingpolpkdaaARows
namespace Go.Proofs.Ytglcingpolpkdaa
open Go.RowKit

section
variable {α : Type} {f : α → List Value} {n : Nat}

/-- Elements of n cells in block g, which can be written over. -/
def RowG (f : α → List Value) (n : Nat) (w : World) (g : Nat) (l : List α) : Prop := ∀ i a, l[i]? = some a → w.rangeAt g (i * n) (f a) ∧ w.there g (i * n) n
theorem mul_apart {i x : Nat} (h : i ≠ x) (n : Nat) : i * n + n ≤ x * n ∨ x * n + n ≤ i * n := by
  rcases Nat.lt_or_gt_of_ne h with h | h
  · left
    rw [← Nat.succ_mul]
    exact Nat.mul_le_mul_right n h
  · right
    rw [← Nat.succ_mul]
    exact Nat.mul_le_mul_right n h
theorem RowG.set {w : World} {g x : Nat} {l : List α} (hf : ∀ a, (f a).length = n) (h : RowG f n w g l) (hx : x < l.length) (a : α) : RowG f n (w.setCells g (x * n) (f a)) g (l.set x a) := by
  intro i b hb
  have hi : i < l.length := by
    have := (List.getElem?_eq_some_iff.1 hb).1
    simpa using this
  obtain ⟨h1, h2⟩ := h i _ (List.getElem?_eq_getElem hi)
  have hl := hf a
  generalize hcs : f a = cs at hl ⊢
  refine ⟨?_, World.there_setCells h2 g (x * n) cs⟩
  by_cases hix : i = x
  · rw [hix, List.getElem?_set_self hx] at hb
    have hb := Option.some.inj hb
    rw [← hb, hcs, hix]
    rw [hix] at h2
    exact World.rangeAt_setCells_same w g (x * n) cs (hl ▸ h2)
  · rw [List.getElem?_set_ne (Ne.symm hix), List.getElem?_eq_getElem hi] at hb
    have hb := Option.some.inj hb
    rw [← hb]
    exact World.rangeAt_setCells_apart h1 g (x * n) cs (.inr (by rw [hf, hl]; exact mul_apart hix n))
theorem RowG.far {w w' : World} {g : Nat} {l : List α} (h : RowG f n w g l) (hb : ∀ i, w'.heap[g]? = w.heap[g]? → w'.cell? ⟨g, i, none⟩ = w.cell? ⟨g, i, none⟩) (hg : w'.heap[g]? = w.heap[g]?) (hz : ∀ i, w'.frozen? ⟨g, i, none⟩ = w.frozen? ⟨g, i, none⟩) : RowG f n w' g l := fun i a ha =>
  ⟨fun j v hv => (hb _ hg).trans ((h i a ha).1 j v hv), fun j hj => by rw [hb _ hg, hz]; exact (h i a ha).2 j hj⟩
theorem RowG.below {w w' : World} {g : Nat} {l : List α} (h : RowG f n w g l) (hb : Below w.heap.size w w') (hg : g < w.heap.size) : RowG f n w' g l := by
  have e := hb.block g hg
  exact h.far (fun i _ => World.cell?_of_block (a := ⟨g, i, none⟩) e) e (fun i => World.frozen?_of_block (a := ⟨g, i, none⟩) e)
theorem RowG.take {w : World} {g : Nat} {l : List α} (h : RowG f n w g l) (k : Nat) : RowG f n w g (l.take k) := fun i a ha => h i a (by
  rw [List.getElem?_take] at ha
  split at ha
  · exact ha
  · cases ha)
theorem whole_setCells {g : Nat} {e : TypeId} : ∀ (vs : List Value) (o : Nat) {w : World} {cur : List Value}, Whole w g e cur → ∃ cur', Whole (w.setCells g o vs) g e cur' ∧ cur'.length = cur.length
  | [], _, _, cur, h => ⟨cur, h, rfl⟩
  | v :: vs, o, _, _, h => by
    obtain ⟨cur', h1, h2⟩ := whole_setCells vs (o + 1) (h.put o v)
    exact ⟨cur', h1, by simpa using h2⟩
theorem only_setCells (g : Nat) : ∀ (vs : List Value) (o : Nat) (w : World), Only w (w.setCells g o vs) fun i => i = g
  | [], _, _ => Only.of_below (Below.refl _ _) _
  | v :: vs, o, w => ((Only.set w ⟨g, o, none⟩ v).trans (only_setCells g vs (o + 1) _)).weak fun _ _ h => h.elim id id
theorem flat_len (hf : ∀ a, (f a).length = n) (l : List α) : (l.flatMap f).length = l.length * n := by
  induction l with
  | nil => simp
  | cons a l ih => rw [List.flatMap_cons, List.length_append, ih, hf, List.length_cons, Nat.succ_mul, Nat.add_comm]
/-- The whole of an owned row. -/
theorem own_full {w : World} {B k g : Nat} {e : TypeId} {v : Value} {xs : List Value} (h : w.ownsRow B e n v k xs) (hg : v.ownBlock = some g) :
    ∃ cap cur, v = .slice (some ⟨g, 0, none⟩) k cap ∧ B ≤ g ∧ Whole w g e cur ∧ k ≤ cap ∧ cap ≤ maxLen ∧ cur.length = cap * n := by
  rcases h.2 with ⟨rfl, _⟩ | ⟨g', cap, cur, rfl, hb, hh, hle, hm, hs, _⟩
  · cases hg
  · have hg : g' = g := by simpa [Value.ownBlock] using hg
    subst hg
    exact ⟨cap, cur.toList, rfl, hb, hh, hle, hm, by simpa using hs⟩
theorem own_rowG {w : World} {B g k c : Nat} {e : TypeId} {l : List α} (hf : ∀ a, (f a).length = n) (h : w.ownsRow B e n (.slice (some ⟨g, 0, none⟩) k c) l.length (l.flatMap f)) : RowG f n w g l := fun i a ha => by
  obtain ⟨cap, cur, _, _, hW, _, _, _⟩ := own_full h rfl
  have hcell : ∀ j u, (f a)[j]? = some u → w.cell? ⟨g, i * n + j, none⟩ = some u := fun j u hj => by
    have h1 := flat_at hf l i a j u ha hj
    have := World.ownsRow.cells h (g := g) rfl _ _ h1
    rwa [Addr.add_lit, Nat.zero_add] at this
  exact ⟨hcell, fun j hj => ⟨by rw [hcell j _ (List.getElem?_eq_getElem (by rw [hf]; exact hj))]; rfl, hW.free _⟩⟩
theorem own_of {w : World} {B g cap : Nat} {e : TypeId} {cur : List Value} {l : List α} (hf : ∀ a, (f a).length = n) (hW : Whole w g e cur) (hc : cur.length = cap * n) (hb : B ≤ g) (hl : l.length ≤ cap) (hm : cap ≤ maxLen) (hr : RowG f n w g l) :
    w.ownsRow B e n (.slice (some ⟨g, 0, none⟩) l.length cap) l.length (l.flatMap f) := by
  refine ⟨flat_len hf l, .inr ⟨g, cap, cur.toArray, rfl, hb, hW, hl, hm, by simpa using hc, ?_⟩⟩
  apply List.ext_getElem?
  intro j
  rw [List.getElem?_take]
  by_cases hj : j < l.length * n
  · rw [if_pos hj]
    have hj' : j < (l.flatMap f).length := by rw [flat_len hf]; exact hj
    have hx := List.getElem?_eq_getElem hj'
    obtain ⟨i, r, a, rfl, ha, hr2⟩ := flat_inv hf l j _ hx
    have h1 := (hr i a ha).1 r _ hr2
    rw [hW.cell] at h1
    rw [hx, ← h1]
  · rw [if_neg hj, List.getElem?_eq_none (by rw [flat_len hf]; omega)]
theorem own_at {w : World} {B k c i : Nat} {e : TypeId} {p : Option Addr} {l : List α} {a : α} (hf : ∀ a, (f a).length = n) (h : w.ownsRow B e n (.slice p k c) l.length (l.flatMap f)) (ha : l[i]? = some a) : ∃ g, p = some ⟨g, 0, none⟩ ∧ w.rangeAt g (i * n) (f a) := by
  rcases row_shape h with ⟨he, hn⟩ | ⟨g, cap, he, _⟩
  · rw [List.eq_nil_of_length_eq_zero hn] at ha
    simp at ha
  · injection he with he _ _
    subst he
    exact ⟨g, rfl, (own_rowG hf h i a ha).1⟩
/-- 'clear(s)', s a slice of elements of several cells. -/
theorem run_clear_rows {P : Program} (w : World) (t e ty : TypeId) (z : Value) (ht : P.underlying t = some (.slice e)) (hv : ∀ w, (zeroValue e).run P w = .ok z w) (hz : z.cells.size = n) (hn0 : 0 < n) (h1 : ∀ v ∈ z.cells, v.oneCell' = true) (b o k c : Nat) (hk : 0 < k) (hth : w.there b o (k * n)) :
    (Builtin.clear_ #[t] ty #[.slice (some ⟨b, o, none⟩) k c]).run P w = .ok (.tuple #[]) (w.setCells b o (Builtin.zeroCells z.cells k).toList) := by
  have hl : (Builtin.zeroCells z.cells k).toList.length = k * n := by rw [Array.length_toList, size_zeroCells, hz]
  have hst := run_storeCells_cells (P := P) b o (Builtin.zeroCells z.cells k).toList 0 w (by rw [hl]; exact fun j hj => (hth j hj).1) (by rw [hl]; exact fun j hj => (hth j hj).2) (by
    intro v hv'
    have hv' : v ∈ Builtin.zeroCells z.cells k := by simpa using hv'
    unfold Builtin.zeroCells at hv'
    obtain ⟨i, hi, rfl⟩ := Array.mem_map.1 hv'
    have hlt : i % z.cells.size < z.cells.size := Nat.mod_lt _ (by omega)
    rw [getElem!_pos z.cells _ hlt]
    exact h1 _ (Array.getElem_mem hlt))
  simp only [Nat.add_zero] at hst
  obtain ⟨m, rfl⟩ : ∃ m, k = m + 1 := ⟨k - 1, by omega⟩
  simp [Builtin.clear_, run_underlying ht, hv, hst]

theorem whole_rangeG {w : World} {g : Nat} {t : TypeId} {cs : List Value} (h : Whole w g t cs) : w.rangeAt g 0 cs := fun j v hj => by
  rw [Nat.zero_add, h.cell]
  exact hj
theorem RowG.front {w : World} {g : Nat} {l : List α} (hf : ∀ a, (f a).length = n) (h : RowG f n w g l) (i : Nat) (vs : List Value) : RowG f n (w.setCells g (i * n) vs) g (l.take i) := fun k a ha => by
  rw [List.getElem?_take] at ha
  split at ha
  · rename_i hk
    obtain ⟨h1, h2⟩ := h k a ha
    refine ⟨World.rangeAt_setCells_apart h1 g (i * n) vs (.inr (.inl ?_)), World.there_setCells h2 _ _ _⟩
    rw [hf, ← Nat.succ_mul]
    exact Nat.mul_le_mul_right n hk
  · cases ha

/-- While a list is filtered in its own row: i elements are kept of the first j. -/
structure Filt (q : α → Bool) (l ls : List α) (i j : Nat) : Prop where
  lt : i < j
  len : ls.length = l.length
  done : ls.take i = (l.take j).filter fun x => !q x
  rest : ∀ k, j ≤ k → ls[k]? = l[k]?
theorem Filt.start {q : α → Bool} {l : List α} {k : Nat} {x : α} (hx : l[k]? = some x) (hq : q x = true) (hn : ∀ j x, j < k → l[j]? = some x → q x = false) : Filt q l l k (k + 1) := by
  have hk : k < l.length := (List.getElem?_eq_some_iff.1 hx).1
  refine ⟨Nat.lt_succ_self k, rfl, ?_, fun _ _ => rfl⟩
  rw [List.take_succ_eq_append_getElem hk, (List.getElem?_eq_some_iff.1 hx).2, List.filter_append]
  have e1 : (l.take k).filter (fun x => !q x) = l.take k := List.filter_eq_self.2 fun a ha => by
    obtain ⟨j, hj⟩ := List.mem_iff_getElem?.1 ha
    rw [List.getElem?_take] at hj
    split at hj
    · rw [hn j a (by assumption) hj]
      rfl
    · cases hj
  rw [e1]
  simp [hq]
theorem Filt.skip {q : α → Bool} {l ls : List α} {i j : Nat} {x : α} (h : Filt q l ls i j) (hx : l[j]? = some x) (hq : q x = true) : Filt q l ls i (j + 1) := by
  have hj : j < l.length := (List.getElem?_eq_some_iff.1 hx).1
  refine ⟨by have := h.lt; omega, h.len, ?_, fun k hk => h.rest k (by omega)⟩
  rw [List.take_succ_eq_append_getElem hj, (List.getElem?_eq_some_iff.1 hx).2, List.filter_append, h.done]
  simp [hq]
theorem Filt.keep {q : α → Bool} {l ls : List α} {i j : Nat} {x : α} (h : Filt q l ls i j) (hx : l[j]? = some x) (hq : q x = false) : Filt q l (ls.set i x) (i + 1) (j + 1) := by
  have hj : j < l.length := (List.getElem?_eq_some_iff.1 hx).1
  have hi : i < ls.length := by rw [h.len]; have := h.lt; omega
  refine ⟨by have := h.lt; omega, by rw [List.length_set, h.len], ?_, fun k hk => ?_⟩
  · rw [List.take_succ_eq_append_getElem hj, (List.getElem?_eq_some_iff.1 hx).2, List.filter_append, ← h.done, List.take_succ_eq_append_getElem (by rw [List.length_set]; exact hi), List.getElem_set_self, List.take_set_of_le (Nat.le_refl _)]
    simp [hq]
  · rw [List.getElem?_set_ne (by have := h.lt; omega), h.rest k (by omega)]
theorem Filt.end_ {q : α → Bool} {l ls : List α} {i : Nat} (h : Filt q l ls i l.length) : ls.take i = l.filter fun x => !q x := by
  have := h.done
  rwa [List.take_length] at this
end

end Go.Proofs.Ytglcingpolpkdaa
