/- Rows of whatever elements: what stays, one more, a copy, one written over. -/
import Derived.Test.YtmmlpbepaefamaaGreatDoorProg
import Derived.Laws.AppendOwn
import Derived.Maps.AppendAt
import Derived.Laws.AppendOwnNone
import Derived.Deep.RegionHeld3
import Derived.Deep.RegionHeldLaw
import Derived.Deep.MidRow
import Derived.Deep.DeepCutAuto
import Derived.Shelf.Abstract
import Derived.Laws.IdiomStrings
import Derived.Test.YtmmlpbepaefamaaGreatDoorMemX6
namespace Go.Proofs.YtmmlpbepaefamaaGreatDoor
open Go.RowKit

theorem info_of {t : TypeId} {z : Value} {n b : Nat} (h : (Tryz.prog.info? t).map (fun i => (i.zero, i.size, i.bytes)) = some (some z, n, b)) : ∃ i, Tryz.prog.info? t = some i ∧ i.zero = some z ∧ i.size = n ∧ i.bytes = b := by
  cases hi : Tryz.prog.info? t with
  | none => rw [hi] at h; cases h
  | some i =>
    rw [hi] at h
    simp only [Option.map_some, Option.some.injEq, Prod.mk.injEq] at h
    exact ⟨i, rfl, h.1, h.2.1, h.2.2⟩
/-- Where a row lies behind an append: where it lay, or in new memory. -/
def Moved (w : World) (v v' : Value) : Prop := v'.ownBlock = v.ownBlock ∨ ∃ g, v'.ownBlock = some g ∧ w.heap.size ≤ g
theorem wp_append_at {P : Program} (w : World) {o : Oper} {a : Act} {K : Act → World → Prop} {Q : Exit → Act → World → Prop} (s x : Operand) (t : TypeId)
    (ho : o.op = .call { callee := .builtin .append, args := #[s, x], argTypes := #[t, t] })
    (base : Nat) (e : TypeId) (i : TypeInfo) (z : Value) (size bytes : Nat) (ht : P.underlying t = some (.slice e)) (hi : P.info? e = some i) (hz : i.zero = some z)
    (hsize : i.size = size) (hby : i.bytes = bytes) (hzs : z.cells.size = size) (hsz : 0 < size)
    (v : Value) (n : Nat) (xs : List Value) (hs : a.eval s = v) (hown : w.ownsRow base e size v n xs)
    (ad : Addr) (m c : Nat) (news : List Value) (hx : a.eval x = .slice (some ad) m c) (hl : news.length = m * size) (hnews : ∀ j u, news[j]? = some u → w.cell? (ad.add j) = some u) (h1 : ∀ u ∈ news, u.oneCell' = true)
    (h63 : n + m ≤ maxLen) (hbytes : (n + m) * bytes ≤ 140737488355328) (hbase : base ≤ w.heap.size)
    (h : ∀ v' w', w'.ownsRow base e size v' (n + m) (xs ++ news) → w.grownBy w' v.ownBlock → Moved w v v' → K (a.put o.dst v') w') : o.wp P a w K Q := by
  obtain ⟨v', w', hr, h2, h3, _, h5⟩ := run_append_own_at (P := P) w base t o.type e i z size bytes ht hi hz hsize hby hzs hsz v n xs hown ad m c news hl hnews h1 h63 hbytes hbase
  unfold Oper.wp execOp
  simp only [ho, resolve, invoke, builtin, Sem.run_bind, Sem.run_pure, Result.andThen_ok, List.map_toArray, List.map_cons, List.map_nil, hs, hx, hr]
  exact h v' w' h2 h3 (h5.imp id fun h => ⟨_, h, Nat.le_refl _⟩)
theorem row_shape {w : World} {B n size : Nat} {e : TypeId} {v : Value} {xs : List Value} (h : w.ownsRow B e size v n xs) :
    (v = .slice none 0 0 ∧ n = 0) ∨ ∃ g cap, v = .slice (some ⟨g, 0, none⟩) n cap ∧ B ≤ g ∧ g < w.heap.size ∧ ∀ j x, xs[j]? = some x → w.cell? ⟨g, j, none⟩ = some x := by
  rcases h.2 with ⟨rfl, hn⟩ | ⟨g, cap, cur, rfl, hb, hg, hle, hm, _⟩
  · exact .inl ⟨rfl, hn⟩
  · refine .inr ⟨g, cap, rfl, hb, (Array.getElem?_eq_some_iff.1 hg).1, fun j x hx => ?_⟩
    have := World.ownsRow.cells h (g := g) rfl j x (by simpa using hx)
    rwa [Addr.add_lit, Nat.zero_add] at this
theorem row_low {w w' : World} {B n size : Nat} {e : TypeId} {v : Value} {xs : List Value} (h : w.ownsRow B e size v n xs) (hb : Below w.heap.size w w') : w'.ownsRow B e size v n xs :=
  World.ownsRow.kept h (below_grown hb none) (by cases v.ownBlock <;> simp)
theorem flat_at {α : Type} {f : α → List Value} {n : Nat} (hf : ∀ a, (f a).length = n) : ∀ (l : List α) (k : Nat) (a : α) (i : Nat) (x : Value), l[k]? = some a → (f a)[i]? = some x → (l.flatMap f)[k * n + i]? = some x
  | [], k, a, i, x, h, _ => by simp at h
  | b :: l, 0, a, i, x, h, hx => by
    have : b = a := by simpa using h
    subst this
    have hi : i < (f b).length := (List.getElem?_eq_some_iff.1 hx).1
    rw [List.flatMap_cons, Nat.zero_mul, Nat.zero_add, List.getElem?_append_left hi]
    exact hx
  | b :: l, k + 1, a, i, x, h, hx => by
    have ih := flat_at hf l k a i x (by simpa using h) hx
    rw [List.flatMap_cons, List.getElem?_append_right (by rw [hf, Nat.succ_mul]; omega), hf, ← ih]
    congr 1
    rw [Nat.succ_mul]
    omega
theorem own_ge {w : World} {B n size : Nat} {e : TypeId} {v : Value} {xs : List Value} (h : w.ownsRow B e size v n xs) {x : Nat} (hx : v.ownBlock = some x) : B ≤ x := by
  rcases row_shape h with ⟨rfl, _⟩ | ⟨g, cap, rfl, hb, _, _⟩
  · cases hx
  · have : g = x := by simpa [Value.ownBlock] using hx
    omega
/-- All older blocks but those in S stay. -/
structure Only (w w' : World) (S : Nat → Prop) : Prop where
  os : w'.os = w.os
  tape : w'.tape = w.tape
  output : w'.output = w.output
  size : w.heap.size ≤ w'.heap.size
  block : ∀ i, i < w.heap.size → ¬ S i → w'.heap[i]? = w.heap[i]?
theorem Only.of_grown {w w' : World} {row : Option Nat} (h : w.grownBy w' row) : Only w w' fun i => row = some i :=
  ⟨h.os, h.tape, h.output, h.size, fun i hi hn => h.block i hi (fun e => hn e.symm)⟩
theorem Only.trans {a b c : World} {S T : Nat → Prop} (h : Only a b S) (k : Only b c T) : Only a c fun i => S i ∨ T i :=
  ⟨k.os.trans h.os, k.tape.trans h.tape, k.output.trans h.output, Nat.le_trans h.size k.size, fun i hi hn => (k.block i (Nat.lt_of_lt_of_le hi h.size) fun t => hn (.inr t)).trans (h.block i hi fun s => hn (.inl s))⟩
theorem Only.weak {a b : World} {S T : Nat → Prop} (h : Only a b S) (hs : ∀ i, i < a.heap.size → S i → T i) : Only a b T :=
  ⟨h.os, h.tape, h.output, h.size, fun i hi hn => h.block i hi fun s => hn (hs i hi s)⟩
theorem Only.of_below {w w' : World} (h : Below w.heap.size w w') (S : Nat → Prop) : Only w w' S := ⟨h.os, h.tape, h.output, h.size, fun i hi _ => h.block i hi⟩
theorem Only.below {w w' : World} {B : Nat} {S : Nat → Prop} (h : Only w w' S) (hB : B ≤ w.heap.size) (hs : ∀ i, i < w.heap.size → S i → B ≤ i) : Below B w w' :=
  ⟨h.os, h.tape, h.output, h.size, fun i hi => h.block i (Nat.lt_of_lt_of_le hi hB) fun s => by have := hs i (Nat.lt_of_lt_of_le hi hB) s; omega⟩
theorem Only.set (w : World) (p : Addr) (u : Value) : Only w (w.setCell p u) fun i => i = p.block :=
  ⟨rfl, rfl, rfl, by simp, fun i _ hn => Below.heap_setCell w p u i fun e => hn e⟩
theorem Only.alloc (w : World) (o : Obj) (S : Nat → Prop) : Only w (w.alloc o) S := Only.of_below ((Below.refl _ _).alloc (Nat.le_refl _) _) S
theorem Whole.only {w w' : World} {S : Nat → Prop} {g : Nat} {t : TypeId} {l : List Value} (h : Whole w g t l) (ho : Only w w' S) (hs : ¬ S g) : Whole w' g t l := (ho.block g h.lt hs).trans h
theorem row_only {w w' : World} {S : Nat → Prop} {B n size : Nat} {e : TypeId} {v : Value} {xs : List Value} (h : w.ownsRow B e size v n xs) (ho : Only w w' S) (hs : ∀ g, v.ownBlock = some g → ¬ S g) : w'.ownsRow B e size v n xs := by
  obtain ⟨h1, h2⟩ := h
  refine ⟨h1, ?_⟩
  rcases h2 with h2 | ⟨g, cap, cur, rfl, hb, hg, hr⟩
  · exact .inl h2
  · exact .inr ⟨g, cap, cur, rfl, hb, (ho.block g (Array.getElem?_eq_some_iff.1 hg).1 (hs g rfl)).trans hg, hr⟩
/-- A row that is owned is of its elements' type. -/
theorem row_type {w : World} {B n size : Nat} {e : TypeId} {v : Value} {xs : List Value} (h : w.ownsRow B e size v n xs) {g : Nat} (hg : v.ownBlock = some g) : ∃ cur, w.heap[g]? = some (.cells cur e (0, 0)) := by
  rcases h.2 with ⟨rfl, _⟩ | ⟨g', cap, cur, rfl, _, hc, _⟩
  · cases hg
  · have : g' = g := by simpa [Value.ownBlock] using hg
    subst this
    exact ⟨cur, hc⟩
theorem slice_of_row {w : World} {B n size : Nat} {e : TypeId} {v : Value} {xs : List Value} (h : w.ownsRow B e size v n xs) : ∃ a c, v = .slice a n c := by
  rcases row_shape h with ⟨rfl, hn⟩ | ⟨g, cap, rfl, _, _, _⟩
  · exact ⟨none, 0, by rw [hn]⟩
  · exact ⟨_, cap, rfl⟩
theorem slice_any {w : World} {B n size : Nat} {e : TypeId} {v : Value} {xs : List Value} (h : w.ownsRow B e size v n xs) : ∃ a k c, v = .slice a k c := by
  obtain ⟨a, c, h⟩ := slice_of_row h
  exact ⟨a, n, c, h⟩
theorem row_ne_whole {w : World} {B n size g : Nat} {e t : TypeId} {v : Value} {xs l : List Value} (h : w.ownsRow B e size v n xs) (hw : Whole w g t l) (ht : e ≠ t) : v.ownBlock ≠ some g := fun hg => by
  obtain ⟨cur, hc⟩ := row_type h hg
  unfold Whole at hw
  rw [hw] at hc
  injection hc with hc
  injection hc with _ hc _
  exact ht hc.symm
theorem row_lt {w : World} {B n size : Nat} {e : TypeId} {v : Value} {xs : List Value} (h : w.ownsRow B e size v n xs) {g : Nat} (hg : v.ownBlock = some g) : g < w.heap.size := by
  obtain ⟨c, hc⟩ := row_type h hg
  exact (Array.getElem?_eq_some_iff.1 hc).1
theorem own_down {w : World} {B B' n k : Nat} {e : TypeId} {v : Value} {xs : List Value} (hz : B ≤ B') (h : w.ownsRow B' e n v k xs) : w.ownsRow B e n v k xs := by
  obtain ⟨h1, h2⟩ := h
  refine ⟨h1, h2.imp id ?_⟩
  rintro ⟨g, cap, cur, e, hb, r⟩
  exact ⟨g, cap, cur, e, Nat.le_trans hz hb, r⟩
theorem flat_inv {α : Type} {f : α → List Value} {n : Nat} (hf : ∀ a, (f a).length = n) : ∀ (l : List α) (j : Nat) (x : Value), (l.flatMap f)[j]? = some x → ∃ i r a, j = i * n + r ∧ l[i]? = some a ∧ (f a)[r]? = some x
  | [], j, x, h => by simp at h
  | a :: l, j, x, h => by
    rw [List.flatMap_cons] at h
    by_cases hj : j < (f a).length
    · rw [List.getElem?_append_left hj] at h
      exact ⟨0, j, a, by simp, rfl, h⟩
    · rw [List.getElem?_append_right (by omega)] at h
      obtain ⟨i, r, b, h1, h2, h3⟩ := flat_inv hf l _ x h
      refine ⟨i + 1, r, b, ?_, by simpa using h2, h3⟩
      rw [hf] at h1 hj
      rw [Nat.succ_mul]
      omega

section
variable {α : Type} {f : α → List Value} {n : Nat}

/-- Elements of n cells in block g, which can be written over. -/
def RowG (f : α → List Value) (n : Nat) (w : World) (g : Nat) (l : List α) : Prop := ∀ i a, l[i]? = some a → w.rangeAt g (i * n) (f a) ∧ w.there g (i * n) n
theorem mul_apart {i x : Nat} (h : i ≠ x) (n : Nat) : i * n + n ≤ x * n ∨ x * n + n ≤ i * n := by
  rcases Nat.lt_or_gt_of_ne h with h | h
  · left
    rw [← Nat.succ_mul]
    exact Nat.mul_le_mul_right n h
  · right
    rw [← Nat.succ_mul]
    exact Nat.mul_le_mul_right n h
theorem RowG.set {w : World} {g x : Nat} {l : List α} (hf : ∀ a, (f a).length = n) (h : RowG f n w g l) (hx : x < l.length) (a : α) : RowG f n (w.setCells g (x * n) (f a)) g (l.set x a) := by
  intro i b hb
  have hi : i < l.length := by
    have := (List.getElem?_eq_some_iff.1 hb).1
    simpa using this
  obtain ⟨h1, h2⟩ := h i _ (List.getElem?_eq_getElem hi)
  have hl := hf a
  generalize hcs : f a = cs at hl ⊢
  refine ⟨?_, World.there_setCells h2 g (x * n) cs⟩
  by_cases hix : i = x
  · rw [hix, List.getElem?_set_self hx] at hb
    have hb := Option.some.inj hb
    rw [← hb, hcs, hix]
    rw [hix] at h2
    exact World.rangeAt_setCells_same w g (x * n) cs (hl ▸ h2)
  · rw [List.getElem?_set_ne (Ne.symm hix), List.getElem?_eq_getElem hi] at hb
    have hb := Option.some.inj hb
    rw [← hb]
    exact World.rangeAt_setCells_apart h1 g (x * n) cs (.inr (by rw [hf, hl]; exact mul_apart hix n))
theorem RowG.far {w w' : World} {g : Nat} {l : List α} (h : RowG f n w g l) (hb : ∀ i, w'.heap[g]? = w.heap[g]? → w'.cell? ⟨g, i, none⟩ = w.cell? ⟨g, i, none⟩) (hg : w'.heap[g]? = w.heap[g]?) (hz : ∀ i, w'.frozen? ⟨g, i, none⟩ = w.frozen? ⟨g, i, none⟩) : RowG f n w' g l := fun i a ha =>
  ⟨fun j v hv => (hb _ hg).trans ((h i a ha).1 j v hv), fun j hj => by rw [hb _ hg, hz]; exact (h i a ha).2 j hj⟩
theorem RowG.below {w w' : World} {g : Nat} {l : List α} (h : RowG f n w g l) (hb : Below w.heap.size w w') (hg : g < w.heap.size) : RowG f n w' g l := by
  have e := hb.block g hg
  exact h.far (fun i _ => World.cell?_of_block (a := ⟨g, i, none⟩) e) e (fun i => World.frozen?_of_block (a := ⟨g, i, none⟩) e)
theorem RowG.take {w : World} {g : Nat} {l : List α} (h : RowG f n w g l) (k : Nat) : RowG f n w g (l.take k) := fun i a ha => h i a (by
  rw [List.getElem?_take] at ha
  split at ha
  · exact ha
  · cases ha)
theorem whole_setCells {g : Nat} {e : TypeId} : ∀ (vs : List Value) (o : Nat) {w : World} {cur : List Value}, Whole w g e cur → ∃ cur', Whole (w.setCells g o vs) g e cur' ∧ cur'.length = cur.length
  | [], _, _, cur, h => ⟨cur, h, rfl⟩
  | v :: vs, o, _, _, h => by
    obtain ⟨cur', h1, h2⟩ := whole_setCells vs (o + 1) (h.put o v)
    exact ⟨cur', h1, by simpa using h2⟩
theorem only_setCells (g : Nat) : ∀ (vs : List Value) (o : Nat) (w : World), Only w (w.setCells g o vs) fun i => i = g
  | [], _, _ => Only.of_below (Below.refl _ _) _
  | v :: vs, o, w => ((Only.set w ⟨g, o, none⟩ v).trans (only_setCells g vs (o + 1) _)).weak fun _ _ h => h.elim id id
theorem flat_len (hf : ∀ a, (f a).length = n) (l : List α) : (l.flatMap f).length = l.length * n := by
  induction l with
  | nil => simp
  | cons a l ih => rw [List.flatMap_cons, List.length_append, ih, hf, List.length_cons, Nat.succ_mul, Nat.add_comm]
/-- The whole of an owned row. -/
theorem own_full {w : World} {B k g : Nat} {e : TypeId} {v : Value} {xs : List Value} (h : w.ownsRow B e n v k xs) (hg : v.ownBlock = some g) :
    ∃ cap cur, v = .slice (some ⟨g, 0, none⟩) k cap ∧ B ≤ g ∧ Whole w g e cur ∧ k ≤ cap ∧ cap ≤ maxLen ∧ cur.length = cap * n := by
  rcases h.2 with ⟨rfl, _⟩ | ⟨g', cap, cur, rfl, hb, hh, hle, hm, hs, _⟩
  · cases hg
  · have hg : g' = g := by simpa [Value.ownBlock] using hg
    subst hg
    exact ⟨cap, cur.toList, rfl, hb, hh, hle, hm, by simpa using hs⟩
theorem own_rowG {w : World} {B g k c : Nat} {e : TypeId} {l : List α} (hf : ∀ a, (f a).length = n) (h : w.ownsRow B e n (.slice (some ⟨g, 0, none⟩) k c) l.length (l.flatMap f)) : RowG f n w g l := fun i a ha => by
  obtain ⟨cap, cur, _, _, hW, _, _, _⟩ := own_full h rfl
  have hcell : ∀ j u, (f a)[j]? = some u → w.cell? ⟨g, i * n + j, none⟩ = some u := fun j u hj => by
    have h1 := flat_at hf l i a j u ha hj
    have := World.ownsRow.cells h (g := g) rfl _ _ h1
    rwa [Addr.add_lit, Nat.zero_add] at this
  exact ⟨hcell, fun j hj => ⟨by rw [hcell j _ (List.getElem?_eq_getElem (by rw [hf]; exact hj))]; rfl, hW.free _⟩⟩
theorem own_of {w : World} {B g cap : Nat} {e : TypeId} {cur : List Value} {l : List α} (hf : ∀ a, (f a).length = n) (hW : Whole w g e cur) (hc : cur.length = cap * n) (hb : B ≤ g) (hl : l.length ≤ cap) (hm : cap ≤ maxLen) (hr : RowG f n w g l) :
    w.ownsRow B e n (.slice (some ⟨g, 0, none⟩) l.length cap) l.length (l.flatMap f) := by
  refine ⟨flat_len hf l, .inr ⟨g, cap, cur.toArray, rfl, hb, hW, hl, hm, by simpa using hc, ?_⟩⟩
  apply List.ext_getElem?
  intro j
  rw [List.getElem?_take]
  by_cases hj : j < l.length * n
  · rw [if_pos hj]
    have hj' : j < (l.flatMap f).length := by rw [flat_len hf]; exact hj
    have hx := List.getElem?_eq_getElem hj'
    obtain ⟨i, r, a, rfl, ha, hr2⟩ := flat_inv hf l j _ hx
    have h1 := (hr i a ha).1 r _ hr2
    rw [hW.cell] at h1
    rw [hx, ← h1]
  · rw [if_neg hj, List.getElem?_eq_none (by rw [flat_len hf]; omega)]
theorem own_at {w : World} {B k c i : Nat} {e : TypeId} {p : Option Addr} {l : List α} {a : α} (hf : ∀ a, (f a).length = n) (h : w.ownsRow B e n (.slice p k c) l.length (l.flatMap f)) (ha : l[i]? = some a) : ∃ g, p = some ⟨g, 0, none⟩ ∧ w.rangeAt g (i * n) (f a) := by
  rcases row_shape h with ⟨he, hn⟩ | ⟨g, cap, he, _⟩
  · rw [List.eq_nil_of_length_eq_zero hn] at ha
    simp at ha
  · injection he with he _ _
    subst he
    exact ⟨g, rfl, (own_rowG hf h i a ha).1⟩
/-- 'clear(s)', s a slice of elements of several cells. -/
theorem run_clear_rows {P : Program} (w : World) (t e ty : TypeId) (z : Value) (ht : P.underlying t = some (.slice e)) (hv : ∀ w, (zeroValue e).run P w = .ok z w) (hz : z.cells.size = n) (hn0 : 0 < n) (h1 : ∀ v ∈ z.cells, v.oneCell' = true) (b o k c : Nat) (hk : 0 < k) (hth : w.there b o (k * n)) :
    (Builtin.clear_ #[t] ty #[.slice (some ⟨b, o, none⟩) k c]).run P w = .ok (.tuple #[]) (w.setCells b o (Builtin.zeroCells z.cells k).toList) := by
  have hl : (Builtin.zeroCells z.cells k).toList.length = k * n := by rw [Array.length_toList, size_zeroCells, hz]
  have hst := run_storeCells_cells (P := P) b o (Builtin.zeroCells z.cells k).toList 0 w (by rw [hl]; exact fun j hj => (hth j hj).1) (by rw [hl]; exact fun j hj => (hth j hj).2) (by
    intro v hv'
    have hv' : v ∈ Builtin.zeroCells z.cells k := by simpa using hv'
    unfold Builtin.zeroCells at hv'
    obtain ⟨i, hi, rfl⟩ := Array.mem_map.1 hv'
    have hlt : i % z.cells.size < z.cells.size := Nat.mod_lt _ (by omega)
    rw [getElem!_pos z.cells _ hlt]
    exact h1 _ (Array.getElem_mem hlt))
  simp only [Nat.add_zero] at hst
  obtain ⟨m, rfl⟩ : ∃ m, k = m + 1 := ⟨k - 1, by omega⟩
  simp [Builtin.clear_, run_underlying ht, hv, hst]

theorem whole_rangeG {w : World} {g : Nat} {t : TypeId} {cs : List Value} (h : Whole w g t cs) : w.rangeAt g 0 cs := fun j v hj => by
  rw [Nat.zero_add, h.cell]
  exact hj
theorem RowG.front {w : World} {g : Nat} {l : List α} (hf : ∀ a, (f a).length = n) (h : RowG f n w g l) (i : Nat) (vs : List Value) : RowG f n (w.setCells g (i * n) vs) g (l.take i) := fun k a ha => by
  rw [List.getElem?_take] at ha
  split at ha
  · rename_i hk
    obtain ⟨h1, h2⟩ := h k a ha
    refine ⟨World.rangeAt_setCells_apart h1 g (i * n) vs (.inr (.inl ?_)), World.there_setCells h2 _ _ _⟩
    rw [hf, ← Nat.succ_mul]
    exact Nat.mul_le_mul_right n hk
  · cases ha

end

section
variable {α : Type} {f : α → List Value} {n : Nat}
/-- Elements in a block of their own: what can be appended. -/
def SrcG (f : α → List Value) (n : Nat) (w : World) (v : Value) (l : List α) : Prop :=
  (v = .slice none 0 0 ∧ l = []) ∨ ∃ g c, v = .slice (some ⟨g, 0, none⟩) l.length c ∧ g < w.heap.size ∧ ∀ i a, l[i]? = some a → w.rangeAt g (i * n) (f a)
theorem SrcG.low {w w' : World} {v : Value} {l : List α} (h : SrcG f n w v l) (hb : Below w.heap.size w w') : SrcG f n w' v l := by
  rcases h with h | ⟨g, c, rfl, hg, hc⟩
  · exact .inl h
  · exact .inr ⟨g, c, rfl, Nat.lt_of_lt_of_le hg hb.size, fun i a ha j u hj => (hb.cell (p := ⟨g, i * n + j, none⟩) hg).trans (hc i a ha j u hj)⟩
theorem src_of_own {w : World} {B : Nat} {e : TypeId} {v : Value} {l : List α} (hf : ∀ a, (f a).length = n) (h : w.ownsRow B e n v l.length (l.flatMap f)) : SrcG f n w v l := by
  rcases row_shape h with ⟨rfl, hn⟩ | ⟨g, cap, rfl, _, hg, hc⟩
  · exact .inl ⟨rfl, List.eq_nil_of_length_eq_zero hn⟩
  · exact .inr ⟨g, cap, rfl, hg, fun i a ha j u hj => hc _ _ (flat_at hf l i a j u ha hj)⟩
theorem src_new (w : World) (e : TypeId) (a : α) : SrcG f n (w.alloc (.cells (f a).toArray e)) (.slice (some ⟨w.heap.size, 0, none⟩) 1 1) [a] := by
  refine .inr ⟨w.heap.size, 1, rfl, by simp, fun i b hb j u hj => ?_⟩
  have hi : i = 0 := by
    have := (List.getElem?_eq_some_iff.1 hb).1
    simpa using this
  subst hi
  have : a = b := by simpa using hb
  subst this
  rw [Nat.zero_mul, Nat.zero_add]
  rw [(Whole.new w e (f a).toArray).cell]
  exact hj
theorem own_empty (w : World) (e : TypeId) : (w.alloc (.cells #[] e)).ownsRow w.heap.size e n (.slice (some ⟨w.heap.size, 0, none⟩) 0 0) ([] : List α).length (([] : List α).flatMap f) := World.ownsRow_lit w #[] 0 (Nat.le_refl _) (by decide) (by simp)

theorem wp_append_gen {P : Program} {w : World} {o : Oper} {a : Act} {K : Act → World → Prop} {Q : Exit → Act → World → Prop} (s x : Operand) (t e : TypeId)
    (ho : o.op = .call { callee := .builtin .append, args := #[s, x], argTypes := #[t, t] })
    (z : Value) (bytes : Nat) (ht : P.underlying t = some (.slice e)) (hi : ∃ i, P.info? e = some i ∧ i.zero = some z ∧ i.size = n ∧ i.bytes = bytes) (hzs : z.cells.size = n) (hn : 0 < n) (hby : bytes ≤ 1000) (hf : ∀ a, (f a).length = n)
    (B : Nat) (v u : Value) (l m : List α) (hs : a.eval s = v) (hown : w.ownsRow B e n v l.length (l.flatMap f)) (hx : a.eval x = u) (hu : SrcG f n w u m) (hone : ∀ b ∈ m, ∀ y ∈ f b, y.oneCell' = true) (hlen : l.length + m.length ≤ 100000) (hbase : B ≤ w.heap.size)
    (h : ∀ v' w', w'.ownsRow B e n v' (l ++ m).length ((l ++ m).flatMap f) → w.grownBy w' v.ownBlock → Moved w v v' → K (a.put o.dst v') w') :
    o.wp P a w K Q := by
  obtain ⟨i, hi, hz, hsz, hbys⟩ := hi
  rcases hu with ⟨rfl, rfl⟩ | ⟨g, c, rfl, hg, hc⟩
  · have hrun := run_append_owned_none (P := P) (w := w) B t o.type e i n ht hi v l.length (l.flatMap f) hown
    unfold Oper.wp execOp
    simp only [ho, resolve, invoke, builtin, Sem.run_bind, Sem.run_pure, Result.andThen_ok, List.map_toArray, List.map_cons, List.map_nil, hs, hx, hrun]
    exact h v w (by simpa using hown) (World.grownBy.refl _ _) (.inl rfl)
  · refine wp_append_at w s x t ho B e i z n bytes ht hi hz hsz hbys hzs hn v l.length (l.flatMap f) hs hown ⟨g, 0, none⟩ m.length c (m.flatMap f) hx (flat_len hf m) (fun j y hj => ?_) (fun y hy => ?_) (by simp only [maxLen]; omega) (Nat.le_trans (Nat.mul_le_mul hlen hby) (by decide)) hbase fun v' w' h1 h2 h4 => h v' w' ?_ h2 h4
    · obtain ⟨k, r, b, rfl, hb, hr⟩ := flat_inv hf m j y hj
      have := hc k b hb r y hr
      rwa [Addr.add_mid, Nat.zero_add]
    · obtain ⟨b, hb1, hb⟩ := List.mem_flatMap.1 hy
      exact hone b hb1 y hb
    · rw [List.length_append, List.flatMap_append]
      exact h1
theorem wpList_append_gen {P : Program} {w : World} {ops : Array Oper} {rest : List Oper} {o : Oper} {a : Act} {Q : Exit → Act → World → Prop} (hgd : o.guard = none) (s x : Operand) (t e : TypeId)
    (ho : o.op = .call { callee := .builtin .append, args := #[s, x], argTypes := #[t, t] })
    (z : Value) (bytes : Nat) (ht : P.underlying t = some (.slice e)) (hi : ∃ i, P.info? e = some i ∧ i.zero = some z ∧ i.size = n ∧ i.bytes = bytes) (hzs : z.cells.size = n) (hn : 0 < n) (hby : bytes ≤ 1000) (hf : ∀ a, (f a).length = n)
    (B : Nat) (v u : Value) (l m : List α) (hs : a.eval s = v) (hown : w.ownsRow B e n v l.length (l.flatMap f)) (hx : a.eval x = u) (hu : SrcG f n w u m) (hone : ∀ b ∈ m, ∀ y ∈ f b, y.oneCell' = true) (hlen : l.length + m.length ≤ 100000) (hbase : B ≤ w.heap.size)
    (h : ∀ v' w', w'.ownsRow B e n v' (l ++ m).length ((l ++ m).flatMap f) → w.grownBy w' v.ownBlock → Moved w v v' → wpList P ops Q rest (a.put o.dst v') w') :
    wpList P ops Q (o :: rest) a w := wpList_plain hgd fun _ hK => wp_append_gen s x t e ho z bytes ht hi hzs hn hby hf B v u l m hs hown hx hu hone hlen hbase fun v' w' h1 h2 h3 => hK _ _ (h v' w' h1 h2 h3)
end

end Go.Proofs.YtmmlpbepaefamaaGreatDoor

/- keep: what a crash keeps of a file. -/
namespace Go.Proofs.YtmmlpbepaefamaaGreatDoor
open Go.RowKit

/-- What a crash keeps of one file. -/
structure Kp where
  name : ByteArray
  ops : Int
  bytes : Int
def Kp.cells (k : Kp) : List Value := [.string k.name, .int .i64 k.ops, .int .i64 k.bytes]
/-- Is the keep of this file? -/
def isK (s : ByteArray) (k : Kp) : Bool := k.name.toList == s.toList
def keepOf (ks : List Kp) (s : ByteArray) : Int × Int := match ks.find? (isK s) with
  | some k => (max k.ops 0, max k.bytes 0)
  | none => (0, 0)
/-- Keeps that lie somewhere. -/
def KeepsAt (w : World) (v : Value) (ks : List Kp) : Prop :=
  (ks = [] ∧ ∃ a c, v = .slice a 0 c) ∨ ∃ g o c, v = .slice (some ⟨g, o, none⟩) ks.length c ∧ g < w.heap.size ∧ ∀ (k : Nat) (x : Kp), ks[k]? = some x → w.rangeAt g (o + k * 3) (Kp.cells x)
theorem rangeAt_low {w w' : World} {g o : Nat} {l : List Value} (h : w.rangeAt g o l) (hg : g < w.heap.size) (hb : Below w.heap.size w w') : w'.rangeAt g o l := fun j u hj => (hb.cell (p := ⟨g, o + j, none⟩) hg).trans (h j u hj)
theorem KeepsAt.low {w w' : World} {v : Value} {ks : List Kp} (h : KeepsAt w v ks) (hb : Below w.heap.size w w') : KeepsAt w' v ks := by
  rcases h with h | ⟨g, o, c, h1, h2, h3⟩
  · exact .inl h
  · exact .inr ⟨g, o, c, h1, Nat.lt_of_lt_of_le h2 hb.size, fun k x hx => rangeAt_low (h3 k x hx) h2 hb⟩
theorem KeepsAt.len {w : World} {v : Value} {ks : List Kp} (h : KeepsAt w v ks) : ∃ a c, v = .slice a ks.length c := by
  rcases h with ⟨rfl, a, c, rfl⟩ | ⟨g, o, c, h1, _, _⟩
  · exact ⟨a, c, rfl⟩
  · exact ⟨_, c, h1⟩
theorem KeepsAt.at {w : World} {a : Option Addr} {n c k : Nat} {ks : List Kp} {x : Kp} (h : KeepsAt w (.slice a n c) ks) (hx : ks[k]? = some x) : ∃ g o, a = some ⟨g, o, none⟩ ∧ g < w.heap.size ∧ w.rangeAt g (o + k * 3) (Kp.cells x) := by
  rcases h with ⟨rfl, _⟩ | ⟨g, o, c', h1, h2, h3⟩
  · simp at hx
  · injection h1 with h1
    exact ⟨g, o, h1, h2, h3 k x hx⟩

/-- One keep in a new row. -/
theorem KeepsAt.one {w w' : World} {S : Nat → Prop} (x : Kp) (ho : Only (w.alloc (.cells (Kp.cells x).toArray 117)) w' S) (hs : ¬ S w.heap.size) : KeepsAt w' (.slice (some ⟨w.heap.size, 0, none⟩) 1 1) [x] := by
  have hW : Whole w' w.heap.size 117 (Kp.cells x) := (Whole.new w 117 (Kp.cells x).toArray).only ho hs
  refine .inr ⟨_, 0, 1, rfl, hW.lt, fun k y hk j u hj => ?_⟩
  have hk1 : k < 1 := (List.getElem?_eq_some_iff.1 hk).1
  obtain rfl : k = 0 := by omega
  obtain rfl : x = y := by simpa using hk
  rw [hW.cell]
  simpa using hj
theorem zeroK : (Tryz.prog.info? 117).map (fun i => (i.zero, i.size)) = some (some (.agg #[.string ⟨#[]⟩, .int .i64 0, .int .i64 0]), 3) := by kernel_rfl
theorem lenK (a : Kp) : (Kp.cells a).length = 3 := rfl
theorem oneK (a : Kp) : (Kp.cells a).toArray.all (·.oneCell') = true := all_oneCell_toArray fun u hu => by
  simp [Kp.cells] at hu
  rcases hu with rfl | rfl | rfl <;> rfl
theorem sizeK : (Tryz.prog.info? 117).map (·.size) = some 3 := by kernel_rfl
theorem wpList_load_K {w : World} {ops : Array Oper} {rest : List Oper} {op : Oper} {a : Act} {Q : Exit → Act → World → Prop} (hgd : op.guard = none) (x : Operand) (ho : op.op = .load 117 x) (b o : Nat) (hx : a.eval x = .pointer (some ⟨b, o, none⟩)) (q : Kp) (hc : w.rangeAt b o (Kp.cells q))
    (h : wpList Tryz.prog ops Q rest (a.put op.dst (.agg (Kp.cells q).toArray)) w) : wpList Tryz.prog ops Q (op :: rest) a w := wpList_load_mid hgd 117 x ho b o hx (Kp.cells q) _ hc Tryz.underlying117 (by rfl) sizeK h

set_option maxRecDepth 100000 in
set_option maxHeartbeats 1000000 in
theorem closure_K (w : World) (R : Nat) (x : Kp) (s : ByteArray) (hR : Whole w R 9 [.string s]) :
    Calls Tryz.prog 68 #[.agg (Kp.cells x).toArray, .pointer (some ⟨R, 0, none⟩)] w fun e w' => e = .returned (.bool (isK s x)) ∧ Below w.heap.size w w' := by
  obtain ⟨nm, x1, x2⟩ := x
  have hBA : Below w.heap.size w (w.alloc (.cells #[.string nm, .int .i64 x1, .int .i64 x2] 117)) := (Below.refl _ _).alloc (Nat.le_refl _) _
  have hX := Whole.new w 117 #[.string nm, .int .i64 x1, .int .i64 x2]
  have hR0 := hR.alloc (.cells #[.string nm, .int .i64 x1, .int .i64 x2] 117)
  have y0 := hX.cell 0
  have r0 := hR0.cell 0
  clear hX hR0 hR
  obtain ⟨q, hq⟩ : ∃ q, (nm.toList == s.toList) = q := ⟨_, rfl⟩
  show Calls Tryz.prog 68 #[.agg #[.string nm, .int .i64 x1, .int .i64 x2], .pointer (some ⟨R, 0, none⟩)] w fun e w' => e = .returned (.bool (nm.toList == s.toList)) ∧ Below w.heap.size w w'
  rw [hq]
  generalize hw : (w.alloc (.cells #[.string nm, .int .i64 x1, .int .i64 x2] 117)) = w0 at *
  go_enter Tryz.func68, Tryz.ntmps68
  go_wp2_with (refine wpList_box_cells (by rfl) 117 _ (by rfl) #[.string nm, .int .i64 x1, .int .i64 x2] (by rfl) ?_; rw [hw])
  go_ret
  exact ⟨rfl, hBA⟩

set_option maxRecDepth 100000 in
set_option maxHeartbeats 2000000 in
theorem indexfunc_K (w : World) (R : Nat) (v : Value) (l : List Kp) (s : ByteArray) (hv : KeepsAt w v l) (hR : Whole w R 9 [.string s]) (hlen : l.length ≤ 9223372036854775806) :
    Calls Tryz.prog 67 #[v, .func (.func 68) #[] #[.pointer (some ⟨R, 0, none⟩)]] w fun e w' => ∃ i : Int, e = .returned (.int .i64 i) ∧ ((i = -1 ∧ l.find? (isK s) = none) ∨ ∃ (k : Nat) (x : Kp), i = k ∧ k < l.length ∧ l[k]? = some x ∧ l.find? (isK s) = some x) ∧ Below w.heap.size w w' := by
  obtain ⟨N, hN⟩ : ∃ N, l.length = N := ⟨_, rfl⟩
  obtain ⟨p, c, hp⟩ := hv.len
  rw [hN] at hp hlen
  subst hp
  have HN := Lib.hid hN
  have HV := Lib.hid hv
  have HR := Lib.hid hR
  have eg : ∀ args w, (callFunc 68 args).run Tryz.prog w = .ok (.enter 68 args) w := enters_of Tryz.func68 (by kernel_rfl) rfl
  clear hN hv hR
  go_enter Tryz.func67, Tryz.ntmps67
  go_wp2
  go_loopw [8] (fun i wr => ∃ k : Nat, k ≤ N ∧ i = .int .i64 k ∧ (∀ j x, j < k → l[j]? = some x → isK s x = false) ∧ Below w.heap.size w wr) (fun i _ => N - (intOf i).toNat)
  case atStart => exact ⟨0, by omega, rfl, fun j x hj => absurd hj (Nat.not_lt_zero _), Below.refl _ _⟩
  case round =>
    obtain ⟨k, hkN, rfl, hno, hB⟩ := hrel
    by_cases hlt : k < N
    · obtain ⟨x, hx⟩ : ∃ x, l[k]? = some x := ⟨_, List.getElem?_eq_getElem (by rw [HN.out]; exact hlt)⟩
      obtain ⟨g, o, rfl, hg, hrng⟩ := (HV.out.low hB).at hx
      have i1 : (k : Int) < (N : Int) := by omega
      have i2 : 0 ≤ (k : Int) ∧ (k : Int) < (N : Int) := by omega
      have b2 : IntKind.i64.wrap ((k : Int) + 1) = (k : Int) + 1 := IntWalk.i64_in _ (by omega)
      obtain ⟨a, ha⟩ : ∃ a, isK s x = a := ⟨_, rfl⟩
      have HCL := Lib.hid (ha ▸ closure_K wr R x s (HR.out.below hB HR.out.lt))
      have HX := Lib.hid (And.intro hx ha)
      have HNO := Lib.hid hno
      clear hx ha hno hg
      cases a
      · go_wp2_with (first
          | (refine wpList_load_K (by rfl) _ (by rfl) g (o + k * 3) (by rfl) x hrng ?_)
          | (go_at_fn 68; refine HCL.out.mono ?_; rintro e w2 ⟨rfl, hB2⟩))
        go_roundw
        case rel => exact ⟨k + 1, by omega, by go_num, fun j y hj hy => by
          by_cases hjk : j = k
          · subst hjk
            rw [HX.out.1] at hy
            injection hy with hy
            exact hy ▸ HX.out.2
          · exact HNO.out j y (by omega) hy, hB.trans (hB2.mono hB.size)⟩
        case measure => simp [intOf]; omega
      · go_wp2_with (first
          | (refine wpList_load_K (by rfl) _ (by rfl) g (o + k * 3) (by rfl) x hrng ?_)
          | (go_at_fn 68; refine HCL.out.mono ?_; rintro e w2 ⟨rfl, hB2⟩))
        go_ret
        refine ⟨k, rfl, .inr ⟨k, x, rfl, by rw [HN.out]; exact hlt, HX.out.1, ?_⟩, hB.trans (hB2.mono hB.size)⟩
        rw [List.find?_eq_some_iff_getElem]
        obtain ⟨h1, h2⟩ := List.getElem?_eq_some_iff.1 HX.out.1
        exact ⟨HX.out.2, k, h1, h2, fun j hj => by rw [HNO.out j _ hj (List.getElem?_eq_getElem _)]; rfl⟩
    · obtain rfl : k = N := by omega
      have i1 : ¬ (k : Int) < (k : Int) := by omega
      have hall := Lib.hid <| show l.find? (isK s) = none from List.find?_eq_none.2 fun x hx => by
        obtain ⟨j, hj⟩ := List.mem_iff_getElem?.1 hx
        rw [hno j x (by have := (List.getElem?_eq_some_iff.1 hj).1; rw [HN.out] at this; exact this) hj]
        exact Bool.false_ne_true
      go_wp2
      go_ret
      exact ⟨-1, rfl, .inl ⟨rfl, fun x hx => by simpa using List.find?_eq_none.1 hall.out x hx⟩, hB⟩

set_option maxRecDepth 100000 in
set_option maxHeartbeats 2000000 in
theorem keep_calls (w : World) (v : Value) (ks : List Kp) (s : ByteArray) (h : KeepsAt w v ks) (hlen : ks.length ≤ 9223372036854775806) :
    Calls Tryz.prog 36 #[v, .string s] w fun e w' => e = .returned (.tuple #[.int .i64 (keepOf ks s).1, .int .i64 (keepOf ks s).2]) ∧ Below w.heap.size w w' := by
  have b0 : Below w.heap.size w (w.alloc (.cells #[.string s] 9)) := (Below.refl _ _).alloc (Nat.le_refl _) _
  have HIX := Lib.hid (indexfunc_K (w.alloc (.cells #[.string s] 9)) w.heap.size v ks s (h.low b0) (Whole.new w 9 #[.string s]) hlen)
  obtain ⟨p, c, rfl⟩ := h.len
  have HV := Lib.hid h
  have HB := Lib.hid b0
  clear h b0
  generalize hw : w.alloc (.cells #[.string s] 9) = w0 at HIX HB
  go_enter Tryz.func36, Tryz.ntmps36
  go_upto_region 2 with (first
    | (go_at_fn 67; refine HIX.out.mono ?_; rintro e w1 ⟨i, rfl, hi, b1⟩)
    | (go_at_call 67; refine HIX.out.mono ?_; rintro e w1 ⟨i, rfl, hi, b1⟩)
    | fail)
  have B1 := HB.out.trans (b1.mono HB.out.size)
  rcases hi with ⟨rfl, hf⟩ | ⟨k, x, rfl, hk, hx, hf⟩
  · have HF := Lib.hid (show keepOf ks s = (0, 0) by unfold keepOf; rw [hf])
    clear hf
    go_wp2
    go_ret2
    exact ⟨by rw [HF.out]; rfl, B1⟩
  · obtain ⟨g, o, rfl, hg, hr⟩ := (HV.out.low B1).at hx
    have HF := Lib.hid (show keepOf ks s = (max x.ops 0, max x.bytes 0) by unfold keepOf; rw [hf])
    have i1 : ¬ (k : Int) < 0 := by omega
    have i2 : 0 ≤ (k : Int) ∧ (k : Int) < (ks.length : Int) := by omega
    have c1 : w1.cell? ⟨g, o + k * 3 + 1, none⟩ = some (.int .i64 x.ops) := hr 1 _ rfl
    have c2 : w1.cell? ⟨g, o + k * 3 + 2, none⟩ = some (.int .i64 x.bytes) := hr 2 _ rfl
    have m1 : (if x.ops < 0 then (0 : Int) else x.ops) = max x.ops 0 := by split <;> omega
    have m2 : (if x.bytes < 0 then (0 : Int) else x.bytes) = max x.bytes 0 := by split <;> omega
    generalize max x.ops 0 = M1 at m1 HF
    generalize max x.bytes 0 = M2 at m2 HF
    clear hf hr hx
    go_wp2
    go_still (by kernel_rfl)
    change Exit.then _ _ Exit.normal _ w1.drew
    go_wp2
    go_ret2
    exact ⟨by rw [HF.out]; rfl, B1.drew⟩

end Go.Proofs.YtmmlpbepaefamaaGreatDoor

/- Texts turned into bytes. -/
namespace Go.Proofs.YtmmlpbepaefamaaGreatDoor
open Go.RowKit

def bytesB (s : ByteArray) : List (BitVec 8) := s.data.toList.map UInt8.toBitVec
theorem bytesB_length (s : ByteArray) : (bytesB s).length = s.size := by
  unfold bytesB
  rw [List.length_map, Array.length_toList]
  rfl
theorem bytes_cell (s : ByteArray) (c k : Nat) (hk : k < s.size) : ∃ n : Nat, n < 256 ∧ (bytesRow s c)[k]? = some (.int .u8 (n : Int)) ∧ ∃ b, s.data.toList[k]? = some b ∧ b.toNat = n := by
  have hk' : k < s.data.size := hk
  refine ⟨(s.data[k]).toNat, UInt8.toNat_lt _, ?_, s.data[k], by simp, rfl⟩
  unfold bytesRow
  rw [Array.getElem?_append_left (by simpa using hk'), Array.getElem?_map, Array.getElem?_eq_getElem hk']
  rfl
theorem conv_slice (w : World) (s : ByteArray) (cap : Nat) (fr : Nat × Nat) : SliceIs (w.drew.alloc (.cells (bytesRow s cap) 5 fr)) (.slice (some ⟨w.heap.size, 0, none⟩) s.size cap) (bytesB s) := by
  refine .inr ⟨w.heap.size, 0, cap, by rw [bytesB_length], by simp, fun j y hj => ?_⟩
  have hjl : j < s.size := by
    have := (List.getElem?_eq_some_iff.1 hj).1
    rwa [bytesB_length] at this
  obtain ⟨n, _, h2, b, h3, h4⟩ := bytes_cell s cap j hjl
  unfold bytesB at hj
  rw [List.getElem?_map, h3] at hj
  have hy : b.toBitVec = y := by simpa using hj
  rw [Nat.zero_add, cell_of_row _ w.heap.size j _ 5 _ (heap_alloc_new w.drew _), h2, ← hy, ← h4]
  rfl
/-- '[]byte(s)'. -/
theorem wp_conv_text {w : World} {o : Oper} {a : Act} {K : Act → World → Prop} {Q : Exit → Act → World → Prop} (s : Operand) (ho : o.op = .convert 9 30 s) (c : ByteArray) (hs : a.eval s = .string c)
    (h : ∀ g k w', SliceIs w' (.slice (some ⟨g, 0, none⟩) c.size k) (bytesB c) → Below w.heap.size w w' → K (a.put o.dst (.slice (some ⟨g, 0, none⟩) c.size k)) w') : o.wp Tryz.prog a w K Q := by
  have hr := run_bytes_of_string (P := Tryz.prog) w 9 30 5 c Tryz.underlying9 Tryz.underlying30 Tryz.underlying5
  unfold Oper.wp execOp
  simp only [ho, hs, Sem.run_bind, hr, Result.andThen_ok, Sem.run_pure]
  exact h _ _ _ (conv_slice w c _ _) ((Below.refl _ _).drew.alloc (Nat.le_refl _) _)


theorem wpList_conv_text {w : World} {ops : Array Oper} {rest : List Oper} {o : Oper} {a : Act} {Q : Exit → Act → World → Prop} (hgd : o.guard = none) (s : Operand) (ho : o.op = .convert 9 30 s) (c : ByteArray) (hs : a.eval s = .string c)
    (h : ∀ g k w', SliceIs w' (.slice (some ⟨g, 0, none⟩) c.size k) (bytesB c) → Below w.heap.size w w' → wpList Tryz.prog ops Q rest (a.put o.dst (.slice (some ⟨g, 0, none⟩) c.size k)) w') : wpList Tryz.prog ops Q (o :: rest) a w :=
  wpList_plain hgd fun _ hK => wp_conv_text s ho c hs fun g k w' h1 h2 => hK _ _ (h g k w' h1 h2)

end Go.Proofs.YtmmlpbepaefamaaGreatDoor
