/- Rows of elements of n cells: one written over, a row's whole block. -/
import Derived.Test.YtglcingpolpkdaaALongX2
namespace Go.Proofs.Ytglcingpolpkdaa
open Go.RowKit

section
variable {α : Type} {f : α → List Value} {n : Nat}

/-- Elements of n cells in block g, which can be written over. -/
def RowG (f : α → List Value) (n : Nat) (w : World) (g : Nat) (l : List α) : Prop := ∀ i a, l[i]? = some a → w.rangeAt g (i * n) (f a) ∧ w.there g (i * n) n
theorem mul_apart {i x : Nat} (h : i ≠ x) (n : Nat) : i * n + n ≤ x * n ∨ x * n + n ≤ i * n := by
  rcases Nat.lt_or_gt_of_ne h with h | h
  · left
    rw [← Nat.succ_mul]
    exact Nat.mul_le_mul_right n h
  · right
    rw [← Nat.succ_mul]
    exact Nat.mul_le_mul_right n h
theorem RowG.set {w : World} {g x : Nat} {l : List α} (hf : ∀ a, (f a).length = n) (h : RowG f n w g l) (hx : x < l.length) (a : α) : RowG f n (w.setCells g (x * n) (f a)) g (l.set x a) := by
  intro i b hb
  have hi : i < l.length := by
    have := (List.getElem?_eq_some_iff.1 hb).1
    simpa using this
  obtain ⟨h1, h2⟩ := h i _ (List.getElem?_eq_getElem hi)
  have hl := hf a
  generalize hcs : f a = cs at hl ⊢
  refine ⟨?_, World.there_setCells h2 g (x * n) cs⟩
  by_cases hix : i = x
  · rw [hix, List.getElem?_set_self hx] at hb
    have hb := Option.some.inj hb
    rw [← hb, hcs, hix]
    rw [hix] at h2
    exact World.rangeAt_setCells_same w g (x * n) cs (hl ▸ h2)
  · rw [List.getElem?_set_ne (Ne.symm hix), List.getElem?_eq_getElem hi] at hb
    have hb := Option.some.inj hb
    rw [← hb]
    exact World.rangeAt_setCells_apart h1 g (x * n) cs (.inr (by rw [hf, hl]; exact mul_apart hix n))
theorem RowG.far {w w' : World} {g : Nat} {l : List α} (h : RowG f n w g l) (hb : ∀ i, w'.heap[g]? = w.heap[g]? → w'.cell? ⟨g, i, none⟩ = w.cell? ⟨g, i, none⟩) (hg : w'.heap[g]? = w.heap[g]?) (hz : ∀ i, w'.frozen? ⟨g, i, none⟩ = w.frozen? ⟨g, i, none⟩) : RowG f n w' g l := fun i a ha =>
  ⟨fun j v hv => (hb _ hg).trans ((h i a ha).1 j v hv), fun j hj => by rw [hb _ hg, hz]; exact (h i a ha).2 j hj⟩
theorem RowG.below {w w' : World} {g : Nat} {l : List α} (h : RowG f n w g l) (hb : Below w.heap.size w w') (hg : g < w.heap.size) : RowG f n w' g l := by
  have e := hb.block g hg
  exact h.far (fun i _ => World.cell?_of_block (a := ⟨g, i, none⟩) e) e (fun i => World.frozen?_of_block (a := ⟨g, i, none⟩) e)
theorem RowG.take {w : World} {g : Nat} {l : List α} (h : RowG f n w g l) (k : Nat) : RowG f n w g (l.take k) := fun i a ha => h i a (by
  rw [List.getElem?_take] at ha
  split at ha
  · exact ha
  · cases ha)
theorem whole_setCells {g : Nat} {e : TypeId} : ∀ (vs : List Value) (o : Nat) {w : World} {cur : List Value}, Whole w g e cur → ∃ cur', Whole (w.setCells g o vs) g e cur' ∧ cur'.length = cur.length
  | [], _, _, cur, h => ⟨cur, h, rfl⟩
  | v :: vs, o, _, _, h => by
    obtain ⟨cur', h1, h2⟩ := whole_setCells vs (o + 1) (h.put o v)
    exact ⟨cur', h1, by simpa using h2⟩
theorem only_setCells (g : Nat) : ∀ (vs : List Value) (o : Nat) (w : World), Only w (w.setCells g o vs) fun i => i = g
  | [], _, _ => Only.of_below (Below.refl _ _) _
  | v :: vs, o, w => ((Only.set w ⟨g, o, none⟩ v).trans (only_setCells g vs (o + 1) _)).weak fun _ _ h => h.elim id id
theorem flat_len (hf : ∀ a, (f a).length = n) (l : List α) : (l.flatMap f).length = l.length * n := by
  induction l with
  | nil => simp
  | cons a l ih => rw [List.flatMap_cons, List.length_append, ih, hf, List.length_cons, Nat.succ_mul, Nat.add_comm]
/-- The whole of an owned row. -/
theorem own_full {w : World} {B k g : Nat} {e : TypeId} {v : Value} {xs : List Value} (h : w.ownsRow B e n v k xs) (hg : v.ownBlock = some g) :
    ∃ cap cur, v = .slice (some ⟨g, 0, none⟩) k cap ∧ B ≤ g ∧ Whole w g e cur ∧ k ≤ cap ∧ cap ≤ maxLen ∧ cur.length = cap * n := by
  rcases h.2 with ⟨rfl, _⟩ | ⟨g', cap, cur, rfl, hb, hh, hle, hm, hs, _⟩
  · cases hg
  · have hg : g' = g := by simpa [Value.ownBlock] using hg
    subst hg
    exact ⟨cap, cur.toList, rfl, hb, hh, hle, hm, by simpa using hs⟩
theorem own_rowG {w : World} {B g k c : Nat} {e : TypeId} {l : List α} (hf : ∀ a, (f a).length = n) (h : w.ownsRow B e n (.slice (some ⟨g, 0, none⟩) k c) l.length (l.flatMap f)) : RowG f n w g l := fun i a ha => by
  obtain ⟨cap, cur, _, _, hW, _, _, _⟩ := own_full h rfl
  have hcell : ∀ j u, (f a)[j]? = some u → w.cell? ⟨g, i * n + j, none⟩ = some u := fun j u hj => by
    have h1 := flat_at hf l i a j u ha hj
    have := World.ownsRow.cells h (g := g) rfl _ _ h1
    rwa [Addr.add_lit, Nat.zero_add] at this
  exact ⟨hcell, fun j hj => ⟨by rw [hcell j _ (List.getElem?_eq_getElem (by rw [hf]; exact hj))]; rfl, hW.free _⟩⟩
theorem own_of {w : World} {B g cap : Nat} {e : TypeId} {cur : List Value} {l : List α} (hf : ∀ a, (f a).length = n) (hW : Whole w g e cur) (hc : cur.length = cap * n) (hb : B ≤ g) (hl : l.length ≤ cap) (hm : cap ≤ maxLen) (hr : RowG f n w g l) :
    w.ownsRow B e n (.slice (some ⟨g, 0, none⟩) l.length cap) l.length (l.flatMap f) := by
  refine ⟨flat_len hf l, .inr ⟨g, cap, cur.toArray, rfl, hb, hW, hl, hm, by simpa using hc, ?_⟩⟩
  apply List.ext_getElem?
  intro j
  rw [List.getElem?_take]
  by_cases hj : j < l.length * n
  · rw [if_pos hj]
    have hj' : j < (l.flatMap f).length := by rw [flat_len hf]; exact hj
    have hx := List.getElem?_eq_getElem hj'
    obtain ⟨i, r, a, rfl, ha, hr2⟩ := flat_inv hf l j _ hx
    have h1 := (hr i a ha).1 r _ hr2
    rw [hW.cell] at h1
    rw [hx, ← h1]
  · rw [if_neg hj, List.getElem?_eq_none (by rw [flat_len hf]; omega)]
theorem own_at {w : World} {B k c i : Nat} {e : TypeId} {p : Option Addr} {l : List α} {a : α} (hf : ∀ a, (f a).length = n) (h : w.ownsRow B e n (.slice p k c) l.length (l.flatMap f)) (ha : l[i]? = some a) : ∃ g, p = some ⟨g, 0, none⟩ ∧ w.rangeAt g (i * n) (f a) := by
  rcases row_shape h with ⟨he, hn⟩ | ⟨g, cap, he, _⟩
  · rw [List.eq_nil_of_length_eq_zero hn] at ha
    simp at ha
  · injection he with he _ _
    subst he
    exact ⟨g, rfl, (own_rowG hf h i a ha).1⟩
/-- 'clear(s)', s a slice of elements of several cells. -/
theorem run_clear_rows {P : Program} (w : World) (t e ty : TypeId) (z : Value) (ht : P.underlying t = some (.slice e)) (hv : ∀ w, (zeroValue e).run P w = .ok z w) (hz : z.cells.size = n) (hn0 : 0 < n) (h1 : ∀ v ∈ z.cells, v.oneCell' = true) (b o k c : Nat) (hk : 0 < k) (hth : w.there b o (k * n)) :
    (Builtin.clear_ #[t] ty #[.slice (some ⟨b, o, none⟩) k c]).run P w = .ok (.tuple #[]) (w.setCells b o (Builtin.zeroCells z.cells k).toList) := by
  have hl : (Builtin.zeroCells z.cells k).toList.length = k * n := by rw [Array.length_toList, size_zeroCells, hz]
  have hst := run_storeCells_cells (P := P) b o (Builtin.zeroCells z.cells k).toList 0 w (by rw [hl]; exact fun j hj => (hth j hj).1) (by rw [hl]; exact fun j hj => (hth j hj).2) (by
    intro v hv'
    have hv' : v ∈ Builtin.zeroCells z.cells k := by simpa using hv'
    unfold Builtin.zeroCells at hv'
    obtain ⟨i, hi, rfl⟩ := Array.mem_map.1 hv'
    have hlt : i % z.cells.size < z.cells.size := Nat.mod_lt _ (by omega)
    rw [getElem!_pos z.cells _ hlt]
    exact h1 _ (Array.getElem_mem hlt))
  simp only [Nat.add_zero] at hst
  obtain ⟨m, rfl⟩ : ∃ m, k = m + 1 := ⟨k - 1, by omega⟩
  simp [Builtin.clear_, run_underlying ht, hv, hst]

theorem whole_rangeG {w : World} {g : Nat} {t : TypeId} {cs : List Value} (h : Whole w g t cs) : w.rangeAt g 0 cs := fun j v hj => by
  rw [Nat.zero_add, h.cell]
  exact hj
theorem RowG.front {w : World} {g : Nat} {l : List α} (hf : ∀ a, (f a).length = n) (h : RowG f n w g l) (i : Nat) (vs : List Value) : RowG f n (w.setCells g (i * n) vs) g (l.take i) := fun k a ha => by
  rw [List.getElem?_take] at ha
  split at ha
  · rename_i hk
    obtain ⟨h1, h2⟩ := h k a ha
    refine ⟨World.rangeAt_setCells_apart h1 g (i * n) vs (.inr (.inl ?_)), World.there_setCells h2 _ _ _⟩
    rw [hf, ← Nat.succ_mul]
    exact Nat.mul_le_mul_right n hk
  · cases ha

/-- While a list is filtered in its own row: i elements are kept of the first j. -/
structure Filt (q : α → Bool) (l ls : List α) (i j : Nat) : Prop where
  lt : i < j
  len : ls.length = l.length
  done : ls.take i = (l.take j).filter fun x => !q x
  rest : ∀ k, j ≤ k → ls[k]? = l[k]?
theorem Filt.start {q : α → Bool} {l : List α} {k : Nat} {x : α} (hx : l[k]? = some x) (hq : q x = true) (hn : ∀ j x, j < k → l[j]? = some x → q x = false) : Filt q l l k (k + 1) := by
  have hk : k < l.length := (List.getElem?_eq_some_iff.1 hx).1
  refine ⟨Nat.lt_succ_self k, rfl, ?_, fun _ _ => rfl⟩
  rw [List.take_succ_eq_append_getElem hk, (List.getElem?_eq_some_iff.1 hx).2, List.filter_append]
  have e1 : (l.take k).filter (fun x => !q x) = l.take k := List.filter_eq_self.2 fun a ha => by
    obtain ⟨j, hj⟩ := List.mem_iff_getElem?.1 ha
    rw [List.getElem?_take] at hj
    split at hj
    · rw [hn j a (by assumption) hj]
      rfl
    · cases hj
  rw [e1]
  simp [hq]
theorem Filt.skip {q : α → Bool} {l ls : List α} {i j : Nat} {x : α} (h : Filt q l ls i j) (hx : l[j]? = some x) (hq : q x = true) : Filt q l ls i (j + 1) := by
  have hj : j < l.length := (List.getElem?_eq_some_iff.1 hx).1
  refine ⟨by have := h.lt; omega, h.len, ?_, fun k hk => h.rest k (by omega)⟩
  rw [List.take_succ_eq_append_getElem hj, (List.getElem?_eq_some_iff.1 hx).2, List.filter_append, h.done]
  simp [hq]
theorem Filt.keep {q : α → Bool} {l ls : List α} {i j : Nat} {x : α} (h : Filt q l ls i j) (hx : l[j]? = some x) (hq : q x = false) : Filt q l (ls.set i x) (i + 1) (j + 1) := by
  have hj : j < l.length := (List.getElem?_eq_some_iff.1 hx).1
  have hi : i < ls.length := by rw [h.len]; have := h.lt; omega
  refine ⟨by have := h.lt; omega, by rw [List.length_set, h.len], ?_, fun k hk => ?_⟩
  · rw [List.take_succ_eq_append_getElem hj, (List.getElem?_eq_some_iff.1 hx).2, List.filter_append, ← h.done, List.take_succ_eq_append_getElem (by rw [List.length_set]; exact hi), List.getElem_set_self, List.take_set_of_le (Nat.le_refl _)]
    simp [hq]
  · rw [List.getElem?_set_ne (by have := h.lt; omega), h.rest k (by omega)]
theorem Filt.end_ {q : α → Bool} {l ls : List α} {i : Nat} (h : Filt q l ls i l.length) : ls.take i = l.filter fun x => !q x := by
  have := h.done
  rwa [List.take_length] at this
end

end Go.Proofs.Ytglcingpolpkdaa

/- slices.IndexFunc and DeleteFunc of rules with Revoke's closure. -/
namespace Go.Proofs.Ytglcingpolpkdaa
open Go.RowKit

theorem lenR (a : Rl) : (Rl.cells a).length = 4 := rfl
theorem oneR (a : Rl) : (Rl.cells a).toArray.all (·.oneCell') = true := all_oneCell_toArray fun u hu => by
  simp [Rl.cells] at hu
  rcases hu with rfl | rfl | rfl | rfl <;> rfl
theorem sizeR : (Try.prog.info? 29).map (·.size) = some 4 := by kernel_rfl
theorem infoR : (Try.prog.info? 29).map (fun i => (i.zero, i.size)) = some (some (.agg #[.string ⟨#[]⟩, .int .i64 0, .string ⟨#[]⟩, .bool false]), 4) := by kernel_rfl

theorem wpList_load_R {w : World} {ops : Array Oper} {rest : List Oper} {op : Oper} {a : Act} {Q : Exit → Act → World → Prop} (hgd : op.guard = none) (x : Operand) (ho : op.op = .load 29 x) (b o : Nat) (hx : a.eval x = .pointer (some ⟨b, o, none⟩)) (q : Rl) (hc : w.rangeAt b o (Rl.cells q))
    (h : wpList Try.prog ops Q rest (a.put op.dst (.agg (Rl.cells q).toArray)) w) : wpList Try.prog ops Q (op :: rest) a w := wpList_load_mid hgd 29 x ho b o hx (Rl.cells q) _ hc Try.underlying29 (by rfl) sizeR h
theorem wpList_store_R {w : World} {ops : Array Oper} {rest : List Oper} {op : Oper} {a : Act} {Q : Exit → Act → World → Prop} (hgd : op.guard = none) (x y : Operand) (ho : op.op = .store 29 x y) (b o : Nat) (q : Rl) (hx : a.eval x = .pointer (some ⟨b, o, none⟩)) (hy : a.eval y = .agg (Rl.cells q).toArray) (ht : w.there b o 4)
    (h : wpList Try.prog ops Q rest (a.put op.dst undef) (w.setCells b o (Rl.cells q))) : wpList Try.prog ops Q (op :: rest) a w :=
  wpList_store_mid hgd 29 x y ho b o (Rl.cells q).toArray hx hy (by simpa [lenR] using ht) (by rw [sizeR]; simp [lenR]) (oneR q) (by simpa using h)
theorem wpList_new_R {w : World} {ops : Array Oper} {rest : List Oper} {op : Oper} {a : Act} {Q : Exit → Act → World → Prop} (hgd : op.guard = none) (x y : Operand) (ho : op.op = .store 29 x y) (q : Rl) (hx : a.eval x = .pointer (some ⟨w.heap.size, 0, none⟩)) (hy : a.eval y = .agg (Rl.cells q).toArray)
    (h : wpList Try.prog ops Q rest (a.put op.dst undef) (w.alloc (.cells (Rl.cells q).toArray 29))) : wpList Try.prog ops Q (op :: rest) a (w.alloc (.cells #[.string ⟨#[]⟩, .int .i64 0, .string ⟨#[]⟩, .bool false] 29)) :=
  wpList_store_new hgd 29 x y ho #[.string ⟨#[]⟩, .int .i64 0, .string ⟨#[]⟩, .bool false] (Rl.cells q).toArray 29 hx hy (by rw [sizeR]; simp [lenR]) (by simp [lenR]) (oneR q) h

set_option maxRecDepth 100000 in
set_option maxHeartbeats 1000000 in
theorem closure_R (w : World) (R : Nat) (x r : Rl) (hR : Whole w R 29 (Rl.cells r)) :
    Calls Try.prog 53 #[.agg (Rl.cells x).toArray, .pointer (some ⟨R, 0, none⟩)] w fun e w' => e = .returned (.bool (eqR x r)) ∧ Below w.heap.size w w' := by
  obtain ⟨who, what, key, deny⟩ := x
  obtain ⟨swho, swhat, skey, sdeny⟩ := r
  have hBA : Below w.heap.size w (w.alloc (.cells #[.string who, .int .i64 what, .string key, .bool deny] 29)) := (Below.refl _ _).alloc (Nat.le_refl _) _
  have hX := Whole.new w 29 #[.string who, .int .i64 what, .string key, .bool deny]
  have hR0 := hR.alloc (.cells #[.string who, .int .i64 what, .string key, .bool deny] 29)
  replace hR0 : Whole (w.alloc (.cells #[.string who, .int .i64 what, .string key, .bool deny] 29)) R 29 [.string swho, .int .i64 swhat, .string skey, .bool sdeny] := hR0
  obtain ⟨a, ha⟩ : ∃ a, eqR ⟨who, what, key, deny⟩ ⟨swho, swhat, skey, sdeny⟩ = a := ⟨_, rfl⟩
  have hq : ∀ w, (Op.equalIn 10000 29 (.agg #[.string who, .int .i64 what, .string key, .bool deny]) (.agg #[.string swho, .int .i64 swhat, .string skey, .bool sdeny])).run Try.prog w = .ok a w := fun w => by
    rw [← ha]
    exact eql_rule w _ _ _ _ _ _ _ _
  have hgd : Try.prog.eqGuardType Try.prog.depth 29 = false := by kernel_rfl
  have x0 := hX.cell 0
  have r0 := hR0.cell 0
  have x1 := hX.cell 1
  have r1 := hR0.cell 1
  have x2 := hX.cell 2
  have r2 := hR0.cell 2
  have x3 := hX.cell 3
  have r3 := hR0.cell 3
  rw [ha]
  clear hX hR0 ha hR
  generalize hw : (w.alloc (.cells #[.string who, .int .i64 what, .string key, .bool deny] 29)) = w0 at *
  show Calls Try.prog 53 #[.agg #[.string who, .int .i64 what, .string key, .bool deny], .pointer (some ⟨R, 0, none⟩)] w _
  go_enter Try.func53, Try.ntmps53
  go_wp2_with (refine wpList_box_cells (by rfl) 29 _ (by rfl) #[.string who, .int .i64 what, .string key, .bool deny] (by rfl) ?_; rw [hw])
  go_ret
  exact ⟨rfl, hBA⟩

set_option maxRecDepth 100000 in
set_option maxHeartbeats 2000000 in
theorem indexfunc_R (w : World) (B R : Nat) (v : Value) (l : List Rl) (r : Rl) (hv : OwnR w B v l) (hR : Whole w R 29 (Rl.cells r)) (hlen : l.length ≤ 1000) :
    Calls Try.prog 90 #[v, .func (.func 53) #[] #[.pointer (some ⟨R, 0, none⟩)]] w fun e w' => ∃ i : Int, e = .returned (.int .i64 i) ∧ ((i = -1 ∧ ∀ x ∈ l, eqR x r = false) ∨ ∃ k : Nat, i = k ∧ k < l.length ∧ (∃ x, l[k]? = some x ∧ eqR x r = true) ∧ ∀ j x, j < k → l[j]? = some x → eqR x r = false) ∧ Below w.heap.size w w' := by
  obtain ⟨N, hN⟩ : ∃ N, l.length = N := ⟨_, rfl⟩
  obtain ⟨p, c, hp⟩ := slice_of_row hv
  rw [hN] at hp hlen
  subst hp
  have HN := Lib.hid hN
  have HV := Lib.hid hv
  have HR := Lib.hid hR
  have eg : ∀ args w, (callFunc 53 args).run Try.prog w = .ok (.enter 53 args) w := enters_of Try.func53 (by kernel_rfl) rfl
  clear hN hv hR
  go_enter Try.func90, Try.ntmps90
  go_wp2
  go_loopw [8] (fun i wr => ∃ k : Nat, k ≤ N ∧ i = .int .i64 k ∧ (∀ j x, j < k → l[j]? = some x → eqR x r = false) ∧ Below w.heap.size w wr) (fun i _ => N - (intOf i).toNat)
  case atStart => exact ⟨0, by omega, rfl, fun j x hj => absurd hj (Nat.not_lt_zero _), Below.refl _ _⟩
  case round =>
    obtain ⟨k, hkN, rfl, hno, hB⟩ := hrel
    by_cases hlt : k < N
    · obtain ⟨x, hx⟩ : ∃ x, l[k]? = some x := ⟨_, List.getElem?_eq_getElem (by rw [HN.out]; exact hlt)⟩
      obtain ⟨g, rfl, hrng⟩ := own_at lenR (row_low HV.out hB) hx
      have i1 : (k : Int) < (N : Int) := by omega
      have i2 : 0 ≤ (k : Int) ∧ (k : Int) < (N : Int) := by omega
      have b2 : IntKind.i64.wrap ((k : Int) + 1) = (k : Int) + 1 := IntWalk.i64_in _ (by omega)
      obtain ⟨a, ha⟩ : ∃ a, eqR x r = a := ⟨_, rfl⟩
      have HCL := Lib.hid (ha ▸ closure_R wr R x r (HR.out.below hB HR.out.lt))
      have HX := Lib.hid (And.intro hx ha)
      have HNO := Lib.hid hno
      clear hx ha hno
      cases a
      · go_wp2_with (first
          | (refine wpList_load_R (by rfl) _ (by rfl) g (k * 4) (by rfl) x hrng ?_)
          | (go_at_fn 53; refine HCL.out.mono ?_; rintro e w2 ⟨rfl, hB2⟩))
        go_roundw
        case rel => exact ⟨k + 1, by omega, by go_num, fun j y hj hy => by
          by_cases hjk : j = k
          · subst hjk
            rw [HX.out.1] at hy
            injection hy with hy
            exact hy ▸ HX.out.2
          · exact HNO.out j y (by omega) hy, hB.trans (hB2.mono hB.size)⟩
        case measure => simp [intOf]; omega
      · go_wp2_with (first
          | (refine wpList_load_R (by rfl) _ (by rfl) g (k * 4) (by rfl) x hrng ?_)
          | (go_at_fn 53; refine HCL.out.mono ?_; rintro e w2 ⟨rfl, hB2⟩))
        go_ret
        exact ⟨k, rfl, .inr ⟨k, rfl, by rw [HN.out]; exact hlt, ⟨x, HX.out.1, HX.out.2⟩, HNO.out⟩, hB.trans (hB2.mono hB.size)⟩
    · obtain rfl : k = N := by omega
      have i1 : ¬ (k : Int) < (k : Int) := by omega
      have hall : ∀ x ∈ l, eqR x r = false := fun x hx => by
        obtain ⟨j, hj⟩ := List.mem_iff_getElem?.1 hx
        exact hno j x (by have := (List.getElem?_eq_some_iff.1 hj).1; rw [HN.out] at this; exact this) hj
      go_wp2
      go_ret
      exact ⟨-1, rfl, .inl ⟨rfl, hall⟩, hB⟩

/-- While the row is filtered. -/
structure DelR (w wr : World) (g R cap : Nat) (l : List Rl) (r : Rl) (ls : List Rl) : Prop where
  row : RowG Rl.cells 4 wr g ls
  whole : ∃ cur, Whole wr g 29 cur ∧ cur.length = cap * 4
  held : Whole wr R 29 (Rl.cells r)
  only : Only w wr fun i => i = g
theorem DelR.on {w wr w' : World} {g R cap : Nat} {l : List Rl} {r : Rl} {ls : List Rl} (h : DelR w wr g R cap l r ls) (hb : Below wr.heap.size wr w') : DelR w w' g R cap l r ls := by
  obtain ⟨cur, hW, hc⟩ := h.whole
  exact ⟨h.row.below hb hW.lt, ⟨cur, hW.below hb hW.lt, hc⟩, h.held.below hb h.held.lt, (h.only.trans (Only.of_below hb fun _ => False)).weak fun _ _ h => h.elim id False.elim⟩
theorem DelR.set {w wr : World} {g R cap i : Nat} {l : List Rl} {r : Rl} {ls : List Rl} (h : DelR w wr g R cap l r ls) (hR : g ≠ R) (hi : i < ls.length) (x : Rl) : DelR w (wr.setCells g (i * 4) (Rl.cells x)) g R cap l r (ls.set i x) := by
  obtain ⟨cur, hW, hc⟩ := h.whole
  obtain ⟨cur', hW', hc'⟩ := whole_setCells (Rl.cells x) (i * 4) hW
  have ho := only_setCells g (Rl.cells x) (i * 4) wr
  exact ⟨h.row.set lenR hi x, ⟨cur', hW', hc'.trans hc⟩, h.held.only ho (Ne.symm hR), (h.only.trans ho).weak fun _ _ h => h.elim id id⟩

set_option maxRecDepth 100000 in
set_option maxHeartbeats 4000000 in
/-- DeleteFunc of a row that holds the element. -/
theorem deletefunc_R (w : World) (B R g : Nat) (v : Value) (l : List Rl) (r : Rl) (hv : OwnR w B v l) (hg : v.ownBlock = some g) (hR : Whole w R 29 (Rl.cells r)) (hgR : g ≠ R) (hlen : l.length ≤ 1000) (hin : ∃ x ∈ l, eqR x r = true) :
    Calls Try.prog 52 #[v, .func (.func 53) #[] #[.pointer (some ⟨R, 0, none⟩)]] w fun e w' => ∃ v', e = .returned v' ∧ OwnR w' B v' (l.filter fun x => !eqR x r) ∧ v'.ownBlock = some g ∧ Only w w' fun i => i = g := by
  obtain ⟨N, hN⟩ : ∃ N, l.length = N := ⟨_, rfl⟩
  have IDX := Lib.hid (indexfunc_R w B R v l r hv hR hlen)
  obtain ⟨cap, cur, hp, hBg, hW, hcap, hmax, hcl⟩ := own_full hv hg
  have hD0 : DelR w w g R cap l r l := ⟨own_rowG lenR (by rw [hp] at hv; exact hv), ⟨cur, hW, hcl⟩, hR, Only.of_below (Below.refl _ _) _⟩
  rw [hN] at hp hlen hcap
  subst hp
  have HN := Lib.hid hN
  have HIN := Lib.hid hin
  have eg : ∀ args w, (callFunc 53 args).run Try.prog w = .ok (.enter 53 args) w := enters_of Try.func53 (by kernel_rfl) rfl
  have HD0 := Lib.hid hD0
  clear hN hv hR hW hcl hin hD0
  go_enter Try.func52, Try.ntmps52
  go_wp2_with (go_at_call 90; (refine IDX.out.mono ?_; rintro e w1 ⟨i0, rfl, hi, hB1⟩; obtain ⟨k0, rfl, hk0, hx0, hn0⟩ : ∃ k : Nat, i0 = k ∧ k < l.length ∧ (∃ x, l[k]? = some x ∧ eqR x r = true) ∧ ∀ j x, j < k → l[j]? = some x → eqR x r = false := hi.elim (fun h => by
    obtain ⟨x, hx, hq⟩ := HIN.out
    exact absurd hq (by rw [h.2 x hx]; simp)) id; have hne : ¬ (k0 : Int) = -1 := (by omega)))
  rw [HN.out] at hk0
  have b0 : wrap64 ((k0 : Int) + 1) = (k0 : Int) + 1 := by
    unfold wrap64
    omega
  generalize ((k0 : Int) == -1) = c0
  generalize wrap64 ((k0 : Int) + 1) = z0 at b0 ⊢
  have HZ := Lib.hid b0
  clear b0
  obtain ⟨x0, hx0, hq0⟩ := hx0
  have HF0 := Lib.hid (Filt.start hx0 hq0 hn0)
  have HD1 := Lib.hid (HD0.out.on hB1)
  clear hx0 hq0 hn0 hi
  go_loopw [5, 6] (fun a b wr => ∃ (i j : Nat) (ls : List Rl), a = .int .i64 i ∧ b = .int .i64 j ∧ j ≤ N ∧ Filt (fun x => eqR x r) l ls i j ∧ DelR w wr g R cap l r ls) (fun _ b _ => N - (intOf b).toNat)
  case atStart => exact ⟨k0, k0 + 1, l, rfl, by rw [HZ.out]; rfl, by omega, HF0.out, HD1.out⟩
  case round =>
    obtain ⟨i, j, ls, rfl, rfl, hjN, hF, hD⟩ := hrel
    clear HF0 HD1 IDX HD0
    have hij := hF.lt
    have hll : ls.length = N := hF.len.trans HN.out
    by_cases hlt : j < N
    · obtain ⟨x, hx⟩ : ∃ x, l[j]? = some x := ⟨_, List.getElem?_eq_getElem (by rw [HN.out]; exact hlt)⟩
      have hxs := (hF.rest j (Nat.le_refl _)).trans hx
      have hrng := (hD.row j x hxs).1
      have i1 : (j : Int) < (N : Int) := by omega
      have i2 : 0 ≤ (j : Int) ∧ (j : Int) < (N : Int) := by omega
      have i3 : 0 ≤ (i : Int) ∧ (i : Int) < (N : Int) := by omega
      have b2 : IntKind.i64.wrap ((j : Int) + 1) = (j : Int) + 1 := IntWalk.i64_in _ (by omega)
      have b3 : IntKind.i64.wrap ((i : Int) + 1) = (i : Int) + 1 := IntWalk.i64_in _ (by omega)
      obtain ⟨q, hq⟩ : ∃ q, eqR x r = q := ⟨_, rfl⟩
      have hBA : Below wr.heap.size wr (wr.alloc (.cells (Rl.cells x).toArray 29)) := (Below.refl _ _).alloc (Nat.le_refl _) _
      have hWX := Whole.new wr 29 (Rl.cells x).toArray
      have hDA := hD.on hBA
      have HCL := Lib.hid (hq ▸ closure_R (wr.alloc (.cells (Rl.cells x).toArray 29)) R x r hDA.held)
      have HX := Lib.hid (And.intro hx hq)
      have HF := Lib.hid hF
      have HD := Lib.hid hDA
      have HW := Lib.hid hWX
      have hld := whole_rangeG hWX
      clear hx hxs hq hF hD hDA hWX hBA
      cases q
      · go_wp2_with (first
          | (refine wpList_store_R (by rfl) _ _ (by rfl) g (i * 4) x (by rfl) (by rfl) hth2 ?_; have hD3 := hD2.set hgR (show i < ls.length by omega) x; generalize (w2.setCells g (i * 4) (Rl.cells x)) = w3 at hD3 ⊢)
          | (refine wpList_load_R (by rfl) _ (by rfl) wr.heap.size 0 (by rfl) x hld2 ?_)
          | (go_at_fn 53; refine HCL.out.mono ?_; rintro e w2 ⟨rfl, hB2⟩; have hld2 := whole_rangeG (HW.out.below hB2 HW.out.lt); have hD2 := HD.out.on hB2; obtain ⟨y, hy⟩ : ∃ y, ls[i]? = some y := ⟨_, List.getElem?_eq_getElem (by omega)⟩; have hth2 := (hD2.row i y hy).2; clear hy)
          | (refine wpList_load_R (by rfl) _ (by rfl) wr.heap.size 0 (by rfl) x hld ?_)
          | (refine wpList_load_R (by rfl) _ (by rfl) g (j * 4) (by rfl) x hrng ?_)
          | (refine wpList_alloc_row (by rfl) 29 (by rfl) _ _ infoR ?_)
          | (refine wpList_new_R (by rfl) _ _ (by rfl) x (by rfl) (by rfl) ?_))
        go_roundw
        case rel => exact ⟨i + 1, j + 1, ls.set i x, by go_num, by go_num, by omega, HF.out.keep HX.out.1 HX.out.2, hD3⟩
        case measure => simp [intOf]; omega
      · go_wp2_with (first
          | (go_at_fn 53; refine HCL.out.mono ?_; rintro e w2 ⟨rfl, hB2⟩; have hD2 := HD.out.on hB2)
          | (refine wpList_load_R (by rfl) _ (by rfl) wr.heap.size 0 (by rfl) x hld ?_)
          | (refine wpList_load_R (by rfl) _ (by rfl) g (j * 4) (by rfl) x hrng ?_)
          | (refine wpList_alloc_row (by rfl) 29 (by rfl) _ _ infoR ?_)
          | (refine wpList_new_R (by rfl) _ _ (by rfl) x (by rfl) (by rfl) ?_))
        go_roundw
        case rel => exact ⟨i, j + 1, ls, rfl, by go_num, by omega, HF.out.skip HX.out.1 HX.out.2, hD2⟩
        case measure => simp [intOf]; omega
    · obtain rfl : j = N := by omega
      have i1 : ¬ (j : Int) < (j : Int) := by omega
      have i3 : 0 ≤ (i : Int) ∧ (i : Int) ≤ (j : Int) := by omega
      have hth : wr.there g (i * 4) ((j - i) * 4) := fun t ht => by
        obtain ⟨cur, hW, hc⟩ := hD.whole
        have hlt2 : i * 4 + t < cur.length := by omega
        exact ⟨by rw [hW.cell, List.getElem?_eq_getElem hlt2]; rfl, hW.free _⟩
      have hcl : ∀ ty, (Builtin.clear_ #[49] ty #[.slice (some ⟨g, i * 4, none⟩) (j - i) (cap - i)]).run Try.prog wr = .ok (.tuple #[]) (wr.setCells g (i * 4) (Builtin.zeroCells #[.string ⟨#[]⟩, .int .i64 0, .string ⟨#[]⟩, .bool false] (j - i)).toList) := fun ty =>
        run_clear_rows (n := 4) wr _ 29 ty (.agg #[.string ⟨#[]⟩, .int .i64 0, .string ⟨#[]⟩, .bool false]) Try.underlying49 (fun w => by kernel_rfl) rfl (by decide) (by intro v hv; simp [Value.cells] at hv; rcases hv with rfl | rfl | rfl | rfl <;> rfl) g (i * 4) (j - i) (cap - i) (by omega) hth
      clear hth
      go_wp2
      go_ret
      obtain ⟨cur, hW, hc⟩ := hD.whole
      obtain ⟨cur', hW', hc'⟩ := whole_setCells (Builtin.zeroCells #[.string ⟨#[]⟩, .int .i64 0, .string ⟨#[]⟩, .bool false] (j - i)).toList (i * 4) hW
      have hfin := hF
      rw [← HN.out] at hfin
      have hl2 : (l.filter fun x => !eqR x r).length = i := by
        rw [← hfin.end_, List.length_take, hll]
        omega
      have hrow := hD.row.front lenR i (Builtin.zeroCells #[.string ⟨#[]⟩, .int .i64 0, .string ⟨#[]⟩, .bool false] (j - i)).toList
      rw [hfin.end_] at hrow
      have hown := own_of (B := B) lenR hW' (hc'.trans hc) hBg (by rw [hl2]; omega) hmax hrow
      rw [hl2] at hown
      refine ⟨_, rfl, ?_, rfl, (hD.only.trans (only_setCells g _ _ wr)).weak fun _ _ h => h.elim id id⟩
      unfold OwnR
      rw [hl2]
      exact hown

end Go.Proofs.Ytglcingpolpkdaa
