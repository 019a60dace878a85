/- Words for memory: a block that is known whole, and bytes and numbers that lie somewhere. -/
import Derived.Laws.OwnMore
import Derived.Deep.Draws
import Derived.Deep.AppendLies
import Derived.Laws.Rows
import Derived.Laws.Tables
import Derived.Deep.WholeRow
import Derived.Lib.Hide
import Derived.ChangeKeysEq
import Derived.Test.YtmmlpbepaefamaaGreatDoorProg
import Derived.WideShapes
import Derived.MapKept
import Derived.OwnWalk
import Derived.Laws.AppendOwnNone
import Derived.Test.YtmmlpbepaefamaaGreatDoorNum
namespace Go.Proofs.YtmmlpbepaefamaaGreatDoor
open Go.RowKit

/-- Block g holds just the cells l, of the element type t; all may be written. -/
def Whole (w : World) (g : Nat) (t : TypeId) (l : List Value) : Prop := w.heap[g]? = some (.cells l.toArray t (0, 0))

section
variable {w w' : World} {g : Nat} {t : TypeId} {l : List Value}
theorem Whole.lt (h : Whole w g t l) : g < w.heap.size := (Array.getElem?_eq_some_iff.1 h).1
theorem Whole.cell (h : Whole w g t l) (i : Nat) : w.cell? ⟨g, i, none⟩ = l[i]? := by
  rw [cell_of_row w g i _ t _ h]; simp
theorem Whole.cell_of (h : Whole w g t l) {i : Nat} {v : Value} (hv : l[i]? = some v) : w.cell? ⟨g, i, none⟩ = some v := (h.cell i).trans hv
theorem Whole.free (h : Whole w g t l) (i : Nat) : w.frozen? ⟨g, i, none⟩ = false := frozen_of_row w g i _ t h
theorem Whole.new (w : World) (t : TypeId) (cs : Array Value) : Whole (w.alloc (.cells cs t)) w.heap.size t cs.toList := heap_alloc_new w _
theorem Whole.drew (h : Whole w g t l) : Whole w.drew g t l := h
theorem Whole.drewN (h : Whole w g t l) (n : Nat) : Whole (w.drewN n) g t l := h
theorem Whole.alloc (h : Whole w g t l) (o : Obj) : Whole (w.alloc o) g t l := (Below.heap_alloc w o g h.lt).trans h
theorem Whole.put (h : Whole w g t l) (i : Nat) (u : Value) : Whole (w.setCell ⟨g, i, none⟩ u) g t (l.set i u) := by
  unfold Whole at h ⊢
  simp [World.setCell, Array.getElem?_modify, h]
theorem Whole.far (h : Whole w g t l) {p : Addr} (hp : g ≠ p.block) (u : Value) : Whole (w.setCell p u) g t l := (Below.heap_setCell w p u g hp).trans h
theorem Whole.below {B : Nat} (h : Whole w g t l) (hb : Below B w w') (hg : g < B) : Whole w' g t l := (hb.block g hg).trans h
theorem Whole.grown {row : Option Nat} (h : Whole w g t l) (hb : w.grownBy w' row) (hg : some g ≠ row) : Whole w' g t l := (hb.block g h.lt hg).trans h
theorem Whole.row (h : Whole w g t l) (cs : List Value) : Whole (w.setRow g cs.toArray) g t cs := setRow_heap w g _ _ t _ h
theorem Whole.row_far (h : Whole w g t l) {k : Nat} (hk : k ≠ g) (cs : Array Value) : Whole (w.setRow k cs) g t l := by
  unfold Whole at h ⊢
  simp only [World.setRow, Array.getElem?_modify]
  rw [if_neg hk]
  exact h
end

/-- Bytes lie in block b from o on. -/
def BytesAt (w : World) (b o : Nat) (l : List (BitVec 8)) : Prop := ∀ j x, l[j]? = some x → w.cell? ⟨b, o + j, none⟩ = some (vu8 x)

section
variable {w w' : World} {b o : Nat} {l : List (BitVec 8)}
theorem BytesAt.keep (h : BytesAt w b o l) (hk : ∀ i, w'.cell? ⟨b, i, none⟩ = w.cell? ⟨b, i, none⟩) : BytesAt w' b o l := fun j x hx => (hk _).trans (h j x hx)
theorem BytesAt.below {B : Nat} (h : BytesAt w b o l) (hb : Below B w w') (hl : b < B) : BytesAt w' b o l := h.keep fun i => hb.cell (p := ⟨b, i, none⟩) hl
theorem BytesAt.grown {row : Option Nat} (h : BytesAt w b o l) (hg : w.grownBy w' row) (hl : b < w.heap.size) (hne : some b ≠ row) : BytesAt w' b o l :=
  h.keep fun i => World.cell?_of_block (a := ⟨b, i, none⟩) (hg.block b hl hne)
theorem BytesAt.alloc (h : BytesAt w b o l) (hl : b < w.heap.size) (ob : Obj) : BytesAt (w.alloc ob) b o l := h.keep fun i => World.cell?_alloc_lt w ob ⟨b, i, none⟩ hl
theorem BytesAt.drop (h : BytesAt w b o l) (n : Nat) : BytesAt w b (o + n) (l.drop n) := fun j x hx => by
  rw [Nat.add_assoc]
  exact h _ x (by rw [← hx, List.getElem?_drop])
theorem BytesAt.take (h : BytesAt w b o l) (n : Nat) : BytesAt w b o (l.take n) := fun j x hx => h j x (by
  rw [List.getElem?_take] at hx
  split at hx
  · exact hx
  · cases hx)
theorem BytesAt.at_ (h : BytesAt w b o l) {i : Nat} (hi : i < l.length) : w.cell? ⟨b, o + i, none⟩ = some (vu8 (l.getD i 0)) := by
  refine h i _ ?_
  simp [List.getElem?_eq_getElem hi]
theorem BytesAt.of_whole {g : Nat} {t : TypeId} {pre post : List Value} {bs : List (BitVec 8)} (h : Whole w g t (pre ++ bs.map vu8 ++ post)) (ho : pre.length = o) : BytesAt w g o bs := fun j x hx => by
  have hj : j < bs.length := (List.getElem?_eq_some_iff.1 hx).1
  rw [h.cell, List.getElem?_append_left (by simp; omega), List.getElem?_append_right (by omega)]
  simp [← ho, hx]
end

/-- What a growth of memory keeps: as 'grownBy', told from an elder world on. -/
theorem grown_trans {a b c : World} {row : Option Nat} (h : a.grownBy b row) (k : b.grownBy c row) : a.grownBy c row :=
  ⟨k.os.trans h.os, k.tape.trans h.tape, k.output.trans h.output, Nat.le_trans h.size k.size, fun i hi hne => (k.block i (Nat.lt_of_lt_of_le hi h.size) hne).trans (h.block i hi hne)⟩
theorem grown_drew {a w : World} {row : Option Nat} (h : a.grownBy w row) : a.grownBy w.drew row := ⟨h.os, h.tape, h.output, h.size, h.block⟩
theorem grown_drewN {a w : World} {row : Option Nat} (h : a.grownBy w row) (n : Nat) : a.grownBy (w.drewN n) row := ⟨h.os, h.tape, h.output, h.size, h.block⟩
theorem grown_alloc {a w : World} {row : Option Nat} (h : a.grownBy w row) (o : Obj) : a.grownBy (w.alloc o) row :=
  ⟨h.os, h.tape, h.output, Nat.le_trans h.size (by simp), fun i hi hne => (Below.heap_alloc w o i (Nat.lt_of_lt_of_le hi h.size)).trans (h.block i hi hne)⟩
theorem grown_set {a w : World} {row : Option Nat} (h : a.grownBy w row) {p : Addr} (hp : row = some p.block ∨ a.heap.size ≤ p.block) (u : Value) : a.grownBy (w.setCell p u) row :=
  ⟨h.os, h.tape, h.output, by simpa using h.size, fun i hi hne => (Below.heap_setCell w p u i (by
    rintro rfl
    rcases hp with hp | hp
    · exact hne hp.symm
    · omega)).trans (h.block i hi hne)⟩
theorem grown_row {a w : World} {row : Option Nat} (h : a.grownBy w row) {g : Nat} (hp : row = some g ∨ a.heap.size ≤ g) (cs : Array Value) : a.grownBy (w.setRow g cs) row :=
  ⟨h.os, h.tape, h.output, by simpa [World.setRow] using h.size, fun i hi hne => by
    have : g ≠ i := by
      rintro rfl
      rcases hp with hp | hp
      · exact hne hp.symm
      · omega
    simp only [World.setRow, Array.getElem?_modify]
    rw [if_neg this]
    exact h.block i hi hne⟩
theorem grown_below {a w : World} (h : a.grownBy w none) : Below a.heap.size a w := ⟨h.os, h.tape, h.output, h.size, fun i hi => h.block i hi (by simp)⟩
theorem below_grown {a w : World} (h : Below a.heap.size a w) (row : Option Nat) : a.grownBy w row := ⟨h.os, h.tape, h.output, h.size, fun i hi _ => h.block i hi⟩

/-- A variable of an array's or a struct's type: its zero value stays behind a name. -/
theorem wpList_alloc_row {P : Program} {ops : Array Oper} {rest : List Oper} {o : Oper} {a : Act} {w : World} {Q : Exit → Act → World → Prop} (hg : o.guard = none) (t : TypeId) (ho : o.op = .alloc t)
    (Z : Array Value) (n : Nat) (hz : (P.info? t).map (fun i => (i.zero, i.size)) = some (some (.agg Z), n))
    (h : wpList P ops Q rest (a.put o.dst (.pointer (some ⟨w.heap.size, 0, none⟩))) (w.alloc (.cells Z t))) : wpList P ops Q (o :: rest) a w :=
  wpList_plain hg fun K hK => by
    have hzero := (zero_of_info hz).1
    unfold Oper.wp execOp
    simp only [ho]
    simp [Instr.alloc, hzero, newVar, Value.cells, newRow]
    exact hK _ _ h

/-- The same variable, filled at once. -/
theorem wpList_store_new {P : Program} {ops : Array Oper} {rest : List Oper} {o : Oper} {a : Act} {w : World} {Q : Exit → Act → World → Prop} (hgd : o.guard = none) (ty : TypeId) (x y : Operand) (ho : o.op = .store ty x y)
    (Z cells : Array Value) (t : TypeId) (hx : a.eval x = .pointer (some ⟨w.heap.size, 0, none⟩)) (hy : a.eval y = .agg cells) (hi : (P.info? ty).map (·.size) = some cells.size) (hold : Z.size = cells.size) (h1 : cells.all (·.oneCell') = true)
    (h : wpList P ops Q rest (a.put o.dst undef) (w.alloc (.cells cells t))) : wpList P ops Q (o :: rest) a (w.alloc (.cells Z t)) :=
  wpList_plain hgd fun K hK => wp_store_row ty x y ho w.heap.size cells hx hy t Z (heap_alloc_last w _) hi hold h1 (by rw [World.setRow_alloc_new]; exact hK _ _ h)

theorem all_one {l : List Value} (h : ∀ v ∈ l, v.oneCell' = true) : l.toArray.all (·.oneCell') = true :=
  Array.all_eq_true_iff_forall_mem.2 fun v hv => h v (by simpa using hv)
theorem all_u32 (l : List (BitVec 32)) : (l.map vu32).toArray.all (·.oneCell') = true := all_one fun v hv => by
  obtain ⟨x, _, rfl⟩ := List.mem_map.1 hv
  rfl
theorem all_u8 (l : List (BitVec 8)) : (l.map vu8).toArray.all (·.oneCell') = true := all_one fun v hv => by
  obtain ⟨x, _, rfl⟩ := List.mem_map.1 hv
  rfl

/-- A piece of a function's code: 0 and 1 a sequence's two parts, 2 a block's or a loop's body, 3 and 4 the two ways of a test. -/
def subCode : List Nat → Code → Code
  | [], c => c
  | 0 :: p, .seq a _ => subCode p a
  | 1 :: p, .seq _ b => subCode p b
  | 2 :: p, .block _ c => subCode p c
  | 2 :: p, .loop c => subCode p c
  | 3 :: p, .cond _ a _ => subCode p a
  | 4 :: p, .cond _ _ b => subCode p b
  | _ :: _, c => c

/-- Zeros. -/
def zeroNums (k : IntKind) (n : Nat) : List Value := List.replicate n (.int k 0)

theorem zero_bytes (n : Nat) : zeroNums .u8 n = (List.replicate n (0#8)).map vu8 := by simp [zeroNums, vu8]

/-- A value built of parts, its cells behind a name. -/
theorem wpList_build_as {P : Program} {ops : Array Oper} {rest : List Oper} {o : Oper} {a : Act} {w : World} {Q : Exit → Act → World → Prop} (hg : o.guard = none) (t : TypeId) (parts : Array (Nat × Operand)) (ho : o.op = .build t parts)
    (cells : Array Value) (hb : P.built t (parts.map fun (i, x) => (i, a.eval x)).toList = some cells)
    (h : wpList P ops Q rest (a.put o.dst (.agg cells)) w) : wpList P ops Q (o :: rest) a w :=
  wpList_build hg t parts ho (by rw [hb]; rfl) (by rw [hb]; exact h)

section
variable {P : Program} (w : World) {t e : TypeId} {n : Nat} {i : TypeInfo}
theorem run_items_bytes (d : Nat) (he : P.underlying e = some (.int .u8)) (xs ys : List (BitVec 8)) (hx : xs.length = n) (hy : ys.length = n) :
    ∀ is : List Nat, (∀ j ∈ is, j < n) → (Op.eqItems (d + 1) e 1 (xs.map vu8).toArray (ys.map vu8).toArray is).run P w = .ok (is.all fun j => xs.getD j 0 == ys.getD j 0) w
  | [], _ => by simp [Op.eqItems]
  | j :: is, h => by
    have hj : j < n := h j (List.mem_cons_self ..)
    have ih := run_items_bytes d he xs ys hx hy is fun k hk => h k (List.mem_cons_of_mem _ hk)
    have part_at : ∀ zs : List (BitVec 8), zs.length = n → (part e (zs.map vu8).toArray j).run P w = .ok (vu8 (zs.getD j 0)) w := fun zs hz => by
      simp [part, isAgg, run_underlying he, List.getElem?_eq_getElem (show j < zs.length by omega)]
    have hone : (Op.equalIn (d + 1) e (vu8 (xs.getD j 0)) (vu8 (ys.getD j 0))).run P w = .ok (xs.getD j 0 == ys.getD j 0) w := by
      have h1 : (Op.equalIn (d + 1) e (vu8 (xs.getD j 0)) (vu8 (ys.getD j 0))).run P w = .ok ((((xs.getD j 0).toNat : Int)) == ((ys.getD j 0).toNat : Int)) w :=
        run_equalIn_int w d e .u8 .u8 ((xs.getD j 0).toNat : Int) ((ys.getD j 0).toNat : Int) he
      rw [h1]
      congr 1
      rw [Bool.eq_iff_iff]
      simp only [beq_iff_eq, ← BitVec.toNat_inj]
      omega
    simp only [Op.eqItems, Sem.run_bind, Nat.mul_one, part_at xs hx, part_at ys hy, Result.andThen_ok, hone, List.all_cons]
    cases hc : (xs.getD j 0 == ys.getD j 0)
    · simp
    · simp [ih]

theorem all_same {α : Type} [DecidableEq α] (z : α) (xs ys : List α) (hx : xs.length = n) (hy : ys.length = n) : ((List.range n).all fun j => xs.getD j z == ys.getD j z) = decide (xs = ys) := by
  rw [Bool.eq_iff_iff]
  simp only [List.all_eq_true, List.mem_range, beq_iff_eq, decide_eq_true_eq]
  constructor
  · intro h
    refine List.ext_getElem (by omega) fun j h1 h2 => ?_
    have := h j (by omega)
    simpa [List.getElem?_eq_getElem h1, List.getElem?_eq_getElem h2] using this
  · rintro rfl j _
    rfl

/-- Two arrays of bytes are held against each other. -/
theorem run_equal_bytes (hu : P.underlying t = some (.array n e)) (hi : P.info? e = some i) (hs : i.size = 1) (he : P.underlying e = some (.int .u8)) (xs ys : List (BitVec 8)) (hx : xs.length = n) (hy : ys.length = n) :
    (Op.equalIn 10000 t (.agg (xs.map vu8).toArray) (.agg (ys.map vu8).toArray)).run P w = .ok (decide (xs = ys)) w := by
  have hc : P.cellsOf e = 1 := by simp [Program.cellsOf, hi, hs]
  rw [run_equalIn_array w 9999 _ _ hu hi, hc, run_items_bytes w 9998 he xs ys hx hy _ (fun j hj => List.mem_range.1 hj), all_same _ _ _ hx hy]
theorem run_eql_bytes (hu : P.underlying t = some (.array n e)) (hi : P.info? e = some i) (hs : i.size = 1) (he : P.underlying e = some (.int .u8)) (xs ys : List (BitVec 8)) (hx : xs.length = n) (hy : ys.length = n) :
    (binOp .eql t (.agg (xs.map vu8).toArray) (.agg (ys.map vu8).toArray)).run P w = .ok (.bool (decide (xs = ys))) w := by
  rw [run_eql_struct, run_equal_bytes w hu hi hs he xs ys hx hy]; rfl
theorem run_neq_bytes (hu : P.underlying t = some (.array n e)) (hi : P.info? e = some i) (hs : i.size = 1) (he : P.underlying e = some (.int .u8)) (xs ys : List (BitVec 8)) (hx : xs.length = n) (hy : ys.length = n) :
    (binOp .neq t (.agg (xs.map vu8).toArray) (.agg (ys.map vu8).toArray)).run P w = .ok (.bool (!decide (xs = ys))) w := by
  rw [run_neq_struct, run_equal_bytes w hu hi hs he xs ys hx hy]; rfl
end

end Go.Proofs.YtmmlpbepaefamaaGreatDoor

/- reliquarykit.Pick: a number below another. -/
namespace Go.Proofs.YtmmlpbepaefamaaGreatDoor
open Go.RowKit

end Go.Proofs.YtmmlpbepaefamaaGreatDoor

/- Arguments of a struct's type: cells of which each fits in one, so they can be boxed. -/
namespace Go.Proofs.YtmmlpbepaefamaaGreatDoor
open Go.RowKit Go.WideShapes

theorem cell_one {P : Program} {w : World} {r : Reach} {base : Nat} {t : TypeId} {v : Value} (h : Cell.okWide P w r base t v) : v.oneCell' = true := by
  cases v <;> first
    | rfl
    | (exfalso; revert h; unfold Cell.okWide Cell.ok; intro h; split at h <;> first | (exact h.elim) | (split at h <;> first | exact h.elim | (rename_i hx; cases hx) | simp_all) | simp_all)

/-- A struct handed in: n cells, each of one. -/
theorem struct_cells {P : Program} {w : World} {r : Reach} {base : Nat} {t : TypeId} {v : Value} {fs : Array Field} {n : Nat} (ht : P.underlying t = some (.struct fs)) (hn : P.cellsOf t = n) (h : Value.okWide P w r base t v) :
    ∃ cs : List Value, v = .agg cs.toArray ∧ cs.length = n ∧ ∀ x ∈ cs, x.oneCell' = true := by
  unfold Value.okWide at h
  rw [ht] at h
  obtain ⟨cs, rfl, hs, ts, hts, _, hc⟩ := h
  refine ⟨cs.toList, by simp, by simpa [hn] using hs, fun x hx => ?_⟩
  obtain ⟨i, hi, rfl⟩ := List.getElem_of_mem hx
  obtain ⟨u, _, hu⟩ := hc i cs.toList[i] (by simp)
  exact cell_one hu

/-- A struct handed in: each cell is of its own type. -/
theorem struct_typed {P : Program} {w : World} {r : Reach} {base : Nat} {t : TypeId} {v : Value} {fs : Array Field} {n : Nat} {ts : List TypeId} (ht : P.underlying t = some (.struct fs)) (hn : P.cellsOf t = n) (hts : P.cellTypes P.depth t = some ts) (h : Value.okWide P w r base t v) :
    ∃ cs : List Value, v = .agg cs.toArray ∧ cs.length = n ∧ ∀ (i : Nat) (x : Value) (u : TypeId), cs[i]? = some x → ts[i]? = some u → Cell.okWide P w r base u x := by
  unfold Value.okWide at h
  rw [ht] at h
  obtain ⟨cs, rfl, hs, ts', hts', _, hc⟩ := h
  obtain rfl : ts = ts' := Option.some.inj (hts.symm.trans hts')
  refine ⟨cs.toList, by simp, by simpa [hn] using hs, fun i x u hx hu => ?_⟩
  obtain ⟨u', hu', hok⟩ := hc i x (by simpa using hx)
  have hi : i < ts.length := (List.getElem?_eq_some_iff.1 hu).1
  rw [Nat.mod_eq_of_lt hi, hu] at hu'
  obtain rfl : u = u' := Option.some.inj hu'
  exact hok
theorem cell_string {P : Program} {w : World} {r : Reach} {base : Nat} {t : TypeId} {v : Value} (ht : P.underlying t = some .string) (h : Cell.okWide P w r base t v) : ∃ s, v = .string s :=
  okWide_string (r := r) (base := base) (w := w) ht (by unfold Value.okWide; rw [ht]; exact h)
theorem cell_int {P : Program} {w : World} {r : Reach} {base : Nat} {t : TypeId} {v : Value} {k : IntKind} (ht : P.underlying t = some (.int k)) (h : Cell.okWide P w r base t v) : ∃ n, v = .int k n :=
  okWide_int (r := r) (base := base) (w := w) ht (by unfold Value.okWide; rw [ht]; exact h)

/-- '&T{..}', or a variable that is boxed: the cells of what it holds, in a new block. -/
theorem wpList_box_cells {P : Program} {ops : Array Oper} {rest : List Oper} {o : Oper} {a : Act} {w : World} {Q : Exit → Act → World → Prop} (hg : o.guard = none) (t : TypeId) (x : Operand) (ho : o.op = .box t x)
    (cells : Array Value) (hx : a.eval x = .agg cells)
    (h : wpList P ops Q rest (a.put o.dst (.pointer (some ⟨w.heap.size, 0, none⟩))) (w.alloc (.cells cells t))) : wpList P ops Q (o :: rest) a w :=
  wpList_plain hg fun K hK => by
    unfold Oper.wp execOp
    simp only [ho, hx]
    simp [Instr.box, newVar, Value.cells, newRow]
    exact hK _ _ h
end Go.Proofs.YtmmlpbepaefamaaGreatDoor

/- A slice of one element, whatever its cells: '[]T{x}', or the last arguments of append. -/
namespace Go.Proofs.YtmmlpbepaefamaaGreatDoor
open Go.RowKit

theorem fold_fill : ∀ (l pre b : List Value), b.length = l.length → (l.zipIdx pre.length).foldl (fun (a : Array Value) (p : Value × Nat) => a.setIfInBounds p.2 p.1) (pre ++ b).toArray = (pre ++ l).toArray
  | [], pre, b, h => by
    obtain rfl : b = [] := List.eq_nil_of_length_eq_zero h
    rfl
  | c :: l, pre, [], h => by simp at h
  | c :: l, pre, b0 :: b, h => by
    have ih := fold_fill l (pre ++ [c]) b (by simpa using h)
    rw [List.zipIdx_cons, List.foldl_cons]
    have e1 : (pre ++ b0 :: b).toArray.setIfInBounds pre.length c = ((pre ++ [c]) ++ b).toArray := by
      rw [List.setIfInBounds_toArray]
      simp
    rw [e1]
    simpa using ih
theorem fill_val (v : Value) (cs base : Array Value) (n : Nat) (hv : v.cells = cs) (hc : cs.size = n) (hb : base.size = n) : Instr.fill (fun i => some (i * n, n)) base [(0, v)] = some cs := by
  have h := fold_fill cs.toList [] base.toList (by simp [hc, hb])
  unfold Instr.fill
  simp only [hv, Nat.zero_mul, Nat.zero_add, hc, hb]
  rw [if_neg (by simp)]
  unfold Instr.fill
  congr 1
  simp only [List.nil_append, Array.toArray_toList, List.length_nil] at h
  rw [← Array.foldl_toList, Array.toList_zipIdx]
  exact h
theorem run_slice_val {P : Program} (w : World) {t e : TypeId} {n : Nat} {z : Value} (ht : P.underlying t = some (.slice e)) (hz : (P.info? e).map (fun i => (i.zero, i.size)) = some (some z, n)) (hn : 0 < n) (hn2 : n ≤ 1000) (v : Value) (cs : Array Value) (hv : v.cells = cs) (hc : cs.size = n) :
    (Instr.buildSlice t 1 #[(0, v)]).run P w = .ok (.slice (some ⟨w.heap.size, 0, none⟩) 1 1) (w.alloc (.cells cs e)) := by
  obtain ⟨hzero, hsz⟩ := zero_of_info hz
  obtain ⟨i, hi, hin⟩ := Option.map_eq_some_iff.1 hsz
  have hs : (sizeOf e).run P w = .ok n w := by
    rw [run_sizeOf w hi]
    simp [Program.cellsOf, hi, hin]
  have hf := fill_val v cs ((Array.range (1 * n)).map (z.cells[· % z.cells.size]!)) n hv hc (by simp)
  have hn3 : ¬ 1 * n > 2 ^ 24 := by omega
  have hn4 : ¬ 1 * n = 0 := by omega
  unfold Instr.buildSlice
  simp only [Sem.run_bind, run_underlying ht, Result.andThen_ok, hs, if_neg hn3, if_neg hn4, hzero, Sem.run_pure, hf]
  simp [newRow]
theorem run_slice_one {P : Program} (w : World) {t e : TypeId} {n : Nat} {z : Value} (ht : P.underlying t = some (.slice e)) (hz : (P.info? e).map (fun i => (i.zero, i.size)) = some (some z, n)) (hn : 0 < n) (hn2 : n ≤ 1000) (cs : Array Value) (hc : cs.size = n) :
    (Instr.buildSlice t 1 #[(0, .agg cs)]).run P w = .ok (.slice (some ⟨w.heap.size, 0, none⟩) 1 1) (w.alloc (.cells cs e)) := run_slice_val w ht hz hn hn2 _ cs rfl hc

/-- '[]T{x}' in a walk. -/
theorem wpList_slice_one {P : Program} {ops : Array Oper} {rest : List Oper} {o : Oper} {a : Act} {w : World} {Q : Exit → Act → World → Prop} (hg : o.guard = none) (t e : TypeId) (x : Operand) (ho : o.op = .buildSlice t 1 #[(0, x)]) (cs : Array Value) (hx : a.eval x = .agg cs) {n : Nat} {z : Value}
    (ht : P.underlying t = some (.slice e)) (hz : (P.info? e).map (fun i => (i.zero, i.size)) = some (some z, n)) (hn : 0 < n) (hn2 : n ≤ 1000) (hc : cs.size = n)
    (h : wpList P ops Q rest (a.put o.dst (.slice (some ⟨w.heap.size, 0, none⟩) 1 1)) (w.alloc (.cells cs e))) : wpList P ops Q (o :: rest) a w :=
  wpList_plain hg fun K hK => by
    unfold Oper.wp execOp
    simp only [ho]
    simp [hx, run_slice_one w ht hz hn hn2 cs hc]
    exact hK _ _ h

/-- '[]T{x}', x a single cell, in a walk. -/
theorem wpList_slice_cell {P : Program} {ops : Array Oper} {rest : List Oper} {o : Oper} {a : Act} {w : World} {Q : Exit → Act → World → Prop} (hg : o.guard = none) (t e : TypeId) (x : Operand) (ho : o.op = .buildSlice t 1 #[(0, x)]) (u : Value) (hx : a.eval x = u) (hu : u.cells = #[u]) {z : Value}
    (ht : P.underlying t = some (.slice e)) (hz : (P.info? e).map (fun i => (i.zero, i.size)) = some (some z, 1))
    (h : wpList P ops Q rest (a.put o.dst (.slice (some ⟨w.heap.size, 0, none⟩) 1 1)) (w.alloc (.cells #[u] e))) : wpList P ops Q (o :: rest) a w :=
  wpList_plain hg fun K hK => by
    unfold Oper.wp execOp
    simp only [ho]
    simp [hx, run_slice_val w ht hz (by decide) (by decide) u #[u] hu rfl]
    exact hK _ _ h

end Go.Proofs.YtmmlpbepaefamaaGreatDoor

/- Maps with numbers as keys, and the map of the budgets. -/
namespace Go.Proofs.YtmmlpbepaefamaaGreatDoor
open Go.RowKit Go.MapKept

theorem whole_ne_map {w : World} {g m : Nat} {t : TypeId} {l : List Value} {ents : Array MapEntry} {c : Nat} (h : Whole w g t l) (hm : w.heap[m]? = some (.map ents c)) : g ≠ m := fun e => by
  subst e
  unfold Whole at h
  rw [hm] at h
  cases h
theorem whole_ne_whole {w : World} {g k : Nat} {t : TypeId} {l : List Value} {t' : TypeId} {l' : List Value} (h : Whole w g t l) (h' : Whole w k t' l') (hl : l.length ≠ l'.length) : g ≠ k := fun e => by
  subst e
  unfold Whole at h h'
  rw [h] at h'
  injection h' with h'
  injection h' with h' _ _
  have := congrArg Array.size h'
  simp at this
  exact hl this

/-- Block m is a map with these entries. -/
def MapI (w : World) (m : Nat) (l : List (Int × Int)) : Prop :=
  ∃ ents c, w.heap[m]? = some (.map ents c) ∧ ents.toList.map (fun e => (e.key, e.val)) = l.map fun p => (Value.int .i64 p.1, Value.int .i64 p.2)
def findI : List (Int × Int) → Int → Option Int
  | [], _ => Option.none
  | p :: l, k => if k = p.1 then some p.2 else findI l k
def setI : List (Int × Int) → Int → Int → List (Int × Int)
  | [], k, v => [(k, v)]
  | p :: l, k, v => if k = p.1 then (k, v) :: l else p :: setI l k v
theorem MapI.lt {w : World} {m : Nat} {l : List (Int × Int)} (h : MapI w m l) : m < w.heap.size := by
  obtain ⟨_, _, h, _⟩ := h
  exact (Array.getElem?_eq_some_iff.1 h).1
theorem MapI.of_block {w w' : World} {m : Nat} {l : List (Int × Int)} (h : MapI w m l) (hb : w'.heap[m]? = w.heap[m]?) : MapI w' m l := by
  obtain ⟨e, c, h, hl⟩ := h
  exact ⟨e, c, hb.trans h, hl⟩
theorem MapI.new (w : World) : MapI (w.alloc (.map #[] 0)) w.heap.size [] := ⟨#[], 0, heap_alloc_new w _, rfl⟩

theorem whole_ne_mapI {w : World} {g m : Nat} {t : TypeId} {l : List Value} {l' : List (Int × Int)} (h : Whole w g t l) (hm : MapI w m l') : g ≠ m := by
  obtain ⟨e, c, hm, _⟩ := hm
  exact whole_ne_map h hm

theorem findNow_I (k : Int) : ∀ (es : List MapEntry) (l : List (Int × Int)) (i : Nat), es.map (fun e => (e.key, e.val)) = l.map (fun p => (Value.int .i64 p.1, Value.int .i64 p.2)) →
    (Instr.findNow (.int .i64) (.int .i64 k) es i = some Option.none ∧ findI l k = Option.none ∧ ∀ v, setI l k v = l ++ [(k, v)]) ∨
    ∃ j v, Instr.findNow (.int .i64) (.int .i64 k) es i = some (some (i + j, .int .i64 v)) ∧ findI l k = some v ∧ (∃ e, es[j]? = some e ∧ e.key = .int .i64 k) ∧ ∀ v', setI l k v' = l.set j (k, v')
  | [], [], _, _ => .inl ⟨rfl, rfl, fun _ => rfl⟩
  | [], _ :: _, _, h => by simp at h
  | _ :: _, [], _, h => by simp at h
  | e :: es, p :: l, i, h => by
    simp only [List.map_cons, List.cons.injEq, Prod.mk.injEq] at h
    obtain ⟨⟨h1, h2⟩, h3⟩ := h
    have hs : Instr.sameNow (.int .i64) (.int .i64 k) e.key = some (k == p.1) := by rw [h1]; simp [Instr.sameNow]
    by_cases hk : k = p.1
    · have hb : (k == p.1) = true := by simpa using hk
      refine .inr ⟨0, p.2, ?_, ?_, ⟨e, rfl, by rw [h1, hk]⟩, fun v' => ?_⟩
      · simp only [Instr.findNow, hs, hb, h2, Nat.add_zero]
      · simp only [findI, if_pos hk]
      · simp only [setI, if_pos hk, List.set_cons_zero]
    · have hb : (k == p.1) = false := by simpa using hk
      rcases findNow_I k es l (i + 1) h3 with ⟨a1, a2, a3⟩ | ⟨j, v, a1, a2, a3, a4⟩
      · refine .inl ⟨?_, ?_, fun v => ?_⟩
        · simp only [Instr.findNow, hs, hb, a1]
        · simp only [findI, if_neg hk, a2]
        · simp only [setI, if_neg hk, a3, List.cons_append]
      · refine .inr ⟨j + 1, v, ?_, ?_, a3, fun v' => ?_⟩
        · simp only [Instr.findNow, hs, hb, a1]
          rw [show i + 1 + j = i + (j + 1) by omega]
        · simp only [findI, if_neg hk, a2]
        · simp only [setI, if_neg hk, a4, List.set_cons_succ]

section
variable {P : Program} {w : World} {T K E : TypeId} {m : Nat} {l : List (Int × Int)}
theorem look_I (hT : P.underlying T = some (.map K E)) (hK : P.underlying K = some (.int .i64)) (h : MapI w m l) (k : Int) (hz : (zeroValue E).run P w = .ok (.int .i64 0) w) :
    (Instr.lookup T (.map (some m)) (.int .i64 k) false).run P w = .ok (.int .i64 ((findI l k).getD 0)) w := by
  obtain ⟨ents, c, hm, hl⟩ := h
  have hk : IsKey (.int .i64) (.int .i64 k) := by simp [IsKey]
  unfold Instr.lookup
  rcases findNow_I k ents.toList l 0 hl with ⟨hr, he, _⟩ | ⟨j, v, hr, he, _, _⟩
  · simp only [Sem.run_bind, run_underlying hT, Result.andThen_ok, MapKept.run_getObj_map hm, Sem.run_pure, MapKept.run_checkKey hK hk, MapKept.run_findKey hK hr]
    rw [he]
    simp [hz]
  · simp only [Sem.run_bind, run_underlying hT, Result.andThen_ok, MapKept.run_getObj_map hm, Sem.run_pure, MapKept.run_checkKey hK hk, MapKept.run_findKey hK hr]
    rw [he]
    simp
theorem put_I (hT : P.underlying T = some (.map K E)) (hK : P.underlying K = some (.int .i64)) (h : MapI w m l) (k v : Int) :
    ∃ w', (Instr.mapUpdate T (.map (some m)) (.int .i64 k) (.int .i64 v)).run P w = .ok () w' ∧ MapI w' m (setI l k v) ∧ w.grownBy w' (some m) := by
  obtain ⟨ents, c, hm, hl⟩ := h
  have hk : IsKey (.int .i64) (.int .i64 k) := by simp [IsKey]
  have hlt : m < w.heap.size := (Array.getElem?_eq_some_iff.1 hm).1
  have hgr : ∀ o, w.grownBy { w with heap := w.heap.setIfInBounds m o } (some m) := fun o => ⟨rfl, rfl, rfl, by simp, fun i hi hne => by
    have : m ≠ i := fun h => hne (by rw [h])
    simp [this]⟩
  rcases findNow_I k ents.toList l 0 hl with ⟨hr, he, hs⟩ | ⟨j, v0, hr, he, hj, hs⟩
  · refine ⟨{ w with heap := w.heap.setIfInBounds m (.map (ents.push { key := .int .i64 k, val := .int .i64 v, born := c }) (c + 1)) }, ?_, ⟨ents.push { key := .int .i64 k, val := .int .i64 v, born := c }, c + 1, ?_, ?_⟩, hgr _⟩
    · unfold Instr.mapUpdate
      simp only [Sem.run_bind, run_underlying hT, Result.andThen_ok, MapKept.run_getObj_map hm, MapKept.run_checkKey hK hk, MapKept.run_findKey hK hr, MapKept.run_setObj_map _ hm]
    · simp [hlt]
    · rw [hs]
      simp [hl]
  · obtain ⟨e0, he0, hkey⟩ := hj
    have hj2 : j < ents.size := by
      have := (List.getElem?_eq_some_iff.1 he0).1
      simpa using this
    have hkey : (ents[j]).key = .int .i64 k := by
      rw [Array.getElem?_toList, Array.getElem?_eq_getElem hj2] at he0
      rw [Option.some.inj he0]
      exact hkey
    refine ⟨{ w with heap := w.heap.setIfInBounds m (.map (ents.modify j fun e => { e with key := .int .i64 k, val := .int .i64 v }) c) }, ?_, ⟨ents.modify j fun e => { e with key := .int .i64 k, val := .int .i64 v }, c, by simp [hlt], ?_⟩, hgr _⟩
    · unfold Instr.mapUpdate
      rw [Nat.zero_add] at hr
      simp only [Sem.run_bind, run_underlying hT, Result.andThen_ok, MapKept.run_getObj_map hm, MapKept.run_checkKey hK hk, MapKept.run_findKey hK hr]
      rw [Array.getElem?_eq_getElem hj2]
      simp only [Option.map_some, Option.getD_some, hkey, MapKept.run_keyThatStays hk, Result.andThen_ok, MapKept.run_setObj_map _ hm]
    · rw [hs]
      apply List.ext_getElem?
      intro t
      have e1 : (ents.toList.map fun e => (e.key, e.val))[t]? = (l.map fun p => (Value.int .i64 p.1, Value.int .i64 p.2))[t]? := by rw [hl]
      simp only [List.getElem?_map, Array.getElem?_toList, Array.getElem?_modify, List.getElem?_set] at e1 ⊢
      by_cases ht : j = t
      · subst ht
        have hjl : j < l.length := by
          have := congrArg List.length hl
          simp at this
          omega
        simp [hj2, hjl]
      · simp only [if_neg ht]
        exact e1
end

end Go.Proofs.YtmmlpbepaefamaaGreatDoor

/- Bytes that a call owns: a slice that grows by append; and bytes that are handed in. -/
namespace Go.Proofs.YtmmlpbepaefamaaGreatDoor
open Go.RowKit

/-- The slice v holds the bytes xs, in a block of the call's own. -/
def Own (w : World) (B : Nat) (v : Value) (xs : List (BitVec 8)) : Prop := w.ownsRow B 5 1 v xs.length (xs.map vu8)

section
variable {w w' : World} {B : Nat} {v : Value} {xs : List (BitVec 8)}
theorem Own.nil (w : World) (B : Nat) : Own w B (.slice none 0 0) [] := World.ownsRow_nil w B _ _
theorem Own.kept {row : Option Nat} (h : Own w B v xs) (hg : w.grownBy w' row) (hne : v.ownBlock = none ∨ v.ownBlock ≠ row) : Own w' B v xs := World.ownsRow.kept h hg hne
theorem Own.drew (h : Own w B v xs) : Own w.drew B v xs := World.ownsRow.drew h
theorem Own.drewN (h : Own w B v xs) (n : Nat) : Own (w.drewN n) B v xs := h
theorem Own.alloc (h : Own w B v xs) (o : Obj) : Own (w.alloc o) B v xs := World.ownsRow.alloc h o
theorem Own.lt (h : Own w B v xs) : ∀ k, v.ownBlock = some k → B ≤ k ∧ k < w.heap.size := World.ownsRow.lt h
theorem Own.shape (h : Own w B v xs) : (v = .slice none 0 0 ∧ xs = []) ∨ ∃ g cap, v = .slice (some ⟨g, 0, none⟩) xs.length cap ∧ B ≤ g ∧ g < w.heap.size ∧ BytesAt w g 0 xs ∧ xs.length ≤ cap ∧ cap ≤ maxLen := by
  rcases h.2 with ⟨rfl, hn⟩ | ⟨g, cap, cur, rfl, hb, hg, hle, hm, _⟩
  · exact .inl ⟨rfl, List.eq_nil_of_length_eq_zero hn⟩
  · refine .inr ⟨g, cap, rfl, hb, (Array.getElem?_eq_some_iff.1 hg).1, fun j x hx => ?_, hle, hm⟩
    have := World.ownsRow.cells h (g := g) rfl j (vu8 x) (by simp [hx])
    rw [Nat.zero_add]
    rwa [Addr.add_lit, Nat.zero_add] at this
theorem Own.full (h : Own w B v xs) (hx : xs ≠ []) : ∃ g cap, v = .slice (some ⟨g, 0, none⟩) xs.length cap ∧ B ≤ g ∧ g < w.heap.size ∧ BytesAt w g 0 xs ∧ xs.length ≤ cap ∧ cap ≤ maxLen := by
  rcases h.shape with ⟨_, rfl⟩ | h
  · exact absurd rfl hx
  · exact h
end

theorem Own.high {w : World} {B : Nat} {v : Value} {xs : List (BitVec 8)} (h : Own w B v xs) : ∀ k, v.ownBlock = some k → B ≤ k := fun k hk => (h.lt k hk).1

/-- A slice of bytes, wherever it lies. -/
def SliceIs (w : World) (sl : Value) (ys : List (BitVec 8)) : Prop :=
  (ys = [] ∧ (sl = .slice none 0 0 ∨ ∃ ad c, sl = .slice (some ad) 0 c)) ∨ ∃ b o c, sl = .slice (some ⟨b, o, none⟩) ys.length c ∧ b < w.heap.size ∧ BytesAt w b o ys

theorem Own.slice {w : World} {B : Nat} {v : Value} {xs : List (BitVec 8)} (h : Own w B v xs) : SliceIs w v xs := by
  rcases h.shape with ⟨rfl, rfl⟩ | ⟨g, cap, rfl, _, hl, hb, _⟩
  · exact .inl ⟨rfl, .inl rfl⟩
  · exact .inr ⟨g, 0, cap, rfl, hl, hb⟩

theorem SliceIs.below {w w' : World} {B : Nat} {sl : Value} {ys : List (BitVec 8)} (h : SliceIs w sl ys) (hb : Below B w w') (hB : ∀ b o c, sl = .slice (some ⟨b, o, none⟩) ys.length c → b < B) : SliceIs w' sl ys := by
  rcases h with h | ⟨b, o, c, rfl, hl, hy⟩
  · exact .inl h
  · exact .inr ⟨b, o, c, rfl, Nat.lt_of_lt_of_le hl hb.size, hy.below hb (hB b o c rfl)⟩
theorem SliceIs.low {w w' : World} {sl : Value} {ys : List (BitVec 8)} (h : SliceIs w sl ys) (hb : Below w.heap.size w w') : SliceIs w' sl ys := by
  rcases h with h | ⟨b, o, c, rfl, hl, hy⟩
  · exact .inl h
  · exact .inr ⟨b, o, c, rfl, Nat.lt_of_lt_of_le hl hb.size, hy.below hb hl⟩

theorem one_u8 (ys : List (BitVec 8)) : ∀ u ∈ ys.map vu8, u.oneCell' = true := fun u hu => by
  obtain ⟨x, _, rfl⟩ := List.mem_map.1 hu
  rfl

theorem info_u8 : ∃ i, Tryz.prog.info? 5 = some i ∧ i.zero = some (.int .u8 0) ∧ i.size = 1 ∧ i.bytes = 1 := by
  have h : (Tryz.prog.info? 5).map (fun i => (i.zero, i.size, i.bytes)) = some (some (.int .u8 0), 1, 1) := by kernel_rfl
  cases hi : Tryz.prog.info? 5 with
  | none => rw [hi] at h; cases h
  | some i =>
    rw [hi] at h
    simp only [Option.map_some, Option.some.injEq, Prod.mk.injEq] at h
    exact ⟨i, rfl, h.1, h.2.1, h.2.2⟩

/-- 'append(s, x...)', s the call's own. -/
theorem wpList_append_bytes {w : World} {ops : Array Oper} {rest : List Oper} {o : Oper} {a : Act} {Q : Exit → Act → World → Prop} (hgd : o.guard = none) (s x : Operand)
    (ho : o.op = .call { callee := .builtin .append, args := #[s, x], argTypes := #[30, 30] })
    (B : Nat) (v : Value) (xs : List (BitVec 8)) (hs : a.eval s = v) (hown : Own w B v xs)
    (sl : Value) (ys : List (BitVec 8)) (hx : a.eval x = sl) (hy : SliceIs w sl ys)
    (hlen : xs.length + ys.length ≤ 140737488355328) (hbase : B ≤ w.heap.size)
    (h : ∀ v' w', Own w' B v' (xs ++ ys) → w.grownBy w' v.ownBlock → wpList Tryz.prog ops Q rest (a.put o.dst v') w') : wpList Tryz.prog ops Q (o :: rest) a w := by
  obtain ⟨i, hi, hz, hsz, hby⟩ := info_u8
  have use : ∀ ad c, sl = .slice (some ad) ys.length c → (∀ j u, (ys.map vu8)[j]? = some u → w.cell? (ad.add j) = some u) → wpList Tryz.prog ops Q (o :: rest) a w := fun ad c hsl hcells =>
    wpList_append_own w hgd s x _ ho B _ i _ 1 1 Tryz.underlying30 hi hz hsz hby rfl (by decide) v xs.length (xs.map vu8) hs hown ad ys.length c (ys.map vu8) (hx.trans hsl) (by simp) hcells (one_u8 ys)
      (by simp only [maxLen]; omega) (by omega) hbase fun v' w' h1 h2 _ => h v' w' (by
        unfold Own
        rw [List.length_append, List.map_append]
        exact h1) h2
  rcases hy with ⟨rfl, rfl | ⟨ad, c, rfl⟩⟩ | ⟨b, of, c, rfl, _, hb⟩
  · refine wpList_append_own_none hgd s x _ ho B _ i 1 Tryz.underlying30 hi v xs.length (xs.map vu8) hs hown hx (h v w ?_ (World.grownBy.refl _ _))
    rw [List.append_nil]
    exact hown
  · exact use ad c rfl fun j u hu => by simp at hu
  · refine use ⟨b, of, none⟩ c rfl fun j u hu => ?_
    rw [List.getElem?_map] at hu
    rw [Addr.add_lit]
    cases hj : ys[j]? with
    | none => simp [hj] at hu
    | some y =>
      simp [hj] at hu
      rw [← hu]
      exact hb j y hj

theorem BytesAt.new (w : World) (t : TypeId) (y : BitVec 8) : BytesAt (w.alloc (.cells #[vu8 y] t)) w.heap.size 0 [y] := fun j x hx => by
  obtain ⟨rfl, rfl⟩ : j = 0 ∧ x = y := by
    have hj : j < 1 := (List.getElem?_eq_some_iff.1 hx).1
    obtain rfl : j = 0 := by omega
    simp at hx
    exact ⟨rfl, hx.symm⟩
  rw [(Whole.new w t #[vu8 x]).cell]
  rfl

theorem SliceIs.one (w : World) (t : TypeId) (c : Value) (y : BitVec 8) (hc : c = vu8 y) : SliceIs (w.alloc (.cells #[c] t)) (.slice (some ⟨w.heap.size, 0, none⟩) 1 1) [y] := by
  subst hc
  exact .inr ⟨w.heap.size, 0, 1, rfl, by simp, BytesAt.new w t y⟩

/-- 'append(s, c)', s the call's own. -/
theorem wpList_append_one {w : World} {ops : Array Oper} {rest : List Oper} {o : Oper} {a : Act} {Q : Exit → Act → World → Prop} (hgd : o.guard = none) (s x : Operand)
    (ho : o.op = .call { callee := .builtin .append, args := #[s, x], argTypes := #[30, 30] })
    (B : Nat) (v : Value) (xs : List (BitVec 8)) (hs : a.eval s = v) (hown : Own w B v xs) (c : Value) (y : BitVec 8) (hc : c = vu8 y)
    (hx : a.eval x = .slice (some ⟨w.heap.size, 0, none⟩) 1 1) (hlen : xs.length + 1 ≤ 140737488355328) (hbase : B ≤ w.heap.size)
    (h : ∀ v' w', Own w' B v' (xs ++ [y]) → w.grownBy w' v.ownBlock → wpList Tryz.prog ops Q rest (a.put o.dst v') w') :
    wpList Tryz.prog ops Q (o :: rest) a (w.alloc (.cells #[c] 5)) :=
  wpList_append_bytes hgd s x ho B v xs hs (hown.alloc _) _ [y] hx (SliceIs.one w _ c y hc) hlen (by simp; omega) fun v' w' h1 h2 =>
    h v' w' h1 (grown_trans (grown_alloc (World.grownBy.refl _ _) _) h2)

/-- The same at a step of a region that draws its order. -/
theorem step_append_bytes {w : World} {ops : Array Oper} {o : Oper} {a : Act} {K : Act → World → Prop} {Q : Exit → Act → World → Prop} {E : Prop} (hgd : o.guard = none) (s x : Operand)
    (ho : o.op = .call { callee := .builtin .append, args := #[s, x], argTypes := #[30, 30] })
    (B : Nat) (v : Value) (xs : List (BitVec 8)) (hs : a.eval s = v) (hown : Own w B v xs)
    (b of c : Nat) (ys : List (BitVec 8)) (hx : a.eval x = .slice (some ⟨b, of, none⟩) ys.length c) (hy : BytesAt w b of ys)
    (hlen : xs.length + ys.length ≤ 140737488355328) (hbase : B ≤ w.heap.size)
    (h : ∀ v' w', Own w' B v' (xs ++ ys) → w.grownBy w' v.ownBlock → K (a.put o.dst v') w') :
    if Region.wanted o (yielded ops a.tmps) = true then Oper.wp Tryz.prog o a w K Q else E := by
  obtain ⟨i, hi, hz, hsz, hby⟩ := info_u8
  have hw : Region.wanted o (yielded ops a.tmps) = true := by simp [Region.wanted, hgd]
  rw [if_pos hw]
  refine wp_append_own w s x _ ho B _ i _ 1 1 Tryz.underlying30 hi hz hsz hby rfl (by decide) v xs.length (xs.map vu8) hs hown ⟨b, of, none⟩ ys.length c (ys.map vu8) hx (by simp) (fun j u hu => ?_) (one_u8 ys)
      (by simp only [maxLen]; omega) (by omega) hbase fun v' w' h1 h2 _ => h v' w' (by
        unfold Own
        rw [List.length_append, List.map_append]
        exact h1) h2
  rw [List.getElem?_map] at hu
  rw [Addr.add_lit]
  cases hj : ys[j]? with
  | none => simp [hj] at hu
  | some y =>
    simp [hj] at hu
    rw [← hu]
    exact hy j y hj

end Go.Proofs.YtmmlpbepaefamaaGreatDoor
