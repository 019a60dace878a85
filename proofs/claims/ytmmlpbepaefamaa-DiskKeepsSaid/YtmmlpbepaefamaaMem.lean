/- Words for memory: a block that is known whole, and bytes and numbers that lie somewhere. -/
import Derived.Test.YtmmlpbepaefamaaNum
import Derived.Laws.OwnMore
import Derived.Deep.Draws
import Derived.Deep.AppendLies
import Derived.Laws.Rows
import Derived.Laws.Tables
import Derived.Deep.WholeRow
import Derived.Lib.Hide
import Derived.ChangeKeysEq
namespace Go.Proofs.Ytmmlpbepaefamaa
open Go.RowKit

/-- Block g holds just the cells l, of the element type t; all may be written. -/
def Whole (w : World) (g : Nat) (t : TypeId) (l : List Value) : Prop := w.heap[g]? = some (.cells l.toArray t (0, 0))

section
variable {w w' : World} {g : Nat} {t : TypeId} {l : List Value}
theorem Whole.lt (h : Whole w g t l) : g < w.heap.size := (Array.getElem?_eq_some_iff.1 h).1
theorem Whole.cell (h : Whole w g t l) (i : Nat) : w.cell? ⟨g, i, none⟩ = l[i]? := by
  rw [cell_of_row w g i _ t _ h]; simp
theorem Whole.cell_of (h : Whole w g t l) {i : Nat} {v : Value} (hv : l[i]? = some v) : w.cell? ⟨g, i, none⟩ = some v := (h.cell i).trans hv
theorem Whole.free (h : Whole w g t l) (i : Nat) : w.frozen? ⟨g, i, none⟩ = false := frozen_of_row w g i _ t h
theorem Whole.new (w : World) (t : TypeId) (cs : Array Value) : Whole (w.alloc (.cells cs t)) w.heap.size t cs.toList := heap_alloc_new w _
theorem Whole.drew (h : Whole w g t l) : Whole w.drew g t l := h
theorem Whole.drewN (h : Whole w g t l) (n : Nat) : Whole (w.drewN n) g t l := h
theorem Whole.alloc (h : Whole w g t l) (o : Obj) : Whole (w.alloc o) g t l := (Below.heap_alloc w o g h.lt).trans h
theorem Whole.put (h : Whole w g t l) (i : Nat) (u : Value) : Whole (w.setCell ⟨g, i, none⟩ u) g t (l.set i u) := by
  unfold Whole at h ⊢
  simp [World.setCell, Array.getElem?_modify, h]
theorem Whole.far (h : Whole w g t l) {p : Addr} (hp : g ≠ p.block) (u : Value) : Whole (w.setCell p u) g t l := (Below.heap_setCell w p u g hp).trans h
theorem Whole.below {B : Nat} (h : Whole w g t l) (hb : Below B w w') (hg : g < B) : Whole w' g t l := (hb.block g hg).trans h
theorem Whole.grown {row : Option Nat} (h : Whole w g t l) (hb : w.grownBy w' row) (hg : some g ≠ row) : Whole w' g t l := (hb.block g h.lt hg).trans h
theorem Whole.row (h : Whole w g t l) (cs : List Value) : Whole (w.setRow g cs.toArray) g t cs := setRow_heap w g _ _ t _ h
theorem Whole.row_far (h : Whole w g t l) {k : Nat} (hk : k ≠ g) (cs : Array Value) : Whole (w.setRow k cs) g t l := by
  unfold Whole at h ⊢
  simp only [World.setRow, Array.getElem?_modify]
  rw [if_neg hk]
  exact h
end

/-- Bytes lie in block b from o on. -/
def BytesAt (w : World) (b o : Nat) (l : List (BitVec 8)) : Prop := ∀ j x, l[j]? = some x → w.cell? ⟨b, o + j, none⟩ = some (vu8 x)

section
variable {w w' : World} {b o : Nat} {l : List (BitVec 8)}
theorem BytesAt.keep (h : BytesAt w b o l) (hk : ∀ i, w'.cell? ⟨b, i, none⟩ = w.cell? ⟨b, i, none⟩) : BytesAt w' b o l := fun j x hx => (hk _).trans (h j x hx)
theorem BytesAt.below {B : Nat} (h : BytesAt w b o l) (hb : Below B w w') (hl : b < B) : BytesAt w' b o l := h.keep fun i => hb.cell (p := ⟨b, i, none⟩) hl
theorem BytesAt.grown {row : Option Nat} (h : BytesAt w b o l) (hg : w.grownBy w' row) (hl : b < w.heap.size) (hne : some b ≠ row) : BytesAt w' b o l :=
  h.keep fun i => World.cell?_of_block (a := ⟨b, i, none⟩) (hg.block b hl hne)
theorem BytesAt.alloc (h : BytesAt w b o l) (hl : b < w.heap.size) (ob : Obj) : BytesAt (w.alloc ob) b o l := h.keep fun i => World.cell?_alloc_lt w ob ⟨b, i, none⟩ hl
theorem BytesAt.drop (h : BytesAt w b o l) (n : Nat) : BytesAt w b (o + n) (l.drop n) := fun j x hx => by
  rw [Nat.add_assoc]
  exact h _ x (by rw [← hx, List.getElem?_drop])
theorem BytesAt.take (h : BytesAt w b o l) (n : Nat) : BytesAt w b o (l.take n) := fun j x hx => h j x (by
  rw [List.getElem?_take] at hx
  split at hx
  · exact hx
  · cases hx)
theorem BytesAt.at_ (h : BytesAt w b o l) {i : Nat} (hi : i < l.length) : w.cell? ⟨b, o + i, none⟩ = some (vu8 (l.getD i 0)) := by
  refine h i _ ?_
  simp [List.getElem?_eq_getElem hi]
theorem BytesAt.of_whole {g : Nat} {t : TypeId} {pre post : List Value} {bs : List (BitVec 8)} (h : Whole w g t (pre ++ bs.map vu8 ++ post)) (ho : pre.length = o) : BytesAt w g o bs := fun j x hx => by
  have hj : j < bs.length := (List.getElem?_eq_some_iff.1 hx).1
  rw [h.cell, List.getElem?_append_left (by simp; omega), List.getElem?_append_right (by omega)]
  simp [← ho, hx]
end

/-- What a growth of memory keeps: as 'grownBy', told from an elder world on. -/
theorem grown_trans {a b c : World} {row : Option Nat} (h : a.grownBy b row) (k : b.grownBy c row) : a.grownBy c row :=
  ⟨k.os.trans h.os, k.tape.trans h.tape, k.output.trans h.output, Nat.le_trans h.size k.size, fun i hi hne => (k.block i (Nat.lt_of_lt_of_le hi h.size) hne).trans (h.block i hi hne)⟩
theorem grown_drew {a w : World} {row : Option Nat} (h : a.grownBy w row) : a.grownBy w.drew row := ⟨h.os, h.tape, h.output, h.size, h.block⟩
theorem grown_drewN {a w : World} {row : Option Nat} (h : a.grownBy w row) (n : Nat) : a.grownBy (w.drewN n) row := ⟨h.os, h.tape, h.output, h.size, h.block⟩
theorem grown_alloc {a w : World} {row : Option Nat} (h : a.grownBy w row) (o : Obj) : a.grownBy (w.alloc o) row :=
  ⟨h.os, h.tape, h.output, Nat.le_trans h.size (by simp), fun i hi hne => (Below.heap_alloc w o i (Nat.lt_of_lt_of_le hi h.size)).trans (h.block i hi hne)⟩
theorem grown_set {a w : World} {row : Option Nat} (h : a.grownBy w row) {p : Addr} (hp : row = some p.block ∨ a.heap.size ≤ p.block) (u : Value) : a.grownBy (w.setCell p u) row :=
  ⟨h.os, h.tape, h.output, by simpa using h.size, fun i hi hne => (Below.heap_setCell w p u i (by
    rintro rfl
    rcases hp with hp | hp
    · exact hne hp.symm
    · omega)).trans (h.block i hi hne)⟩
theorem grown_row {a w : World} {row : Option Nat} (h : a.grownBy w row) {g : Nat} (hp : row = some g ∨ a.heap.size ≤ g) (cs : Array Value) : a.grownBy (w.setRow g cs) row :=
  ⟨h.os, h.tape, h.output, by simpa [World.setRow] using h.size, fun i hi hne => by
    have : g ≠ i := by
      rintro rfl
      rcases hp with hp | hp
      · exact hne hp.symm
      · omega
    simp only [World.setRow, Array.getElem?_modify]
    rw [if_neg this]
    exact h.block i hi hne⟩
theorem grown_below {a w : World} (h : a.grownBy w none) : Below a.heap.size a w := ⟨h.os, h.tape, h.output, h.size, fun i hi => h.block i hi (by simp)⟩
theorem below_grown {a w : World} (h : Below a.heap.size a w) (row : Option Nat) : a.grownBy w row := ⟨h.os, h.tape, h.output, h.size, fun i hi _ => h.block i hi⟩

/-- A variable of an array's or a struct's type: its zero value stays behind a name. -/
theorem wpList_alloc_row {P : Program} {ops : Array Oper} {rest : List Oper} {o : Oper} {a : Act} {w : World} {Q : Exit → Act → World → Prop} (hg : o.guard = none) (t : TypeId) (ho : o.op = .alloc t)
    (Z : Array Value) (n : Nat) (hz : (P.info? t).map (fun i => (i.zero, i.size)) = some (some (.agg Z), n))
    (h : wpList P ops Q rest (a.put o.dst (.pointer (some ⟨w.heap.size, 0, none⟩))) (w.alloc (.cells Z t))) : wpList P ops Q (o :: rest) a w :=
  wpList_plain hg fun K hK => by
    have hzero := (zero_of_info hz).1
    unfold Oper.wp execOp
    simp only [ho]
    simp [Instr.alloc, hzero, newVar, Value.cells, newRow]
    exact hK _ _ h

/-- The same variable, filled at once. -/
theorem wpList_store_new {P : Program} {ops : Array Oper} {rest : List Oper} {o : Oper} {a : Act} {w : World} {Q : Exit → Act → World → Prop} (hgd : o.guard = none) (ty : TypeId) (x y : Operand) (ho : o.op = .store ty x y)
    (Z cells : Array Value) (t : TypeId) (hx : a.eval x = .pointer (some ⟨w.heap.size, 0, none⟩)) (hy : a.eval y = .agg cells) (hi : (P.info? ty).map (·.size) = some cells.size) (hold : Z.size = cells.size) (h1 : cells.all (·.oneCell') = true)
    (h : wpList P ops Q rest (a.put o.dst undef) (w.alloc (.cells cells t))) : wpList P ops Q (o :: rest) a (w.alloc (.cells Z t)) :=
  wpList_plain hgd fun K hK => wp_store_row ty x y ho w.heap.size cells hx hy t Z (heap_alloc_last w _) hi hold h1 (by rw [World.setRow_alloc_new]; exact hK _ _ h)

theorem all_one {l : List Value} (h : ∀ v ∈ l, v.oneCell' = true) : l.toArray.all (·.oneCell') = true :=
  Array.all_eq_true_iff_forall_mem.2 fun v hv => h v (by simpa using hv)
theorem all_u32 (l : List (BitVec 32)) : (l.map vu32).toArray.all (·.oneCell') = true := all_one fun v hv => by
  obtain ⟨x, _, rfl⟩ := List.mem_map.1 hv
  rfl
theorem all_u8 (l : List (BitVec 8)) : (l.map vu8).toArray.all (·.oneCell') = true := all_one fun v hv => by
  obtain ⟨x, _, rfl⟩ := List.mem_map.1 hv
  rfl

/-- A piece of a function's code: 0 and 1 a sequence's two parts, 2 a block's or a loop's body, 3 and 4 the two ways of a test. -/
def subCode : List Nat → Code → Code
  | [], c => c
  | 0 :: p, .seq a _ => subCode p a
  | 1 :: p, .seq _ b => subCode p b
  | 2 :: p, .block _ c => subCode p c
  | 2 :: p, .loop c => subCode p c
  | 3 :: p, .cond _ a _ => subCode p a
  | 4 :: p, .cond _ _ b => subCode p b
  | _ :: _, c => c

/-- Zeros. -/
def zeroNums (k : IntKind) (n : Nat) : List Value := List.replicate n (.int k 0)

theorem zero_bytes (n : Nat) : zeroNums .u8 n = (List.replicate n (0#8)).map vu8 := by simp [zeroNums, vu8]

/-- A value built of parts, its cells behind a name. -/
theorem wpList_build_as {P : Program} {ops : Array Oper} {rest : List Oper} {o : Oper} {a : Act} {w : World} {Q : Exit → Act → World → Prop} (hg : o.guard = none) (t : TypeId) (parts : Array (Nat × Operand)) (ho : o.op = .build t parts)
    (cells : Array Value) (hb : P.built t (parts.map fun (i, x) => (i, a.eval x)).toList = some cells)
    (h : wpList P ops Q rest (a.put o.dst (.agg cells)) w) : wpList P ops Q (o :: rest) a w :=
  wpList_build hg t parts ho (by rw [hb]; rfl) (by rw [hb]; exact h)

section
variable {P : Program} (w : World) {t e : TypeId} {n : Nat} {i : TypeInfo}
theorem run_items_bytes (d : Nat) (he : P.underlying e = some (.int .u8)) (xs ys : List (BitVec 8)) (hx : xs.length = n) (hy : ys.length = n) :
    ∀ is : List Nat, (∀ j ∈ is, j < n) → (Op.eqItems (d + 1) e 1 (xs.map vu8).toArray (ys.map vu8).toArray is).run P w = .ok (is.all fun j => xs.getD j 0 == ys.getD j 0) w
  | [], _ => by simp [Op.eqItems]
  | j :: is, h => by
    have hj : j < n := h j (List.mem_cons_self ..)
    have ih := run_items_bytes d he xs ys hx hy is fun k hk => h k (List.mem_cons_of_mem _ hk)
    have part_at : ∀ zs : List (BitVec 8), zs.length = n → (part e (zs.map vu8).toArray j).run P w = .ok (vu8 (zs.getD j 0)) w := fun zs hz => by
      simp [part, isAgg, run_underlying he, List.getElem?_eq_getElem (show j < zs.length by omega)]
    have hone : (Op.equalIn (d + 1) e (vu8 (xs.getD j 0)) (vu8 (ys.getD j 0))).run P w = .ok (xs.getD j 0 == ys.getD j 0) w := by
      have h1 : (Op.equalIn (d + 1) e (vu8 (xs.getD j 0)) (vu8 (ys.getD j 0))).run P w = .ok ((((xs.getD j 0).toNat : Int)) == ((ys.getD j 0).toNat : Int)) w :=
        run_equalIn_int w d e .u8 .u8 ((xs.getD j 0).toNat : Int) ((ys.getD j 0).toNat : Int) he
      rw [h1]
      congr 1
      rw [Bool.eq_iff_iff]
      simp only [beq_iff_eq, ← BitVec.toNat_inj]
      omega
    simp only [Op.eqItems, Sem.run_bind, Nat.mul_one, part_at xs hx, part_at ys hy, Result.andThen_ok, hone, List.all_cons]
    cases hc : (xs.getD j 0 == ys.getD j 0)
    · simp
    · simp [ih]

theorem all_same {α : Type} [DecidableEq α] (z : α) (xs ys : List α) (hx : xs.length = n) (hy : ys.length = n) : ((List.range n).all fun j => xs.getD j z == ys.getD j z) = decide (xs = ys) := by
  rw [Bool.eq_iff_iff]
  simp only [List.all_eq_true, List.mem_range, beq_iff_eq, decide_eq_true_eq]
  constructor
  · intro h
    refine List.ext_getElem (by omega) fun j h1 h2 => ?_
    have := h j (by omega)
    simpa [List.getElem?_eq_getElem h1, List.getElem?_eq_getElem h2] using this
  · rintro rfl j _
    rfl

/-- Two arrays of bytes are held against each other. -/
theorem run_equal_bytes (hu : P.underlying t = some (.array n e)) (hi : P.info? e = some i) (hs : i.size = 1) (he : P.underlying e = some (.int .u8)) (xs ys : List (BitVec 8)) (hx : xs.length = n) (hy : ys.length = n) :
    (Op.equalIn 10000 t (.agg (xs.map vu8).toArray) (.agg (ys.map vu8).toArray)).run P w = .ok (decide (xs = ys)) w := by
  have hc : P.cellsOf e = 1 := by simp [Program.cellsOf, hi, hs]
  rw [run_equalIn_array w 9999 _ _ hu hi, hc, run_items_bytes w 9998 he xs ys hx hy _ (fun j hj => List.mem_range.1 hj), all_same _ _ _ hx hy]
theorem run_eql_bytes (hu : P.underlying t = some (.array n e)) (hi : P.info? e = some i) (hs : i.size = 1) (he : P.underlying e = some (.int .u8)) (xs ys : List (BitVec 8)) (hx : xs.length = n) (hy : ys.length = n) :
    (binOp .eql t (.agg (xs.map vu8).toArray) (.agg (ys.map vu8).toArray)).run P w = .ok (.bool (decide (xs = ys))) w := by
  rw [run_eql_struct, run_equal_bytes w hu hi hs he xs ys hx hy]; rfl
theorem run_neq_bytes (hu : P.underlying t = some (.array n e)) (hi : P.info? e = some i) (hs : i.size = 1) (he : P.underlying e = some (.int .u8)) (xs ys : List (BitVec 8)) (hx : xs.length = n) (hy : ys.length = n) :
    (binOp .neq t (.agg (xs.map vu8).toArray) (.agg (ys.map vu8).toArray)).run P w = .ok (.bool (!decide (xs = ys))) w := by
  rw [run_neq_struct, run_equal_bytes w hu hi hs he xs ys hx hy]; rfl
end

end Go.Proofs.Ytmmlpbepaefamaa
