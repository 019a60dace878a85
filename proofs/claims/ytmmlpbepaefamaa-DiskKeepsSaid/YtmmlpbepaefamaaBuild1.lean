/- A slice of one element, whatever its cells: '[]T{x}', or the last arguments of append. -/
import Derived.Test.YtmmlpbepaefamaaMem
import Derived.Test.YtmmlpbepaefamaaProg
namespace Go.Proofs.Ytmmlpbepaefamaa
open Go.RowKit

theorem fold_fill : ∀ (l pre b : List Value), b.length = l.length → (l.zipIdx pre.length).foldl (fun (a : Array Value) (p : Value × Nat) => a.setIfInBounds p.2 p.1) (pre ++ b).toArray = (pre ++ l).toArray
  | [], pre, b, h => by
    obtain rfl : b = [] := List.eq_nil_of_length_eq_zero h
    rfl
  | c :: l, pre, [], h => by simp at h
  | c :: l, pre, b0 :: b, h => by
    have ih := fold_fill l (pre ++ [c]) b (by simpa using h)
    rw [List.zipIdx_cons, List.foldl_cons]
    have e1 : (pre ++ b0 :: b).toArray.setIfInBounds pre.length c = ((pre ++ [c]) ++ b).toArray := by
      rw [List.setIfInBounds_toArray]
      simp
    rw [e1]
    simpa using ih
theorem fill_val (v : Value) (cs base : Array Value) (n : Nat) (hv : v.cells = cs) (hc : cs.size = n) (hb : base.size = n) : Instr.fill (fun i => some (i * n, n)) base [(0, v)] = some cs := by
  have h := fold_fill cs.toList [] base.toList (by simp [hc, hb])
  unfold Instr.fill
  simp only [hv, Nat.zero_mul, Nat.zero_add, hc, hb]
  rw [if_neg (by simp)]
  unfold Instr.fill
  congr 1
  simp only [List.nil_append, Array.toArray_toList, List.length_nil] at h
  rw [← Array.foldl_toList, Array.toList_zipIdx]
  exact h
theorem run_slice_val {P : Program} (w : World) {t e : TypeId} {n : Nat} {z : Value} (ht : P.underlying t = some (.slice e)) (hz : (P.info? e).map (fun i => (i.zero, i.size)) = some (some z, n)) (hn : 0 < n) (hn2 : n ≤ 1000) (v : Value) (cs : Array Value) (hv : v.cells = cs) (hc : cs.size = n) :
    (Instr.buildSlice t 1 #[(0, v)]).run P w = .ok (.slice (some ⟨w.heap.size, 0, none⟩) 1 1) (w.alloc (.cells cs e)) := by
  obtain ⟨hzero, hsz⟩ := zero_of_info hz
  obtain ⟨i, hi, hin⟩ := Option.map_eq_some_iff.1 hsz
  have hs : (sizeOf e).run P w = .ok n w := by
    rw [run_sizeOf w hi]
    simp [Program.cellsOf, hi, hin]
  have hf := fill_val v cs ((Array.range (1 * n)).map (z.cells[· % z.cells.size]!)) n hv hc (by simp)
  have hn3 : ¬ 1 * n > 2 ^ 24 := by omega
  have hn4 : ¬ 1 * n = 0 := by omega
  unfold Instr.buildSlice
  simp only [Sem.run_bind, run_underlying ht, Result.andThen_ok, hs, if_neg hn3, if_neg hn4, hzero, Sem.run_pure, hf]
  simp [newRow]
theorem run_slice_one {P : Program} (w : World) {t e : TypeId} {n : Nat} {z : Value} (ht : P.underlying t = some (.slice e)) (hz : (P.info? e).map (fun i => (i.zero, i.size)) = some (some z, n)) (hn : 0 < n) (hn2 : n ≤ 1000) (cs : Array Value) (hc : cs.size = n) :
    (Instr.buildSlice t 1 #[(0, .agg cs)]).run P w = .ok (.slice (some ⟨w.heap.size, 0, none⟩) 1 1) (w.alloc (.cells cs e)) := run_slice_val w ht hz hn hn2 _ cs rfl hc

/-- '[]T{x}' in a walk. -/
theorem wpList_slice_one {P : Program} {ops : Array Oper} {rest : List Oper} {o : Oper} {a : Act} {w : World} {Q : Exit → Act → World → Prop} (hg : o.guard = none) (t e : TypeId) (x : Operand) (ho : o.op = .buildSlice t 1 #[(0, x)]) (cs : Array Value) (hx : a.eval x = .agg cs) {n : Nat} {z : Value}
    (ht : P.underlying t = some (.slice e)) (hz : (P.info? e).map (fun i => (i.zero, i.size)) = some (some z, n)) (hn : 0 < n) (hn2 : n ≤ 1000) (hc : cs.size = n)
    (h : wpList P ops Q rest (a.put o.dst (.slice (some ⟨w.heap.size, 0, none⟩) 1 1)) (w.alloc (.cells cs e))) : wpList P ops Q (o :: rest) a w :=
  wpList_plain hg fun K hK => by
    unfold Oper.wp execOp
    simp only [ho]
    simp [hx, run_slice_one w ht hz hn hn2 cs hc]
    exact hK _ _ h

/-- '[]T{x}', x a single cell, in a walk. -/
theorem wpList_slice_cell {P : Program} {ops : Array Oper} {rest : List Oper} {o : Oper} {a : Act} {w : World} {Q : Exit → Act → World → Prop} (hg : o.guard = none) (t e : TypeId) (x : Operand) (ho : o.op = .buildSlice t 1 #[(0, x)]) (u : Value) (hx : a.eval x = u) (hu : u.cells = #[u]) {z : Value}
    (ht : P.underlying t = some (.slice e)) (hz : (P.info? e).map (fun i => (i.zero, i.size)) = some (some z, 1))
    (h : wpList P ops Q rest (a.put o.dst (.slice (some ⟨w.heap.size, 0, none⟩) 1 1)) (w.alloc (.cells #[u] e))) : wpList P ops Q (o :: rest) a w :=
  wpList_plain hg fun K hK => by
    unfold Oper.wp execOp
    simp only [ho]
    simp [hx, run_slice_val w ht hz (by decide) (by decide) u #[u] hu rfl]
    exact hK _ _ h

end Go.Proofs.Ytmmlpbepaefamaa
