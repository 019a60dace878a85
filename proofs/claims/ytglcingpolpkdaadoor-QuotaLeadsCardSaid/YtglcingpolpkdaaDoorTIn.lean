/- What lies in a call of Add; a link built, one more link. -/
import Derived.Test.YtglcingpolpkdaaDoorTHead
import Derived.Great.BuildSlice
namespace Go.Proofs.YtglcingpolpkdaaDoor
open Go.RowKit

def zeroNote : List Value := [.int .i64 0, .string ⟨#[]⟩, .string ⟨#[]⟩, .int .i64 0, .string ⟨#[]⟩, .int .i64 0]
theorem info_note : ∃ i, Tryd.prog.info? 36 = some i ∧ i.zero = some (.agg zeroNote.toArray) ∧ i.size = 6 ∧ i.bytes = 72 := info_of (by kernel_rfl)
theorem info_link : ∃ i, Tryd.prog.info? 74 = some i ∧ i.zero = some (.agg (zeroNote ++ zeroNums .u8 32).toArray) ∧ i.size = 38 ∧ i.bytes = 104 := info_of (by kernel_rfl)
theorem size_n : (Tryd.prog.info? 36).map (·.size) = some 6 := by kernel_rfl
theorem size_link : (Tryd.prog.info? 74).map (·.size) = some 38 := by kernel_rfl
theorem built_link_eq (parts : List (Nat × Value)) : Tryd.prog.built 74 parts = Instr.fill ((#[(0, 6), (6, 32)] : Array (Nat × Nat))[·]?) (zeroNote ++ zeroNums .u8 32).toArray parts := by kernel_rfl

theorem fill_two {place : Nat → Option (Nat × Nat)} {cells : Array Value} {a b : List Value} (h0 : place 0 = some (0, a.length)) (h1 : place 1 = some (a.length, b.length)) (hs : cells.size = a.length + b.length) :
    Instr.fill place cells [(0, .agg a.toArray), (1, .agg b.toArray)] = some (a ++ b).toArray := by
  obtain ⟨s1, k1⟩ := Great.foldl_set 0 a 0 cells
  have e1 : (Value.agg a.toArray).cells = a.toArray := rfl
  have e2 : (Value.agg b.toArray).cells = b.toArray := rfl
  simp only [Instr.fill, h0, h1, e1, e2, List.size_toArray, ← Array.foldl_toList, Array.toList_zipIdx]
  rw [if_neg (by simp; omega)]
  generalize hc : ((a.zipIdx 0).foldl (fun cs (x : Value × Nat) => cs.setIfInBounds (0 + x.2) x.1) cells) = c1 at s1 k1 ⊢
  obtain ⟨s2, k2⟩ := Great.foldl_set a.length b 0 c1
  rw [if_neg (by simp; omega)]
  congr 1
  apply Array.ext_getElem?
  intro k
  rw [k2, k1]
  by_cases hk : k < a.length
  · rw [if_neg (by omega), if_pos (by omega)]
    simp [List.getElem?_append_left hk]
  · by_cases hb : k < a.length + b.length
    · rw [if_pos (by omega)]
      simp [List.getElem?_append_right (Nat.le_of_not_lt hk)]
    · rw [if_neg (by omega), if_neg (by omega)]
      rw [Array.getElem?_eq_none (by omega)]
      simp only [List.getElem?_toArray]
      rw [List.getElem?_eq_none (by simp; omega)]
theorem built_link (p : Nt × Dg) : Tryd.prog.built 74 [(0, .agg p.1.cells.toArray), (1, .agg p.2.vs.toArray)] = some (linkCells p).toArray := by
  rw [built_link_eq]
  exact fill_two (by rfl) (by rw [Dg.vs_length]; rfl) (by rw [Dg.vs_length]; rfl)
theorem link_ones (p : Nt × Dg) : ∀ y ∈ linkCells p, y.oneCell' = true := fun y hy => by
  unfold linkCells at hy
  rcases List.mem_append.1 hy with h | h
  · simp only [Nt.cells, List.mem_cons, List.not_mem_nil, or_false] at h
    rcases h with rfl | rfl | rfl | rfl | rfl | rfl <;> rfl
  · obtain ⟨x, _, rfl⟩ := List.mem_map.1 h
    rfl
theorem note_ones (n : Nt) : ∀ y ∈ n.cells, y.oneCell' = true := fun y h => by
  simp only [Nt.cells, List.mem_cons, List.not_mem_nil, or_false] at h
  rcases h with rfl | rfl | rfl | rfl | rfl | rfl <;> rfl

section
variable {P : Program}
/-- A value built of parts may be taken first. -/
theorem yieldsIf_build {ops : Array Oper} {S : World → Prop} {op : Oper} {a : Act} (hw : Region.wanted op (yielded ops a.tmps) = true) (t : TypeId) (x y : Operand) (ho : op.op = .build t #[(0, x), (1, y)]) (u v : Value) (hx : a.eval x = u) (hy : a.eval y = v)
    (cells : Array Value) (hb : P.built t [(0, u), (1, v)] = some cells) : YieldsIf P ops S op (.agg cells) a :=
  .inl ⟨hw, fun w _ => by
    unfold execOp
    have hb' : P.built t (#[(0, u), (1, v)] : Array (Nat × Value)).toList = some cells := hb
    simp only [ho, List.map_toArray, List.map_cons, List.map_nil, hx, hy, Sem.run_bind, run_build w t _ cells hb', Result.andThen_ok, Sem.run_pure]⟩
theorem wp_alloc_row {o : Oper} {a : Act} {w : World} {K : Act → World → Prop} {Q : Exit → Act → World → Prop} (t : TypeId) (ho : o.op = .alloc t)
    (Z : Array Value) (n : Nat) (hz : (P.info? t).map (fun i => (i.zero, i.size)) = some (some (.agg Z), n))
    (h : K (a.put o.dst (.pointer (some ⟨w.heap.size, 0, none⟩))) (w.alloc (.cells Z t))) : o.wp P a w K Q := by
  have hzero := (zero_of_info hz).1
  unfold Oper.wp execOp
  simp only [ho]
  simp [Instr.alloc, hzero, newVar, Value.cells, newRow]
  exact h
/-- A list of one struct. -/
theorem wp_build_one {o : Oper} {a : Act} {w : World} {K : Act → World → Prop} {Q : Exit → Act → World → Prop} (t e : TypeId) (x : Operand) (ho : o.op = .buildSlice t 1 #[(0, x)])
    (cells : List Value) (z : Value) (n bytes : Nat) (hu : P.underlying t = some (.slice e)) (hi : ∃ i, P.info? e = some i ∧ i.zero = some z ∧ i.size = n ∧ i.bytes = bytes) 
    (hl : cells.length = n) (hn : 0 < n) (hn2 : n ≤ 1000) (hx : a.eval x = .agg cells.toArray)
    (h : K (a.put o.dst (.slice (some ⟨w.heap.size, 0, none⟩) 1 1)) (w.alloc (.cells cells.toArray e))) : o.wp P a w K Q := by
  obtain ⟨i, hi, hz, hs, _⟩ := hi
  refine wp_buildSlice t e 1 #[(0, x)] ho cells.toArray i z hu hi hz (by rw [hs]; omega) (by rw [hs]; omega) ?_ h
  rw [hs]
  have hp : ((#[(0, x)] : Array (Nat × Operand)).map fun (i, x) => (i, a.eval x)).toList = [(0, .agg cells.toArray)] := by simp [hx]
  rw [hp]
  have := Great.fill_whole (s := n) hn [.agg cells.toArray] ((Array.range (1 * n)).map (z.cells[· % z.cells.size]!)) (fun v hv => by
    have : v = .agg cells.toArray := by simpa using hv
    rw [this]
    simpa [Value.cells] using hl) (by simp)
  simpa [Value.cells] using this
end

theorem whole_ne {w : World} {g g' : Nat} {t t' : TypeId} {l l' : List Value} (h : Whole w g t l) (h' : Whole w g' t' l') (ht : t ≠ t') : g ≠ g' := fun e => by
  subst e
  unfold Whole at h h'
  rw [h] at h'
  have h' := Option.some.inj h'
  injection h' with _ h' _
  exact ht h'
theorem Whole.appended {w w' : World} {g B k n : Nat} {t e : TypeId} {v : Value} {l xs : List Value} (h : Whole w g t l) (hr : w.ownsRow B e n v k xs) (ht : e ≠ t) (hG : w.grownBy w' v.ownBlock) : Whole w' g t l :=
  h.grown hG fun e => row_ne_whole hr h ht e.symm
/-- A row is no block of another type. -/
theorem TrP.ne {W w : World} {tb g : Nat} {lv : Value} {ns : List Nt} {t : TypeId} {l : List Value} (h : TrP W w tb lv ns) (hw : Whole w g t l) (h1 : 60 ≠ t) (h2 : 74 ≠ t) : tb ≠ g ∧ ∀ x, lv.ownBlock = some x → x ≠ g :=
  ⟨whole_ne h.box hw h1, fun _ hx e => row_ne_whole h.row hw h2 (e ▸ hx)⟩
theorem TrP.row' {W w : World} {tb : Nat} {lv : Value} {ns : List Nt} (h : TrP W w tb lv ns) : w.ownsRow W.heap.size 74 38 lv (links zeroG ns).length ((links zeroG ns).flatMap linkCells) := by
  rw [links_length]
  exact h.row

/-- What Add works on: the trail, the note, the block of the answer. -/
structure AddIn (W w0 w : World) (tb : Nat) (lv : Value) (ns : List Nt) (NB DB : Nat) (n : Nt) : Prop where
  tr : TrP W w tb lv ns
  note : Whole w NB 36 n.cells
  res : Whole w DB 24 (zeroNums .u8 32)
  tab : KTab w
  below : Below w0.heap.size w0 w
  new : w0.heap.size ≤ DB
  old : W.heap.size ≤ w0.heap.size ∧ 0 < w0.heap.size
theorem AddIn.on {W w0 w w' : World} {tb : Nat} {lv : Value} {ns : List Nt} {NB DB : Nat} {n : Nt} (h : AddIn W w0 w tb lv ns NB DB n) (hb : Below w.heap.size w w') : AddIn W w0 w' tb lv ns NB DB n :=
  ⟨h.tr.on hb, h.note.below hb h.note.lt, h.res.below hb h.res.lt, h.tab.below hb h.tab.1, h.below.trans (hb.mono h.below.size), h.new, h.old⟩
theorem AddIn.start {W w : World} {tb : Nat} {lv : Value} {ns : List Nt} (n : Nt) (h : TrP W w tb lv ns) (hK : KTab w) : AddIn W w ((w.alloc (.cells n.cells.toArray 36)).alloc (.cells (zeroNums .u8 32).toArray 24)) tb lv ns w.heap.size (w.heap.size + 1) n := by
  have b1 : Below w.heap.size w (w.alloc (.cells n.cells.toArray 36)) := (Below.refl _ _).alloc (Nat.le_refl _) _
  have h1 := Whole.new w 36 n.cells.toArray
  have s1 : (w.alloc (.cells n.cells.toArray 36)).heap.size = w.heap.size + 1 := by simp
  generalize w.alloc (.cells n.cells.toArray 36) = w1 at b1 h1 s1 ⊢
  have b2 : Below w1.heap.size w1 (w1.alloc (.cells (zeroNums .u8 32).toArray 24)) := (Below.refl _ _).alloc (Nat.le_refl _) _
  have h2 := Whole.new w1 24 (zeroNums .u8 32).toArray
  rw [s1] at h2
  have b12 := b1.trans (b2.mono b1.size)
  exact ⟨h.on b12, by simpa using h1.below b2 h1.lt, by simpa using h2, hK.below b12 hK.1, b12, by omega, h.below.size, hK.1⟩
/-- .. and the head behind the note. -/
structure AddIn2 (W w0 w : World) (tb : Nat) (lv : Value) (ns : List Nt) (NB DB : Nat) (n : Nt) (H : Nat) (vs : List Value) : Prop where
  base : AddIn W w0 w tb lv ns NB DB n
  cell : Whole w H 24 vs
  ne : DB ≠ H
  new : w0.heap.size ≤ H
theorem AddIn2.on {W w0 w w' : World} {tb : Nat} {lv : Value} {ns : List Nt} {NB DB H : Nat} {n : Nt} {vs : List Value} (h : AddIn2 W w0 w tb lv ns NB DB n H vs) (hb : Below w.heap.size w w') : AddIn2 W w0 w' tb lv ns NB DB n H vs :=
  ⟨h.base.on hb, h.cell.below hb h.cell.lt, h.ne, h.new⟩
theorem AddIn.more {W w0 w : World} {tb : Nat} {lv : Value} {ns : List Nt} {NB DB : Nat} {n : Nt} (h : AddIn W w0 w tb lv ns NB DB n) : AddIn2 W w0 (w.alloc (.cells (zeroNums .u8 32).toArray 24)) tb lv ns NB DB n w.heap.size (zeroNums .u8 32) :=
  ⟨h.on ((Below.refl _ _).alloc (Nat.le_refl _) _), by simpa using Whole.new w 24 (zeroNums .u8 32).toArray, Nat.ne_of_lt h.res.lt, h.below.size⟩
theorem AddIn2.filled {W w0 w : World} {tb : Nat} {lv : Value} {ns : List Nt} {NB DB H : Nat} {n : Nt} {vs : List Value} (h : AddIn2 W w0 w tb lv ns NB DB n H vs) (us : List Value) : AddIn2 W w0 (w.setRow H us.toArray) tb lv ns NB DB n H us := by
  have hG : w.grownBy (w.setRow H us.toArray) (some H) := grown_row (World.grownBy.refl _ _) (.inl rfl) _
  have hn := h.base.tr.ne h.cell (by decide) (by decide)
  have hW := h.base.old
  have hH := h.new
  refine ⟨⟨h.base.tr.on_row ⟨hn.1, hn.2, by omega⟩ _, h.base.note.grown hG (fun e => whole_ne h.base.note h.cell (by decide) (by injection e)), h.base.res.grown hG (fun e => h.ne (by injection e)), h.base.tab.grown hG (fun e => by injection e with e; omega), h.base.below.grown hG h.base.below.size (fun k hk => ?_), h.base.new, h.base.old⟩, h.cell.row us, h.ne, h.new⟩
  injection hk with hk
  omega

end Go.Proofs.YtglcingpolpkdaaDoor
