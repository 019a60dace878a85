/- Notes, and the head behind a note: what Next is to tell; texts turned into bytes. -/
import Derived.Test.YtglcingpolpkdaaDoorInt
import Derived.Laws.IdiomStrings
namespace Go.Proofs.YtglcingpolpkdaaDoor
open Go.RowKit

structure Nt where
  time : Int
  who : ByteArray
  tenant : ByteArray
  what : Int
  key : ByteArray
  code : Int
def Nt.cells (n : Nt) : List Value := [.int .i64 n.time, .string n.who, .string n.tenant, .int .i64 n.what, .string n.key, .int .i64 n.code]
def bytesB (s : ByteArray) : List (BitVec 8) := s.data.toList.map UInt8.toBitVec
theorem bytesB_length (s : ByteArray) : (bytesB s).length = s.size := by
  unfold bytesB
  rw [List.length_map, Array.length_toList]
  rfl
def nextOk (n : Nt) : Bool := okInt n.time && okInt n.what && okInt n.code && (decide (n.who.size ≤ 64) && decide (n.tenant.size ≤ 64) && decide (n.key.size ≤ 64))
def nextD (d : List (BitVec 8)) (n : Nt) : List (BitVec 8) := sha (joinBytes [d, intB n.time, bytesB n.who, bytesB n.tenant, intB n.what, bytesB n.key, intB n.code])
theorem nextD_length (d : List (BitVec 8)) (n : Nt) : (nextD d n).length = 32 := sha_length _
def zeroD : List (BitVec 8) := List.replicate 32 0#8
theorem zeroD_cells : zeroD.map vu8 = zeroNums .u8 32 := by kernel_rfl

theorem bytes_cell (s : ByteArray) (c k : Nat) (hk : k < s.size) : ∃ n : Nat, n < 256 ∧ (bytesRow s c)[k]? = some (.int .u8 (n : Int)) ∧ ∃ b, s.data.toList[k]? = some b ∧ b.toNat = n := by
  have hk' : k < s.data.size := hk
  refine ⟨(s.data[k]).toNat, UInt8.toNat_lt _, ?_, s.data[k], by simp, rfl⟩
  unfold bytesRow
  rw [Array.getElem?_append_left (by simpa using hk'), Array.getElem?_map, Array.getElem?_eq_getElem hk']
  rfl
theorem conv_slice (w : World) (s : ByteArray) (cap : Nat) (fr : Nat × Nat) : SliceIs (w.drew.alloc (.cells (bytesRow s cap) 5 fr)) (.slice (some ⟨w.heap.size, 0, none⟩) s.size cap) (bytesB s) := by
  refine .inr ⟨w.heap.size, 0, cap, by rw [bytesB_length], by simp, fun j y hj => ?_⟩
  have hjl : j < s.size := by
    have := (List.getElem?_eq_some_iff.1 hj).1
    rwa [bytesB_length] at this
  obtain ⟨n, _, h2, b, h3, h4⟩ := bytes_cell s cap j hjl
  unfold bytesB at hj
  rw [List.getElem?_map, h3] at hj
  have hy : b.toBitVec = y := by simpa using hj
  rw [Nat.zero_add, cell_of_row _ w.heap.size j _ 5 _ (heap_alloc_new w.drew _), h2, ← hy, ← h4]
  rfl
/-- '[]byte(s)'. -/
theorem wp_conv_text {w : World} {o : Oper} {a : Act} {K : Act → World → Prop} {Q : Exit → Act → World → Prop} (s : Operand) (ho : o.op = .convert 9 75 s) (c : ByteArray) (hs : a.eval s = .string c)
    (h : ∀ g k w', SliceIs w' (.slice (some ⟨g, 0, none⟩) c.size k) (bytesB c) → Below w.heap.size w w' → K (a.put o.dst (.slice (some ⟨g, 0, none⟩) c.size k)) w') : o.wp Tryd.prog a w K Q := by
  have hr := run_bytes_of_string (P := Tryd.prog) w 9 75 5 c Tryd.underlying9 Tryd.underlying75 Tryd.underlying5
  unfold Oper.wp execOp
  simp only [ho, hs, Sem.run_bind, hr, Result.andThen_ok, Sem.run_pure]
  exact h _ _ _ (conv_slice w c _ _) ((Below.refl _ _).drew.alloc (Nat.le_refl _) _)

theorem lists_seven (w : World) (t : TypeId) {v0 v1 v2 v3 v4 v5 v6 : Value} {l0 l1 l2 l3 l4 l5 l6 : List (BitVec 8)} (h0 : SliceIs w v0 l0) (h1 : SliceIs w v1 l1) (h2 : SliceIs w v2 l2) (h3 : SliceIs w v3 l3) (h4 : SliceIs w v4 l4) (h5 : SliceIs w v5 l5) (h6 : SliceIs w v6 l6) :
    ListsAt (w.alloc (.cells #[v0, v1, v2, v3, v4, v5, v6] t)) (.slice (some ⟨w.heap.size, 0, none⟩) 7 7) [l0, l1, l2, l3, l4, l5, l6] := by
  have hb : Below w.heap.size w (w.alloc (.cells #[v0, v1, v2, v3, v4, v5, v6] t)) := (Below.refl _ _).alloc (Nat.le_refl _) _
  have hW := Whole.new w t #[v0, v1, v2, v3, v4, v5, v6]
  refine ⟨_, 7, rfl, fun _ => ⟨w.heap.size, 0, rfl, by simp, fun i bs hi => ?_⟩⟩
  have hi7 : i < 7 := by
    have := (List.getElem?_eq_some_iff.1 hi).1
    simpa using this
  rw [Nat.zero_add, hW.cell]
  match i, hi7 with
  | 0, _ => exact ⟨v0, rfl, by have e : l0 = bs := by simpa using hi
                               exact e ▸ h0.low hb⟩
  | 1, _ => exact ⟨v1, rfl, by have e : l1 = bs := by simpa using hi
                               exact e ▸ h1.low hb⟩
  | 2, _ => exact ⟨v2, rfl, by have e : l2 = bs := by simpa using hi
                               exact e ▸ h2.low hb⟩
  | 3, _ => exact ⟨v3, rfl, by have e : l3 = bs := by simpa using hi
                               exact e ▸ h3.low hb⟩
  | 4, _ => exact ⟨v4, rfl, by have e : l4 = bs := by simpa using hi
                               exact e ▸ h4.low hb⟩
  | 5, _ => exact ⟨v5, rfl, by have e : l5 = bs := by simpa using hi
                               exact e ▸ h5.low hb⟩
  | 6, _ => exact ⟨v6, rfl, by have e : l6 = bs := by simpa using hi
                               exact e ▸ h6.low hb⟩

theorem run_max3 {P : Program} (ats : Array TypeId) (ty : TypeId) (w : World) (a b c : Int) : (Builtin.max_ ats ty #[.int .i64 a, .int .i64 b, .int .i64 c]).run P w = .ok (.int .i64 (max (max a b) c)) w := by
  have e1 : (if b > a then b else a) = max a b := by rw [Int.max_def]; split <;> split <;> omega
  have e2 : (if c > max a b then c else max a b) = max (max a b) c := by rw [Int.max_def (max a b) c]; split <;> split <;> omega
  simp [Builtin.max_, Builtin.max2, e1, e2]

theorem results_cell_two {P : Program} {fn : Func} {p q : Tmp} {ty : TypeId} (h : fn.results = #[.cell p ty, .tmp q]) (tmps : Array Value) (w : World) (g : Nat) (t : TypeId) (cs : Array Value) (fr : Nat × Nat) (d : TypeDesc)
    (hp : tmps.getD p undef = .pointer (some ⟨g, 0, none⟩)) (hg : w.heap[g]? = some (.cells cs t fr))
    (hu : P.underlying ty = some d) (hd : (match d with | .struct _ | .array _ _ => true | _ => false) = true) (hi : (P.info? ty).map (·.size) = some cs.size) :
    (results fn tmps).run P w = .ok (.tuple #[.agg cs, tmps.getD q undef]) w := by
  have hp' : tmps[p]?.getD undef = .pointer (some ⟨g, 0, none⟩) := by simpa using hp
  simp [results, h, hp', asAddr, run_loadVar_row w g t ty cs fr d hg hu hd hi]

theorem int_ok (w : World) {n : Int} (h : okInt n = true) : Calls Tryd.prog 28 #[.int .i64 n] w fun e w' => ∃ p k, e = .returned (.tuple #[.slice p 8 k, .int .i64 0]) ∧ SliceIs w' (.slice p 8 k) (intB n) ∧ Below w.heap.size w w' := by
  have := int_calls w n
  unfold IntEnd at this
  rw [h] at this
  refine this.mono ?_
  rintro e w' ⟨v, rfl, hO, hB⟩
  obtain ⟨p, k, hv⟩ := hO.slice.len
  rw [if_pos rfl, intB_length] at hv
  subst hv
  exact ⟨p, k, rfl, hO.slice, hB⟩
theorem int_bad (w : World) {n : Int} (h : okInt n = false) : Calls Tryd.prog 28 #[.int .i64 n] w fun e w' => ∃ v, e = .returned (.tuple #[v, .int .i64 2]) ∧ Below w.heap.size w w' := by
  have := int_calls w n
  unfold IntEnd at this
  rw [h] at this
  refine this.mono ?_
  rintro e w' ⟨v, rfl, hO, hB⟩
  exact ⟨v, rfl, hB⟩
theorem refint_ok (w : World) {n : Int} (h : okInt n = true) : Calls Tryd.prog 30 #[.int .i64 n] w fun e w' => ∃ p k, e = .returned (.tuple #[.slice p 8 k, .int .i64 0]) ∧ SliceIs w' (.slice p 8 k) (intB n) ∧ Below w.heap.size w w' := by
  have := refint_calls w n
  unfold IntEnd at this
  rw [h] at this
  refine this.mono ?_
  rintro e w' ⟨v, rfl, hO, hB⟩
  obtain ⟨p, k, hv⟩ := hO.slice.len
  rw [if_pos rfl, intB_length] at hv
  subst hv
  exact ⟨p, k, rfl, hO.slice, hB⟩
theorem refint_bad (w : World) {n : Int} (h : okInt n = false) : Calls Tryd.prog 30 #[.int .i64 n] w fun e w' => ∃ v, e = .returned (.tuple #[v, .int .i64 2]) ∧ Below w.heap.size w w' := by
  have := refint_calls w n
  unfold IntEnd at this
  rw [h] at this
  refine this.mono ?_
  rintro e w' ⟨v, rfl, hO, hB⟩
  exact ⟨v, rfl, hB⟩

/-- What lies in Next: the head, the note, the bytes of its numbers. -/
structure NIn (w0 w : World) (HB NB : Nat) (d : List (BitVec 8)) (n : Nt) (va vw vc : Value) : Prop where
  head : Whole w HB 24 (d.map vu8)
  note : Whole w NB 36 n.cells
  at_ : SliceIs w va (intB n.time)
  what : SliceIs w vw (intB n.what)
  code : SliceIs w vc (intB n.code)
  tab : KTab w
  below : Below w0.heap.size w0 w
theorem NIn.on {w0 w w' : World} {HB NB : Nat} {d : List (BitVec 8)} {n : Nt} {va vw vc : Value} (h : NIn w0 w HB NB d n va vw vc) (hb : Below w.heap.size w w') : NIn w0 w' HB NB d n va vw vc :=
  ⟨h.head.below hb h.head.lt, h.note.below hb h.note.lt, h.at_.low hb, h.what.low hb, h.code.low hb, h.tab.below hb h.tab.1, h.below.trans (hb.mono h.below.size)⟩
theorem NIn.slice {w0 w : World} {HB NB : Nat} {d : List (BitVec 8)} {n : Nt} {va vw vc : Value} (h : NIn w0 w HB NB d n va vw vc) (hd : d.length = 32) : SliceIs w (.slice (some ⟨HB, 0, none⟩) 32 32) d :=
  .inr ⟨HB, 0, 32, by rw [hd], h.head.lt, fun j x hj => by
    rw [Nat.zero_add, h.head.cell, List.getElem?_map, hj]
    rfl⟩
theorem next_len (d : List (BitVec 8)) (n : Nt) (hd : d.length = 32) (h1 : n.who.size ≤ 64) (h2 : n.tenant.size ≤ 64) (h3 : n.key.size ≤ 64) : (joinBytes [d, intB n.time, bytesB n.who, bytesB n.tenant, intB n.what, bytesB n.key, intB n.code]).length ≤ 549755813888 := by
  simp [joinBytes, eightBytes_length, intB_length, bytesB_length, hd]
  omega
theorem next_start (w : World) (d : List (BitVec 8)) (cs : Array Value) (hK : KTab w) : ∃ w1, w1 = ((w.alloc (.cells (d.map vu8).toArray 24)).alloc (.cells cs 36)).alloc (.cells (zeroNums .u8 32).toArray 24) ∧
    Whole w1 w.heap.size 24 (d.map vu8) ∧ Whole w1 (w.heap.size + 1) 36 cs.toList ∧ Whole w1 (w.heap.size + 1 + 1) 24 (zeroNums .u8 32) ∧ KTab w1 ∧ Below w.heap.size w w1 ∧ w1.heap.size = w.heap.size + 3 := by
  have b1 : Below w.heap.size w (w.alloc (.cells (d.map vu8).toArray 24)) := (Below.refl _ _).alloc (Nat.le_refl _) _
  have h1 := Whole.new w 24 (d.map vu8).toArray
  have s1 : (w.alloc (.cells (d.map vu8).toArray 24)).heap.size = w.heap.size + 1 := by simp
  generalize w.alloc (.cells (d.map vu8).toArray 24) = w1 at b1 h1 s1
  have b2 : Below w1.heap.size w1 (w1.alloc (.cells cs 36)) := (Below.refl _ _).alloc (Nat.le_refl _) _
  have h2 := Whole.new w1 36 cs
  have s2 : (w1.alloc (.cells cs 36)).heap.size = w.heap.size + 1 + 1 := by simp [s1]
  rw [s1] at h2
  have h1' := h1.below b2 h1.lt
  have b12 := b1.trans (b2.mono b1.size)
  generalize w1.alloc (.cells cs 36) = w2 at b2 h2 s2 h1' b12
  have b3 : Below w2.heap.size w2 (w2.alloc (.cells (zeroNums .u8 32).toArray 24)) := (Below.refl _ _).alloc (Nat.le_refl _) _
  have h3 := Whole.new w2 24 (zeroNums .u8 32).toArray
  rw [s2] at h3
  have b123 := b12.trans (b3.mono b12.size)
  refine ⟨_, rfl, ?_, ?_, ?_, ?_, ?_, ?_⟩
  · simpa using h1'.below b3 h1'.lt
  · exact h2.below b3 h2.lt
  · simpa using h3
  · exact hK.below b123 hK.1
  · exact b123
  · simp [s2]

theorem int_code (w : World) {n c : Int} (h : (if okInt n = true then 0 else 2) = c) : Calls Tryd.prog 28 #[.int .i64 n] w fun e w' => ∃ v, e = .returned (.tuple #[v, .int .i64 c]) ∧ Below w.heap.size w w' := by
  subst h
  refine (int_calls w n).mono ?_
  rintro e w' ⟨v, rfl, hO, hB⟩
  exact ⟨v, rfl, hB⟩
theorem refint_code (w : World) {n c : Int} (h : (if okInt n = true then 0 else 2) = c) : Calls Tryd.prog 30 #[.int .i64 n] w fun e w' => ∃ v, e = .returned (.tuple #[v, .int .i64 c]) ∧ Below w.heap.size w w' := by
  subst h
  refine (refint_calls w n).mono ?_
  rintro e w' ⟨v, rfl, hO, hB⟩
  exact ⟨v, rfl, hB⟩
end Go.Proofs.YtglcingpolpkdaaDoor
