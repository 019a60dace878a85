/- A log in memory. -/
import Derived.Great.FillDense
import Derived.Test.YtmmlpbepaefamaaGreatDoorDBaseX5
import Derived.Test.YtmmlpbepaefamaaGreatDoorDNew
import Derived.Test.YtmmlpbepaefamaaGreatDoorJRead
namespace Go.Proofs.YtmmlpbepaefamaaGreatDoor
open Go.RowKit

def zeroJ : Array Value := (.pointer none :: .string ⟨#[]⟩ :: (zeroNums .u32 256 ++ [.int .i64 0, .int .i64 0])).toArray
theorem built_jour_eq (parts : List (Nat × Value)) : Tryz.prog.built 106 parts = Instr.fill ((#[(0, 1), (1, 1), (2, 256), (258, 1), (259, 1)] : Array (Nat × Nat))[·]?) zeroJ parts := by kernel_rfl
def jourC (d : Nat) (s : ByteArray) (n z : Int) : List Value := .pointer (some ⟨d, 0, none⟩) :: .string s :: (tabRow 256 ++ [.int .i64 n, .int .i64 z])
theorem fill_mid (pre mid new post : List Value) (h : new.length = mid.length) (cs : Array Value) (hc : cs = (pre ++ (mid ++ post)).toArray) :
    (new.zipIdx 0).foldl (fun cs (x : Value × Nat) => cs.setIfInBounds (pre.length + x.2) x.1) cs = (pre ++ (new ++ post)).toArray := by
  obtain ⟨s1, k1⟩ := Great.foldl_set pre.length new 0 cs
  have hs : cs.size = pre.length + (mid.length + post.length) := by rw [hc]; simp
  apply Array.ext_getElem?
  intro k
  rw [k1]
  by_cases h1 : k < pre.length
  · rw [if_neg (by omega), hc]
    simp [List.getElem?_append_left h1]
  · by_cases h2 : k < pre.length + new.length
    · rw [if_pos (by omega)]
      simp only [List.getElem?_toArray]
      rw [List.getElem?_append_right (by omega), List.getElem?_append_left (by omega), Nat.add_zero]
    · rw [if_neg (by omega), hc]
      simp only [List.getElem?_toArray]
      rw [List.getElem?_append_right (by omega), List.getElem?_append_right (by omega), List.getElem?_append_right (by omega), List.getElem?_append_right (by omega), h]
theorem whole_ne {w : World} {g g' : Nat} {t t' : TypeId} {l l' : List Value} (h : Whole w g t l) (h' : Whole w g' t' l') (ht : t ≠ t') : g ≠ g' := fun e => by
  subst e
  unfold Whole at h h'
  rw [h] at h'
  injection h' with h'
  injection h' with _ h' _
  exact ht h'
theorem built_jour (d : Nat) (s : ByteArray) : Tryz.prog.built 106 [(0, .pointer (some ⟨d, 0, none⟩)), (1, .string s), (2, .agg (tabRow 256).toArray)] = some (jourC d s 0 0).toArray := by
  rw [built_jour_eq]
  have e0 : (Value.pointer (some ⟨d, 0, none⟩)).cells = #[.pointer (some ⟨d, 0, none⟩)] := rfl
  have e1 : (Value.string s).cells = #[.string s] := rfl
  have e2 : ∀ T : List Value, (Value.agg T.toArray).cells = T.toArray := fun _ => rfl
  have hl := tabRow_length 256
  obtain ⟨Z, hZ, hz⟩ : ∃ Z, zeroNums .u32 256 = Z ∧ Z.length = 256 := ⟨_, rfl, List.length_replicate⟩
  have zJ : zeroJ = (.pointer none :: .string ⟨#[]⟩ :: (Z ++ [.int .i64 0, .int .i64 0])).toArray := by unfold zeroJ; rw [hZ]
  clear hZ
  obtain ⟨T, hT⟩ : ∃ T, tabRow 256 = T := ⟨_, rfl⟩
  unfold jourC
  rw [zJ]
  rw [hT] at hl ⊢
  clear hT
  have p0 : (#[(0, 1), (1, 1), (2, 256), (258, 1), (259, 1)] : Array (Nat × Nat))[0]? = some (0, 1) := rfl
  have p1 : (#[(0, 1), (1, 1), (2, 256), (258, 1), (259, 1)] : Array (Nat × Nat))[1]? = some (1, 1) := rfl
  have p2 : (#[(0, 1), (1, 1), (2, 256), (258, 1), (259, 1)] : Array (Nat × Nat))[2]? = some (2, 256) := rfl
  simp only [Instr.fill, p0, p1, p2, e0, e1, e2, List.size_toArray, hl]
  rw [if_neg (by simp [hz])]
  have q0 : (#[Value.pointer (some ⟨d, 0, none⟩)].zipIdx.foldl (fun cs (c, j) => cs.setIfInBounds (0 + j) c) (.pointer none :: .string ⟨#[]⟩ :: (Z ++ [.int .i64 0, .int .i64 0])).toArray) = (.pointer (some ⟨d, 0, none⟩) :: .string ⟨#[]⟩ :: (Z ++ [.int .i64 0, .int .i64 0])).toArray := by
    rw [← Array.foldl_toList, Array.toList_zipIdx]
    simp
  rw [q0, if_neg (by simp [hz])]
  have q1 : (#[Value.string s].zipIdx.foldl (fun cs (c, j) => cs.setIfInBounds (1 + j) c) (.pointer (some ⟨d, 0, none⟩) :: .string ⟨#[]⟩ :: (Z ++ [.int .i64 0, .int .i64 0])).toArray) = (.pointer (some ⟨d, 0, none⟩) :: .string s :: (Z ++ [.int .i64 0, .int .i64 0])).toArray := by
    rw [← Array.foldl_toList, Array.toList_zipIdx]
    simp
  rw [q1, if_neg (by simp [hz])]
  rw [← Array.foldl_toList, Array.toList_zipIdx]
  exact congrArg some (fill_mid [.pointer (some ⟨d, 0, none⟩), .string s] Z T [.int .i64 0, .int .i64 0] (by rw [hl, hz]) _ rfl)
theorem jourC_length (d : Nat) (s : ByteArray) (n z : Int) : (jourC d s n z).length = 260 := by simp [jourC, tabRow_length]
theorem jourC_n (d : Nat) (s : ByteArray) (n z : Int) : (jourC d s n z)[258]? = some (.int .i64 n) := by
  unfold jourC
  rw [List.getElem?_cons_succ, List.getElem?_cons_succ, List.getElem?_append_right (by simp [tabRow_length]), tabRow_length]
  rfl
theorem jourC_z (d : Nat) (s : ByteArray) (n z : Int) : (jourC d s n z)[259]? = some (.int .i64 z) := by
  unfold jourC
  rw [List.getElem?_cons_succ, List.getElem?_cons_succ, List.getElem?_append_right (by simp [tabRow_length]), tabRow_length]
  rfl
theorem jourC_setN (d : Nat) (s : ByteArray) (n z m : Int) : (jourC d s n z).set 258 (.int .i64 m) = jourC d s m z := by
  unfold jourC
  rw [List.set_cons_succ, List.set_cons_succ, List.set_append_right _ _ (by simp [tabRow_length]), tabRow_length]
  rfl
theorem jourC_setZ (d : Nat) (s : ByteArray) (n z m : Int) : (jourC d s n z).set 259 (.int .i64 m) = jourC d s n m := by
  unfold jourC
  rw [List.set_cons_succ, List.set_cons_succ, List.set_append_right _ _ (by simp [tabRow_length]), tabRow_length]
  rfl
theorem jour_tab {w : World} {jb d : Nat} {s : ByteArray} {n z : Int} {t : TypeId} (h : Whole w jb t (jourC d s n z)) : TabAt w jb 2 :=
  ⟨h.lt, fun i hi => by
    rw [h.cell]
    unfold jourC
    rw [show 2 + i = i + 1 + 1 by omega, List.getElem?_cons_succ, List.getElem?_cons_succ, List.getElem?_append_left (by rw [tabRow_length]; exact hi)]
    exact tabRow_at i hi⟩

/-- A log and its disk. -/
structure LogAt (W w : World) (jb d fm rm : Nat) (own : Nat → Option Nat) (L : List (ByteArray × Nat × Dfile)) (ks : List Int) (c : Nat) (s : ByteArray) (n z : Int) : Prop where
  disk : DiskAt W w d fm rm own L ks c
  jour : Whole w jb 106 (jourC d s n z)
  mine : own jb = none
  gej : W.heap.size ≤ jb
theorem LogAt.ne {W w : World} {jb d fm rm c : Nat} {own : Nat → Option Nat} {L : List (ByteArray × Nat × Dfile)} {ks : List Int} {s : ByteArray} {n z : Int} (h : LogAt W w jb d fm rm own L ks c s n z) : jb ≠ d ∧ jb ≠ fm := by
  obtain ⟨e, c, hm, _⟩ := h.disk.all
  exact ⟨whole_ne h.jour h.disk.box (by decide), whole_ne_map h.jour hm⟩
theorem LogAt.low {W w w' : World} {jb d fm rm c : Nat} {own : Nat → Option Nat} {L : List (ByteArray × Nat × Dfile)} {ks : List Int} {s : ByteArray} {n z : Int} (h : LogAt W w jb d fm rm own L ks c s n z) (hb : Below w.heap.size w w') : LogAt W w' jb d fm rm own L ks c s n z :=
  ⟨h.disk.low hb, h.jour.below hb h.jour.lt, h.mine, h.gej⟩
/-- The disk did something. -/
theorem LogAt.did {W w w' : World} {jb d fm rm c c' : Nat} {own own' : Nat → Option Nat} {L L' : List (ByteArray × Nat × Dfile)} {ks : List Int} {s : ByteArray} {n z : Int} (h : LogAt W w jb d fm rm own L ks c s n z) (hd : DiskAt W w' d fm rm own' L' ks c')
    (he : ∀ i, i < w.heap.size → own' i = own i) (ho : Only w w' fun i => i = d ∨ i = fm ∨ own i ≠ none) : LogAt W w' jb d fm rm own' L' ks c' s n z :=
  ⟨hd, h.jour.only ho (fun e => by rcases e with e | e | e; exact h.ne.1 e; exact h.ne.2 e; exact e h.mine), (he _ h.jour.lt).trans h.mine, h.gej⟩
theorem LogAt.setN {W w : World} {jb d fm rm c : Nat} {own : Nat → Option Nat} {L : List (ByteArray × Nat × Dfile)} {ks : List Int} {s : ByteArray} {n z : Int} (h : LogAt W w jb d fm rm own L ks c s n z) (m : Int) : LogAt W (w.setCell ⟨jb, 258, none⟩ (.int .i64 m)) jb d fm rm own L ks c s m z :=
  ⟨h.disk.far h.mine h.ne.1 h.ne.2 h.gej (by obtain ⟨_, _, hm, _⟩ := h.disk.ref; exact whole_ne_map h.jour hm) _ _, by have := h.jour.put 258 (.int .i64 m); rwa [jourC_setN] at this, h.mine, h.gej⟩
theorem LogAt.setZ {W w : World} {jb d fm rm c : Nat} {own : Nat → Option Nat} {L : List (ByteArray × Nat × Dfile)} {ks : List Int} {s : ByteArray} {n z : Int} (h : LogAt W w jb d fm rm own L ks c s n z) (m : Int) : LogAt W (w.setCell ⟨jb, 259, none⟩ (.int .i64 m)) jb d fm rm own L ks c s n m :=
  ⟨h.disk.far h.mine h.ne.1 h.ne.2 h.gej (by obtain ⟨_, _, hm, _⟩ := h.disk.ref; exact whole_ne_map h.jour hm) _ _, by have := h.jour.put 259 (.int .i64 m); rwa [jourC_setZ] at this, h.mine, h.gej⟩

set_option maxRecDepth 100000 in
theorem jnone_calls (w : World) (jb d : Nat) (h : w.cell? ⟨jb, 0, none⟩ = some (.pointer (some ⟨d, 0, none⟩))) : Calls Tryz.prog 62 #[.pointer (some ⟨jb, 0, none⟩)] w fun e w' => e = .returned (.bool false) ∧ w = w' := by
  go_enter Tryz.func62, Tryz.ntmps62
  go_wp2
  go_ret
  exact ⟨rfl, rfl⟩
end Go.Proofs.YtmmlpbepaefamaaGreatDoor

/- journal.Read; journal.Open where it opens. -/
namespace Go.Proofs.YtmmlpbepaefamaaGreatDoor
open Go.RowKit

theorem wpList_build_three {P : Program} {ops : Array Oper} {rest : List Oper} {o : Oper} {a : Act} {w : World} {Q : Exit → Act → World → Prop} (hg : o.guard = none) (t : TypeId) (x y z : Operand) (i j k : Nat) (ho : o.op = .build t #[(i, x), (j, y), (k, z)]) (u v r : Value)
    (hx : a.eval x = u) (hy : a.eval y = v) (hz : a.eval z = r) (cells : Array Value) (hb : P.built t [(i, u), (j, v), (k, r)] = some cells) (h : wpList P ops Q rest (a.put o.dst (.agg cells)) w) : wpList P ops Q (o :: rest) a w :=
  wpList_build_as hg t _ ho cells (by simpa [hx, hy, hz] using hb) h
/-- '&T{..}': the cells of what is built, in a new block. -/
theorem wpList_box_row {P : Program} {ops : Array Oper} {rest : List Oper} {o : Oper} {a : Act} {w : World} {Q : Exit → Act → World → Prop} (hg : o.guard = none) (t : TypeId) (x : Operand) (ho : o.op = .box t x)
    (cells : Array Value) (hx : a.eval x = .agg cells)
    (h : wpList P ops Q rest (a.put o.dst (.pointer (some ⟨w.heap.size, 0, none⟩))) (w.alloc (.cells cells t))) : wpList P ops Q (o :: rest) a w :=
  wpList_plain hg fun K hK => by
    unfold Oper.wp execOp
    simp only [ho, hx]
    simp [Instr.box, newVar, Value.cells, newRow]
    exact hK _ _ h
theorem ListsOwn.down {w : World} {B B' : Nat} {v : Value} {bs : List (List (BitVec 8))} (h : ListsOwn w B' v bs) (hb : B ≤ B') : ListsOwn w B v bs := by
  obtain ⟨vs, h1, h2, h3⟩ := h.row
  refine ⟨vs, h1, own_down hb h2, fun i x hx => ?_⟩
  obtain ⟨u, hu, ho⟩ := h3 i x hx
  exact ⟨u, hu, own_down hb ho⟩
theorem ListsOwn.shape {w : World} {B : Nat} {v : Value} {bs : List (List (BitVec 8))} (h : ListsOwn w B v bs) : ∃ a c, v = .slice a bs.length c := by
  obtain ⟨vs, h1, h2, _⟩ := h.row
  obtain ⟨a, c, hv⟩ := slice_of_row h2
  exact ⟨a, c, by rw [hv, h1]⟩
/-- A cell of a block of another type is written over. -/
theorem ListsOwn.away {w : World} {B g : Nat} {v : Value} {bs : List (List (BitVec 8))} {t : TypeId} {l : List Value} (h : ListsOwn w B v bs) (hw : Whole w g t l) (h1 : 30 ≠ t) (h2 : 5 ≠ t) (i : Nat) (u : Value) : ListsOwn (w.setCell ⟨g, i, none⟩ u) B v bs := by
  obtain ⟨vs, e1, e2, e3⟩ := h.row
  have ho := Only.set w ⟨g, i, none⟩ u
  refine ⟨vs, e1, row_only e2 ho (fun j hj e => row_ne_whole e2 hw h1 (hj.trans (congrArg some e))), fun i x hx => ?_⟩
  obtain ⟨u', hu, hx2⟩ := e3 i x hx
  exact ⟨u', hu, row_only hx2 ho (fun j hj e => row_ne_whole hx2 hw h2 (hj.trans (congrArg some e)))⟩
/-- New memory is not the disk's. -/
theorem ListsOwn.only {w w' : World} {B : Nat} {S : Nat → Prop} {v : Value} {bs : List (List (BitVec 8))} (h : ListsOwn w B v bs) (ho : Only w w' S) (hs : ∀ i, B ≤ i → i < w.heap.size → ¬ S i) : ListsOwn w' B v bs := by
  obtain ⟨vs, e1, e2, e3⟩ := h.row
  refine ⟨vs, e1, row_only e2 ho (fun j hj => hs j (own_ge e2 hj) (row_lt e2 hj)), fun i x hx => ?_⟩
  obtain ⟨u', hu, hx2⟩ := e3 i x hx
  exact ⟨u', hu, row_only hx2 ho (fun j hj => hs j (own_ge hx2 hj) (row_lt hx2 hj))⟩
theorem LogAt.start {W w : World} {d fm rm c : Nat} {own : Nat → Option Nat} {L : List (ByteArray × Nat × Dfile)} {ks : List Int} {s : ByteArray} (h : DiskAt W w d fm rm own L ks c) : LogAt W (w.alloc (.cells (jourC d s 0 0).toArray 106)) w.heap.size d fm rm own L ks c s 0 0 :=
  ⟨h.low ((Below.refl _ _).alloc (Nat.le_refl _) _), by have := Whole.new w 106 (jourC d s 0 0).toArray; exact this, by
    cases e : own w.heap.size with
    | none => rfl
    | some fb => exact absurd (h.old _ _ e).2 (Nat.lt_irrefl _), h.below.size⟩
set_option maxRecDepth 100000 in
set_option maxHeartbeats 4000000 in
theorem read_some (w : World) (T O : Nat) (v : Value) (l : List (BitVec 8)) (hT : TabAt w T O) (hv : SliceR w v l) (hlen : l.length ≤ 1100000) {bs : List (List (BitVec 8))} {k : Nat} (hr : readC l = some (bs, k)) :
    Calls Tryz.prog 57 #[.pointer (some ⟨T, O, none⟩), v] w fun e w' => Below w.heap.size w w' ∧ ∃ u, e = .returned (.tuple #[u, .int .i64 k, .int .i64 0]) ∧ (∃ a c, u = .slice a bs.length c) ∧ ListsOwn w' w.heap.size u bs := by
  refine (read_calls w T O v l hT hv hlen).mono ?_
  rintro e w' ⟨hb, ⟨h, _⟩ | ⟨u, bs', n, h, he, hU⟩⟩
  · rw [hr] at h
    cases h
  · rw [hr] at h
    injection h with h
    injection h with h1 h2
    subst h1 h2
    exact ⟨hb, u, he, hU.shape, hU⟩
set_option maxRecDepth 100000 in
set_option maxHeartbeats 4000000 in
theorem read_none (w : World) (T O : Nat) (v : Value) (l : List (BitVec 8)) (hT : TabAt w T O) (hv : SliceR w v l) (hlen : l.length ≤ 1100000) (hr : readC l = none) :
    Calls Tryz.prog 57 #[.pointer (some ⟨T, O, none⟩), v] w fun e w' => Below w.heap.size w w' ∧ e = .returned (.tuple #[.slice none 0 0, .int .i64 0, .int .i64 14]) := by
  refine (read_calls w T O v l hT hv hlen).mono ?_
  rintro e w' ⟨hb, ⟨_, he⟩ | ⟨u, bs', n, h, _⟩⟩
  · exact ⟨hb, he⟩
  · rw [hr] at h
    cases h
set_option maxRecDepth 100000 in
set_option maxHeartbeats 4000000 in
theorem topread_some (w : World) (v : Value) (l : List (BitVec 8)) (hv : SliceR w v l) (hlen : l.length ≤ 1100000) {bs : List (List (BitVec 8))} {k : Nat} (hr : readC l = some (bs, k)) :
    Calls Tryz.prog 51 #[v] w fun e w' => Below w.heap.size w w' ∧ ∃ u, e = .returned (.tuple #[u, .int .i64 k, .int .i64 0]) ∧ (∃ a c, u = .slice a bs.length c) ∧ ListsOwn w' w.heap.size u bs := by
  have HRD := Lib.hid (fun w' T (hb : Below w.heap.size w w') (ht : TabAt w' T 0) => read_some w' T 0 _ l ht (hv.low hb) hlen hr)
  obtain ⟨_, pa, ca, rfl, _⟩ := hv
  have HT := Lib.hid (table_calls w)
  clear hlen hr
  go_enter Tryz.func51, Tryz.ntmps51
  go_wp2_with (first
    | (go_at_call 57; refine (HRD.out w3 _ B3 t3).mono ?_; rintro e w4 ⟨b4, _, rfl, ⟨ua, uc, rfl⟩, hU⟩)
    | (refine wpList_store_row (by rfl) 103 _ _ (by rfl) w1.heap.size (tabRow 256).toArray (by rfl) (by rfl) 103 _ h2 (by rw [size_tab]; simp [tabRow_length]) (by simp [zeroNums, tabRow_length]) (tabRow_one _) ?_; have t3 := TabAt.of_whole (h2.row (tabRow 256)); have B3 := b1.trans ((b2.grown (grown_row (World.grownBy.refl w2 (some w1.heap.size)) (.inl rfl) (tabRow 256).toArray) b2.size (fun i hi => by injection hi with hi; omega)).mono b1.size); generalize w2.setRow w1.heap.size (tabRow 256).toArray = w3 at t3 B3 ⊢)
    | (refine wpList_alloc_row (by rfl) 103 (by rfl) _ _ info_tab ?_; have h2 := Whole.new w1 103 (zeroNums .u32 256).toArray; have b2 : Below w1.heap.size w1 (w1.alloc (.cells (zeroNums .u32 256).toArray 103)) := (Below.refl _ _).alloc (Nat.le_refl _) _; generalize w1.alloc (.cells (zeroNums .u32 256).toArray 103) = w2 at h2 b2 ⊢)
    | (go_at_call 56; refine HT.out.mono ?_; rintro e w1 ⟨rfl, b1⟩)
    | fail)
  go_ret3
  exact ⟨B3.trans (b4.mono B3.size), _, rfl, ⟨_, _, rfl⟩, hU.down B3.size⟩
set_option maxRecDepth 100000 in
set_option maxHeartbeats 4000000 in
theorem topread_none (w : World) (v : Value) (l : List (BitVec 8)) (hv : SliceR w v l) (hlen : l.length ≤ 1100000) (hr : readC l = none) :
    Calls Tryz.prog 51 #[v] w fun e w' => Below w.heap.size w w' ∧ e = .returned (.tuple #[.slice none 0 0, .int .i64 0, .int .i64 14]) := by
  have HRD := Lib.hid (fun w' T (hb : Below w.heap.size w w') (ht : TabAt w' T 0) => read_none w' T 0 _ l ht (hv.low hb) hlen hr)
  obtain ⟨_, pa, ca, rfl, _⟩ := hv
  have HT := Lib.hid (table_calls w)
  clear hlen hr
  go_enter Tryz.func51, Tryz.ntmps51
  go_wp2_with (first
    | (go_at_call 57; refine (HRD.out w3 _ B3 t3).mono ?_; rintro e w4 ⟨b4, rfl⟩)
    | (refine wpList_store_row (by rfl) 103 _ _ (by rfl) w1.heap.size (tabRow 256).toArray (by rfl) (by rfl) 103 _ h2 (by rw [size_tab]; simp [tabRow_length]) (by simp [zeroNums, tabRow_length]) (tabRow_one _) ?_; have t3 := TabAt.of_whole (h2.row (tabRow 256)); have B3 := b1.trans ((b2.grown (grown_row (World.grownBy.refl w2 (some w1.heap.size)) (.inl rfl) (tabRow 256).toArray) b2.size (fun i hi => by injection hi with hi; omega)).mono b1.size); generalize w2.setRow w1.heap.size (tabRow 256).toArray = w3 at t3 B3 ⊢)
    | (refine wpList_alloc_row (by rfl) 103 (by rfl) _ _ info_tab ?_; have h2 := Whole.new w1 103 (zeroNums .u32 256).toArray; have b2 : Below w1.heap.size w1 (w1.alloc (.cells (zeroNums .u32 256).toArray 103)) := (Below.refl _ _).alloc (Nat.le_refl _) _; generalize w1.alloc (.cells (zeroNums .u32 256).toArray 103) = w2 at h2 b2 ⊢)
    | (go_at_call 56; refine HT.out.mono ?_; rintro e w1 ⟨rfl, b1⟩)
    | fail)
  go_ret3
  exact ⟨B3.trans (b4.mono B3.size), rfl⟩

theorem readC_nil : readC [] = some ([], 0) := by
  rw [readC, dif_pos (by simp)]
theorem slice_nil_room (w : World) : SliceR w (.slice none 0 0) [] := ⟨.inl ⟨rfl, .inl rfl⟩, _, _, rfl, Nat.le_refl _⟩
set_option maxRecDepth 100000 in
set_option maxHeartbeats 4000000 in
theorem jopen_missing (W w : World) (d fm rm c : Nat) (own : Nat → Option Nat) (L : List (ByteArray × Nat × Dfile)) (ks : List Int) (h : DiskAt W w d fm rm own L ks c) (s : ByteArray) (hnm : nameN s = true) (hs : s.size ≤ 9223372036854775806) (hg : getL L s = none) :
    Calls Tryz.prog 23 #[.pointer (some ⟨d, 0, none⟩), .string s] w fun e w' => ∃ jb, (∃ ua uc, e = .returned (.tuple #[.pointer (some ⟨jb, 0, none⟩), .slice ua 0 uc, .int .i64 0])) ∧ LogAt W w' jb d fm rm own L ks c s 0 0 ∧ w.heap.size ≤ jb ∧ Below w.heap.size w w' := by
  have HNM := Lib.hid (fun w => hnm ▸ jnamed_calls w s hs)
  have HT := Lib.hid table_calls
  have HD := Lib.hid h
  have HR0 := Lib.hid (dread_missing W w d fm rm c own L ks h s hg)
  have HRD := Lib.hid (fun w' T (ht : Whole w' T 106 (jourC d s 0 0)) => read_some w' T 2 _ [] (jour_tab ht) (slice_nil_room w') (by simp) readC_nil)
  clear h hnm
  go_enter Tryz.func23, Tryz.ntmps23
  go_upto_region 19 with (first
    | (go_at_call 57; refine (HRD.out w3 jb h3.jour).mono ?_; rintro e w4 ⟨b4, _, rfl, ⟨ua, uc, rfl⟩, hU⟩; replace h3 := h3.low b4; have B4 := B3.trans (b4.mono B3.size); replace hU := hU.down B3.size)
    | (refine wpList_box_row (by rfl) 106 _ (by rfl) (jourC d s 0 0).toArray (by rfl) ?_; have h3 := LogAt.start (s := s) (HD0.out.low B2); have B3 := B2.trans (((Below.refl w2.heap.size w2).alloc (Nat.le_refl _) (.cells (jourC d s 0 0).toArray 106)).mono B2.size); have hjb : w0.heap.size ≤ w2.heap.size := B2.size; generalize w2.alloc (.cells (jourC d s 0 0).toArray 106) = w3 at h3 B3 ⊢; generalize w2.heap.size = jb at h3 hjb ⊢)
    | (refine wpList_build_three (by rfl) 106 _ _ _ 0 1 2 (by rfl) (.pointer (some ⟨d, 0, none⟩)) (.string s) (.agg (tabRow 256).toArray) (by rfl) (by rfl) (by rfl) (jourC d s 0 0).toArray (built_jour d s) ?_)
    | (go_at_call 56; refine (HT.out w1).mono ?_; rintro e w2 ⟨rfl, b2⟩; have B2 := B1.trans (b2.mono B1.size); clear b2)
    | (go_at_call 55; refine (HNM.out w0).mono ?_; rintro e w1 ⟨rfl, b1⟩; have B1 := B0.trans (b1.mono B0.size); clear b1)
    | (go_at_call 20; refine HR0.out.mono ?_; rintro e w0 ⟨rfl, hw0⟩; have HB0 : Below w.heap.size w w0 := hw0 ▸ Below.refl _ _; clear hw0; have HD0 := Lib.hid (HD.out.low HB0); have B0 := Below.refl w0.heap.size w0)
    | fail)
  have f1 := h3.jour.free 258
  have c1 : w4.cell? ⟨jb, 258, none⟩ = some (.int .i64 0) := (h3.jour.cell 258).trans (jourC_n d s 0 0)
  have hU2 := hU.away h3.jour (by decide) (by decide) 258 (.int .i64 0)
  have h5 := h3.setN 0
  have f2 := h5.jour.free 259
  have c2 := (h5.jour.cell 259).trans (jourC_z d s 0 0)
  have hU3 := hU2.away h5.jour (by decide) (by decide) 259 (.int .i64 0)
  have h6 := h5.setZ 0
  clear hU2 hU3
  go_wp2
  go_ret3
  exact ⟨_, ⟨_, _, rfl⟩, h6, Nat.le_trans HB0.size hjb, HB0.trans (((B4.setCell hjb _).setCell hjb _).mono HB0.size)⟩
set_option maxRecDepth 100000 in
set_option maxHeartbeats 4000000 in
theorem jopen_whole (W w : World) (d fm rm c : Nat) (own : Nat → Option Nat) (L : List (ByteArray × Nat × Dfile)) (ks : List Int) (h : DiskAt W w d fm rm own L ks c) (s : ByteArray) (hnm : nameN s = true) (hs : s.size ≤ 9223372036854775806) {fb : Nat} {f : Dfile} (hg : getL L s = some (fb, f)) (hops : f.ops.length ≤ 90000) {bs : List (List (BitVec 8))} (hr : readC f.content = some (bs, f.content.length)) :
    Calls Tryz.prog 23 #[.pointer (some ⟨d, 0, none⟩), .string s] w fun e w' => ∃ jb u, e = .returned (.tuple #[.pointer (some ⟨jb, 0, none⟩), u, .int .i64 0]) ∧ LogAt W w' jb d fm rm own L ks c s bs.length f.content.length ∧ w.heap.size ≤ jb ∧ ListsOwn w' w.heap.size u bs ∧ Below w.heap.size w w' := by
  have HNM := Lib.hid (fun w => hnm ▸ jnamed_calls w s hs)
  have HT := Lib.hid table_calls
  have HD := Lib.hid h
  have HR0 := Lib.hid (dread_there W w d fm rm c own L ks h s fb f hg (by omega))
  have hfl : f.content.length ≤ 1048576 := by
    obtain ⟨_, _, _, hf⟩ := h.get hg
    exact okOps_len _ _ hf.okf.1 hf.okf.2
  have HRD := Lib.hid (fun w' T v (hv : SliceR w' v f.content) (ht : Whole w' T 106 (jourC d s 0 0)) => read_some w' T 2 v f.content (jour_tab ht) hv (by omega) hr)
  clear h hnm
  obtain ⟨N, hN⟩ : ∃ n, f.content.length = n := ⟨_, rfl⟩
  rw [hN] at HRD hfl ⊢
  have HN := Lib.hid hN
  clear hN hr
  have i1 : ¬ (N : Int) < (N : Int) := by omega
  go_enter Tryz.func23, Tryz.ntmps23
  go_upto_region 19 with (first
    | (go_at_call 57; refine (HRD.out w3 jb _ (HS0.out.low B3) h3.jour).mono ?_; rintro e w4 ⟨b4, _, rfl, ⟨ua, uc, rfl⟩, hU⟩; replace h3 := h3.low b4; have B4 := B3.trans (b4.mono B3.size); replace hU := hU.down B3.size)
    | (refine wpList_box_row (by rfl) 106 _ (by rfl) (jourC d s 0 0).toArray (by rfl) ?_; have h3 := LogAt.start (s := s) (HD0.out.low B2); have B3 := B2.trans (((Below.refl w2.heap.size w2).alloc (Nat.le_refl _) (.cells (jourC d s 0 0).toArray 106)).mono B2.size); have hjb : w0.heap.size ≤ w2.heap.size := B2.size; generalize w2.alloc (.cells (jourC d s 0 0).toArray 106) = w3 at h3 B3 ⊢; generalize w2.heap.size = jb at h3 hjb ⊢)
    | (refine wpList_build_three (by rfl) 106 _ _ _ 0 1 2 (by rfl) (.pointer (some ⟨d, 0, none⟩)) (.string s) (.agg (tabRow 256).toArray) (by rfl) (by rfl) (by rfl) (jourC d s 0 0).toArray (built_jour d s) ?_)
    | (go_at_call 56; refine (HT.out w1).mono ?_; rintro e w2 ⟨rfl, b2⟩; have B2 := B1.trans (b2.mono B1.size); clear b2)
    | (go_at_call 55; refine (HNM.out w0).mono ?_; rintro e w1 ⟨rfl, b1⟩; have B1 := B0.trans (b1.mono B0.size); clear b1)
    | (go_at_call 20; refine HR0.out.mono ?_; rintro e w0 ⟨_, rfl, O0, HB0⟩; have HS0 := Own.room O0; (obtain ⟨ba, bc, hbv⟩ := slice_of_row O0); rw [HN.out] at hbv; subst hbv; replace HS0 := Lib.hid HS0; clear O0; have HD0 := Lib.hid (HD.out.low HB0); have B0 := Below.refl w0.heap.size w0)
    | fail)
  have f1 := h3.jour.free 258
  have c1 : w4.cell? ⟨jb, 258, none⟩ = some (.int .i64 0) := (h3.jour.cell 258).trans (jourC_n d s 0 0)
  have hU2 := hU.away h3.jour (by decide) (by decide) 258 (.int .i64 bs.length)
  have h5 := h3.setN bs.length
  have f2 := h5.jour.free 259
  have c2 := (h5.jour.cell 259).trans (jourC_z d s bs.length 0)
  have hU3 := hU2.away h5.jour (by decide) (by decide) 259 (.int .i64 N)
  have h6 := h5.setZ N
  go_wp2
  go_ret3
  exact ⟨_, _, rfl, h6, Nat.le_trans HB0.size hjb, hU3.down HB0.size, HB0.trans (((B4.setCell hjb _).setCell hjb _).mono HB0.size)⟩

end Go.Proofs.YtmmlpbepaefamaaGreatDoor

/- journal.Open where a torn end is cut off. -/
namespace Go.Proofs.YtmmlpbepaefamaaGreatDoor
open Go.RowKit

theorem setL_setL : ∀ (L : List (ByteArray × Nat × Dfile)) (s : ByteArray) (f g : Dfile), setL (setL L s f) s g = setL L s g
  | [], _, _, _ => rfl
  | x :: L, s, f, g => by
    by_cases hx : x.1 = s
    · simp [setL, hx]
    · simp [setL, hx, setL_setL L s f g]
theorem LogAt.old {W w : World} {jb d fm rm c : Nat} {own : Nat → Option Nat} {L : List (ByteArray × Nat × Dfile)} {ks : List Int} {s : ByteArray} {n z : Int} (h : LogAt W w jb d fm rm own L ks c s n z) {fb : Nat} {i : Nat} (e : own i = some fb) : i < w.heap.size := (h.disk.old i fb e).2

set_option maxRecDepth 100000 in
set_option maxHeartbeats 4000000 in
theorem jopen_torn (W w : World) (d fm rm c : Nat) (own : Nat → Option Nat) (L : List (ByteArray × Nat × Dfile)) (ks : List Int) (h : DiskAt W w d fm rm own L ks c) (s : ByteArray) (hnm : nameN s = true) (hs : s.size ≤ 9223372036854775806) {fb : Nat} {f : Dfile} (hg : getL L s = some (fb, f)) (hops : f.ops.length ≤ 80000) {bs : List (List (BitVec 8))} {k : Nat} (hr : readC f.content = some (bs, k)) (hk : k < f.content.length) (hc : c ≤ 900000000) (hq1 : ((c : Int) + 1) ∉ ks) (hq2 : (((c + 1 : Nat) : Int) + 1) ∉ ks) :
    Calls Tryz.prog 23 #[.pointer (some ⟨d, 0, none⟩), .string s] w fun e w' => ∃ jb u, e = .returned (.tuple #[.pointer (some ⟨jb, 0, none⟩), u, .int .i64 0]) ∧ ∃ own', LogAt W w' jb d fm rm own' (setL L s ⟨f.content.take k, [], false⟩) ks (c + 2) s bs.length k ∧ w.heap.size ≤ jb ∧ ListsOwn w' w.heap.size u bs ∧ (∀ i, i < w.heap.size → own' i = own i) ∧ Only w w' fun i => i = d ∨ own i ≠ none := by
  have HNM := Lib.hid (fun w => hnm ▸ jnamed_calls w s hs)
  have HT := Lib.hid table_calls
  have HD := Lib.hid h
  have HR0 := Lib.hid (dread_there W w d fm rm c own L ks h s fb f hg (by omega))
  have hfl : f.content.length ≤ 1048576 := by
    obtain ⟨_, _, _, hf⟩ := h.get hg
    exact okOps_len _ _ hf.okf.1 hf.okf.2
  have HRD := Lib.hid (fun w' T v (hv : SliceR w' v f.content) (ht : Whole w' T 106 (jourC d s 0 0)) => read_some w' T 2 v f.content (jour_tab ht) hv (by omega) hr)
  have HCUT := Lib.hid (fun w' (h' : DiskAt W w' d fm rm own L ks c) => dcut_there W w' d fm rm c own L ks h' (by omega) s hq1 fb f hg (by omega) k (by omega))
  have HSY := Lib.hid (fun w' own2 (h' : DiskAt W w' d fm rm own2 (setL L s ⟨f.safe, f.ops ++ [.cut k], f.fresh⟩) ks (c + 1)) => dsync_there W w' d fm rm (c + 1) own2 _ ks h' (by omega) s hq2 fb _ (getL_set L s _ _ hg) (by simp; omega))
  rw [setL_setL] at HSY
  have hrun : (Dfile.mk f.safe (f.ops ++ [.cut k]) f.fresh).content = f.content.take k := runOps_add _ _ _
  rw [hrun] at HSY
  have HOLD := Lib.hid (And.intro h.box.lt (fun i fb2 (e : own i = some fb2) => (h.old i fb2 e).2))
  clear h hnm hrun
  obtain ⟨N, hN⟩ : ∃ n, f.content.length = n := ⟨_, rfl⟩
  rw [hN] at hfl hk
  have HN := Lib.hid hN
  clear hN hr
  have i1 : (k : Int) < (N : Int) := by omega
  go_enter Tryz.func23, Tryz.ntmps23
  go_upto_region 19 with (first
    | (go_at_call 46; refine (HSY.out w5 own2 h5d).mono ?_; rintro e w6 ⟨rfl, own3, h6d, he6, hO6⟩)
    | (go_at_call 58; refine (HCUT.out w4 h3.disk).mono ?_; rintro e w5 ⟨rfl, own2, h5d, he5, hO5⟩)
    | (go_at_call 57; refine (HRD.out w3 jb _ (HS0.out.low B3) h3.jour).mono ?_; rintro e w4 ⟨b4, _, rfl, ⟨ua, uc, rfl⟩, hU⟩; replace h3 := h3.low b4; have B4 := B3.trans (b4.mono B3.size); replace hU := hU.down B3.size)
    | (refine wpList_box_row (by rfl) 106 _ (by rfl) (jourC d s 0 0).toArray (by rfl) ?_; have h3 := LogAt.start (s := s) (HD0.out.low B2); have B3 := B2.trans (((Below.refl w2.heap.size w2).alloc (Nat.le_refl _) (.cells (jourC d s 0 0).toArray 106)).mono B2.size); have hjb : w0.heap.size ≤ w2.heap.size := B2.size; generalize w2.alloc (.cells (jourC d s 0 0).toArray 106) = w3 at h3 B3 ⊢; generalize w2.heap.size = jb at h3 hjb ⊢)
    | (refine wpList_build_three (by rfl) 106 _ _ _ 0 1 2 (by rfl) (.pointer (some ⟨d, 0, none⟩)) (.string s) (.agg (tabRow 256).toArray) (by rfl) (by rfl) (by rfl) (jourC d s 0 0).toArray (built_jour d s) ?_)
    | (go_at_call 56; refine (HT.out w1).mono ?_; rintro e w2 ⟨rfl, b2⟩; have B2 := B1.trans (b2.mono B1.size); clear b2)
    | (go_at_call 55; refine (HNM.out w0).mono ?_; rintro e w1 ⟨rfl, b1⟩; have B1 := B0.trans (b1.mono B0.size); clear b1)
    | (go_at_call 20; refine HR0.out.mono ?_; rintro e w0 ⟨_, rfl, O0, HB0⟩; have HS0 := Own.room O0; (obtain ⟨ba, bc, hbv⟩ := slice_of_row O0); rw [HN.out] at hbv; subst hbv; replace HS0 := Lib.hid HS0; clear O0; have HD0 := Lib.hid (HD.out.low HB0); have B0 := Below.refl w0.heap.size w0)
    | fail)
  have hO46 : Only w4 w6 fun i => i = d ∨ own i ≠ none := (hO5.trans hO6).weak fun i hi e => by
    rcases e with e | e | e
    · exact e
    · exact .inl e
    · rw [he5 i hi] at e
      exact .inr e
  replace hU := hU.only hO46 (fun i hi _ e => by
    have := HB0.size
    rcases e with e | e
    · have := HOLD.out.1
      omega
    · cases e2 : own i with
      | none => exact e e2
      | some fb2 =>
        have := HOLD.out.2 i fb2 e2
        omega)
  have h3 := h3.did h6d (fun i hi => (he6 i (Nat.lt_of_lt_of_le hi hO5.size)).trans (he5 i hi)) (hO46.weak fun i _ e => e.elim .inl (fun e => .inr (.inr e)))
  have HO := Lib.hid (show Only w w6 (fun i => i = d ∨ own i ≠ none) from ((Only.of_below (HB0.trans (B4.mono HB0.size)) (fun _ => False)).trans hO46).weak fun i _ e => e.elim False.elim id)
  have HE := Lib.hid (show ∀ i, i < w.heap.size → own3 i = own i from fun i hi => (he6 i (Nat.lt_of_lt_of_le hi (Nat.le_trans (HB0.trans (B4.mono HB0.size)).size hO5.size))).trans (he5 i (Nat.lt_of_lt_of_le hi (HB0.trans (B4.mono HB0.size)).size)))
  clear hO46 hO5 hO6 he5 he6 h5d h6d
  have f1 := h3.jour.free 258
  have c1 : w6.cell? ⟨jb, 258, none⟩ = some (.int .i64 0) := (h3.jour.cell 258).trans (jourC_n d s 0 0)
  have hU2 := hU.away h3.jour (by decide) (by decide) 258 (.int .i64 bs.length)
  have h5 := h3.setN bs.length
  have f2 := h5.jour.free 259
  have c2 := (h5.jour.cell 259).trans (jourC_z d s bs.length 0)
  have hU3 := hU2.away h5.jour (by decide) (by decide) 259 (.int .i64 k)
  have h6 := h5.setZ k
  go_wp2
  go_ret3
  have hj2 := Nat.le_trans HB0.size hjb
  refine ⟨_, _, rfl, _, h6, hj2, hU3.down HB0.size, HE.out, ((HO.out.trans (Only.set w6 ⟨jb, 258, none⟩ _)).trans (Only.set _ ⟨jb, 259, none⟩ _)).weak fun i hi e => ?_⟩
  rcases e with (e | e) | e
  · exact e
  · have e : i = jb := e
    omega
  · have e : i = jb := e
    omega

end Go.Proofs.YtmmlpbepaefamaaGreatDoor
