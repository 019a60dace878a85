/- journal.Read; journal.Open where it opens. -/
import Derived.Test.YtmmlpbepaefamaaJLog
namespace Go.Proofs.Ytmmlpbepaefamaa
open Go.RowKit

theorem wpList_build_three {P : Program} {ops : Array Oper} {rest : List Oper} {o : Oper} {a : Act} {w : World} {Q : Exit → Act → World → Prop} (hg : o.guard = none) (t : TypeId) (x y z : Operand) (i j k : Nat) (ho : o.op = .build t #[(i, x), (j, y), (k, z)]) (u v r : Value)
    (hx : a.eval x = u) (hy : a.eval y = v) (hz : a.eval z = r) (cells : Array Value) (hb : P.built t [(i, u), (j, v), (k, r)] = some cells) (h : wpList P ops Q rest (a.put o.dst (.agg cells)) w) : wpList P ops Q (o :: rest) a w :=
  wpList_build_as hg t _ ho cells (by simpa [hx, hy, hz] using hb) h
/-- '&T{..}': the cells of what is built, in a new block. -/
theorem wpList_box_row {P : Program} {ops : Array Oper} {rest : List Oper} {o : Oper} {a : Act} {w : World} {Q : Exit → Act → World → Prop} (hg : o.guard = none) (t : TypeId) (x : Operand) (ho : o.op = .box t x)
    (cells : Array Value) (hx : a.eval x = .agg cells)
    (h : wpList P ops Q rest (a.put o.dst (.pointer (some ⟨w.heap.size, 0, none⟩))) (w.alloc (.cells cells t))) : wpList P ops Q (o :: rest) a w :=
  wpList_plain hg fun K hK => by
    unfold Oper.wp execOp
    simp only [ho, hx]
    simp [Instr.box, newVar, Value.cells, newRow]
    exact hK _ _ h
theorem ListsOwn.down {w : World} {B B' : Nat} {v : Value} {bs : List (List (BitVec 8))} (h : ListsOwn w B' v bs) (hb : B ≤ B') : ListsOwn w B v bs := by
  obtain ⟨vs, h1, h2, h3⟩ := h.row
  refine ⟨vs, h1, own_down hb h2, fun i x hx => ?_⟩
  obtain ⟨u, hu, ho⟩ := h3 i x hx
  exact ⟨u, hu, own_down hb ho⟩
theorem ListsOwn.shape {w : World} {B : Nat} {v : Value} {bs : List (List (BitVec 8))} (h : ListsOwn w B v bs) : ∃ a c, v = .slice a bs.length c := by
  obtain ⟨vs, h1, h2, _⟩ := h.row
  obtain ⟨a, c, hv⟩ := slice_of_row h2
  exact ⟨a, c, by rw [hv, h1]⟩
/-- A cell of a block of another type is written over. -/
theorem ListsOwn.away {w : World} {B g : Nat} {v : Value} {bs : List (List (BitVec 8))} {t : TypeId} {l : List Value} (h : ListsOwn w B v bs) (hw : Whole w g t l) (h1 : 34 ≠ t) (h2 : 5 ≠ t) (i : Nat) (u : Value) : ListsOwn (w.setCell ⟨g, i, none⟩ u) B v bs := by
  obtain ⟨vs, e1, e2, e3⟩ := h.row
  have ho := Only.set w ⟨g, i, none⟩ u
  refine ⟨vs, e1, row_only e2 ho (fun j hj e => row_ne_whole e2 hw h1 (hj.trans (congrArg some e))), fun i x hx => ?_⟩
  obtain ⟨u', hu, hx2⟩ := e3 i x hx
  exact ⟨u', hu, row_only hx2 ho (fun j hj e => row_ne_whole hx2 hw h2 (hj.trans (congrArg some e)))⟩
/-- New memory is not the disk's. -/
theorem ListsOwn.only {w w' : World} {B : Nat} {S : Nat → Prop} {v : Value} {bs : List (List (BitVec 8))} (h : ListsOwn w B v bs) (ho : Only w w' S) (hs : ∀ i, B ≤ i → i < w.heap.size → ¬ S i) : ListsOwn w' B v bs := by
  obtain ⟨vs, e1, e2, e3⟩ := h.row
  refine ⟨vs, e1, row_only e2 ho (fun j hj => hs j (own_ge e2 hj) (row_lt e2 hj)), fun i x hx => ?_⟩
  obtain ⟨u', hu, hx2⟩ := e3 i x hx
  exact ⟨u', hu, row_only hx2 ho (fun j hj => hs j (own_ge hx2 hj) (row_lt hx2 hj))⟩
theorem LogAt.start {W w : World} {d fm rm c : Nat} {own : Nat → Option Nat} {L : List (ByteArray × Nat × Dfile)} {ks : List Int} {s : ByteArray} (h : DiskAt W w d fm rm own L ks c) : LogAt W (w.alloc (.cells (jourC d s 0 0).toArray 79)) w.heap.size d fm rm own L ks c s 0 0 :=
  ⟨h.low ((Below.refl _ _).alloc (Nat.le_refl _) _), by have := Whole.new w 79 (jourC d s 0 0).toArray; exact this, by
    cases e : own w.heap.size with
    | none => rfl
    | some fb => exact absurd (h.old _ _ e).2 (Nat.lt_irrefl _), h.below.size⟩
set_option maxRecDepth 100000 in
set_option maxHeartbeats 4000000 in
theorem read_some (w : World) (T O : Nat) (v : Value) (l : List (BitVec 8)) (hT : TabAt w T O) (hv : SliceR w v l) (hlen : l.length ≤ 1100000) {bs : List (List (BitVec 8))} {k : Nat} (hr : readC l = some (bs, k)) :
    Calls Try.prog 37 #[.pointer (some ⟨T, O, none⟩), v] w fun e w' => Below w.heap.size w w' ∧ ∃ u, e = .returned (.tuple #[u, .int .i64 k, .int .i64 0]) ∧ (∃ a c, u = .slice a bs.length c) ∧ ListsOwn w' w.heap.size u bs := by
  refine (read_calls w T O v l hT hv hlen).mono ?_
  rintro e w' ⟨hb, ⟨h, _⟩ | ⟨u, bs', n, h, he, hU⟩⟩
  · rw [hr] at h
    cases h
  · rw [hr] at h
    injection h with h
    injection h with h1 h2
    subst h1 h2
    exact ⟨hb, u, he, hU.shape, hU⟩
set_option maxRecDepth 100000 in
set_option maxHeartbeats 4000000 in
theorem read_none (w : World) (T O : Nat) (v : Value) (l : List (BitVec 8)) (hT : TabAt w T O) (hv : SliceR w v l) (hlen : l.length ≤ 1100000) (hr : readC l = none) :
    Calls Try.prog 37 #[.pointer (some ⟨T, O, none⟩), v] w fun e w' => Below w.heap.size w w' ∧ e = .returned (.tuple #[.slice none 0 0, .int .i64 0, .int .i64 14]) := by
  refine (read_calls w T O v l hT hv hlen).mono ?_
  rintro e w' ⟨hb, ⟨_, he⟩ | ⟨u, bs', n, h, _⟩⟩
  · exact ⟨hb, he⟩
  · rw [hr] at h
    cases h
set_option maxRecDepth 100000 in
set_option maxHeartbeats 4000000 in
theorem topread_some (w : World) (v : Value) (l : List (BitVec 8)) (hv : SliceR w v l) (hlen : l.length ≤ 1100000) {bs : List (List (BitVec 8))} {k : Nat} (hr : readC l = some (bs, k)) :
    Calls Try.prog 32 #[v] w fun e w' => Below w.heap.size w w' ∧ ∃ u, e = .returned (.tuple #[u, .int .i64 k, .int .i64 0]) ∧ (∃ a c, u = .slice a bs.length c) ∧ ListsOwn w' w.heap.size u bs := by
  have HRD := Lib.hid (fun w' T (hb : Below w.heap.size w w') (ht : TabAt w' T 0) => read_some w' T 0 _ l ht (hv.low hb) hlen hr)
  obtain ⟨_, pa, ca, rfl, _⟩ := hv
  have HT := Lib.hid (table_calls w)
  clear hlen hr
  go_enter Try.func32, Try.ntmps32
  go_wp2_with (first
    | (go_at_call 37; refine (HRD.out w3 _ B3 t3).mono ?_; rintro e w4 ⟨b4, _, rfl, ⟨ua, uc, rfl⟩, hU⟩)
    | (refine wpList_store_row (by rfl) 76 _ _ (by rfl) w1.heap.size (tabRow 256).toArray (by rfl) (by rfl) 76 _ h2 (by rw [size_tab]; simp [tabRow_length]) (by simp [zeroNums, tabRow_length]) (tabRow_one _) ?_; have t3 := TabAt.of_whole (h2.row (tabRow 256)); have B3 := b1.trans ((b2.grown (grown_row (World.grownBy.refl w2 (some w1.heap.size)) (.inl rfl) (tabRow 256).toArray) b2.size (fun i hi => by injection hi with hi; omega)).mono b1.size); generalize w2.setRow w1.heap.size (tabRow 256).toArray = w3 at t3 B3 ⊢)
    | (refine wpList_alloc_row (by rfl) 76 (by rfl) _ _ info_tab ?_; have h2 := Whole.new w1 76 (zeroNums .u32 256).toArray; have b2 : Below w1.heap.size w1 (w1.alloc (.cells (zeroNums .u32 256).toArray 76)) := (Below.refl _ _).alloc (Nat.le_refl _) _; generalize w1.alloc (.cells (zeroNums .u32 256).toArray 76) = w2 at h2 b2 ⊢)
    | (go_at_call 36; refine HT.out.mono ?_; rintro e w1 ⟨rfl, b1⟩)
    | fail)
  go_ret3
  exact ⟨B3.trans (b4.mono B3.size), _, rfl, ⟨_, _, rfl⟩, hU.down B3.size⟩
set_option maxRecDepth 100000 in
set_option maxHeartbeats 4000000 in
theorem topread_none (w : World) (v : Value) (l : List (BitVec 8)) (hv : SliceR w v l) (hlen : l.length ≤ 1100000) (hr : readC l = none) :
    Calls Try.prog 32 #[v] w fun e w' => Below w.heap.size w w' ∧ e = .returned (.tuple #[.slice none 0 0, .int .i64 0, .int .i64 14]) := by
  have HRD := Lib.hid (fun w' T (hb : Below w.heap.size w w') (ht : TabAt w' T 0) => read_none w' T 0 _ l ht (hv.low hb) hlen hr)
  obtain ⟨_, pa, ca, rfl, _⟩ := hv
  have HT := Lib.hid (table_calls w)
  clear hlen hr
  go_enter Try.func32, Try.ntmps32
  go_wp2_with (first
    | (go_at_call 37; refine (HRD.out w3 _ B3 t3).mono ?_; rintro e w4 ⟨b4, rfl⟩)
    | (refine wpList_store_row (by rfl) 76 _ _ (by rfl) w1.heap.size (tabRow 256).toArray (by rfl) (by rfl) 76 _ h2 (by rw [size_tab]; simp [tabRow_length]) (by simp [zeroNums, tabRow_length]) (tabRow_one _) ?_; have t3 := TabAt.of_whole (h2.row (tabRow 256)); have B3 := b1.trans ((b2.grown (grown_row (World.grownBy.refl w2 (some w1.heap.size)) (.inl rfl) (tabRow 256).toArray) b2.size (fun i hi => by injection hi with hi; omega)).mono b1.size); generalize w2.setRow w1.heap.size (tabRow 256).toArray = w3 at t3 B3 ⊢)
    | (refine wpList_alloc_row (by rfl) 76 (by rfl) _ _ info_tab ?_; have h2 := Whole.new w1 76 (zeroNums .u32 256).toArray; have b2 : Below w1.heap.size w1 (w1.alloc (.cells (zeroNums .u32 256).toArray 76)) := (Below.refl _ _).alloc (Nat.le_refl _) _; generalize w1.alloc (.cells (zeroNums .u32 256).toArray 76) = w2 at h2 b2 ⊢)
    | (go_at_call 36; refine HT.out.mono ?_; rintro e w1 ⟨rfl, b1⟩)
    | fail)
  go_ret3
  exact ⟨B3.trans (b4.mono B3.size), rfl⟩

theorem readC_nil : readC [] = some ([], 0) := by
  rw [readC, dif_pos (by simp)]
theorem slice_nil_room (w : World) : SliceR w (.slice none 0 0) [] := ⟨.inl ⟨rfl, .inl rfl⟩, _, _, rfl, Nat.le_refl _⟩
set_option maxRecDepth 100000 in
set_option maxHeartbeats 4000000 in
theorem jopen_missing (W w : World) (d fm rm c : Nat) (own : Nat → Option Nat) (L : List (ByteArray × Nat × Dfile)) (ks : List Int) (h : DiskAt W w d fm rm own L ks c) (s : ByteArray) (hnm : nameN s = true) (hs : s.size ≤ 9223372036854775806) (hg : getL L s = none) :
    Calls Try.prog 10 #[.pointer (some ⟨d, 0, none⟩), .string s] w fun e w' => ∃ jb, (∃ ua uc, e = .returned (.tuple #[.pointer (some ⟨jb, 0, none⟩), .slice ua 0 uc, .int .i64 0])) ∧ LogAt W w' jb d fm rm own L ks c s 0 0 ∧ w.heap.size ≤ jb ∧ Below w.heap.size w w' := by
  have HNM := Lib.hid (fun w => hnm ▸ jnamed_calls w s hs)
  have HT := Lib.hid table_calls
  have HD := Lib.hid h
  have HR0 := Lib.hid (dread_missing W w d fm rm c own L ks h s hg)
  have HRD := Lib.hid (fun w' T (ht : Whole w' T 79 (jourC d s 0 0)) => read_some w' T 2 _ [] (jour_tab ht) (slice_nil_room w') (by simp) readC_nil)
  clear h hnm
  go_enter Try.func10, Try.ntmps10
  go_upto_region 19 with (first
    | (go_at_call 37; refine (HRD.out w3 jb h3.jour).mono ?_; rintro e w4 ⟨b4, _, rfl, ⟨ua, uc, rfl⟩, hU⟩; replace h3 := h3.low b4; have B4 := B3.trans (b4.mono B3.size); replace hU := hU.down B3.size)
    | (refine wpList_box_row (by rfl) 79 _ (by rfl) (jourC d s 0 0).toArray (by rfl) ?_; have h3 := LogAt.start (s := s) (HD0.out.low B2); have B3 := B2.trans (((Below.refl w2.heap.size w2).alloc (Nat.le_refl _) (.cells (jourC d s 0 0).toArray 79)).mono B2.size); have hjb : w0.heap.size ≤ w2.heap.size := B2.size; generalize w2.alloc (.cells (jourC d s 0 0).toArray 79) = w3 at h3 B3 ⊢; generalize w2.heap.size = jb at h3 hjb ⊢)
    | (refine wpList_build_three (by rfl) 79 _ _ _ 0 1 2 (by rfl) (.pointer (some ⟨d, 0, none⟩)) (.string s) (.agg (tabRow 256).toArray) (by rfl) (by rfl) (by rfl) (jourC d s 0 0).toArray (built_jour d s) ?_)
    | (go_at_call 36; refine (HT.out w1).mono ?_; rintro e w2 ⟨rfl, b2⟩; have B2 := B1.trans (b2.mono B1.size); clear b2)
    | (go_at_call 35; refine (HNM.out w0).mono ?_; rintro e w1 ⟨rfl, b1⟩; have B1 := B0.trans (b1.mono B0.size); clear b1)
    | (go_at_call 20; refine HR0.out.mono ?_; rintro e w0 ⟨rfl, hw0⟩; have HB0 : Below w.heap.size w w0 := hw0 ▸ Below.refl _ _; clear hw0; have HD0 := Lib.hid (HD.out.low HB0); have B0 := Below.refl w0.heap.size w0)
    | fail)
  have f1 := h3.jour.free 258
  have c1 : w4.cell? ⟨jb, 258, none⟩ = some (.int .i64 0) := (h3.jour.cell 258).trans (jourC_n d s 0 0)
  have hU2 := hU.away h3.jour (by decide) (by decide) 258 (.int .i64 0)
  have h5 := h3.setN 0
  have f2 := h5.jour.free 259
  have c2 := (h5.jour.cell 259).trans (jourC_z d s 0 0)
  have hU3 := hU2.away h5.jour (by decide) (by decide) 259 (.int .i64 0)
  have h6 := h5.setZ 0
  clear hU2 hU3
  go_wp2
  go_ret3
  exact ⟨_, ⟨_, _, rfl⟩, h6, Nat.le_trans HB0.size hjb, HB0.trans (((B4.setCell hjb _).setCell hjb _).mono HB0.size)⟩
set_option maxRecDepth 100000 in
set_option maxHeartbeats 4000000 in
theorem jopen_whole (W w : World) (d fm rm c : Nat) (own : Nat → Option Nat) (L : List (ByteArray × Nat × Dfile)) (ks : List Int) (h : DiskAt W w d fm rm own L ks c) (s : ByteArray) (hnm : nameN s = true) (hs : s.size ≤ 9223372036854775806) {fb : Nat} {f : Dfile} (hg : getL L s = some (fb, f)) (hops : f.ops.length ≤ 90000) {bs : List (List (BitVec 8))} (hr : readC f.content = some (bs, f.content.length)) :
    Calls Try.prog 10 #[.pointer (some ⟨d, 0, none⟩), .string s] w fun e w' => ∃ jb u, e = .returned (.tuple #[.pointer (some ⟨jb, 0, none⟩), u, .int .i64 0]) ∧ LogAt W w' jb d fm rm own L ks c s bs.length f.content.length ∧ w.heap.size ≤ jb ∧ ListsOwn w' w.heap.size u bs ∧ Below w.heap.size w w' := by
  have HNM := Lib.hid (fun w => hnm ▸ jnamed_calls w s hs)
  have HT := Lib.hid table_calls
  have HD := Lib.hid h
  have HR0 := Lib.hid (dread_there W w d fm rm c own L ks h s fb f hg (by omega))
  have hfl : f.content.length ≤ 1048576 := by
    obtain ⟨_, _, _, hf⟩ := h.get hg
    exact okOps_len _ _ hf.okf.1 hf.okf.2
  have HRD := Lib.hid (fun w' T v (hv : SliceR w' v f.content) (ht : Whole w' T 79 (jourC d s 0 0)) => read_some w' T 2 v f.content (jour_tab ht) hv (by omega) hr)
  clear h hnm
  obtain ⟨N, hN⟩ : ∃ n, f.content.length = n := ⟨_, rfl⟩
  rw [hN] at HRD hfl ⊢
  have HN := Lib.hid hN
  clear hN hr
  have i1 : ¬ (N : Int) < (N : Int) := by omega
  go_enter Try.func10, Try.ntmps10
  go_upto_region 19 with (first
    | (go_at_call 37; refine (HRD.out w3 jb _ (HS0.out.low B3) h3.jour).mono ?_; rintro e w4 ⟨b4, _, rfl, ⟨ua, uc, rfl⟩, hU⟩; replace h3 := h3.low b4; have B4 := B3.trans (b4.mono B3.size); replace hU := hU.down B3.size)
    | (refine wpList_box_row (by rfl) 79 _ (by rfl) (jourC d s 0 0).toArray (by rfl) ?_; have h3 := LogAt.start (s := s) (HD0.out.low B2); have B3 := B2.trans (((Below.refl w2.heap.size w2).alloc (Nat.le_refl _) (.cells (jourC d s 0 0).toArray 79)).mono B2.size); have hjb : w0.heap.size ≤ w2.heap.size := B2.size; generalize w2.alloc (.cells (jourC d s 0 0).toArray 79) = w3 at h3 B3 ⊢; generalize w2.heap.size = jb at h3 hjb ⊢)
    | (refine wpList_build_three (by rfl) 79 _ _ _ 0 1 2 (by rfl) (.pointer (some ⟨d, 0, none⟩)) (.string s) (.agg (tabRow 256).toArray) (by rfl) (by rfl) (by rfl) (jourC d s 0 0).toArray (built_jour d s) ?_)
    | (go_at_call 36; refine (HT.out w1).mono ?_; rintro e w2 ⟨rfl, b2⟩; have B2 := B1.trans (b2.mono B1.size); clear b2)
    | (go_at_call 35; refine (HNM.out w0).mono ?_; rintro e w1 ⟨rfl, b1⟩; have B1 := B0.trans (b1.mono B0.size); clear b1)
    | (go_at_call 20; refine HR0.out.mono ?_; rintro e w0 ⟨_, rfl, O0, HB0⟩; have HS0 := Own.room O0; (obtain ⟨ba, bc, hbv⟩ := slice_of_row O0); rw [HN.out] at hbv; subst hbv; replace HS0 := Lib.hid HS0; clear O0; have HD0 := Lib.hid (HD.out.low HB0); have B0 := Below.refl w0.heap.size w0)
    | fail)
  have f1 := h3.jour.free 258
  have c1 : w4.cell? ⟨jb, 258, none⟩ = some (.int .i64 0) := (h3.jour.cell 258).trans (jourC_n d s 0 0)
  have hU2 := hU.away h3.jour (by decide) (by decide) 258 (.int .i64 bs.length)
  have h5 := h3.setN bs.length
  have f2 := h5.jour.free 259
  have c2 := (h5.jour.cell 259).trans (jourC_z d s bs.length 0)
  have hU3 := hU2.away h5.jour (by decide) (by decide) 259 (.int .i64 N)
  have h6 := h5.setZ N
  go_wp2
  go_ret3
  exact ⟨_, _, rfl, h6, Nat.le_trans HB0.size hjb, hU3.down HB0.size, HB0.trans (((B4.setCell hjb _).setCell hjb _).mono HB0.size)⟩

end Go.Proofs.Ytmmlpbepaefamaa
