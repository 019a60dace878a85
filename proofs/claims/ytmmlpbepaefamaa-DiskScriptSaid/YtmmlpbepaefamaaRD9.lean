/- The document's disk: Sync, Rename. -/
import Derived.Test.YtmmlpbepaefamaaRD8
namespace Go.Proofs.Ytmmlpbepaefamaa
open Go.RowKit

theorem size_cellsR (g : Nat) : ∀ (vs : List Value) (o : Nat) (w : World), (w.setCells g o vs).heap.size = w.heap.size
  | [], _, _ => rfl
  | v :: vs, o, w => (size_cellsR g vs (o + 1) _).trans (by simp)
/-- A file of the document's disk is written over. -/
theorem RD.pokeRow {w w1 : World} {B m n g N fc k : Nat} {T : Nat → Prop} {rv : Value} {l : List Rx} {rl : List Int} {x x' : Rx} (h : RD w B m T (.slice (some ⟨g, 0, none⟩) N fc) rv l rl n) (hb : Below w.heap.size w w1) (hx : l[k]? = some x) (he : RxAt w1 B (TX T w.heap.size w1.heap.size) x') :
    w1.there g (k * 4) 4 ∧ RD (w1.setCells g (k * 4) x'.cells) B m (TX T w.heap.size w1.heap.size) (.slice (some ⟨g, 0, none⟩) N fc) rv (l.set k x') rl n ∧ Only w (w1.setCells g (k * 4) x'.cells) fun j => j = g := by
  have h1 := h.low hb
  have ho := only_setCells g x'.cells (k * 4) w1
  have hkl : k < l.length := (List.getElem?_eq_some_iff.1 hx).1
  obtain ⟨cap, cur, hv, hBg, hW, hle, hm, hcl⟩ := own_full h1.row rfl
  have hN : N = l.length := by injection hv
  subst hN
  have hrg := own_rowG lenX h1.row
  obtain ⟨cur', hW', hc'⟩ := whole_setCells x'.cells (k * 4) hW
  have hrg' := hrg.set lenX hkl x'
  have hlen : (l.set k x').length = l.length := List.length_set
  have hBw : B ≤ w.heap.size := by have := (h.old m h.tm).1; have := (h.old m h.tm).2; omega
  have hsz : (w1.setCells g (k * 4) x'.cells).heap.size = w1.heap.size := (size_cellsR g x'.cells (k * 4) w1)
  have hfc : fc = cap := by injection hv
  subst hfc
  refine ⟨(hrg k _ hx).2, ⟨h1.box.only ho (fun e => row_ne_whole h1.row h1.box (by decide) (congrArg some e.symm)), ?_, fun y hy => ?_, row_only h1.ref ho (fun j hj e => rows_apart h1.row h1.ref (by decide) (congrArg some e.symm) hj), .inl h.tm, fun j hj => .inl (h.tf j hj), fun j hj => .inl (h.tv j hj), fun j hj => ?_⟩, ((Only.of_below hb (fun _ => False)).trans ho).weak fun _ _ e => e.elim False.elim id⟩
  · have := own_of lenX hW' (by rw [hc', hcl]) hBg (by rw [hlen]; exact hle) hm hrg'
    rw [hlen] at this ⊢
    exact this
  · have hoth : ∀ j, j = g → ∃ t cur, w1.heap[j]? = some (.cells cur t (0, 0)) ∧ t ≠ 5 ∧ t ≠ 120 := fun j e => h1.other j (.inr (congrArg some e.symm))
    rcases List.mem_or_eq_of_mem_set hy with hy | rfl
    · exact (h1.each y hy).only ho (fun j _ e => hoth j e) (fun _ e => .inl e)
    · exact he.only ho (fun j _ e => hoth j e) (fun _ e => e)
  · rw [hsz]
    rcases hj with hj | hj
    · exact ⟨(h.old j hj).1, Nat.lt_of_lt_of_le (h.old j hj).2 hb.size⟩
    · exact ⟨Nat.le_trans hBw hj.1, hj.2⟩
theorem wp_store_X {w : World} {op : Oper} {a : Act} {K : Act → World → Prop} {Q : Exit → Act → World → Prop} (x y : Operand) (ho : op.op = .store 116 x y) (b o : Nat) (q : Rx) (hx : a.eval x = .pointer (some ⟨b, o, none⟩)) (hy : a.eval y = .agg q.cells.toArray) (ht : w.there b o 4) (h1 : ∀ y ∈ q.cells, y.oneCell' = true)
    (h : K (a.put op.dst undef) (w.setCells b o q.cells)) : op.wp Try.prog a w K Q :=
  wp_store_mid 116 x y ho b o q.cells.toArray hx hy (by simpa [lenX] using ht) (by rw [size_file]; simp [lenX]) (all_oneCell_toArray h1) (by simpa using h)
theorem wpList_store_Xnew {w : World} {ops : Array Oper} {rest : List Oper} {op : Oper} {a : Act} {Q : Exit → Act → World → Prop} (hgd : op.guard = none) (x y : Operand) (ho : op.op = .store 116 x y) (q : Rx) (hx : a.eval x = .pointer (some ⟨w.heap.size, 0, none⟩)) (hy : a.eval y = .agg q.cells.toArray) (h1 : ∀ y ∈ q.cells, y.oneCell' = true)
    (h : wpList Try.prog ops Q rest (a.put op.dst undef) (w.alloc (.cells q.cells.toArray 116))) : wpList Try.prog ops Q (op :: rest) a (w.alloc (.cells #[.string ⟨#[]⟩, .slice none 0 0, .slice none 0 0, .bool false] 116)) :=
  wpList_store_new hgd 116 x y ho #[.string ⟨#[]⟩, .slice none 0 0, .slice none 0 0, .bool false] q.cells.toArray 116 hx hy (by rw [size_file]; simp [lenX]) (by simp [lenX]) (all_oneCell_toArray h1) h

set_option maxRecDepth 100000 in
set_option maxHeartbeats 4000000 in
theorem rsync_refused (w : World) (B m n : Nat) (T : Nat → Prop) (fv rv : Value) (l : List Rx) (rl : List Int) (h : RD w B m T fv rv l rl n) (hn : n ≤ 1000000) (hr : rl.length ≤ 100000) (hq : refB rl n = true) (s : ByteArray)  :
    Calls Try.prog 56 #[.pointer (some ⟨m, 0, none⟩), .string s] w fun e w' => e = .returned (.int .i64 13) ∧ RX w w' B m T (viewX l) rl (n + 1) := by
  have HN := Lib.hid (hq ▸ rop_calls w B m n T fv rv l rl h (by omega) hr)
  clear h
  go_enter Try.func56, Try.ntmps56
  go_wp2_with (first
    | (go_at_call 76; refine HN.out.mono ?_; rintro e wc ⟨rfl, h1, hO⟩)
    | fail)
  go_ret
  exact ⟨rfl, RX.same h1 hO⟩

set_option maxRecDepth 100000 in
set_option maxHeartbeats 4000000 in
theorem rsync_missing (w : World) (B m n : Nat) (T : Nat → Prop) (fv rv : Value) (l : List Rx) (rl : List Int) (h : RD w B m T fv rv l rl n) (hl : l.length ≤ 1000) (hn : n ≤ 1000000) (hr : rl.length ≤ 100000) (hq : refB rl n = false) (s : ByteArray)  (hg : getA (viewX l) s = none) :
    Calls Try.prog 56 #[.pointer (some ⟨m, 0, none⟩), .string s] w fun e w' => e = .returned (.int .i64 6) ∧ RX w w' B m T (viewX l) rl (n + 1) := by
  have HN := Lib.hid (hq ▸ rop_calls w B m n T fv rv l rl h (by omega) hr)
  have hp := posX_neg hg
  clear h hg
  go_enter Try.func56, Try.ntmps56
  go_wp2_with (first
    | (go_at_call 78; refine (rat_calls wc B m _ T _ _ l rl h1 (by omega) s).mono ?_; rintro e wa ⟨rfl, rfl⟩; rw [hp])
    | (go_at_call 76; refine HN.out.mono ?_; rintro e wc ⟨rfl, h1, hO⟩)
    | fail)
  go_ret
  exact ⟨rfl, RX.same h1 hO⟩

set_option maxRecDepth 100000 in
set_option maxHeartbeats 4000000 in
theorem rsync_there (w : World) (B m n : Nat) (T : Nat → Prop) (fv rv : Value) (l : List Rx) (rl : List Int) (h : RD w B m T fv rv l rl n) (hl : l.length ≤ 1000) (hn : n ≤ 1000000) (hr : rl.length ≤ 100000) (hq : refB rl n = false) (s : ByteArray) (f : Dfile) (hg : getA (viewX l) s = some f) (hol : f.ops.length ≤ 100000) :
    Calls Try.prog 56 #[.pointer (some ⟨m, 0, none⟩), .string s] w fun e w' => e = .returned (.int .i64 0) ∧ RX w w' B m T (setA (viewX l) s ⟨f.content, [], false⟩) rl (n + 1) := by
  have HN := Lib.hid (hq ▸ rop_calls w B m n T fv rv l rl h (by omega) hr)
  obtain ⟨k, x, hk, hx, hxn, hxf, hset⟩ := posX_some hg
  have hp := posX_pos hk
  have i3 : ¬ (k : Int) < 0 := by omega
  clear hg hk h
  go_enter Try.func56, Try.ntmps56
  go_upto_region 6 with (first
    | (go_at_call 78; refine (rat_calls wc B m _ T _ _ l rl h1 (by omega) s).mono ?_; rintro e wa ⟨rfl, rfl⟩; rw [hp])
    | (go_at_call 76; refine HN.out.mono ?_; rintro e wc ⟨rfl, h1, hO⟩)
    | fail)
  obtain ⟨fa, fc, hfv⟩ := slice_of_row h1.row
  subst hfv
  obtain ⟨g, hg0, hrg⟩ := own_atX h1.row hx
  subst hg0
  have hxa := h1.each x (List.mem_of_getElem? hx)
  have c0 := h1.box.cell 0
  have i2 : 0 ≤ (k : Int) ∧ (k : Int) < (l.length : Int) := by have := (List.getElem?_eq_some_iff.1 hx).1; omega
  have i4 : ¬ (k : Int) < 0 := by omega
  have HX := Lib.hid (And.intro hx (And.intro hxn (And.intro hxf hset)))
  clear hset hxf hxn hx
  refine wp_region_noPanic ?_
  refine wp_region_held_drew (S := fun w2 => w2.cell? ⟨m, 0, none⟩ = some (.slice (some ⟨g, 0, none⟩) l.length fc)) (by kernel_rfl) (c0) (fun hhS => ?_)
  clear hhS c0
  have hbd := (Below.refl wc.heap.size wc).drew
  replace hrg := rangeAt_low hrg (row_lt h1.row rfl) hbd
  replace h1 := h1.low hbd
  replace hO := (hO.trans (Only.of_below hbd (fun _ => False))).weak fun _ _ e => e.elim id False.elim
  clear hbd hxa
  generalize wc.drew = wd at h1 hO hrg ⊢
  have hxa := h1.each x (List.mem_of_getElem? HX.out.1)
  have hhS : wd.cell? ⟨m, 0, none⟩ = some (.slice (some ⟨g, 0, none⟩) l.length fc) := h1.box.cell 0
  have d0 := hrg 0 _ rfl
  have d1 := hrg 1 _ rfl
  have d2 := hrg 2 _ rfl
  have d3 := hrg 3 _ rfl
  simp only [Nat.add_zero] at d0
  have HC := Lib.hid (rcontent_calls wd B T x hxa (by rw [HX.out.2.2.1]; exact hol))
  rw [HX.out.2.2.1] at HC
  have HB := Lib.hid (show B ≤ wd.heap.size by have := h1.old m h1.tm; omega)
  have HL := Lib.hid (show f.content.length ≤ 1048576 by rw [← HX.out.2.2.1]; exact okOps_len _ _ hxa.okf.1 hxa.okf.2)
  clear hxa
  refine wpAnyH_take (i := 0) (oi := ⟨some 13, _, _, _, _, _⟩) (v := ?_) rfl (by kernel_rfl) (by kernel_rfl) (by kernel_rfl) (fun _ _ _ h => h) (Or.inl ⟨by rfl, ?_⟩) (by assumption) ?_
  rotate_left
  · intro w hSw
    (try dsimp only at hSw)
    go_simp
    all_goals (with_reducible rfl)
  try simp only [Act.put, List.setIfInBounds_toArray, List.set_cons_zero, List.set_cons_succ]
  refine wpAnyH_take (i := 1) (oi := ⟨some 14, _, _, _, _, _⟩) (v := ?_) rfl (by kernel_rfl) (by kernel_rfl) (by kernel_rfl) (fun _ _ _ h => h) (Or.inl ⟨by rfl, ?_⟩) (by assumption) ?_
  rotate_left
  · intro w hSw
    (try dsimp only at hSw)
    go_simp
    all_goals (with_reducible rfl)
  try simp only [Act.put, List.setIfInBounds_toArray, List.set_cons_zero, List.set_cons_succ]
  refine wpAnyH_take (i := 2) (oi := ⟨some 15, _, _, _, _, _⟩) (v := ?_) rfl (by kernel_rfl) (by kernel_rfl) (by kernel_rfl) (fun _ _ _ h => h) (Or.inl ⟨by rfl, ?_⟩) (by assumption) ?_
  rotate_left
  · intro w hSw
    (try dsimp only at hSw)
    go_simp
    all_goals (with_reducible rfl)
  try simp only [Act.put, List.setIfInBounds_toArray, List.set_cons_zero, List.set_cons_succ]
  refine wpAnyH_take (i := 3) (oi := ⟨some 16, _, _, _, _, _⟩) (v := ?_) rfl (by kernel_rfl) (by kernel_rfl) (by kernel_rfl) (fun _ _ _ h => h) (Or.inl ⟨by rfl, ?_⟩) (by assumption) ?_
  rotate_left
  · intro w hSw
    (try dsimp only at hSw)
    go_simp
    all_goals (with_reducible rfl)
  try simp only [Act.put, List.setIfInBounds_toArray, List.set_cons_zero, List.set_cons_succ]
  refine wpAnyH_take (i := 4) (oi := ⟨some 17, _, _, _, _, _⟩) (v := ?_) rfl (by kernel_rfl) (by kernel_rfl) (by kernel_rfl) (fun _ _ _ h => h) (Or.inl ⟨by rfl, ?_⟩) (by assumption) ?_
  rotate_left
  · intro w hSw
    (try dsimp only at hSw)
    go_simp
    all_goals (with_reducible rfl)
  try simp only [Act.put, List.setIfInBounds_toArray, List.set_cons_zero, List.set_cons_succ]
  refine wpAnyH_take (i := 5) (oi := ⟨some 18, _, _, _, _, _⟩) (v := ?_) rfl (by kernel_rfl) (by kernel_rfl) (by kernel_rfl) (fun _ _ _ h => h) (Or.inl ⟨by rfl, ?_⟩) (by assumption) ?_
  rotate_left
  · intro w hSw
    (try dsimp only at hSw)
    go_simp
    all_goals (with_reducible rfl)
  try simp only [Act.put, List.setIfInBounds_toArray, List.set_cons_zero, List.set_cons_succ]
  refine wpAnyH_take (i := 6) (oi := ⟨some 19, _, _, _, _, _⟩) (v := ?_) rfl (by kernel_rfl) (by kernel_rfl) (by kernel_rfl) (fun _ _ _ h => h) (Or.inl ⟨by rfl, ?_⟩) (by assumption) ?_
  rotate_left
  · intro w hSw
    (try dsimp only at hSw)
    go_simp
    all_goals (with_reducible rfl)
  try simp only [Act.put, List.setIfInBounds_toArray, List.set_cons_zero, List.set_cons_succ]
  refine wpAnyH_take (i := 7) (oi := ⟨some 20, _, _, _, _, _⟩) (v := ?_) rfl (by kernel_rfl) (by kernel_rfl) (by kernel_rfl) (fun _ _ _ h => h) (Or.inl ⟨by rfl, ?_⟩) (by assumption) ?_
  rotate_left
  · intro w hSw
    (try dsimp only at hSw)
    go_simp
    all_goals (with_reducible rfl)
  try simp only [Act.put, List.setIfInBounds_toArray, List.set_cons_zero, List.set_cons_succ]
  refine wpAnyH_take (i := 8) (oi := ⟨some 21, _, _, _, _, _⟩) (v := ?_) rfl (by kernel_rfl) (by kernel_rfl) (by kernel_rfl) (fun _ _ _ h => h) (Or.inl ⟨by rfl, ?_⟩) (by assumption) ?_
  rotate_left
  · intro w hSw
    (try dsimp only at hSw)
    go_simp
    all_goals (with_reducible rfl)
  try simp only [Act.put, List.setIfInBounds_toArray, List.set_cons_zero, List.set_cons_succ]
  refine wpAnyH_take (i := 9) (oi := ⟨some 22, _, _, _, _, _⟩) (v := ?_) rfl (by kernel_rfl) (by kernel_rfl) (by kernel_rfl) (fun _ _ _ h => h) (Or.inl ⟨by rfl, ?_⟩) (by assumption) ?_
  rotate_left
  · intro w hSw
    (try dsimp only at hSw)
    go_simp
    all_goals (with_reducible rfl)
  try simp only [Act.put, List.setIfInBounds_toArray, List.set_cons_zero, List.set_cons_succ]
  refine wpAnyH_take (i := 10) (oi := ⟨some 23, _, _, _, _, _⟩) (v := ?_) rfl (by kernel_rfl) (by kernel_rfl) (by kernel_rfl) (fun _ _ _ h => h) (Or.inl ⟨by rfl, ?_⟩) (by assumption) ?_
  rotate_left
  · intro w hSw
    (try dsimp only at hSw)
    go_simp
    all_goals (with_reducible rfl)
  try simp only [Act.put, List.setIfInBounds_toArray, List.set_cons_zero, List.set_cons_succ]
  refine wpAnyH_take (i := 11) (oi := ⟨some 24, _, _, _, _, _⟩) (v := ?_) rfl (by kernel_rfl) (by kernel_rfl) (by kernel_rfl) (fun _ _ _ h => h) (Or.inl ⟨by rfl, ?_⟩) (by assumption) ?_
  rotate_left
  · intro w hSw
    (try dsimp only at hSw)
    go_simp
    all_goals (with_reducible rfl)
  try simp only [Act.put, List.setIfInBounds_toArray, List.set_cons_zero, List.set_cons_succ]
  refine wpAnyH_ready (rs := [12]) (by kernel_rfl) (by simp) ?_
  refine AllReadyH.cons (o := ⟨some 25, _, _, _, _, _⟩) rfl (fun K hK => ?_) AllReadyH.nil
  go_simp
  refine hK.out _ _ (hhS) (fun _ => ?_)
  clear hK K
  try simp only [Act.put, List.setIfInBounds_toArray, List.set_cons_zero, List.set_cons_succ]
  refine wpAnyH_ready (rs := [13]) (by kernel_rfl) (by simp) ?_
  refine AllReadyH.cons (o := ⟨some 26, _, _, _, _, _⟩) rfl (fun K hK => ?_) AllReadyH.nil
  go_simp
  refine HC.out.mono ?_
  rintro e w4 ⟨u, rfl, ⟨ua, un, uc, rfl⟩, O4, b4⟩
  clear d0 d1 d2 d3
  have hnew : RxAt w4 B (TX T wd.heap.size w4.heap.size) ⟨s, .slice ua un uc, .slice none 0 0, [], ⟨f.content, [], false⟩⟩ := ⟨own_down HB.out O4, World.ownsRow_nil w4 _ _ _, fun p hp => (by cases hp), rfl, fun i hi => .inr ⟨own_ge O4 hi, row_lt O4 hi⟩, fun _ e => (by cases e), fun p hp => (by cases hp), ⟨HL.out, trivial⟩⟩
  obtain ⟨p1, p2, p3⟩ := h1.pokeRow b4 HX.out.1 hnew
  refine hK.out _ _ ((h1.low b4).box.cell 0) (fun _ => ?_)
  clear hK K
  try simp only [Act.put, List.setIfInBounds_toArray, List.set_cons_zero, List.set_cons_succ]
  refine wpAnyH_take (i := 14) (oi := ⟨some 27, _, _, _, _, _⟩) (v := ?_) rfl (by kernel_rfl) (by kernel_rfl) (by kernel_rfl) (fun _ _ _ h => h) (Or.inl ⟨by rfl, ?_⟩) (by assumption) ?_
  rotate_left
  · intro w hSw
    (try dsimp only at hSw)
    go_simp
    all_goals (with_reducible rfl)
  try simp only [Act.put, List.setIfInBounds_toArray, List.set_cons_zero, List.set_cons_succ]
  refine wpAnyH_take (i := 15) (oi := ⟨some 28, _, _, _, _, _⟩) (v := ?_) rfl (by kernel_rfl) (by kernel_rfl) (by kernel_rfl) (fun _ _ _ h => h) (Or.inl ⟨by rfl, ?_⟩) (by assumption) ?_
  rotate_left
  · intro w hSw
    (try dsimp only at hSw)
    go_simp
    all_goals (with_reducible rfl)
  try simp only [Act.put, List.setIfInBounds_toArray, List.set_cons_zero, List.set_cons_succ]
  refine wpAnyH_ready (rs := [16]) (by kernel_rfl) (by simp) ?_
  refine AllReadyH.cons (o := ⟨none, _, _, _, _, _⟩) rfl (fun K hK => ?_) AllReadyH.nil
  rw [if_pos (by rfl)]
  refine wp_store_X _ _ (by rfl) g (k * 4) ⟨s, .slice ua un uc, .slice none 0 0, [], ⟨f.content, [], false⟩⟩ (by rfl) (by rfl) p1 hnew.one ?_
  generalize w4.setCells _ _ _ = w5 at p2 p3 ⊢
  refine hK.out _ _ (p2.box.cell 0) (fun _ => ?_)
  clear hK K
  try simp only [Act.put]
  refine wpAnyH_done (by kernel_rfl) ?_ _
  refine NoPanic.normal ?_
  go_wp2
  go_ret
  refine ⟨rfl, RX.of p2 ?_ (hO.trans p3) (fun i _ e => e.elim (fun e => e ▸ h1.tm) (fun e => h1.tf i (congrArg some e.symm))) (TX_more hO.size)⟩
  exact HX.out.2.2.2 _ rfl

set_option maxRecDepth 100000 in
set_option maxHeartbeats 4000000 in
theorem rren_refused (w : World) (B m n : Nat) (T : Nat → Prop) (fv rv : Value) (l : List Rx) (rl : List Int) (h : RD w B m T fv rv l rl n) (hn : n ≤ 1000000) (hr : rl.length ≤ 100000) (hq : refB rl n = true) (s : ByteArray) (t : ByteArray) :
    Calls Try.prog 57 #[.pointer (some ⟨m, 0, none⟩), .string s, .string t] w fun e w' => e = .returned (.int .i64 13) ∧ RX w w' B m T (viewX l) rl (n + 1) := by
  have HN := Lib.hid (hq ▸ rop_calls w B m n T fv rv l rl h (by omega) hr)
  clear h
  go_enter Try.func57, Try.ntmps57
  go_wp2_with (first
    | (go_at_call 76; refine HN.out.mono ?_; rintro e wc ⟨rfl, h1, hO⟩)
    | fail)
  go_ret
  exact ⟨rfl, RX.same h1 hO⟩

set_option maxRecDepth 100000 in
set_option maxHeartbeats 4000000 in
theorem rren_arg (w : World) (B m n : Nat) (T : Nat → Prop) (fv rv : Value) (l : List Rx) (rl : List Int) (h : RD w B m T fv rv l rl n) (hn : n ≤ 1000000) (hr : rl.length ≤ 100000) (hq : refB rl n = false) (s t : ByteArray) (ht : t.size ≤ 9223372036854775806) (hnm : nameN t = false) :
    Calls Try.prog 57 #[.pointer (some ⟨m, 0, none⟩), .string s, .string t] w fun e w' => e = .returned (.int .i64 2) ∧ RX w w' B m T (viewX l) rl (n + 1) := by
  have HN := Lib.hid (hq ▸ rop_calls w B m n T fv rv l rl h (by omega) hr)
  have HNM := Lib.hid (fun w => hnm ▸ rname_calls w t ht)
  clear h
  go_enter Try.func57, Try.ntmps57
  go_wp2_with (first
    | (go_at_call 77; refine (HNM.out _).mono ?_; rintro e wn ⟨rfl, rfl⟩)
    | (go_at_call 76; refine HN.out.mono ?_; rintro e wc ⟨rfl, h1, hO⟩)
    | fail)
  go_ret
  exact ⟨rfl, RX.same h1 hO⟩

set_option maxRecDepth 100000 in
set_option maxHeartbeats 4000000 in
theorem rren_missing (w : World) (B m n : Nat) (T : Nat → Prop) (fv rv : Value) (l : List Rx) (rl : List Int) (h : RD w B m T fv rv l rl n) (hl : l.length ≤ 1000) (hn : n ≤ 1000000) (hr : rl.length ≤ 100000) (hq : refB rl n = false) (s t : ByteArray) (ht : t.size ≤ 9223372036854775806) (hnm : nameN t = true) (hg : getA (viewX l) s = none) :
    Calls Try.prog 57 #[.pointer (some ⟨m, 0, none⟩), .string s, .string t] w fun e w' => e = .returned (.int .i64 6) ∧ RX w w' B m T (viewX l) rl (n + 1) := by
  have HN := Lib.hid (hq ▸ rop_calls w B m n T fv rv l rl h (by omega) hr)
  have HNM := Lib.hid (fun w => hnm ▸ rname_calls w t ht)
  have hp := posX_neg hg
  clear h
  go_enter Try.func57, Try.ntmps57
  go_wp2_with (first
    | (go_at_call 78; refine (rat_calls wc B m _ T _ _ l rl h1 (by omega) s).mono ?_; rintro e wa ⟨rfl, rfl⟩; rw [hp])
    | (go_at_call 77; refine (HNM.out _).mono ?_; rintro e wn ⟨rfl, rfl⟩)
    | (go_at_call 76; refine HN.out.mono ?_; rintro e wc ⟨rfl, h1, hO⟩)
    | fail)
  go_ret
  exact ⟨rfl, RX.same h1 hO⟩

set_option maxRecDepth 100000 in
set_option maxHeartbeats 4000000 in
theorem rren_state (w : World) (B m n : Nat) (T : Nat → Prop) (fv rv : Value) (l : List Rx) (rl : List Int) (h : RD w B m T fv rv l rl n) (hl : l.length ≤ 1000) (hn : n ≤ 1000000) (hr : rl.length ≤ 100000) (hq : refB rl n = false) (s t : ByteArray) (ht : t.size ≤ 9223372036854775806) (hnm : nameN t = true) (f : Dfile) (hg : getA (viewX l) s = some f) (ho : f.ops.length ≠ 0) :
    Calls Try.prog 57 #[.pointer (some ⟨m, 0, none⟩), .string s, .string t] w fun e w' => e = .returned (.int .i64 10) ∧ RX w w' B m T (viewX l) rl (n + 1) := by
  have HN := Lib.hid (hq ▸ rop_calls w B m n T fv rv l rl h (by omega) hr)
  have HNM := Lib.hid (fun w => hnm ▸ rname_calls w t ht)
  obtain ⟨k, x, hk, hx, hxn, hxf, hset⟩ := posX_some hg
  have hp := posX_pos hk
  have i3 : ¬ (k : Int) < 0 := by omega
  clear hg hk h
  go_enter Try.func57, Try.ntmps57
  go_upto_region 8 with (first
    | (go_at_call 78; refine (rat_calls wc B m _ T _ _ l rl h1 (by omega) s).mono ?_; rintro e wa ⟨rfl, rfl⟩; rw [hp])
    | (go_at_call 77; refine (HNM.out _).mono ?_; rintro e wn ⟨rfl, rfl⟩)
    | (go_at_call 76; refine HN.out.mono ?_; rintro e wc ⟨rfl, h1, hO⟩)
    | fail)
  obtain ⟨fa, fc, hfv⟩ := slice_of_row h1.row
  subst hfv
  obtain ⟨g, hg0, hrg⟩ := own_atX h1.row hx
  subst hg0
  have hxa := h1.each x (List.mem_of_getElem? hx)
  have c0 := h1.box.cell 0
  have i2 : 0 ≤ (k : Int) ∧ (k : Int) < (l.length : Int) := by have := (List.getElem?_eq_some_iff.1 hx).1; omega
  have i4 : ¬ (k : Int) < 0 := by omega
  have hcnt : x.ops.length = f.ops.length := by rw [← hxf, ← hxa.ops]; simp
  obtain ⟨oa, oc, hov⟩ := slice_of_row hxa.row
  have d2 := hrg 2 _ rfl
  rw [hov, hcnt] at d2
  have g1 : 0 < (f.ops.length : Int) := by omega
  clear hset hxa hxf hxn hx hov hcnt
  go_wp2
  go_ret
  exact ⟨rfl, RX.same h1 hO⟩

set_option maxRecDepth 100000 in
set_option maxHeartbeats 4000000 in
theorem rren_same (w : World) (B m n : Nat) (T : Nat → Prop) (fv rv : Value) (l : List Rx) (rl : List Int) (h : RD w B m T fv rv l rl n) (hl : l.length ≤ 1000) (hn : n ≤ 1000000) (hr : rl.length ≤ 100000) (hq : refB rl n = false) (s : ByteArray) (ht : s.size ≤ 9223372036854775806) (hnm : nameN s = true) (f : Dfile) (hg : getA (viewX l) s = some f) (hz : f.ops.length = 0) :
    Calls Try.prog 57 #[.pointer (some ⟨m, 0, none⟩), .string s, .string s] w fun e w' => e = .returned (.int .i64 0) ∧ RX w w' B m T (viewX l) rl (n + 1) := by
  have HN := Lib.hid (hq ▸ rop_calls w B m n T fv rv l rl h (by omega) hr)
  have HNM := Lib.hid (fun w => hnm ▸ rname_calls w s ht)
  obtain ⟨k, x, hk, hx, hxn, hxf, hset⟩ := posX_some hg
  have hp := posX_pos hk
  have i3 : ¬ (k : Int) < 0 := by omega
  clear hg hk h
  go_enter Try.func57, Try.ntmps57
  go_upto_region 8 with (first
    | (go_at_call 78; refine (rat_calls wc B m _ T _ _ l rl h1 (by omega) s).mono ?_; rintro e wa ⟨rfl, rfl⟩; rw [hp])
    | (go_at_call 77; refine (HNM.out _).mono ?_; rintro e wn ⟨rfl, rfl⟩)
    | (go_at_call 76; refine HN.out.mono ?_; rintro e wc ⟨rfl, h1, hO⟩)
    | fail)
  obtain ⟨fa, fc, hfv⟩ := slice_of_row h1.row
  subst hfv
  obtain ⟨g, hg0, hrg⟩ := own_atX h1.row hx
  subst hg0
  have hxa := h1.each x (List.mem_of_getElem? hx)
  have c0 := h1.box.cell 0
  have i2 : 0 ≤ (k : Int) ∧ (k : Int) < (l.length : Int) := by have := (List.getElem?_eq_some_iff.1 hx).1; omega
  have i4 : ¬ (k : Int) < 0 := by omega
  have hcnt : x.ops.length = f.ops.length := by rw [← hxf, ← hxa.ops]; simp
  obtain ⟨oa, oc, hov⟩ := slice_of_row hxa.row
  have d2 := hrg 2 _ rfl
  rw [hov, hcnt] at d2
  rw [hz] at d2
  clear hset hxa hxf hxn hx hov hcnt
  go_wp2
  go_ret
  exact ⟨rfl, RX.same h1 hO⟩

set_option maxRecDepth 100000 in
set_option maxHeartbeats 4000000 in
theorem rren_there (w : World) (B m n : Nat) (T : Nat → Prop) (fv rv : Value) (l : List Rx) (rl : List Int) (h : RD w B m T fv rv l rl n) (hl : l.length ≤ 1000) (hn : n ≤ 1000000) (hr : rl.length ≤ 100000) (hq : refB rl n = false) (s t : ByteArray) (ht : t.size ≤ 9223372036854775806) (hnm : nameN t = true) (hst : s ≠ t) (f : Dfile) (hg : getA (viewX l) s = some f) (hz : f.ops = []) :
    Calls Try.prog 57 #[.pointer (some ⟨m, 0, none⟩), .string s, .string t] w fun e w' => e = .returned (.int .i64 0) ∧ RX w w' B m T (insF (t, ⟨f.safe, f.ops, false⟩) (dropA (dropA (viewX l) s) t)) rl (n + 1) := by
  have HN := Lib.hid (hq ▸ rop_calls w B m n T fv rv l rl h (by omega) hr)
  have HNM := Lib.hid (fun w => hnm ▸ rname_calls w t ht)
  obtain ⟨k, x, hk, hx, hxn, hxf, hset⟩ := posX_some hg
  have hp := posX_pos hk
  have i3 : ¬ (k : Int) < 0 := by omega
  clear hg hk h
  go_enter Try.func57, Try.ntmps57
  go_upto_region 8 with (first
    | (go_at_call 78; refine (rat_calls wc B m _ T _ _ l rl h1 (by omega) s).mono ?_; rintro e wa ⟨rfl, rfl⟩; rw [hp])
    | (go_at_call 77; refine (HNM.out _).mono ?_; rintro e wn ⟨rfl, rfl⟩)
    | (go_at_call 76; refine HN.out.mono ?_; rintro e wc ⟨rfl, h1, hO⟩)
    | fail)
  obtain ⟨fa, fc, hfv⟩ := slice_of_row h1.row
  subst hfv
  obtain ⟨g, hg0, hrg⟩ := own_atX h1.row hx
  subst hg0
  have hxa := h1.each x (List.mem_of_getElem? hx)
  have c0 := h1.box.cell 0
  have i2 : 0 ≤ (k : Int) ∧ (k : Int) < (l.length : Int) := by have := (List.getElem?_eq_some_iff.1 hx).1; omega
  have i4 : ¬ (k : Int) < 0 := by omega
  have hcnt : x.ops.length = f.ops.length := by rw [← hxf, ← hxa.ops]; simp
  obtain ⟨oa, oc, hov⟩ := slice_of_row hxa.row
  have d2 := hrg 2 _ rfl
  rw [hov, hcnt] at d2
  rw [hz, List.length_nil] at d2
  have he : (s.toList == t.toList) = false := by
    rw [← Bool.not_eq_true, beq_iff_eq]
    exact fun e => hst (nm_eq e)
  have HX := Lib.hid (And.intro hx (And.intro hxn (And.intro hxf (And.intro hset hxa))))
  clear hset hxf hxn hx hov hcnt hst
  go_upto_region 12 with fail
  clear d2 he
  go_upto_region 13 with (first
    | (refine wpList_load_X (by rfl) _ (by rfl) g (k * 4) (by rfl) x hrg ?_)
    | (refine wpList_store_Xnew (by rfl) _ _ (by rfl) x (by rfl) (by rfl) hxa.one ?_)
    | fail)
  have b1 : Below wc.heap.size wc (wc.alloc (.cells x.cells.toArray 116)) := (Below.refl _ _).alloc (Nat.le_refl _) _
  have hX := Whole.new wc 116 x.cells.toArray
  replace hX : Whole _ wc.heap.size 116 x.cells := hX
  have hmb : m < wc.heap.size := (h1.old m h1.tm).2
  have hwc := hO.size
  have hws : wc.heap.size < (wc.alloc (.cells x.cells.toArray 116)).heap.size := by simp
  obtain ⟨fb, hfb⟩ : ∃ b, wc.heap.size = b := ⟨_, rfl⟩
  have HFB := Lib.hid hfb
  rw [hfb] at hX hmb hws hwc ⊢
  have h2 := h1.low b1
  have HTb := Lib.hid (show ∀ i, T i → i < fb from fun i hi => hfb ▸ (h1.old i hi).2)
  replace hO := (hO.trans (Only.of_below b1 (fun _ => False))).weak fun _ _ e => e.elim id False.elim
  replace hxa := hxa.only (Only.of_below b1 (fun _ => False)) (fun _ _ e => e.elim) (fun _ e => e)
  clear h1 c0 hrg b1 hfb
  generalize wc.alloc (.cells x.cells.toArray 116) = w1 at hX h2 hO hws hxa ⊢
  have HL2 := Lib.hid (show (l.filter fun x => !(x.name.toList == s.toList)).length ≤ 1000 from Nat.le_trans (List.length_filter_le _ _) hl)
  have HL3 := Lib.hid (show ((l.filter fun x => !(x.name.toList == s.toList)).filter fun x => !(x.name.toList == t.toList)).length ≤ 1000 from Nat.le_trans (List.length_filter_le _ _) HL2.out)
  go_upto_region 15 with (first
    | (go_at_call 82; refine (rgone_calls w2 B m _ _ _ rv _ rl h3 HL2.out t).mono ?_; rintro e w3 ⟨rfl, fv3, hi3, h4, hhi3, hO3⟩)
    | (go_at_call 82; refine (rgone_calls w1 B m _ T _ rv l rl h2 hl s).mono ?_; rintro e w2 ⟨rfl, fv2, hi2, h3, hhi2, hO2⟩)
    | fail)
  have hO4 : Only w1 w3 fun i => i = m := (hO2.trans hO3).weak fun _ _ e => e.elim id id
  have hfm : fb ≠ m := by omega
  replace hX := hX.only hO4 hfm
  have hs2 := hO2.size
  have hTn : ∀ i, TX (TX T w1.heap.size hi2) w2.heap.size hi3 i → i ≠ fb := fun i hi => by
    rcases hi with (hi | hi) | hi
    · have := HTb.out i hi
      omega
    · have := hi.1
      omega
    · have := hi.1
      omega
  replace hxa : RxAt w3 B (TX (TX T w1.heap.size hi2) w2.heap.size hi3) x := hxa.only hO4 (fun i _ e => h2.other i (.inl e)) (fun i hi => .inl (.inl hi))
  have z0 := hX.cell 0
  have f0 := hX.free 0
  have o5 := Only.set w3 ⟨fb, 0, none⟩ (.string t)
  have X5 := hX.put 0 (.string t)
  go_upto_region 16 with fail
  clear z0 f0 hX
  have h5 := h4.only o5 (fun i hi e => hTn i hi e)
  replace hxa := hxa.only o5 (fun i hi e => absurd e (hTn i hi)) (fun _ e => e)
  generalize w3.setCell ⟨fb, 0, none⟩ (.string t) = w5 at o5 X5 h5 hxa ⊢
  have z3 := X5.cell 3
  have f3 := X5.free 3
  have o6 := Only.set w5 ⟨fb, 3, none⟩ (.bool true)
  have X6 := X5.put 3 (.bool true)
  go_upto_region 17 with fail
  clear z3 f3 X5
  have h6 := h5.only o6 (fun i hi e => hTn i hi e)
  replace hxa := hxa.only o6 (fun i hi e => absurd e (hTn i hi)) (fun _ e => e)
  generalize w5.setCell ⟨fb, 3, none⟩ (.bool true) = w6 at o6 X6 h6 hxa ⊢
  have HXA := Lib.hid (show RxAt w6 B (TX (TX T w1.heap.size hi2) w2.heap.size hi3) ⟨t, x.sv, x.ov, x.ops, ⟨x.f.safe, x.f.ops, false⟩⟩ from ⟨hxa.safe, hxa.row, hxa.each, hxa.ops, hxa.ts, hxa.tr, hxa.te, hxa.okf⟩)
  have hr6 := X6.range
  go_wp2_with (first
    | (go_at_call 80; refine (rlaid_calls w6 B m _ _ _ rv _ rl h6 HL3.out ⟨t, x.sv, x.ov, x.ops, ⟨x.f.safe, x.f.ops, false⟩⟩ HXA.out).mono ?_; rintro e w7 ⟨rfl, fv7, hi7, h7, hhi7, hO7⟩)
    | (refine wpList_load_X (by rfl) _ (by rfl) fb 0 (by rfl) ⟨t, x.sv, x.ov, x.ops, ⟨x.f.safe, x.f.ops, false⟩⟩ hr6 ?_)
    | fail)
  go_ret
  refine ⟨rfl, RX.of h7 ?_ ((((hO.trans hO4).trans o5).trans o6).trans hO7) (fun i hi e => ?_) (fun i e => ?_)⟩
  · rw [viewX_ins, viewX_filter, viewX_filter]
    show insF (t, ⟨x.f.safe, x.f.ops, false⟩) _ = _
    rw [HX.out.2.2.1]
  · rcases e with (((e | e) | e) | e) | e
    · exact e ▸ h2.tm
    · exact e ▸ h2.tm
    · exact absurd e (by show i ≠ fb; omega)
    · exact absurd e (by show i ≠ fb; omega)
    · exact e ▸ h2.tm
  · have q1 := hO.size
    have q3 := hO4.size
    have q4 := o5.size
    have q5 := o6.size
    rcases e with ((e | e) | e) | e
    · exact .inl e
    · exact .inr (by have := e.1; omega)
    · exact .inr (by have := e.1; omega)
    · exact .inr (by have := e.1; omega)

end Go.Proofs.Ytmmlpbepaefamaa
