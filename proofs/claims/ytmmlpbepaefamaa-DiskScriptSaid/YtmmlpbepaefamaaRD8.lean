/- The document's disk: Append. -/
import Derived.Test.YtmmlpbepaefamaaRD7
namespace Go.Proofs.Ytmmlpbepaefamaa
open Go.RowKit

/-- A file, put into its place by name. -/
def insF (x : ByteArray × Dfile) : Fs → Fs
  | [] => [x]
  | y :: R => if ltN x.1 y.1 = true then x :: y :: R else y :: insF x R
theorem viewX_ins (x : Rx) : ∀ l : List Rx, viewX (insX x l) = insF x.view (viewX l)
  | [] => rfl
  | y :: l => by
    show viewX (if ltN x.name y.name = true then x :: y :: l else y :: insX x l) = (if ltN x.name y.name = true then x.view :: y.view :: viewX l else y.view :: insF x.view (viewX l))
    split
    · rfl
    · rw [← viewX_ins x l]
      rfl
theorem getA_cons (x : ByteArray × Dfile) (A : Fs) (s : ByteArray) : getA (x :: A) s = if x.1 = s then some x.2 else getA A s := rfl
theorem setA_cons (x : ByteArray × Dfile) (A : Fs) (s : ByteArray) (f : Dfile) : setA (x :: A) s f = if x.1 = s then (x.1, f) :: A else x :: setA A s f := rfl
theorem getA_ins (x : ByteArray × Dfile) : ∀ (R : Fs), getA R x.1 = none → ∀ s, getA (insF x R) s = if x.1 = s then some x.2 else getA R s
  | [], _, _ => rfl
  | y :: R, h, s => by
    rw [getA_cons] at h
    by_cases e : y.1 = x.1
    · rw [if_pos e] at h
      cases h
    rw [if_neg e] at h
    unfold insF
    split
    · rfl
    · rw [getA_cons, getA_cons, getA_ins x R h s]
      by_cases e1 : y.1 = s
      · rw [if_pos e1, if_neg (fun e2 => e (e1.trans e2.symm)), if_pos e1]
      · rw [if_neg e1, if_neg e1]
theorem ins_set (s : ByteArray) (f0 f1 : Dfile) : ∀ (R : Fs), getA R s = none → setA (insF (s, f0) R) s f1 = insF (s, f1) R
  | [], _ => by
    show (if s = s then [(s, f1)] else _) = _
    rw [if_pos rfl]
    rfl
  | y :: R, h => by
    rw [getA_cons] at h
    by_cases e : y.1 = s
    · rw [if_pos e] at h
      cases h
    rw [if_neg e] at h
    unfold insF
    by_cases e2 : ltN s y.1 = true
    · rw [if_pos e2, if_pos e2, setA_cons, if_pos rfl]
    · rw [if_neg e2, if_neg e2, setA_cons, if_neg e, ins_set s f0 f1 R h]

set_option maxRecDepth 100000 in
set_option maxHeartbeats 4000000 in
theorem rapp_refused (w : World) (B m n : Nat) (T : Nat → Prop) (fv rv : Value) (l : List Rx) (rl : List Int) (h : RD w B m T fv rv l rl n) (hn : n ≤ 1000000) (hr : rl.length ≤ 100000) (hq : refB rl n = true) (s : ByteArray) (ba : Option Addr) (bl bc : Nat) :
    Calls Try.prog 52 #[.pointer (some ⟨m, 0, none⟩), .string s, .slice ba bl bc] w fun e w' => e = .returned (.int .i64 13) ∧ RX w w' B m T (viewX l) rl (n + 1) := by
  have HN := Lib.hid (hq ▸ rop_calls w B m n T fv rv l rl h (by omega) hr)
  clear h
  go_enter Try.func52, Try.ntmps52
  go_wp2_with (first
    | (go_at_call 76; refine HN.out.mono ?_; rintro e wc ⟨rfl, h1, hO⟩)
    | fail)
  go_ret
  exact ⟨rfl, RX.same h1 hO⟩

set_option maxRecDepth 100000 in
set_option maxHeartbeats 4000000 in
theorem rapp_arg (w : World) (B m n : Nat) (T : Nat → Prop) (fv rv : Value) (l : List Rx) (rl : List Int) (h : RD w B m T fv rv l rl n) (hn : n ≤ 1000000) (hr : rl.length ≤ 100000) (hq : refB rl n = false) (s : ByteArray) (hs : s.size ≤ 9223372036854775806) (hnm : nameN s = false) (ba : Option Addr) (bl bc : Nat) :
    Calls Try.prog 52 #[.pointer (some ⟨m, 0, none⟩), .string s, .slice ba bl bc] w fun e w' => e = .returned (.int .i64 2) ∧ RX w w' B m T (viewX l) rl (n + 1) := by
  have HN := Lib.hid (hq ▸ rop_calls w B m n T fv rv l rl h (by omega) hr)
  have HNM := Lib.hid (fun w => hnm ▸ rname_calls w s hs)
  clear h
  go_enter Try.func52, Try.ntmps52
  go_wp2_with (first
    | (go_at_call 77; refine (HNM.out _).mono ?_; rintro e wn ⟨rfl, rfl⟩)
    | (go_at_call 76; refine HN.out.mono ?_; rintro e wc ⟨rfl, h1, hO⟩)
    | fail)
  go_ret
  exact ⟨rfl, RX.same h1 hO⟩

set_option maxRecDepth 100000 in
set_option maxHeartbeats 4000000 in
theorem rapp_full (w : World) (B m n : Nat) (T : Nat → Prop) (fv rv : Value) (l : List Rx) (rl : List Int) (h : RD w B m T fv rv l rl n) (hl : l.length ≤ 1000) (hn : n ≤ 1000000) (hr : rl.length ≤ 100000) (hq : refB rl n = false) (s : ByteArray) (hs : s.size ≤ 9223372036854775806) (hnm : nameN s = true) (hg : getA (viewX l) s = none) (hfl : 64 ≤ l.length) (ba : Option Addr) (bl bc : Nat) :
    Calls Try.prog 52 #[.pointer (some ⟨m, 0, none⟩), .string s, .slice ba bl bc] w fun e w' => e = .returned (.int .i64 8) ∧ RX w w' B m T (viewX l) rl (n + 1) := by
  have HN := Lib.hid (hq ▸ rop_calls w B m n T fv rv l rl h (by omega) hr)
  have HNM := Lib.hid (fun w => hnm ▸ rname_calls w s hs)
  have hp := posX_neg hg
  clear h
  go_enter Try.func52, Try.ntmps52
  go_upto_region 6 with (first
    | (go_at_call 78; refine (rat_calls wc B m _ T _ _ l rl h1 (by omega) s).mono ?_; rintro e wa ⟨rfl, rfl⟩; rw [hp])
    | (go_at_call 77; refine (HNM.out _).mono ?_; rintro e wn ⟨rfl, rfl⟩)
    | (go_at_call 76; refine HN.out.mono ?_; rintro e wc ⟨rfl, h1, hO⟩)
    | fail)
  obtain ⟨fa, fc, hfv⟩ := slice_of_row h1.row
  subst hfv
  have c0 := h1.box.cell 0
  have g1 : (64 : Int) ≤ (l.length : Int) := by omega
  go_wp2
  go_ret
  exact ⟨rfl, RX.same h1 hO⟩

set_option maxRecDepth 100000 in
set_option maxHeartbeats 4000000 in
theorem rapp_long (w : World) (B m n : Nat) (T : Nat → Prop) (fv rv : Value) (l : List Rx) (rl : List Int) (h : RD w B m T fv rv l rl n) (hl : l.length ≤ 1000) (hn : n ≤ 1000000) (hr : rl.length ≤ 100000) (hq : refB rl n = false) (s : ByteArray) (hs : s.size ≤ 9223372036854775806) (hnm : nameN s = true) (hg : getA (viewX l) s = none) (hfl : l.length < 64) (ba : Option Addr) (bl bc : Nat) (hbl : 1048576 < bl) :
    Calls Try.prog 52 #[.pointer (some ⟨m, 0, none⟩), .string s, .slice ba bl bc] w fun e w' => e = .returned (.int .i64 3) ∧ RX w w' B m T (viewX l) rl (n + 1) := by
  have HN := Lib.hid (hq ▸ rop_calls w B m n T fv rv l rl h (by omega) hr)
  have HNM := Lib.hid (fun w => hnm ▸ rname_calls w s hs)
  have hp := posX_neg hg
  clear h
  go_enter Try.func52, Try.ntmps52
  go_upto_region 6 with (first
    | (go_at_call 78; refine (rat_calls wc B m _ T _ _ l rl h1 (by omega) s).mono ?_; rintro e wa ⟨rfl, rfl⟩; rw [hp])
    | (go_at_call 77; refine (HNM.out _).mono ?_; rintro e wn ⟨rfl, rfl⟩)
    | (go_at_call 76; refine HN.out.mono ?_; rintro e wc ⟨rfl, h1, hO⟩)
    | fail)
  obtain ⟨fa, fc, hfv⟩ := slice_of_row h1.row
  subst hfv
  have c0 := h1.box.cell 0
  have g1 : ¬ (64 : Int) ≤ (l.length : Int) := by omega
  have g2 : (1048576 : Int) < (bl : Int) := by omega
  go_wp2
  go_ret
  exact ⟨rfl, RX.same h1 hO⟩

set_option maxRecDepth 100000 in
set_option maxHeartbeats 4000000 in
theorem rapp_long2 (w : World) (B m n : Nat) (T : Nat → Prop) (fv rv : Value) (l : List Rx) (rl : List Int) (h : RD w B m T fv rv l rl n) (hl : l.length ≤ 1000) (hn : n ≤ 1000000) (hr : rl.length ≤ 100000) (hq : refB rl n = false) (s : ByteArray) (hs : s.size ≤ 9223372036854775806) (hnm : nameN s = true) (f : Dfile) (hg : getA (viewX l) s = some f) (hol : f.ops.length ≤ 90000) (ba : Option Addr) (bl bc : Nat) (hbl : bl ≤ 4611686018427387904) (hfc : f.content.length ≤ 1048576) (hbl2 : 1048576 < f.content.length + bl) :
    Calls Try.prog 52 #[.pointer (some ⟨m, 0, none⟩), .string s, .slice ba bl bc] w fun e w' => e = .returned (.int .i64 3) ∧ RX w w' B m T (viewX l) rl (n + 1) := by
  have HN := Lib.hid (hq ▸ rop_calls w B m n T fv rv l rl h (by omega) hr)
  have HNM := Lib.hid (fun w => hnm ▸ rname_calls w s hs)
  obtain ⟨k, x, hk, hx, hxn, hxf, hset⟩ := posX_some hg
  have hp := posX_pos hk
  have i3 : ¬ (k : Int) < 0 := by omega
  clear hg hk h
  go_enter Try.func52, Try.ntmps52
  go_upto_region 6 with (first
    | (go_at_call 78; refine (rat_calls wc B m _ T _ _ l rl h1 (by omega) s).mono ?_; rintro e wa ⟨rfl, rfl⟩; rw [hp])
    | (go_at_call 77; refine (HNM.out _).mono ?_; rintro e wn ⟨rfl, rfl⟩)
    | (go_at_call 76; refine HN.out.mono ?_; rintro e wc ⟨rfl, h1, hO⟩)
    | fail)
  obtain ⟨fa, fc, hfv⟩ := slice_of_row h1.row
  subst hfv
  obtain ⟨g, hg0, hrg⟩ := own_atX h1.row hx
  subst hg0
  have hxa := h1.each x (List.mem_of_getElem? hx)
  have c0 := h1.box.cell 0
  have i2 : 0 ≤ (k : Int) ∧ (k : Int) < (l.length : Int) := by have := (List.getElem?_eq_some_iff.1 hx).1; omega
  have i4 : ¬ (k : Int) < 0 := by omega
  have HC := Lib.hid (rcontent_calls wc B T x hxa (by rw [hxf]; omega))
  rw [hxf] at HC
  have g1 : IntKind.i64.wrap ((bl : Int) + (f.content.length : Int)) = (bl : Int) + (f.content.length : Int) := IntWalk.i64_in _ (by omega)
  have g2 : (1048576 : Int) < (bl : Int) + (f.content.length : Int) := by omega
  clear hset hxa hxf hxn
  go_wp2_with (first
    | (go_at_call 79; refine HC.out.mono ?_; rintro e w2 ⟨u, rfl, _, O2, b2⟩; obtain ⟨ua, uc, rfl⟩ := slice_of_row O2)
    | (refine wpList_load_X (by rfl) _ (by rfl) g (k * 4) (by rfl) x hrg ?_)
    | fail)
  go_ret
  exact ⟨rfl, RX.same (h1.low b2) ((hO.trans (Only.of_below b2 (fun _ => False))).weak fun _ _ e => e.elim id False.elim)⟩

set_option maxRecDepth 100000 in
set_option maxHeartbeats 4000000 in
theorem rapp_there (w : World) (B m n : Nat) (T : Nat → Prop) (fv rv : Value) (l : List Rx) (rl : List Int) (h : RD w B m T fv rv l rl n) (hl : l.length ≤ 1000) (hn : n ≤ 1000000) (hr : rl.length ≤ 100000) (hq : refB rl n = false) (s : ByteArray) (hs : s.size ≤ 9223372036854775806) (hnm : nameN s = true) (f : Dfile) (hg : getA (viewX l) s = some f) (hol : f.ops.length ≤ 90000) (bv : Value) (b : List (BitVec 8)) (hb : SliceIs w bv b) (hbd : b ≠ [] → ∀ g o c, bv = .slice (some ⟨g, o, none⟩) b.length c → g ≠ m) (hfit : f.content.length + b.length ≤ 1048576) :
    Calls Try.prog 52 #[.pointer (some ⟨m, 0, none⟩), .string s, bv] w fun e w' => e = .returned (.int .i64 0) ∧ RX w w' B m T (setA (viewX l) s ⟨f.safe, f.ops ++ [.add b], f.fresh⟩) rl (n + 1) := by
  have HN := Lib.hid (hq ▸ rop_calls w B m n T fv rv l rl h (by omega) hr)
  have HNM := Lib.hid (fun w => hnm ▸ rname_calls w s hs)
  obtain ⟨ba, bc, rfl⟩ := slice_len hb
  obtain ⟨k, x, hk, hx, hxn, hxf, hset⟩ := posX_some hg
  have hp := posX_pos hk
  have i3 : ¬ (k : Int) < 0 := by omega
  clear hg hk h
  go_enter Try.func52, Try.ntmps52
  go_upto_region 6 with (first
    | (go_at_call 78; refine (rat_calls wc B m _ T _ _ l rl h1 (by omega) s).mono ?_; rintro e wa ⟨rfl, rfl⟩; rw [hp])
    | (go_at_call 77; refine (HNM.out _).mono ?_; rintro e wn ⟨rfl, rfl⟩)
    | (go_at_call 76; refine HN.out.mono ?_; rintro e wc ⟨rfl, h1, hO⟩)
    | fail)
  replace hb := hb.only2 hO hbd
  obtain ⟨fa, fc, hfv⟩ := slice_of_row h1.row
  subst hfv
  obtain ⟨g, hg0, hrg⟩ := own_atX h1.row hx
  subst hg0
  have hxa := h1.each x (List.mem_of_getElem? hx)
  have c0 := h1.box.cell 0
  have i2 : 0 ≤ (k : Int) ∧ (k : Int) < (l.length : Int) := by have := (List.getElem?_eq_some_iff.1 hx).1; omega
  have i4 : ¬ (k : Int) < 0 := by omega
  have HC := Lib.hid (rcontent_calls wc B T x hxa (by rw [hxf]; omega))
  rw [hxf] at HC
  have hol2 : x.ops.length ≤ 90000 := by
    have : x.ops.length = f.ops.length := by rw [← hxf, ← hxa.ops]; simp
    omega
  have hok : okOps x.f.safe (x.f.ops ++ [.add b]) := okOps_add _ _ _ hxa.okf.2 (fun q e => by cases e) (by
    show (x.f.content ++ b).length ≤ 1048576
    rw [hxf, List.length_append]
    exact hfit)
  have HX := Lib.hid (And.intro hx (And.intro hxn (And.intro hxf (And.intro hset hok))))
  have g1 : IntKind.i64.wrap ((b.length : Int) + (f.content.length : Int)) = (b.length : Int) + (f.content.length : Int) := IntWalk.i64_in _ (by omega)
  have g2 : ¬ (1048576 : Int) < (b.length : Int) + (f.content.length : Int) := by omega
  clear hset hxa hxf hxn hx hok
  go_upto_region 16 with (first
    | (go_at_call 79; refine HC.out.mono ?_; rintro e w2 ⟨u, rfl, _, O2, b2⟩; obtain ⟨ua, uc, rfl⟩ := slice_of_row O2)
    | (refine wpList_load_X (by rfl) _ (by rfl) g (k * 4) (by rfl) x hrg ?_)
    | fail)
  have hS := hb.low b2
  have h2 := h1.low b2
  have b4 : Below w2.heap.size w2 (w2.alloc (.cells #[] 5)) := (Below.refl _ _).alloc (Nat.le_refl _) _
  have hE := made_empty w2
  have S4 := hS.low b4
  have HB := Lib.hid (show B ≤ w2.heap.size by have := h2.old m h2.tm; omega)
  go_wp2_with (first
    | (go_at_call 81; refine (runder_calls w3 B m _ (TX T w2.heap.size w3.heap.size) _ rv l rl H3 k x HX.out.1 (.add b, .slice a3 n3 c3) (own_down HB.out O3) (fun i hi => .inr ⟨own_ge O3 hi, row_lt O3 hi⟩) hol2 HX.out.2.2.2.2).mono ?_; rintro e wu ⟨rfl, v', hi, h5, hhi, hO5⟩)
    | (refine wpList_append_bytes (w := w2.alloc (.cells #[] 5)) (by rfl) _ _ (by rfl) w2.heap.size _ [] (by rfl) hE _ b (by rfl) S4 (by simp only [List.length_nil]; omega) b4.size ?_; intro v3 w3 O3 G3; obtain ⟨a3, n3, c3, e3⟩ := slice_any O3; subst e3; rw [List.nil_append] at O3; have b5 := b4.grown G3 b4.size (fun i hi => own_ge hE hi); have H3 := (h2.low b5).wide (T' := TX T w2.heap.size w3.heap.size) (fun _ e => .inl e) (fun i e => e.elim (fun e => ⟨(h2.old i e).1, Nat.lt_of_lt_of_le (h2.old i e).2 b5.size⟩) (fun e => ⟨Nat.le_trans HB.out e.1, e.2⟩)); clear S4 hE b4 G3)
    | fail)
  go_ret
  refine ⟨rfl, RX.of h5 ?_ (((hO.trans (Only.of_below b2 (fun _ => False))).trans (Only.of_below b5 (fun _ => False))).trans hO5) (fun i _ e => ?_) (fun i e => ?_)⟩
  · refine (HX.out.2.2.2.1 ⟨x.name, x.sv, v', x.ops ++ [(.add b, .slice a3 n3 c3)], ⟨x.f.safe, x.f.ops ++ [.add b], x.f.fresh⟩⟩ HX.out.2.1).trans ?_
    rw [← HX.out.2.2.1]
  · rcases e with ((e | e) | e) | e | e
    · exact e ▸ h1.tm
    · exact e.elim
    · exact e.elim
    · exact e ▸ h1.tm
    · exact h1.tf _ e
  · have q1 := hO.size
    have q2 := b2.size
    have q3 := b5.size
    rcases e with (e | e) | e
    · exact .inl e
    · exact .inr (by have := e.1; omega)
    · exact .inr (by have := e.1; omega)

set_option maxRecDepth 100000 in
set_option maxHeartbeats 4000000 in
theorem rapp_new (w : World) (B m n : Nat) (T : Nat → Prop) (fv rv : Value) (l : List Rx) (rl : List Int) (h : RD w B m T fv rv l rl n) (hl : l.length ≤ 1000) (hn : n ≤ 1000000) (hr : rl.length ≤ 100000) (hq : refB rl n = false) (s : ByteArray) (hs : s.size ≤ 9223372036854775806) (hnm : nameN s = true) (hg : getA (viewX l) s = none) (hfl : l.length < 64) (bv : Value) (b : List (BitVec 8)) (hb : SliceIs w bv b) (hbd : b ≠ [] → ∀ g o c, bv = .slice (some ⟨g, o, none⟩) b.length c → g ≠ m) (hfit : b.length ≤ 1048576) :
    Calls Try.prog 52 #[.pointer (some ⟨m, 0, none⟩), .string s, bv] w fun e w' => e = .returned (.int .i64 0) ∧ RX w w' B m T (insF (s, ⟨[], [.add b], true⟩) (viewX l)) rl (n + 1) := by
  have HN := Lib.hid (hq ▸ rop_calls w B m n T fv rv l rl h (by omega) hr)
  have HNM := Lib.hid (fun w => hnm ▸ rname_calls w s hs)
  obtain ⟨ba, bc, rfl⟩ := slice_len hb
  have hp := posX_neg hg
  clear h
  go_enter Try.func52, Try.ntmps52
  go_upto_region 6 with (first
    | (go_at_call 78; refine (rat_calls wc B m _ T _ _ l rl h1 (by omega) s).mono ?_; rintro e wa ⟨rfl, rfl⟩; rw [hp])
    | (go_at_call 77; refine (HNM.out _).mono ?_; rintro e wn ⟨rfl, rfl⟩)
    | (go_at_call 76; refine HN.out.mono ?_; rintro e wc ⟨rfl, h1, hO⟩)
    | fail)
  replace hb := hb.only2 hO hbd
  obtain ⟨fa, fc, hfv⟩ := slice_of_row h1.row
  subst hfv
  have c0 := h1.box.cell 0
  have g1 : ¬ (64 : Int) ≤ (l.length : Int) := by omega
  have g2 : ¬ (1048576 : Int) < (b.length : Int) := by omega
  obtain ⟨x0, hx0⟩ : ∃ x0 : Rx, (⟨s, .slice none 0 0, .slice none 0 0, [], ⟨[], [], true⟩⟩ : Rx) = x0 := ⟨_, rfl⟩
  have hc0 : Value.agg #[.string s, .slice none 0 0, .slice none 0 0, .bool false] = .agg x0.cells.toArray := by rw [← hx0]; rfl
  have hA0 : RxAt wc B T x0 := by
    rw [← hx0]
    exact ⟨Own.nil _ _, World.ownsRow_nil wc _ _ _, fun p hp => (by cases hp), rfl, fun _ e => (by cases e), fun _ e => (by cases e), fun p hp => (by cases hp), ⟨Nat.zero_le _, trivial⟩⟩
  have hv0 : viewX (insX x0 l) = insF (s, ⟨[], [], true⟩) (viewX l) := by rw [viewX_ins, ← hx0]; rfl
  have hg2 : getA (viewX (insX x0 l)) s = some ⟨[], [], true⟩ := by rw [hv0, getA_ins (s, _) _ hg, if_pos rfl]
  obtain ⟨k, x, hk, hx, hxn, hxf, hset⟩ := posX_some hg2
  have hp2 := posX_pos hk
  have hs2 := ins_set s ⟨[], [], true⟩ ⟨[], [.add b], true⟩ (viewX l) hg
  rw [← hv0] at hs2
  have hok : okOps x.f.safe (x.f.ops ++ [.add b]) := by
    rw [hxf]
    exact okOps_add [] [] _ trivial (fun q e => by cases e) (by show ([] ++ b).length ≤ 1048576; simpa using hfit)
  have HX := Lib.hid (And.intro hx (And.intro hxn (And.intro hxf (And.intro (fun x' e => (hset x' e)) hok))))
  have HV := Lib.hid hs2
  have HA := Lib.hid hA0
  have HL2 := Lib.hid (show (insX x0 l).length ≤ 1000 by rw [insX_len]; omega)
  have HP := Lib.hid (And.intro hp2 hc0)
  clear hset hxf hxn hx hok hk hg2 hv0 hA0 hs2 hp2 hc0 hx0
  go_upto_region 16 with (first
    | (go_at_call 78; refine (rat_calls wl B m _ _ _ _ (insX x0 l) rl h2 (Nat.le_trans HL2.out (by omega)) s).mono ?_; rintro e wa ⟨rfl, rfl⟩; rw [HP.out.1])
    | (go_at_call 80; rw [HP.out.2]; refine (rlaid_calls wc B m _ T _ rv l rl h1 (by omega) x0 HA.out).mono ?_; rintro e wl ⟨rfl, fv', hi0, h2, hhi0, hO2⟩)
    | fail)
  have hS := hb.only2 hO2 hbd
  have hol2 : x.ops.length ≤ 90000 := by
    have : x.ops.length = 0 := by
      have e1 := (h2.each x (List.mem_of_getElem? HX.out.1)).ops
      rw [HX.out.2.2.1] at e1
      simpa using congrArg List.length e1
    omega
  have b4 : Below wl.heap.size wl (wl.alloc (.cells #[] 5)) := (Below.refl _ _).alloc (Nat.le_refl _) _
  have hE := made_empty wl
  have S4 := hS.low b4
  have HB := Lib.hid (show B ≤ wl.heap.size by have := h2.old m h2.tm; omega)
  go_wp2_with (first
    | (go_at_call 81; refine (runder_calls w3 B m _ (TX (TX T wc.heap.size hi0) wl.heap.size w3.heap.size) _ rv (insX x0 l) rl H3 k x HX.out.1 (.add b, .slice a3 n3 c3) (own_down HB.out O3) (fun i hi => .inr ⟨own_ge O3 hi, row_lt O3 hi⟩) hol2 HX.out.2.2.2.2).mono ?_; rintro e wu ⟨rfl, v', hi, h5, hhi, hO5⟩)
    | (refine wpList_append_bytes (w := wl.alloc (.cells #[] 5)) (by rfl) _ _ (by rfl) wl.heap.size _ [] (by rfl) hE _ b (by rfl) S4 (by simp only [List.length_nil]; omega) b4.size ?_; intro v3 w3 O3 G3; obtain ⟨a3, n3, c3, e3⟩ := slice_any O3; subst e3; rw [List.nil_append] at O3; have b5 := b4.grown G3 b4.size (fun i hi => own_ge hE hi); have H3 := (h2.low b5).wide (T' := TX (TX T wc.heap.size hi0) wl.heap.size w3.heap.size) (fun _ e => .inl e) (fun i e => e.elim (fun e => ⟨(h2.old i e).1, Nat.lt_of_lt_of_le (h2.old i e).2 b5.size⟩) (fun e => ⟨Nat.le_trans HB.out e.1, e.2⟩)); clear S4 hE b4 G3)
    | fail)
  go_ret
  refine ⟨rfl, RX.of h5 ?_ (((hO.trans hO2).trans (Only.of_below b5 (fun _ => False))).trans hO5) (fun i hi0 e => ?_) (fun i e => ?_)⟩
  · refine (HX.out.2.2.2.1 ⟨x.name, x.sv, v', x.ops ++ [(.add b, .slice a3 n3 c3)], ⟨x.f.safe, x.f.ops ++ [.add b], x.f.fresh⟩⟩ HX.out.2.1).trans ?_
    rw [← HV.out]
    show setA _ s ⟨x.f.safe, x.f.ops ++ [.add b], x.f.fresh⟩ = _
    rw [HX.out.2.2.1]
    rfl
  · rcases e with ((e | e) | e) | e | e
    · exact e ▸ h1.tm
    · exact e ▸ h1.tm
    · exact e.elim
    · exact e ▸ h1.tm
    · rcases h2.tf _ e with e | e
      · exact e
      · have := e.1
        have := hO.size
        omega
  · have q1 := hO.size
    have q2 := hO2.size
    have q3 := b5.size
    rcases e with ((e | e) | e) | e
    · exact .inl e
    · exact .inr (by have := e.1; omega)
    · exact .inr (by have := e.1; omega)
    · exact .inr (by have := e.1; omega)

end Go.Proofs.Ytmmlpbepaefamaa
