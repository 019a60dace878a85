/- The document's disk as a list of files by name; Pending, Read, Remove, Cut. -/
import Derived.Test.YtmmlpbepaefamaaKD
import Derived.Test.YtmmlpbepaefamaaRD6
namespace Go.Proofs.Ytmmlpbepaefamaa
open Go.RowKit

def viewX (l : List Rx) : Fs := l.map Rx.view
theorem viewX_len (l : List Rx) : (viewX l).length = l.length := List.length_map _
theorem getX_cons (x : Rx) (l : List Rx) (s : ByteArray) : getA (viewX (x :: l)) s = if x.name = s then some x.f else getA (viewX l) s := rfl
theorem posX_none : ∀ {l : List Rx} {s : ByteArray}, getA (viewX l) s = none → l.findIdx? (fun x => x.name.toList == s.toList) = none
  | [], _, _ => rfl
  | x :: l, s, h => by
    rw [getX_cons] at h
    by_cases e : x.name = s
    · rw [if_pos e] at h
      cases h
    · rw [if_neg e] at h
      rw [List.findIdx?_cons, if_neg (by simpa using fun e2 => e (nm_eq e2)), posX_none h]
      rfl
theorem posX_some : ∀ {l : List Rx} {s : ByteArray} {f : Dfile}, getA (viewX l) s = some f → ∃ (k : Nat) (x : Rx), l.findIdx? (fun x => x.name.toList == s.toList) = some k ∧ l[k]? = some x ∧ x.name = s ∧ x.f = f ∧ ∀ x' : Rx, x'.name = s → viewX (l.set k x') = setA (viewX l) s x'.f
  | [], _, _, h => by cases h
  | x :: l, s, f, h => by
    rw [getX_cons] at h
    by_cases e : x.name = s
    · rw [if_pos e] at h
      refine ⟨0, x, ?_, rfl, e, Option.some.inj h, fun x' hx' => ?_⟩
      · rw [List.findIdx?_cons, if_pos (by rw [e]; simp)]
      · show (x'.name, x'.f) :: viewX l = (if x.name = s then (x.name, x'.f) :: viewX l else (x.name, x.f) :: setA (viewX l) s x'.f)
        rw [if_pos e, hx', e]
    · rw [if_neg e] at h
      obtain ⟨k, y, h3, h4, h5, h6, h7⟩ := posX_some h
      refine ⟨k + 1, y, ?_, by simpa using h4, h5, h6, fun x' hx' => ?_⟩
      · rw [List.findIdx?_cons, if_neg (by simpa using fun e2 => e (nm_eq e2)), h3]
        rfl
      · show (x.name, x.f) :: viewX (l.set k x') = (if x.name = s then (x.name, x'.f) :: viewX l else (x.name, x.f) :: setA (viewX l) s x'.f)
        rw [if_neg e, h7 x' hx']
theorem posX_neg {l : List Rx} {s : ByteArray} (h : getA (viewX l) s = none) : posX l s = -1 := by
  unfold posX
  rw [posX_none h]
theorem posX_pos {l : List Rx} {s : ByteArray} {k : Nat} (h : l.findIdx? (fun x => x.name.toList == s.toList) = some k) : posX l s = k := by
  unfold posX
  rw [h]
theorem viewX_filter (l : List Rx) (s : ByteArray) : viewX (l.filter fun x => !(x.name.toList == s.toList)) = dropA (viewX l) s := by
  unfold viewX dropA
  rw [List.filter_map]
  congr 1
  refine List.filter_congr fun x _ => ?_
  show (!(x.name.toList == s.toList)) = !decide (x.name = s)
  congr 1
  rw [Bool.eq_iff_iff, beq_iff_eq, decide_eq_true_iff]
  exact ⟨nm_eq, fun e => e ▸ rfl⟩
/-- The document's disk in memory: T, its blocks; R, the files by name. -/
def RK (w : World) (B m : Nat) (T : Nat → Prop) (R : Fs) (rl : List Int) (n : Nat) : Prop := ∃ fv rv l, RD w B m T fv rv l rl n ∧ viewX l = R
/-- What a call of it leaves of the rest. -/
def RX (w w' : World) (B m : Nat) (T : Nat → Prop) (R : Fs) (rl : List Int) (n : Nat) : Prop := ∃ T', RK w' B m T' R rl n ∧ Only w w' T ∧ ∀ i, T' i → T i ∨ w.heap.size ≤ i
theorem RX.of {w w' : World} {B m n : Nat} {T T' S : Nat → Prop} {fv rv : Value} {l : List Rx} {R : Fs} {rl : List Int} (h : RD w' B m T' fv rv l rl n) (hR : viewX l = R) (ho : Only w w' S) (hS : ∀ i, i < w.heap.size → S i → T i) (hT : ∀ i, T' i → T i ∨ w.heap.size ≤ i) : RX w w' B m T R rl n :=
  ⟨T', ⟨fv, rv, l, h, hR⟩, ho.weak hS, hT⟩
theorem RX.same {w w' : World} {B m n : Nat} {T : Nat → Prop} {fv rv : Value} {l : List Rx} {rl : List Int} (h : RD w' B m T fv rv l rl n) (ho : Only w w' fun i => i = m) : RX w w' B m T (viewX l) rl n :=
  RX.of h rfl ho (fun _ _ e => e ▸ h.tm) (fun _ e => .inl e)
theorem TX_more {T : Nat → Prop} {a b c : Nat} (h : a ≤ b) : ∀ i, TX T b c i → T i ∨ a ≤ i := fun _ hi => hi.elim .inl fun e => .inr (Nat.le_trans h e.1)

set_option maxRecDepth 100000 in
set_option maxHeartbeats 4000000 in
theorem rpend_none (w : World) (B m n : Nat) (T : Nat → Prop) (fv rv : Value) (l : List Rx) (rl : List Int) (h : RD w B m T fv rv l rl n) (hl : l.length ≤ 1000) (s : ByteArray) (hg : getA (viewX l) s = none) :
    Calls Try.prog 65 #[.pointer (some ⟨m, 0, none⟩), .string s] w fun e w' => e = .returned (.int .i64 0) ∧ w = w' := by
  have hp := posX_neg hg
  clear hg
  go_enter Try.func65, Try.ntmps65
  go_wp2_with (first
    | (go_at_call 78; refine (rat_calls w B m _ T _ _ l rl h (by omega) s).mono ?_; rintro e wa ⟨rfl, rfl⟩; rw [hp])
    | fail)
  go_ret
  exact ⟨rfl, rfl⟩

set_option maxRecDepth 100000 in
set_option maxHeartbeats 4000000 in
theorem rpend_there (w : World) (B m n : Nat) (T : Nat → Prop) (fv rv : Value) (l : List Rx) (rl : List Int) (h : RD w B m T fv rv l rl n) (hl : l.length ≤ 1000) (s : ByteArray) (f : Dfile) (hg : getA (viewX l) s = some f) :
    Calls Try.prog 65 #[.pointer (some ⟨m, 0, none⟩), .string s] w fun e w' => e = .returned (.int .i64 f.ops.length) ∧ w = w' := by
  obtain ⟨k, x, hk, hx, hxn, hxf, -⟩ := posX_some hg
  have hp := posX_pos hk
  clear hg hk
  obtain ⟨fa, fc, hfv⟩ := slice_of_row h.row
  subst hfv
  obtain ⟨g, hg0, hrg⟩ := own_atX h.row hx
  subst hg0
  have hxa := h.each x (List.mem_of_getElem? hx)
  have c0 := h.box.cell 0
  have i2 : 0 ≤ (k : Int) ∧ (k : Int) < (l.length : Int) := by have := (List.getElem?_eq_some_iff.1 hx).1; omega
  have i4 : ¬ (k : Int) < 0 := by omega
  have hcnt : x.ops.length = f.ops.length := by rw [← hxf, ← hxa.ops]; simp
  obtain ⟨oa, oc, hov⟩ := slice_of_row hxa.row
  have c2 := hrg 2 _ rfl
  rw [hov, hcnt] at c2
  clear hx hrg hxa hov hcnt hxf hxn
  go_enter Try.func65, Try.ntmps65
  go_wp2_with (first
    | (go_at_call 78; refine (rat_calls w B m _ T _ _ l rl h (by omega) s).mono ?_; rintro e wa ⟨rfl, rfl⟩; rw [hp])
    | fail)
  go_ret
  exact ⟨rfl, rfl⟩

set_option maxRecDepth 100000 in
set_option maxHeartbeats 4000000 in
theorem rread_none (w : World) (B m n : Nat) (T : Nat → Prop) (fv rv : Value) (l : List Rx) (rl : List Int) (h : RD w B m T fv rv l rl n) (hl : l.length ≤ 1000) (s : ByteArray) (hg : getA (viewX l) s = none) :
    Calls Try.prog 60 #[.pointer (some ⟨m, 0, none⟩), .string s] w fun e w' => e = .returned (.tuple #[.slice none 0 0, .int .i64 6]) ∧ w = w' := by
  have hp := posX_neg hg
  clear hg
  go_enter Try.func60, Try.ntmps60
  go_wp2_with (first
    | (go_at_call 78; refine (rat_calls w B m _ T _ _ l rl h (by omega) s).mono ?_; rintro e wa ⟨rfl, rfl⟩; rw [hp])
    | fail)
  go_ret2
  exact ⟨rfl, rfl⟩

set_option maxRecDepth 100000 in
set_option maxHeartbeats 4000000 in
theorem rread_there (w : World) (B m n : Nat) (T : Nat → Prop) (fv rv : Value) (l : List Rx) (rl : List Int) (h : RD w B m T fv rv l rl n) (hl : l.length ≤ 1000) (s : ByteArray) (f : Dfile) (hg : getA (viewX l) s = some f) (hol : f.ops.length ≤ 100000) :
    Calls Try.prog 60 #[.pointer (some ⟨m, 0, none⟩), .string s] w fun e w' => ∃ u, e = .returned (.tuple #[u, .int .i64 0]) ∧ Own w' w.heap.size u f.content ∧ Below w.heap.size w w' := by
  obtain ⟨k, x, hk, hx, hxn, hxf, -⟩ := posX_some hg
  have hp := posX_pos hk
  clear hg hk
  obtain ⟨fa, fc, hfv⟩ := slice_of_row h.row
  subst hfv
  obtain ⟨g, hg0, hrg⟩ := own_atX h.row hx
  subst hg0
  have hxa := h.each x (List.mem_of_getElem? hx)
  have c0 := h.box.cell 0
  have i2 : 0 ≤ (k : Int) ∧ (k : Int) < (l.length : Int) := by have := (List.getElem?_eq_some_iff.1 hx).1; omega
  have i4 : ¬ (k : Int) < 0 := by omega
  have HC := Lib.hid (rcontent_calls w B T x hxa (by rw [hxf]; exact hol))
  rw [hxf] at HC
  clear hx hxa hxf hxn
  go_enter Try.func60, Try.ntmps60
  go_wp2_with (first
    | (go_at_call 79; refine HC.out.mono ?_; rintro e w2 ⟨u, rfl, ⟨ua, un, uc, rfl⟩, O2, b2⟩)
    | (go_at_call 78; refine (rat_calls w B m _ T _ _ l rl h (by omega) s).mono ?_; rintro e wa ⟨rfl, rfl⟩; rw [hp])
    | (refine wpList_load_X (by rfl) _ (by rfl) g (k * 4) (by rfl) x hrg ?_)
    | fail)
  go_ret2
  exact ⟨_, rfl, O2, b2⟩

set_option maxRecDepth 100000 in
set_option maxHeartbeats 4000000 in
theorem rrem_refused (w : World) (B m n : Nat) (T : Nat → Prop) (fv rv : Value) (l : List Rx) (rl : List Int) (h : RD w B m T fv rv l rl n) (hn : n ≤ 1000000) (hr : rl.length ≤ 100000) (hq : refB rl n = true) (s : ByteArray)  :
    Calls Try.prog 59 #[.pointer (some ⟨m, 0, none⟩), .string s] w fun e w' => e = .returned (.int .i64 13) ∧ RX w w' B m T (viewX l) rl (n + 1) := by
  have HN := Lib.hid (hq ▸ rop_calls w B m n T fv rv l rl h (by omega) hr)
  clear h
  go_enter Try.func59, Try.ntmps59
  go_wp2_with (first
    | (go_at_call 76; refine HN.out.mono ?_; rintro e wc ⟨rfl, h1, hO⟩)
    | fail)
  go_ret
  exact ⟨rfl, RX.same h1 hO⟩

set_option maxRecDepth 100000 in
set_option maxHeartbeats 4000000 in
theorem rrem_missing (w : World) (B m n : Nat) (T : Nat → Prop) (fv rv : Value) (l : List Rx) (rl : List Int) (h : RD w B m T fv rv l rl n) (hl : l.length ≤ 1000) (hn : n ≤ 1000000) (hr : rl.length ≤ 100000) (hq : refB rl n = false) (s : ByteArray)  (hg : getA (viewX l) s = none) :
    Calls Try.prog 59 #[.pointer (some ⟨m, 0, none⟩), .string s] w fun e w' => e = .returned (.int .i64 6) ∧ RX w w' B m T (viewX l) rl (n + 1) := by
  have HN := Lib.hid (hq ▸ rop_calls w B m n T fv rv l rl h (by omega) hr)
  have hp := posX_neg hg
  clear h hg
  go_enter Try.func59, Try.ntmps59
  go_wp2_with (first
    | (go_at_call 78; refine (rat_calls wc B m _ T _ _ l rl h1 (by omega) s).mono ?_; rintro e wa ⟨rfl, rfl⟩; rw [hp])
    | (go_at_call 76; refine HN.out.mono ?_; rintro e wc ⟨rfl, h1, hO⟩)
    | fail)
  go_ret
  exact ⟨rfl, RX.same h1 hO⟩

set_option maxRecDepth 100000 in
set_option maxHeartbeats 4000000 in
theorem rrem_there (w : World) (B m n : Nat) (T : Nat → Prop) (fv rv : Value) (l : List Rx) (rl : List Int) (h : RD w B m T fv rv l rl n) (hl : l.length ≤ 1000) (hn : n ≤ 1000000) (hr : rl.length ≤ 100000) (hq : refB rl n = false) (s : ByteArray) (f : Dfile) (hg : getA (viewX l) s = some f) :
    Calls Try.prog 59 #[.pointer (some ⟨m, 0, none⟩), .string s] w fun e w' => e = .returned (.int .i64 0) ∧ RX w w' B m T (dropA (viewX l) s) rl (n + 1) := by
  have HN := Lib.hid (hq ▸ rop_calls w B m n T fv rv l rl h (by omega) hr)
  obtain ⟨k, x, hk, hx, hxn, hxf, -⟩ := posX_some hg
  have hp := posX_pos hk
  have i2 : ¬ (k : Int) < 0 := by omega
  clear hg hk h hx hxn hxf
  go_enter Try.func59, Try.ntmps59
  go_wp2_with (first
    | (go_at_call 82; refine (rgone_calls wc B m _ T _ _ l rl h1 (by omega) s).mono ?_; rintro e wg ⟨rfl, fv', hi, h2, hhi, hO2⟩)
    | (go_at_call 78; refine (rat_calls wc B m _ T _ _ l rl h1 (by omega) s).mono ?_; rintro e wa ⟨rfl, rfl⟩; rw [hp])
    | (go_at_call 76; refine HN.out.mono ?_; rintro e wc ⟨rfl, h1, hO⟩)
    | fail)
  go_ret
  exact ⟨rfl, RX.of h2 (viewX_filter l s) (hO.trans hO2) (fun i _ e => e.elim (fun e => e ▸ h1.tm) (fun e => e ▸ h1.tm)) (TX_more hO.size)⟩

set_option maxRecDepth 100000 in
set_option maxHeartbeats 4000000 in
theorem rcut_refused (w : World) (B m n : Nat) (T : Nat → Prop) (fv rv : Value) (l : List Rx) (rl : List Int) (h : RD w B m T fv rv l rl n) (hn : n ≤ 1000000) (hr : rl.length ≤ 100000) (hq : refB rl n = true) (s : ByteArray) (z : Int) :
    Calls Try.prog 55 #[.pointer (some ⟨m, 0, none⟩), .string s, .int .i64 z] w fun e w' => e = .returned (.int .i64 13) ∧ RX w w' B m T (viewX l) rl (n + 1) := by
  have HN := Lib.hid (hq ▸ rop_calls w B m n T fv rv l rl h (by omega) hr)
  clear h
  go_enter Try.func55, Try.ntmps55
  go_wp2_with (first
    | (go_at_call 76; refine HN.out.mono ?_; rintro e wc ⟨rfl, h1, hO⟩)
    | fail)
  go_ret
  exact ⟨rfl, RX.same h1 hO⟩

set_option maxRecDepth 100000 in
set_option maxHeartbeats 4000000 in
theorem rcut_missing (w : World) (B m n : Nat) (T : Nat → Prop) (fv rv : Value) (l : List Rx) (rl : List Int) (h : RD w B m T fv rv l rl n) (hl : l.length ≤ 1000) (hn : n ≤ 1000000) (hr : rl.length ≤ 100000) (hq : refB rl n = false) (s : ByteArray) (z : Int) (hg : getA (viewX l) s = none) :
    Calls Try.prog 55 #[.pointer (some ⟨m, 0, none⟩), .string s, .int .i64 z] w fun e w' => e = .returned (.int .i64 6) ∧ RX w w' B m T (viewX l) rl (n + 1) := by
  have HN := Lib.hid (hq ▸ rop_calls w B m n T fv rv l rl h (by omega) hr)
  have hp := posX_neg hg
  clear h hg
  go_enter Try.func55, Try.ntmps55
  go_wp2_with (first
    | (go_at_call 78; refine (rat_calls wc B m _ T _ _ l rl h1 (by omega) s).mono ?_; rintro e wa ⟨rfl, rfl⟩; rw [hp])
    | (go_at_call 76; refine HN.out.mono ?_; rintro e wc ⟨rfl, h1, hO⟩)
    | fail)
  go_ret
  exact ⟨rfl, RX.same h1 hO⟩

set_option maxRecDepth 100000 in
set_option maxHeartbeats 4000000 in
theorem rcut_neg (w : World) (B m n : Nat) (T : Nat → Prop) (fv rv : Value) (l : List Rx) (rl : List Int) (h : RD w B m T fv rv l rl n) (hl : l.length ≤ 1000) (hn : n ≤ 1000000) (hr : rl.length ≤ 100000) (hq : refB rl n = false) (s : ByteArray) (z : Int) (f : Dfile) (hg : getA (viewX l) s = some f) (hz : z < 0) :
    Calls Try.prog 55 #[.pointer (some ⟨m, 0, none⟩), .string s, .int .i64 z] w fun e w' => e = .returned (.int .i64 2) ∧ RX w w' B m T (viewX l) rl (n + 1) := by
  have HN := Lib.hid (hq ▸ rop_calls w B m n T fv rv l rl h (by omega) hr)
  obtain ⟨k, x, hk, hx, hxn, hxf, hset⟩ := posX_some hg
  have hp := posX_pos hk
  have i3 : ¬ (k : Int) < 0 := by omega
  clear hg hk h
  go_enter Try.func55, Try.ntmps55
  go_upto_region 6 with (first
    | (go_at_call 78; refine (rat_calls wc B m _ T _ _ l rl h1 (by omega) s).mono ?_; rintro e wa ⟨rfl, rfl⟩; rw [hp])
    | (go_at_call 76; refine HN.out.mono ?_; rintro e wc ⟨rfl, h1, hO⟩)
    | fail)
  go_wp2
  go_ret
  exact ⟨rfl, RX.same h1 hO⟩

set_option maxRecDepth 100000 in
set_option maxHeartbeats 4000000 in
theorem rcut_far (w : World) (B m n : Nat) (T : Nat → Prop) (fv rv : Value) (l : List Rx) (rl : List Int) (h : RD w B m T fv rv l rl n) (hl : l.length ≤ 1000) (hn : n ≤ 1000000) (hr : rl.length ≤ 100000) (hq : refB rl n = false) (s : ByteArray) (z : Int) (f : Dfile) (hg : getA (viewX l) s = some f) (hol : f.ops.length ≤ 100000) (hz : ¬ z < 0) (hz2 : (f.content.length : Int) < z) :
    Calls Try.prog 55 #[.pointer (some ⟨m, 0, none⟩), .string s, .int .i64 z] w fun e w' => e = .returned (.int .i64 2) ∧ RX w w' B m T (viewX l) rl (n + 1) := by
  have HN := Lib.hid (hq ▸ rop_calls w B m n T fv rv l rl h (by omega) hr)
  obtain ⟨k, x, hk, hx, hxn, hxf, hset⟩ := posX_some hg
  have hp := posX_pos hk
  have i3 : ¬ (k : Int) < 0 := by omega
  clear hg hk h
  go_enter Try.func55, Try.ntmps55
  go_upto_region 6 with (first
    | (go_at_call 78; refine (rat_calls wc B m _ T _ _ l rl h1 (by omega) s).mono ?_; rintro e wa ⟨rfl, rfl⟩; rw [hp])
    | (go_at_call 76; refine HN.out.mono ?_; rintro e wc ⟨rfl, h1, hO⟩)
    | fail)
  obtain ⟨fa, fc, hfv⟩ := slice_of_row h1.row
  subst hfv
  obtain ⟨g, hg0, hrg⟩ := own_atX h1.row hx
  subst hg0
  have hxa := h1.each x (List.mem_of_getElem? hx)
  have c0 := h1.box.cell 0
  have i2 : 0 ≤ (k : Int) ∧ (k : Int) < (l.length : Int) := by have := (List.getElem?_eq_some_iff.1 hx).1; omega
  have i4 : ¬ (k : Int) < 0 := by omega
  have d0 := hrg 0 _ rfl
  have d1 := hrg 1 _ rfl
  have d2 := hrg 2 _ rfl
  have d3 := hrg 3 _ rfl
  simp only [Nat.add_zero] at d0
  have HC := Lib.hid (rcontent_calls wc B T x hxa (by rw [hxf]; exact hol))
  rw [hxf] at HC
  clear hset hxa hxf hxn
  go_wp2_with (first
    | (go_at_call 79; refine HC.out.mono ?_; rintro e w2 ⟨u, rfl, _, O2, b2⟩; obtain ⟨ua, uc, rfl⟩ := slice_of_row O2)
    | fail)
  go_ret
  exact ⟨rfl, RX.same (h1.low b2) ((hO.trans (Only.of_below b2 (fun _ => False))).weak fun _ _ e => e.elim id False.elim)⟩

set_option maxRecDepth 100000 in
set_option maxHeartbeats 4000000 in
theorem rcut_there (w : World) (B m n : Nat) (T : Nat → Prop) (fv rv : Value) (l : List Rx) (rl : List Int) (h : RD w B m T fv rv l rl n) (hl : l.length ≤ 1000) (hn : n ≤ 1000000) (hr : rl.length ≤ 100000) (hq : refB rl n = false) (s : ByteArray) (c : Nat) (f : Dfile) (hg : getA (viewX l) s = some f) (hol : f.ops.length ≤ 90000) (hz2 : c ≤ f.content.length) :
    Calls Try.prog 55 #[.pointer (some ⟨m, 0, none⟩), .string s, .int .i64 c] w fun e w' => e = .returned (.int .i64 0) ∧ RX w w' B m T (setA (viewX l) s ⟨f.safe, f.ops ++ [.cut c], f.fresh⟩) rl (n + 1) := by
  have HN := Lib.hid (hq ▸ rop_calls w B m n T fv rv l rl h (by omega) hr)
  obtain ⟨k, x, hk, hx, hxn, hxf, hset⟩ := posX_some hg
  have hp := posX_pos hk
  have i3 : ¬ (k : Int) < 0 := by omega
  clear hg hk h
  go_enter Try.func55, Try.ntmps55
  go_upto_region 6 with (first
    | (go_at_call 78; refine (rat_calls wc B m _ T _ _ l rl h1 (by omega) s).mono ?_; rintro e wa ⟨rfl, rfl⟩; rw [hp])
    | (go_at_call 76; refine HN.out.mono ?_; rintro e wc ⟨rfl, h1, hO⟩)
    | fail)
  obtain ⟨fa, fc, hfv⟩ := slice_of_row h1.row
  subst hfv
  obtain ⟨g, hg0, hrg⟩ := own_atX h1.row hx
  subst hg0
  have hxa := h1.each x (List.mem_of_getElem? hx)
  have c0 := h1.box.cell 0
  have i2 : 0 ≤ (k : Int) ∧ (k : Int) < (l.length : Int) := by have := (List.getElem?_eq_some_iff.1 hx).1; omega
  have i4 : ¬ (k : Int) < 0 := by omega
  have d0 := hrg 0 _ rfl
  have d1 := hrg 1 _ rfl
  have d2 := hrg 2 _ rfl
  have d3 := hrg 3 _ rfl
  simp only [Nat.add_zero] at d0
  have hol2 : x.ops.length ≤ 90000 := by
    have : x.ops.length = f.ops.length := by rw [← hxf, ← hxa.ops]; simp
    omega
  have hok : okOps x.f.safe (x.f.ops ++ [.cut c]) := okOps_add _ _ _ hxa.okf.2 (fun q e => by cases e; rw [hxf]; exact hz2) (by
    have := okOps_len _ _ hxa.okf.1 hxa.okf.2
    show ((runOps x.f.safe x.f.ops).take c).length ≤ 1048576
    rw [List.length_take]
    omega)
  have HC := Lib.hid (rcontent_calls wc B T x hxa (by rw [hxf]; omega))
  rw [hxf] at HC
  have HX := Lib.hid (And.intro hx (And.intro hxn (And.intro hxf (And.intro hset hok))))
  have j1 : ¬ (c : Int) < 0 := by omega
  have j2 : ¬ (f.content.length : Int) < (c : Int) := by omega
  clear hset hxa hxf hxn hx hok
  go_wp2_with (first
    | (go_at_call 81; refine (runder_calls w2 B m _ T _ rv l rl (h1.low b2) k x HX.out.1 (.cut c, .slice none 0 0) rfl (fun _ e => by cases e) hol2 HX.out.2.2.2.2).mono ?_; rintro e wu ⟨rfl, v', hi, h3, hhi, hO3⟩)
    | (go_at_call 79; refine HC.out.mono ?_; rintro e w2 ⟨u, rfl, _, O2, b2⟩; obtain ⟨ua, uc, rfl⟩ := slice_of_row O2)
    | fail)
  go_ret
  refine ⟨rfl, RX.of h3 ?_ ((hO.trans (Only.of_below b2 (fun _ => False))).trans hO3) (fun i _ e => ?_) (TX_more (Nat.le_trans hO.size b2.size))⟩
  · refine (HX.out.2.2.2.1 ⟨x.name, x.sv, v', x.ops ++ [(.cut c, .slice none 0 0)], ⟨x.f.safe, x.f.ops ++ [.cut c], x.f.fresh⟩⟩ HX.out.2.1).trans ?_
    rw [← HX.out.2.2.1]
  · rcases e with (e | e) | e | e
    · exact e ▸ h1.tm
    · exact e.elim
    · exact e ▸ h1.tm
    · exact h1.tf _ e

end Go.Proofs.Ytmmlpbepaefamaa
