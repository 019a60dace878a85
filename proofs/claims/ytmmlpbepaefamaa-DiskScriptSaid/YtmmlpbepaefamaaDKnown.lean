/- DiskKnown's walk. -/
import Derived.Test.YtmmlpbepaefamaaJKitX2
import Derived.Test.YtmmlpbepaefamaaTxtX3
namespace Go.Proofs.Ytmmlpbepaefamaa
open Go.RowKit Go.Maps Go.Sort Go.Shelf

theorem lit_bytes (w : World) (l : List (BitVec 8)) (cs : Array Value) (hc : (l.map vu8).toArray = cs) (hl : l.length ≤ 1000) : SliceIs (w.alloc (.cells cs 5)) (.slice (some ⟨w.heap.size, 0, none⟩) l.length l.length) l := by
  have h := World.ownsRow_lit (base := w.heap.size) (size := 1) (e := 5) w (l.map vu8).toArray l.length (Nat.le_refl _) (by simp only [maxLen]; omega) (by simp)
  have h2 : Own (w.alloc (.cells (l.map vu8).toArray 5)) w.heap.size (.slice (some ⟨w.heap.size, 0, none⟩) l.length l.length) l := h
  exact hc ▸ h2.slice
theorem same_true (w : World) (s t : Value) (l : List (BitVec 8)) (hs : SliceIs w s l) (ht : SliceIs w t l) : Calls Try.prog 24 #[s, t] w fun e w' => e = .returned (.bool true) ∧ w = w' := by
  refine (same_calls w s t l l hs ht).mono ?_
  rintro e w' ⟨rfl, rfl⟩
  simp
/-- Append of bytes that are written out. -/
theorem app_lit {W w : World} {d n : Nat} {S : Nat → Prop} {A : Fs} {ks : List Int} (h : KD W w d S A ks n) (hA : okA A) (hn : n ≤ 1000000) (s : ByteArray) (hs : s.size ≤ 9223372036854775806) (l : List (BitVec 8)) (cs : Array Value) (hc : (l.map vu8).toArray = cs) (hl : l.length ≤ 1000) {e : Int} {A' : Fs} (hr : appR A (refB ks n) s l = (e, A')) :
    Calls Try.prog 17 #[.pointer (some ⟨d, 0, none⟩), .string s, .slice (some ⟨w.heap.size, 0, none⟩) l.length l.length] (w.alloc (.cells cs 5)) fun e' w' => e' = .returned (.int .i64 e) ∧ ∃ S', KD W w' d S' A' ks (n + 1) ∧ Only w w' S ∧ ∀ i, i < w.heap.size → S' i → S i := by
  have b1 : Below w.heap.size w (w.alloc (.cells cs 5)) := (Below.refl _ _).alloc (Nat.le_refl _) _
  refine (kd_append_at (h.low b1) hA hn s hs _ l (lit_bytes w l cs hc hl) (fun _ g o c e hS => ?_) (by omega) hr).mono ?_
  · injection e with e
    injection e with e
    injection e with e
    have := (h.old hS).1
    omega
  · rintro e' w' ⟨rfl, S', h', ho, hs'⟩
    exact ⟨rfl, S', h', ((Only.of_below b1 S).trans ho).weak fun i _ e => e.elim id id, fun i hi => hs' i (Nat.lt_of_lt_of_le hi b1.size)⟩
/-- Crash that keeps some of one file. -/
theorem crash_lit {W w : World} {d n : Nat} {S : Nat → Prop} {A A' : Fs} {ks : List Int} (h : KD W w d S A ks n) (hA : okA A) (x : Kp) (hr : crashF [x] A = A') :
    Calls Try.prog 14 #[.pointer (some ⟨d, 0, none⟩), .slice (some ⟨w.heap.size, 0, none⟩) 1 1] (w.alloc (.cells (Kp.cells x).toArray 38)) fun e' w' => e' = .returned (.int .i64 0) ∧ ∃ S', KD W w' d S' A' ks n ∧ Only w w' S ∧ ∀ i, i < w.heap.size → S' i → S i := by
  have b1 : Below w.heap.size w (w.alloc (.cells (Kp.cells x).toArray 38)) := (Below.refl _ _).alloc (Nat.le_refl _) _
  refine (kd_crash_at (h.low b1) hA _ [x] (by simp) (fun w' ho => KeepsAt.one x ho (fun e => by have := (h.old e).1; omega)) hr).mono ?_
  rintro e' w' ⟨rfl, S', h', ho, hs'⟩
  exact ⟨rfl, S', h', ((Only.of_below b1 S).trans ho).weak fun i _ e => e.elim id id, fun i hi => hs' i (Nat.lt_of_lt_of_le hi b1.size)⟩
theorem crash_nil {W w : World} {d n : Nat} {S : Nat → Prop} {A A' : Fs} {ks : List Int} (h : KD W w d S A ks n) (hA : okA A) (hr : crashF [] A = A') :
    Calls Try.prog 14 #[.pointer (some ⟨d, 0, none⟩), .slice none 0 0] w fun e' w' => e' = .returned (.int .i64 0) ∧ ∃ S', KD W w' d S' A' ks n ∧ Only w w' S ∧ ∀ i, i < w.heap.size → S' i → S i :=
  kd_crash_at h hA _ [] (by simp) (fun w' _ => .inl ⟨rfl, none, 0, rfl⟩) hr

def K1 : Fs := [(⟨#[97]⟩, ⟨[], [.add [1#8, 2#8]], true⟩)]
def K2 : Fs := [(⟨#[97]⟩, ⟨[1#8, 2#8], [], false⟩)]
def K3 : Fs := [(⟨#[97]⟩, ⟨[1#8, 2#8], [.add [3#8]], false⟩)]
def K4 : Fs := [(⟨#[97]⟩, ⟨[1#8, 2#8], [.add [3#8], .add [4#8, 5#8]], false⟩)]
def K6 : Fs := [(⟨#[97]⟩, ⟨[1#8, 2#8, 3#8, 4#8], [], false⟩)]
def K11 : Fs := [(⟨#[97]⟩, ⟨[1#8, 2#8, 3#8, 4#8], [.cut 1], false⟩)]
def K12 : Fs := [(⟨#[97]⟩, ⟨[1#8], [], false⟩)]
def K13 : Fs := [(⟨#[99]⟩, ⟨[1#8], [], false⟩)]
def K21 : Fs := [(⟨#[97]⟩, ⟨[], [.add [1#8]], true⟩)]
def K23 : Fs := [(⟨#[97]⟩, ⟨[], [.add [1#8], .add [3#8]], true⟩)]
def K8 : Fs := [(⟨#[97]⟩, ⟨[1#8, 2#8, 3#8, 4#8], [], false⟩), (⟨#[98]⟩, ⟨[], [.add [7#8]], true⟩)]
theorem r1 : appR [] false ⟨#[97]⟩ [1#8, 2#8] = (0, K1) := by kernel_rfl
theorem r2 : syncR K1 false ⟨#[97]⟩ = (0, K2) := by kernel_rfl
theorem r3 : appR K2 false ⟨#[97]⟩ [3#8] = (0, K3) := by kernel_rfl
theorem r4 : appR K3 false ⟨#[97]⟩ [4#8, 5#8] = (0, K4) := by kernel_rfl
theorem r6 : crashF [⟨⟨#[97]⟩, 1, 1⟩] K4 = K6 := by kernel_rfl
theorem r8 : appR K6 false ⟨#[98]⟩ [7#8] = (0, K8) := by kernel_rfl
theorem r9 : crashF [] K8 = K6 := by kernel_rfl
theorem r10 : cutR K6 false ⟨#[97]⟩ 9 = (2, K6) := by kernel_rfl
theorem r11 : cutR K6 false ⟨#[97]⟩ 1 = (0, K11) := by kernel_rfl
theorem r11b : renR K11 false ⟨#[97]⟩ ⟨#[99]⟩ = (10, K11) := by kernel_rfl
theorem r12 : syncR K11 false ⟨#[97]⟩ = (0, K12) := by kernel_rfl
theorem r13 : renR K12 false ⟨#[97]⟩ ⟨#[99]⟩ = (0, K13) := by kernel_rfl
theorem r21 : appR [] false ⟨#[97]⟩ [1#8] = (0, K21) := by kernel_rfl
theorem r22 : appR K21 true ⟨#[97]⟩ [2#8] = (13, K21) := by kernel_rfl
theorem r23 : appR K21 false ⟨#[97]⟩ [3#8] = (0, K23) := by kernel_rfl
theorem r24 : appR K23 false ⟨#[65]⟩ [] = (2, K23) := by kernel_rfl
theorem nums_one (w : World) (z : Int) : NumsAt (w.alloc (.cells #[.int .i64 z] 3)) (.slice (some ⟨w.heap.size, 0, none⟩) 1 1) [z] := by
  have hW := Whole.new w 3 #[.int .i64 z]
  refine .inr ⟨w.heap.size, 0, 1, rfl, hW.lt, fun j y hy => ?_⟩
  have h1 : j < 1 := (List.getElem?_eq_some_iff.1 hy).1
  obtain rfl : j = 0 := by omega
  obtain rfl : z = y := by simpa using hy
  exact hW.cell 0
theorem names6 : namesA K6 = [[97]] := by
  unfold namesA K6
  simp
theorem long25 (l : List (BitVec 8)) (h : l.length = 1048577) : appR K23 false ⟨#[98]⟩ l = (3, K23) := by
  unfold appR
  rw [if_neg (by decide), show nameN ⟨#[98]⟩ = true by kernel_rfl, if_neg (by decide), show getA K23 ⟨#[98]⟩ = none by kernel_rfl]
  simp only []
  rw [if_neg (by decide), if_pos (by omega)]
theorem make_zeros2 (w : World) (n : Nat) (hn : n ≤ 2000000) : ∃ w', (Instr.makeSlice 34 (.int .i64 (n : Int)) (.int .i64 (n : Int))).run Try.prog w = .ok (.slice (some ⟨w.heap.size, 0, none⟩) n n) w' ∧ SliceIs w' (.slice (some ⟨w.heap.size, 0, none⟩) n n) (List.replicate n 0#8) ∧ Below w.heap.size w w' := by
  obtain ⟨i0, hi, hz0, hz1, hz2⟩ := info_u8
  obtain ⟨w', h1, h2, h3⟩ := run_makeSlice_full (P := Try.prog) w w.heap.size 34 5 i0 (.int .u8 0) 1 Try.underlying34 hi hz0 hz1 .i64 .i64 n (by omega) (by rw [hz2]; omega) (by simp only [maxLen]; omega) (Nat.le_refl _)
  have e : (madeCells (Value.int .u8 0).cells (n * 1)).toList = (List.replicate n 0#8).map vu8 := by
    rw [Nat.mul_one, List.map_replicate]
    exact toList_madeCells_one _ _
  rw [e] at h2
  have hO : Own w' w.heap.size (.slice (some ⟨w.heap.size, 0, none⟩) n n) (List.replicate n 0#8) := by
    unfold Own
    rw [List.length_replicate]
    exact h2
  exact ⟨w', h1, hO.slice, grown_below h3⟩
theorem lit_12 : (([1#8, 2#8] : List (BitVec 8)).map vu8).toArray = #[.int .u8 1, .int .u8 2] := by kernel_rfl
theorem lit_3 : (([3#8] : List (BitVec 8)).map vu8).toArray = #[.int .u8 3] := by kernel_rfl
theorem lit_45 : (([4#8, 5#8] : List (BitVec 8)).map vu8).toArray = #[.int .u8 4, .int .u8 5] := by kernel_rfl
theorem lit_7 : (([7#8] : List (BitVec 8)).map vu8).toArray = #[.int .u8 7] := by kernel_rfl
theorem lit_12345 : (([1#8, 2#8, 3#8, 4#8, 5#8] : List (BitVec 8)).map vu8).toArray = #[.int .u8 1, .int .u8 2, .int .u8 3, .int .u8 4, .int .u8 5] := by kernel_rfl
theorem lit_1234 : (([1#8, 2#8, 3#8, 4#8] : List (BitVec 8)).map vu8).toArray = #[.int .u8 1, .int .u8 2, .int .u8 3, .int .u8 4] := by kernel_rfl
theorem lit_1 : (([1#8] : List (BitVec 8)).map vu8).toArray = #[.int .u8 1] := by kernel_rfl
theorem lit_2 : (([2#8] : List (BitVec 8)).map vu8).toArray = #[.int .u8 2] := by kernel_rfl
theorem lit_13 : (([1#8, 3#8] : List (BitVec 8)).map vu8).toArray = #[.int .u8 1, .int .u8 3] := by kernel_rfl

set_option maxRecDepth 100000 in
set_option maxHeartbeats 8000000 in
theorem diskKnown_walk (W : World) : Calls Try.prog 4 #[] W fun e w' => e = .returned (.bool true) ∧ Below W.heap.size W w' := by
  go_enter Try.func4, Try.ntmps4
  go_upto_region 4 with (first
    | (go_at_call 9; refine (kd_new W _ [] (.inl ⟨_, _, rfl, rfl⟩) (by simp)).mono ?_; rintro e w0 ⟨d, S0, ks, rfl, h0, hks⟩)
    | fail)
  have hq : ∀ n, refB ks n = false := fun n => decide_eq_false fun e => by have := (hks _).1 e; cases this
  have Q := Lib.hid hq
  clear hq hks
  go_upto_region 6 with (first
    | (go_at_call 19; refine (kd_pending_at h4 ⟨#[97]⟩ 2 (by kernel_rfl)).mono ?_; rintro e w4b ⟨rfl, hw⟩; subst hw)
    | (go_at_call 17; refine (app_lit h3 (of_decide_eq_true (by kernel_rfl : decide (okA K3) = true)) (by decide) ⟨#[97]⟩ (by decide) [4#8, 5#8] #[.int .u8 4, .int .u8 5] lit_45 (by decide) ((congrArg (fun q => appR _ q _ _) (Q.out _)).trans r4)).mono ?_; rintro e w4 ⟨rfl, S4, h4, o4, s4⟩)
    | (go_at_call 17; refine (app_lit h2 (of_decide_eq_true (by kernel_rfl : decide (okA K2) = true)) (by decide) ⟨#[97]⟩ (by decide) [3#8] #[.int .u8 3] lit_3 (by decide) ((congrArg (fun q => appR _ q _ _) (Q.out _)).trans r3)).mono ?_; rintro e w3 ⟨rfl, S3, h3, o3, s3⟩)
    | (go_at_call 18; refine (kd_sync_at h1 (of_decide_eq_true (by kernel_rfl : decide (okA K1) = true)) (by decide) ⟨#[97]⟩ ((congrArg (fun q => syncR _ q _) (Q.out _)).trans r2)).mono ?_; rintro e w2 ⟨rfl, S2, h2, o2, s2⟩)
    | (go_at_call 17; refine (app_lit h0 (by decide) (by decide) ⟨#[97]⟩ (by decide) [1#8, 2#8] #[.int .u8 1, .int .u8 2] lit_12 (by decide) ((congrArg (fun q => appR _ q _ _) (Q.out _)).trans r1)).mono ?_; rintro e w1 ⟨rfl, S1, h1, o1, s1⟩)
    | fail)
  clear h0 h1 h2 h3 o1 o2 o3 o4 s1 s2 s3 s4
  go_upto_region 7 with (first
    | (go_at_call 20; refine (kd_read_at h4 (of_decide_eq_true (by kernel_rfl : decide (okA K4) = true)) ⟨#[97]⟩ _ (by rfl)).mono ?_; rintro e w5 ⟨_, rfl, ⟨ba, bc, rfl⟩, O5, b5⟩; have F5 := Free.new O5 (fun i hi => (h4.old hi).1); replace h4 := h4.low b5)
    | fail)
  replace F5 : Free w5 S4 (.slice ba 5 bc) [1#8, 2#8, 3#8, 4#8, 5#8] := F5
  clear O5 b5
  go_upto_region 8 with (first
    | (go_at_call 14; refine (crash_lit h4 (of_decide_eq_true (by kernel_rfl : decide (okA K4) = true)) ⟨⟨#[97]⟩, 1, 1⟩ r6).mono ?_; rintro e w6 ⟨rfl, S6, h6, o6, s6⟩)
    | (refine wpList_slice_one (by rfl) 39 38 _ (by rfl) (Kp.cells ⟨⟨#[97]⟩, 1, 1⟩).toArray (by rfl) Try.underlying39 zeroK (by decide) (by decide) (by rfl) ?_)
    | fail)
  replace F5 := F5.on o6 s6
  clear h4 o6 s6
  go_upto_region 9 with (first
    | (go_at_call 20; refine (kd_read_at h6 (of_decide_eq_true (by kernel_rfl : decide (okA K6) = true)) ⟨#[97]⟩ _ (by rfl)).mono ?_; rintro e w7 ⟨_, rfl, ⟨ca, cc, rfl⟩, O7, b7⟩; have F7 := Free.new O7 (fun i hi => (h6.old hi).1); replace h6 := h6.low b7; replace F5 := F5.low b7)
    | fail)
  replace F7 : Free w7 S6 (.slice ca 4 cc) [1#8, 2#8, 3#8, 4#8] := F7
  clear O7 b7
  go_upto_region 10 with (first
    | (go_at_call 17; refine (app_lit h6 (of_decide_eq_true (by kernel_rfl : decide (okA K6) = true)) (by decide) ⟨#[98]⟩ (by decide) [7#8] #[.int .u8 7] lit_7 (by decide) ((congrArg (fun q => appR _ q _ _) (Q.out _)).trans r8)).mono ?_; rintro e w8 ⟨rfl, S8, h8, o8, s8⟩)
    | fail)
  replace F5 := F5.on o8 s8
  replace F7 := F7.on o8 s8
  clear h6 o8 s8
  go_upto_region 11 with (first
    | (go_at_call 14; refine (crash_nil h8 (of_decide_eq_true (by kernel_rfl : decide (okA K8) = true)) r9).mono ?_; rintro e w9 ⟨rfl, S9, h9, o9, s9⟩)
    | fail)
  replace F5 := F5.on o9 s9
  replace F7 := F7.on o9 s9
  clear h8 o9 s9
  go_upto_region 12 with (first
    | (go_at_call 21; refine (kd_names W w9 d _ S9 K6 ks h9 (of_decide_eq_true (by kernel_rfl : decide (okA K6) = true))).mono ?_; rintro e w10 ⟨_, rfl, ⟨na, nc, rfl⟩, O10, b10⟩; rw [names6] at O10; have T10 := FreeT.new (ss := [[97]]) O10 (fun i hi => (h9.old hi).1); replace h9 := h9.low b10; replace F5 := F5.low b10; replace F7 := F7.low b10)
    | fail)
  replace T10 : FreeT w10 S9 (.slice na 1 nc) [[97]] := T10
  clear O10 b10
  go_upto_region 13 with (first
    | (go_at_call 23; refine (kd_rename_at h12 (by decide) ⟨#[97]⟩ ⟨#[99]⟩ (by decide) ((congrArg (fun q => renR _ q _ _) (Q.out _)).trans r11b)).mono ?_; rintro e w13 ⟨rfl, S13, h13, o13, s13⟩)
    | (go_at_call 22; refine (kd_cut_at h11 (of_decide_eq_true (by kernel_rfl : decide (okA K6) = true)) (by decide) ⟨#[97]⟩ 1 ((congrArg (fun q => cutR _ q _ _) (Q.out _)).trans r11)).mono ?_; rintro e w12 ⟨rfl, S12, h12, o12, s12⟩)
    | (go_at_call 22; refine (kd_cut_at h9 (of_decide_eq_true (by kernel_rfl : decide (okA K6) = true)) (by decide) ⟨#[97]⟩ 9 ((congrArg (fun q => cutR _ q _ _) (Q.out _)).trans r10)).mono ?_; rintro e w11 ⟨rfl, S11, h11, o11, s11⟩)
    | fail)
  replace F5 := F5.on o11 s11
  replace F7 := F7.on o11 s11
  replace T10 := T10.on o11 s11
  replace F5 := F5.on o12 s12
  replace F7 := F7.on o12 s12
  replace T10 := T10.on o12 s12
  replace F5 := F5.on o13 s13
  replace F7 := F7.on o13 s13
  replace T10 := T10.on o13 s13
  clear h9 h11 h12 o11 o12 o13 s11 s12 s13
  go_upto_region 14 with (first
    | (go_at_call 23; refine (kd_rename_at h14 (by decide) ⟨#[97]⟩ ⟨#[99]⟩ (by decide) ((congrArg (fun q => renR _ q _ _) (Q.out _)).trans r13)).mono ?_; rintro e w15 ⟨rfl, S15, h15, o15, s15⟩)
    | (go_at_call 18; refine (kd_sync_at h13 (of_decide_eq_true (by kernel_rfl : decide (okA K11) = true)) (by decide) ⟨#[97]⟩ ((congrArg (fun q => syncR _ q _) (Q.out _)).trans r12)).mono ?_; rintro e w14 ⟨rfl, S14, h14, o14, s14⟩)
    | fail)
  replace F5 := F5.on o14 s14
  replace F7 := F7.on o14 s14
  replace T10 := T10.on o14 s14
  replace F5 := F5.on o15 s15
  replace F7 := F7.on o15 s15
  replace T10 := T10.on o15 s15
  clear h13 h14 o14 o15 s14 s15
  go_upto_region 15 with (first
    | (go_at_call 20; refine (kd_read_at h15 (of_decide_eq_true (by kernel_rfl : decide (okA K13) = true)) ⟨#[99]⟩ _ (by rfl)).mono ?_; rintro e w16 ⟨_, rfl, ⟨xa, xc, rfl⟩, O16, b16⟩; have F16 := Free.new O16 (fun i hi => (h15.old hi).1); replace h15 := h15.low b16; replace F5 := F5.low b16; replace F7 := F7.low b16; replace T10 := T10.low b16)
    | fail)
  replace F16 : Free w16 S15 (.slice xa 1 xc) [1#8] := F16
  clear O16 b16
  go_upto_region 16 with (first
    | (go_at_call 20; refine (kd_read_none h15 ⟨#[97]⟩ (by kernel_rfl)).mono ?_; rintro e w17 ⟨rfl, hw⟩; subst hw)
    | fail)
  have H15 := h15
  clear h15
  go_upto_region 18 with (first
    | (have hm := T20; go_at_call 24; refine (same_true (w20.alloc (.cells #[.int .u8 1] 5)) _ _ [1#8] (F16.low ((Below.refl w20.heap.size w20).alloc (Nat.le_refl _) _)).slice (lit_bytes w20 [1#8] #[.int .u8 1] lit_1 (by decide))).mono ?_; rintro e w21 ⟨rfl, hww21⟩; have bw21 : Below w20.heap.size w20 w21 := hww21 ▸ (Below.refl w20.heap.size w20).alloc (Nat.le_refl _) _; replace H15 := H15.low bw21; clear bw21 hww21)
    | (go_at_call 25; refine (sametxt_calls (w19.alloc (.cells #[.string ⟨#[97]⟩] 9)) _ _ [⟨#[97]⟩] ((T10.low ((Below.refl w19.heap.size w19).alloc (Nat.le_refl _) _)).at) (TxtAt.one w19 ⟨#[97]⟩) (by decide)).mono ?_; rintro e w20 ⟨rfl, b20⟩; have B20 := ((Below.refl w19.heap.size w19).alloc (Nat.le_refl _) (.cells #[.string ⟨#[97]⟩] 9)).trans (b20.mono (by simp)); replace F16 := F16.low B20; replace H15 := H15.low B20; have T20 := True.intro; clear b20 B20)
    | (go_at_call 24; refine (same_true (w18.alloc (.cells #[.int .u8 1, .int .u8 2, .int .u8 3, .int .u8 4] 5)) _ _ [1#8, 2#8, 3#8, 4#8] (F7.low ((Below.refl w18.heap.size w18).alloc (Nat.le_refl _) _)).slice (lit_bytes w18 [1#8, 2#8, 3#8, 4#8] #[.int .u8 1, .int .u8 2, .int .u8 3, .int .u8 4] lit_1234 (by decide))).mono ?_; rintro e w19 ⟨rfl, hww19⟩; have bw19 : Below w18.heap.size w18 w19 := hww19 ▸ (Below.refl w18.heap.size w18).alloc (Nat.le_refl _) _; replace F16 := F16.low bw19; replace T10 := T10.low bw19; replace H15 := H15.low bw19; clear bw19 hww19)
    | (go_at_call 24; refine (same_true (w16.alloc (.cells #[.int .u8 1, .int .u8 2, .int .u8 3, .int .u8 4, .int .u8 5] 5)) _ _ [1#8, 2#8, 3#8, 4#8, 5#8] (F5.low ((Below.refl w16.heap.size w16).alloc (Nat.le_refl _) _)).slice (lit_bytes w16 [1#8, 2#8, 3#8, 4#8, 5#8] #[.int .u8 1, .int .u8 2, .int .u8 3, .int .u8 4, .int .u8 5] lit_12345 (by decide))).mono ?_; rintro e w18 ⟨rfl, hww18⟩; have bw18 : Below w16.heap.size w16 w18 := hww18 ▸ (Below.refl w16.heap.size w16).alloc (Nat.le_refl _) _; replace F7 := F7.low bw18; replace F16 := F16.low bw18; replace T10 := T10.low bw18; replace H15 := H15.low bw18; clear bw18 hww18)
    | fail)
  have B21 := H15.below
  clear H15 T20 Q
  go_upto_region 21 with (first
    | (go_at_call 9; refine (kd_new (w21.alloc (.cells #[.int .i64 2] 3)) _ [2] (nums_one w21 2) (by simp)).mono ?_; rintro e w22 ⟨d2, S22, ks2, rfl, h22, hks⟩)
    | fail)
  have q0 : refB ks2 0 = false := decide_eq_false fun e => by have := (hks _).1 e; simp at this
  have q1 : refB ks2 (0 + 1) = true := decide_eq_true ((hks _).2 (by decide))
  have q2 : refB ks2 (0 + 1 + 1) = false := decide_eq_false fun e => by have := (hks _).1 e; simp at this
  have q3 : refB ks2 (0 + 1 + 1 + 1) = false := decide_eq_false fun e => by have := (hks _).1 e; simp at this
  have q4 : refB ks2 (0 + 1 + 1 + 1 + 1) = false := decide_eq_false fun e => by have := (hks _).1 e; simp at this
  have QQ := Lib.hid (And.intro q0 (And.intro q1 (And.intro q2 (And.intro q3 q4))))
  have b22 := (Below.refl w21.heap.size w21).alloc (Nat.le_refl _) (.cells #[.int .i64 2] 3)
  have HBB := Lib.hid (show ∀ w', Below (w21.alloc (.cells #[.int .i64 2] 3)).heap.size (w21.alloc (.cells #[.int .i64 2] 3)) w' → Below W.heap.size W w' from fun w' hb => B21.trans ((b22.trans (hb.mono b22.size)).mono B21.size))
  clear q0 q1 q2 q3 q4 hks b22 B21
  go_upto_region 22 with (first
    | (go_at_call 17; refine (app_lit h24 (of_decide_eq_true (by kernel_rfl : decide (okA K21) = true)) (by decide) ⟨#[97]⟩ (by decide) [3#8] #[.int .u8 3] lit_3 (by decide) ((congrArg (fun q => appR _ q _ _) QQ.out.2.2.1).trans r23)).mono ?_; rintro e w25 ⟨rfl, S25, h25, o25, s25⟩)
    | (go_at_call 17; refine (app_lit h23 (of_decide_eq_true (by kernel_rfl : decide (okA K21) = true)) (by decide) ⟨#[97]⟩ (by decide) [2#8] #[.int .u8 2] lit_2 (by decide) ((congrArg (fun q => appR _ q _ _) QQ.out.2.1).trans r22)).mono ?_; rintro e w24 ⟨rfl, S24, h24, o24, s24⟩)
    | (go_at_call 17; refine (app_lit h22 (by decide) (by decide) ⟨#[97]⟩ (by decide) [1#8] #[.int .u8 1] lit_1 (by decide) ((congrArg (fun q => appR _ q _ _) QQ.out.1).trans r21)).mono ?_; rintro e w23 ⟨rfl, S23, h23, o23, s23⟩)
    | fail)
  clear h22 h23 h24 o23 o24 o25 s23 s24 s25
  go_upto_region 23 with (first
    | (go_at_call 20; refine (kd_read_at h25 (of_decide_eq_true (by kernel_rfl : decide (okA K23) = true)) ⟨#[97]⟩ _ (by rfl)).mono ?_; rintro e w26 ⟨_, rfl, ⟨ya, yc, rfl⟩, O26, b26⟩; have F26 := Free.new O26 (fun i hi => (h25.old hi).1); replace h25 := h25.low b26)
    | fail)
  replace F26 : Free w26 S25 (.slice ya 2 yc) [1#8, 3#8] := F26
  clear O26 b26
  have HMK := Lib.hid (fun w => make_zeros2 w 1048577 (by decide))
  have HL := Lib.hid (show ∀ w w' u S, KD _ w d2 S K23 ks2 (0 + 1 + 1 + 1 + 1) → Below w.heap.size w w' → SliceIs w' (.slice (some ⟨w.heap.size, 0, none⟩) 1048577 1048577) (List.replicate 1048577 0#8) → u = Value.slice (some ⟨w.heap.size, 0, none⟩) 1048577 1048577 → Calls Try.prog 17 #[.pointer (some ⟨d2, 0, none⟩), .string ⟨#[98]⟩, u] w' fun e' w'' => e' = .returned (.int .i64 3) ∧ KX (w21.alloc (.cells #[.int .i64 2] 3)) w' w'' d2 S K23 ks2 (0 + 1 + 1 + 1 + 1 + 1) from fun w w' u S h hb hs hu => by
    subst hu
    refine kd_append_at (h.low hb) (of_decide_eq_true (by kernel_rfl : decide (okA K23) = true)) (by decide) ⟨#[98]⟩ (by decide) _ (List.replicate 1048577 0#8) hs (fun _ g o c e hS => ?_) (by rw [List.length_replicate]; decide) ((congrArg (fun q => appR _ q _ _) QQ.out.2.2.2.2).trans (long25 _ (by rw [List.length_replicate])))
    rw [List.length_replicate] at e
    injection e with e
    injection e with e
    injection e with e
    have := (h.old hS).1
    omega)
  go_wp2_with (first
    | (go_at_call 17; refine (HL.out w28 w29 _ S28 h28 b29 T29 rfl).mono ?_; rintro e w30 ⟨rfl, S30, h30, _, _⟩)
    | (go_at_call 24; refine (same_true (w26.alloc (.cells #[.int .u8 1, .int .u8 3] 5)) _ _ [1#8, 3#8] (F26.low ((Below.refl w26.heap.size w26).alloc (Nat.le_refl _) _)).slice (lit_bytes w26 [1#8, 3#8] #[.int .u8 1, .int .u8 3] lit_13 (by decide))).mono ?_; rintro e w27 ⟨rfl, hww27⟩; have bw27 : Below w26.heap.size w26 w27 := hww27 ▸ (Below.refl w26.heap.size w26).alloc (Nat.le_refl _) _; replace h25 := h25.low bw27; clear bw27 hww27)
    | (go_at_call 17; refine (kd_append_at h25 (of_decide_eq_true (by kernel_rfl : decide (okA K23) = true)) (by decide) ⟨#[65]⟩ (by decide) (.slice none 0 0) [] (.inl ⟨rfl, .inl rfl⟩) (fun _ g o c e => by cases e) (by decide) ((congrArg (fun q => appR _ q _ _) QQ.out.2.2.2.1).trans r24)).mono ?_; rintro e w28 ⟨rfl, S28, h28, _, _⟩; obtain ⟨w29, hmk, T29, b29⟩ := HMK.out w28; replace hmk : (Instr.makeSlice 34 (.int .i64 1048577) (.int .i64 1048577)).run Try.prog w28 = .ok (.slice (some ⟨w28.heap.size, 0, none⟩) 1048577 1048577) w29 := hmk)
    | fail)
  go_ret
  exact ⟨rfl, HBB.out _ h30.below⟩

end Go.Proofs.Ytmmlpbepaefamaa
