/- DiskKnown's walk. -/
import Derived.Test.YtmmlpbepaefamaaGreatDoorJKit
import Derived.Test.YtmmlpbepaefamaaGreatDoorKDX2
namespace Go.Proofs.YtmmlpbepaefamaaGreatDoor
open Go.RowKit Go.Maps Go.Sort Go.Shelf

theorem lit_bytes (w : World) (l : List (BitVec 8)) (cs : Array Value) (hc : (l.map vu8).toArray = cs) (hl : l.length ≤ 1000) : SliceIs (w.alloc (.cells cs 5)) (.slice (some ⟨w.heap.size, 0, none⟩) l.length l.length) l := by
  have h := World.ownsRow_lit (base := w.heap.size) (size := 1) (e := 5) w (l.map vu8).toArray l.length (Nat.le_refl _) (by simp only [maxLen]; omega) (by simp)
  have h2 : Own (w.alloc (.cells (l.map vu8).toArray 5)) w.heap.size (.slice (some ⟨w.heap.size, 0, none⟩) l.length l.length) l := h
  exact hc ▸ h2.slice
theorem same_true (w : World) (s t : Value) (l : List (BitVec 8)) (hs : SliceIs w s l) (ht : SliceIs w t l) : Calls Tryz.prog 10 #[s, t] w fun e w' => e = .returned (.bool true) ∧ w = w' := by
  refine (same_calls w s t l l hs ht).mono ?_
  rintro e w' ⟨rfl, rfl⟩
  simp
/-- Append of bytes that are written out. -/
theorem app_lit {W w : World} {d n : Nat} {S : Nat → Prop} {A : Fs} {ks : List Int} (h : KD W w d S A ks n) (hA : okA A) (hn : n ≤ 1000000) (s : ByteArray) (hs : s.size ≤ 9223372036854775806) (l : List (BitVec 8)) (cs : Array Value) (hc : (l.map vu8).toArray = cs) (hl : l.length ≤ 1000) {e : Int} {A' : Fs} (hr : appR A (refB ks n) s l = (e, A')) :
    Calls Tryz.prog 44 #[.pointer (some ⟨d, 0, none⟩), .string s, .slice (some ⟨w.heap.size, 0, none⟩) l.length l.length] (w.alloc (.cells cs 5)) fun e' w' => e' = .returned (.int .i64 e) ∧ ∃ S', KD W w' d S' A' ks (n + 1) ∧ Only w w' S ∧ ∀ i, i < w.heap.size → S' i → S i := by
  have b1 : Below w.heap.size w (w.alloc (.cells cs 5)) := (Below.refl _ _).alloc (Nat.le_refl _) _
  refine (kd_append_at (h.low b1) hA hn s hs _ l (lit_bytes w l cs hc hl) (fun _ g o c e hS => ?_) (by omega) hr).mono ?_
  · injection e with e
    injection e with e
    injection e with e
    have := (h.old hS).1
    omega
  · rintro e' w' ⟨rfl, S', h', ho, hs'⟩
    exact ⟨rfl, S', h', ((Only.of_below b1 S).trans ho).weak fun i _ e => e.elim id id, fun i hi => hs' i (Nat.lt_of_lt_of_le hi b1.size)⟩
/-- Crash that keeps some of one file. -/
theorem crash_lit {W w : World} {d n : Nat} {S : Nat → Prop} {A A' : Fs} {ks : List Int} (h : KD W w d S A ks n) (hA : okA A) (x : Kp) (hr : crashF [x] A = A') :
    Calls Tryz.prog 12 #[.pointer (some ⟨d, 0, none⟩), .slice (some ⟨w.heap.size, 0, none⟩) 1 1] (w.alloc (.cells (Kp.cells x).toArray 117)) fun e' w' => e' = .returned (.int .i64 0) ∧ ∃ S', KD W w' d S' A' ks n ∧ Only w w' S ∧ ∀ i, i < w.heap.size → S' i → S i := by
  have b1 : Below w.heap.size w (w.alloc (.cells (Kp.cells x).toArray 117)) := (Below.refl _ _).alloc (Nat.le_refl _) _
  refine (kd_crash_at (h.low b1) hA _ [x] (by simp) (fun w' ho => KeepsAt.one x ho (fun e => by have := (h.old e).1; omega)) hr).mono ?_
  rintro e' w' ⟨rfl, S', h', ho, hs'⟩
  exact ⟨rfl, S', h', ((Only.of_below b1 S).trans ho).weak fun i _ e => e.elim id id, fun i hi => hs' i (Nat.lt_of_lt_of_le hi b1.size)⟩
theorem crash_nil {W w : World} {d n : Nat} {S : Nat → Prop} {A A' : Fs} {ks : List Int} (h : KD W w d S A ks n) (hA : okA A) (hr : crashF [] A = A') :
    Calls Tryz.prog 12 #[.pointer (some ⟨d, 0, none⟩), .slice none 0 0] w fun e' w' => e' = .returned (.int .i64 0) ∧ ∃ S', KD W w' d S' A' ks n ∧ Only w w' S ∧ ∀ i, i < w.heap.size → S' i → S i :=
  kd_crash_at h hA _ [] (by simp) (fun w' _ => .inl ⟨rfl, none, 0, rfl⟩) hr

def K1 : Fs := [(⟨#[97]⟩, ⟨[], [.add [1#8, 2#8]], true⟩)]
def K2 : Fs := [(⟨#[97]⟩, ⟨[1#8, 2#8], [], false⟩)]
def K3 : Fs := [(⟨#[97]⟩, ⟨[1#8, 2#8], [.add [3#8]], false⟩)]
def K4 : Fs := [(⟨#[97]⟩, ⟨[1#8, 2#8], [.add [3#8], .add [4#8, 5#8]], false⟩)]
def K6 : Fs := [(⟨#[97]⟩, ⟨[1#8, 2#8, 3#8, 4#8], [], false⟩)]
def K11 : Fs := [(⟨#[97]⟩, ⟨[1#8, 2#8, 3#8, 4#8], [.cut 1], false⟩)]
def K12 : Fs := [(⟨#[97]⟩, ⟨[1#8], [], false⟩)]
def K13 : Fs := [(⟨#[99]⟩, ⟨[1#8], [], false⟩)]
def K21 : Fs := [(⟨#[97]⟩, ⟨[], [.add [1#8]], true⟩)]
def K23 : Fs := [(⟨#[97]⟩, ⟨[], [.add [1#8], .add [3#8]], true⟩)]
def K8 : Fs := [(⟨#[97]⟩, ⟨[1#8, 2#8, 3#8, 4#8], [], false⟩), (⟨#[98]⟩, ⟨[], [.add [7#8]], true⟩)]
theorem r1 : appR [] false ⟨#[97]⟩ [1#8, 2#8] = (0, K1) := by kernel_rfl
theorem r2 : syncR K1 false ⟨#[97]⟩ = (0, K2) := by kernel_rfl
theorem r3 : appR K2 false ⟨#[97]⟩ [3#8] = (0, K3) := by kernel_rfl
theorem r4 : appR K3 false ⟨#[97]⟩ [4#8, 5#8] = (0, K4) := by kernel_rfl
theorem r6 : crashF [⟨⟨#[97]⟩, 1, 1⟩] K4 = K6 := by kernel_rfl
theorem r8 : appR K6 false ⟨#[98]⟩ [7#8] = (0, K8) := by kernel_rfl
theorem r9 : crashF [] K8 = K6 := by kernel_rfl
theorem r10 : cutR K6 false ⟨#[97]⟩ 9 = (2, K6) := by kernel_rfl
theorem r11 : cutR K6 false ⟨#[97]⟩ 1 = (0, K11) := by kernel_rfl
theorem r11b : renR K11 false ⟨#[97]⟩ ⟨#[99]⟩ = (10, K11) := by kernel_rfl
theorem r12 : syncR K11 false ⟨#[97]⟩ = (0, K12) := by kernel_rfl
theorem r13 : renR K12 false ⟨#[97]⟩ ⟨#[99]⟩ = (0, K13) := by kernel_rfl
theorem r21 : appR [] false ⟨#[97]⟩ [1#8] = (0, K21) := by kernel_rfl
theorem r22 : appR K21 true ⟨#[97]⟩ [2#8] = (13, K21) := by kernel_rfl
theorem r23 : appR K21 false ⟨#[97]⟩ [3#8] = (0, K23) := by kernel_rfl
theorem r24 : appR K23 false ⟨#[65]⟩ [] = (2, K23) := by kernel_rfl
theorem nums_one (w : World) (z : Int) : NumsAt (w.alloc (.cells #[.int .i64 z] 3)) (.slice (some ⟨w.heap.size, 0, none⟩) 1 1) [z] := by
  have hW := Whole.new w 3 #[.int .i64 z]
  refine .inr ⟨w.heap.size, 0, 1, rfl, hW.lt, fun j y hy => ?_⟩
  have h1 : j < 1 := (List.getElem?_eq_some_iff.1 hy).1
  obtain rfl : j = 0 := by omega
  obtain rfl : z = y := by simpa using hy
  exact hW.cell 0
theorem names6 : namesA K6 = [[97]] := by
  unfold namesA K6
  simp
theorem long25 (l : List (BitVec 8)) (h : l.length = 1048577) : appR K23 false ⟨#[98]⟩ l = (3, K23) := by
  unfold appR
  rw [if_neg (by decide), show nameN ⟨#[98]⟩ = true by kernel_rfl, if_neg (by decide), show getA K23 ⟨#[98]⟩ = none by kernel_rfl]
  simp only []
  rw [if_neg (by decide), if_pos (by omega)]
theorem make_zeros2 (w : World) (n : Nat) (hn : n ≤ 2000000) : ∃ w', (Instr.makeSlice 30 (.int .i64 (n : Int)) (.int .i64 (n : Int))).run Tryz.prog w = .ok (.slice (some ⟨w.heap.size, 0, none⟩) n n) w' ∧ SliceIs w' (.slice (some ⟨w.heap.size, 0, none⟩) n n) (List.replicate n 0#8) ∧ Below w.heap.size w w' := by
  obtain ⟨i0, hi, hz0, hz1, hz2⟩ := info_u8
  obtain ⟨w', h1, h2, h3⟩ := run_makeSlice_full (P := Tryz.prog) w w.heap.size 30 5 i0 (.int .u8 0) 1 Tryz.underlying30 hi hz0 hz1 .i64 .i64 n (by omega) (by rw [hz2]; omega) (by simp only [maxLen]; omega) (Nat.le_refl _)
  have e : (madeCells (Value.int .u8 0).cells (n * 1)).toList = (List.replicate n 0#8).map vu8 := by
    rw [Nat.mul_one, List.map_replicate]
    exact toList_madeCells_one _ _
  rw [e] at h2
  have hO : Own w' w.heap.size (.slice (some ⟨w.heap.size, 0, none⟩) n n) (List.replicate n 0#8) := by
    unfold Own
    rw [List.length_replicate]
    exact h2
  exact ⟨w', h1, hO.slice, grown_below h3⟩
theorem lit_12 : (([1#8, 2#8] : List (BitVec 8)).map vu8).toArray = #[.int .u8 1, .int .u8 2] := by kernel_rfl
theorem lit_3 : (([3#8] : List (BitVec 8)).map vu8).toArray = #[.int .u8 3] := by kernel_rfl
theorem lit_45 : (([4#8, 5#8] : List (BitVec 8)).map vu8).toArray = #[.int .u8 4, .int .u8 5] := by kernel_rfl
theorem lit_7 : (([7#8] : List (BitVec 8)).map vu8).toArray = #[.int .u8 7] := by kernel_rfl
theorem lit_12345 : (([1#8, 2#8, 3#8, 4#8, 5#8] : List (BitVec 8)).map vu8).toArray = #[.int .u8 1, .int .u8 2, .int .u8 3, .int .u8 4, .int .u8 5] := by kernel_rfl
theorem lit_1234 : (([1#8, 2#8, 3#8, 4#8] : List (BitVec 8)).map vu8).toArray = #[.int .u8 1, .int .u8 2, .int .u8 3, .int .u8 4] := by kernel_rfl
theorem lit_1 : (([1#8] : List (BitVec 8)).map vu8).toArray = #[.int .u8 1] := by kernel_rfl
theorem lit_2 : (([2#8] : List (BitVec 8)).map vu8).toArray = #[.int .u8 2] := by kernel_rfl
theorem lit_13 : (([1#8, 3#8] : List (BitVec 8)).map vu8).toArray = #[.int .u8 1, .int .u8 3] := by kernel_rfl

end Go.Proofs.YtmmlpbepaefamaaGreatDoor
