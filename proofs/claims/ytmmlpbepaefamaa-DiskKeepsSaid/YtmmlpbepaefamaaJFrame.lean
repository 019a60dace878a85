/- The log's numbers and frames. -/
import Derived.Test.YtmmlpbepaefamaaCrc
namespace Go.Proofs.Ytmmlpbepaefamaa
open Go.RowKit

def fourC (n : BitVec 32) : List (BitVec 8) := [(n >>> 24).setWidth 8, (n >>> 16).setWidth 8, (n >>> 8).setWidth 8, n.setWidth 8]
def numC (l : List (BitVec 8)) : BitVec 32 := ((l.getD 0 0).setWidth 32 <<< 24 ||| (l.getD 1 0).setWidth 32 <<< 16) ||| (l.getD 2 0).setWidth 32 <<< 8 ||| (l.getD 3 0).setWidth 32
def lenC (l : List (BitVec 8)) : BitVec 32 := BitVec.ofNat 32 l.length
def frameC (l : List (BitVec 8)) : List (BitVec 8) := ((fourC (lenC l) ++ fourC (checkC (fourC (lenC l)))) ++ l) ++ fourC (checkC l)
theorem frameC_length (l : List (BitVec 8)) : (frameC l).length = l.length + 12 := by
  simp [frameC, fourC]
theorem own_new {W w : World} (hb : W.heap.size ≤ w.heap.size) (l : List (BitVec 8)) (hl : l.length ≤ 1000) : Own (w.alloc (.cells (l.map vu8).toArray 5)) W.heap.size (.slice (some ⟨w.heap.size, 0, none⟩) l.length l.length) l := by
  have h := World.ownsRow_lit (base := W.heap.size) (size := 1) (e := 5) w (l.map vu8).toArray l.length hb (by simp only [maxLen]; omega) (by simp)
  exact h

set_option maxRecDepth 100000 in
set_option maxHeartbeats 4000000 in
theorem four_calls (w : World) (n : BitVec 32) : Calls Try.prog 70 #[vu32 n] w fun e w' => ∃ v, e = .returned v ∧ (∃ a c, v = .slice a 4 c) ∧ Own w' w.heap.size v (fourC n) ∧ Below w.heap.size w w' := by
  have ho := own_new (Nat.le_refl w.heap.size) (fourC n) (by simp [fourC])
  have hb : Below w.heap.size w (w.alloc (.cells ((fourC n).map vu8).toArray 5)) := (Below.refl _ _).alloc (Nat.le_refl _) _
  go_enter Try.func70, Try.ntmps70
  go_wp2
  go_ret
  exact ⟨_, rfl, ⟨_, _, rfl⟩, ho, hb⟩

set_option maxRecDepth 100000 in
set_option maxHeartbeats 4000000 in
theorem number_calls (w : World) (v : Value) (l : List (BitVec 8)) (hv : SliceIs w v l) (h4 : 4 ≤ l.length) : Calls Try.prog 69 #[v] w fun e w' => e = .returned (vu32 (numC l)) ∧ Below w.heap.size w w' := by
  obtain ⟨pa, ca, rfl⟩ := hv.len
  obtain ⟨b, o, rfl, _, c0⟩ := hv.at (i := 0) (by omega)
  obtain ⟨_, _, he, _, c1⟩ := hv.at (i := 1) (by omega)
  injection he with he
  injection he with he1 he2
  subst he1 he2
  obtain ⟨_, _, he, _, c2⟩ := hv.at (i := 2) (by omega)
  injection he with he
  injection he with he1 he2
  subst he1 he2
  obtain ⟨_, _, he, _, c3⟩ := hv.at (i := 3) (by omega)
  injection he with he
  injection he with he1 he2
  subst he1 he2
  rw [Nat.add_zero] at c0
  obtain ⟨y0, h0⟩ : ∃ y, l.getD 0 0 = y := ⟨_, rfl⟩
  obtain ⟨y1, h1⟩ : ∃ y, l.getD 1 0 = y := ⟨_, rfl⟩
  obtain ⟨y2, h2⟩ : ∃ y, l.getD 2 0 = y := ⟨_, rfl⟩
  obtain ⟨y3, h3⟩ : ∃ y, l.getD 3 0 = y := ⟨_, rfl⟩
  have HY := Lib.hid (show numC l = (y0.setWidth 32 <<< 24 ||| y1.setWidth 32 <<< 16) ||| y2.setWidth 32 <<< 8 ||| y3.setWidth 32 by unfold numC; rw [h0, h1, h2, h3])
  rw [h0] at c0
  rw [h1] at c1
  rw [h2] at c2
  rw [h3] at c3
  clear h0 h1 h2 h3 hv
  rw [HY.out]
  have i0 : 0 < l.length := by omega
  have i1 : (1 : Int) < (l.length : Int) := by omega
  have i2 : (2 : Int) < (l.length : Int) := by omega
  have i3 : (3 : Int) < (l.length : Int) := by omega
  go_enter Try.func69, Try.ntmps69
  go_wp2
  go_still (by kernel_rfl)
  change Exit.then _ _ Exit.normal _ w.drew
  go_wp2
  go_ret
  exact ⟨rfl, (Below.refl _ _).drew⟩

set_option maxRecDepth 100000 in
set_option maxHeartbeats 4000000 in
theorem frame_calls (w : World) (T O : Nat) (v : Value) (l : List (BitVec 8)) (hT : TabAt w T O) (hv : SliceIs w v l) (hlen : l.length ≤ 4294967295) :
    Calls Try.prog 39 #[.pointer (some ⟨T, O, none⟩), v] w fun e w' => ∃ u, e = .returned u ∧ Own w' w.heap.size u (frameC l) ∧ Below w.heap.size w w' := by
  obtain ⟨pa, ca, rfl⟩ := hv.len
  have HCL := Lib.hid (fun w' (hb : Below w.heap.size w w') => check_calls w' T O _ l (hT.low hb) (hv.low hb) (by omega))
  have HCS := Lib.hid (fun w' u (hb : Below w.heap.size w w') (ho : Own w' w.heap.size u (fourC (lenC l))) => check_calls w' T O _ (fourC (lenC l)) (hT.low hb) ho.slice (by simp [fourC]))
  have HV := Lib.hid (fun w' (hb : Below w.heap.size w w') => hv.low hb)
  have HF := Lib.hid (fun w' n => four_calls w' n)
  have hl : BitVec.ofNat 32 l.length = lenC l := rfl
  have HL := Lib.hid hlen
  have hcap := Lib.hid (show (fourC (lenC l)).length = 4 from rfl)
  clear hT hv
  obtain ⟨N, hN⟩ : ∃ n, l.length = n := ⟨_, rfl⟩
  rw [hN] at hl HL HV HCL ⊢
  have HN := Lib.hid hN
  clear hN
  obtain ⟨S, hS⟩ : ∃ x, lenC l = x := ⟨_, rfl⟩
  rw [hS] at hl HCS
  have HS := Lib.hid hS
  clear hS
  obtain ⟨C1, hC1⟩ : ∃ x, checkC (fourC S) = x := ⟨_, rfl⟩
  obtain ⟨C2, hC2⟩ : ∃ x, checkC l = x := ⟨_, rfl⟩
  rw [hC1] at HCS
  rw [hC2] at HCL
  have HR := Lib.hid (show frameC l = ((fourC S ++ fourC C1) ++ l) ++ fourC C2 by unfold frameC; rw [HS.out, hC1, hC2])
  clear hC1 hC2
  go_enter Try.func39, Try.ntmps39
  go_wp2_with (first
    | (refine wpList_append_bytes (w := w8) (by rfl) _ _ (by rfl) w.heap.size _ ((fourC S ++ fourC C1) ++ l) (by rfl) O8 _ (fourC C2) (by rfl) o8.slice (by simp [fourC]; have := HL.out; have := HN.out; omega) B8.size ?_; intro v9 w9 O9 G9)
    | (go_at_call 70; refine (HF.out w6 C2).mono ?_; rintro e w8 ⟨v8, rfl, ⟨a8, c8, rfl⟩, o8, b8⟩; have B8 := B6.trans (b8.mono B6.size); have O8 := row_low O6 b8)
    | (go_at_call 68; refine (HCL.out w6 B6).mono ?_; rintro e w' ⟨rfl, rfl⟩)
    | (refine wpList_append_bytes (w := w4) (by rfl) _ _ (by rfl) w.heap.size _ (fourC S ++ fourC C1) (by rfl) O5 _ l (by rfl) (HV.out w4 B4) (by simp [fourC]; have := HL.out; have := HN.out; omega) B4.size ?_; intro v6 w6 O6 G6; have B6 := B4.grown G6 B4.size (fun i hi => own_ge O5 hi); obtain ⟨a6, k6, c6, h6⟩ := slice_any O6; subst h6)
    | (refine wpList_append_bytes (w := w3) (by rfl) _ _ (by rfl) w.heap.size _ (fourC S) (by rfl) O3 _ (fourC C1) (by rfl) o3.slice (by simp [fourC]) B3.size ?_; intro v5 w4 O5 G4; have B4 := B3.grown G4 B3.size (fun i hi => own_ge O3 hi); obtain ⟨a5, k5, c5, h5⟩ := slice_any O5; subst h5)
    | (go_at_call 70; refine (HF.out w1 C1).mono ?_; rintro e w3 ⟨v3, rfl, ⟨a3, c3, rfl⟩, o3, b3⟩; have B3 := b1.trans (b3.mono b1.size); have O3 := row_low o1 b3)
    | (go_at_call 68; refine (HCS.out w1 _ b1 o1).mono ?_; rintro e w' ⟨rfl, rfl⟩)
    | (go_at_call 70; refine (HF.out w S).mono ?_; rintro e w1 ⟨v1, rfl, ⟨a1, c1, rfl⟩, o1, b1⟩)
    | fail)
  go_ret
  exact ⟨v9, rfl, by rw [HR.out]; exact O9, B8.grown G9 B8.size (fun i hi => own_ge O8 hi)⟩

end Go.Proofs.Ytmmlpbepaefamaa
