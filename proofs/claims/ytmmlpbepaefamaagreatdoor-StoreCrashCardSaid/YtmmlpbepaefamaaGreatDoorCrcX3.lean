/- The log's check: by a table, byte by byte. -/
import Derived.Deep.DeepCutAuto
import Derived.Deep.CutBlock
import Derived.StillTailTactics
import Derived.Test.YtmmlpbepaefamaaGreatDoorGRowX3
import Derived.Test.YtmmlpbepaefamaaGreatDoorMemX6
namespace Go.Proofs.YtmmlpbepaefamaaGreatDoor
open Go.RowKit

/-- One shift. -/
def stepC (x : BitVec 32) : BitVec 32 := if ((x.toNat : Int) % 2 == 1) = true then (x >>> 1) ^^^ 3988292384#32 else x >>> 1
def stepsC : Nat → BitVec 32 → BitVec 32
  | 0, x => x
  | k + 1, x => stepC (stepsC k x)
def tabC (i : Nat) : BitVec 32 := stepsC 8 (BitVec.ofNat 32 i)
def byteC (x : BitVec 32) (c : BitVec 8) : BitVec 32 := (x >>> 8) ^^^ tabC (x.setWidth 8 ^^^ c).toNat
def crcC (x : BitVec 32) (l : List (BitVec 8)) : BitVec 32 := l.foldl byteC x
def checkC (l : List (BitVec 8)) : BitVec 32 := ~~~ crcC (BitVec.ofInt 32 4294967295) l

/-- The table when k of it are laid down. -/
def tabRow (k : Nat) : List Value := (List.range 256).map fun j => if j < k then vu32 (tabC j) else vu32 0#32
theorem tabRow_length (k : Nat) : (tabRow k).length = 256 := by simp [tabRow]
theorem tabRow_zero : tabRow 0 = zeroNums .u32 256 := by
  unfold tabRow zeroNums
  rw [List.eq_replicate_iff]
  refine ⟨by simp, fun x hx => ?_⟩
  obtain ⟨j, _, rfl⟩ := List.mem_map.1 hx
  rfl
theorem tabRow_set (k : Nat) (hk : k < 256) : (tabRow k).set k (vu32 (tabC k)) = tabRow (k + 1) := by
  apply List.ext_getElem?
  intro j
  unfold tabRow
  rw [List.getElem?_set, List.getElem?_map, List.getElem?_map]
  by_cases hj : k = j
  · subst hj
    simp [hk]
  · rw [if_neg hj]
    by_cases hj2 : j < 256
    · rw [List.getElem?_range hj2]
      simp only [Option.map_some]
      congr 1
      by_cases h3 : j < k
      · rw [if_pos h3, if_pos (by omega)]
      · rw [if_neg h3, if_neg (by omega)]
    · simp [List.getElem?_eq_none (show (List.range 256).length ≤ j by simp; omega)]
theorem tabRow_at (i : Nat) (hi : i < 256) : (tabRow 256)[i]? = some (vu32 (tabC i)) := by
  unfold tabRow
  rw [List.getElem?_map, List.getElem?_range hi]
  simp [hi]
theorem tabRow_old (k i : Nat) (hi : i < 256) (hk : k ≤ i) : (tabRow k)[i]? = some (vu32 0#32) := by
  unfold tabRow
  rw [List.getElem?_map, List.getElem?_range hi]
  simp
  omega
theorem tabRow_one (k : Nat) : (tabRow k).toArray.all (·.oneCell') = true := all_one fun v hv => by
  obtain ⟨j, _, rfl⟩ := List.mem_map.1 hv
  split <;> rfl
theorem info_tab : (Tryz.prog.info? 103).map (fun i => (i.zero, i.size)) = some (some (.agg (zeroNums .u32 256).toArray), 256) := by kernel_rfl
theorem size_tab : (Tryz.prog.info? 103).map (·.size) = some 256 := by kernel_rfl

set_option maxRecDepth 100000 in
set_option maxHeartbeats 4000000 in
theorem table_calls (w : World) : Calls Tryz.prog 56 #[] w fun e w' => e = .returned (.agg (tabRow 256).toArray) ∧ Below w.heap.size w w' := by
  have b1 : Below w.heap.size w (w.alloc (.cells (tabRow 0).toArray 103)) := (Below.refl _ _).alloc (Nat.le_refl _) _
  have h1 := Whole.new w 103 (tabRow 0).toArray
  have hinf := info_tab
  rw [← tabRow_zero] at hinf
  go_enter Tryz.func56, Tryz.ntmps56
  go_upto_region 1 with (first
    | (refine wpList_alloc_row (by rfl) 103 (by rfl) _ _ hinf ?_)
    | fail)
  obtain ⟨R, hR⟩ : ∃ x, w.heap.size = x := ⟨_, rfl⟩
  rw [hR] at h1 ⊢
  generalize w.alloc (.cells (tabRow 0).toArray 103) = w1 at b1 h1 ⊢
  have h2 := Whole.new w1 103 (tabRow 0).toArray
  have b2 := b1.alloc b1.size (.cells (tabRow 0).toArray 103)
  have hRT : R ≠ w1.heap.size := Nat.ne_of_lt h1.lt
  have hT0 := b1.size
  replace h1 := h1.alloc (.cells (tabRow 0).toArray 103)
  go_upto_region 2 with (first
    | (refine wpList_alloc_row (by rfl) 103 (by rfl) _ _ hinf ?_)
    | fail)
  obtain ⟨T, hT⟩ : ∃ x, w1.heap.size = x := ⟨_, rfl⟩
  rw [hT] at h2 hRT hT0 ⊢
  generalize w1.alloc (.cells (tabRow 0).toArray 103) = w2 at b2 h1 h2 ⊢
  have HE := Lib.hid (And.intro hRT (And.intro hR hT0))
  clear b1 hT hRT hR hT0 hinf
  go_wp2
  go_loopw [4] (fun i wr => ∃ k : Nat, k ≤ 256 ∧ i = .int .i64 k ∧ Whole wr T 103 (tabRow k) ∧ Whole wr R 103 (tabRow 0) ∧ Below w.heap.size w wr) (fun i _ => 256 - (intOf i).toNat)
  case atStart => exact ⟨0, by omega, rfl, h2, h1, b2⟩
  case round =>
    clear h1 h2 b2
    obtain ⟨k, hk, rfl, hT, hR, hB⟩ := hrel
    by_cases hlt : k < 256
    · have i1 : (k : Int) < 256 := by omega
      have i2 : 0 ≤ (k : Int) ∧ (k : Int) < 256 := by omega
      have b2 : IntKind.i64.wrap ((k : Int) + 1) = (k : Int) + 1 := IntWalk.i64_in _ (by omega)
      go_wp2
      go_loopw [3, 9] (fun x j wx => ∃ q : Nat, q ≤ 8 ∧ j = .int .i64 q ∧ x = vu32 (stepsC q (BitVec.ofNat 32 k)) ∧ wr = wx) (fun _ j _ => 8 - (intOf j).toNat)
      case atStart => exact ⟨0, by omega, rfl, rfl, rfl⟩
      case round =>
        obtain ⟨q, hq, rfl, rfl, rfl⟩ := hrel
        by_cases hq8 : q < 8
        · have j1 : (q : Int) < 8 := by omega
          have j2 : IntKind.i64.wrap ((q : Int) + 1) = (q : Int) + 1 := IntWalk.i64_in _ (by omega)
          obtain ⟨y, hy⟩ : ∃ y, stepsC q (BitVec.ofNat 32 k) = y := ⟨_, rfl⟩
          have HY := Lib.hid hy
          have hs : stepsC (q + 1) (BitVec.ofNat 32 k) = stepC y := by rw [← hy]; rfl
          have HS := Lib.hid hs
          rw [hy]
          clear hy hs
          by_cases hb : ((y.toNat : Int) % 2 == 1) = true
          · have HB := Lib.hid hb
            go_wp2
            go_roundw
            case rel => exact ⟨q + 1, by omega, by go_num, by rw [HS.out]; unfold stepC; rw [if_pos HB.out], by trivial⟩
            case measure => simp [intOf]; omega
          · have HB := Lib.hid hb
            go_wp2
            go_roundw
            case rel => exact ⟨q + 1, by omega, by go_num, by rw [HS.out]; unfold stepC; rw [if_neg HB.out], by trivial⟩
            case measure => simp [intOf]; omega
        · obtain rfl : q = 8 := by omega
          obtain ⟨y, hy⟩ : ∃ y, stepsC 8 (BitVec.ofNat 32 k) = y := ⟨_, rfl⟩
          have HY := Lib.hid (show tabC k = y from hy)
          rw [hy]
          clear hy
          have cw := hT.cell_of (tabRow_old k k hlt (Nat.le_refl _))
          have fw := hT.free k
          go_wp2
          go_roundw
          case rel => exact ⟨k + 1, by omega, by go_num, by have h := hT.put k (vu32 y); rw [← HY.out, tabRow_set k hlt] at h; rw [← HY.out]; exact h, hR.far (p := ⟨T, k, none⟩) HE.out.1 _, hB.setCell HE.out.2.2 _⟩
          case measure => simp [intOf]; omega
    · obtain rfl : k = 256 := by omega
      have hb3 : Below w.heap.size w (wr.setRow R (tabRow 256).toArray) := hB.grown (grown_row (World.grownBy.refl wr (some R)) (.inl rfl) _) hB.size (fun i hi => by injection hi with hi; have := HE.out.2.1; omega)
      have hR2 := hR.row (tabRow 256)
      go_wp2_with (first
        | (refine wpList_store_row (by rfl) 103 _ _ (by rfl) R (tabRow 256).toArray (by rfl) (by rfl) 103 _ hR (by rw [size_tab]; simp [tabRow_length]) (by simp [tabRow_length]) (tabRow_one _) ?_)
        | (refine wpList_load_mid (by rfl) 103 _ (by rfl) T 0 (by rfl) (tabRow 256) _ (whole_rangeG hT) Tryz.underlying103 (by rfl) (by rw [size_tab, tabRow_length]) ?_)
        | fail)
      exact bodyPost_ret (results_cell_row rfl _ _ R 103 _ (0, 0) _ rfl hR2 Tryz.underlying103 rfl (by rw [size_tab]; simp [tabRow_length])) rfl ⟨rfl, hb3⟩

/-- A table lies somewhere. -/
def TabAt (w : World) (b o : Nat) : Prop := b < w.heap.size ∧ ∀ i, i < 256 → w.cell? ⟨b, o + i, none⟩ = some (vu32 (tabC i))
theorem TabAt.low {w w' : World} {b o : Nat} (h : TabAt w b o) (hb : Below w.heap.size w w') : TabAt w' b o :=
  ⟨Nat.lt_of_lt_of_le h.1 hb.size, fun i hi => (hb.cell (p := ⟨b, o + i, none⟩) h.1).trans (h.2 i hi)⟩
theorem TabAt.of_whole {w : World} {b : Nat} {t : TypeId} (h : Whole w b t (tabRow 256)) : TabAt w b 0 :=
  ⟨h.lt, fun i hi => by rw [Nat.zero_add]; exact h.cell_of (tabRow_at i hi)⟩

/-- The bytes of a slice, one by one. -/
theorem SliceIs.len {w : World} {v : Value} {l : List (BitVec 8)} (h : SliceIs w v l) : ∃ a c, v = .slice a l.length c := by
  rcases h with ⟨rfl, rfl | ⟨ad, c, rfl⟩⟩ | ⟨b, o, c, rfl, _, _⟩
  · exact ⟨_, _, rfl⟩
  · exact ⟨_, _, rfl⟩
  · exact ⟨_, _, rfl⟩
theorem SliceIs.at {w : World} {a : Option Addr} {n c i : Nat} {l : List (BitVec 8)} (h : SliceIs w (.slice a n c) l) (hi : i < l.length) : ∃ b o, a = some ⟨b, o, none⟩ ∧ b < w.heap.size ∧ w.cell? ⟨b, o + i, none⟩ = some (vu8 (l.getD i 0)) := by
  rcases h with ⟨rfl, _⟩ | ⟨b, o, c, he, hl, hb⟩
  · simp at hi
  · injection he with he
    exact ⟨b, o, he, hl, hb.at_ hi⟩

theorem run_index_tab (w : World) (T O : Nat) (z : BitVec 8) {q : Nat} (hq : z.toNat = q) : (Instr.indexAt 103 (.pointer (some ⟨T, O, none⟩)) (vu8 z)).run Tryz.prog w = .ok (.pointer (some ⟨T, O + q, none⟩)) w := by
  rw [vu8_def, hq]
  have h1 : q < 256 := by rw [← hq]; exact z.isLt
  have i3 : 0 ≤ (q : Int) ∧ (q : Int) < 256 := by omega
  go_simp

set_option maxRecDepth 100000 in
set_option maxHeartbeats 4000000 in
theorem check_calls (w : World) (T O : Nat) (v : Value) (l : List (BitVec 8)) (hT : TabAt w T O) (hv : SliceIs w v l) (hlen : l.length ≤ 9223372036854775806) :
    Calls Tryz.prog 82 #[.pointer (some ⟨T, O, none⟩), v] w fun e w' => e = .returned (vu32 (checkC l)) ∧ w = w' := by
  obtain ⟨pa, ca, rfl⟩ := hv.len
  obtain ⟨N, hN⟩ : ∃ n, l.length = n := ⟨_, rfl⟩
  have HV := Lib.hid hv
  have HT := Lib.hid hT
  have HN := Lib.hid hN
  rw [hN] at HV hlen ⊢
  clear hv hT hN
  go_enter Tryz.func82, Tryz.ntmps82
  go_wp2
  go_loopw [5, 10] (fun x i wx => ∃ k : Nat, k ≤ N ∧ i = .int .i64 k ∧ x = vu32 (crcC (BitVec.ofInt 32 4294967295) (l.take k)) ∧ w = wx) (fun _ i _ => N - (intOf i).toNat)
  case atStart => exact ⟨0, by omega, rfl, by rw [List.take_zero]; rfl, rfl⟩
  case round =>
    obtain ⟨k, hk, rfl, rfl, rfl⟩ := hrel
    by_cases hlt : k < N
    · obtain ⟨b, o, rfl, _, hc⟩ := HV.out.at (i := k) (by have := HN.out; omega)
      have i1 : (k : Int) < (N : Int) := by omega
      have i2 : 0 ≤ (k : Int) ∧ (k : Int) < (N : Int) := by omega
      have b2 : IntKind.i64.wrap ((k : Int) + 1) = (k : Int) + 1 := IntWalk.i64_in _ (by omega)
      obtain ⟨y, hy⟩ : ∃ y, l.getD k 0 = y := ⟨_, rfl⟩
      obtain ⟨x, hx⟩ : ∃ x, crcC (BitVec.ofInt 32 4294967295) (l.take k) = x := ⟨_, rfl⟩
      have hnx : crcC (BitVec.ofInt 32 4294967295) (l.take (k + 1)) = byteC x y := by
        have hkl : k < l.length := by rw [HN.out]; exact hlt
        rw [List.take_succ_eq_append_getElem hkl, ← hx, ← hy]
        unfold crcC
        rw [List.foldl_append]
        simp [List.getElem?_eq_getElem hkl]
      have HX := Lib.hid hnx
      rw [hy] at hc
      rw [hx]
      clear hy hx hnx
      obtain ⟨q, hq⟩ : ∃ q, (x.setWidth 8 ^^^ y).toNat = q := ⟨_, rfl⟩
      have hq2 : q < 256 := by rw [← hq]; exact BitVec.isLt _
      have ht := HT.out.2 q hq2
      have HQ := Lib.hid hq
      have i3 : 0 ≤ (q : Int) ∧ (q : Int) < 256 := by omega
      have hix := run_index_tab w T O _ hq
      go_wp2
      go_roundw
      case rel => exact ⟨k + 1, by omega, by go_num, by rw [HX.out]; unfold byteC; rw [HQ.out], by trivial⟩
      case measure => simp [intOf]; omega
    · obtain rfl : k = N := by omega
      have i1 : ¬ (k : Int) < (k : Int) := by omega
      rw [List.take_of_length_le (Nat.le_of_eq HN.out)]
      go_wp2
      go_ret
      exact ⟨rfl, rfl⟩

end Go.Proofs.YtmmlpbepaefamaaGreatDoor

/- The log's numbers and frames. -/
namespace Go.Proofs.YtmmlpbepaefamaaGreatDoor
open Go.RowKit

def fourC (n : BitVec 32) : List (BitVec 8) := [(n >>> 24).setWidth 8, (n >>> 16).setWidth 8, (n >>> 8).setWidth 8, n.setWidth 8]
def numC (l : List (BitVec 8)) : BitVec 32 := ((l.getD 0 0).setWidth 32 <<< 24 ||| (l.getD 1 0).setWidth 32 <<< 16) ||| (l.getD 2 0).setWidth 32 <<< 8 ||| (l.getD 3 0).setWidth 32
def lenC (l : List (BitVec 8)) : BitVec 32 := BitVec.ofNat 32 l.length
def frameC (l : List (BitVec 8)) : List (BitVec 8) := ((fourC (lenC l) ++ fourC (checkC (fourC (lenC l)))) ++ l) ++ fourC (checkC l)
theorem frameC_length (l : List (BitVec 8)) : (frameC l).length = l.length + 12 := by
  simp [frameC, fourC]
theorem own_new {W w : World} (hb : W.heap.size ≤ w.heap.size) (l : List (BitVec 8)) (hl : l.length ≤ 1000) : Own (w.alloc (.cells (l.map vu8).toArray 5)) W.heap.size (.slice (some ⟨w.heap.size, 0, none⟩) l.length l.length) l := by
  have h := World.ownsRow_lit (base := W.heap.size) (size := 1) (e := 5) w (l.map vu8).toArray l.length hb (by simp only [maxLen]; omega) (by simp)
  exact h

set_option maxRecDepth 100000 in
set_option maxHeartbeats 4000000 in
theorem four_calls (w : World) (n : BitVec 32) : Calls Tryz.prog 85 #[vu32 n] w fun e w' => ∃ v, e = .returned v ∧ (∃ a c, v = .slice a 4 c) ∧ Own w' w.heap.size v (fourC n) ∧ Below w.heap.size w w' := by
  have ho := own_new (Nat.le_refl w.heap.size) (fourC n) (by simp [fourC])
  have hb : Below w.heap.size w (w.alloc (.cells ((fourC n).map vu8).toArray 5)) := (Below.refl _ _).alloc (Nat.le_refl _) _
  go_enter Tryz.func85, Tryz.ntmps85
  go_wp2
  go_ret
  exact ⟨_, rfl, ⟨_, _, rfl⟩, ho, hb⟩

set_option maxRecDepth 100000 in
set_option maxHeartbeats 4000000 in
theorem number_calls (w : World) (v : Value) (l : List (BitVec 8)) (hv : SliceIs w v l) (h4 : 4 ≤ l.length) : Calls Tryz.prog 81 #[v] w fun e w' => e = .returned (vu32 (numC l)) ∧ Below w.heap.size w w' := by
  obtain ⟨pa, ca, rfl⟩ := hv.len
  obtain ⟨b, o, rfl, _, c0⟩ := hv.at (i := 0) (by omega)
  obtain ⟨_, _, he, _, c1⟩ := hv.at (i := 1) (by omega)
  injection he with he
  injection he with he1 he2
  subst he1 he2
  obtain ⟨_, _, he, _, c2⟩ := hv.at (i := 2) (by omega)
  injection he with he
  injection he with he1 he2
  subst he1 he2
  obtain ⟨_, _, he, _, c3⟩ := hv.at (i := 3) (by omega)
  injection he with he
  injection he with he1 he2
  subst he1 he2
  rw [Nat.add_zero] at c0
  obtain ⟨y0, h0⟩ : ∃ y, l.getD 0 0 = y := ⟨_, rfl⟩
  obtain ⟨y1, h1⟩ : ∃ y, l.getD 1 0 = y := ⟨_, rfl⟩
  obtain ⟨y2, h2⟩ : ∃ y, l.getD 2 0 = y := ⟨_, rfl⟩
  obtain ⟨y3, h3⟩ : ∃ y, l.getD 3 0 = y := ⟨_, rfl⟩
  have HY := Lib.hid (show numC l = (y0.setWidth 32 <<< 24 ||| y1.setWidth 32 <<< 16) ||| y2.setWidth 32 <<< 8 ||| y3.setWidth 32 by unfold numC; rw [h0, h1, h2, h3])
  rw [h0] at c0
  rw [h1] at c1
  rw [h2] at c2
  rw [h3] at c3
  clear h0 h1 h2 h3 hv
  rw [HY.out]
  have i0 : 0 < l.length := by omega
  have i1 : (1 : Int) < (l.length : Int) := by omega
  have i2 : (2 : Int) < (l.length : Int) := by omega
  have i3 : (3 : Int) < (l.length : Int) := by omega
  go_enter Tryz.func81, Tryz.ntmps81
  go_wp2
  go_still (by kernel_rfl)
  change Exit.then _ _ Exit.normal _ w.drew
  go_wp2
  go_ret
  exact ⟨rfl, (Below.refl _ _).drew⟩

set_option maxRecDepth 100000 in
set_option maxHeartbeats 4000000 in
theorem frame_calls (w : World) (T O : Nat) (v : Value) (l : List (BitVec 8)) (hT : TabAt w T O) (hv : SliceIs w v l) (hlen : l.length ≤ 4294967295) :
    Calls Tryz.prog 63 #[.pointer (some ⟨T, O, none⟩), v] w fun e w' => ∃ u, e = .returned u ∧ Own w' w.heap.size u (frameC l) ∧ Below w.heap.size w w' := by
  obtain ⟨pa, ca, rfl⟩ := hv.len
  have HCL := Lib.hid (fun w' (hb : Below w.heap.size w w') => check_calls w' T O _ l (hT.low hb) (hv.low hb) (by omega))
  have HCS := Lib.hid (fun w' u (hb : Below w.heap.size w w') (ho : Own w' w.heap.size u (fourC (lenC l))) => check_calls w' T O _ (fourC (lenC l)) (hT.low hb) ho.slice (by simp [fourC]))
  have HV := Lib.hid (fun w' (hb : Below w.heap.size w w') => hv.low hb)
  have HF := Lib.hid (fun w' n => four_calls w' n)
  have hl : BitVec.ofNat 32 l.length = lenC l := rfl
  have HL := Lib.hid hlen
  have hcap := Lib.hid (show (fourC (lenC l)).length = 4 from rfl)
  clear hT hv
  obtain ⟨N, hN⟩ : ∃ n, l.length = n := ⟨_, rfl⟩
  rw [hN] at hl HL HV HCL ⊢
  have HN := Lib.hid hN
  clear hN
  obtain ⟨S, hS⟩ : ∃ x, lenC l = x := ⟨_, rfl⟩
  rw [hS] at hl HCS
  have HS := Lib.hid hS
  clear hS
  obtain ⟨C1, hC1⟩ : ∃ x, checkC (fourC S) = x := ⟨_, rfl⟩
  obtain ⟨C2, hC2⟩ : ∃ x, checkC l = x := ⟨_, rfl⟩
  rw [hC1] at HCS
  rw [hC2] at HCL
  have HR := Lib.hid (show frameC l = ((fourC S ++ fourC C1) ++ l) ++ fourC C2 by unfold frameC; rw [HS.out, hC1, hC2])
  clear hC1 hC2
  go_enter Tryz.func63, Tryz.ntmps63
  go_wp2_with (first
    | (refine wpList_append_bytes (w := w8) (by rfl) _ _ (by rfl) w.heap.size _ ((fourC S ++ fourC C1) ++ l) (by rfl) O8 _ (fourC C2) (by rfl) o8.slice (by simp [fourC]; have := HL.out; have := HN.out; omega) B8.size ?_; intro v9 w9 O9 G9)
    | (go_at_call 85; refine (HF.out w6 C2).mono ?_; rintro e w8 ⟨v8, rfl, ⟨a8, c8, rfl⟩, o8, b8⟩; have B8 := B6.trans (b8.mono B6.size); have O8 := row_low O6 b8)
    | (go_at_call 82; refine (HCL.out w6 B6).mono ?_; rintro e w' ⟨rfl, rfl⟩)
    | (refine wpList_append_bytes (w := w4) (by rfl) _ _ (by rfl) w.heap.size _ (fourC S ++ fourC C1) (by rfl) O5 _ l (by rfl) (HV.out w4 B4) (by simp [fourC]; have := HL.out; have := HN.out; omega) B4.size ?_; intro v6 w6 O6 G6; have B6 := B4.grown G6 B4.size (fun i hi => own_ge O5 hi); obtain ⟨a6, k6, c6, h6⟩ := slice_any O6; subst h6)
    | (refine wpList_append_bytes (w := w3) (by rfl) _ _ (by rfl) w.heap.size _ (fourC S) (by rfl) O3 _ (fourC C1) (by rfl) o3.slice (by simp [fourC]) B3.size ?_; intro v5 w4 O5 G4; have B4 := B3.grown G4 B3.size (fun i hi => own_ge O3 hi); obtain ⟨a5, k5, c5, h5⟩ := slice_any O5; subst h5)
    | (go_at_call 85; refine (HF.out w1 C1).mono ?_; rintro e w3 ⟨v3, rfl, ⟨a3, c3, rfl⟩, o3, b3⟩; have B3 := b1.trans (b3.mono b1.size); have O3 := row_low o1 b3)
    | (go_at_call 82; refine (HCS.out w1 _ b1 o1).mono ?_; rintro e w' ⟨rfl, rfl⟩)
    | (go_at_call 85; refine (HF.out w S).mono ?_; rintro e w1 ⟨v1, rfl, ⟨a1, c1, rfl⟩, o1, b1⟩)
    | fail)
  go_ret
  exact ⟨v9, rfl, by rw [HR.out]; exact O9, B8.grown G9 B8.size (fun i hi => own_ge O8 hi)⟩

end Go.Proofs.YtmmlpbepaefamaaGreatDoor

/- Check and Frame: with a table of their own. -/
namespace Go.Proofs.YtmmlpbepaefamaaGreatDoor
open Go.RowKit

set_option maxRecDepth 100000 in
set_option maxHeartbeats 4000000 in
theorem topframe_long (w : World) (v : Value) (l : List (BitVec 8)) (hv : SliceIs w v l) (hlen : 65536 < l.length) :
    Calls Tryz.prog 72 #[v] w fun e w' => e = .returned (.tuple #[.slice none 0 0, .int .i64 3]) ∧ w = w' := by
  obtain ⟨pa, ca, rfl⟩ := hv.len
  have i1 : (65536 : Int) < (l.length : Int) := by omega
  clear hv
  go_enter Tryz.func72, Tryz.ntmps72
  go_wp2
  go_ret2
  exact ⟨rfl, rfl⟩

set_option maxRecDepth 100000 in
set_option maxHeartbeats 4000000 in
theorem topframe_calls (w : World) (v : Value) (l : List (BitVec 8)) (hv : SliceIs w v l) (hlen : l.length ≤ 65536) :
    Calls Tryz.prog 72 #[v] w fun e w' => ∃ u, e = .returned (.tuple #[u, .int .i64 0]) ∧ Own w' w.heap.size u (frameC l) ∧ Below w.heap.size w w' := by
  obtain ⟨pa, ca, rfl⟩ := hv.len
  have i1 : ¬ (65536 : Int) < (l.length : Int) := by omega
  have HFR := Lib.hid (fun w' T (hb : Below w.heap.size w w') (ht : TabAt w' T 0) => frame_calls w' T 0 _ l ht (hv.low hb) (by omega))
  have HT := Lib.hid (table_calls w)
  clear hv hlen
  go_enter Tryz.func72, Tryz.ntmps72
  go_wp2_with (first
    | (go_at_call 63; refine (HFR.out w3 _ B3 t3).mono ?_; rintro e w4 ⟨u, rfl, O4, b4⟩)
    | (refine wpList_store_row (by rfl) 103 _ _ (by rfl) w1.heap.size (tabRow 256).toArray (by rfl) (by rfl) 103 _ h2 (by rw [size_tab]; simp [tabRow_length]) (by simp [zeroNums, tabRow_length]) (tabRow_one _) ?_; have t3 := TabAt.of_whole (h2.row (tabRow 256)); have B3 := b1.trans ((b2.grown (grown_row (World.grownBy.refl w2 (some w1.heap.size)) (.inl rfl) (tabRow 256).toArray) b2.size (fun i hi => by injection hi with hi; omega)).mono b1.size); generalize w2.setRow w1.heap.size (tabRow 256).toArray = w3 at t3 B3 ⊢)
    | (refine wpList_alloc_row (by rfl) 103 (by rfl) _ _ info_tab ?_; have h2 := Whole.new w1 103 (zeroNums .u32 256).toArray; have b2 : Below w1.heap.size w1 (w1.alloc (.cells (zeroNums .u32 256).toArray 103)) := (Below.refl _ _).alloc (Nat.le_refl _) _; generalize w1.alloc (.cells (zeroNums .u32 256).toArray 103) = w2 at h2 b2 ⊢)
    | (go_at_call 56; refine HT.out.mono ?_; rintro e w1 ⟨rfl, b1⟩)
    | fail)
  go_ret2
  exact ⟨u, rfl, own_down B3.size O4, B3.trans (b4.mono B3.size)⟩

end Go.Proofs.YtmmlpbepaefamaaGreatDoor
