/- The text of a digest: its digits, and both Texts. -/
import Derived.Test.YtngklnijmhlikaaDoorScript
namespace Go.Proofs.YtngklnijmhlikaaDoor
open Go.RowKit

/-- A digit's sign. -/
def hexDig (n : BitVec 8) : BitVec 8 := if n.toNat < 10 then 48#8 + n else 97#8 + n - 10#8
/-- A sign's digit, and whether it is one. -/
def hexVal (c : BitVec 8) : BitVec 8 × Bool := if 48 ≤ c.toNat ∧ c.toNat ≤ 57 then (c - 48#8, true) else if 97 ≤ c.toNat ∧ c.toNat ≤ 102 then (c - 97#8 + 10#8, true) else (0#8, false)
/-- The text of a digest. -/
def hexText (d : List (BitVec 8)) : List (BitVec 8) := d.flatMap fun (c : BitVec 8) => [hexDig (c >>> 4), hexDig (c &&& 15#8)]
theorem hexText_length : ∀ d : List (BitVec 8), (hexText d).length = 2 * d.length
  | [] => rfl
  | c :: d => by
    have := hexText_length d
    simp only [hexText, List.flatMap_cons, List.length_append, List.length_cons, List.length_nil] at this ⊢
    omega
theorem hexText_snoc (d : List (BitVec 8)) (c : BitVec 8) : hexText (d ++ [c]) = hexText d ++ [hexDig (c >>> 4), hexDig (c &&& 15#8)] := by simp [hexText]

theorem digit_calls (w : World) (n : BitVec 8) : Calls Tryd.prog 76 #[vu8 n] w fun e w' => e = .returned (vu8 (hexDig n)) ∧ w = w' := by
  by_cases h : n.toNat < 10
  · have h1 : (n.toNat : Int) < 10 := by omega
    go_enter Tryd.func76, Tryd.ntmps76
    go_wp2
    go_ret
    exact ⟨by simp [hexDig, h], rfl⟩
  · have h1 : ¬ (n.toNat : Int) < 10 := by omega
    go_enter Tryd.func76, Tryd.ntmps76
    go_wp2
    go_ret
    exact ⟨by simp [hexDig, h], rfl⟩

theorem value_calls (w : World) (c : BitVec 8) : Calls Tryd.prog 75 #[vu8 c] w fun e w' => e = .returned (.tuple #[vu8 (hexVal c).1, .bool (hexVal c).2]) ∧ w = w' := by
  by_cases h1 : 48 ≤ c.toNat
  · have i1 : (48 : Int) ≤ (c.toNat : Int) := by omega
    by_cases h2 : c.toNat ≤ 57
    · have i2 : (c.toNat : Int) ≤ 57 := by omega
      go_enter Tryd.func75, Tryd.ntmps75
      go_wp2
      go_ret2
      exact ⟨by simp [hexVal, h1, h2], rfl⟩
    · have i2 : ¬ (c.toNat : Int) ≤ 57 := by omega
      by_cases h3 : 97 ≤ c.toNat
      · have i3 : (97 : Int) ≤ (c.toNat : Int) := by omega
        by_cases h4 : c.toNat ≤ 102
        · have i4 : (c.toNat : Int) ≤ 102 := by omega
          go_enter Tryd.func75, Tryd.ntmps75
          go_wp2
          go_ret2
          exact ⟨by simp [hexVal, h2, h3, h4], rfl⟩
        · have i4 : ¬ (c.toNat : Int) ≤ 102 := by omega
          go_enter Tryd.func75, Tryd.ntmps75
          go_wp2
          go_ret2
          exact ⟨by simp [hexVal, h2, h3, h4]; rfl, rfl⟩
      · have i3 : ¬ (97 : Int) ≤ (c.toNat : Int) := by omega
        go_enter Tryd.func75, Tryd.ntmps75
        go_wp2
        go_ret2
        exact ⟨by simp [hexVal, h2, h3]; rfl, rfl⟩
  · have i1 : ¬ (48 : Int) ≤ (c.toNat : Int) := by omega
    have i3 : ¬ (97 : Int) ≤ (c.toNat : Int) := by omega
    go_enter Tryd.func75, Tryd.ntmps75
    go_wp2
    go_ret2
    exact ⟨by simp [hexVal, h1, show ¬ 97 ≤ c.toNat by omega]; rfl, rfl⟩

theorem BytesAt.row (w : World) (t : TypeId) (ys : List (BitVec 8)) : BytesAt (w.alloc (.cells (ys.map vu8).toArray t)) w.heap.size 0 ys :=
  BytesAt.of_whole (pre := []) (post := []) (t := t) (by
    have := Whole.new w t (ys.map vu8).toArray
    simpa using this) rfl
theorem SliceIs.row (w : World) (t : TypeId) (ys : List (BitVec 8)) (c : Nat) : SliceIs (w.alloc (.cells (ys.map vu8).toArray t)) (.slice (some ⟨w.heap.size, 0, none⟩) ys.length c) ys :=
  .inr ⟨w.heap.size, 0, c, rfl, by simp, BytesAt.row w t ys⟩

/-- An array of bytes by value, at an index. -/
theorem run_index_byte (w : World) (xs : List (BitVec 8)) (k : Nat) (hk : k < 32) (x : BitVec 8) (hxk : xs[k]? = some x) : (Instr.index 25 (.agg (xs.map vu8).toArray) (.int .i64 k)).run Tryd.prog w = .ok (vu8 x) w := by
  obtain ⟨i, hi, hs⟩ := info_d_u8
  have h2 : 0 ≤ (k : Int) ∧ (k : Int) < (32 : Int) := by omega
  simp [Instr.index, run_underlying Tryd.underlying25, asIntOf, h2, hk, part, isAgg, run_underlying Tryd.underlying5, sizeOf, typeInfo, hi, hs, hxk, go_sem]

def hexSigns : ByteArray := ⟨#[48, 49, 50, 51, 52, 53, 54, 55, 56, 57, 97, 98, 99, 100, 101, 102]⟩
theorem run_index_sign (w : World) (n : BitVec 8) (hn : n.toNat < 16) : (Instr.index 9 (.string hexSigns) (vu8 n)).run Tryd.prog w = .ok (vu8 (hexDig n)) w := by
  obtain ⟨k, hk⟩ : ∃ k, n.toNat = k := ⟨_, rfl⟩
  have hn' : n = BitVec.ofNat 8 k := by
    apply BitVec.eq_of_toNat_eq
    rw [BitVec.toNat_ofNat, hk]
    omega
  subst hn'
  rw [vu8_def, run_index_string (P := Tryd.prog) w 9 hexSigns .u8 _ Tryd.underlying9]
  have : k = 0 ∨ k = 1 ∨ k = 2 ∨ k = 3 ∨ k = 4 ∨ k = 5 ∨ k = 6 ∨ k = 7 ∨ k = 8 ∨ k = 9 ∨ k = 10 ∨ k = 11 ∨ k = 12 ∨ k = 13 ∨ k = 14 ∨ k = 15 := by omega
  rcases this with rfl | rfl | rfl | rfl | rfl | rfl | rfl | rfl | rfl | rfl | rfl | rfl | rfl | rfl | rfl | rfl <;> rfl

theorem shr4_lt (c : BitVec 8) : (c >>> 4).toNat < 16 := by
  have := c.isLt
  simp [BitVec.toNat_ushiftRight, Nat.shiftRight_eq_div_pow]
  omega
theorem and15_lt (c : BitVec 8) : (c &&& 15#8).toNat < 16 := by
  have : (c &&& 15#8).toNat = c.toNat % 16 := by
    simp only [BitVec.toNat_and]
    exact Nat.and_two_pow_sub_one_eq_mod c.toNat 4
  omega

theorem hexText_next (d : List (BitVec 8)) (k : Nat) (c : BitVec 8) (hc : d[k]? = some c) : hexText (d.take (k + 1)) = hexText (d.take k) ++ [hexDig (c >>> 4), hexDig (c &&& 15#8)] := by
  have hk : k < d.length := (List.getElem?_eq_some_iff.1 hc).1
  have hv : d[k] = c := (List.getElem?_eq_some_iff.1 hc).2
  rw [List.take_succ_eq_append_getElem hk, hexText_snoc, hv]

set_option maxRecDepth 100000 in
set_option maxHeartbeats 1000000 in
theorem text_calls (w : World) (d : List (BitVec 8)) (hd : d.length = 32) :
    Calls Tryd.prog 39 #[.agg (d.map vu8).toArray] w fun e w' => e = .returned (.string (textOf (hexText d))) ∧ Below w.heap.size w w' := by
  go_enter Tryd.func39, Tryd.ntmps39
  go_upto_region 1 with (refine wpList_box_row (by rfl) 25 _ (by rfl) (d.map vu8).toArray (by rfl) ?_)
  have hr := Whole.new w 25 (d.map vu8).toArray
  have hB : Below w.heap.size w (w.alloc (.cells (d.map vu8).toArray 25)) := (Below.refl _ _).alloc (Nat.le_refl _) _
  generalize (w.alloc (.cells (d.map vu8).toArray 25)) = w1 at *
  go_upto_region 3 with (refine wpList_load_row (by rfl) 25 _ (by rfl) w.heap.size (by rfl) 25 (d.map vu8).toArray (0, 0) _ hr Tryd.underlying25 (by rfl) (by rw [size_d]; simp [hd]) ?_)
  go_wp2
  go_loopw [3, 7] (fun v i wr => ∃ k : Nat, k ≤ 32 ∧ i = .int .i64 k ∧ Own wr w.heap.size v (hexText (d.take k)) ∧ Below w.heap.size w wr) (fun _ i _ => 32 - (intOf i).toNat)
  case atStart => exact ⟨0, by omega, rfl, Own.nil _ _, hB⟩
  case round =>
    obtain ⟨k, hk, rfl, hO, hBr⟩ := hrel
    by_cases hlt : k < 32
    · obtain ⟨c, hc⟩ : ∃ c, d[k]? = some c := ⟨d[k], List.getElem?_eq_getElem (by omega)⟩
      have i1 : (k : Int) < 32 := by omega
      have x1 : ∀ w' : World, (Instr.index 25 (.agg (d.map vu8).toArray) (.int .i64 k)).run Tryd.prog w' = .ok (vu8 c) w' := fun w' => run_index_byte w' d k hlt c hc
      have x2 : ∀ w' : World, (Instr.index 9 (.string ⟨#[48, 49, 50, 51, 52, 53, 54, 55, 56, 57, 97, 98, 99, 100, 101, 102]⟩) (vu8 (c >>> 4))).run Tryd.prog w' = .ok (vu8 (hexDig (c >>> 4))) w' := fun w' => run_index_sign w' _ (shr4_lt c)
      have x3 : ∀ w' : World, (Instr.index 9 (.string ⟨#[48, 49, 50, 51, 52, 53, 54, 55, 56, 57, 97, 98, 99, 100, 101, 102]⟩) (vu8 (c &&& 15#8))).run Tryd.prog w' = .ok (vu8 (hexDig (c &&& 15#8))) w' := fun w' => run_index_sign w' _ (and15_lt c)
      have hl : (hexText (d.take k)).length ≤ 64 := by rw [hexText_length]; simp; omega
      have hs := hBr.size
      have hnx := hexText_next d k c hc
      have HN := Lib.hid hnx
      clear hnx
      go_upto_region 5 with (fail)
      go_region_held3 (fun _ => True) (trivial) (first
        | ((refine step_append_slice (by rfl) (.tmp 10) (.tmp 17) (by rfl) w.heap.size u3 (hexText (d.take k)) (by rfl) ((show Own wr.drew w.heap.size u3 _ from hO).alloc _) _ [hexDig (c >>> 4), hexDig (c &&& 15#8)] (by rfl) (SliceIs.row wr.drew _ [hexDig (c >>> 4), hexDig (c &&& 15#8)] 2) (by simp; omega) (by simp; omega) ?_; intro v1 w1' hO1 hG1)))
      all_goals
        go_wp2
        rw [← HN.out] at hO1
        refine ⟨⟨k + 1, by omega, by go_num, hO1, ?_⟩, by simp [intOf]; omega⟩
        have hB2 : w.heap.size ≤ (wr.alloc (.cells #[vu8 (hexDig (c >>> 4)), vu8 (hexDig (c &&& 15#8))] 5)).heap.size := by simp; omega
        exact ((hBr.alloc hBr.size (.cells #[vu8 (hexDig (c >>> 4)), vu8 (hexDig (c &&& 15#8))] 5)).drew).grown hG1 hB2 hO.high
    · obtain rfl : k = 32 := by omega
      have hfull : d.take 32 = d := List.take_of_length_le (by omega)
      rw [hfull] at hO
      have hcv := fun w' (h : SliceIs w' u3 (hexText d)) => run_convert_slice w' u3 (hexText d) h
      have hcv1 := hcv wr hO.slice
      go_wp2
      go_ret
      exact ⟨rfl, hBr⟩

theorem quo16 (w : World) (c : BitVec 8) : (binOp .quo 5 (vu8 c) (.int .u8 16)).run Tryd.prog w = .ok (vu8 (c >>> 4)) w := by
  have hlt := c.isLt
  have h1 : Int.tdiv (c.toNat : Int) 16 = ((c.toNat / 16 : Nat) : Int) := by rw [Int.tdiv_eq_ediv_of_nonneg (by omega)]; omega
  have h2 : IntKind.u8.wrap ((c.toNat / 16 : Nat) : Int) = ((c.toNat / 16 : Nat) : Int) := by
    simp [IntKind.wrap, IntKind.bits, IntKind.signed]
    omega
  have h3 : (c >>> 4).toNat = c.toNat / 16 := by simp [BitVec.toNat_ushiftRight, Nat.shiftRight_eq_div_pow]
  unfold vu8
  rw [h3]
  simp [binOp, Op.intDiv, h1]
  rw [show ((c.toNat : Int) / 16) = ((c.toNat / 16 : Nat) : Int) from by omega, h2]
theorem rem16 (w : World) (c : BitVec 8) : (binOp .rem 5 (vu8 c) (.int .u8 16)).run Tryd.prog w = .ok (vu8 (c &&& 15#8)) w := by
  have hlt := c.isLt
  have h1 : Int.tmod (c.toNat : Int) 16 = ((c.toNat % 16 : Nat) : Int) := by rw [Int.tmod_eq_emod_of_nonneg (by omega)]; omega
  have h3 : (c &&& 15#8).toNat = c.toNat % 16 := by
    simp only [BitVec.toNat_and]
    exact Nat.and_two_pow_sub_one_eq_mod c.toNat 4
  unfold vu8
  rw [h3]
  simp [binOp, Op.intDiv, h1]

set_option maxRecDepth 100000 in
set_option maxHeartbeats 1000000 in
theorem reftext_calls (w : World) (d : List (BitVec 8)) (hd : d.length = 32) :
    Calls Tryd.prog 40 #[.agg (d.map vu8).toArray] w fun e w' => e = .returned (.string (textOf (hexText d))) ∧ Below w.heap.size w w' := by
  go_enter Tryd.func40, Tryd.ntmps40
  go_upto_region 1 with (refine wpList_box_row (by rfl) 25 _ (by rfl) (d.map vu8).toArray (by rfl) ?_)
  have hr := Whole.new w 25 (d.map vu8).toArray
  have hB : Below w.heap.size w (w.alloc (.cells (d.map vu8).toArray 25)) := (Below.refl _ _).alloc (Nat.le_refl _) _
  have hz : (w.alloc (.cells (d.map vu8).toArray 25)).heap.size = w.heap.size + 1 := by simp
  generalize (w.alloc (.cells (d.map vu8).toArray 25)) = w1 at *
  obtain ⟨B, hBz⟩ : ∃ B, w1.heap.size = B := ⟨_, rfl⟩
  rw [hBz] at hz
  obtain ⟨H, hH⟩ : ∃ H, w.heap.size = H := ⟨_, rfl⟩
  rw [hH] at hr hB hz ⊢
  have hBz' := Nat.le_of_eq hBz.symm
  have HH := Lib.hid hH
  clear hH hBz
  go_wp2
  go_loopw [3, 4] (fun v i wr => ∃ k : Nat, k ≤ 32 ∧ i = .int .i64 k ∧ Own wr B v (hexText (d.take k)) ∧ Below H w wr ∧ Whole wr H 25 (d.map vu8) ∧ B ≤ wr.heap.size) (fun _ i _ => 32 - (intOf i).toNat)
  case atStart => exact ⟨0, by omega, rfl, Own.nil _ _, hB, hr, by omega⟩
  case round =>
    obtain ⟨k, hk, rfl, hO, hBr, hR, hs⟩ := hrel
    by_cases hlt : k < 32
    · obtain ⟨c, hc⟩ : ∃ c, d[k]? = some c := ⟨d[k], List.getElem?_eq_getElem (by omega)⟩
      have i1 : (k : Int) < 32 := by omega
      have i2 : 0 ≤ (k : Int) ∧ (k : Int) < 32 := by omega
      have cK : wr.cell? ⟨H, k, none⟩ = some (vu8 c) := hR.cell_of (by rw [List.getElem?_map, hc]; rfl)
      have x2 : ∀ w' : World, (binOp .quo 5 (vu8 c) (.int .u8 16)).run Tryd.prog w' = .ok (vu8 (c >>> 4)) w' := fun w' => quo16 w' c
      have x3 : ∀ w' : World, (binOp .rem 5 (vu8 c) (.int .u8 16)).run Tryd.prog w' = .ok (vu8 (c &&& 15#8)) w' := fun w' => rem16 w' c
      have hl : (hexText (d.take k)).length ≤ 64 := by rw [hexText_length]; simp; omega
      have hHl := hR.lt
      have hnx := hexText_next d k c hc
      have HN := Lib.hid hnx
      have HR := Lib.hid hR
      clear hnx hR
      go_upto_region 5 with (fail)
      go_region_held3 (fun w' => w'.cell? ⟨H, k, none⟩ = some (vu8 c)) (first
        | exact cK
        | exact (World.cell?_alloc_lt _ _ ⟨H, k, none⟩ hHl).trans cK
        | exact cK1
        | go_keep) (first
        | ((go_at_call 76; refine (digit_calls _ _).mono ?_; rintro e w' ⟨rfl, rfl⟩))
        | ((refine step_append_slice (by rfl) (.tmp 9) (.tmp 20) (by rfl) B u3 (hexText (d.take k)) (by rfl) ((show Own wr.drew B u3 _ from hO).alloc _) _ [hexDig (c >>> 4), hexDig (c &&& 15#8)] (by rfl) (SliceIs.row wr.drew _ [hexDig (c >>> 4), hexDig (c &&& 15#8)] 2) (by simp; omega) (by simp; omega) ?_; intro v1 w1' hO1 hG1; have cK1 : w1'.cell? ⟨H, k, none⟩ = some (vu8 c) := World.grownBy.cell hG1 ((World.cell?_alloc_lt wr _ ⟨H, k, none⟩ hHl).trans cK) (fun e => by have := hO.high H e.symm; omega)))
        | fail)
      all_goals
        go_wp2
        rw [← HN.out] at hO1
        have hne : ∀ j, u3.ownBlock = some j → H + 1 ≤ j := fun j hj => by have := hO.high j hj; omega
        have hW1 := ((HR.out.alloc (.cells #[vu8 (hexDig (c >>> 4)), vu8 (hexDig (c &&& 15#8))] 5)).drew).grown hG1 (fun e => by have := hne H e.symm; omega)
        have hs1 := hG1.size
        simp at hs1
        refine ⟨⟨k + 1, by omega, by go_num, hO1, ?_, hW1, by omega⟩, by simp [intOf]; omega⟩
        have hB2 : H ≤ (wr.alloc (.cells #[vu8 (hexDig (c >>> 4)), vu8 (hexDig (c &&& 15#8))] 5)).heap.size := by simp; omega
        exact ((hBr.alloc (by omega) (.cells #[vu8 (hexDig (c >>> 4)), vu8 (hexDig (c &&& 15#8))] 5)).drew).grown hG1 hB2 (fun j hj => by have := hne j hj; omega)
    · obtain rfl : k = 32 := by omega
      have hfull : d.take 32 = d := List.take_of_length_le (by omega)
      rw [hfull] at hO
      have hcv1 := run_convert_slice wr u3 (hexText d) hO.slice
      go_wp2
      go_ret
      exact ⟨rfl, by rw [HH.out]; exact hBr⟩

end Go.Proofs.YtngklnijmhlikaaDoor
