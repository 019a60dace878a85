/- The reference's Sum: the digest of bytes. -/
import Derived.Test.YtglcingpolpkdaaDoorRefBlk
import Derived.Test.YtglcingpolpkdaaDoorOwn
import Derived.Test.YtglcingpolpkdaaDoorPad
import Derived.Test.YtglcingpolpkdaaDoorNil
namespace Go.Proofs.YtglcingpolpkdaaDoor
open Go.RowKit

theorem refbegin_calls (w : World) : Calls Tryd.prog 47 #[] w fun e w' => e = .returned (.agg (shaBegin.list.map vu32).toArray) ∧ Below w.heap.size w w' := by
  go_enter Tryd.func47, Tryd.ntmps47
  go_upto_region 1 with (refine wpList_alloc_row (by rfl) 104 (by rfl) _ _ info_8 ?_)
  have hr := Whole.new w 104 (zeroNums .u32 8).toArray
  have hB : Below w.heap.size w (w.alloc (.cells (zeroNums .u32 8).toArray 104)) := (Below.refl _ _).alloc (Nat.le_refl _) _
  generalize w.alloc (.cells (zeroNums .u32 8).toArray 104) = w2 at *
  apply wp_region_lit
  refine wpList_build_as (by rfl) _ _ (by rfl) (shaBegin.list.map vu32).toArray (by kernel_rfl) ?_
  refine wpList_store_row (by rfl) 104 _ _ (by rfl) w.heap.size (shaBegin.list.map vu32).toArray (by rfl) (by rfl) 104 _ hr size_8 (by simp [zeroNums, Eight.list]) (all_u32 _) ?_
  go_wp2
  exact bodyPost_ret (results_cell_row rfl _ _ w.heap.size 104 _ (0, 0) _ rfl (hr.row _) Tryd.underlying104 rfl size_8) rfl ⟨rfl, hB.grown (grown_row (World.grownBy.refl _ (some w.heap.size)) (.inl rfl) _) hB.size (fun k hk => by simp at hk; omega)⟩

theorem size_words : (Tryd.prog.info? 112).map (·.size) = some 64 := by kernel_rfl
theorem shaK_len : shaK.length = 64 := rfl

theorem reftable_calls (w : World) : Calls Tryd.prog 48 #[] w fun e w' => e = .returned (.agg (shaK.map vu32).toArray) ∧ Below w.heap.size w w' := by
  go_enter Tryd.func48, Tryd.ntmps48
  go_upto_region 1 with (refine wpList_alloc_row (by rfl) 112 (by rfl) _ _ info_w ?_)
  have hr := Whole.new w 112 (zeroNums .u32 64).toArray
  have hB : Below w.heap.size w (w.alloc (.cells (zeroNums .u32 64).toArray 112)) := (Below.refl _ _).alloc (Nat.le_refl _) _
  generalize w.alloc (.cells (zeroNums .u32 64).toArray 112) = w2 at *
  apply wp_region_lit
  refine wpList_build_as (by rfl) _ _ (by rfl) (shaK.map vu32).toArray (by kernel_rfl) ?_
  refine wpList_store_row (by rfl) 112 _ _ (by rfl) w.heap.size (shaK.map vu32).toArray (by rfl) (by rfl) 112 _ hr (by rw [size_words]; simp [shaK_len]) (by simp [zeroNums, shaK_len]) (all_u32 _) ?_
  go_wp2
  exact bodyPost_ret (results_cell_row rfl _ _ w.heap.size 112 _ (0, 0) _ rfl (hr.row _) Tryd.underlying112 rfl (by rw [size_words]; simp [shaK_len])) rfl ⟨rfl, hB.grown (grown_row (World.grownBy.refl _ (some w.heap.size)) (.inl rfl) _) hB.size (fun k hk => by simp at hk; omega)⟩

theorem eight_calls (w : World) (n : BitVec 64) : Calls Tryd.prog 41 #[vu64 n] w fun e w' => ∃ v, e = .returned v ∧ Own w' w.heap.size v (eightBytes n) ∧ Below w.heap.size w w' := by
  go_enter Tryd.func41, Tryd.ntmps41
  go_wp2
  go_loopw [3, 4] (fun v i wr => ∃ j : Nat, j ≤ 8 ∧ i = .int .i64 j ∧ Own wr w.heap.size v ((eightBytes n).take j) ∧ Below w.heap.size w wr) (fun _ i _ => 8 - (intOf i).toNat)
  case atStart => exact ⟨0, by omega, rfl, Own.nil _ _, Below.refl _ _⟩
  case round =>
    obtain ⟨j, hj, rfl, hR, hB⟩ := hrel
    by_cases hlt : j < 8
    · have i1 : (j : Int) < 8 := by omega
      have t2 : w.heap.size ≤ wr.heap.size := hB.size
      have s0 : IntKind.i64.wrap (8 * (j : Int)) = 8 * (j : Int) := IntWalk.i64_in _ (by omega)
      have s1 : IntKind.i64.wrap (56 - 8 * (j : Int)) = 56 - 8 * (j : Int) := IntWalk.i64_in _ (by omega)
      have t1 : (0 : Int) ≤ 56 - 8 * (j : Int) := by omega
      have t5 : 8 * (j : Int) ≤ 56 := by omega
      have t3 : (56 - 8 * (j : Int)).toNat = 56 - 8 * j := by omega
      have hlen : ((eightBytes n).take j).length ≤ 8 := by simp [eightBytes_length]; omega
      go_wp2_with (at_builtin; refine wpList_append_one (by rfl) (.tmp 9) (.tmp 16) (by rfl) w.heap.size _ _ (by rfl) hR _ ((n >>> (56 - 8 * j)).setWidth 8) (by rfl) (by rfl) (by omega) t2 ?_; intro v1 w1 hO1 hG1)
      go_roundw
      case rel =>
        refine ⟨j + 1, by omega, by go_num, ?_, hB.grown hG1 hB.size hR.high⟩
        rw [eightBytes_take _ _ hlt]
        exact hO1
      case measure => simp [intOf]; omega
    · obtain rfl : j = 8 := by omega
      go_wp2
      go_ret
      rw [List.take_of_length_le (by rw [eightBytes_length]; omega)] at hR
      exact ⟨_, rfl, hR, hB⟩

theorem Own.made (w : World) (B H : Nat) (hH : w.heap.size = H) (hB : B ≤ w.heap.size) : Own (w.alloc (.cells #[] 5)) B (.slice (some ⟨H, 0, none⟩) 0 0) [] := by
  subst hH
  exact World.ownsRow_made w #[] 0 hB (by simp [maxLen]) (by simp)
theorem Own.low {w w' : World} {B : Nat} {v : Value} {xs : List (BitVec 8)} (h : Own w B v xs) (hb : Below w.heap.size w w') : Own w' B v xs :=
  h.kept (below_grown hb none) (by cases v.ownBlock <;> simp)
theorem SliceIs.len {w : World} {sl : Value} {ys : List (BitVec 8)} (h : SliceIs w sl ys) : ∃ ao c, sl = .slice ao ys.length c := by
  rcases h with ⟨rfl, rfl | ⟨ad, c, rfl⟩⟩ | ⟨b, o, c, rfl, _⟩
  · exact ⟨_, _, rfl⟩
  · exact ⟨_, _, rfl⟩
  · exact ⟨_, _, rfl⟩
theorem SliceIs.alloc {w : World} {sl : Value} {ys : List (BitVec 8)} (h : SliceIs w sl ys) (o : Obj) : SliceIs (w.alloc o) sl ys := h.low ((Below.refl _ _).alloc (Nat.le_refl _) o)

/-- How long a slice is. -/
def lenOf : Value → Nat
  | .slice _ n _ => n
  | _ => 0

/-- Where the reference's Sum stands: its result lies in a block of its own. -/
def RefSumIn (w0 w : World) : Prop := Below w0.heap.size w0 w ∧ Whole w w0.heap.size 24 (zeroNums .u8 32)
theorem RefSumIn.grown {w0 w w' : World} {row : Option Nat} (h : RefSumIn w0 w) (hg : w.grownBy w' row) (hr : ∀ k, row = some k → w0.heap.size + 1 ≤ k) : RefSumIn w0 w' :=
  ⟨h.1.grown hg h.1.size fun k hk => by have := hr k hk; omega, h.2.grown hg fun e => by have := hr _ e.symm; omega⟩
theorem RefSumIn.size {w0 w : World} (h : RefSumIn w0 w) : w0.heap.size + 1 ≤ w.heap.size := h.2.lt

/-- Where the loop over the blocks stands. -/
def RefLoop (w0 w : World) (HB KB g : Nat) (s : Eight) (l : List (BitVec 8)) : Prop :=
  RefSumIn w0 w ∧ Whole w HB 104 (s.list.map vu32) ∧ Whole w KB 112 (shaK.map vu32) ∧ g < w.heap.size ∧ BytesAt w g 0 l

/-- The reference's Sum from its result on. -/
noncomputable def refOut : Code := subCode [1, 1, 1, 1, 1, 1, 1, 1] ((Tryd.f42.body).getD .skip)

/-- The first bytes of a digest, and zeros. -/
def outRow (s : Eight) (k : Nat) : List Value := ((digestBytes s).take k).map vu8 ++ zeroNums .u8 (32 - k)
theorem outRow_length (s : Eight) (k : Nat) (hk : k ≤ 32) : (outRow s k).length = 32 := by
  simp [outRow, digestBytes_length, zeroNums]; omega
theorem outRow_all (s : Eight) : outRow s 32 = (digestBytes s).map vu8 := by
  simp [outRow, zeroNums, List.take_of_length_le, digestBytes_length]
theorem outRow_next (s : Eight) (k a b : Nat) (hk : k < 32) (ha : k / 4 = a) (hb : k % 4 = b) (x : BitVec 32) (hx : s.list.getD a 0 = x) :
    (outRow s k).set k (vu8 ((x >>> (24 - 8 * b)).setWidth 8)) = outRow s (k + 1) := by
  subst ha hb hx
  have hl : (digestBytes s).length = 32 := digestBytes_length s
  unfold outRow
  rw [List.take_succ_eq_append_getElem (by omega), List.map_append, List.append_assoc, List.set_append_right _ _ (by simp; omega)]
  congr 1
  rw [List.length_map, List.length_take, show k - min k (digestBytes s).length = 0 from by omega, show 32 - k = (32 - (k + 1)) + 1 from by omega]
  simp only [zeroNums, List.replicate_succ, List.set_cons_zero]
  simp [digestBytes]

/-- Where the loop over the bytes stands. -/
def OutIn (w0 w : World) (HB DB : Nat) (s : Eight) (k : Nat) : Prop :=
  RefSumIn w0 w ∧ Whole w HB 104 (s.list.map vu32) ∧ Whole w DB 24 (outRow s k)

set_option maxRecDepth 100000 in
set_option maxHeartbeats 4000000 in
theorem refsum_out {z0 z1 z3 z5 z6 z7 z8 z9 z10 z11 z12 z13 z14 z15 z16 z17 z18 z19 z20 z21 z22 z23 z24 z25 z26 z27 z28 z29 z30 z31 z32 z33 z34 z35 z36 z37 z38 z39 z40 z41 z42 z43 z44 z45 z46 z47 z48 z49 z50 z51 z52 z53 z54 z55 z56 z57 z58 : Value} (w wc : World) (HB : Nat) (s : Eight) (D : List (BitVec 8)) (hDs : digestBytes s = D) (hI : RefSumIn w wc) (hH : Whole wc HB 104 (s.list.map vu32)) :
    Code.wp Tryd.prog refOut (bodyPost Tryd.prog Tryd.f42 fun e w' => e = .returned (.agg (D.map vu8).toArray) ∧ Below w.heap.size w w') ⟨(z0 :: z1 :: .pointer (some ⟨w.heap.size, 0, none⟩) :: z3 :: .pointer (some ⟨HB, 0, none⟩) :: z5 :: z6 :: z7 :: z8 :: z9 :: z10 :: z11 :: z12 :: z13 :: z14 :: z15 :: z16 :: z17 :: z18 :: z19 :: z20 :: z21 :: z22 :: z23 :: z24 :: z25 :: z26 :: z27 :: z28 :: z29 :: z30 :: z31 :: z32 :: z33 :: z34 :: z35 :: z36 :: z37 :: z38 :: z39 :: z40 :: z41 :: z42 :: z43 :: z44 :: z45 :: z46 :: z47 :: z48 :: z49 :: z50 :: z51 :: z52 :: z53 :: z54 :: z55 :: z56 :: z57 :: z58 :: []).toArray, []⟩ wc := by
  subst hDs
  conv => arg 2; whnf
  go_upto_region 13 with (refine wpList_alloc_row (by rfl) 24 (by rfl) _ _ info_d ?_)
  have hD0 := Whole.new wc 24 (zeroNums .u8 32).toArray
  have hI0 : RefSumIn w (wc.alloc (.cells (zeroNums .u8 32).toArray 24)) := hI.grown (row := none) (grown_alloc (World.grownBy.refl _ _) _) (fun _ e => by cases e)
  have hH0 := hH.alloc (.cells (zeroNums .u8 32).toArray 24)
  have hzc := hI.size
  have hHl := hH.lt
  clear hI hH
  generalize (wc.alloc (.cells (zeroNums .u8 32).toArray 24)) = w2 at *
  generalize wc.heap.size = DB at *
  go_wp2
  go_loopw [8] (fun i wr => ∃ k : Nat, k ≤ 32 ∧ i = .int .i64 k ∧ OutIn w wr HB DB s k) (fun i _ => 32 - (intOf i).toNat)
  case atStart => exact ⟨0, by omega, rfl, hI0, hH0, hD0⟩
  case round =>
    obtain ⟨k, hk, rfl, hR⟩ := hrel
    by_cases hlt : k < 32
    · obtain ⟨a, ha⟩ : ∃ a, k / 4 = a := ⟨_, rfl⟩
      obtain ⟨b, hb⟩ : ∃ b, k % 4 = b := ⟨_, rfl⟩
      obtain ⟨x, hx⟩ : ∃ x, s.list.getD a 0 = x := ⟨_, rfl⟩
      have i1 : (k : Int) < 32 := by omega
      have i2 : 0 ≤ (k : Int) := by omega
      have d0 : Int.tdiv (k : Int) 4 = (a : Int) := by rw [Int.tdiv_eq_ediv_of_nonneg (by omega)]; omega
      have d1 : Int.tmod (k : Int) 4 = (b : Int) := by rw [Int.tmod_eq_emod_of_nonneg (by omega)]; omega
      have a0 : IntKind.i64.wrap (a : Int) = (a : Int) := IntWalk.i64_in _ (by omega)
      have b0 : IntKind.i64.wrap (b : Int) = (b : Int) := IntWalk.i64_in _ (by omega)
      have b1 : IntKind.i64.wrap (8 * (b : Int)) = 8 * (b : Int) := IntWalk.i64_in _ (by omega)
      have b2 : IntKind.i64.wrap (24 - 8 * (b : Int)) = 24 - 8 * (b : Int) := IntWalk.i64_in _ (by omega)
      have b3 : 0 ≤ 24 - 8 * (b : Int) := by omega
      have b4 : 8 * (b : Int) ≤ 24 := by omega
      have b5 : (24 - 8 * (b : Int)).toNat = 24 - 8 * b := by omega
      have a1 : (a : Int) < 8 := by omega
      have a3 : 0 ≤ (a : Int) := by omega
      have a2 : 0 ≤ (a : Int) ∧ (a : Int) < 8 := by omega
      have k2 : 0 ≤ (k : Int) ∧ (k : Int) < 32 := by omega
      have hD := hR.2.2
      have hnx := outRow_next s k a b hlt ha hb x hx
      have ol := outRow_length s k hk
      have hfree := hD.free k
      have c0 := hD.cell_of (List.getElem?_eq_getElem (show k < (outRow s k).length by omega))
      have c1 : wr.cell? ⟨HB, a, none⟩ = some (vu32 x) := hR.2.1.cell_of (by
        rw [List.getElem?_map, List.getElem?_eq_getElem (show a < s.list.length from by simp [Eight.list]; omega)]
        rw [List.getD_eq_getElem?_getD, List.getElem?_eq_getElem (show a < s.list.length from by simp [Eight.list]; omega)] at hx
        rw [← hx]
        simp)
      generalize (outRow s k)[k]'_ = d at c0
      have HR := Lib.hid hR
      have HD := Lib.hid hD
      have HN := Lib.hid hnx
      clear hR hD hnx hx ol ha hb
      go_wp2
      go_roundw
      case rel =>
        have hR := HR.out
        have hD := HD.out.put k (vu8 ((x >>> (24 - 8 * b)).setWidth 8))
        rw [HN.out] at hD
        refine ⟨k + 1, by omega, by go_num, ?_, hR.2.1.far (show HB ≠ DB by omega) _, hD⟩
        exact ⟨hR.1.1.setCell (show w.heap.size ≤ DB by omega) _, hR.1.2.far (show w.heap.size ≠ DB by omega) _⟩
      case measure => simp [intOf]; omega
    · obtain rfl : k = 32 := by omega
      obtain ⟨hI, hH, hz⟩ := hR
      rw [outRow_all] at hz
      go_upto_region 17 with (fail)
      have hr := hI.2
      apply wp_region_lit
      refine wpList_load_row (by rfl) 24 _ (by rfl) DB (by rfl) 24 ((digestBytes s).map vu8).toArray (0, 0) _ hz Tryd.underlying24 (by rfl) (by rw [size_d]; simp [digestBytes_length]) ?_
      refine wpList_store_row (by rfl) 24 _ _ (by rfl) w.heap.size ((digestBytes s).map vu8).toArray (by rfl) (by rfl) 24 _ hr (by rw [size_d]; simp [digestBytes_length]) (by simp [zeroNums, digestBytes_length]) (all_u8 _) ?_
      go_wp2
      exact bodyPost_ret (results_cell_row rfl _ _ w.heap.size 24 _ (0, 0) _ rfl (hr.row _) Tryd.underlying24 rfl (by rw [size_d]; simp [digestBytes_length])) rfl ⟨rfl, hI.1.grown (grown_row (World.grownBy.refl _ (some w.heap.size)) (.inl rfl) _) hI.1.size (fun k hk => by simp at hk; omega)⟩

set_option maxRecDepth 100000 in
set_option maxHeartbeats 4000000 in
theorem refsum_calls (w : World) (bs : List (BitVec 8)) (sl : Value) (hs : SliceIs w sl bs) (hsz : bs.length ≤ 549755813888) :
    Calls Tryd.prog 42 #[sl] w fun e w' => e = .returned (.agg ((sha bs).map vu8).toArray) ∧ Below w.heap.size w w' := by
  obtain ⟨ao, cp, rfl⟩ := hs.len
  have hpz : padZ bs.length = (119 - bs.length % 64) % 64 := rfl
  go_enter Tryd.func42, Tryd.ntmps42
  go_upto_region 1 with (refine wpList_alloc_row (by rfl) 24 (by rfl) _ _ info_d ?_)
  have hI1 : RefSumIn w (w.alloc (.cells (zeroNums .u8 32).toArray 24)) := ⟨(Below.refl _ _).alloc (Nat.le_refl _) _, Whole.new w 24 (zeroNums .u8 32).toArray⟩
  have hz1 : (w.alloc (.cells (zeroNums .u8 32).toArray 24)).heap.size = w.heap.size + 1 := by simp
  generalize (w.alloc (.cells (zeroNums .u8 32).toArray 24)) = w1 at *
  have hs1 := hs.low hI1.1
  go_upto_region 2 with (at_builtin; refine wpList_append_bytes (by rfl) (.tmp 9) (.tmp 10) (by rfl) (w.heap.size + 1) _ [] (by rfl) (Own.made w1 _ _ hz1 hI1.size) _ bs (by rfl) (hs1.alloc _) (by simp; omega) (by simp; omega) ?_; intro v2 w2 hO2 hG2)
  rw [List.nil_append] at hO2
  have hI2 : RefSumIn w w2 := (hI1.grown (row := none) (grown_alloc (World.grownBy.refl _ _) _) (fun _ e => by cases e)).grown hG2 (fun k hk => by simp [Value.ownBlock] at hk; omega)
  have hs2 : SliceIs w2 (.slice ao bs.length cp) bs := hs.low hI2.1
  have hz2 := hI2.size
  go_upto_block 0 with (at_builtin; refine wpList_append_one (by rfl) (.tmp 12) (.tmp 13) (by rfl) (w.heap.size + 1) _ _ (by rfl) hO2 (.int .u8 128) 128#8 (by rfl) (by rfl) (by omega) hz2 ?_; intro v3 w3 hO3 hG3)
  have hI3 : RefSumIn w w3 := hI2.grown hG3 hO2.high
  go_cut [3] (fun v w6 => Own w6 (w.heap.size + 1) v (bs ++ [128#8] ++ List.replicate (padZ bs.length) 0#8) ∧ RefSumIn w w6)
  case first =>
    go_wp2
    go_loopw [3] (fun v wr => ∃ k : Nat, k ≤ padZ bs.length ∧ Own wr (w.heap.size + 1) v (bs ++ [128#8] ++ List.replicate k 0#8) ∧ RefSumIn w wr) (fun v _ => bs.length + 128 - lenOf v)
    case atStart => exact ⟨0, by omega, by simpa using hO3, hI3⟩
    case round =>
      obtain ⟨k, hk, hR, hI⟩ := hrel
      obtain ⟨g, cap, rfl, hgB, hgl, hbr, hcap, hcm⟩ := hR.full (by simp)
      obtain ⟨L, hL⟩ : ∃ L, (bs ++ [128#8] ++ List.replicate k 0#8).length = L := ⟨_, rfl⟩
      have hL2 : L = bs.length + 1 + k := by rw [← hL]; simp; omega
      rw [hL] at hR hcap ⊢
      have t0 : Int.tmod (L : Int) 64 = (L : Int) % 64 := Int.tmod_eq_emod_of_nonneg (by omega)
      have t9 : IntKind.i64.wrap ((L : Int) % 64) = (L : Int) % 64 := IntWalk.i64_in _ (by omega)
      by_cases hlt : k < padZ bs.length
      · have t1 : ¬ (L : Int) % 64 = 56 := by omega
        have t2 : w.heap.size + 1 ≤ wr.heap.size := hI.size
        go_wp2_with (at_builtin; refine wpList_append_one (by rfl) (.tmp 19) (.tmp 20) (by rfl) (w.heap.size + 1) _ _ (by rfl) hR (.int .u8 0) 0#8 (by rfl) (by rfl) (by rw [hL]; omega) t2 ?_; intro v1 w1 hO1 hG1)
        refine ⟨⟨k + 1, by omega, ?_, hI.grown hG1 (fun j hj => by simp [Value.ownBlock] at hj; omega)⟩, ?_⟩
        · rw [List.replicate_succ', ← List.append_assoc]
          exact hO1
        · obtain ⟨g1, cap1, rfl, _⟩ := hO1.full (by simp)
          simp only [lenOf, List.length_append, List.length_singleton] at hL ⊢
          omega
      · obtain rfl : k = padZ bs.length := by omega
        have t1 : (L : Int) % 64 = 56 := by omega
        go_wp2
        go_meet
        case rel => exact ⟨hR, hI⟩
  case rest =>
    obtain ⟨hO4, hI4⟩ := hcut
    have hz4 := hI4.size
    go_step
    go_upto_region 6 with (first
      | (go_at_call 41; refine (eight_calls _ _).mono ?_; rintro e w5 ⟨v5, rfl, hE5, hB5⟩)
      | (at_builtin; refine wpList_append_bytes (by rfl) (.tmp 22) (.tmp 27) (by rfl) (w.heap.size + 1) _ _ (by rfl) (hO4.low hB5) _ _ (by rfl) hE5.slice (by simp [eightBytes_length]; omega) (Nat.le_trans hz4 hB5.size) ?_; intro v6 w6 hO6 hG6))
    have hpad : bs ++ [128#8] ++ List.replicate (padZ bs.length) 0#8 ++ eightBytes (8#64 * BitVec.ofNat 64 bs.length) = pad bs := by simp [pad, padTail]
    rw [hpad] at hO6
    have hI6 : RefSumIn w w6 := (hI4.grown (below_grown hB5 none) (fun _ e => by cases e)).grown hG6 hO4.high
    obtain ⟨g, cap, rfl, hgB, hgl, hbr, hcap, hcm⟩ := hO6.full (by simp [pad, padTail])
    have hmod := padTail_length bs.length
    have hpl : (pad bs).length = bs.length + (padTail bs.length).length := by simp [pad]
    obtain ⟨L, hL⟩ : ∃ L, (pad bs).length = L := ⟨_, rfl⟩
    rw [hL] at hcap hpl ⊢
    obtain ⟨q, hq⟩ : ∃ q, L / 64 = q := ⟨_, rfl⟩
    have hLq : L = 64 * q := by omega
    have hLb : L ≤ 1099511627776 := by omega
    have HLq := Lib.hid hLq
    have HS : Go.RowKit.Hid (digestBytes (absorb q shaBegin (pad bs)) = sha bs) := Lib.hid (by
      unfold sha
      rw [hL, hq])
    have hz6 := hI6.size
    clear hLq hq hpl hmod
    clear hO6 hO4 hO3 hO2 hG6 hG3 hG2 hE5 hB5 hI4 hI3 hI2 hI1 hz4 hz2 hs2 hs1
    go_upto_region 7 with (first
      | (go_at_call 47; refine (refbegin_calls _).mono ?_; rintro e w7 ⟨rfl, hB7⟩)
      | (refine wpList_alloc_row (by rfl) 104 (by rfl) _ _ info_8 ?_)
      | (refine wpList_store_new (by rfl) 104 _ _ (by rfl) _ (shaBegin.list.map vu32).toArray 104 (by rfl) (by rfl) size_8 (by simp [zeroNums, Eight.list]) (all_u32 _) ?_))
    have hH8 := Whole.new w7 104 (shaBegin.list.map vu32).toArray
    have hB8 : Below w6.heap.size w6 (w7.alloc (.cells (shaBegin.list.map vu32).toArray 104)) := hB7.alloc hB7.size _
    have hz7 := hB7.size
    generalize (w7.alloc (.cells (shaBegin.list.map vu32).toArray 104)) = w8 at *
    generalize w7.heap.size = HB at *
    have hz8 := hH8.lt
    simp only [Act.put, List.setIfInBounds_toArray, List.set_cons_zero, List.set_cons_succ]
    go_upto_region 8 with (first
      | (go_at_call 48; refine (reftable_calls _).mono ?_; rintro e w9 ⟨rfl, hB9⟩)
      | (refine wpList_alloc_row (by rfl) 112 (by rfl) _ _ info_w ?_)
      | (refine wpList_store_new (by rfl) 112 _ _ (by rfl) _ (shaK.map vu32).toArray 112 (by rfl) (by rfl) (by rw [size_words]; simp [shaK_len]) (by simp [zeroNums, shaK_len]) (all_u32 _) ?_))
    have hK9 := Whole.new w9 112 (shaK.map vu32).toArray
    have hB10 : Below w8.heap.size w8 (w9.alloc (.cells (shaK.map vu32).toArray 112)) := hB9.alloc hB9.size _
    have hz9 := hB9.size
    generalize (w9.alloc (.cells (shaK.map vu32).toArray 112)) = w10 at *
    generalize w9.heap.size = KB at *
    have hR0 : RefLoop w w10 HB KB g shaBegin (pad bs) := by
      have hb610 : Below w6.heap.size w6 w10 := hB8.trans (hB10.mono (by omega))
      exact ⟨hI6.grown (below_grown hb610 none) (fun _ e => by cases e), hH8.below hB10 hz8, hK9, Nat.lt_of_lt_of_le hgl hb610.size, hbr.below hb610 hgl⟩
    have hHK : HB < KB := by omega
    have hgH : g < HB := by omega
    have hwH : w.heap.size < HB := by omega
    clear hH8 hK9 hB10 hB8 hI6 hbr hB7 hB9
    simp only [Act.put, List.setIfInBounds_toArray, List.set_cons_zero, List.set_cons_succ]
    go_upto_block 2 with (fail)
    go_cut [6] (fun _ wr => RefLoop w wr HB KB g (absorb q shaBegin (pad bs)) (pad bs))
    case first =>
      go_wp2
      go_loopw [6] (fun i wr => ∃ j t : Nat, t = 64 * j ∧ j ≤ q ∧ i = .int .i64 t ∧ RefLoop w wr HB KB g (absorb j shaBegin (pad bs)) (pad bs)) (fun i _ => L - (intOf i).toNat)
      case atStart => exact ⟨0, 0, rfl, by omega, rfl, hR0⟩
      case round =>
        obtain ⟨j, t, ht, hj, rfl, hR⟩ := hrel
        by_cases hlt : t < L
        · have hblk : BytesAt wr g (0 + t) (((pad bs).drop t).take 64) := (hR.2.2.2.2.drop t).take 64
          have hbl : (((pad bs).drop t).take 64).length = 64 := by
            have := HLq.out
            simp [hL]
            omega
          have h64 : t + 64 ≤ L := by
            have := HLq.out
            omega
          have i1 : (t : Int) < (L : Int) := by omega
          have t4 : IntKind.i64.wrap ((t : Int) + 64) = (t : Int) + 64 := IntWalk.i64_in _ (by omega)
          have hz := hR.1.size
          have HT := Lib.hid ht
          clear ht
          go_wp2_with (first
            | (refine wpList_load_row (by rfl) 104 _ (by rfl) HB (by rfl) 104 ((absorb j shaBegin (pad bs)).list.map vu32).toArray (0, 0) _ hR.2.1 Tryd.underlying104 (by rfl) size_8 ?_)
            | (refine wpList_load_row (by rfl) 112 _ (by rfl) KB (by rfl) 112 (shaK.map vu32).toArray (0, 0) _ hR.2.2.1 Tryd.underlying112 (by rfl) (by rw [size_words]; simp [shaK_len]) ?_)
            | (go_at_call 49; refine (refblock_calls wr _ g 0 L cap t _ hblk hbl h64 hLb hR.2.2.2.1).mono ?_; rintro e w2 ⟨rfl, hB2⟩)
            | (refine wpList_store_row (by rfl) 104 _ _ (by rfl) HB ((compress (absorb j shaBegin (pad bs)) (((pad bs).drop t).take 64)).list.map vu32).toArray (by rfl) (by rfl) 104 _ (hR.2.1.below hB2 hR.2.1.lt) size_8 (by simp [Eight.list]) (all_u32 _) ?_))
          go_roundw
          case rel =>
            have HTo := HT.out
            have HLo := HLq.out
            refine ⟨j + 1, t + 64, by omega, by omega, by go_num, ?_⟩
            have hnew : absorb (j + 1) shaBegin (pad bs) = compress (absorb j shaBegin (pad bs)) (((pad bs).drop t).take 64) := by rw [absorb_succ, HTo]
            rw [hnew]
            have hg2 : wr.grownBy (w2.setRow HB ((compress (absorb j shaBegin (pad bs)) (((pad bs).drop t).take 64)).list.map vu32).toArray) (some HB) := grown_row (below_grown hB2 _) (.inl rfl) _
            exact ⟨hR.1.grown hg2 (fun k hk => by cases hk; omega), (hR.2.1.below hB2 hR.2.1.lt).row _, (hR.2.2.1.grown hg2 (by simp; omega)), Nat.lt_of_lt_of_le hR.2.2.2.1 hg2.size, hR.2.2.2.2.grown hg2 hR.2.2.2.1 (by simp; omega)⟩
          case measure => simp [intOf]; omega
        · have hjq : j = q := by
            have := HLq.out
            omega
          subst hjq
          go_wp2
          go_meet
          case rel => exact hR
    case rest =>
      go_step
      obtain ⟨hcI, hcH, _, _, _⟩ := hcut
      exact refsum_out w wc HB (absorb q shaBegin (pad bs)) _ HS.out hcI hcH

end Go.Proofs.YtglcingpolpkdaaDoor
