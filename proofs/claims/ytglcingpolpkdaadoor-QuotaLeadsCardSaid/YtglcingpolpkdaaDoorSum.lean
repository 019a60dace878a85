/- A hash's Sum: the digest of what was written. -/
import Derived.Test.YtglcingpolpkdaaDoorHash
import Derived.Deep.RegionHeld3
namespace Go.Proofs.YtglcingpolpkdaaDoor
open Go.RowKit

/-- Where Sum stands: its result, the digest to be, and its own eight numbers lie in three blocks of its own. -/
def SumIn (w0 w : World) (s : Eight) (d : List Value) : Prop :=
  Below w0.heap.size w0 w ∧ Whole w w0.heap.size 24 (zeroNums .u8 32) ∧ Whole w (w0.heap.size + 1) 24 d ∧ Whole w (w0.heap.size + 1 + 1) 105 (s.list.map vu32)
section
variable {w0 w w' : World} {s : Eight} {d : List Value}
theorem SumIn.grown {row : Option Nat} (h : SumIn w0 w s d) (hg : w.grownBy w' row) (hr : ∀ k, row = some k → w0.heap.size + 3 ≤ k) : SumIn w0 w' s d := by
  obtain ⟨h1, h2, h3, h4⟩ := h
  exact ⟨h1.grown hg h1.size fun k hk => by have := hr k hk; omega, h2.grown hg fun e => by have := hr _ e.symm; omega, h3.grown hg fun e => by have := hr _ e.symm; omega, h4.grown hg fun e => by have := hr _ e.symm; omega⟩
theorem SumIn.drew (h : SumIn w0 w s d) : SumIn w0 w.drew s d := ⟨h.1.drew, h.2.1.drew, h.2.2.1.drew, h.2.2.2.drew⟩
theorem SumIn.size (h : SumIn w0 w s d) : w0.heap.size + 3 ≤ w.heap.size := h.2.2.2.lt
theorem SumIn.alloc (h : SumIn w0 w s d) (o : Obj) : SumIn w0 (w.alloc o) s d := h.grown (row := none) (grown_alloc (World.grownBy.refl _ _) o) (fun _ e => by cases e)
end

/-- Sum from the digest's bytes on; from the blocks on; from the zeros on. -/
noncomputable def sumE : Code := subCode [1, 1, 1, 1, 1, 1, 1, 1] ((Tryd.f39.body).getD .skip)
noncomputable def sumC : Code := subCode [1, 1, 1, 1, 1, 1, 1] ((Tryd.f39.body).getD .skip)
noncomputable def sumA : Code := subCode [1, 1, 1, 1, 1] ((Tryd.f39.body).getD .skip)

/-- The first bytes of a digest, and zeros. -/
def digRow (s : Eight) (i : Nat) : List Value := ((digestBytes s).take (4 * i)).map vu8 ++ zeroNums .u8 (32 - 4 * i)
theorem digRow_length (s : Eight) (i : Nat) (hi : i ≤ 8) : (digRow s i).length = 32 := by
  simp [digRow, digestBytes_length, zeroNums]; omega
theorem digRow_all (s : Eight) : digRow s 8 = (digestBytes s).map vu8 := by
  simp [digRow, zeroNums, List.take_of_length_le, digestBytes_length]
theorem digRow_next (s : Eight) (i : Nat) (hi : i < 8) (x : BitVec 32) (hx : s.list.getD i 0 = x) :
    ((((digRow s i).set (4 * i) (vu8 ((x >>> 24).setWidth 8))).set (4 * i + 1) (vu8 ((x >>> 16).setWidth 8))).set (4 * i + 2) (vu8 ((x >>> 8).setWidth 8))).set (4 * i + 3) (vu8 (x.setWidth 8)) = digRow s (i + 1) := by
  subst hx
  have : i = 0 ∨ i = 1 ∨ i = 2 ∨ i = 3 ∨ i = 4 ∨ i = 5 ∨ i = 6 ∨ i = 7 := by omega
  rcases this with rfl | rfl | rfl | rfl | rfl | rfl | rfl | rfl <;> rfl

/-- 'a[k]', a an array of numbers by value. -/
theorem run_index_word {P : Program} (w : World) {t e : TypeId} {n k : Nat} {i : TypeInfo} (hu : P.underlying t = some (.array n e)) (hi : P.info? e = some i) (hs : i.size = 1) (he : P.underlying e = some (.int .u32))
    (xs : List (BitVec 32)) (hk : k < n) (x : BitVec 32) (hx : xs[k]? = some x) : (Instr.index t (.agg (xs.map vu32).toArray) (.int .i64 k)).run P w = .ok (vu32 x) w := by
  have h2 : 0 ≤ (k : Int) ∧ (k : Int) < (n : Int) := by omega
  simp [Instr.index, run_underlying hu, asIntOf, h2, hk, part, isAgg, run_underlying he, sizeOf, typeInfo, hi, hs, hx, go_sem]

theorem info_u32 : ∃ i, Tryd.prog.info? 103 = some i ∧ i.size = 1 := by
  have h : (Tryd.prog.info? 103).map (fun i => i.size) = some 1 := by kernel_rfl
  cases hi : Tryd.prog.info? 103 with
  | none => rw [hi] at h; cases h
  | some i =>
    rw [hi] at h
    exact ⟨i, rfl, by simpa using h⟩

set_option maxRecDepth 100000 in
set_option maxHeartbeats 4000000 in
theorem sum_digest {z1 z5 z6 z7 z8 z9 z10 z11 z12 z13 z14 z15 z16 z17 z18 z19 z20 z21 z22 z23 z24 z25 z26 z27 z28 z29 z30 z31 z32 z33 z34 z35 z36 z37 z38 z39 z40 z41 z42 z43 z44 z45 z46 z47 z48 z49 z50 z51 z52 z53 z54 z55 z56 z57 z58 z59 z60 z61 z62 z63 z64 z65 z66 z67 z68 z69 z70 z71 z72 z73 z74 z75 z76 z77 z78 z79 z80 z81 z82 z83 z84 z85 z86 z87 z88 z89 z90 z91 : Value} (w wc : World) (h : Nat) (s : Eight) (hS : SumIn w wc s (zeroNums .u8 32)) :
    Code.wp Tryd.prog sumE (bodyPost Tryd.prog Tryd.f39 fun e w' => e = .returned (.agg ((digestBytes s).map vu8).toArray) ∧ Below w.heap.size w w') ⟨(.pointer (some ⟨h, 0, none⟩) :: z1 :: .pointer (some ⟨w.heap.size, 0, none⟩) :: .pointer (some ⟨w.heap.size + 1, 0, none⟩) :: .pointer (some ⟨w.heap.size + 1 + 1, 0, none⟩) :: z5 :: z6 :: z7 :: z8 :: z9 :: z10 :: z11 :: z12 :: z13 :: z14 :: z15 :: z16 :: z17 :: z18 :: z19 :: z20 :: z21 :: z22 :: z23 :: z24 :: z25 :: z26 :: z27 :: z28 :: z29 :: z30 :: z31 :: z32 :: z33 :: z34 :: z35 :: z36 :: z37 :: z38 :: z39 :: z40 :: z41 :: z42 :: z43 :: z44 :: z45 :: z46 :: z47 :: z48 :: z49 :: z50 :: z51 :: z52 :: z53 :: z54 :: z55 :: z56 :: z57 :: z58 :: z59 :: z60 :: z61 :: z62 :: z63 :: z64 :: z65 :: z66 :: z67 :: z68 :: z69 :: z70 :: z71 :: z72 :: z73 :: z74 :: z75 :: z76 :: z77 :: z78 :: z79 :: z80 :: z81 :: z82 :: z83 :: z84 :: z85 :: z86 :: z87 :: z88 :: z89 :: z90 :: z91 :: []).toArray, []⟩ wc := by
  conv => arg 2; whnf
  have hst := hS.2.2.2
  go_upto_block 6 with (refine wpList_load_row (by rfl) 105 _ (by rfl) (w.heap.size + 1 + 1) (by rfl) 105 (s.list.map vu32).toArray (0, 0) _ hst Tryd.underlying105 (by rfl) size_s ?_)
  go_wp2
  go_loopw [60] (fun i wr => ∃ k : Nat, k ≤ 8 ∧ i = .int .i64 k ∧ SumIn w wr s (digRow s k)) (fun i _ => 8 - (intOf i).toNat)
  case atStart => exact ⟨0, by omega, rfl, hS⟩
  case round =>
    obtain ⟨k, hk, rfl, hR⟩ := hrel
    by_cases hlt : k < 8
    · obtain ⟨x, hxv⟩ : ∃ x, s.list.getD k 0 = x := ⟨_, rfl⟩
      have hx : (Instr.index 105 (.agg (s.list.map vu32).toArray) (.int .i64 k)).run Tryd.prog wr = .ok (vu32 x) wr := by
        subst hxv
        obtain ⟨i, hi, hsz⟩ := info_u32
        exact run_index_word wr Tryd.underlying105 hi hsz Tryd.underlying103 s.list hlt _ (by simp [List.getElem?_eq_getElem (show k < s.list.length from hlt)])
      have i1 : (k : Int) < 8 := by omega
      go_upto_region 18 with (fail)
      have hD := hR.2.2.1
      have hl := digRow_length s k hk
      have hnx := digRow_next s k hlt x hxv
      have s0 : IntKind.i64.wrap (4 * (k : Int)) = 4 * (k : Int) := IntWalk.i64_in _ (by omega)
      have s1 : IntKind.i64.wrap (4 * (k : Int) + 1) = 4 * (k : Int) + 1 := IntWalk.i64_in _ (by omega)
      have s2 : IntKind.i64.wrap (4 * (k : Int) + 2) = 4 * (k : Int) + 2 := IntWalk.i64_in _ (by omega)
      have s3 : IntKind.i64.wrap (4 * (k : Int) + 3) = 4 * (k : Int) + 3 := IntWalk.i64_in _ (by omega)
      have n0 : (4 * (k : Int)).toNat = 4 * k := by omega
      have n1 : (4 * (k : Int) + 1).toNat = 4 * k + 1 := by omega
      have n2 : (4 * (k : Int) + 2).toNat = 4 * k + 2 := by omega
      have n3 : (4 * (k : Int) + 3).toNat = 4 * k + 3 := by omega
      have l0 : 0 ≤ 4 * (k : Int) ∧ 4 * (k : Int) < 32 := by omega
      have l1 : 0 ≤ 4 * (k : Int) + 1 ∧ 4 * (k : Int) + 1 < 32 := by omega
      have l2 : 0 ≤ 4 * (k : Int) + 2 ∧ 4 * (k : Int) + 2 < 32 := by omega
      have l3 : 0 ≤ 4 * (k : Int) + 3 ∧ 4 * (k : Int) + 3 < 32 := by omega
      have f0 := hD.free (4 * k)
      have f1 := hD.free (4 * k + 1)
      have f2 := hD.free (4 * k + 2)
      have f3 := hD.free (4 * k + 3)
      have c0 := hD.cell_of (List.getElem?_eq_getElem (show 4 * k < (digRow s k).length by omega))
      have c1 := hD.cell_of (List.getElem?_eq_getElem (show 4 * k + 1 < (digRow s k).length by omega))
      have c2 := hD.cell_of (List.getElem?_eq_getElem (show 4 * k + 2 < (digRow s k).length by omega))
      have c3 := hD.cell_of (List.getElem?_eq_getElem (show 4 * k + 3 < (digRow s k).length by omega))
      generalize (digRow s k)[4 * k]'_ = d0 at c0
      generalize (digRow s k)[4 * k + 1]'_ = d1 at c1
      generalize (digRow s k)[4 * k + 2]'_ = d2 at c2
      generalize (digRow s k)[4 * k + 3]'_ = d3 at c3
      have HR := Lib.hid hR
      have HD := Lib.hid hD
      have HN := Lib.hid hnx
      have HI := Lib.hid hx
      clear hR hD hnx hx hl hxv
      go_wp2
      go_roundw
      case rel =>
        refine ⟨k + 1, by omega, by go_num, ?_⟩
        have hR := HR.out
        have hnx := HN.out
        have hD := (((HD.out.put (4 * k) (vu8 ((x >>> 24).setWidth 8))).put (4 * k + 1) (vu8 ((x >>> 16).setWidth 8))).put (4 * k + 2) (vu8 ((x >>> 8).setWidth 8))).put (4 * k + 3) (vu8 (x.setWidth 8))
        rw [hnx] at hD
        have hne : ∀ (W : World) (i : Nat) (u : Value) (g : Nat) (t : TypeId) (l : List Value), g ≠ w.heap.size + 1 → Whole W g t l → Whole (W.setCell ⟨w.heap.size + 1, i, none⟩ u) g t l := fun W i u g t l hg hW => hW.far hg u
        exact ⟨(((hR.1.setCell (by simp) _).setCell (by simp) _).setCell (by simp) _).setCell (by simp) _,
          hne _ _ _ _ _ _ (by omega) (hne _ _ _ _ _ _ (by omega) (hne _ _ _ _ _ _ (by omega) (hne _ _ _ _ _ _ (by omega) hR.2.1))), hD,
          hne _ _ _ _ _ _ (by omega) (hne _ _ _ _ _ _ (by omega) (hne _ _ _ _ _ _ (by omega) (hne _ _ _ _ _ _ (by omega) hR.2.2.2)))⟩
      case measure => simp [intOf]; omega
    · obtain rfl : k = 8 := by omega
      rw [digRow_all] at hR
      go_upto_region 20 with (fail)
      have hz := hR.2.2.1
      have hr := hR.2.1
      have hlen : ((digestBytes s).map vu8).length = 32 := by simp [digestBytes_length]
      apply wp_region_lit
      refine wpList_load_row (by rfl) 24 _ (by rfl) (w.heap.size + 1) (by rfl) 24 ((digestBytes s).map vu8).toArray (0, 0) _ hz Tryd.underlying24 (by rfl) (by rw [size_d]; simp [digestBytes_length]) ?_
      refine wpList_store_row (by rfl) 24 _ _ (by rfl) w.heap.size ((digestBytes s).map vu8).toArray (by rfl) (by rfl) 24 _ hr (by rw [size_d]; simp [digestBytes_length]) (by simp [zeroNums, digestBytes_length]) (all_u8 _) ?_
      go_wp2
      exact bodyPost_ret (results_cell_row rfl _ _ w.heap.size 24 _ (0, 0) _ rfl (hr.row _) Tryd.underlying24 rfl (by rw [size_d]; simp [digestBytes_length])) rfl ⟨rfl, hR.1.grown (grown_row (World.grownBy.refl _ (some w.heap.size)) (.inl rfl) _) hR.1.size (fun k hk => by simp at hk; omega)⟩

/-- How long a slice is. -/
def sliceLen : Value → Nat
  | .slice _ n _ => n
  | _ => 0

set_option maxRecDepth 100000 in
set_option maxHeartbeats 4000000 in
theorem sum_blocks {z1 z6 z7 z8 z9 z10 z11 z12 z13 z14 z15 z16 z17 z18 z19 z20 z21 z22 z23 z24 z25 z26 z27 z28 z29 z30 z31 z32 z33 z34 z35 z36 z37 z38 z39 z40 z41 z42 z43 z44 z45 z46 z47 z48 z49 z50 z51 z52 z53 z54 z55 z56 z57 z58 z59 z60 z61 z62 z63 z64 z65 z66 z67 z68 z69 z70 z71 z72 z73 z74 z75 z76 z77 z78 z79 z80 z81 z82 z83 z84 z85 z86 z87 z88 z89 z90 z91 : Value} (w wc : World) (h : Nat) (s : Eight) (g cap q : Nat) (bs : List (BitVec 8)) (hq : bs.length = 64 * q) (hcap : bs.length ≤ cap) (hg : w.heap.size + 3 ≤ g) (hgl : g < wc.heap.size) (hb : BytesAt wc g 0 bs)
    (hK : KTab w) (hS : SumIn w wc s (zeroNums .u8 32)) :
    Code.wp Tryd.prog sumC (bodyPost Tryd.prog Tryd.f39 fun e w' => e = .returned (.agg ((digestBytes (absorb q s bs)).map vu8).toArray) ∧ Below w.heap.size w w') ⟨(.pointer (some ⟨h, 0, none⟩) :: z1 :: .pointer (some ⟨w.heap.size, 0, none⟩) :: .pointer (some ⟨w.heap.size + 1, 0, none⟩) :: .pointer (some ⟨w.heap.size + 1 + 1, 0, none⟩) :: .slice (some ⟨g, 0, none⟩) bs.length cap :: z6 :: z7 :: z8 :: z9 :: z10 :: z11 :: z12 :: z13 :: z14 :: z15 :: z16 :: z17 :: z18 :: z19 :: z20 :: z21 :: z22 :: z23 :: z24 :: z25 :: z26 :: z27 :: z28 :: z29 :: z30 :: z31 :: z32 :: z33 :: z34 :: z35 :: z36 :: z37 :: z38 :: z39 :: z40 :: z41 :: z42 :: z43 :: z44 :: z45 :: z46 :: z47 :: z48 :: z49 :: z50 :: z51 :: z52 :: z53 :: z54 :: z55 :: z56 :: z57 :: z58 :: z59 :: z60 :: z61 :: z62 :: z63 :: z64 :: z65 :: z66 :: z67 :: z68 :: z69 :: z70 :: z71 :: z72 :: z73 :: z74 :: z75 :: z76 :: z77 :: z78 :: z79 :: z80 :: z81 :: z82 :: z83 :: z84 :: z85 :: z86 :: z87 :: z88 :: z89 :: z90 :: z91 :: []).toArray, []⟩ wc := by
  conv => arg 2; whnf
  rw [hq]
  rw [hq] at hcap
  go_upto_block 4 with (fail)
  go_cut [5] (fun _ w6 => SumIn w w6 (absorb q s bs) (zeroNums .u8 32))
  case rest =>
    go_step
    exact sum_digest w wc h _ hcut
  go_wp2
  go_loopw [5] (fun v wr => ∃ j : Nat, j ≤ q ∧ ∃ ad, v = .slice ad (64 * q - 64 * j) (cap - 64 * j) ∧ (j < q → ad = some ⟨g, 64 * j, none⟩) ∧ SumIn w wr (absorb j s bs) (zeroNums .u8 32) ∧ g < wr.heap.size ∧ BytesAt wr g 0 bs) (fun v _ => sliceLen v)
  case atStart => exact ⟨0, by omega, some ⟨g, 0, none⟩, by simp, fun _ => by simp, hS, hgl, hb⟩
  case round =>
    obtain ⟨j, hj, ad, rfl, had, hR, hgr, hbr⟩ := hrel
    by_cases hlt : j < q
    · obtain rfl := had hlt
      obtain ⟨n, hn⟩ : ∃ n, 64 * q - 64 * j = n := ⟨_, rfl⟩
      obtain ⟨c, hc⟩ : ∃ c, cap - 64 * j = c := ⟨_, rfl⟩
      rw [hn, hc]
      have i1 : 0 < n := by omega
      have i2 : (64 : Int) ≤ (c : Int) := by omega
      have i3 : 64 ≤ c := by omega
      have i4 : 64 ≤ n := by omega
      have i5 : (64 : Int) ≤ (n : Int) := by omega
      have i6 : n ≤ c := by omega
      have hblk : BytesAt wr g (64 * j) ((bs.drop (64 * j)).take 64) := by
        have := (hbr.drop (64 * j)).take 64
        rwa [Nat.zero_add] at this
      have hbl : ((bs.drop (64 * j)).take 64).length = 64 := by simp; omega
      have hKr := hK.below hR.1 hK.1
      have hst := hR.2.2.2
      go_wp2_with (go_at_call 46; refine (block_calls wr (w.heap.size + 1 + 1) 0 g (64 * j) c _ hblk hbl hgr hKr (absorb j s bs) 105 [] [] (by simpa using hst) rfl).mono ?_; rintro e w2 ⟨rfl, hW2, hG2⟩)
      go_roundw
      case rel =>
        refine ⟨j + 1, by omega, _, by rw [show n - 64 = 64 * q - 64 * (j + 1) by omega, show c - 64 = cap - 64 * (j + 1) by omega], fun h2 => ?_, ?_, Nat.lt_of_lt_of_le hgr hG2.size, hbr.grown hG2 hgr (by simp; omega)⟩
        · rw [if_neg (by omega)]
          congr 2
        · rw [absorb_succ]
          refine ⟨hR.1.grown hG2 hR.1.size (fun k hk => by simp at hk; omega), hR.2.1.grown hG2 (by simp; omega), hR.2.2.1.grown hG2 (by simp), ?_⟩
          simpa using hW2
      case measure => simp [sliceLen]; omega
    · obtain rfl : j = q := by omega
      go_wp2
      go_meet
      case rel => exact hR

set_option maxRecDepth 100000 in
set_option maxHeartbeats 4000000 in
theorem sum_pad {z1 z6 z7 z8 z9 z10 z11 z12 z13 z14 z15 z16 z17 z18 z19 z20 z21 z22 z23 z24 z25 z26 z27 z28 z29 z30 z31 z32 z33 z34 z35 z36 z37 z38 z39 z40 z41 z42 z43 z44 z45 z46 z47 z48 z49 z50 z51 z52 z53 z54 z55 z56 z57 z58 z59 z60 z61 z62 z63 z64 z65 z66 z67 z68 z69 z70 z71 z72 z73 z74 z75 z76 z77 z78 z79 z80 z81 z82 z83 z84 z85 z86 z87 z88 z89 z90 z91 : Value} (w wc : World) (h : Nat) (m : List (BitVec 8)) (v : Value) (hO : Own wc (w.heap.size + 3) v (restOf m ++ [128#8]))
    (hh : h < w.heap.size) (hn : w.cell? ⟨h, 72, none⟩ = some (.int .i64 m.length)) (hK : KTab w) (hS : SumIn w wc (stateOf m) (zeroNums .u8 32)) :
    Code.wp Tryd.prog sumA (bodyPost Tryd.prog Tryd.f39 fun e w' => e = .returned (.agg ((sha m).map vu8).toArray) ∧ Below w.heap.size w w') ⟨(.pointer (some ⟨h, 0, none⟩) :: z1 :: .pointer (some ⟨w.heap.size, 0, none⟩) :: .pointer (some ⟨w.heap.size + 1, 0, none⟩) :: .pointer (some ⟨w.heap.size + 1 + 1, 0, none⟩) :: v :: z6 :: z7 :: z8 :: z9 :: z10 :: z11 :: z12 :: z13 :: z14 :: z15 :: z16 :: z17 :: z18 :: z19 :: z20 :: z21 :: z22 :: z23 :: z24 :: z25 :: z26 :: z27 :: z28 :: z29 :: z30 :: z31 :: z32 :: z33 :: z34 :: z35 :: z36 :: z37 :: z38 :: z39 :: z40 :: z41 :: z42 :: z43 :: z44 :: z45 :: z46 :: z47 :: z48 :: z49 :: z50 :: z51 :: z52 :: z53 :: z54 :: z55 :: z56 :: z57 :: z58 :: z59 :: z60 :: z61 :: z62 :: z63 :: z64 :: z65 :: z66 :: z67 :: z68 :: z69 :: z70 :: z71 :: z72 :: z73 :: z74 :: z75 :: z76 :: z77 :: z78 :: z79 :: z80 :: z81 :: z82 :: z83 :: z84 :: z85 :: z86 :: z87 :: z88 :: z89 :: z90 :: z91 :: []).toArray, []⟩ wc := by
  rw [sha_rest]
  conv => arg 2; whnf
  have hrl := restOf_length m
  have hpz : padZ m.length = (119 - m.length % 64) % 64 := rfl
  go_upto_block 0 with (fail)
  go_cut [5] (fun v w6 => Own w6 (w.heap.size + 3) v (restOf m ++ [128#8] ++ List.replicate (padZ m.length) 0#8) ∧ SumIn w w6 (stateOf m) (zeroNums .u8 32))
  case first =>
    go_wp2
    go_loopw [5] (fun v wr => ∃ k : Nat, k ≤ padZ m.length ∧ Own wr (w.heap.size + 3) v (restOf m ++ [128#8] ++ List.replicate k 0#8) ∧ SumIn w wr (stateOf m) (zeroNums .u8 32)) (fun v _ => 128 - sliceLen v)
    case atStart => exact ⟨0, by omega, by simpa using hO, hS⟩
    case round =>
      obtain ⟨k, hk, hR, hI⟩ := hrel
      obtain ⟨g, cap, rfl, hgB, hgl, hbr, hcap, hcm⟩ := hR.full (by simp)
      obtain ⟨L, hL⟩ : ∃ L, (restOf m ++ [128#8] ++ List.replicate k 0#8).length = L := ⟨_, rfl⟩
      have hL2 : L = m.length % 64 + 1 + k := by rw [← hL]; simp [hrl]; omega
      rw [hL] at hR hcap ⊢
      have t0 : Int.tmod (L : Int) 64 = (L : Int) % 64 := Int.tmod_eq_emod_of_nonneg (by omega)
      have t9 : IntKind.i64.wrap ((L : Int) % 64) = (L : Int) % 64 := IntWalk.i64_in _ (by omega)
      by_cases hlt : k < padZ m.length
      · have t1 : ¬ (L : Int) % 64 = 56 := by omega
        have t2 : w.heap.size + 3 ≤ wr.heap.size := hI.size
        go_wp2_with (at_builtin; refine wpList_append_one (by rfl) (.tmp 32) (.tmp 33) (by rfl) (w.heap.size + 3) _ _ (by rfl) hR (.int .u8 0) 0#8 (by rfl) (by rfl) (by rw [hL]; omega) t2 ?_; intro v1 w1 hO1 hG1)
        refine ⟨⟨k + 1, by omega, ?_, hI.grown hG1 (fun j hj => by simp [Value.ownBlock] at hj; omega)⟩, ?_⟩
        · rw [List.replicate_succ', ← List.append_assoc]
          exact hO1
        · obtain ⟨g1, cap1, rfl, _⟩ := hO1.full (by simp)
          simp only [sliceLen, List.length_append, List.length_singleton] at hL ⊢
          omega
      · obtain rfl : k = padZ m.length := by omega
        have t1 : (L : Int) % 64 = 56 := by omega
        go_wp2
        go_meet
        case rel => exact ⟨hR, hI⟩
  case rest =>
    obtain ⟨hO2, hS2⟩ := hcut
    clear hO hS
    obtain ⟨N, hN⟩ : ∃ N, 8 * BitVec.ofNat 64 m.length = N := ⟨_, rfl⟩
    go_upto_block 2 with (fail)
    go_cut [5, 6] (fun v _ w6 => Own w6 (w.heap.size + 3) v (restOf m ++ [128#8] ++ List.replicate (padZ m.length) 0#8 ++ eightBytes N) ∧ SumIn w w6 (stateOf m) (zeroNums .u8 32))
    case first =>
      go_wp2
      go_loopw [5, 6] (fun v i wr => ∃ j : Nat, j ≤ 8 ∧ i = .int .i64 (56 - 8 * (j : Int)) ∧ Own wr (w.heap.size + 3) v (restOf m ++ [128#8] ++ List.replicate (padZ m.length) 0#8 ++ (eightBytes N).take j) ∧ SumIn w wr (stateOf m) (zeroNums .u8 32)) (fun _ i _ => (intOf i + 8).toNat)
      case atStart => exact ⟨0, by omega, by simp, by simpa using hO2, hS2⟩
      case round =>
        obtain ⟨j, hj, rfl, hR, hI⟩ := hrel
        obtain ⟨g, cap, rfl, hgB, hgl, hbr, hcap, hcm⟩ := hR.full (by simp)
        obtain ⟨L, hL⟩ : ∃ L, (restOf m ++ [128#8] ++ List.replicate (padZ m.length) 0#8 ++ (eightBytes N).take j).length = L := ⟨_, rfl⟩
        have hL2 : L ≤ 200 := by rw [← hL]; simp [hrl, eightBytes_length]; omega
        rw [hL] at hR hcap ⊢
        by_cases hlt : j < 8
        · have t1 : (0 : Int) ≤ 56 - 8 * (j : Int) := by omega
          have t2 : w.heap.size + 3 ≤ wr.heap.size := hI.size
          have t3 : (56 - 8 * (j : Int)).toNat = 56 - 8 * j := by omega
          have t4 : IntKind.i64.wrap (56 - 8 * (j : Int) - 8) = 56 - 8 * (j : Int) - 8 := IntWalk.i64_in _ (by omega)
          have hn2 : wr.cell? ⟨h, 72, none⟩ = some (.int .i64 m.length) := (hI.1.cell (p := ⟨h, 72, none⟩) hh).trans hn
          go_wp2_with (at_builtin; refine wpList_append_one (by rfl) (.tmp 39) (.tmp 49) (by rfl) (w.heap.size + 3) _ _ (by rfl) hR _ (((8 * BitVec.ofNat 64 m.length) >>> (56 - 8 * j)).setWidth 8) (by rw [← shl_three]) (by rfl) (by rw [hL]; omega) t2 ?_; intro v1 w1 hO1 hG1)
          refine ⟨⟨j + 1, by omega, by congr 1; omega, ?_, hI.grown hG1 (fun j hj => by simp [Value.ownBlock] at hj; omega)⟩, by simp [intOf]; omega⟩
          rw [eightBytes_take _ _ hlt, ← List.append_assoc, ← hN]
          rw [← hN] at hO1
          exact hO1
        · obtain rfl : j = 8 := by omega
          have t1 : ¬ (0 : Int) ≤ 56 - 8 * ((8 : Nat) : Int) := by omega
          go_wp2
          go_meet
          case rel =>
            rw [List.take_of_length_le (by rw [eightBytes_length]; omega)] at hR
            exact ⟨hR, hI⟩
    case rest =>
      obtain ⟨hO3, hS3⟩ := hcut
      have hall : restOf m ++ [128#8] ++ List.replicate (padZ m.length) 0#8 ++ eightBytes N = restOf m ++ padTail m.length := by
        rw [← hN]
        simp [padTail]
      rw [hall] at hO3
      obtain ⟨g, cap, rfl, hgB, hgl, hbr, hcap, hcm⟩ := hO3.full (by simp [padTail])
      have hmod := padTail_length m.length
      go_step
      exact sum_blocks w _ h _ g cap _ _ (by simp only [List.length_append, hrl]; omega) hcap hgB hgl hbr hK hS3

set_option maxRecDepth 100000 in
set_option maxHeartbeats 4000000 in
theorem sum_hash (w : World) (h : Nat) (m : List (BitVec 8)) (hh : HashIs w h m) (hK : KTab w) (hsz : m.length ≤ 1099511627776) :
    Calls Tryd.prog 39 #[.pointer (some ⟨h, 0, none⟩)] w fun e w' => e = .returned (.agg ((sha m).map vu8).toArray) ∧ Below w.heap.size w w' := by
  have hlt := hh.lt
  go_enter Tryd.func39, Tryd.ntmps39
  go_upto_region 2 with (refine wpList_alloc_row (by rfl) 24 (by rfl) _ _ info_d ?_)
  have hB : Below w.heap.size w ((w.alloc (.cells (zeroNums .u8 32).toArray 24)).alloc (.cells (zeroNums .u8 32).toArray 24)) := ((Below.refl _ _).alloc (Nat.le_refl _) _).alloc (by simp) _
  have hz := Whole.new (w.alloc (.cells (zeroNums .u8 32).toArray 24)) 24 (zeroNums .u8 32).toArray
  have hr := (Whole.new w 24 (zeroNums .u8 32).toArray).alloc (.cells (zeroNums .u8 32).toArray 24)
  have hsz2 : ((w.alloc (.cells (zeroNums .u8 32).toArray 24)).alloc (.cells (zeroNums .u8 32).toArray 24)).heap.size = w.heap.size + 1 + 1 := by simp
  rw [World.size_alloc] at hz
  have hh2 := hh.below hB hlt
  have hK2 := hK.below hB (by omega)
  generalize ((w.alloc (.cells (zeroNums .u8 32).toArray 24)).alloc (.cells (zeroNums .u8 32).toArray 24)) = w2 at *
  have hm := hh2.made
  obtain ⟨wait, hwt, hW⟩ := hh2
  have hs0 : w2.rangeAt h 0 ((stateOf m).list.map vu32) := fun i x hx => by
    rw [Nat.zero_add]
    refine hW.cell_of ?_
    unfold hashCells
    rw [List.append_assoc, List.getElem?_append_left (List.getElem?_eq_some_iff.1 hx).1]
    exact hx
  go_upto_region 5 with (first
    | (go_at_call 45; refine (none_made _ _ _ hm).mono ?_; rintro e w' ⟨rfl, rfl⟩)
    | (refine wpList_load_mid (by rfl) 105 _ (by rfl) h 0 (by rfl) ((stateOf m).list.map vu32) _ hs0 Tryd.underlying105 (by rfl) size_s ?_)
    | (refine wpList_alloc_row (by rfl) 105 (by rfl) _ _ info_s ?_)
    | (refine wpList_store_new (by rfl) 105 _ _ (by rfl) _ ((stateOf m).list.map vu32).toArray 105 (by rfl) (by rfl) size_s (by simp [zeroNums, Eight.list]) (all_u32 _) ?_))
  have hS5 : SumIn w (w2.alloc (.cells ((stateOf m).list.map vu32).toArray 105)) (stateOf m) (zeroNums .u8 32) :=
    ⟨hB.alloc hB.size _, hr.alloc _, hz.alloc _, by
      have := Whole.new w2 105 ((stateOf m).list.map vu32).toArray
      rw [hsz2] at this
      exact this⟩
  rw [hsz2]
  have hb5 : BytesAt (w2.alloc (.cells ((stateOf m).list.map vu32).toArray 105)) h 8 (restOf m) := by
    have hb : BytesAt w2 h 8 wait := BytesAt.of_whole (pre := (stateOf m).list.map vu32) (post := [.int .i64 m.length, .bool true]) hW (by simp [Eight.list])
    rw [← hwt.2]
    exact (hb.take _).alloc hW.lt _
  have cn : (w2.alloc (.cells ((stateOf m).list.map vu32).toArray 105)).cell? ⟨h, 72, none⟩ = some (.int .i64 m.length) := (hW.alloc _).cell_of (hashCells_n _ _ _ hwt.1)
  generalize (w2.alloc (.cells ((stateOf m).list.map vu32).toArray 105)) = w5 at *
  clear hW hs0 hm hz hr
  simp only [Act.put, List.setIfInBounds_toArray, List.set_cons_zero, List.set_cons_succ]
  go_cut [5] (fun v w6 => Own w6 (w.heap.size + 3) v (restOf m ++ [128#8]) ∧ SumIn w w6 (stateOf m) (zeroNums .u8 32))
  case first =>
    have hn : Own w5 (w.heap.size + 3) (.slice none 0 0) [] := Own.nil _ _
    have t0 : Int.tmod (m.length : Int) 64 = (m.length : Int) % 64 := Int.tmod_eq_emod_of_nonneg (by omega)
    have t1 : 0 ≤ (m.length : Int) % 64 := by omega
    have t2 : (m.length : Int) % 64 ≤ 64 := by omega
    have t3 : (m.length : Int) % 64 < 64 := by omega
    have t4 : ((m.length : Int) % 64).toNat = m.length % 64 := by omega
    have t9 : IntKind.i64.wrap ((m.length : Int) % 64) = (m.length : Int) % 64 := IntWalk.i64_in _ (by omega)
    have hlt5 : h < w5.heap.size := by have := hS5.size; omega
    have hB5 : w.heap.size + 3 ≤ w5.heap.size := hS5.size
    have hrl := restOf_length m
    go_region_held3 (fun w' => w'.cell? ⟨h, 72, none⟩ = some (.int .i64 m.length))
      (first
        | go_keep
        | exact World.grownBy.cell hg1 (by assumption) (by simp [Value.ownBlock])
        | exact World.grownBy.cell hg2 (by assumption) (fun e => by have := (show w.heap.size + 3 ≤ h from hv1.high _ e.symm); omega))
      (first
        | ((refine step_append_bytes (by rfl) (.const (.slice none 0 0)) (.tmp 24) (by rfl) (w.heap.size + 3) (.slice none 0 0) [] (by rfl) (Own.nil _ _) h 8 64 (restOf m) (by rw [restOf_length]; rfl) (by first | exact hb5 | exact hb5.alloc hlt5 _) (by simp; omega) (by first | exact hB5 | (simp; omega)) ?_; intro v1 w6 hv1 hg1))
        | ((refine step_append_bytes (by rfl) (.tmp 25) (.tmp 26) (by rfl) (w.heap.size + 3) v1 (restOf m) (by rfl) (by first | exact hv1 | exact hv1.alloc _) _ 0 1 [128#8] (by rfl) (by first | exact BytesAt.new _ _ _ | exact (BytesAt.new w5.drew _ 128#8).grown hg1 (by simp) (by simp [Value.ownBlock])) (by simp; omega) (by first | exact Nat.le_trans hB5 hg1.size | (have := hg1.size; simp at *; omega)) ?_; intro v2 w7 hv2 hg2)))
    all_goals
      go_wp2
      go_meet
      case rel =>
        refine ⟨hv2, ?_⟩
        first
          | exact ((hS5.drew.grown hg1 (fun _ e => by simp [Value.ownBlock] at e)).alloc _).grown hg2 hv1.high
          | exact ((hS5.drew.alloc _).grown hg1 (fun _ e => by simp [Value.ownBlock] at e)).grown hg2 hv1.high
  case rest =>
    go_step
    exact sum_pad w wc h m _ hcut.1 hlt hh.count hK hcut.2

end Go.Proofs.YtglcingpolpkdaaDoor
