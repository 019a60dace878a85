/- DigestPieces: the law's walk. -/
import Derived.Test.YtngklnijmhlikaaDoorPieces
namespace Go.Proofs.YtngklnijmhlikaaDoor
open Go.RowKit

/-- Bytes that came in and may be cut. -/
def RestIs (w : World) (v : Value) (xs : List (BitVec 8)) : Prop :=
  ∃ ad c, v = .slice ad xs.length c ∧ xs.length ≤ c ∧ c ≤ 9223372036854775807 ∧ (ad = none → c = 0) ∧ (0 < xs.length → ∃ b o, ad = some ⟨b, o, none⟩ ∧ b < w.heap.size ∧ BytesAt w b o xs)
theorem RestIs.slice {w : World} {v : Value} {xs : List (BitVec 8)} (h : RestIs w v xs) : SliceIs w v xs := by
  obtain ⟨ad, c, rfl, hc, _, hn, hx⟩ := h
  by_cases h0 : 0 < xs.length
  · obtain ⟨b, o, rfl, hb, hy⟩ := hx h0
    exact .inr ⟨b, o, c, rfl, hb, hy⟩
  · have : xs = [] := List.eq_nil_of_length_eq_zero (by omega)
    subst this
    cases ad with
    | none =>
      obtain rfl := hn rfl
      exact .inl ⟨rfl, .inl rfl⟩
    | some a => exact .inl ⟨rfl, .inr ⟨a, c, rfl⟩⟩

theorem rest_cut {w : World} {ad : Option Addr} {xs : List (BitVec 8)} {c n L : Nat} (hL : xs.length = L) (h : RestIs w (.slice ad L c) xs) (hn : n ≤ L) :
    ∃ ad1 c1 ad2 c2, (∀ wx, (Instr.slice 22 (.slice ad L c) none (some (.int .i64 n)) none).run Tryd.prog wx = .ok (.slice ad1 n c1) wx) ∧ (∀ wx, (Instr.slice 22 (.slice ad L c) (some (.int .i64 n)) none none).run Tryd.prog wx = .ok (.slice ad2 (L - n) c2) wx) ∧
      RestIs w (.slice ad1 n c1) (xs.take n) ∧ RestIs w (.slice ad2 (L - n) c2) (xs.drop n) := by
  subst hL
  obtain ⟨ad', c', he, hc, hm, hnil, hx⟩ := h
  obtain ⟨rfl, rfl⟩ : ad = ad' ∧ c = c' := by cases he; exact ⟨rfl, rfl⟩
  have hel : Tryd.prog.elem 22 = 5 := by kernel_rfl
  have hu : Tryd.prog.underlying 22 = some (.slice (Tryd.prog.elem 22)) := by rw [hel]; exact Tryd.underlying22
  obtain ⟨i, hi, _, hsz, _⟩ := info_u8
  have hso : ∀ wx, (sizeOf (Tryd.prog.elem 22)).run Tryd.prog wx = .ok 1 wx := fun wx => by
    rw [hel]
    simp [sizeOf, typeInfo, hi, hsz]
  have tk : (xs.take n).length = n := by simp; omega
  have dr : (xs.drop n).length = xs.length - n := by simp
  refine ⟨if c = 0 then ad else ad.map (·.add 0), c, if c = n then ad else ad.map (·.add n), c - n, fun wx => ?_, fun wx => ?_, ?_, ?_⟩
  · rw [run_slice_h (P := Tryd.prog) wx 22 ad xs.length c hu .i64 n (by omega) (by omega), hso]
    simp [Result.andThen, sliced]
  · rw [run_slice_l (P := Tryd.prog) wx 22 ad xs.length c hu .i64 n (by omega) (by omega), hso]
    simp [Result.andThen, sliced]
  · refine ⟨_, c, by rw [tk], by rw [tk]; omega, hm, fun e => ?_, fun hp => ?_⟩
    · split at e
      · assumption
      · cases ad with
        | none => exact hnil rfl
        | some a => cases e
    · rw [tk] at hp
      obtain ⟨b, o, rfl, hb, hy⟩ := hx (by omega)
      refine ⟨b, o, ?_, hb, hy.take n⟩
      rw [if_neg (by omega)]
      simp [Go.WideShapes.add_plain]
  · refine ⟨_, c - n, by rw [dr], by rw [dr]; omega, by omega, fun e => ?_, fun hp => ?_⟩
    · split at e
      · omega
      · cases ad with
        | none =>
          have := hnil rfl
          omega
        | some a => cases e
    · rw [dr] at hp
      obtain ⟨b, o, rfl, hb, hy⟩ := hx (by omega)
      refine ⟨b, o + n, ?_, hb, hy.drop n⟩
      rw [if_neg (by omega)]
      simp [Go.WideShapes.add_plain]

/-- Whole numbers that came in. -/
def IntsAt (w : World) (sl : Value) (zs : List Int) : Prop :=
  ∃ ao c, sl = .slice ao zs.length c ∧ (zs ≠ [] → ∃ b o, ao = some ⟨b, o, none⟩ ∧ b < w.heap.size ∧ ∀ (i : Nat) (z : Int), zs[i]? = some z → w.cell? ⟨b, o + i, none⟩ = some (.int .i64 z))

section
open Go.ChangeShapes Go.WideShapes
variable {H : Type} {enc : TypeId × Value → H} {w : World} {base b0 : Nat} {sp : Nat → Bool} {held : Bool} {r : Reach}
set_option maxRecDepth 100000 in
theorem rest_arg {v : Value} {d : DataW H} {ps : List MemPlace} (hv : Value.okWide Tryd.prog w r b0 22 v) (h : DataW.Trod enc Tryd.prog w base sp held 22 v d ps) : ∃ bs, RestIs w v bs := by
  obtain ⟨ao, len, cap, rfl⟩ := okWide_slice Tryd.underlying22 hv
  obtain ⟨fuel, h⟩ := h
  rcases open_ints Tryd.underlying22 Tryd.underlying5 cells_u8 h with ⟨hcs, _⟩ | ⟨a, len', cap', zs, hcs, _, hl, hm, hz, _, hcell, hwz⟩
  · simp [Value.cells] at hcs
    obtain ⟨rfl, rfl, rfl⟩ := hcs
    exact ⟨[], none, 0, rfl, Nat.le_refl _, Nat.zero_le _, fun _ => rfl, fun h => by simp at h⟩
  · simp [Value.cells] at hcs
    obtain ⟨rfl, rfl, rfl⟩ := hcs
    have hle : len ≤ zs.length := by rw [hz]; split <;> omega
    have hlen : ((zs.take len).map (BitVec.ofInt 8)).length = len := by simp; omega
    refine ⟨(zs.take len).map (BitVec.ofInt 8), some a, cap, by rw [hlen], by rw [hlen]; exact hl, by simpa [maxLen] using hm, fun e => by (cases e), fun hp => ?_⟩
    rw [hlen] at hp
    obtain ⟨b, off, rfl, hc⟩ := ints_at hcell (by omega)
    exact ⟨b, off, rfl, block_lt (hc 0 (by omega)), bytes_of_ints hc hwz len⟩
set_option maxRecDepth 100000 in
theorem ints_arg {v : Value} {d : DataW H} {ps : List MemPlace} (hv : Value.okWide Tryd.prog w r b0 67 v) (h : DataW.Trod enc Tryd.prog w base sp held 67 v d ps) : ∃ zs, IntsAt w v zs := by
  obtain ⟨ao, len, cap, rfl⟩ := okWide_slice Tryd.underlying67 hv
  obtain ⟨fuel, h⟩ := h
  rcases open_ints Tryd.underlying67 Tryd.underlying3 (by kernel_rfl) h with ⟨hcs, _⟩ | ⟨a, len', cap', zs, hcs, _, hl, hm, hz, _, hcell, hwz⟩
  · simp [Value.cells] at hcs
    obtain ⟨rfl, rfl, rfl⟩ := hcs
    exact ⟨[], none, 0, rfl, fun h => absurd rfl h⟩
  · simp [Value.cells] at hcs
    obtain ⟨rfl, rfl, rfl⟩ := hcs
    have hle : len ≤ zs.length := by rw [hz]; split <;> omega
    have hlen : (zs.take len).length = len := by simp; omega
    refine ⟨zs.take len, some a, cap, by rw [hlen], fun hne => ?_⟩
    have hp : 0 < len := by
      rcases Nat.eq_zero_or_pos len with rfl | h
      · exact absurd rfl hne
      · exact h
    obtain ⟨b, off, rfl, hc⟩ := ints_at hcell (by omega)
    refine ⟨b, off, rfl, block_lt (hc 0 (by omega)), fun i z hi => ?_⟩
    have hil : i < (zs.take len).length := (List.getElem?_eq_some_iff.1 hi).1
    have hz2 : zs[i]? = some z := by
      rw [List.getElem?_take] at hi
      split at hi
      · exact hi
      · cases hi
    rw [hc i (by omega), List.getD_eq_getElem?_getD, hz2]
    rfl
end

set_option maxRecDepth 100000 in
set_option maxHeartbeats 4000000 in
theorem digestPieces_walk (w : World) (sl sc : Value) (bs : List (BitVec 8)) (zs : List Int) (hb : RestIs w sl bs) (hz : IntsAt w sc zs) (hK : KTab w) : Answers Tryd.prog 10 #[sl, sc] w := by
  have hsl := hb.slice
  have hb' := hb
  obtain ⟨ad0, c0, rfl, hc0, hm0, hn0, hx0⟩ := hb'
  obtain ⟨zo, zc, rfl, hzc⟩ := hz
  obtain ⟨n, hn⟩ : ∃ n, bs.length = n := ⟨_, rfl⟩
  obtain ⟨M, hM⟩ : ∃ M, zs.length = M := ⟨_, rfl⟩
  have HSL := Lib.hid hsl
  have HB := Lib.hid hb
  have HN := Lib.hid hn
  have HM := Lib.hid hM
  have HZ := Lib.hid hzc
  rw [hn, hM]
  clear hsl hb hn hM hzc hx0 hc0 hm0 hn0
  unfold Answers
  go_enter Tryd.func10, Tryd.ntmps10
  go_upto_region 2 with (go_at_call 9; refine (digestKnown_calls w hK).mono ?_; rintro e w1 ⟨rfl, hB1⟩)
  by_cases hbig : 20000 < n
  · have b1 : (20000 : Int) < (n : Int) := by omega
    go_wp2
    go_ret
    exact ⟨rfl, hB1⟩
  have b1 : ¬ (20000 : Int) < (n : Int) := by omega
  by_cases hbig2 : 100 < M
  · have b2 : (100 : Int) < (M : Int) := by omega
    go_wp2
    go_ret
    exact ⟨rfl, hB1⟩
  have b2 : ¬ (100 : Int) < (M : Int) := by omega
  go_upto_region 8 with (go_at_call 25; refine (new_hash w1).mono ?_; rintro e w2 ⟨h, rfl, hh1, hh2, hB2⟩)
  have hB02 := hB1.trans (hB2.mono hB1.size)
  have hwh : w.heap.size ≤ h := Nat.le_trans hB1.size hh1
  have h0 : h ≠ 0 := by have := hK.1; omega
  clear hB1 hB2 hh1
  go_upto_block 0 with (fail)
  go_cut [7, 8, 9] (fun rv _ _ wr => ∃ (p : Nat) (ad : Option Addr) (c : Nat), p ≤ n ∧ rv = .slice ad (n - p) c ∧ RestIs w (.slice ad (n - p) c) (bs.drop p) ∧ HashIs wr h (bs.take p) ∧ Below w.heap.size w wr)
  case first =>
    go_wp2
    go_loopw [7, 8] (fun rv iv wr => ∃ (i p r : Nat) (ad : Option Addr) (c : Nat), i ≤ M ∧ iv = .int .i64 i ∧ p ≤ n ∧ n - p = r ∧ rv = .slice ad r c ∧ RestIs w (.slice ad r c) (bs.drop p) ∧ HashIs wr h (bs.take p) ∧ Below w.heap.size w wr) (fun _ iv _ => M - (intOf iv).toNat)
    case atStart => exact ⟨0, 0, n, ad0, c0, by omega, rfl, by omega, by omega, rfl, by have := HB.out; rw [HN.out] at this; simpa using this, by simpa using hh2, hB02⟩
    case round =>
      obtain ⟨i, p, r, ad, c, hi, rfl, hp, hr, rfl, hR, hH, hBr⟩ := hrel
      clear hh2 hB02
      by_cases hlt : i < M
      · obtain ⟨z, hz⟩ : ∃ z, zs[i]? = some z := ⟨_, List.getElem?_eq_getElem (by rw [HM.out]; exact hlt)⟩
        obtain ⟨cb, co, rfl, hcb, hcell⟩ := HZ.out (by rintro rfl; simp at hz)
        have cZ : wr.cell? ⟨cb, co + i, none⟩ = some (.int .i64 z) := (hBr.cell (p := ⟨cb, co + i, none⟩) hcb).trans (hcell i z hz)
        have i1 : (i : Int) < (M : Int) := by omega
        have i2 : 0 ≤ (i : Int) ∧ (i : Int) < (M : Int) := by omega
        have s2 : IntKind.i64.wrap ((i : Int) + 1) = (i : Int) + 1 := IntWalk.i64_in _ (by omega)
        have HRR := Lib.hid hr
        clear hcell hz HZ hr
        by_cases hneg : z < 0
        · go_wp2
          exact ⟨⟨i + 1, p, r, ad, c, by omega, by go_num, hp, HRR.out, rfl, hR, hH, hBr⟩, by simp [intOf]; omega⟩
        · by_cases hlong : (r : Int) < z
          · go_wp2
            exact ⟨⟨i + 1, p, r, ad, c, by omega, by go_num, hp, HRR.out, rfl, hR, hH, hBr⟩, by simp [intOf]; omega⟩
          · obtain ⟨k, rfl⟩ : ∃ k : Nat, z = (k : Int) := ⟨z.toNat, by omega⟩
            have hdl : (bs.drop p).length = r := by rw [List.length_drop, HN.out, HRR.out]
            obtain ⟨ad1, c1, ad2, c2, x1, x2, R1, R2⟩ := rest_cut hdl hR (show k ≤ r by omega)
            have tk : ((bs.drop p).take k).length = k := by simp [hdl]; omega
            obtain ⟨r2, hr2⟩ : ∃ r2, r - k = r2 := ⟨_, rfl⟩
            rw [hr2] at x2 R2
            have HR2 := Lib.hid hr2
            have hw1 := R1.slice.low hBr
            have hKr := hK.below hBr hK.1
            have hbl := R1.slice.lt
            have HTK := Lib.hid tk
            clear hr2 tk hdl
            have hlb : (bs.take p).length + ((bs.drop p).take k).length ≤ 4611686018427387904 := by
              have := HN.out
              simp
              omega
            go_wp2_with (go_at_call 21; refine (write_slice wr h (bs.take p) ((bs.drop p).take k) (.slice ad1 k c1) hH hKr h0 hlb hw1 (by intro b o c e hne; have := hbl b o c e hne; omega)).mono ?_; rintro e w3 ⟨rfl, hh3, hG3⟩)
            have e1 : bs.take p ++ (bs.drop p).take k = bs.take (p + k) := List.take_add.symm
            rw [e1] at hh3
            rw [List.drop_drop] at R2
            have q1 := HRR.out
            have q2 := HR2.out
            exact ⟨⟨i + 1, p + k, r2, ad2, c2, by omega, by go_num, by omega, by omega, rfl, R2, hh3, hBr.grown hG3 hBr.size (fun j e => by cases e; exact hwh)⟩, by simp [intOf]; omega⟩
      · obtain rfl : i = M := by omega
        go_wp2
        go_meet
        case rel => exact ⟨p, ad, c, hp, by rw [hr], by rw [hr]; exact hR, hH, hBr⟩
  case rest =>
    obtain ⟨p, ad, c, hp, rfl, hR, hH, hBr⟩ := hcut
    clear hh2 hB02
    obtain ⟨r, hr⟩ : ∃ r, n - p = r := ⟨_, rfl⟩
    rw [hr] at hR ⊢
    have HRR := Lib.hid hr
    clear hr
    go_step
    have hw1 := hR.slice.low hBr
    have hbl := hR.slice.lt
    have hKr := hK.below hBr hK.1
    have hlb : (bs.take p).length + (bs.drop p).length ≤ 4611686018427387904 := by
      have := HN.out
      simp
      omega
    have hall : bs.take p ++ bs.drop p = bs := List.take_append_drop p bs
    have HALL := Lib.hid hall
    have hlen : bs.length ≤ 1099511627776 := by
      have := HN.out
      omega
    have HLEN := Lib.hid hlen
    obtain ⟨S, hS⟩ : ∃ S, sha bs = S := ⟨_, rfl⟩
    have lS : S.length = 32 := by rw [← hS]; exact sha_length _
    have HS := Lib.hid hS
    have DS := Lib.hid (fun (wx : World) (hsl : SliceIs wx (.slice ad0 n c0) bs) (hk : KTab wx) => hS ▸ digest_sum wx bs (.slice ad0 n c0) hsl hk hlen)
    have TP := Lib.hid (fun (wx : World) => parse_calls wx (hexText S))
    have hpt := parse_text S lS
    rw [hpt] at TP
    obtain ⟨st, hst⟩ : ∃ st, textOf (hexText S) = st := ⟨_, rfl⟩
    have TT := Lib.hid (fun (wx : World) => text_calls wx S lS)
    rw [hst] at TP TT
    clear hlen hall hS hpt hst
    go_upto_region 18 with (go_at_call 21; refine (write_slice wc h (bs.take p) (bs.drop p) (.slice ad r c) hH hKr h0 hlb hw1 (by intro b o c e hne; have := hbl b o c e hne; omega)).mono ?_; rintro e w3 ⟨rfl, hh3, hG3⟩)
    rw [HALL.out] at hh3
    have cB3 := hBr.grown hG3 hBr.size (fun j e => by cases e; exact hwh)
    have hK3 := hK.below cB3 hK.1
    have hS3 : SliceIs w3 (.slice ad0 n c0) bs := by
      have h := HSL.out.low cB3
      rw [HN.out] at h
      exact h
    clear hbl hw1 hG3 hKr hlb hH
    go_upto_region 19 with (first
      | (go_at_call 18; refine (DS.out w3 hS3 hK3).mono ?_; rintro e w4 ⟨rfl, hB4⟩)
      | (refine wpList_alloc_row (by rfl) 25 (by rfl) _ _ info_d ?_)
      | (refine wpList_store_new (o := ⟨none, _, _, _, _, _⟩) (by rfl) 25 _ _ (by rfl) _ (S.map vu8).toArray 25 (by rfl) (by rfl) (by rw [size_d]; simp [lS]) (by simp [zeroNums, lS]) (all_u8 _) ?_)
      | fail)
    have hBA : ∀ (wx : World) o, Below wx.heap.size wx (wx.alloc o) := fun wx o => (Below.refl _ _).alloc (Nat.le_refl _) o
    have hD5 := Whole.new w4 25 (S.map vu8).toArray
    have hB35 := hB4.trans ((hBA w4 (.cells (S.map vu8).toArray 25)).mono hB4.size)
    have cB5 := cB3.trans (hB35.mono cB3.size)
    have hh5 := hh3.low hB35
    have zD : w4.heap.size < (w4.alloc (.cells (S.map vu8).toArray 25)).heap.size := by simp
    try simp only [Act.put, List.setIfInBounds_toArray, List.set_cons_zero, List.set_cons_succ]
    generalize (w4.alloc (.cells (S.map vu8).toArray 25)) = w5 at *
    generalize w4.heap.size = D at *
    clear hB35 hB4 hh3 cB3 hS3 hK3
    go_upto_region 20 with (first
      | (refine wpList_load_row (by rfl) 25 _ (by rfl) D (by rfl) 25 (S.map vu8).toArray (0, 0) _ hD5 Tryd.underlying25 (by rfl) (by rw [size_d]; simp [lS]) ?_)
      | (go_at_call 39; refine (TT.out w5).mono ?_; rintro e w6 ⟨rfl, hB6⟩)
      | (go_at_call 35; refine (TP.out w6).mono ?_; rintro e w7 ⟨rfl, hB7⟩)
      | (refine wpList_alloc_row (by rfl) 25 (by rfl) _ _ info_d ?_)
      | (refine wpList_store_new (o := ⟨none, _, _, _, _, _⟩) (by rfl) 25 _ _ (by rfl) _ (S.map vu8).toArray 25 (by rfl) (by rfl) (by rw [size_d]; simp [lS]) (by simp [zeroNums, lS]) (all_u8 _) ?_)
      | fail)
    have hE8 := Whole.new w7 25 (S.map vu8).toArray
    have hB57 := hB6.trans (hB7.mono hB6.size)
    have hB58 := hB57.trans ((hBA w7 (.cells (S.map vu8).toArray 25)).mono hB57.size)
    have cB8 := cB5.trans (hB58.mono cB5.size)
    have hh8 := hh5.low hB58
    have hD8 := hD5.below hB58 hD5.lt
    have zE : w7.heap.size < (w7.alloc (.cells (S.map vu8).toArray 25)).heap.size := by simp
    try simp only [Act.put, List.setIfInBounds_toArray, List.set_cons_zero, List.set_cons_succ]
    generalize (w7.alloc (.cells (S.map vu8).toArray 25)) = w8 at *
    generalize w7.heap.size = E at *
    have hk8 : PiecesIn w w8 h bs D E S := ⟨cB8, hh8, ⟨range_whole hD8, range_whole hE8⟩, hD8.lt, zE⟩
    refine pieces_end w w8 h D E bs S n c0 ad0 HN.out HLEN.out hK hk8 HS.out ?_
    intros
    go_wp2
    go_ret
    refine ⟨rfl, ?_⟩
    rename_i hkn
    exact hkn.1

set_option maxRecDepth 100000 in
open Go.ChangeShapes Go.WideShapes in
theorem digestPieces_answers {H : Type} {enc : TypeId × Value → H} (W : World) (base : Nat) (args : Array Value) (ds gs : List (DataW H)) (before : List MemPlace)
    (hval : ∀ (j : Nat) t v, Tryd.f10.params[j]? = some t → args[j]? = some v → Value.okWide Tryd.prog W .any base t v)
    (hW : DataW.Whole enc Tryd.prog Tryd.f10.params.toList Rows.digestPiecesSpec.vars false W args.toList ds gs before)
    (_ : (DataW.weightsEach Tryd.prog (Tryd.f10.params.toList ++ Rows.digestPiecesSpec.plain.varTypes Tryd.prog) (ds ++ gs)).all (· ≤ reachBytes) = true)
    (hL : laidMetH Tryd.prog Rows.digestPiecesRow.laid W) : Answers Tryd.prog 10 args W := by
  obtain ⟨p, q, hA, _, _, _, _⟩ := hW
  rw [Tryd.params10] at hA hval
  obtain ⟨v0, v1, d0, d1, p0, p1, rfl, rfl, _, h0, h1⟩ := trodAll_two hA
  obtain ⟨bs, hb⟩ := rest_arg (hval 0 _ v0 rfl rfl) h0
  obtain ⟨zs, hz⟩ := ints_arg (hval 1 _ v1 rfl rfl) h1
  exact digestPieces_walk W v0 v1 bs zs hb hz (ktab_of hL)

end Go.Proofs.YtngklnijmhlikaaDoor
