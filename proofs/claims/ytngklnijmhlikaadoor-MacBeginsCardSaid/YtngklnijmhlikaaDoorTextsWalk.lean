/- DigestTexts: the law's walk. -/
import Derived.Test.YtngklnijmhlikaaDoorTexts
namespace Go.Proofs.YtngklnijmhlikaaDoor
open Go.RowKit

/-- How many bytes lists hold. -/
def tot (ls : List (List (BitVec 8))) : Nat := (ls.map List.length).sum
theorem tot_next (ls : List (List (BitVec 8))) (k : Nat) (bs : List (BitVec 8)) (hk : ls[k]? = some bs) : tot (ls.take (k + 1)) = tot (ls.take k) + bs.length := by
  have h1 : k < ls.length := (List.getElem?_eq_some_iff.1 hk).1
  have hv : ls[k] = bs := (List.getElem?_eq_some_iff.1 hk).2
  rw [List.take_succ_eq_append_getElem h1, hv]
  simp [tot]
theorem joinBytes_length : ∀ ls : List (List (BitVec 8)), (joinBytes ls).length = tot ls + 8 * ls.length
  | [] => rfl
  | bs :: ls => by
    have := joinBytes_length ls
    rw [show bs :: ls = [bs] ++ ls from rfl, joinBytes_append]
    simp [joinBytes, tot, eightBytes_length] at this ⊢
    omega

theorem le_tot : ∀ {ls : List (List (BitVec 8))} {bs : List (BitVec 8)}, bs ∈ ls → bs.length ≤ tot ls
  | x :: ls, bs, h => by
    rcases List.mem_cons.1 h with rfl | h
    · simp [tot]
    · have := le_tot h
      simp [tot] at this ⊢
      omega

/-- Four digests that the law holds. -/
def FourAt (w : World) (a b c d : Nat) (xa xb xc xd : List Value) : Prop := ((w.rangeAt a 0 xa ∧ w.rangeAt b 0 xb) ∧ w.rangeAt c 0 xc) ∧ w.rangeAt d 0 xd
theorem range_low {w w' : World} {g : Nat} {l : List Value} (h : w.rangeAt g 0 l) (hb : Below w.heap.size w w') (hg : g < w.heap.size) : w'.rangeAt g 0 l := fun i x hx => (hb.cell (p := ⟨g, 0 + i, none⟩) hg).trans (h i x hx)
theorem range_whole {w : World} {g : Nat} {t : TypeId} {l : List Value} (h : Whole w g t l) : w.rangeAt g 0 l := fun i x hx => by
  rw [Nat.zero_add]
  exact h.cell_of hx
theorem FourAt.low {w w' : World} {a b c d : Nat} {xa xb xc xd : List Value} (h : FourAt w a b c d xa xb xc xd) (hb : Below w.heap.size w w') (ha : a < w.heap.size ∧ b < w.heap.size ∧ c < w.heap.size ∧ d < w.heap.size) : FourAt w' a b c d xa xb xc xd :=
  ⟨⟨⟨range_low h.1.1.1 hb ha.1, range_low h.1.1.2 hb ha.2.1⟩, range_low h.1.2 hb ha.2.2.1⟩, range_low h.2 hb ha.2.2.2⟩

set_option maxRecDepth 100000 in
set_option maxHeartbeats 4000000 in
theorem digestTexts_walk (w : World) (sl : Value) (ls : List (List (BitVec 8))) (db ys : List (BitVec 8)) (hs : ListsAt w sl ls) (hls : ls.length ≤ 9223372036854775807) (hbs : ∀ bs ∈ ls, bs.length ≤ 140737488355328) (hd : db.length = 32) (hK : KTab w) :
    Answers Tryd.prog 7 #[sl, .agg (db.map vu8).toArray, .string (textOf ys)] w := by
  have hs0 := hs
  obtain ⟨ao, cp, rfl, hl⟩ := hs
  obtain ⟨N, hN⟩ : ∃ N, ls.length = N := ⟨_, rfl⟩
  rw [hN] at hls hs0 ⊢
  have HN := Lib.hid hN
  have HL := Lib.hid hl
  have HS := Lib.hid hs0
  obtain ⟨st, hst⟩ : ∃ st, textOf ys = st := ⟨_, rfl⟩
  rw [hst]
  have HST := Lib.hid hst
  clear hN hl hst hs0
  unfold Answers
  go_enter Tryd.func7, Tryd.ntmps7
  go_upto_region 1 with (refine wpList_box_row (by rfl) 25 _ (by rfl) (db.map vu8).toArray (by rfl) ?_)
  have hD := Whole.new w 25 (db.map vu8).toArray
  have hB : Below w.heap.size w (w.alloc (.cells (db.map vu8).toArray 25)) := (Below.refl _ _).alloc (Nat.le_refl _) _
  have hz1 : (w.alloc (.cells (db.map vu8).toArray 25)).heap.size = w.heap.size + 1 := by simp
  generalize (w.alloc (.cells (db.map vu8).toArray 25)) = w1 at *
  obtain ⟨D, hDe⟩ : ∃ D, w.heap.size = D := ⟨_, rfl⟩
  rw [hDe] at hD hz1 ⊢
  have hz1' := Lib.hid hz1
  have hDe' := Lib.hid hDe
  clear hz1 hDe
  go_upto_block 0 with (fail)
  go_cut [7, 8] (fun _ _ wc => wc = w1 ∧ tot ls ≤ 20000)
  case first =>
    go_wp2
    go_loopw [7, 8] (fun nv iv wr => ∃ k : Nat, k ≤ N ∧ iv = .int .i64 k ∧ nv = .int .i64 (tot (ls.take k) : Nat) ∧ tot (ls.take k) ≤ 20000 ∧ wr = w1) (fun _ iv _ => N - (intOf iv).toNat)
    case atStart => exact ⟨0, by omega, rfl, rfl, by simp [tot], rfl⟩
    case round =>
      obtain ⟨k, hk, rfl, rfl, htot, rfl⟩ := hrel
      by_cases hlt : k < N
      · obtain ⟨bs, hbk⟩ : ∃ bs, ls[k]? = some bs := ⟨_, List.getElem?_eq_getElem (by rw [HN.out]; exact hlt)⟩
        obtain ⟨ab, ao', rfl, hab, hcell⟩ := HL.out (by rintro rfl; simp at hbk)
        obtain ⟨v, hv, hsv⟩ := hcell k bs hbk
        have hbl := hbs bs (List.mem_of_getElem? hbk)
        obtain ⟨vp, vc, rfl, _⟩ := hsv.cells
        have cV : wr.cell? ⟨ab, ao' + k, none⟩ = some (.slice vp bs.length vc) := (hB.cell (p := ⟨ab, ao' + k, none⟩) hab).trans hv
        have i1 : (k : Int) < (N : Int) := by omega
        have i2 : 0 ≤ (k : Int) ∧ (k : Int) < (N : Int) := by omega
        have b2 : IntKind.i64.wrap ((k : Int) + 1) = (k : Int) + 1 := IntWalk.i64_in _ (by omega)
        have htn := tot_next ls k bs hbk
        obtain ⟨T, hT⟩ : ∃ T, tot (ls.take k) = T := ⟨_, rfl⟩
        rw [hT] at htn htot ⊢
        obtain ⟨T2, hT2⟩ : ∃ T2, T + bs.length = T2 := ⟨_, rfl⟩
        rw [hT2] at htn
        have b3 : IntKind.i64.wrap ((T : Int) + (bs.length : Int)) = (T2 : Int) := by
          rw [show (T : Int) + (bs.length : Int) = (T2 : Int) from by omega]
          exact IntWalk.i64_in _ (by omega)
        have HT := Lib.hid htn
        have HX := Lib.hid hT
        have HX2 := Lib.hid hT2
        clear htn hT hT2 hcell HL HS
        by_cases hbig : 20000 < T2
        · have b4 : (20000 : Int) < (T2 : Int) := by omega
          go_wp2
          go_ret
          exact ⟨rfl, hB⟩
        · have b4 : ¬ (20000 : Int) < (T2 : Int) := by omega
          go_wp2
          exact ⟨⟨k + 1, by omega, by go_num, by rw [HT.out], by rw [HT.out]; omega, by simp⟩, by simp [intOf]; omega⟩
      · obtain rfl : k = N := by omega
        have hfull : ls.take k = ls := List.take_of_length_le (by rw [HN.out]; omega)
        rw [hfull] at htot
        go_wp2
        go_meet
        case rel => exact ⟨rfl, htot⟩
  case rest =>
    obtain ⟨rfl, htot⟩ := hcut
    go_step
    by_cases hbig : 100 < N
    · have b4 : (100 : Int) < (N : Int) := by omega
      go_wp2
      go_ret
      exact ⟨rfl, hB⟩
    have b4 : ¬ (100 : Int) < (N : Int) := by omega
    have hz1 := hz1'.out
    have hDe := hDe'.out
    have hsz0 := hB.size
    have hj : (joinBytes ls).length ≤ 30000 := by
      rw [joinBytes_length, HN.out]
      omega
    have HJ := Lib.hid hj
    replace hD : Whole wc D 25 (db.map vu8) := hD
    have HSW := Lib.hid (HS.out.low hB)
    clear hz1 hz1' hj HL HS
    go_upto_region 11 with (go_at_call 33; refine (lents_calls wc _ ls HSW.out (by rw [HN.out]; omega) (fun bs hb => by have := le_tot hb; omega)).mono ?_; rintro e w2 ⟨lv, rfl, hl2, hB2⟩)
    have hKc := hK.below hB hK.1
    have hDl := hD.lt
    have hD2 := hD.below hB2 hDl
    have hS2 := Lib.hid (HSW.out.low hB2)
    have hL2 := Lib.hid hl2
    have hK2 := hKc.below hB2 hKc.1
    have z2 := hB2.size
    have hBw2 := hB.trans (hB2.mono hsz0)
    clear hD hKc hl2
    go_upto_region 12 with (first
      | (go_at_call 34; refine (join_calls w2 _ ls hL2.out.lists hK2 (by have := HJ.out; omega)).mono ?_; rintro e w3 ⟨rfl, hB3⟩)
      | (refine wpList_alloc_row (by rfl) 25 (by rfl) _ _ info_d ?_)
      | (refine wpList_store_new (o := ⟨none, _, _, _, _, _⟩) (by rfl) 25 _ _ (by rfl) _ ((sha (joinBytes ls)).map vu8).toArray 25 (by rfl) (by rfl) (by rw [size_d]; simp [sha_length]) (by simp [zeroNums, sha_length]) (all_u8 _) ?_))
    have hA4 := Whole.new w3 25 ((sha (joinBytes ls)).map vu8).toArray
    have hB24 : Below w2.heap.size w2 (w3.alloc (.cells ((sha (joinBytes ls)).map vu8).toArray 25)) := hB3.alloc hB3.size _
    have zA := hB3.size
    have hz3 : w3.heap.size < (w3.alloc (.cells ((sha (joinBytes ls)).map vu8).toArray 25)).heap.size := by simp
    try simp only [Act.put, List.setIfInBounds_toArray, List.set_cons_zero, List.set_cons_succ]
    generalize (w3.alloc (.cells ((sha (joinBytes ls)).map vu8).toArray 25)) = w4 at *
    generalize w3.heap.size = A at *
    have hD4 := hD2.below hB24 (by omega)
    have hS4 := Lib.hid (hS2.out.low hB24)
    have hL4 := Lib.hid (hL2.out.low hB24)
    have hBw4 := hBw2.trans (hB24.mono hBw2.size)
    clear hD2 hS2 hL2 hK2 hB24 hB3
    have hps := fun w' => parse_calls w' ys
    rw [HST.out] at hps
    have hrp := fun w' => refparse_calls w' ys
    rw [HST.out] at hrp
    have hpl := parseRes_length ys
    obtain ⟨pd, hpd⟩ : ∃ pd, (parseRes ys).1 = pd := ⟨_, rfl⟩
    obtain ⟨pe, hpe⟩ : ∃ pe, (parseRes ys).2 = pe := ⟨_, rfl⟩
    rw [hpd, hpe] at hps hrp
    rw [hpd] at hpl
    have HPS := Lib.hid hps
    have HRP := Lib.hid hrp
    clear hps hrp hpd hpe
    go_upto_region 13 with (first
      | (go_at_call 35; refine (HPS.out w4).mono ?_; rintro e w5 ⟨rfl, hB5⟩)
      | (refine wpList_alloc_row (by rfl) 25 (by rfl) _ _ info_d ?_)
      | (refine wpList_store_new (o := ⟨none, _, _, _, _, _⟩) (by rfl) 25 _ _ (by rfl) _ (pd.map vu8).toArray 25 (by rfl) (by rfl) (by rw [size_d]; simp [hpl]) (by simp [zeroNums, hpl]) (all_u8 _) ?_))
    have hP6 := Whole.new w5 25 (pd.map vu8).toArray
    have hB46 : Below w4.heap.size w4 (w5.alloc (.cells (pd.map vu8).toArray 25)) := hB5.alloc hB5.size _
    have zB := hB5.size
    have hz5 : w5.heap.size < (w5.alloc (.cells (pd.map vu8).toArray 25)).heap.size := by simp
    try simp only [Act.put, List.setIfInBounds_toArray, List.set_cons_zero, List.set_cons_succ]
    generalize (w5.alloc (.cells (pd.map vu8).toArray 25)) = w6 at *
    generalize w5.heap.size = B at *
    have hD6 := hD4.below hB46 (by omega)
    have hA6 := hA4.below hB46 (by omega)
    have hS6 := Lib.hid (hS4.out.low hB46)
    have hL6 := Lib.hid (hL4.out.low hB46)
    have hBw6 := hBw4.trans (hB46.mono hBw4.size)
    clear hD4 hA4 hS4 hL4 hB46 hB5 hBw4
    go_upto_region 14 with (first
      | (go_at_call 36; refine (HRP.out w6).mono ?_; rintro e w7 ⟨rfl, hB7⟩)
      | (refine wpList_alloc_row (by rfl) 25 (by rfl) _ _ info_d ?_)
      | (refine wpList_store_new (o := ⟨none, _, _, _, _, _⟩) (by rfl) 25 _ _ (by rfl) _ (pd.map vu8).toArray 25 (by rfl) (by rfl) (by rw [size_d]; simp [hpl]) (by simp [zeroNums, hpl]) (all_u8 _) ?_))
    have hC8 := Whole.new w7 25 (pd.map vu8).toArray
    have hB68 : Below w6.heap.size w6 (w7.alloc (.cells (pd.map vu8).toArray 25)) := hB7.alloc hB7.size _
    have zC := hB7.size
    have hz7 : w7.heap.size < (w7.alloc (.cells (pd.map vu8).toArray 25)).heap.size := by simp
    try simp only [Act.put, List.setIfInBounds_toArray, List.set_cons_zero, List.set_cons_succ]
    generalize (w7.alloc (.cells (pd.map vu8).toArray 25)) = w8 at *
    generalize w7.heap.size = C at *
    have hD8 := hD6.below hB68 (by omega)
    have hA8 := hA6.below hB68 (by omega)
    have hP8 := hP6.below hB68 (by omega)
    have hS8 := Lib.hid (hS6.out.low hB68)
    have hL8 := Lib.hid (hL6.out.low hB68)
    have hBw8 := (hBw6.trans (hB68.mono hBw6.size)).drew
    have k8 : FourAt w8 A D B C ((sha (joinBytes ls)).map vu8) (db.map vu8) (pd.map vu8) (pd.map vu8) := ⟨⟨⟨range_whole hA8, range_whole hD8⟩, range_whole hP8⟩, range_whole hC8⟩
    have hlt8 : A < w8.heap.size ∧ D < w8.heap.size ∧ B < w8.heap.size ∧ C < w8.heap.size := by omega
    clear hD6 hA6 hP6 hS6 hL6 hB68 hB7 hBw6 hD8 hA8 hP8 hC8
    have heq1 := eql_digest (sha (joinBytes ls)) (sha (joinBytes ls)) (sha_length _) (sha_length _)
    have heq2 := eql_digest pd pd hpl hpl
    have hu := Tryd.underlying25
    have hi1 : (Tryd.prog.info? 25).map (·.size) = some ((sha (joinBytes ls)).map vu8).length := by rw [size_d]; simp [sha_length]
    have hi2 : (Tryd.prog.info? 25).map (·.size) = some (db.map vu8).length := by rw [size_d]; simp [hd]
    have hi3 : (Tryd.prog.info? 25).map (·.size) = some (pd.map vu8).length := by rw [size_d]; simp [hpl]
    refine wp_region_noPanic ?_
    refine wp_region_held_drew (S := fun w' => FourAt w' A D B C ((sha (joinBytes ls)).map vu8) (db.map vu8) (pd.map vu8) (pd.map vu8)) (by kernel_rfl) (k8) (fun hHeld => ?_)
    refine wpAnyH_take (i := 0) (oi := ⟨some 47, _, _, _, _, _⟩) (v := _) rfl (by kernel_rfl) (by kernel_rfl) (by kernel_rfl) (fun _ _ _ h => h) (yieldsIf_load_mid (by rfl) _ _ rfl A 0 rfl ((sha (joinBytes ls)).map vu8) _ (fun w hS => hS.1.1.1) hu rfl hi1) (by assumption) ?_
    try simp only [Act.put, List.setIfInBounds_toArray, List.set_cons_zero, List.set_cons_succ]
    refine wpAnyH_take (i := 1) (oi := ⟨some 48, _, _, _, _, _⟩) (v := ?_) rfl (by kernel_rfl) (by kernel_rfl) (by kernel_rfl) (fun _ _ _ h => h) (Or.inl ⟨by rfl, ?_⟩) (by assumption) ?_
    rotate_left
    · intro w hSw
      (try dsimp only at hSw)
      go_simp
      all_goals (with_reducible rfl)
    try simp only [Act.put, List.setIfInBounds_toArray, List.set_cons_zero, List.set_cons_succ]
    refine wpAnyH_ready (rs := [2]) (by kernel_rfl) (by simp) ?_
    refine AllReadyH.cons (o := ⟨some 49, _, _, _, _, _⟩) rfl (fun K hK => ?_) AllReadyH.nil
    go_simp
    refine (refjoin_calls _ _ ls (show ListsAt w8.drew _ ls from hS8.out) (by have := HJ.out; omega)).mono ?_
    rintro e w9 ⟨rfl, hB9⟩
    have k9 := (show FourAt w8.drew A D B C _ _ _ _ from k8).low hB9 hlt8
    have hlt9 : A < w9.heap.size ∧ D < w9.heap.size ∧ B < w9.heap.size ∧ C < w9.heap.size := (by have := (show w8.heap.size ≤ w9.heap.size from hB9.size); omega)
    refine hK.out _ _ (k9) (fun hHeld => ?_)
    clear hK K
    try simp only [Act.put, List.setIfInBounds_toArray, List.set_cons_zero, List.set_cons_succ]
    refine wpAnyH_take (i := 3) (oi := ⟨some 50, _, _, _, _, _⟩) (v := ?_) rfl (by kernel_rfl) (by kernel_rfl) (by kernel_rfl) (fun _ _ _ h => h) (Or.inl ⟨by rfl, ?_⟩) (by assumption) ?_
    rotate_left
    · intro w hSw
      (try dsimp only at hSw)
      go_simp
      all_goals (with_reducible rfl)
    try simp only [Act.put, List.setIfInBounds_toArray, List.set_cons_zero, List.set_cons_succ]
    refine wpAnyH_take (i := 4) (oi := ⟨some 51, _, _, _, _, _⟩) (v := ?_) rfl (by kernel_rfl) (by kernel_rfl) (by kernel_rfl) (fun _ _ _ h => h) (Or.inl ⟨by rfl, ?_⟩) (by assumption) ?_
    rotate_left
    · intro w hSw
      (try dsimp only at hSw)
      go_simp
      all_goals (with_reducible rfl)
    try simp only [Act.put, List.setIfInBounds_toArray, List.set_cons_zero, List.set_cons_succ]
    refine wpAnyH_take (i := 5) (oi := ⟨some 52, _, _, _, _, _⟩) (v := ?_) rfl (by kernel_rfl) (by kernel_rfl) (by kernel_rfl) (fun _ _ _ h => h) (Or.inl ⟨by rfl, ?_⟩) (by assumption) ?_
    rotate_left
    · intro w hSw
      (try dsimp only at hSw)
      go_simp
      all_goals (with_reducible rfl)
    try simp only [Act.put, List.setIfInBounds_toArray, List.set_cons_zero, List.set_cons_succ]
    refine wpAnyH_take (i := 6) (oi := ⟨some 53, _, _, _, _, _⟩) (v := ?_) rfl (by kernel_rfl) (by kernel_rfl) (by kernel_rfl) (fun _ _ _ h => h) (Or.inl ⟨by rfl, ?_⟩) (by assumption) ?_
    rotate_left
    · intro w hSw
      (try dsimp only at hSw)
      go_simp
      all_goals (with_reducible rfl)
    try simp only [Act.put, List.setIfInBounds_toArray, List.set_cons_zero, List.set_cons_succ]
    refine wpAnyH_ready (rs := [7]) (by kernel_rfl) (by simp) ?_
    refine AllReadyH.cons (o := ⟨some 54, _, _, _, _, _⟩) rfl (fun K hK => ?_) AllReadyH.nil
    go_simp
    refine (keptLists_calls w9 wc.heap.size lv _ ls ((show LentsAt w8.drew _ _ _ from hL8.out).low hB9) ((show ListsAt w8.drew _ ls from hS8.out).low hB9) (by rw [HN.out]; omega) (fun bs hb => by have := le_tot hb; omega)).mono ?_
    rintro e w10 ⟨rfl, hB10⟩
    have hlt10 : A < w10.heap.size ∧ D < w10.heap.size ∧ B < w10.heap.size ∧ C < w10.heap.size := (by have := hB10.size; omega)
    have k10 := k9.low hB10 hlt9
    refine hK.out _ _ (k10) (fun hHeld => ?_)
    clear hK K
    try simp only [Act.put, List.setIfInBounds_toArray, List.set_cons_zero, List.set_cons_succ]
    refine wpAnyH_take (i := 8) (oi := ⟨some 55, _, _, _, _, _⟩) (v := ?_) rfl (by kernel_rfl) (by kernel_rfl) (by kernel_rfl) (fun _ _ _ h => h) (Or.inl ⟨by rfl, ?_⟩) (by assumption) ?_
    rotate_left
    · intro w hSw
      (try dsimp only at hSw)
      go_simp
      all_goals (with_reducible rfl)
    try simp only [Act.put, List.setIfInBounds_toArray, List.set_cons_zero, List.set_cons_succ]
    refine wpAnyH_take (i := 9) (oi := ⟨some 56, _, _, _, _, _⟩) (v := ?_) rfl (by kernel_rfl) (by kernel_rfl) (by kernel_rfl) (fun _ _ _ h => h) (Or.inl ⟨by rfl, ?_⟩) (by assumption) ?_
    rotate_left
    · intro w hSw
      (try dsimp only at hSw)
      go_simp
      all_goals (with_reducible rfl)
    try simp only [Act.put, List.setIfInBounds_toArray, List.set_cons_zero, List.set_cons_succ]
    refine wpAnyH_take (i := 10) (oi := ⟨some 57, _, _, _, _, _⟩) (v := _) rfl (by kernel_rfl) (by kernel_rfl) (by kernel_rfl) (fun _ _ _ h => h) (yieldsIf_load_mid (by rfl) _ _ rfl D 0 rfl (db.map vu8) _ (fun w hS => hS.1.1.2) hu rfl hi2) (by assumption) ?_
    try simp only [Act.put, List.setIfInBounds_toArray, List.set_cons_zero, List.set_cons_succ]
    refine wpAnyH_take (i := 12) (oi := ⟨some 59, _, _, _, _, _⟩) (v := _) rfl (by kernel_rfl) (by kernel_rfl) (by kernel_rfl) (fun _ _ _ h => h) (yieldsIf_load_mid (by rfl) _ _ rfl D 0 rfl (db.map vu8) _ (fun w hS => hS.1.1.2) hu rfl hi2) (by assumption) ?_
    try simp only [Act.put, List.setIfInBounds_toArray, List.set_cons_zero, List.set_cons_succ]
    refine wpAnyH_ready (rs := [11]) (by kernel_rfl) (by simp) ?_
    refine AllReadyH.cons (o := ⟨some 58, _, _, _, _, _⟩) rfl (fun K hK => ?_) AllReadyH.nil
    go_simp
    refine (text_calls w10 db hd).mono ?_
    rintro e w11 ⟨rfl, hB11⟩
    have hlt11 : A < w11.heap.size ∧ D < w11.heap.size ∧ B < w11.heap.size ∧ C < w11.heap.size := (by have := hB11.size; omega)
    have k11 := k10.low hB11 hlt10
    refine hK.out _ _ (k11) (fun hHeld => ?_)
    clear hK K
    try simp only [Act.put, List.setIfInBounds_toArray, List.set_cons_zero, List.set_cons_succ]
    refine wpAnyH_ready (rs := [13]) (by kernel_rfl) (by simp) ?_
    refine AllReadyH.cons (o := ⟨some 60, _, _, _, _, _⟩) rfl (fun K hK => ?_) AllReadyH.nil
    go_simp
    refine (reftext_calls w11 db hd).mono ?_
    rintro e w12 ⟨rfl, hB12⟩
    have k12 := k11.low hB12 hlt11
    refine hK.out _ _ (k12) (fun hHeld => ?_)
    clear hK K
    try simp only [Act.put, List.setIfInBounds_toArray, List.set_cons_zero, List.set_cons_succ]
    refine wpAnyH_take (i := 14) (oi := ⟨some 61, _, _, _, _, _⟩) (v := ?_) rfl (by kernel_rfl) (by kernel_rfl) (by kernel_rfl) (fun _ _ _ h => h) (Or.inl ⟨by rfl, ?_⟩) (by assumption) ?_
    rotate_left
    · intro w hSw
      (try dsimp only at hSw)
      go_simp
      all_goals (with_reducible rfl)
    try simp only [Act.put, List.setIfInBounds_toArray, List.set_cons_zero, List.set_cons_succ]
    refine wpAnyH_take (i := 15) (oi := ⟨some 62, _, _, _, _, _⟩) (v := ?_) rfl (by kernel_rfl) (by kernel_rfl) (by kernel_rfl) (fun _ _ _ h => h) (Or.inl ⟨by rfl, ?_⟩) (by assumption) ?_
    rotate_left
    · intro w hSw
      (try dsimp only at hSw)
      go_simp
      all_goals (with_reducible rfl)
    try simp only [Act.put, List.setIfInBounds_toArray, List.set_cons_zero, List.set_cons_succ]
    refine wpAnyH_take (i := 16) (oi := ⟨some 63, _, _, _, _, _⟩) (v := ?_) rfl (by kernel_rfl) (by kernel_rfl) (by kernel_rfl) (fun _ _ _ h => h) (Or.inl ⟨by rfl, ?_⟩) (by assumption) ?_
    rotate_left
    · intro w hSw
      (try dsimp only at hSw)
      go_simp
      all_goals (with_reducible rfl)
    try simp only [Act.put, List.setIfInBounds_toArray, List.set_cons_zero, List.set_cons_succ]
    refine wpAnyH_take (i := 17) (oi := ⟨some 64, _, _, _, _, _⟩) (v := _) rfl (by kernel_rfl) (by kernel_rfl) (by kernel_rfl) (fun _ _ _ h => h) (yieldsIf_load_mid (by rfl) _ _ rfl B 0 rfl (pd.map vu8) _ (fun w hS => hS.1.2) hu rfl hi3) (by assumption) ?_
    try simp only [Act.put, List.setIfInBounds_toArray, List.set_cons_zero, List.set_cons_succ]
    refine wpAnyH_take (i := 18) (oi := ⟨some 65, _, _, _, _, _⟩) (v := _) rfl (by kernel_rfl) (by kernel_rfl) (by kernel_rfl) (fun _ _ _ h => h) (yieldsIf_load_mid (by rfl) _ _ rfl C 0 rfl (pd.map vu8) _ (fun w hS => hS.2) hu rfl hi3) (by assumption) ?_
    try simp only [Act.put, List.setIfInBounds_toArray, List.set_cons_zero, List.set_cons_succ]
    refine wpAnyH_take (i := 19) (oi := ⟨some 66, _, _, _, _, _⟩) (v := ?_) rfl (by kernel_rfl) (by kernel_rfl) (by kernel_rfl) (fun _ _ _ h => h) (Or.inl ⟨by rfl, ?_⟩) (by assumption) ?_
    rotate_left
    · intro w hSw
      (try dsimp only at hSw)
      go_simp
      all_goals (with_reducible rfl)
    try simp only [Act.put, List.setIfInBounds_toArray, List.set_cons_zero, List.set_cons_succ]
    refine wpAnyH_take (i := 20) (oi := ⟨some 67, _, _, _, _, _⟩) (v := ?_) rfl (by kernel_rfl) (by kernel_rfl) (by kernel_rfl) (fun _ _ _ h => h) (Or.inl ⟨by rfl, ?_⟩) (by assumption) ?_
    rotate_left
    · intro w hSw
      (try dsimp only at hSw)
      go_simp
      all_goals (with_reducible rfl)
    try simp only [Act.put, List.setIfInBounds_toArray, List.set_cons_zero, List.set_cons_succ]
    refine wpAnyH_take (i := 21) (oi := ⟨some 68, _, _, _, _, _⟩) (v := ?_) rfl (by kernel_rfl) (by kernel_rfl) (by kernel_rfl) (fun _ _ _ h => h) (Or.inl ⟨by rfl, ?_⟩) (by assumption) ?_
    rotate_left
    · intro w hSw
      (try dsimp only at hSw)
      go_simp
      all_goals (with_reducible rfl)
    try simp only [Act.put, List.setIfInBounds_toArray, List.set_cons_zero, List.set_cons_succ]
    refine wpAnyH_take (i := 22) (oi := ⟨some 69, _, _, _, _, _⟩) (v := ?_) rfl (by kernel_rfl) (by kernel_rfl) (by kernel_rfl) (fun _ _ _ h => h) (Or.inl ⟨by rfl, ?_⟩) (by assumption) ?_
    rotate_left
    · intro w hSw
      (try dsimp only at hSw)
      go_simp
      all_goals (with_reducible rfl)
    try simp only [Act.put, List.setIfInBounds_toArray, List.set_cons_zero, List.set_cons_succ]
    refine wpAnyH_take (i := 23) (oi := ⟨some 70, _, _, _, _, _⟩) (v := ?_) rfl (by kernel_rfl) (by kernel_rfl) (by kernel_rfl) (fun _ _ _ h => h) (Or.inl ⟨by rfl, ?_⟩) (by assumption) ?_
    rotate_left
    · intro w hSw
      (try dsimp only at hSw)
      go_simp
      all_goals (with_reducible rfl)
    try simp only [Act.put, List.setIfInBounds_toArray, List.set_cons_zero, List.set_cons_succ]
    refine wpAnyH_take (i := 24) (oi := ⟨some 71, _, _, _, _, _⟩) (v := ?_) rfl (by kernel_rfl) (by kernel_rfl) (by kernel_rfl) (fun _ _ _ h => h) (Or.inl ⟨by rfl, ?_⟩) (by assumption) ?_
    rotate_left
    · intro w hSw
      (try dsimp only at hSw)
      go_simp
      all_goals (with_reducible rfl)
    try simp only [Act.put, List.setIfInBounds_toArray, List.set_cons_zero, List.set_cons_succ]
    refine wpAnyH_take (i := 25) (oi := ⟨some 72, _, _, _, _, _⟩) (v := ?_) rfl (by kernel_rfl) (by kernel_rfl) (by kernel_rfl) (fun _ _ _ h => h) (Or.inl ⟨by rfl, ?_⟩) (by assumption) ?_
    rotate_left
    · intro w hSw
      (try dsimp only at hSw)
      go_simp
      all_goals (with_reducible rfl)
    try simp only [Act.put, List.setIfInBounds_toArray, List.set_cons_zero, List.set_cons_succ]
    refine wpAnyH_take (i := 26) (oi := ⟨some 6, _, _, _, _, _⟩) (v := ?_) rfl (by kernel_rfl) (by kernel_rfl) (by kernel_rfl) (fun _ _ _ h => h) (Or.inl ⟨by rfl, ?_⟩) (by assumption) ?_
    rotate_left
    · intro w hSw
      (try dsimp only at hSw)
      go_simp
      all_goals (with_reducible rfl)
    try simp only [Act.put, List.setIfInBounds_toArray, List.set_cons_zero, List.set_cons_succ]
    refine wpAnyH_done (by kernel_rfl) ?_ _
    refine NoPanic.normal ?_
    go_wp2
    go_ret
    refine ⟨rfl, ?_⟩
    rw [← hDe'.out]
    have c9 := hBw8.trans (hB9.mono hBw8.size)
    have c10 := c9.trans (hB10.mono c9.size)
    have c11 := c10.trans (hB11.mono c10.size)
    exact c11.trans (hB12.mono c11.size)

set_option maxRecDepth 100000 in
open Go.ChangeShapes Go.WideShapes in
theorem digestTexts_answers {H : Type} {enc : TypeId × Value → H} (W : World) (base : Nat) (args : Array Value) (ds gs : List (DataW H)) (before : List MemPlace)
    (hval : ∀ (j : Nat) t v, Tryd.f7.params[j]? = some t → args[j]? = some v → Value.okWide Tryd.prog W .any base t v)
    (hW : DataW.Whole enc Tryd.prog Tryd.f7.params.toList Rows.digestTextsSpec.vars false W args.toList ds gs before)
    (hsz : (DataW.weightsEach Tryd.prog (Tryd.f7.params.toList ++ Rows.digestTextsSpec.plain.varTypes Tryd.prog) (ds ++ gs)).all (· ≤ reachBytes) = true)
    (hL : laidMetH Tryd.prog Rows.digestTextsRow.laid W) : Answers Tryd.prog 7 args W := by
  obtain ⟨p, q, hA, _, _, _, _⟩ := hW
  rw [Tryd.params7] at hA hval hsz
  obtain ⟨v0, v1, v2, d0, d1, d2, p0, p1, p2, rfl, rfl, _, h0, h1, h2⟩ := trodAll_three hA
  have hw : ∀ n ∈ d0.weights Tryd.prog 43, n ≤ 140737488355328 := fun n hn => by
    have h := List.all_eq_true.1 hsz n (DataW.weights_mem_each (j := 0) (t := 43) (d := d0) rfl rfl n hn)
    have h2 : n ≤ reachBytes := by simpa using h
    have := reachBytes_lt
    omega
  obtain ⟨ls, hs, hl, hb⟩ := lists_arg_sized (hval 0 _ v0 rfl rfl) h0 hw
  obtain ⟨db, rfl, hd⟩ := digest_arg (hval 1 _ v1 rfl rfl) h1
  obtain ⟨ys, rfl⟩ := string_arg (hval 2 _ v2 rfl rfl)
  exact digestTexts_walk W v0 ls db ys hs hl hb hd (ktab_of hL)

end Go.Proofs.YtngklnijmhlikaaDoor
