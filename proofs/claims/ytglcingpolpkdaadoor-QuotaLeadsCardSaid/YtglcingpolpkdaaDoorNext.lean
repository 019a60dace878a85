/- The head behind a note. -/
import Derived.Test.YtglcingpolpkdaaDoorNote
namespace Go.Proofs.YtglcingpolpkdaaDoor
open Go.RowKit

set_option maxRecDepth 100000 in
set_option maxHeartbeats 2000000 in
theorem next_good (w : World) (d : List (BitVec 8)) (time : Int) (who tenant : ByteArray) (what : Int) (key : ByteArray) (code : Int) (hd : d.length = 32) (hK : KTab w) (h : nextOk ⟨time, who, tenant, what, key, code⟩ = true) :
    Calls Tryd.prog 11 #[.agg (d.map vu8).toArray, .agg #[.int .i64 time, .string who, .string tenant, .int .i64 what, .string key, .int .i64 code]] w fun e w' => e = .returned (.tuple #[.agg ((nextD d ⟨time, who, tenant, what, key, code⟩).map vu8).toArray, .int .i64 0]) ∧ Below w.heap.size w w' := by
  unfold nextOk at h
  simp only [Bool.and_eq_true, decide_eq_true_eq] at h
  obtain ⟨⟨⟨o1, o2⟩, o3⟩, ⟨z1, z2⟩, z3⟩ := h
  obtain ⟨wq, hwq, hH1, hN1, hR, hK1, hB1, hz1⟩ := next_start w d #[.int .i64 time, .string who, .string tenant, .int .i64 what, .string key, .int .i64 code] hK
  change Whole wq (w.heap.size + 1) 36 [.int .i64 time, .string who, .string tenant, .int .i64 what, .string key, .int .i64 code] at hN1
  have hgeD : w.heap.size < w.heap.size + 1 + 1 := by omega
  have hne : w.heap.size + 1 ≠ w.heap.size + 1 + 1 := by omega
  have hne2 : w.heap.size ≠ w.heap.size + 1 + 1 := by omega
  have HI1 := Lib.hid (fun w' => int_ok w' o1)
  have HI2 := Lib.hid (fun w' => int_ok w' o2)
  have HI3 := Lib.hid (fun w' => int_ok w' o3)
  have HJ := Lib.hid (next_len d ⟨time, who, tenant, what, key, code⟩ hd z1 z2 z3)
  have hmx := fun ats ty w => run_max3 (P := Tryd.prog) ats ty w who.size tenant.size key.size
  have i1 : ¬ (64 : Int) < max (max (who.size : Int) tenant.size) key.size := by omega
  clear o1 o2 o3 hK
  go_enter Tryd.func11, Tryd.ntmps11
  go_upto_region 1 with (first
    | (refine wpList_alloc_row (by rfl) 24 (by rfl) _ _ info_d ?_)
    | (refine wpList_box_cells (by rfl) 36 _ (by rfl) #[.int .i64 time, .string who, .string tenant, .int .i64 what, .string key, .int .i64 code] (by rfl) ?_)
    | (refine wpList_box_cells (by rfl) 24 _ (by rfl) (d.map vu8).toArray (by rfl) ?_)
    | fail)
  rw [← hwq]
  try simp only [World.size_alloc]
  clear hwq hz1
  obtain ⟨HB, hHB⟩ : ∃ x, w.heap.size = x := ⟨_, rfl⟩
  obtain ⟨NB, hNB⟩ : ∃ x, HB + 1 = x := ⟨_, rfl⟩
  obtain ⟨DB, hDB⟩ : ∃ x, NB + 1 = x := ⟨_, rfl⟩
  rw [hHB] at hH1 hN1 hR hgeD hne hne2 ⊢
  rw [hNB] at hN1 hR hgeD hne hne2 ⊢
  rw [hDB] at hR hgeD hne hne2 ⊢
  have HGE := Lib.hid (show w.heap.size < DB by omega)
  clear hHB hNB hDB hgeD
  have c0 := hN1.cell 0
  go_upto_region 6 with (first
    | (go_at_call 28; refine (HI3.out w3).mono ?_; rintro e w4 ⟨pc, kc, rfl, hc4, hb4⟩; have hN4 := hN3.below hb4 hN3.lt; have f1 := hN4.cell 1; have f2 := hN4.cell 2; have f4 := hN4.cell 4)
    | (go_at_call 28; refine (HI2.out w2).mono ?_; rintro e w3 ⟨pw, kw, rfl, hc3, hb3⟩; have hN3 := hN2.below hb3 hN2.lt; have c5 := hN3.cell 5)
    | (go_at_call 28; refine (HI1.out wq).mono ?_; rintro e w2 ⟨pa, ka, rfl, hc2, hb2⟩; have hN2 := hN1.below hb2 hN1.lt; have c3 := hN2.cell 3)
    | fail)
  clear c0 c3 c5 f1 f2 f4
  have hb24 : Below wq.heap.size wq w4 := hb2.trans ((hb3.trans (hb4.mono hb3.size)).mono hb2.size)
  have hN : NIn w w4 HB NB d ⟨time, who, tenant, what, key, code⟩ (.slice pa 8 ka) (.slice pw 8 kw) (.slice pc 8 kc) := ⟨hH1.below hb24 hH1.lt, hN4, (hc2.low hb3).low hb4, hc3.low hb4, hc4, hK1.below hb24 hK1.1, hB1.trans (hb24.mono hB1.size)⟩
  replace hR := hR.below hb24 hR.lt
  clear hH1 hN1 hN2 hN3 hN4 hc2 hc3 hc4 hK1 hB1 hb2 hb3 hb4 hb24
  refine wp_region_noPanic ?_
  refine wp_region_held_drew (S := fun w' => Whole w' NB 36 [.int .i64 time, .string who, .string tenant, .int .i64 what, .string key, .int .i64 code]) (by kernel_rfl) ((hN.on ((Below.refl _ _).drew)).note) (fun hhS => ?_)
  replace hN := hN.on ((Below.refl w4.heap.size w4).drew)
  replace hR := hR.below ((Below.refl w4.heap.size w4).drew) hR.lt
  clear hhS
  generalize w4.drew = wd at hN hR ⊢
  have hhS := hN.note
  refine wpAnyH_take (i := 0) (oi := ⟨some 54, _, _, _, _, _⟩) (v := ?_) rfl (by kernel_rfl) (by kernel_rfl) (by kernel_rfl) (fun _ _ _ h => h) (Or.inl ⟨by rfl, ?_⟩) (by assumption) ?_
  rotate_left
  · intro w hSw
    (try dsimp only at hSw)
    go_simp
    all_goals (with_reducible rfl)
  try simp only [Act.put, List.setIfInBounds_toArray, List.set_cons_zero, List.set_cons_succ]
  refine wpAnyH_take (i := 1) (oi := ⟨some 55, _, _, _, _, _⟩) (v := ?_) rfl (by kernel_rfl) (by kernel_rfl) (by kernel_rfl) (fun _ _ _ h => h) (Or.inl ⟨by rfl, ?_⟩) (by assumption) ?_
  rotate_left
  · intro w hSw
    (try dsimp only at hSw)
    go_simp
    all_goals (with_reducible rfl)
  try simp only [Act.put, List.setIfInBounds_toArray, List.set_cons_zero, List.set_cons_succ]
  refine wpAnyH_take (i := 2) (oi := ⟨some 56, _, _, _, _, _⟩) (v := ?_) rfl (by kernel_rfl) (by kernel_rfl) (by kernel_rfl) (fun _ _ _ h => h) (Or.inl ⟨by rfl, ?_⟩) (by assumption) ?_
  rotate_left
  · intro w hSw
    (try dsimp only at hSw)
    go_simp
    all_goals (with_reducible rfl)
  try simp only [Act.put, List.setIfInBounds_toArray, List.set_cons_zero, List.set_cons_succ]
  refine wpAnyH_take (i := 3) (oi := ⟨some 57, _, _, _, _, _⟩) (v := ?_) rfl (by kernel_rfl) (by kernel_rfl) (by kernel_rfl) (fun _ _ _ h => h) (Or.inl ⟨by rfl, ?_⟩) (by assumption) ?_
  rotate_left
  · intro w hSw
    (try dsimp only at hSw)
    have x1 := hSw.cell 1
    go_simp
    all_goals (with_reducible rfl)
  try simp only [Act.put, List.setIfInBounds_toArray, List.set_cons_zero, List.set_cons_succ]
  refine wpAnyH_take (i := 5) (oi := ⟨some 59, _, _, _, _, _⟩) (v := ?_) rfl (by kernel_rfl) (by kernel_rfl) (by kernel_rfl) (fun _ _ _ h => h) (Or.inl ⟨by rfl, ?_⟩) (by assumption) ?_
  rotate_left
  · intro w hSw
    (try dsimp only at hSw)
    go_simp
    all_goals (with_reducible rfl)
  try simp only [Act.put, List.setIfInBounds_toArray, List.set_cons_zero, List.set_cons_succ]
  refine wpAnyH_take (i := 6) (oi := ⟨some 60, _, _, _, _, _⟩) (v := ?_) rfl (by kernel_rfl) (by kernel_rfl) (by kernel_rfl) (fun _ _ _ h => h) (Or.inl ⟨by rfl, ?_⟩) (by assumption) ?_
  rotate_left
  · intro w hSw
    (try dsimp only at hSw)
    have x2 := hSw.cell 2
    go_simp
    all_goals (with_reducible rfl)
  try simp only [Act.put, List.setIfInBounds_toArray, List.set_cons_zero, List.set_cons_succ]
  refine wpAnyH_take (i := 8) (oi := ⟨some 62, _, _, _, _, _⟩) (v := ?_) rfl (by kernel_rfl) (by kernel_rfl) (by kernel_rfl) (fun _ _ _ h => h) (Or.inl ⟨by rfl, ?_⟩) (by assumption) ?_
  rotate_left
  · intro w hSw
    (try dsimp only at hSw)
    go_simp
    all_goals (with_reducible rfl)
  try simp only [Act.put, List.setIfInBounds_toArray, List.set_cons_zero, List.set_cons_succ]
  refine wpAnyH_take (i := 9) (oi := ⟨some 63, _, _, _, _, _⟩) (v := ?_) rfl (by kernel_rfl) (by kernel_rfl) (by kernel_rfl) (fun _ _ _ h => h) (Or.inl ⟨by rfl, ?_⟩) (by assumption) ?_
  rotate_left
  · intro w hSw
    (try dsimp only at hSw)
    go_simp
    all_goals (with_reducible rfl)
  try simp only [Act.put, List.setIfInBounds_toArray, List.set_cons_zero, List.set_cons_succ]
  refine wpAnyH_take (i := 10) (oi := ⟨some 64, _, _, _, _, _⟩) (v := ?_) rfl (by kernel_rfl) (by kernel_rfl) (by kernel_rfl) (fun _ _ _ h => h) (Or.inl ⟨by rfl, ?_⟩) (by assumption) ?_
  rotate_left
  · intro w hSw
    (try dsimp only at hSw)
    have x4 := hSw.cell 4
    go_simp
    all_goals (with_reducible rfl)
  try simp only [Act.put, List.setIfInBounds_toArray, List.set_cons_zero, List.set_cons_succ]
  refine wpAnyH_take (i := 12) (oi := ⟨some 66, _, _, _, _, _⟩) (v := ?_) rfl (by kernel_rfl) (by kernel_rfl) (by kernel_rfl) (fun _ _ _ h => h) (Or.inl ⟨by rfl, ?_⟩) (by assumption) ?_
  rotate_left
  · intro w hSw
    (try dsimp only at hSw)
    go_simp
    all_goals (with_reducible rfl)
  try simp only [Act.put, List.setIfInBounds_toArray, List.set_cons_zero, List.set_cons_succ]
  refine wpAnyH_ready (rs := [4, 7, 11]) (by kernel_rfl) (by simp) ?_
  refine AllReadyH.cons (o := ⟨some 58, _, _, _, _, _⟩) rfl (fun K hK => ?_) ?_
  · rw [if_pos (by rfl)]
    refine wp_conv_text _ (by rfl) who (by rfl) ?_
    intro g4 k4 w4x hs4 hb
    replace hN := hN.on hb
    replace hR := hR.below hb hR.lt
    clear hb
    refine hK.out _ _ hN.note (fun _ => ?_)
    clear hK K
    try simp only [Act.put, List.setIfInBounds_toArray, List.set_cons_zero, List.set_cons_succ]
    refine wpAnyH_ready (rs := [7, 11]) (by kernel_rfl) (by simp) ?_
    refine AllReadyH.cons (o := ⟨some 61, _, _, _, _, _⟩) rfl (fun K hK => ?_) ?_
    · rw [if_pos (by rfl)]
      refine wp_conv_text _ (by rfl) tenant (by rfl) ?_
      intro g7 k7 w7x hs7 hb
      replace hN := hN.on hb
      replace hR := hR.below hb hR.lt
      replace hs4 := hs4.low hb
      clear hb
      refine hK.out _ _ hN.note (fun _ => ?_)
      clear hK K
      try simp only [Act.put, List.setIfInBounds_toArray, List.set_cons_zero, List.set_cons_succ]
      refine wpAnyH_ready (rs := [11]) (by kernel_rfl) (by simp) ?_
      refine AllReadyH.cons (o := ⟨some 65, _, _, _, _, _⟩) rfl (fun K hK => ?_) AllReadyH.nil
      rw [if_pos (by rfl)]
      refine wp_conv_text _ (by rfl) key (by rfl) ?_
      intro g11 k11 w11x hs11 hb
      replace hN := hN.on hb
      replace hR := hR.below hb hR.lt
      replace hs4 := hs4.low hb
      replace hs7 := hs7.low hb
      clear hb
      refine hK.out _ _ hN.note (fun _ => ?_)
      clear hK K
      try simp only [Act.put, List.setIfInBounds_toArray, List.set_cons_zero, List.set_cons_succ]
      refine wpAnyH_ready (rs := [13]) (by kernel_rfl) (by simp) ?_
      refine AllReadyH.cons (o := ⟨some 67, _, _, _, _, _⟩) rfl (fun K hK => ?_) AllReadyH.nil
      go_simp
      have hL := lists_seven _ 75 (hN.slice hd) hN.at_ hs4 hs7 hN.what hs11 hN.code
      replace hN := hN.on ((Below.refl _ _).alloc (Nat.le_refl _) (.cells #[.slice (some ⟨HB, 0, none⟩) 32 32, .slice pa 8 ka, .slice (some ⟨g4, 0, none⟩) who.size k4, .slice (some ⟨g7, 0, none⟩) tenant.size k7, .slice pw 8 kw, .slice (some ⟨g11, 0, none⟩) key.size k11, .slice pc 8 kc] 75))
      replace hR := hR.below ((Below.refl _ _).alloc (Nat.le_refl _) (.cells #[.slice (some ⟨HB, 0, none⟩) 32 32, .slice pa 8 ka, .slice (some ⟨g4, 0, none⟩) who.size k4, .slice (some ⟨g7, 0, none⟩) tenant.size k7, .slice pw 8 kw, .slice (some ⟨g11, 0, none⟩) key.size k11, .slice pc 8 kc] 75)) hR.lt
      clear hs4 hs7 hs11
      refine hK.out _ _ hN.note (fun _ => ?_)
      clear hK K
      try simp only [Act.put, List.setIfInBounds_toArray, List.set_cons_zero, List.set_cons_succ]
      refine wpAnyH_ready (rs := [14]) (by kernel_rfl) (by simp) ?_
      refine AllReadyH.cons (o := ⟨some 68, _, _, _, _, _⟩) rfl (fun K hK => ?_) AllReadyH.nil
      go_simp
      refine (join_calls _ _ _ hL hN.tab (Nat.le_trans HJ.out (by decide))).mono ?_
      rintro e w14 ⟨rfl, hb⟩
      replace hN := hN.on hb
      replace hR := hR.below hb hR.lt
      clear hL hb
      refine hK.out _ _ hN.note (fun _ => ?_)
      clear hK K
      skip
      refine wpAnyH_ready (rs := [15]) (by kernel_rfl) (by simp) ?_
      refine AllReadyH.cons (o := ⟨none, _, _, _, _, _⟩) rfl (fun K hK => ?_) AllReadyH.nil
      rw [if_pos (by rfl)]
      refine wp_store_row 24 _ _ (by rfl) DB ((nextD d ⟨time, who, tenant, what, key, code⟩).map vu8).toArray (by rfl) (by rfl) 24 _ hR (by rw [size_d]; simp [nextD_length]) (by simp [zeroNums, nextD_length]) (all_u8 _) ?_
      refine hK.out _ _ (hN.note.grown (grown_row (World.grownBy.refl _ (some DB)) (.inl rfl) _) (fun e => by injection e with e; omega)) (fun _ => ?_)
      clear hK K
      try simp only [Act.put]
      refine wpAnyH_take (i := 16) (oi := ⟨some 5, _, _, _, _, _⟩) (v := ?_) rfl (by kernel_rfl) (by kernel_rfl) (by kernel_rfl) (fun _ _ _ h => h) (Or.inl ⟨by rfl, ?_⟩) (by assumption) ?_
      rotate_left
      · intro w hSw
        (try dsimp only at hSw)
        go_simp
        all_goals (with_reducible rfl)
      try simp only [Act.put, List.setIfInBounds_toArray, List.set_cons_zero, List.set_cons_succ]
      refine wpAnyH_done (by kernel_rfl) ?_ _
      refine NoPanic.normal ?_
      go_wp2
      refine bodyPost_ret (results_cell_two rfl _ _ DB 24 _ (0, 0) _ rfl (hR.row _) Tryd.underlying24 rfl (by rw [size_d]; simp [nextD_length])) rfl ⟨rfl, ?_⟩
      exact hN.below.grown (grown_row (World.grownBy.refl _ (some DB)) (.inl rfl) _) hN.below.size (fun k hk => by have := HGE.out; simp at hk; omega)
    refine AllReadyH.cons (o := ⟨some 65, _, _, _, _, _⟩) rfl (fun K hK => ?_) AllReadyH.nil
    rw [if_pos (by rfl)]
    refine wp_conv_text _ (by rfl) key (by rfl) ?_
    intro g11 k11 w11x hs11 hb
    replace hN := hN.on hb
    replace hR := hR.below hb hR.lt
    replace hs4 := hs4.low hb
    clear hb
    refine hK.out _ _ hN.note (fun _ => ?_)
    clear hK K
    try simp only [Act.put, List.setIfInBounds_toArray, List.set_cons_zero, List.set_cons_succ]
    refine wpAnyH_ready (rs := [7]) (by kernel_rfl) (by simp) ?_
    refine AllReadyH.cons (o := ⟨some 61, _, _, _, _, _⟩) rfl (fun K hK => ?_) AllReadyH.nil
    rw [if_pos (by rfl)]
    refine wp_conv_text _ (by rfl) tenant (by rfl) ?_
    intro g7 k7 w7x hs7 hb
    replace hN := hN.on hb
    replace hR := hR.below hb hR.lt
    replace hs4 := hs4.low hb
    replace hs11 := hs11.low hb
    clear hb
    refine hK.out _ _ hN.note (fun _ => ?_)
    clear hK K
    try simp only [Act.put, List.setIfInBounds_toArray, List.set_cons_zero, List.set_cons_succ]
    refine wpAnyH_ready (rs := [13]) (by kernel_rfl) (by simp) ?_
    refine AllReadyH.cons (o := ⟨some 67, _, _, _, _, _⟩) rfl (fun K hK => ?_) AllReadyH.nil
    go_simp
    have hL := lists_seven _ 75 (hN.slice hd) hN.at_ hs4 hs7 hN.what hs11 hN.code
    replace hN := hN.on ((Below.refl _ _).alloc (Nat.le_refl _) (.cells #[.slice (some ⟨HB, 0, none⟩) 32 32, .slice pa 8 ka, .slice (some ⟨g4, 0, none⟩) who.size k4, .slice (some ⟨g7, 0, none⟩) tenant.size k7, .slice pw 8 kw, .slice (some ⟨g11, 0, none⟩) key.size k11, .slice pc 8 kc] 75))
    replace hR := hR.below ((Below.refl _ _).alloc (Nat.le_refl _) (.cells #[.slice (some ⟨HB, 0, none⟩) 32 32, .slice pa 8 ka, .slice (some ⟨g4, 0, none⟩) who.size k4, .slice (some ⟨g7, 0, none⟩) tenant.size k7, .slice pw 8 kw, .slice (some ⟨g11, 0, none⟩) key.size k11, .slice pc 8 kc] 75)) hR.lt
    clear hs4 hs7 hs11
    refine hK.out _ _ hN.note (fun _ => ?_)
    clear hK K
    try simp only [Act.put, List.setIfInBounds_toArray, List.set_cons_zero, List.set_cons_succ]
    refine wpAnyH_ready (rs := [14]) (by kernel_rfl) (by simp) ?_
    refine AllReadyH.cons (o := ⟨some 68, _, _, _, _, _⟩) rfl (fun K hK => ?_) AllReadyH.nil
    go_simp
    refine (join_calls _ _ _ hL hN.tab (Nat.le_trans HJ.out (by decide))).mono ?_
    rintro e w14 ⟨rfl, hb⟩
    replace hN := hN.on hb
    replace hR := hR.below hb hR.lt
    clear hL hb
    refine hK.out _ _ hN.note (fun _ => ?_)
    clear hK K
    skip
    refine wpAnyH_ready (rs := [15]) (by kernel_rfl) (by simp) ?_
    refine AllReadyH.cons (o := ⟨none, _, _, _, _, _⟩) rfl (fun K hK => ?_) AllReadyH.nil
    rw [if_pos (by rfl)]
    refine wp_store_row 24 _ _ (by rfl) DB ((nextD d ⟨time, who, tenant, what, key, code⟩).map vu8).toArray (by rfl) (by rfl) 24 _ hR (by rw [size_d]; simp [nextD_length]) (by simp [zeroNums, nextD_length]) (all_u8 _) ?_
    refine hK.out _ _ (hN.note.grown (grown_row (World.grownBy.refl _ (some DB)) (.inl rfl) _) (fun e => by injection e with e; omega)) (fun _ => ?_)
    clear hK K
    try simp only [Act.put]
    refine wpAnyH_take (i := 16) (oi := ⟨some 5, _, _, _, _, _⟩) (v := ?_) rfl (by kernel_rfl) (by kernel_rfl) (by kernel_rfl) (fun _ _ _ h => h) (Or.inl ⟨by rfl, ?_⟩) (by assumption) ?_
    rotate_left
    · intro w hSw
      (try dsimp only at hSw)
      go_simp
      all_goals (with_reducible rfl)
    try simp only [Act.put, List.setIfInBounds_toArray, List.set_cons_zero, List.set_cons_succ]
    refine wpAnyH_done (by kernel_rfl) ?_ _
    refine NoPanic.normal ?_
    go_wp2
    refine bodyPost_ret (results_cell_two rfl _ _ DB 24 _ (0, 0) _ rfl (hR.row _) Tryd.underlying24 rfl (by rw [size_d]; simp [nextD_length])) rfl ⟨rfl, ?_⟩
    exact hN.below.grown (grown_row (World.grownBy.refl _ (some DB)) (.inl rfl) _) hN.below.size (fun k hk => by have := HGE.out; simp at hk; omega)
  refine AllReadyH.cons (o := ⟨some 61, _, _, _, _, _⟩) rfl (fun K hK => ?_) ?_
  · rw [if_pos (by rfl)]
    refine wp_conv_text _ (by rfl) tenant (by rfl) ?_
    intro g7 k7 w7x hs7 hb
    replace hN := hN.on hb
    replace hR := hR.below hb hR.lt
    clear hb
    refine hK.out _ _ hN.note (fun _ => ?_)
    clear hK K
    try simp only [Act.put, List.setIfInBounds_toArray, List.set_cons_zero, List.set_cons_succ]
    refine wpAnyH_ready (rs := [4, 11]) (by kernel_rfl) (by simp) ?_
    refine AllReadyH.cons (o := ⟨some 58, _, _, _, _, _⟩) rfl (fun K hK => ?_) ?_
    · rw [if_pos (by rfl)]
      refine wp_conv_text _ (by rfl) who (by rfl) ?_
      intro g4 k4 w4x hs4 hb
      replace hN := hN.on hb
      replace hR := hR.below hb hR.lt
      replace hs7 := hs7.low hb
      clear hb
      refine hK.out _ _ hN.note (fun _ => ?_)
      clear hK K
      try simp only [Act.put, List.setIfInBounds_toArray, List.set_cons_zero, List.set_cons_succ]
      refine wpAnyH_ready (rs := [11]) (by kernel_rfl) (by simp) ?_
      refine AllReadyH.cons (o := ⟨some 65, _, _, _, _, _⟩) rfl (fun K hK => ?_) AllReadyH.nil
      rw [if_pos (by rfl)]
      refine wp_conv_text _ (by rfl) key (by rfl) ?_
      intro g11 k11 w11x hs11 hb
      replace hN := hN.on hb
      replace hR := hR.below hb hR.lt
      replace hs7 := hs7.low hb
      replace hs4 := hs4.low hb
      clear hb
      refine hK.out _ _ hN.note (fun _ => ?_)
      clear hK K
      try simp only [Act.put, List.setIfInBounds_toArray, List.set_cons_zero, List.set_cons_succ]
      refine wpAnyH_ready (rs := [13]) (by kernel_rfl) (by simp) ?_
      refine AllReadyH.cons (o := ⟨some 67, _, _, _, _, _⟩) rfl (fun K hK => ?_) AllReadyH.nil
      go_simp
      have hL := lists_seven _ 75 (hN.slice hd) hN.at_ hs4 hs7 hN.what hs11 hN.code
      replace hN := hN.on ((Below.refl _ _).alloc (Nat.le_refl _) (.cells #[.slice (some ⟨HB, 0, none⟩) 32 32, .slice pa 8 ka, .slice (some ⟨g4, 0, none⟩) who.size k4, .slice (some ⟨g7, 0, none⟩) tenant.size k7, .slice pw 8 kw, .slice (some ⟨g11, 0, none⟩) key.size k11, .slice pc 8 kc] 75))
      replace hR := hR.below ((Below.refl _ _).alloc (Nat.le_refl _) (.cells #[.slice (some ⟨HB, 0, none⟩) 32 32, .slice pa 8 ka, .slice (some ⟨g4, 0, none⟩) who.size k4, .slice (some ⟨g7, 0, none⟩) tenant.size k7, .slice pw 8 kw, .slice (some ⟨g11, 0, none⟩) key.size k11, .slice pc 8 kc] 75)) hR.lt
      clear hs4 hs7 hs11
      refine hK.out _ _ hN.note (fun _ => ?_)
      clear hK K
      try simp only [Act.put, List.setIfInBounds_toArray, List.set_cons_zero, List.set_cons_succ]
      refine wpAnyH_ready (rs := [14]) (by kernel_rfl) (by simp) ?_
      refine AllReadyH.cons (o := ⟨some 68, _, _, _, _, _⟩) rfl (fun K hK => ?_) AllReadyH.nil
      go_simp
      refine (join_calls _ _ _ hL hN.tab (Nat.le_trans HJ.out (by decide))).mono ?_
      rintro e w14 ⟨rfl, hb⟩
      replace hN := hN.on hb
      replace hR := hR.below hb hR.lt
      clear hL hb
      refine hK.out _ _ hN.note (fun _ => ?_)
      clear hK K
      skip
      refine wpAnyH_ready (rs := [15]) (by kernel_rfl) (by simp) ?_
      refine AllReadyH.cons (o := ⟨none, _, _, _, _, _⟩) rfl (fun K hK => ?_) AllReadyH.nil
      rw [if_pos (by rfl)]
      refine wp_store_row 24 _ _ (by rfl) DB ((nextD d ⟨time, who, tenant, what, key, code⟩).map vu8).toArray (by rfl) (by rfl) 24 _ hR (by rw [size_d]; simp [nextD_length]) (by simp [zeroNums, nextD_length]) (all_u8 _) ?_
      refine hK.out _ _ (hN.note.grown (grown_row (World.grownBy.refl _ (some DB)) (.inl rfl) _) (fun e => by injection e with e; omega)) (fun _ => ?_)
      clear hK K
      try simp only [Act.put]
      refine wpAnyH_take (i := 16) (oi := ⟨some 5, _, _, _, _, _⟩) (v := ?_) rfl (by kernel_rfl) (by kernel_rfl) (by kernel_rfl) (fun _ _ _ h => h) (Or.inl ⟨by rfl, ?_⟩) (by assumption) ?_
      rotate_left
      · intro w hSw
        (try dsimp only at hSw)
        go_simp
        all_goals (with_reducible rfl)
      try simp only [Act.put, List.setIfInBounds_toArray, List.set_cons_zero, List.set_cons_succ]
      refine wpAnyH_done (by kernel_rfl) ?_ _
      refine NoPanic.normal ?_
      go_wp2
      refine bodyPost_ret (results_cell_two rfl _ _ DB 24 _ (0, 0) _ rfl (hR.row _) Tryd.underlying24 rfl (by rw [size_d]; simp [nextD_length])) rfl ⟨rfl, ?_⟩
      exact hN.below.grown (grown_row (World.grownBy.refl _ (some DB)) (.inl rfl) _) hN.below.size (fun k hk => by have := HGE.out; simp at hk; omega)
    refine AllReadyH.cons (o := ⟨some 65, _, _, _, _, _⟩) rfl (fun K hK => ?_) AllReadyH.nil
    rw [if_pos (by rfl)]
    refine wp_conv_text _ (by rfl) key (by rfl) ?_
    intro g11 k11 w11x hs11 hb
    replace hN := hN.on hb
    replace hR := hR.below hb hR.lt
    replace hs7 := hs7.low hb
    clear hb
    refine hK.out _ _ hN.note (fun _ => ?_)
    clear hK K
    try simp only [Act.put, List.setIfInBounds_toArray, List.set_cons_zero, List.set_cons_succ]
    refine wpAnyH_ready (rs := [4]) (by kernel_rfl) (by simp) ?_
    refine AllReadyH.cons (o := ⟨some 58, _, _, _, _, _⟩) rfl (fun K hK => ?_) AllReadyH.nil
    rw [if_pos (by rfl)]
    refine wp_conv_text _ (by rfl) who (by rfl) ?_
    intro g4 k4 w4x hs4 hb
    replace hN := hN.on hb
    replace hR := hR.below hb hR.lt
    replace hs7 := hs7.low hb
    replace hs11 := hs11.low hb
    clear hb
    refine hK.out _ _ hN.note (fun _ => ?_)
    clear hK K
    try simp only [Act.put, List.setIfInBounds_toArray, List.set_cons_zero, List.set_cons_succ]
    refine wpAnyH_ready (rs := [13]) (by kernel_rfl) (by simp) ?_
    refine AllReadyH.cons (o := ⟨some 67, _, _, _, _, _⟩) rfl (fun K hK => ?_) AllReadyH.nil
    go_simp
    have hL := lists_seven _ 75 (hN.slice hd) hN.at_ hs4 hs7 hN.what hs11 hN.code
    replace hN := hN.on ((Below.refl _ _).alloc (Nat.le_refl _) (.cells #[.slice (some ⟨HB, 0, none⟩) 32 32, .slice pa 8 ka, .slice (some ⟨g4, 0, none⟩) who.size k4, .slice (some ⟨g7, 0, none⟩) tenant.size k7, .slice pw 8 kw, .slice (some ⟨g11, 0, none⟩) key.size k11, .slice pc 8 kc] 75))
    replace hR := hR.below ((Below.refl _ _).alloc (Nat.le_refl _) (.cells #[.slice (some ⟨HB, 0, none⟩) 32 32, .slice pa 8 ka, .slice (some ⟨g4, 0, none⟩) who.size k4, .slice (some ⟨g7, 0, none⟩) tenant.size k7, .slice pw 8 kw, .slice (some ⟨g11, 0, none⟩) key.size k11, .slice pc 8 kc] 75)) hR.lt
    clear hs4 hs7 hs11
    refine hK.out _ _ hN.note (fun _ => ?_)
    clear hK K
    try simp only [Act.put, List.setIfInBounds_toArray, List.set_cons_zero, List.set_cons_succ]
    refine wpAnyH_ready (rs := [14]) (by kernel_rfl) (by simp) ?_
    refine AllReadyH.cons (o := ⟨some 68, _, _, _, _, _⟩) rfl (fun K hK => ?_) AllReadyH.nil
    go_simp
    refine (join_calls _ _ _ hL hN.tab (Nat.le_trans HJ.out (by decide))).mono ?_
    rintro e w14 ⟨rfl, hb⟩
    replace hN := hN.on hb
    replace hR := hR.below hb hR.lt
    clear hL hb
    refine hK.out _ _ hN.note (fun _ => ?_)
    clear hK K
    skip
    refine wpAnyH_ready (rs := [15]) (by kernel_rfl) (by simp) ?_
    refine AllReadyH.cons (o := ⟨none, _, _, _, _, _⟩) rfl (fun K hK => ?_) AllReadyH.nil
    rw [if_pos (by rfl)]
    refine wp_store_row 24 _ _ (by rfl) DB ((nextD d ⟨time, who, tenant, what, key, code⟩).map vu8).toArray (by rfl) (by rfl) 24 _ hR (by rw [size_d]; simp [nextD_length]) (by simp [zeroNums, nextD_length]) (all_u8 _) ?_
    refine hK.out _ _ (hN.note.grown (grown_row (World.grownBy.refl _ (some DB)) (.inl rfl) _) (fun e => by injection e with e; omega)) (fun _ => ?_)
    clear hK K
    try simp only [Act.put]
    refine wpAnyH_take (i := 16) (oi := ⟨some 5, _, _, _, _, _⟩) (v := ?_) rfl (by kernel_rfl) (by kernel_rfl) (by kernel_rfl) (fun _ _ _ h => h) (Or.inl ⟨by rfl, ?_⟩) (by assumption) ?_
    rotate_left
    · intro w hSw
      (try dsimp only at hSw)
      go_simp
      all_goals (with_reducible rfl)
    try simp only [Act.put, List.setIfInBounds_toArray, List.set_cons_zero, List.set_cons_succ]
    refine wpAnyH_done (by kernel_rfl) ?_ _
    refine NoPanic.normal ?_
    go_wp2
    refine bodyPost_ret (results_cell_two rfl _ _ DB 24 _ (0, 0) _ rfl (hR.row _) Tryd.underlying24 rfl (by rw [size_d]; simp [nextD_length])) rfl ⟨rfl, ?_⟩
    exact hN.below.grown (grown_row (World.grownBy.refl _ (some DB)) (.inl rfl) _) hN.below.size (fun k hk => by have := HGE.out; simp at hk; omega)
  refine AllReadyH.cons (o := ⟨some 65, _, _, _, _, _⟩) rfl (fun K hK => ?_) AllReadyH.nil
  rw [if_pos (by rfl)]
  refine wp_conv_text _ (by rfl) key (by rfl) ?_
  intro g11 k11 w11x hs11 hb
  replace hN := hN.on hb
  replace hR := hR.below hb hR.lt
  clear hb
  refine hK.out _ _ hN.note (fun _ => ?_)
  clear hK K
  try simp only [Act.put, List.setIfInBounds_toArray, List.set_cons_zero, List.set_cons_succ]
  refine wpAnyH_ready (rs := [4, 7]) (by kernel_rfl) (by simp) ?_
  refine AllReadyH.cons (o := ⟨some 58, _, _, _, _, _⟩) rfl (fun K hK => ?_) ?_
  · rw [if_pos (by rfl)]
    refine wp_conv_text _ (by rfl) who (by rfl) ?_
    intro g4 k4 w4x hs4 hb
    replace hN := hN.on hb
    replace hR := hR.below hb hR.lt
    replace hs11 := hs11.low hb
    clear hb
    refine hK.out _ _ hN.note (fun _ => ?_)
    clear hK K
    try simp only [Act.put, List.setIfInBounds_toArray, List.set_cons_zero, List.set_cons_succ]
    refine wpAnyH_ready (rs := [7]) (by kernel_rfl) (by simp) ?_
    refine AllReadyH.cons (o := ⟨some 61, _, _, _, _, _⟩) rfl (fun K hK => ?_) AllReadyH.nil
    rw [if_pos (by rfl)]
    refine wp_conv_text _ (by rfl) tenant (by rfl) ?_
    intro g7 k7 w7x hs7 hb
    replace hN := hN.on hb
    replace hR := hR.below hb hR.lt
    replace hs11 := hs11.low hb
    replace hs4 := hs4.low hb
    clear hb
    refine hK.out _ _ hN.note (fun _ => ?_)
    clear hK K
    try simp only [Act.put, List.setIfInBounds_toArray, List.set_cons_zero, List.set_cons_succ]
    refine wpAnyH_ready (rs := [13]) (by kernel_rfl) (by simp) ?_
    refine AllReadyH.cons (o := ⟨some 67, _, _, _, _, _⟩) rfl (fun K hK => ?_) AllReadyH.nil
    go_simp
    have hL := lists_seven _ 75 (hN.slice hd) hN.at_ hs4 hs7 hN.what hs11 hN.code
    replace hN := hN.on ((Below.refl _ _).alloc (Nat.le_refl _) (.cells #[.slice (some ⟨HB, 0, none⟩) 32 32, .slice pa 8 ka, .slice (some ⟨g4, 0, none⟩) who.size k4, .slice (some ⟨g7, 0, none⟩) tenant.size k7, .slice pw 8 kw, .slice (some ⟨g11, 0, none⟩) key.size k11, .slice pc 8 kc] 75))
    replace hR := hR.below ((Below.refl _ _).alloc (Nat.le_refl _) (.cells #[.slice (some ⟨HB, 0, none⟩) 32 32, .slice pa 8 ka, .slice (some ⟨g4, 0, none⟩) who.size k4, .slice (some ⟨g7, 0, none⟩) tenant.size k7, .slice pw 8 kw, .slice (some ⟨g11, 0, none⟩) key.size k11, .slice pc 8 kc] 75)) hR.lt
    clear hs4 hs7 hs11
    refine hK.out _ _ hN.note (fun _ => ?_)
    clear hK K
    try simp only [Act.put, List.setIfInBounds_toArray, List.set_cons_zero, List.set_cons_succ]
    refine wpAnyH_ready (rs := [14]) (by kernel_rfl) (by simp) ?_
    refine AllReadyH.cons (o := ⟨some 68, _, _, _, _, _⟩) rfl (fun K hK => ?_) AllReadyH.nil
    go_simp
    refine (join_calls _ _ _ hL hN.tab (Nat.le_trans HJ.out (by decide))).mono ?_
    rintro e w14 ⟨rfl, hb⟩
    replace hN := hN.on hb
    replace hR := hR.below hb hR.lt
    clear hL hb
    refine hK.out _ _ hN.note (fun _ => ?_)
    clear hK K
    skip
    refine wpAnyH_ready (rs := [15]) (by kernel_rfl) (by simp) ?_
    refine AllReadyH.cons (o := ⟨none, _, _, _, _, _⟩) rfl (fun K hK => ?_) AllReadyH.nil
    rw [if_pos (by rfl)]
    refine wp_store_row 24 _ _ (by rfl) DB ((nextD d ⟨time, who, tenant, what, key, code⟩).map vu8).toArray (by rfl) (by rfl) 24 _ hR (by rw [size_d]; simp [nextD_length]) (by simp [zeroNums, nextD_length]) (all_u8 _) ?_
    refine hK.out _ _ (hN.note.grown (grown_row (World.grownBy.refl _ (some DB)) (.inl rfl) _) (fun e => by injection e with e; omega)) (fun _ => ?_)
    clear hK K
    try simp only [Act.put]
    refine wpAnyH_take (i := 16) (oi := ⟨some 5, _, _, _, _, _⟩) (v := ?_) rfl (by kernel_rfl) (by kernel_rfl) (by kernel_rfl) (fun _ _ _ h => h) (Or.inl ⟨by rfl, ?_⟩) (by assumption) ?_
    rotate_left
    · intro w hSw
      (try dsimp only at hSw)
      go_simp
      all_goals (with_reducible rfl)
    try simp only [Act.put, List.setIfInBounds_toArray, List.set_cons_zero, List.set_cons_succ]
    refine wpAnyH_done (by kernel_rfl) ?_ _
    refine NoPanic.normal ?_
    go_wp2
    refine bodyPost_ret (results_cell_two rfl _ _ DB 24 _ (0, 0) _ rfl (hR.row _) Tryd.underlying24 rfl (by rw [size_d]; simp [nextD_length])) rfl ⟨rfl, ?_⟩
    exact hN.below.grown (grown_row (World.grownBy.refl _ (some DB)) (.inl rfl) _) hN.below.size (fun k hk => by have := HGE.out; simp at hk; omega)
  refine AllReadyH.cons (o := ⟨some 61, _, _, _, _, _⟩) rfl (fun K hK => ?_) AllReadyH.nil
  rw [if_pos (by rfl)]
  refine wp_conv_text _ (by rfl) tenant (by rfl) ?_
  intro g7 k7 w7x hs7 hb
  replace hN := hN.on hb
  replace hR := hR.below hb hR.lt
  replace hs11 := hs11.low hb
  clear hb
  refine hK.out _ _ hN.note (fun _ => ?_)
  clear hK K
  try simp only [Act.put, List.setIfInBounds_toArray, List.set_cons_zero, List.set_cons_succ]
  refine wpAnyH_ready (rs := [4]) (by kernel_rfl) (by simp) ?_
  refine AllReadyH.cons (o := ⟨some 58, _, _, _, _, _⟩) rfl (fun K hK => ?_) AllReadyH.nil
  rw [if_pos (by rfl)]
  refine wp_conv_text _ (by rfl) who (by rfl) ?_
  intro g4 k4 w4x hs4 hb
  replace hN := hN.on hb
  replace hR := hR.below hb hR.lt
  replace hs11 := hs11.low hb
  replace hs7 := hs7.low hb
  clear hb
  refine hK.out _ _ hN.note (fun _ => ?_)
  clear hK K
  try simp only [Act.put, List.setIfInBounds_toArray, List.set_cons_zero, List.set_cons_succ]
  refine wpAnyH_ready (rs := [13]) (by kernel_rfl) (by simp) ?_
  refine AllReadyH.cons (o := ⟨some 67, _, _, _, _, _⟩) rfl (fun K hK => ?_) AllReadyH.nil
  go_simp
  have hL := lists_seven _ 75 (hN.slice hd) hN.at_ hs4 hs7 hN.what hs11 hN.code
  replace hN := hN.on ((Below.refl _ _).alloc (Nat.le_refl _) (.cells #[.slice (some ⟨HB, 0, none⟩) 32 32, .slice pa 8 ka, .slice (some ⟨g4, 0, none⟩) who.size k4, .slice (some ⟨g7, 0, none⟩) tenant.size k7, .slice pw 8 kw, .slice (some ⟨g11, 0, none⟩) key.size k11, .slice pc 8 kc] 75))
  replace hR := hR.below ((Below.refl _ _).alloc (Nat.le_refl _) (.cells #[.slice (some ⟨HB, 0, none⟩) 32 32, .slice pa 8 ka, .slice (some ⟨g4, 0, none⟩) who.size k4, .slice (some ⟨g7, 0, none⟩) tenant.size k7, .slice pw 8 kw, .slice (some ⟨g11, 0, none⟩) key.size k11, .slice pc 8 kc] 75)) hR.lt
  clear hs4 hs7 hs11
  refine hK.out _ _ hN.note (fun _ => ?_)
  clear hK K
  try simp only [Act.put, List.setIfInBounds_toArray, List.set_cons_zero, List.set_cons_succ]
  refine wpAnyH_ready (rs := [14]) (by kernel_rfl) (by simp) ?_
  refine AllReadyH.cons (o := ⟨some 68, _, _, _, _, _⟩) rfl (fun K hK => ?_) AllReadyH.nil
  go_simp
  refine (join_calls _ _ _ hL hN.tab (Nat.le_trans HJ.out (by decide))).mono ?_
  rintro e w14 ⟨rfl, hb⟩
  replace hN := hN.on hb
  replace hR := hR.below hb hR.lt
  clear hL hb
  refine hK.out _ _ hN.note (fun _ => ?_)
  clear hK K
  skip
  refine wpAnyH_ready (rs := [15]) (by kernel_rfl) (by simp) ?_
  refine AllReadyH.cons (o := ⟨none, _, _, _, _, _⟩) rfl (fun K hK => ?_) AllReadyH.nil
  rw [if_pos (by rfl)]
  refine wp_store_row 24 _ _ (by rfl) DB ((nextD d ⟨time, who, tenant, what, key, code⟩).map vu8).toArray (by rfl) (by rfl) 24 _ hR (by rw [size_d]; simp [nextD_length]) (by simp [zeroNums, nextD_length]) (all_u8 _) ?_
  refine hK.out _ _ (hN.note.grown (grown_row (World.grownBy.refl _ (some DB)) (.inl rfl) _) (fun e => by injection e with e; omega)) (fun _ => ?_)
  clear hK K
  try simp only [Act.put]
  refine wpAnyH_take (i := 16) (oi := ⟨some 5, _, _, _, _, _⟩) (v := ?_) rfl (by kernel_rfl) (by kernel_rfl) (by kernel_rfl) (fun _ _ _ h => h) (Or.inl ⟨by rfl, ?_⟩) (by assumption) ?_
  rotate_left
  · intro w hSw
    (try dsimp only at hSw)
    go_simp
    all_goals (with_reducible rfl)
  try simp only [Act.put, List.setIfInBounds_toArray, List.set_cons_zero, List.set_cons_succ]
  refine wpAnyH_done (by kernel_rfl) ?_ _
  refine NoPanic.normal ?_
  go_wp2
  refine bodyPost_ret (results_cell_two rfl _ _ DB 24 _ (0, 0) _ rfl (hR.row _) Tryd.underlying24 rfl (by rw [size_d]; simp [nextD_length])) rfl ⟨rfl, ?_⟩
  exact hN.below.grown (grown_row (World.grownBy.refl _ (some DB)) (.inl rfl) _) hN.below.size (fun k hk => by have := HGE.out; simp at hk; omega)

set_option maxRecDepth 100000 in
set_option maxHeartbeats 2000000 in
theorem next_bad (w : World) (d : List (BitVec 8)) (time : Int) (who tenant : ByteArray) (what : Int) (key : ByteArray) (code : Int) (hK : KTab w) (h : nextOk ⟨time, who, tenant, what, key, code⟩ = false) :
    Calls Tryd.prog 11 #[.agg (d.map vu8).toArray, .agg #[.int .i64 time, .string who, .string tenant, .int .i64 what, .string key, .int .i64 code]] w fun e w' => e = .returned (.tuple #[.agg (zeroD.map vu8).toArray, .int .i64 2]) ∧ Below w.heap.size w w' := by
  obtain ⟨wq, hwq, hH1, hN1, hR, hK1, hB1, hz1⟩ := next_start w d #[.int .i64 time, .string who, .string tenant, .int .i64 what, .string key, .int .i64 code] hK
  change Whole wq (w.heap.size + 1) 36 [.int .i64 time, .string who, .string tenant, .int .i64 what, .string key, .int .i64 code] at hN1
  have hgeD : w.heap.size < w.heap.size + 1 + 1 := by omega
  clear hH1 hK1
  obtain ⟨c1, e1⟩ : ∃ c, (if okInt time = true then (0 : Int) else 2) = c := ⟨_, rfl⟩
  obtain ⟨c2, e2⟩ : ∃ c, (if okInt what = true then (0 : Int) else 2) = c := ⟨_, rfl⟩
  obtain ⟨c3, e3⟩ : ∃ c, (if okInt code = true then (0 : Int) else 2) = c := ⟨_, rfl⟩
  unfold nextOk at h
  by_cases o1 : okInt time = true
  · obtain rfl : c1 = 0 := by rw [← e1, if_pos o1]
    by_cases o2 : okInt what = true
    · obtain rfl : c2 = 0 := by rw [← e2, if_pos o2]
      by_cases o3 : okInt code = true
      · obtain rfl : c3 = 0 := by rw [← e3, if_pos o3]
        have hz : ¬ (who.size ≤ 64 ∧ tenant.size ≤ 64 ∧ key.size ≤ 64) := fun hz => by
          simp [o1, o2, o3, hz.1, hz.2.1, hz.2.2] at h
        clear h o1 o2 o3
        have HI1 := Lib.hid (fun w' => int_code w' e1)
        have HI2 := Lib.hid (fun w' => int_code w' e2)
        have HI3 := Lib.hid (fun w' => int_code w' e3)
        have hmx := fun ats ty w => run_max3 (P := Tryd.prog) ats ty w who.size tenant.size key.size
        have i1 : (64 : Int) < max (max (who.size : Int) tenant.size) key.size := by omega
        clear hz
        clear hK e1 e2 e3
        go_enter Tryd.func11, Tryd.ntmps11
        go_upto_region 1 with (first
          | (refine wpList_alloc_row (by rfl) 24 (by rfl) _ _ info_d ?_)
          | (refine wpList_box_cells (by rfl) 36 _ (by rfl) #[.int .i64 time, .string who, .string tenant, .int .i64 what, .string key, .int .i64 code] (by rfl) ?_)
          | (refine wpList_box_cells (by rfl) 24 _ (by rfl) (d.map vu8).toArray (by rfl) ?_)
          | fail)
        rw [← hwq]
        try simp only [World.size_alloc]
        clear hwq hz1
        obtain ⟨HB, hHB⟩ : ∃ x, w.heap.size = x := ⟨_, rfl⟩
        obtain ⟨NB, hNB⟩ : ∃ x, HB + 1 = x := ⟨_, rfl⟩
        obtain ⟨DB, hDB⟩ : ∃ x, NB + 1 = x := ⟨_, rfl⟩
        rw [hHB] at hN1 hR hgeD ⊢
        rw [hNB] at hN1 hR hgeD ⊢
        rw [hDB] at hR hgeD ⊢
        have HGE := Lib.hid (show w.heap.size < DB by omega)
        clear hHB hNB hDB hgeD
        have c0 := hN1.cell 0
        go_upto_region 5 with (first
          | (go_at_call 28; refine (HI3.out w3).mono ?_; rintro e w4 ⟨vc, rfl, hb4⟩; have hN4 := hN3.below hb4 hN3.lt; have f1 := hN4.cell 1; have f2 := hN4.cell 2; have f4 := hN4.cell 4; have hb24 : Below wq.heap.size wq w4 := hb2.trans ((hb3.trans (hb4.mono hb3.size)).mono hb2.size); have hR4 := hR.below hb24 hR.lt)
          | (go_at_call 28; refine (HI2.out w2).mono ?_; rintro e w3 ⟨vw, rfl, hb3⟩; have hN3 := hN2.below hb3 hN2.lt; have c5 := hN3.cell 5)
          | (go_at_call 28; refine (HI1.out wq).mono ?_; rintro e w2 ⟨va, rfl, hb2⟩; have hN2 := hN1.below hb2 hN1.lt; have c3 := hN2.cell 3)
          | fail)
        go_wp2_with (refine wpList_store_row (by rfl) 24 _ _ (by rfl) DB (zeroD.map vu8).toArray (by rfl) (by kernel_rfl) 24 _ hR4 (by kernel_rfl) (by kernel_rfl) (by kernel_rfl) ?_)
        refine bodyPost_ret (results_cell_two rfl _ _ DB 24 _ (0, 0) _ rfl (hR4.row _) Tryd.underlying24 rfl (by kernel_rfl)) rfl ⟨rfl, ?_⟩
        have hBW := hB1.trans (hb24.mono hB1.size)
        exact hBW.grown (grown_row (World.grownBy.refl _ (some DB)) (.inl rfl) _) hBW.size (fun k hk => by have := HGE.out; simp at hk; omega)
      · obtain rfl : c3 = 2 := by rw [← e3, if_neg o3]
        clear h o1 o2 o3
        have HI1 := Lib.hid (fun w' => int_code w' e1)
        have HI2 := Lib.hid (fun w' => int_code w' e2)
        have HI3 := Lib.hid (fun w' => int_code w' e3)
        clear hK e1 e2 e3
        go_enter Tryd.func11, Tryd.ntmps11
        go_upto_region 1 with (first
          | (refine wpList_alloc_row (by rfl) 24 (by rfl) _ _ info_d ?_)
          | (refine wpList_box_cells (by rfl) 36 _ (by rfl) #[.int .i64 time, .string who, .string tenant, .int .i64 what, .string key, .int .i64 code] (by rfl) ?_)
          | (refine wpList_box_cells (by rfl) 24 _ (by rfl) (d.map vu8).toArray (by rfl) ?_)
          | fail)
        rw [← hwq]
        try simp only [World.size_alloc]
        clear hwq hz1
        obtain ⟨HB, hHB⟩ : ∃ x, w.heap.size = x := ⟨_, rfl⟩
        obtain ⟨NB, hNB⟩ : ∃ x, HB + 1 = x := ⟨_, rfl⟩
        obtain ⟨DB, hDB⟩ : ∃ x, NB + 1 = x := ⟨_, rfl⟩
        rw [hHB] at hN1 hR hgeD ⊢
        rw [hNB] at hN1 hR hgeD ⊢
        rw [hDB] at hR hgeD ⊢
        have HGE := Lib.hid (show w.heap.size < DB by omega)
        clear hHB hNB hDB hgeD
        have c0 := hN1.cell 0
        go_upto_region 5 with (first
          | (go_at_call 28; refine (HI3.out w3).mono ?_; rintro e w4 ⟨vc, rfl, hb4⟩; have hN4 := hN3.below hb4 hN3.lt; have f1 := hN4.cell 1; have f2 := hN4.cell 2; have f4 := hN4.cell 4; have hb24 : Below wq.heap.size wq w4 := hb2.trans ((hb3.trans (hb4.mono hb3.size)).mono hb2.size); have hR4 := hR.below hb24 hR.lt)
          | (go_at_call 28; refine (HI2.out w2).mono ?_; rintro e w3 ⟨vw, rfl, hb3⟩; have hN3 := hN2.below hb3 hN2.lt; have c5 := hN3.cell 5)
          | (go_at_call 28; refine (HI1.out wq).mono ?_; rintro e w2 ⟨va, rfl, hb2⟩; have hN2 := hN1.below hb2 hN1.lt; have c3 := hN2.cell 3)
          | fail)
        go_wp2_with (refine wpList_store_row (by rfl) 24 _ _ (by rfl) DB (zeroD.map vu8).toArray (by rfl) (by kernel_rfl) 24 _ hR4 (by kernel_rfl) (by kernel_rfl) (by kernel_rfl) ?_)
        refine bodyPost_ret (results_cell_two rfl _ _ DB 24 _ (0, 0) _ rfl (hR4.row _) Tryd.underlying24 rfl (by kernel_rfl)) rfl ⟨rfl, ?_⟩
        have hBW := hB1.trans (hb24.mono hB1.size)
        exact hBW.grown (grown_row (World.grownBy.refl _ (some DB)) (.inl rfl) _) hBW.size (fun k hk => by have := HGE.out; simp at hk; omega)
    · obtain rfl : c2 = 2 := by rw [← e2, if_neg o2]
      clear h o1 o2
      have HI1 := Lib.hid (fun w' => int_code w' e1)
      have HI2 := Lib.hid (fun w' => int_code w' e2)
      have HI3 := Lib.hid (fun w' => int_code w' e3)
      clear hK e1 e2 e3
      go_enter Tryd.func11, Tryd.ntmps11
      go_upto_region 1 with (first
        | (refine wpList_alloc_row (by rfl) 24 (by rfl) _ _ info_d ?_)
        | (refine wpList_box_cells (by rfl) 36 _ (by rfl) #[.int .i64 time, .string who, .string tenant, .int .i64 what, .string key, .int .i64 code] (by rfl) ?_)
        | (refine wpList_box_cells (by rfl) 24 _ (by rfl) (d.map vu8).toArray (by rfl) ?_)
        | fail)
      rw [← hwq]
      try simp only [World.size_alloc]
      clear hwq hz1
      obtain ⟨HB, hHB⟩ : ∃ x, w.heap.size = x := ⟨_, rfl⟩
      obtain ⟨NB, hNB⟩ : ∃ x, HB + 1 = x := ⟨_, rfl⟩
      obtain ⟨DB, hDB⟩ : ∃ x, NB + 1 = x := ⟨_, rfl⟩
      rw [hHB] at hN1 hR hgeD ⊢
      rw [hNB] at hN1 hR hgeD ⊢
      rw [hDB] at hR hgeD ⊢
      have HGE := Lib.hid (show w.heap.size < DB by omega)
      clear hHB hNB hDB hgeD
      have c0 := hN1.cell 0
      go_upto_region 5 with (first
        | (go_at_call 28; refine (HI3.out w3).mono ?_; rintro e w4 ⟨vc, rfl, hb4⟩; have hN4 := hN3.below hb4 hN3.lt; have f1 := hN4.cell 1; have f2 := hN4.cell 2; have f4 := hN4.cell 4; have hb24 : Below wq.heap.size wq w4 := hb2.trans ((hb3.trans (hb4.mono hb3.size)).mono hb2.size); have hR4 := hR.below hb24 hR.lt)
        | (go_at_call 28; refine (HI2.out w2).mono ?_; rintro e w3 ⟨vw, rfl, hb3⟩; have hN3 := hN2.below hb3 hN2.lt; have c5 := hN3.cell 5)
        | (go_at_call 28; refine (HI1.out wq).mono ?_; rintro e w2 ⟨va, rfl, hb2⟩; have hN2 := hN1.below hb2 hN1.lt; have c3 := hN2.cell 3)
        | fail)
      go_wp2_with (refine wpList_store_row (by rfl) 24 _ _ (by rfl) DB (zeroD.map vu8).toArray (by rfl) (by kernel_rfl) 24 _ hR4 (by kernel_rfl) (by kernel_rfl) (by kernel_rfl) ?_)
      refine bodyPost_ret (results_cell_two rfl _ _ DB 24 _ (0, 0) _ rfl (hR4.row _) Tryd.underlying24 rfl (by kernel_rfl)) rfl ⟨rfl, ?_⟩
      have hBW := hB1.trans (hb24.mono hB1.size)
      exact hBW.grown (grown_row (World.grownBy.refl _ (some DB)) (.inl rfl) _) hBW.size (fun k hk => by have := HGE.out; simp at hk; omega)
  · obtain rfl : c1 = 2 := by rw [← e1, if_neg o1]
    clear h o1
    have HI1 := Lib.hid (fun w' => int_code w' e1)
    have HI2 := Lib.hid (fun w' => int_code w' e2)
    have HI3 := Lib.hid (fun w' => int_code w' e3)
    clear hK e1 e2 e3
    go_enter Tryd.func11, Tryd.ntmps11
    go_upto_region 1 with (first
      | (refine wpList_alloc_row (by rfl) 24 (by rfl) _ _ info_d ?_)
      | (refine wpList_box_cells (by rfl) 36 _ (by rfl) #[.int .i64 time, .string who, .string tenant, .int .i64 what, .string key, .int .i64 code] (by rfl) ?_)
      | (refine wpList_box_cells (by rfl) 24 _ (by rfl) (d.map vu8).toArray (by rfl) ?_)
      | fail)
    rw [← hwq]
    try simp only [World.size_alloc]
    clear hwq hz1
    obtain ⟨HB, hHB⟩ : ∃ x, w.heap.size = x := ⟨_, rfl⟩
    obtain ⟨NB, hNB⟩ : ∃ x, HB + 1 = x := ⟨_, rfl⟩
    obtain ⟨DB, hDB⟩ : ∃ x, NB + 1 = x := ⟨_, rfl⟩
    rw [hHB] at hN1 hR hgeD ⊢
    rw [hNB] at hN1 hR hgeD ⊢
    rw [hDB] at hR hgeD ⊢
    have HGE := Lib.hid (show w.heap.size < DB by omega)
    clear hHB hNB hDB hgeD
    have c0 := hN1.cell 0
    go_upto_region 5 with (first
      | (go_at_call 28; refine (HI3.out w3).mono ?_; rintro e w4 ⟨vc, rfl, hb4⟩; have hN4 := hN3.below hb4 hN3.lt; have f1 := hN4.cell 1; have f2 := hN4.cell 2; have f4 := hN4.cell 4; have hb24 : Below wq.heap.size wq w4 := hb2.trans ((hb3.trans (hb4.mono hb3.size)).mono hb2.size); have hR4 := hR.below hb24 hR.lt)
      | (go_at_call 28; refine (HI2.out w2).mono ?_; rintro e w3 ⟨vw, rfl, hb3⟩; have hN3 := hN2.below hb3 hN2.lt; have c5 := hN3.cell 5)
      | (go_at_call 28; refine (HI1.out wq).mono ?_; rintro e w2 ⟨va, rfl, hb2⟩; have hN2 := hN1.below hb2 hN1.lt; have c3 := hN2.cell 3)
      | fail)
    go_wp2_with (refine wpList_store_row (by rfl) 24 _ _ (by rfl) DB (zeroD.map vu8).toArray (by rfl) (by kernel_rfl) 24 _ hR4 (by kernel_rfl) (by kernel_rfl) (by kernel_rfl) ?_)
    refine bodyPost_ret (results_cell_two rfl _ _ DB 24 _ (0, 0) _ rfl (hR4.row _) Tryd.underlying24 rfl (by kernel_rfl)) rfl ⟨rfl, ?_⟩
    have hBW := hB1.trans (hb24.mono hB1.size)
    exact hBW.grown (grown_row (World.grownBy.refl _ (some DB)) (.inl rfl) _) hBW.size (fun k hk => by have := HGE.out; simp at hk; omega)

/-- The head behind a note, and the code. -/
theorem next_calls (w : World) (d : List (BitVec 8)) (n : Nt) (hd : d.length = 32) (hK : KTab w) :
    Calls Tryd.prog 11 #[.agg (d.map vu8).toArray, .agg n.cells.toArray] w fun e w' => e = .returned (.tuple #[.agg ((if nextOk n = true then nextD d n else zeroD).map vu8).toArray, .int .i64 (if nextOk n = true then 0 else 2)]) ∧ Below w.heap.size w w' := by
  obtain ⟨time, who, tenant, what, key, code⟩ := n
  by_cases h : nextOk ⟨time, who, tenant, what, key, code⟩ = true
  · rw [if_pos h, if_pos h]
    exact next_good w d time who tenant what key code hd hK h
  · rw [if_neg h, if_neg h]
    exact next_bad w d time who tenant what key code hK (by simpa using h)

end Go.Proofs.YtglcingpolpkdaaDoor
