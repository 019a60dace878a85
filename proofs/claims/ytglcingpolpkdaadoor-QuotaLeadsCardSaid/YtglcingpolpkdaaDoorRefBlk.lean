/- What the reference's block makes of eight numbers: the chapter's rounds. -/
import Derived.Test.YtglcingpolpkdaaDoorRefReg
namespace Go.Proofs.YtglcingpolpkdaaDoor
open Go.RowKit

/-- The reference's block from its second array on. -/
noncomputable def refblockLater : Code := subCode [1, 1, 1] ((Tryd.f49.body).getD .skip)

set_option maxRecDepth 100000 in
set_option maxHeartbeats 8000000 in
theorem refblock_later {z6 z7 z10 z11 z12 z13 z14 z15 z16 z17 z18 z19 z20 z21 z22 z23 z24 z25 z26 z27 z28 z29 z30 z31 z32 z33 z34 z35 z36 z37 z38 z39 z40 z41 z42 z43 z44 z45 z46 z47 z48 z49 z50 z51 z52 z53 z54 z55 z56 z57 z58 z59 z60 z61 z62 z63 z64 z65 z66 z67 z68 z69 z70 z71 z72 z73 z74 z75 z76 z77 z78 z79 z80 z81 z82 z83 z84 z85 z86 z87 z88 z89 z90 z91 z92 z93 z94 z95 z96 z97 z98 z99 z100 z101 z102 z103 z104 z105 z106 z107 z108 z109 z110 z111 z112 z113 z114 z115 z116 z117 z118 z119 z120 z121 z122 z123 z124 z125 z126 z127 z128 z129 z130 z131 z132 z133 z134 z135 z136 z137 z138 z139 z140 z141 z142 z143 z144 z145 z146 z147 z148 z149 z150 z151 z152 z153 z154 z155 z156 z157 z158 z159 z160 z161 z162 z163 z164 z165 z166 z167 z168 z169 z170 z171 z172 z173 z174 z175 z176 z177 z178 z179 z180 z181 z182 z183 z184 z185 z186 z187 z188 z189 z190 z191 z192 z193 z194 z195 z196 z197 : Value} (w wc : World) (G : Nat) (s : Eight) (ab ao n cap at_ : Nat) (bs : List (BitVec 8)) (hcut : RefIn w wc G s (sched bs 64)) (hGe : w.heap.size = G) (_ : 0 < G) :
    Code.wp Tryd.prog refblockLater (bodyPost Tryd.prog Tryd.f49 fun e w' => e = .returned (.agg ((compress s bs).list.map vu32).toArray) ∧ Below w.heap.size w w') ⟨(.agg (s.list.map vu32).toArray :: .agg (shaK.map vu32).toArray :: .slice (some ⟨ab, ao, none⟩) n cap :: .int .i64 at_ :: .pointer (some ⟨G, 0, none⟩) :: .pointer (some ⟨G + 1, 0, none⟩) :: z6 :: z7 :: .pointer (some ⟨G + 1 + 1, 0, none⟩) :: .pointer (some ⟨G + 1 + 1 + 1, 0, none⟩) :: z10 :: z11 :: z12 :: z13 :: z14 :: z15 :: z16 :: z17 :: z18 :: z19 :: z20 :: z21 :: z22 :: z23 :: z24 :: z25 :: z26 :: z27 :: z28 :: z29 :: z30 :: z31 :: z32 :: z33 :: z34 :: z35 :: z36 :: z37 :: z38 :: z39 :: z40 :: z41 :: z42 :: z43 :: z44 :: z45 :: z46 :: z47 :: z48 :: z49 :: z50 :: z51 :: z52 :: z53 :: z54 :: z55 :: z56 :: z57 :: z58 :: z59 :: z60 :: z61 :: z62 :: z63 :: z64 :: z65 :: z66 :: z67 :: z68 :: z69 :: z70 :: z71 :: z72 :: z73 :: z74 :: z75 :: z76 :: z77 :: z78 :: z79 :: z80 :: z81 :: z82 :: z83 :: z84 :: z85 :: z86 :: z87 :: z88 :: z89 :: z90 :: z91 :: z92 :: z93 :: z94 :: z95 :: z96 :: z97 :: z98 :: z99 :: z100 :: z101 :: z102 :: z103 :: z104 :: z105 :: z106 :: z107 :: z108 :: z109 :: z110 :: z111 :: z112 :: z113 :: z114 :: z115 :: z116 :: z117 :: z118 :: z119 :: z120 :: z121 :: z122 :: z123 :: z124 :: z125 :: z126 :: z127 :: z128 :: z129 :: z130 :: z131 :: z132 :: z133 :: z134 :: z135 :: z136 :: z137 :: z138 :: z139 :: z140 :: z141 :: z142 :: z143 :: z144 :: z145 :: z146 :: z147 :: z148 :: z149 :: z150 :: z151 :: z152 :: z153 :: z154 :: z155 :: z156 :: z157 :: z158 :: z159 :: z160 :: z161 :: z162 :: z163 :: z164 :: z165 :: z166 :: z167 :: z168 :: z169 :: z170 :: z171 :: z172 :: z173 :: z174 :: z175 :: z176 :: z177 :: z178 :: z179 :: z180 :: z181 :: z182 :: z183 :: z184 :: z185 :: z186 :: z187 :: z188 :: z189 :: z190 :: z191 :: z192 :: z193 :: z194 :: z195 :: z196 :: z197 :: []).toArray, []⟩ wc := by
  have HGe := Lib.hid hGe
  clear hGe
  conv => arg 2; whnf
  have hV : G + 1 + 1 + 1 < wc.heap.size := hcut.2.2.2.1.lt
  have hs0 := hcut.1
  go_upto_region 13 with (fail)
  apply wp_region_lit
  refine wpList_load_row (by rfl) 104 _ (by rfl) G (by rfl) 104 (s.list.map vu32).toArray (0, 0) _ hs0 Tryd.underlying104 (by rfl) size_8 ?_
  refine wpList_alloc_row (by rfl) 104 (by rfl) _ _ info_8 ?_
  refine wpList_store_new (by rfl) 104 _ _ (by rfl) _ (s.list.map vu32).toArray _ (by rfl) (by rfl) size_8 (by simp [zeroNums, Eight.list]) (all_u32 _) ?_
  go_upto_block 4 with (fail)
  have hRR : RefRound w (wc.alloc (.cells (s.list.map vu32).toArray 104)) G wc.heap.size s (sched bs 64) s :=
    ⟨⟨hcut.1.alloc _, hcut.2.1.alloc _, hcut.2.2.1.alloc _, hcut.2.2.2.1.alloc _, hcut.2.2.2.2.alloc (by omega) _⟩, Whole.new wc _ _⟩
  clear hcut hs0
  have hl := sched_length bs 64
  have hc : compress s bs = addEight s (rounds s (sched bs 64) 64) := rfl
  have HC := Lib.hid hc
  clear hc
  generalize sched bs 64 = l at *
  generalize wc.heap.size = V at *
  go_cut [] (fun w1 => RefRound w w1 G V s l (rounds s l 64))
  case first =>
    go_wp2
    go_loopw [15] (fun i wr => ∃ k : Nat, k ≤ 64 ∧ i = .int .i64 k ∧ RefRound w wr G V s l (rounds s l k)) (fun i _ => 64 - (intOf i).toNat)
    case atStart => exact ⟨0, by omega, rfl, hRR⟩
    case round =>
      clear hRR
      obtain ⟨k, hk, rfl, hR⟩ := hrel
      by_cases hlt : k < 64
      · have hn : rounds s l (k + 1) = roundOf (rounds s l k) (shaK.getD k 0) (l.getD k 0) := rfl
        have hword := fun w' st (h : RefRound w w' G V s l st) => h.word hl hlt
        generalize rounds s l k = st at *
        generalize l.getD k 0 = wk at *
        have HN := Lib.hid hn
        have HW := Lib.hid hword
        have i64 : (k : Int) < 64 := by omega
        clear hn hword
        go_upto_region 17 with (fail)
        have cw := HW.out _ _ hR
        refine refRegionP w wr G V s st l wk ab ao n cap at_ k hR hlt cw ?_
        intro nq
        iterate 35 intro _
        intro hR2
        clear hR cw
        generalize wr.drewN nq = w2 at hR2 ⊢
        clear wr nq
        go_upto_region 18 with (fail)
        refine refRegionQ w w2 G V s st l _ ab ao n cap at_ k hR2 ?_
        intro nq
        iterate 29 intro _
        intro hR3
        clear hR2
        generalize w2.drewN nq = w3 at hR3 ⊢
        clear w2 nq
        go_upto_region 19 with (fail)
        obtain ⟨c0, c1, c2, c3, c4, c5, c6, c7⟩ := hR3.cells
        have hvs := hR3.2
        go_wp2_with (refine wpList_store_row (by rfl) 104 _ _ (by rfl) V ((roundOf st (shaK.getD k 0) wk).list.map vu32).toArray (by rfl) (by rfl) 104 _ hvs size_8 (by simp [Eight.list]) (all_u32 _) ?_)
        clear c0 c1 c2 c3 c4 c5 c6 c7 hvs
        go_roundw
        case rel => exact ⟨k + 1, by omega, by go_num, by rw [HN.out]; exact hR3.next hV _ _⟩
        case measure => simp [intOf]; omega
      · obtain rfl : k = 64 := by omega
        go_wp2
        go_meet
        case rel => exact hR
  case rest =>
    clear hRR
    obtain ⟨⟨hs0, _, hz, _, hB⟩, hv⟩ := hcut
    generalize rounds s l 64 = v at *
    go_upto_block 6 with (fail)
    go_cut [] (fun w1 => Whole w1 G 104 ((addEight s v).list.map vu32) ∧ Whole w1 (G + 1 + 1) 104 (zeroNums .u32 8) ∧ Below G w w1)
    case first =>
      go_wp2
      go_loopw [18] (fun i wr => ∃ k : Nat, k ≤ 8 ∧ i = .int .i64 k ∧ Whole wr G 104 ((mixed s v k).map vu32) ∧ Whole wr V 104 (v.list.map vu32) ∧ Whole wr (G + 1 + 1) 104 (zeroNums .u32 8) ∧ Below G w wr) (fun i _ => 8 - (intOf i).toNat)
      case atStart => exact ⟨0, by omega, rfl, hs0, hv, hz, hB⟩
      case round =>
        clear hs0 hv hz hB
        obtain ⟨k, hk, rfl, hg, hv, hz, hB⟩ := hrel
        by_cases hlt : k < 8
        · have i8 : (k : Int) < 8 := by omega
          have hm := mixed_step s v k hlt
          have cg := hg.cell_of (show ((mixed s v k).map vu32)[k]? = some (vu32 (s.list.getD k 0)) by rw [List.getElem?_map, hm.1]; rfl)
          have fg := hg.free k
          have cv := hv.cell_of (show (v.list.map vu32)[k]? = some (vu32 (v.list.getD k 0)) by
            have : k < v.list.length := hlt
            simp [List.getElem?_map, List.getElem?_eq_getElem this])
          have hput := hg.put k (vu32 (s.list.getD k 0 + v.list.getD k 0))
          rw [← List.map_set, hm.2] at hput
          clear hm
          generalize s.list.getD k 0 = sk at *
          generalize v.list.getD k 0 = vk at *
          go_upto_region 23 with (fail)
          go_still_tail 9, (by kernel_rfl)
          change wpList _ _ _ _ _ wr.drew
          go_wp2
          go_roundw
          case rel => exact ⟨k + 1, by omega, by go_num, hput.drew, (hv.far (by simp; omega) _).drew, (hz.far (by simp; omega) _).drew, (hB.setCell (Nat.le_refl _) _).drew⟩
          case measure => simp [intOf]; omega
        · obtain rfl : k = 8 := by omega
          go_wp2
          go_meet
          case rel => exact ⟨hg, hz, hB⟩
    case rest =>
      clear hs0 hv hz hB
      obtain ⟨hg, hz, hB⟩ := hcut
      go_upto_region 24 with (fail)
      apply wp_region_lit
      refine wpList_load_row (by rfl) 104 _ (by rfl) G (by rfl) 104 ((addEight s v).list.map vu32).toArray (0, 0) _ hg Tryd.underlying104 (by rfl) size_8 ?_
      refine wpList_store_row (by rfl) 104 _ _ (by rfl) (G + 1 + 1) ((addEight s v).list.map vu32).toArray (by rfl) (by rfl) 104 _ hz size_8 (by simp [zeroNums, Eight.list]) (all_u32 _) ?_
      go_wp2
      rw [HC.out, HGe.out]
      exact bodyPost_ret (results_cell_row rfl _ _ (G + 1 + 1) 104 _ (0, 0) _ rfl (hz.row _) Tryd.underlying104 rfl size_8) rfl ⟨rfl, hB.grown (grown_row (World.grownBy.refl _ (some (G + 1 + 1))) (.inl rfl) _) (by have := hg.lt; omega) (fun k hk => by simp at hk; omega)⟩


set_option maxRecDepth 100000 in
set_option maxHeartbeats 8000000 in
theorem refblock_calls (w : World) (s : Eight) (ab ao n cap at_ : Nat) (bs : List (BitVec 8)) (hb : BytesAt w ab (ao + at_) bs) (hbl : bs.length = 64) (hn : at_ + 64 ≤ n) (hn2 : n ≤ 1099511627776) (ha : ab < w.heap.size) :
    Calls Tryd.prog 49 #[.agg (s.list.map vu32).toArray, .agg (shaK.map vu32).toArray, .slice (some ⟨ab, ao, none⟩) n cap, .int .i64 at_] w fun e w' =>
      e = .returned (.agg ((compress s bs).list.map vu32).toArray) ∧ Below w.heap.size w w' := by
  go_enter Tryd.func49, Tryd.ntmps49
  go_upto_block 0 with (first | (refine wpList_alloc_row (by rfl) 104 (by rfl) _ _ info_8 ?_) | (refine wpList_alloc_row (by rfl) 112 (by rfl) _ _ info_w ?_))
  have hR : RefIn w ((((w.alloc (.cells (s.list.map vu32).toArray 104)).alloc (.cells (shaK.map vu32).toArray 112)).alloc (.cells (zeroNums .u32 8).toArray 104)).alloc (.cells (zeroNums .u32 64).toArray 112)) w.heap.size s (schedRow bs 0) := by
    have h0 := Whole.new w 104 (s.list.map vu32).toArray
    have h1 := Whole.new (w.alloc (.cells (s.list.map vu32).toArray 104)) 112 (shaK.map vu32).toArray
    have h2 := Whole.new ((w.alloc (.cells (s.list.map vu32).toArray 104)).alloc (.cells (shaK.map vu32).toArray 112)) 104 (zeroNums .u32 8).toArray
    have h3 := Whole.new (((w.alloc (.cells (s.list.map vu32).toArray 104)).alloc (.cells (shaK.map vu32).toArray 112)).alloc (.cells (zeroNums .u32 8).toArray 104)) 112 (zeroNums .u32 64).toArray
    simp only [World.size_alloc] at h1 h2 h3
    have e : schedRow bs 0 = List.replicate 64 0 := rfl
    refine ⟨((h0.alloc _).alloc _).alloc _, (h1.alloc _).alloc _, h2.alloc _, ?_, ((((Below.refl _ _).alloc (Nat.le_refl _) _).alloc (by simp) _).alloc (by simp; omega) _).alloc (by simp; omega) _⟩
    rw [e]
    have z := zero_words 64
    rw [z] at h3
    exact h3
  have hbs : ∀ w', Below w.heap.size w w' → BytesAt w' ab (ao + at_) bs := fun w' h => hb.below h ha
  have HB := Lib.hid hbs
  have hG : 0 < w.heap.size := by omega
  clear hb ha hbs
  generalize hGe : w.heap.size = G at *
  have HGe := Lib.hid hGe
  clear hGe
  go_cut [] (fun w1 => RefIn w w1 G s (sched bs 64))
  case first =>
    go_wp2
    go_loopw [10] (fun i wr => ∃ k : Nat, k ≤ 64 ∧ i = .int .i64 k ∧ RefIn w wr G s (schedRow bs k)) (fun i _ => 64 - (intOf i).toNat)
    case atStart => exact ⟨0, by omega, rfl, hR⟩
    case round =>
      clear hR
      obtain ⟨k, hk, rfl, hR⟩ := hrel
      by_cases hlt : k < 64
      · by_cases h16 : k < 16
        · rw [part_row_zero bs k hlt] at hR
          have d64 : decide ((k : Int) < 64) = true := by simp; omega
          have d16 : decide ((k : Int) < 16) = true := by simp; omega
          go_upto_block 2 with (fail)
          go_cut [] (fun w1 => RefIn w w1 G s (partRow bs k (partOf bs k 4)))
          case first =>
            clear d64 d16
            have i64 : (k : Int) < 64 := by omega
            obtain ⟨wo, rfl⟩ : ∃ wo : World, wo = wr := ⟨_, rfl⟩
            go_wp2
            go_loopw [11] (fun i wr => ∃ j : Nat, j ≤ 4 ∧ i = .int .i64 j ∧ RefIn w wr G s (partRow bs k (partOf bs k j))) (fun i _ => 4 - (intOf i).toNat)
            case atStart => exact ⟨0, by omega, rfl, hR⟩
            case round =>
              clear hR
              obtain ⟨j, hj, rfl, hR⟩ := hrel
              by_cases hlj : j < 4
              · have cw := hR.word (part_row_at bs k (partOf bs k j))
                have fw := hR.2.2.2.1.free k
                have cb := (HB.out _ hR.2.2.2.2).at_ (i := 4 * k + j) (by omega)
                rw [show ao + at_ + (4 * k + j) = ao + (at_ + 4 * k + j) from by omega] at cb
                have hput := hR.put (part_row_set bs k (partOf bs k j) (partOf bs k (j + 1)))
                have hp : partOf bs k (j + 1) = partOf bs k j <<< 8 ||| (bs.getD (4 * k + j) 0).setWidth 32 := rfl
                rw [hp] at hput
                have HP := Lib.hid hput
                have HQ := Lib.hid hp
                clear hput hp
                generalize bs.getD (4 * k + j) 0 = bj at *
                generalize partOf bs k j = pj at *
                have s0 : IntKind.i64.wrap (4 * (k : Int)) = 4 * (k : Int) := IntWalk.i64_in _ (by omega)
                have s1 : IntKind.i64.wrap ((at_ : Int) + 4 * (k : Int)) = (at_ : Int) + 4 * (k : Int) := IntWalk.i64_in _ (by omega)
                have s2 : IntKind.i64.wrap ((at_ : Int) + 4 * (k : Int) + (j : Int)) = (at_ : Int) + 4 * (k : Int) + (j : Int) := IntWalk.i64_in _ (by omega)
                have n2 : ((at_ : Int) + 4 * (k : Int) + (j : Int)).toNat = at_ + 4 * k + j := by omega
                have l2 : 0 ≤ (at_ : Int) + 4 * (k : Int) + (j : Int) ∧ (at_ : Int) + 4 * (k : Int) + (j : Int) < (n : Int) := by omega
                go_upto_region 9 with (fail)
                go_still_tail 17, (by kernel_rfl)
                clear s0 s1 s2 n2 l2 cb
                change wpList _ _ _ _ _ wr.drew
                go_wp2
                go_roundw
                case rel => exact ⟨j + 1, by omega, by go_num, by rw [HQ.out]; exact HP.out.drew⟩
                case measure => simp [intOf]; omega
              · obtain rfl : j = 4 := by omega
                go_wp2
                go_meet
                case rel => exact hR
          case rest =>
            rw [part_four, part_row_word bs k hlt h16] at hcut
            go_wp2
            go_roundw
            case rel => exact ⟨k + 1, by omega, by go_num, hcut⟩
            case measure => simp [intOf]; omega
        · have i64 : (k : Int) < 64 := by omega
          have hx : ∀ w', RefIn w w' G s (schedRow bs k) → w'.cell? ⟨G + 1 + 1 + 1, k - 15, none⟩ = some (vu32 ((schedRow bs k).getD (k - 15) 0)) ∧ w'.cell? ⟨G + 1 + 1 + 1, k - 2, none⟩ = some (vu32 ((schedRow bs k).getD (k - 2) 0)) ∧
              w'.cell? ⟨G + 1 + 1 + 1, k - 7, none⟩ = some (vu32 ((schedRow bs k).getD (k - 7) 0)) ∧ w'.cell? ⟨G + 1 + 1 + 1, k - 16, none⟩ = some (vu32 ((schedRow bs k).getD (k - 16) 0)) ∧ w'.cell? ⟨G + 1 + 1 + 1, k, none⟩ = some (vu32 ((schedRow bs k).getD k 0)) := fun w' h =>
            ⟨h.word (sched_row_at bs k _ hk (by omega)), h.word (sched_row_at bs k _ hk (by omega)), h.word (sched_row_at bs k _ hk (by omega)), h.word (sched_row_at bs k _ hk (by omega)), h.word (sched_row_at bs k _ hk (by omega))⟩
          have hlw : laterWord bs k = sigB ((schedRow bs k).getD (k - 2) 0) + (schedRow bs k).getD (k - 7) 0 + sigA ((schedRow bs k).getD (k - 15) 0) + (schedRow bs k).getD (k - 16) 0 := rfl
          have hnext : ((schedRow bs k).map vu32).set k (vu32 (laterWord bs k)) = (schedRow bs (k + 1)).map vu32 := sched_row_later bs k hlt h16
          rw [hlw] at hnext
          clear hlw
          generalize (schedRow bs k).getD (k - 15) 0 = x0 at *
          generalize (schedRow bs k).getD (k - 2) 0 = x1 at *
          generalize (schedRow bs k).getD (k - 7) 0 = x2 at *
          generalize (schedRow bs k).getD (k - 16) 0 = x3 at *
          have HX := Lib.hid hx
          have HN := Lib.hid hnext
          clear hx hnext
          have s0 : IntKind.i64.wrap ((k : Int) - 15) = (k : Int) - 15 := IntWalk.i64_in _ (by omega)
          have s1 : IntKind.i64.wrap ((k : Int) - 2) = (k : Int) - 2 := IntWalk.i64_in _ (by omega)
          have s2 : IntKind.i64.wrap ((k : Int) - 7) = (k : Int) - 7 := IntWalk.i64_in _ (by omega)
          have s3 : IntKind.i64.wrap ((k : Int) - 16) = (k : Int) - 16 := IntWalk.i64_in _ (by omega)
          have n0 : ((k : Int) - 15).toNat = k - 15 := by omega
          have n1 : ((k : Int) - 2).toNat = k - 2 := by omega
          have n2 : ((k : Int) - 7).toNat = k - 7 := by omega
          have n3 : ((k : Int) - 16).toNat = k - 16 := by omega
          have l0 : 15 ≤ (k : Int) ∧ (k : Int) - 15 < 64 := by omega
          have l1 : 2 ≤ (k : Int) ∧ (k : Int) - 2 < 64 := by omega
          have l2 : 7 ≤ (k : Int) ∧ (k : Int) - 7 < 64 := by omega
          have l3 : 16 ≤ (k : Int) ∧ (k : Int) - 16 < 64 := by omega
          have m0 : 15 ≤ k := by omega
          have m1 : 2 ≤ k := by omega
          have m2 : 7 ≤ k := by omega
          have m3 : 16 ≤ k := by omega
          go_upto_region 10 with (fail)
          obtain ⟨c0, c1, c2, c3, c4⟩ := HX.out _ hR
          go_quiet ((go_at_call 51; exact Calls.quiet_of (refright_int _ _ (by unfold TurnI; omega) _)))
          have hR2 := hR.drewN nq
          clear c0 c1 c2 c3 c4 hR
          generalize wr.drewN nq = w2 at hR2 ⊢
          clear wr nq
          go_upto_region 11 with (fail)
          obtain ⟨c0, c1, c2, c3, c4⟩ := HX.out _ hR2
          go_quiet ((go_at_call 51; exact Calls.quiet_of (refright_int _ _ (by unfold TurnI; omega) _)))
          have hR3 := hR2.drewN nq
          clear c0 c1 c2 c3 c4 hR2
          generalize w2.drewN nq = w3 at hR3 ⊢
          clear w2 nq
          go_upto_region 12 with (fail)
          obtain ⟨c0, c1, c2, c3, c4⟩ := HX.out _ hR3
          have fw := hR3.2.2.2.1.free k
          go_still_tail 15, (by kernel_rfl)
          clear s0 s1 s2 s3 n0 n1 n2 n3 l0 l1 l2 l3 m0 m1 m2 m3
          change wpList _ _ _ _ _ w3.drew
          go_wp2
          go_roundw
          case rel => exact ⟨k + 1, by omega, by go_num, (hR3.put HN.out).drew⟩
          case measure => simp [intOf]; omega
      · obtain rfl : k = 64 := by omega
        go_wp2
        go_meet
        case rel => simpa [schedRow] using hR
  case rest =>
    go_step
    exact refblock_later w wc G s ab ao n cap at_ bs hcut HGe.out hG

end Go.Proofs.YtglcingpolpkdaaDoor
