/- QuotaNil: a region of its round that draws its order. -/
import Derived.Test.YtglcingpolpkdaaDoorQNilA
namespace Go.Proofs.YtglcingpolpkdaaDoor
open Go.RowKit

noncomputable def qnil_addCode : Code := subCode [1, 1, 0, 1, 2, 2, 1, 0, 2, 1, 0] ((Tryd.f4.body).getD .skip)

set_option maxRecDepth 100000 in
set_option maxHeartbeats 4000000 in
theorem qnil_add {z0 z1 z4 z8 z9 z10 z11 z12 z13 z14 z15 z16 z17 z18 z19 z20 z21 z22 z23 z24 z25 z26 z27 z28 z29 z30 z31 z32 z33 z34 z35 z36 z37 z38 z39 z40 z41 z42 z43 z44 z45 z46 z47 z48 z49 z50 z51 z52 z53 z54 z55 z56 z57 z58 z59 z60 z61 z62 z63 z64 z65 z66 z67 z68 z69 z70 z71 z72 z73 z74 z75 z76 z77 z78 z79 z80 z81 z82 z83 z84 z85 z86 z87 z88 z89 z90 z91 z92 z93 z94 z95 z96 z97 z98 z99 z100 z101 z102 z103 z104 z105 z106 z107 z108 z109 z110 z111 z112 z113 z114 z115 z116 z117 z118 z119 z120 z121 z122 z123 z124 z125 z126 z127 z128 z129 z130 z131 z132 z133 z134 z135 z136 z137 z138 z139 z140 z141 z142 z143 z144 z145 z146 z147 z148 z149 z150 z151 : Value} (W wc : World) (A k : Nat) (p t c0 c3 c4 c5 n0 n1 n2 n3 n4 n5 : Value) (x : ByteArray) (y : Int) (hlt : k < 2) (hk : QAt A k p t) (hs : QK W wc A c0 (.string x) (.int .i64 y) c3 c4 c5 n0 n1 n2 n3 n4 n5) {Q : Exit → Act → World → Prop}
    (hq : ∀ (y41 y42 y43 y44 y45 y46 y47 y48 y49 : Value) (D : Nat) (w' : World), QK W w' A c0 (.string x) (.int .i64 y) c3 c4 c5 n0 n1 n2 n3 n4 n5 → Whole w' D 24 (zeroNums .u8 32) → A + 6 ≤ D → Q .normal ⟨(z0 :: z1 :: .pointer (some ⟨A, 0, none⟩) :: .pointer (some ⟨A + 1, 0, none⟩) :: z4 :: .slice (some ⟨A + 3, 0, none⟩) 2 2 :: .slice (some ⟨A + 5, 0, none⟩) 2 2 :: .int .i64 k :: z8 :: z9 :: .pointer (some ⟨D, 0, none⟩) :: .int .i64 1 :: z12 :: z13 :: z14 :: z15 :: z16 :: z17 :: z18 :: z19 :: z20 :: z21 :: z22 :: z23 :: z24 :: z25 :: z26 :: z27 :: z28 :: z29 :: z30 :: z31 :: z32 :: z33 :: z34 :: z35 :: z36 :: z37 :: z38 :: z39 :: z40 :: y41 :: y42 :: y43 :: y44 :: y45 :: y46 :: y47 :: y48 :: y49 :: z50 :: z51 :: z52 :: z53 :: z54 :: z55 :: z56 :: z57 :: z58 :: z59 :: z60 :: z61 :: z62 :: z63 :: z64 :: z65 :: z66 :: z67 :: z68 :: z69 :: z70 :: z71 :: z72 :: z73 :: z74 :: z75 :: z76 :: z77 :: z78 :: z79 :: z80 :: z81 :: z82 :: z83 :: z84 :: z85 :: z86 :: z87 :: z88 :: z89 :: z90 :: z91 :: z92 :: z93 :: z94 :: z95 :: z96 :: z97 :: z98 :: z99 :: z100 :: z101 :: z102 :: z103 :: z104 :: z105 :: z106 :: z107 :: z108 :: z109 :: z110 :: z111 :: z112 :: z113 :: z114 :: z115 :: z116 :: z117 :: z118 :: z119 :: z120 :: z121 :: z122 :: z123 :: z124 :: z125 :: z126 :: z127 :: z128 :: z129 :: z130 :: z131 :: z132 :: z133 :: z134 :: z135 :: z136 :: z137 :: z138 :: z139 :: z140 :: z141 :: z142 :: z143 :: z144 :: z145 :: z146 :: z147 :: z148 :: z149 :: z150 :: z151 :: []).toArray, []⟩ w') : Code.wp Tryd.prog qnil_addCode Q ⟨(z0 :: z1 :: .pointer (some ⟨A, 0, none⟩) :: .pointer (some ⟨A + 1, 0, none⟩) :: z4 :: .slice (some ⟨A + 3, 0, none⟩) 2 2 :: .slice (some ⟨A + 5, 0, none⟩) 2 2 :: .int .i64 k :: z8 :: z9 :: z10 :: z11 :: z12 :: z13 :: z14 :: z15 :: z16 :: z17 :: z18 :: z19 :: z20 :: z21 :: z22 :: z23 :: z24 :: z25 :: z26 :: z27 :: z28 :: z29 :: z30 :: z31 :: z32 :: z33 :: z34 :: z35 :: z36 :: z37 :: z38 :: z39 :: z40 :: z41 :: z42 :: z43 :: z44 :: z45 :: z46 :: z47 :: z48 :: z49 :: z50 :: z51 :: z52 :: z53 :: z54 :: z55 :: z56 :: z57 :: z58 :: z59 :: z60 :: z61 :: z62 :: z63 :: z64 :: z65 :: z66 :: z67 :: z68 :: z69 :: z70 :: z71 :: z72 :: z73 :: z74 :: z75 :: z76 :: z77 :: z78 :: z79 :: z80 :: z81 :: z82 :: z83 :: z84 :: z85 :: z86 :: z87 :: z88 :: z89 :: z90 :: z91 :: z92 :: z93 :: z94 :: z95 :: z96 :: z97 :: z98 :: z99 :: z100 :: z101 :: z102 :: z103 :: z104 :: z105 :: z106 :: z107 :: z108 :: z109 :: z110 :: z111 :: z112 :: z113 :: z114 :: z115 :: z116 :: z117 :: z118 :: z119 :: z120 :: z121 :: z122 :: z123 :: z124 :: z125 :: z126 :: z127 :: z128 :: z129 :: z130 :: z131 :: z132 :: z133 :: z134 :: z135 :: z136 :: z137 :: z138 :: z139 :: z140 :: z141 :: z142 :: z143 :: z144 :: z145 :: z146 :: z147 :: z148 :: z149 :: z150 :: z151 :: []).toArray, []⟩ wc := by
  conv => arg 2; whnf
  have hki : (k : Int) < 2 := by omega
  have FA := Lib.hid (fun (w' : World) (h : QK W w' A c0 (.string x) (.int .i64 y) c3 c4 c5 n0 n1 n2 n3 n4 n5) => h.facts hk)
  have hBA : ∀ (wx : World) o, Below wx.heap.size wx (wx.alloc o) := fun wx o => (Below.refl _ _).alloc (Nat.le_refl _) o
  have hQ := Lib.hid hq
  clear hq
  refine wp_region_noPanic ?_
  refine wp_region_held_drew (S := fun w' => QK W w' A c0 (.string x) (.int .i64 y) c3 c4 c5 n0 n1 n2 n3 n4 n5) (by kernel_rfl) (hs.on ((Below.refl _ _).drew)) (fun hhS => ?_)
  generalize wc.drew = wd at hhS ⊢
  refine wpAnyH_take (i := 0) (oi := ⟨some 42, _, _, _, _, _⟩) (v := ?_) rfl (by kernel_rfl) (by kernel_rfl) (by kernel_rfl) (fun _ _ _ h => h) (Or.inl ⟨by rfl, ?_⟩) (by assumption) ?_
  rotate_left
  · intro w hSw
    (try dsimp only at hSw)
    go_simp
    all_goals (with_reducible rfl)
  try simp only [Act.put, List.setIfInBounds_toArray, List.set_cons_zero, List.set_cons_succ]
  refine wpAnyH_take (i := 1) (oi := ⟨some 43, _, _, _, _, _⟩) (v := ?_) rfl (by kernel_rfl) (by kernel_rfl) (by kernel_rfl) (fun _ _ _ h => h) (Or.inl ⟨by rfl, ?_⟩) (by assumption) ?_
  rotate_left
  · intro w hSw
    (try dsimp only at hSw)
    go_simp
    all_goals (with_reducible rfl)
  try simp only [Act.put, List.setIfInBounds_toArray, List.set_cons_zero, List.set_cons_succ]
  refine wpAnyH_take (i := 2) (oi := ⟨some 44, _, _, _, _, _⟩) (v := ?_) rfl (by kernel_rfl) (by kernel_rfl) (by kernel_rfl) (fun _ _ _ h => h) (Or.inl ⟨by rfl, ?_⟩) (by assumption) ?_
  rotate_left
  · intro w hSw
    (try dsimp only at hSw)
    go_simp
    all_goals (with_reducible rfl)
  try simp only [Act.put, List.setIfInBounds_toArray, List.set_cons_zero, List.set_cons_succ]
  refine wpAnyH_take (i := 3) (oi := ⟨some 45, _, _, _, _, _⟩) (v := ?_) rfl (by kernel_rfl) (by kernel_rfl) (by kernel_rfl) (fun _ _ _ h => h) (Or.inl ⟨by rfl, ?_⟩) (by assumption) ?_
  rotate_left
  · intro w hSw
    (try dsimp only at hSw)
    obtain ⟨a1, a2, a3, a4, a5, b0, b1, b2, b3, b4, b5, pm, pt, _, _, _, _⟩ := FA.out w hSw
    go_simp
    all_goals (with_reducible rfl)
  try simp only [Act.put, List.setIfInBounds_toArray, List.set_cons_zero, List.set_cons_succ]
  refine wpAnyH_take (i := 4) (oi := ⟨some 46, _, _, _, _, _⟩) (v := ?_) rfl (by kernel_rfl) (by kernel_rfl) (by kernel_rfl) (fun _ _ _ h => h) (Or.inl ⟨by rfl, ?_⟩) (by assumption) ?_
  rotate_left
  · intro w hSw
    (try dsimp only at hSw)
    obtain ⟨a1, a2, a3, a4, a5, b0, b1, b2, b3, b4, b5, pm, pt, _, _, _, _⟩ := FA.out w hSw
    go_simp
    all_goals (with_reducible rfl)
  try simp only [Act.put, List.setIfInBounds_toArray, List.set_cons_zero, List.set_cons_succ]
  refine wpAnyH_ready (rs := [5, 9]) (by kernel_rfl) (by simp) ?_
  refine AllReadyH.cons (o := ⟨some 47, _, _, _, _, _⟩) rfl (fun K hK => ?_) ?_
  · go_simp
    refine (add_no _ _ [n0, n1, n2, n3, n4, n5] (FA.out _ hhS).nt (FA.out _ hhS).lt).mono ?_
    rintro e w5 ⟨rfl, hB5⟩
    refine hK.out _ _ (hhS.on hB5) (fun hh5 => ?_)
    clear hK K
    try simp only [Act.put, List.setIfInBounds_toArray, List.set_cons_zero, List.set_cons_succ]
    refine wpAnyH_take (i := 6) (oi := ⟨some 41, _, _, _, _, _⟩) (v := ?_) rfl (by kernel_rfl) (by kernel_rfl) (by kernel_rfl) (fun _ _ _ h => h) (Or.inl ⟨by rfl, ?_⟩) (by assumption) ?_
    rotate_left
    · intro w hSw
      (try dsimp only at hSw)
      go_simp
      all_goals (with_reducible rfl)
    try simp only [Act.put, List.setIfInBounds_toArray, List.set_cons_zero, List.set_cons_succ]
    refine wpAnyH_take (i := 7) (oi := ⟨some 48, _, _, _, _, _⟩) (v := ?_) rfl (by kernel_rfl) (by kernel_rfl) (by kernel_rfl) (fun _ _ _ h => h) (Or.inl ⟨by rfl, ?_⟩) (by assumption) ?_
    rotate_left
    · intro w hSw
      (try dsimp only at hSw)
      go_simp
      all_goals (with_reducible rfl)
    try simp only [Act.put, List.setIfInBounds_toArray, List.set_cons_zero, List.set_cons_succ]
    refine wpAnyH_take (i := 8) (oi := ⟨some 49, _, _, _, _, _⟩) (v := ?_) rfl (by kernel_rfl) (by kernel_rfl) (by kernel_rfl) (fun _ _ _ h => h) (Or.inl ⟨by rfl, ?_⟩) (by assumption) ?_
    rotate_left
    · intro w hSw
      (try dsimp only at hSw)
      go_simp
      all_goals (with_reducible rfl)
    try simp only [Act.put, List.setIfInBounds_toArray, List.set_cons_zero, List.set_cons_succ]
    refine wpAnyH_ready (rs := [9]) (by kernel_rfl) (by simp) ?_
    refine AllReadyH.cons (o := ⟨some 10, _, _, _, _, _⟩) rfl (fun K hK => ?_) AllReadyH.nil
    rw [if_pos (by rfl)]
    refine oper_alloc_row 24 rfl _ _ info_d ?_
    refine hK.out _ _ (hh5.on (hBA _ _)) (fun hh9 => ?_)
    clear hK K
    try simp only [Act.put, List.setIfInBounds_toArray, List.set_cons_zero, List.set_cons_succ]
    refine wpAnyH_ready (rs := [10]) (by kernel_rfl) (by simp) ?_
    refine AllReadyH.cons (o := ⟨none, _, _, _, _, _⟩) rfl (fun K hK => ?_) AllReadyH.nil
    rw [if_pos (by rfl)]
    refine wp_store_row 24 _ _ rfl w5.heap.size (zeroNums .u8 32).toArray rfl rfl 24 _ (Whole.new w5 24 (zeroNums .u8 32).toArray) size_d rfl (all_zeros _ _) ?_
    have hB10 : Below w5.heap.size w5 ((w5.alloc (.cells (zeroNums .u8 32).toArray 24)).setRow w5.heap.size (zeroNums .u8 32).toArray) := (hBA _ _).grown (grown_row (World.grownBy.refl _ (some w5.heap.size)) (.inl rfl) _) (hBA _ _).size (fun k hk => by simp at hk; omega)
    have hr10 := (Whole.new w5 24 (zeroNums .u8 32).toArray).row (zeroNums .u8 32)
    refine hK.out _ _ (hh5.on hB10) (fun hh10 => ?_)
    clear hK K
    simp only [Act.put]
    refine wpAnyH_take (i := 11) (oi := ⟨some 11, _, _, _, _, _⟩) (v := ?_) rfl (by kernel_rfl) (by kernel_rfl) (by kernel_rfl) (fun _ _ _ h => h) (Or.inl ⟨by rfl, ?_⟩) (by assumption) ?_
    rotate_left
    · intro w hSw
      (try dsimp only at hSw)
      go_simp
      all_goals (with_reducible rfl)
    try simp only [Act.put, List.setIfInBounds_toArray, List.set_cons_zero, List.set_cons_succ]
    refine wpAnyH_done (by kernel_rfl) ?_ _
    refine NoPanic.normal ?_
    exact hQ.out _ _ _ _ _ _ _ _ _ w5.heap.size _ hh10 hr10 (by have := hhS.size; have := hB5.size; omega)
  refine AllReadyH.cons (o := ⟨some 10, _, _, _, _, _⟩) rfl (fun K hK => ?_) AllReadyH.nil
  · rw [if_pos (by rfl)]
    refine oper_alloc_row 24 rfl _ _ info_d ?_
    refine hK.out _ _ (hhS.on (hBA _ _)) (fun hh9 => ?_)
    clear hK K
    try simp only [Act.put, List.setIfInBounds_toArray, List.set_cons_zero, List.set_cons_succ]
    have hr9 := Whole.new wd 24 (zeroNums .u8 32).toArray
    have hB9 := hBA wd (.cells (zeroNums .u8 32).toArray 24)
    have hl9 : wd.heap.size < (wd.alloc (.cells (zeroNums .u8 32).toArray 24)).heap.size := by simp
    generalize wd.alloc (.cells (zeroNums .u8 32).toArray 24) = w9 at *
    refine wpAnyH_ready (rs := [5]) (by kernel_rfl) (by simp) ?_
    refine AllReadyH.cons (o := ⟨some 47, _, _, _, _, _⟩) rfl (fun K hK => ?_) AllReadyH.nil
    go_simp
    refine (add_no _ _ [n0, n1, n2, n3, n4, n5] (FA.out _ hh9).nt (FA.out _ hh9).lt).mono ?_
    rintro e w5 ⟨rfl, hB5⟩
    refine hK.out _ _ (hh9.on hB5) (fun hh5 => ?_)
    clear hK K
    try simp only [Act.put, List.setIfInBounds_toArray, List.set_cons_zero, List.set_cons_succ]
    refine wpAnyH_take (i := 6) (oi := ⟨some 41, _, _, _, _, _⟩) (v := ?_) rfl (by kernel_rfl) (by kernel_rfl) (by kernel_rfl) (fun _ _ _ h => h) (Or.inl ⟨by rfl, ?_⟩) (by assumption) ?_
    rotate_left
    · intro w hSw
      (try dsimp only at hSw)
      go_simp
      all_goals (with_reducible rfl)
    try simp only [Act.put, List.setIfInBounds_toArray, List.set_cons_zero, List.set_cons_succ]
    refine wpAnyH_take (i := 7) (oi := ⟨some 48, _, _, _, _, _⟩) (v := ?_) rfl (by kernel_rfl) (by kernel_rfl) (by kernel_rfl) (fun _ _ _ h => h) (Or.inl ⟨by rfl, ?_⟩) (by assumption) ?_
    rotate_left
    · intro w hSw
      (try dsimp only at hSw)
      go_simp
      all_goals (with_reducible rfl)
    try simp only [Act.put, List.setIfInBounds_toArray, List.set_cons_zero, List.set_cons_succ]
    refine wpAnyH_take (i := 8) (oi := ⟨some 49, _, _, _, _, _⟩) (v := ?_) rfl (by kernel_rfl) (by kernel_rfl) (by kernel_rfl) (fun _ _ _ h => h) (Or.inl ⟨by rfl, ?_⟩) (by assumption) ?_
    rotate_left
    · intro w hSw
      (try dsimp only at hSw)
      go_simp
      all_goals (with_reducible rfl)
    try simp only [Act.put, List.setIfInBounds_toArray, List.set_cons_zero, List.set_cons_succ]
    have hr5 := hr9.below hB5 hl9
    refine wpAnyH_ready (rs := [10]) (by kernel_rfl) (by simp) ?_
    refine AllReadyH.cons (o := ⟨none, _, _, _, _, _⟩) rfl (fun K hK => ?_) AllReadyH.nil
    rw [if_pos (by rfl)]
    refine wp_store_row 24 _ _ rfl wd.heap.size (zeroNums .u8 32).toArray rfl rfl 24 _ hr5 size_d rfl (all_zeros _ _) ?_
    have hB10 : Below wd.heap.size wd (w5.setRow wd.heap.size (zeroNums .u8 32).toArray) := (hB9.trans (hB5.mono hB9.size)).grown (grown_row (World.grownBy.refl _ (some wd.heap.size)) (.inl rfl) _) (Nat.le_trans hB9.size hB5.size) (fun k hk => by simp at hk; omega)
    have hr10 := hr5.row (zeroNums .u8 32)
    refine hK.out _ _ (hhS.on hB10) (fun hh10 => ?_)
    clear hK K
    simp only [Act.put]
    refine wpAnyH_take (i := 11) (oi := ⟨some 11, _, _, _, _, _⟩) (v := ?_) rfl (by kernel_rfl) (by kernel_rfl) (by kernel_rfl) (fun _ _ _ h => h) (Or.inl ⟨by rfl, ?_⟩) (by assumption) ?_
    rotate_left
    · intro w hSw
      (try dsimp only at hSw)
      go_simp
      all_goals (with_reducible rfl)
    try simp only [Act.put, List.setIfInBounds_toArray, List.set_cons_zero, List.set_cons_succ]
    refine wpAnyH_done (by kernel_rfl) ?_ _
    refine NoPanic.normal ?_
    exact hQ.out _ _ _ _ _ _ _ _ _ wd.heap.size _ hh10 hr10 (by have := hhS.size; have := hB5.size; omega)

end Go.Proofs.YtglcingpolpkdaaDoor
