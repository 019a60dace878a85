/- QuotaNil: the regions of its round that draw their order. -/
import Derived.Test.YtglcingpolpkdaaDoorQNil
namespace Go.Proofs.YtglcingpolpkdaaDoor
open Go.RowKit

/-- What stays through the rounds. -/
structure QK (W w : World) (A : Nat) (c0 c1 c2 c3 c4 c5 n0 n1 n2 n3 n4 n5 : Value) : Prop where
  act : Whole w A 52 [c0, c1, c2, c3, c4, c5]
  note : Whole w (A + 1) 36 [n0, n1, n2, n3, n4, n5]
  ml : Whole w (A + 3) 53 [.pointer none, .pointer (some ⟨A + 2, 0, none⟩)]
  tl : Whole w (A + 5) 26 [.pointer none, .pointer (some ⟨A + 4, 0, none⟩)]
  noM : NoM w (.pointer (some ⟨A + 2, 0, none⟩))
  noT : NoT w (.pointer (some ⟨A + 4, 0, none⟩))
  size : A + 6 ≤ w.heap.size
  old : A = W.heap.size
  below : Below A W w
theorem QK.on {W w w' : World} {A : Nat} {c0 c1 c2 c3 c4 c5 n0 n1 n2 n3 n4 n5 : Value} (h : QK W w A c0 c1 c2 c3 c4 c5 n0 n1 n2 n3 n4 n5) (hb : Below w.heap.size w w') : QK W w' A c0 c1 c2 c3 c4 c5 n0 n1 n2 n3 n4 n5 :=
  ⟨h.act.below hb h.act.lt, h.note.below hb h.note.lt, h.ml.below hb h.ml.lt, h.tl.below hb h.tl.lt, h.noM.below hb (fun a ha => by cases ha; have := h.size; omega), h.noT.below hb (fun a ha => by cases ha; have := h.size; omega), Nat.le_trans h.size hb.size, h.old, h.below.trans (hb.mono (by have := h.size; omega))⟩

/-- The round's two pointers. -/
def QAt (A k : Nat) (p t : Value) : Prop := (k = 0 ∧ p = .pointer none ∧ t = .pointer none) ∨ (k = 1 ∧ p = .pointer (some ⟨A + 2, 0, none⟩) ∧ t = .pointer (some ⟨A + 4, 0, none⟩))

structure QF (w : World) (A k : Nat) (p t c1 c2 c3 c4 c5 n0 n1 n2 n3 n4 n5 : Value) : Prop where
  a1 : w.cell? ⟨A, 1, none⟩ = some c1
  a2 : w.cell? ⟨A, 2, none⟩ = some c2
  a3 : w.cell? ⟨A, 3, none⟩ = some c3
  a4 : w.cell? ⟨A, 4, none⟩ = some c4
  a5 : w.cell? ⟨A, 5, none⟩ = some c5
  b0 : w.cell? ⟨A + 1, 0, none⟩ = some n0
  b1 : w.cell? ⟨A + 1, 1, none⟩ = some n1
  b2 : w.cell? ⟨A + 1, 2, none⟩ = some n2
  b3 : w.cell? ⟨A + 1, 3, none⟩ = some n3
  b4 : w.cell? ⟨A + 1, 4, none⟩ = some n4
  b5 : w.cell? ⟨A + 1, 5, none⟩ = some n5
  pm : w.cell? ⟨A + 3, k, none⟩ = some p
  pt : w.cell? ⟨A + 5, k, none⟩ = some t
  nm : NoM w p
  nt : NoT w t
  lm : ∀ a, p = .pointer (some ⟨a, 0, none⟩) → a < w.heap.size
  lt : ∀ a, t = .pointer (some ⟨a, 0, none⟩) → a < w.heap.size
theorem QK.facts {W w : World} {A k : Nat} {p t c0 c1 c2 c3 c4 c5 n0 n1 n2 n3 n4 n5 : Value} (h : QK W w A c0 c1 c2 c3 c4 c5 n0 n1 n2 n3 n4 n5) (hk : QAt A k p t) : QF w A k p t c1 c2 c3 c4 c5 n0 n1 n2 n3 n4 n5 := by
  have hs := h.size
  rcases hk with ⟨rfl, rfl, rfl⟩ | ⟨rfl, rfl, rfl⟩
  · exact ⟨h.act.cell 1, h.act.cell 2, h.act.cell 3, h.act.cell 4, h.act.cell 5, h.note.cell 0, h.note.cell 1, h.note.cell 2, h.note.cell 3, h.note.cell 4, h.note.cell 5, h.ml.cell 0, h.tl.cell 0, .inl rfl, .inl rfl, fun a ha => by (cases ha), fun a ha => by (cases ha)⟩
  · exact ⟨h.act.cell 1, h.act.cell 2, h.act.cell 3, h.act.cell 4, h.act.cell 5, h.note.cell 0, h.note.cell 1, h.note.cell 2, h.note.cell 3, h.note.cell 4, h.note.cell 5, h.ml.cell 1, h.tl.cell 1, h.noM, h.noT, fun a ha => by (cases ha; omega), fun a ha => by (cases ha; omega)⟩

theorem oper_alloc_row {P : Program} {o : Oper} {a : Act} {w : World} {K : Act → World → Prop} {Q : Exit → Act → World → Prop} (t : TypeId) (ho : o.op = .alloc t)
    (Z : Array Value) (n : Nat) (hz : (P.info? t).map (fun i => (i.zero, i.size)) = some (some (.agg Z), n))
    (h : K (a.put o.dst (.pointer (some ⟨w.heap.size, 0, none⟩))) (w.alloc (.cells Z t))) : o.wp P a w K Q := by
  have hzero := (zero_of_info hz).1
  unfold Oper.wp execOp
  simp only [ho]
  simp [Instr.alloc, hzero, newVar, Value.cells, newRow]
  exact h
theorem wholes_range {w : World} {g : Nat} {t : TypeId} {l : List Value} (h : Whole w g t l) : w.rangeAt g 0 l := fun i x hx => by
  rw [Nat.zero_add]
  exact h.cell_of hx
theorem info_u8 : (Tryd.prog.info? 5).map (·.size) = some 1 := by kernel_rfl
theorem eq_zero (w : World) : (Op.equalIn 10000 24 (.agg (zeroNums .u8 32).toArray) (.agg #[.int .u8 0, .int .u8 0, .int .u8 0, .int .u8 0, .int .u8 0, .int .u8 0, .int .u8 0, .int .u8 0, .int .u8 0, .int .u8 0, .int .u8 0, .int .u8 0, .int .u8 0, .int .u8 0, .int .u8 0, .int .u8 0, .int .u8 0, .int .u8 0, .int .u8 0, .int .u8 0, .int .u8 0, .int .u8 0, .int .u8 0, .int .u8 0, .int .u8 0, .int .u8 0, .int .u8 0, .int .u8 0, .int .u8 0, .int .u8 0, .int .u8 0, .int .u8 0])).run Tryd.prog w = .ok true w := by
  obtain ⟨i, hi, hs⟩ := Option.map_eq_some_iff.1 info_u8
  have h := run_equal_bytes w (t := 24) Tryd.underlying24 hi hs Tryd.underlying5 (List.replicate 32 (0#8)) (List.replicate 32 (0#8)) (by simp) (by simp)
  rw [← zero_bytes] at h
  simp only [decide_true] at h
  exact h

noncomputable def qnil_leftCode : Code := subCode [1, 1, 0, 1, 2, 2, 1, 0, 2, 0] ((Tryd.f4.body).getD .skip)

set_option maxRecDepth 100000 in
set_option maxHeartbeats 4000000 in
theorem qnil_left {z0 z1 z4 z8 z9 z10 z11 z12 z13 z14 z15 z16 z17 z18 z19 z20 z21 z22 z23 z24 z25 z26 z27 z28 z29 z30 z31 z32 z33 z34 z35 z36 z37 z38 z39 z40 z41 z42 z43 z44 z45 z46 z47 z48 z49 z50 z51 z52 z53 z54 z55 z56 z57 z58 z59 z60 z61 z62 z63 z64 z65 z66 z67 z68 z69 z70 z71 z72 z73 z74 z75 z76 z77 z78 z79 z80 z81 z82 z83 z84 z85 z86 z87 z88 z89 z90 z91 z92 z93 z94 z95 z96 z97 z98 z99 z100 z101 z102 z103 z104 z105 z106 z107 z108 z109 z110 z111 z112 z113 z114 z115 z116 z117 z118 z119 z120 z121 z122 z123 z124 z125 z126 z127 z128 z129 z130 z131 z132 z133 z134 z135 z136 z137 z138 z139 z140 z141 z142 z143 z144 z145 z146 z147 z148 z149 z150 z151 : Value} (W wc : World) (A k : Nat) (p t c0 c3 c4 c5 n0 n1 n2 n3 n4 n5 : Value) (x : ByteArray) (y : Int) (hlt : k < 2) (hk : QAt A k p t) (hs : QK W wc A c0 (.string x) (.int .i64 y) c3 c4 c5 n0 n1 n2 n3 n4 n5) {Q : Exit → Act → World → Prop}
    (hq : ∀ (y27 y28 y29 y30 y31 y32 y33 y34 y35 y36 y37 y38 y39 y40 : Value) (w' : World), QK W w' A c0 (.string x) (.int .i64 y) c3 c4 c5 n0 n1 n2 n3 n4 n5 → Q .normal ⟨(z0 :: z1 :: .pointer (some ⟨A, 0, none⟩) :: .pointer (some ⟨A + 1, 0, none⟩) :: z4 :: .slice (some ⟨A + 3, 0, none⟩) 2 2 :: .slice (some ⟨A + 5, 0, none⟩) 2 2 :: .int .i64 k :: .int .i64 0 :: .int .i64 1 :: z10 :: z11 :: z12 :: z13 :: z14 :: z15 :: z16 :: z17 :: z18 :: z19 :: z20 :: z21 :: z22 :: z23 :: z24 :: z25 :: z26 :: y27 :: y28 :: y29 :: y30 :: y31 :: y32 :: y33 :: y34 :: y35 :: y36 :: y37 :: y38 :: y39 :: y40 :: z41 :: z42 :: z43 :: z44 :: z45 :: z46 :: z47 :: z48 :: z49 :: z50 :: z51 :: z52 :: z53 :: z54 :: z55 :: z56 :: z57 :: z58 :: z59 :: z60 :: z61 :: z62 :: z63 :: z64 :: z65 :: z66 :: z67 :: z68 :: z69 :: z70 :: z71 :: z72 :: z73 :: z74 :: z75 :: z76 :: z77 :: z78 :: z79 :: z80 :: z81 :: z82 :: z83 :: z84 :: z85 :: z86 :: z87 :: z88 :: z89 :: z90 :: z91 :: z92 :: z93 :: z94 :: z95 :: z96 :: z97 :: z98 :: z99 :: z100 :: z101 :: z102 :: z103 :: z104 :: z105 :: z106 :: z107 :: z108 :: z109 :: z110 :: z111 :: z112 :: z113 :: z114 :: z115 :: z116 :: z117 :: z118 :: z119 :: z120 :: z121 :: z122 :: z123 :: z124 :: z125 :: z126 :: z127 :: z128 :: z129 :: z130 :: z131 :: z132 :: z133 :: z134 :: z135 :: z136 :: z137 :: z138 :: z139 :: z140 :: z141 :: z142 :: z143 :: z144 :: z145 :: z146 :: z147 :: z148 :: z149 :: z150 :: z151 :: []).toArray, []⟩ w') : Code.wp Tryd.prog qnil_leftCode Q ⟨(z0 :: z1 :: .pointer (some ⟨A, 0, none⟩) :: .pointer (some ⟨A + 1, 0, none⟩) :: z4 :: .slice (some ⟨A + 3, 0, none⟩) 2 2 :: .slice (some ⟨A + 5, 0, none⟩) 2 2 :: .int .i64 k :: z8 :: z9 :: z10 :: z11 :: z12 :: z13 :: z14 :: z15 :: z16 :: z17 :: z18 :: z19 :: z20 :: z21 :: z22 :: z23 :: z24 :: z25 :: z26 :: z27 :: z28 :: z29 :: z30 :: z31 :: z32 :: z33 :: z34 :: z35 :: z36 :: z37 :: z38 :: z39 :: z40 :: z41 :: z42 :: z43 :: z44 :: z45 :: z46 :: z47 :: z48 :: z49 :: z50 :: z51 :: z52 :: z53 :: z54 :: z55 :: z56 :: z57 :: z58 :: z59 :: z60 :: z61 :: z62 :: z63 :: z64 :: z65 :: z66 :: z67 :: z68 :: z69 :: z70 :: z71 :: z72 :: z73 :: z74 :: z75 :: z76 :: z77 :: z78 :: z79 :: z80 :: z81 :: z82 :: z83 :: z84 :: z85 :: z86 :: z87 :: z88 :: z89 :: z90 :: z91 :: z92 :: z93 :: z94 :: z95 :: z96 :: z97 :: z98 :: z99 :: z100 :: z101 :: z102 :: z103 :: z104 :: z105 :: z106 :: z107 :: z108 :: z109 :: z110 :: z111 :: z112 :: z113 :: z114 :: z115 :: z116 :: z117 :: z118 :: z119 :: z120 :: z121 :: z122 :: z123 :: z124 :: z125 :: z126 :: z127 :: z128 :: z129 :: z130 :: z131 :: z132 :: z133 :: z134 :: z135 :: z136 :: z137 :: z138 :: z139 :: z140 :: z141 :: z142 :: z143 :: z144 :: z145 :: z146 :: z147 :: z148 :: z149 :: z150 :: z151 :: []).toArray, []⟩ wc := by
  conv => arg 2; whnf
  have hki : (k : Int) < 2 := by omega
  have FA := Lib.hid (fun (w' : World) (h : QK W w' A c0 (.string x) (.int .i64 y) c3 c4 c5 n0 n1 n2 n3 n4 n5) => h.facts hk)
  have hQ := Lib.hid hq
  clear hq
  refine wp_region_noPanic ?_
  refine wp_region_held_drew (S := fun w' => QK W w' A c0 (.string x) (.int .i64 y) c3 c4 c5 n0 n1 n2 n3 n4 n5) (by kernel_rfl) (hs.on ((Below.refl _ _).drew)) (fun hhS => ?_)
  refine wpAnyH_take (i := 0) (oi := ⟨some 28, _, _, _, _, _⟩) (v := ?_) rfl (by kernel_rfl) (by kernel_rfl) (by kernel_rfl) (fun _ _ _ h => h) (Or.inl ⟨by rfl, ?_⟩) (by assumption) ?_
  rotate_left
  · intro w hSw
    (try dsimp only at hSw)
    go_simp
    all_goals (with_reducible rfl)
  try simp only [Act.put, List.setIfInBounds_toArray, List.set_cons_zero, List.set_cons_succ]
  refine wpAnyH_take (i := 1) (oi := ⟨some 29, _, _, _, _, _⟩) (v := ?_) rfl (by kernel_rfl) (by kernel_rfl) (by kernel_rfl) (fun _ _ _ h => h) (Or.inl ⟨by rfl, ?_⟩) (by assumption) ?_
  rotate_left
  · intro w hSw
    (try dsimp only at hSw)
    go_simp
    all_goals (with_reducible rfl)
  try simp only [Act.put, List.setIfInBounds_toArray, List.set_cons_zero, List.set_cons_succ]
  refine wpAnyH_take (i := 2) (oi := ⟨some 30, _, _, _, _, _⟩) (v := ?_) rfl (by kernel_rfl) (by kernel_rfl) (by kernel_rfl) (fun _ _ _ h => h) (Or.inl ⟨by rfl, ?_⟩) (by assumption) ?_
  rotate_left
  · intro w hSw
    (try dsimp only at hSw)
    go_simp
    all_goals (with_reducible rfl)
  try simp only [Act.put, List.setIfInBounds_toArray, List.set_cons_zero, List.set_cons_succ]
  refine wpAnyH_take (i := 3) (oi := ⟨some 31, _, _, _, _, _⟩) (v := ?_) rfl (by kernel_rfl) (by kernel_rfl) (by kernel_rfl) (fun _ _ _ h => h) (Or.inl ⟨by rfl, ?_⟩) (by assumption) ?_
  rotate_left
  · intro w hSw
    (try dsimp only at hSw)
    obtain ⟨a1, a2, a3, a4, a5, b0, b1, b2, b3, b4, b5, pm, pt, _, _, _, _⟩ := FA.out w hSw
    go_simp
    all_goals (with_reducible rfl)
  try simp only [Act.put, List.setIfInBounds_toArray, List.set_cons_zero, List.set_cons_succ]
  refine wpAnyH_take (i := 4) (oi := ⟨some 32, _, _, _, _, _⟩) (v := ?_) rfl (by kernel_rfl) (by kernel_rfl) (by kernel_rfl) (fun _ _ _ h => h) (Or.inl ⟨by rfl, ?_⟩) (by assumption) ?_
  rotate_left
  · intro w hSw
    (try dsimp only at hSw)
    go_simp
    all_goals (with_reducible rfl)
  try simp only [Act.put, List.setIfInBounds_toArray, List.set_cons_zero, List.set_cons_succ]
  refine wpAnyH_take (i := 5) (oi := ⟨some 33, _, _, _, _, _⟩) (v := ?_) rfl (by kernel_rfl) (by kernel_rfl) (by kernel_rfl) (fun _ _ _ h => h) (Or.inl ⟨by rfl, ?_⟩) (by assumption) ?_
  rotate_left
  · intro w hSw
    (try dsimp only at hSw)
    obtain ⟨a1, a2, a3, a4, a5, b0, b1, b2, b3, b4, b5, pm, pt, _, _, _, _⟩ := FA.out w hSw
    go_simp
    all_goals (with_reducible rfl)
  try simp only [Act.put, List.setIfInBounds_toArray, List.set_cons_zero, List.set_cons_succ]
  refine wpAnyH_take (i := 6) (oi := ⟨some 34, _, _, _, _, _⟩) (v := ?_) rfl (by kernel_rfl) (by kernel_rfl) (by kernel_rfl) (fun _ _ _ h => h) (Or.inl ⟨by rfl, ?_⟩) (by assumption) ?_
  rotate_left
  · intro w hSw
    (try dsimp only at hSw)
    go_simp
    all_goals (with_reducible rfl)
  try simp only [Act.put, List.setIfInBounds_toArray, List.set_cons_zero, List.set_cons_succ]
  refine wpAnyH_take (i := 7) (oi := ⟨some 35, _, _, _, _, _⟩) (v := ?_) rfl (by kernel_rfl) (by kernel_rfl) (by kernel_rfl) (fun _ _ _ h => h) (Or.inl ⟨by rfl, ?_⟩) (by assumption) ?_
  rotate_left
  · intro w hSw
    (try dsimp only at hSw)
    obtain ⟨a1, a2, a3, a4, a5, b0, b1, b2, b3, b4, b5, pm, pt, _, _, _, _⟩ := FA.out w hSw
    go_simp
    all_goals (with_reducible rfl)
  try simp only [Act.put, List.setIfInBounds_toArray, List.set_cons_zero, List.set_cons_succ]
  refine wpAnyH_take (i := 8) (oi := ⟨some 36, _, _, _, _, _⟩) (v := ?_) rfl (by kernel_rfl) (by kernel_rfl) (by kernel_rfl) (fun _ _ _ h => h) (Or.inl ⟨by rfl, ?_⟩) (by assumption) ?_
  rotate_left
  · intro w hSw
    (try dsimp only at hSw)
    go_simp
    all_goals (with_reducible rfl)
  try simp only [Act.put, List.setIfInBounds_toArray, List.set_cons_zero, List.set_cons_succ]
  refine wpAnyH_take (i := 9) (oi := ⟨some 37, _, _, _, _, _⟩) (v := ?_) rfl (by kernel_rfl) (by kernel_rfl) (by kernel_rfl) (fun _ _ _ h => h) (Or.inl ⟨by rfl, ?_⟩) (by assumption) ?_
  rotate_left
  · intro w hSw
    (try dsimp only at hSw)
    obtain ⟨a1, a2, a3, a4, a5, b0, b1, b2, b3, b4, b5, pm, pt, _, _, _, _⟩ := FA.out w hSw
    go_simp
    all_goals (with_reducible rfl)
  try simp only [Act.put, List.setIfInBounds_toArray, List.set_cons_zero, List.set_cons_succ]
  refine wpAnyH_ready (rs := [10]) (by kernel_rfl) (by simp) ?_
  refine AllReadyH.cons (o := ⟨some 38, _, _, _, _, _⟩) rfl (fun K hK => ?_) AllReadyH.nil
  go_simp
  refine (left_no _ _ _ _ _ (FA.out _ hhS).nm).mono ?_
  rintro e w10 ⟨rfl, rfl⟩
  refine hK.out _ _ (hhS) (fun hh10 => ?_)
  clear hK K
  try simp only [Act.put, List.setIfInBounds_toArray, List.set_cons_zero, List.set_cons_succ]
  refine wpAnyH_take (i := 11) (oi := ⟨some 27, _, _, _, _, _⟩) (v := ?_) rfl (by kernel_rfl) (by kernel_rfl) (by kernel_rfl) (fun _ _ _ h => h) (Or.inl ⟨by rfl, ?_⟩) (by assumption) ?_
  rotate_left
  · intro w hSw
    (try dsimp only at hSw)
    go_simp
    all_goals (with_reducible rfl)
  try simp only [Act.put, List.setIfInBounds_toArray, List.set_cons_zero, List.set_cons_succ]
  refine wpAnyH_take (i := 12) (oi := ⟨some 39, _, _, _, _, _⟩) (v := ?_) rfl (by kernel_rfl) (by kernel_rfl) (by kernel_rfl) (fun _ _ _ h => h) (Or.inl ⟨by rfl, ?_⟩) (by assumption) ?_
  rotate_left
  · intro w hSw
    (try dsimp only at hSw)
    go_simp
    all_goals (with_reducible rfl)
  try simp only [Act.put, List.setIfInBounds_toArray, List.set_cons_zero, List.set_cons_succ]
  refine wpAnyH_take (i := 13) (oi := ⟨some 40, _, _, _, _, _⟩) (v := ?_) rfl (by kernel_rfl) (by kernel_rfl) (by kernel_rfl) (fun _ _ _ h => h) (Or.inl ⟨by rfl, ?_⟩) (by assumption) ?_
  rotate_left
  · intro w hSw
    (try dsimp only at hSw)
    go_simp
    all_goals (with_reducible rfl)
  try simp only [Act.put, List.setIfInBounds_toArray, List.set_cons_zero, List.set_cons_succ]
  refine wpAnyH_take (i := 14) (oi := ⟨some 8, _, _, _, _, _⟩) (v := ?_) rfl (by kernel_rfl) (by kernel_rfl) (by kernel_rfl) (fun _ _ _ h => h) (Or.inl ⟨by rfl, ?_⟩) (by assumption) ?_
  rotate_left
  · intro w hSw
    (try dsimp only at hSw)
    go_simp
    all_goals (with_reducible rfl)
  try simp only [Act.put, List.setIfInBounds_toArray, List.set_cons_zero, List.set_cons_succ]
  refine wpAnyH_take (i := 15) (oi := ⟨some 9, _, _, _, _, _⟩) (v := ?_) rfl (by kernel_rfl) (by kernel_rfl) (by kernel_rfl) (fun _ _ _ h => h) (Or.inl ⟨by rfl, ?_⟩) (by assumption) ?_
  rotate_left
  · intro w hSw
    (try dsimp only at hSw)
    go_simp
    all_goals (with_reducible rfl)
  try simp only [Act.put, List.setIfInBounds_toArray, List.set_cons_zero, List.set_cons_succ]
  refine wpAnyH_done (by kernel_rfl) ?_ _
  refine NoPanic.normal ?_
  exact hQ.out _ _ _ _ _ _ _ _ _ _ _ _ _ _ _ hh10

end Go.Proofs.YtglcingpolpkdaaDoor
