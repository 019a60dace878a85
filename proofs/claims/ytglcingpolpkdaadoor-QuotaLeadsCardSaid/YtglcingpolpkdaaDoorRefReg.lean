/- What the reference's block makes of eight numbers: the chapter's rounds. -/
import Derived.Test.YtglcingpolpkdaaDoorBlk
namespace Go.Proofs.YtglcingpolpkdaaDoor
open Go.RowKit

theorem words_inj : ∀ {l l' : List (BitVec 32)}, l.map vu32 = l'.map vu32 → l = l'
  | [], [], _ => rfl
  | x :: l, y :: l', h => by
    simp only [List.map_cons, List.cons.injEq] at h
    rw [vu32_inj h.1, words_inj h.2]
/-- A number out of the first i of four bytes. -/
def partOf (b : List (BitVec 8)) (t : Nat) : Nat → BitVec 32
  | 0 => 0
  | i + 1 => partOf b t i <<< 8 ||| (b.getD (4 * t + i) 0).setWidth 32
theorem part_four (b : List (BitVec 8)) (t : Nat) : partOf b t 4 = wordAt b t := by
  simp only [partOf, wordAt, BitVec.shiftLeft_or_distrib, ← BitVec.shiftLeft_add]
  simp
/-- The schedule so far, a number in the making, and zeros. -/
def partRow (b : List (BitVec 8)) (t : Nat) (x : BitVec 32) : List (BitVec 32) := sched b t ++ x :: List.replicate (63 - t) 0
theorem part_row_zero (b : List (BitVec 8)) (t : Nat) (ht : t < 64) : schedRow b t = partRow b t 0 := by
  unfold schedRow partRow
  rw [show 64 - t = (63 - t) + 1 from by omega, List.replicate_succ]
theorem part_row_set (b : List (BitVec 8)) (t : Nat) (x y : BitVec 32) : ((partRow b t x).map vu32).set t (vu32 y) = (partRow b t y).map vu32 := by
  rw [← List.map_set]
  congr 1
  unfold partRow
  have hl := sched_length b t
  rw [List.set_append_right _ _ (by omega), hl, Nat.sub_self, List.set_cons_zero]
theorem part_row_at (b : List (BitVec 8)) (t : Nat) (x : BitVec 32) : ((partRow b t x).map vu32)[t]? = some (vu32 x) := by
  have hl := sched_length b t
  unfold partRow
  rw [List.map_append, List.getElem?_append_right (by simp [hl])]
  simp [hl]
theorem part_row_word (b : List (BitVec 8)) (t : Nat) (ht : t < 64) (h : t < 16) : partRow b t (wordAt b t) = schedRow b (t + 1) := by
  have h1 := sched_row_16 b t ht h
  rw [part_row_zero b t ht, part_row_set] at h1
  exact words_inj h1

theorem info_8 : (Tryd.prog.info? 104).map (fun i => (i.zero, i.size)) = some (some (.agg (zeroNums .u32 8).toArray), 8) := by kernel_rfl
theorem size_8 : (Tryd.prog.info? 104).map (·.size) = some 8 := by kernel_rfl
theorem size_64 : (Tryd.prog.info? 112).map (·.size) = some 64 := by kernel_rfl

/-- Where the reference's rounds stand: the numbers at the start in block G, the table in the next one, the answer's variable, and the schedule in the fourth. -/
def RefIn (w0 w : World) (G : Nat) (s : Eight) (l : List (BitVec 32)) : Prop :=
  Whole w G 104 (s.list.map vu32) ∧ Whole w (G + 1) 112 (shaK.map vu32) ∧ Whole w (G + 1 + 1) 104 (zeroNums .u32 8) ∧ Whole w (G + 1 + 1 + 1) 112 (l.map vu32) ∧ Below G w0 w
section
variable {w0 w : World} {G : Nat} {l : List (BitVec 32)} {s : Eight}
theorem RefIn.drewN (h : RefIn w0 w G s l) (n : Nat) : RefIn w0 (w.drewN n) G s l := ⟨h.1, h.2.1, h.2.2.1, h.2.2.2.1, ⟨h.2.2.2.2.os, h.2.2.2.2.tape, h.2.2.2.2.output, h.2.2.2.2.size, h.2.2.2.2.block⟩⟩
theorem RefIn.drew (h : RefIn w0 w G s l) : RefIn w0 w.drew G s l := ⟨h.1, h.2.1, h.2.2.1, h.2.2.2.1, h.2.2.2.2.drew⟩
theorem RefIn.put (h : RefIn w0 w G s l) {t : Nat} {y : BitVec 32} {l' : List (BitVec 32)} (hl : (l.map vu32).set t (vu32 y) = l'.map vu32) : RefIn w0 (w.setCell ⟨G + 1 + 1 + 1, t, none⟩ (vu32 y)) G s l' :=
  ⟨h.1.far (by simp; omega) _, h.2.1.far (by simp) _, h.2.2.1.far (by simp) _, by rw [← hl]; exact h.2.2.2.1.put t _, h.2.2.2.2.setCell (by simp; omega) _⟩
theorem RefIn.word (h : RefIn w0 w G s l) {k : Nat} {v : Value} (hv : (l.map vu32)[k]? = some v) : w.cell? ⟨G + 1 + 1 + 1, k, none⟩ = some v := h.2.2.2.1.cell_of hv
theorem RefIn.const (h : RefIn w0 w G s l) {k : Nat} (hk : k < 64) : w.cell? ⟨G + 1, k, none⟩ = some (vu32 (shaK.getD k 0)) := by
  refine h.2.1.cell_of ?_
  have : k < shaK.length := hk
  simp [List.getElem?_eq_getElem this]
end

/-- The same, with the numbers of the rounds in block V. -/
def RefRound (w0 w : World) (G V : Nat) (s : Eight) (l : List (BitVec 32)) (st : Eight) : Prop := RefIn w0 w G s l ∧ Whole w V 104 (st.list.map vu32)
section
variable {w0 w : World} {G V : Nat} {l : List (BitVec 32)} {s st : Eight}
theorem RefRound.drewN (h : RefRound w0 w G V s l st) (n : Nat) : RefRound w0 (w.drewN n) G V s l st := ⟨h.1.drewN n, h.2.drewN n⟩
theorem RefRound.cells (h : RefRound w0 w G V s l st) : w.cell? ⟨V, 0, none⟩ = some (vu32 st.a) ∧ w.cell? ⟨V, 1, none⟩ = some (vu32 st.b) ∧ w.cell? ⟨V, 2, none⟩ = some (vu32 st.c) ∧ w.cell? ⟨V, 3, none⟩ = some (vu32 st.d) ∧
    w.cell? ⟨V, 4, none⟩ = some (vu32 st.e) ∧ w.cell? ⟨V, 5, none⟩ = some (vu32 st.f) ∧ w.cell? ⟨V, 6, none⟩ = some (vu32 st.g) ∧ w.cell? ⟨V, 7, none⟩ = some (vu32 st.h) :=
  ⟨h.2.cell 0, h.2.cell 1, h.2.cell 2, h.2.cell 3, h.2.cell 4, h.2.cell 5, h.2.cell 6, h.2.cell 7⟩
theorem RefRound.word (h : RefRound w0 w G V s l st) (hl : l.length = 64) {k : Nat} (hk : k < 64) : w.cell? ⟨G + 1 + 1 + 1, k, none⟩ = some (vu32 (l.getD k 0)) := by
  refine h.1.word ?_
  simp [List.getElem?_map, List.getElem?_eq_getElem (show k < l.length by omega)]
theorem RefRound.next (h : RefRound w0 w G V s l st) (hV : G + 1 + 1 + 1 < V) (x y : BitVec 32) : RefRound w0 (w.setRow V ((roundOf st x y).list.map vu32).toArray) G V s l (roundOf st x y) :=
  ⟨⟨h.1.1.row_far (by omega) _, h.1.2.1.row_far (by omega) _, h.1.2.2.1.row_far (by omega) _, h.1.2.2.2.1.row_far (by omega) _,
    h.1.2.2.2.2.grown (grown_row (World.grownBy.refl w (some V)) (.inl rfl) _) (by have := h.1.1.lt; omega) (fun k hk => by simp at hk; omega)⟩, h.2.row _⟩
end

/-- The two drawn statements of a round. -/
noncomputable def refRegionPCode : Code := subCode [1, 1, 1, 1, 0, 1, 2, 2, 1, 0, 2, 0] ((Tryd.f49.body).getD .skip)
set_option maxRecDepth 100000 in
set_option maxHeartbeats 4000000 in
theorem refRegionP {z6 z7 z10 z11 z12 z13 z16 z17 z18 z19 z20 z21 z22 z23 z24 z25 z26 z27 z28 z29 z30 z31 z32 z33 z34 z35 z36 z37 z38 z39 z40 z41 z42 z43 z44 z45 z46 z47 z48 z49 z50 z51 z52 z53 z54 z55 z56 z57 z58 z59 z60 z61 z62 z63 z64 z65 z66 z67 z68 z69 z70 z71 z72 z73 z74 z75 z76 z77 z78 z79 z80 z81 z82 z83 z84 z85 z86 z87 z88 z89 z90 z91 z92 z93 z94 z95 z96 z97 z98 z99 z100 z101 z102 z103 z104 z105 z106 z107 z108 z109 z110 z111 z112 z113 z114 z115 z116 z117 z118 z119 z120 z121 z122 z123 z124 z125 z126 z127 z128 z129 z130 z131 z132 z133 z134 z135 z136 z137 z138 z139 z140 z141 z142 z143 z144 z145 z146 z147 z148 z149 z150 z151 z152 z153 z154 z155 z156 z157 z158 z159 z160 z161 z162 z163 z164 z165 z166 z167 z168 z169 z170 z171 z172 z173 z174 z175 z176 z177 z178 z179 z180 z181 z182 z183 z184 z185 z186 z187 z188 z189 z190 z191 z192 z193 z194 z195 z196 z197 : Value} (w wr : World) (G V : Nat) (s st : Eight) (l : List (BitVec 32)) (wk : BitVec 32) (ab ao n cap at_ k : Nat) {K : Act → World → Prop} {Q : Exit → Act → World → Prop}
    (hR : RefRound w wr G V s l st) (hlt : k < 64) (hw : wr.cell? ⟨G + 1 + 1 + 1, k, none⟩ = some (vu32 wk))
    (hK : ∀ (nq : Nat) (y100 y101 y102 y103 y104 y105 y106 y107 y108 y109 y110 y111 y112 y113 y114 y115 y116 y117 y118 y119 y120 y121 y122 y123 y124 y125 y126 y127 y128 y129 y130 y131 y132 y133 y134 : Value), RefRound w (wr.drewN nq) G V s l st → K ⟨(.agg (s.list.map vu32).toArray :: .agg (shaK.map vu32).toArray :: .slice (some ⟨ab, ao, none⟩) n cap :: .int .i64 at_ :: .pointer (some ⟨G, 0, none⟩) :: .pointer (some ⟨G + 1, 0, none⟩) :: z6 :: z7 :: .pointer (some ⟨G + 1 + 1, 0, none⟩) :: .pointer (some ⟨G + 1 + 1 + 1, 0, none⟩) :: z10 :: z11 :: z12 :: z13 :: .pointer (some ⟨V, 0, none⟩) :: .int .i64 k :: vu32 (roundP st (shaK.getD k 0) wk) :: z17 :: z18 :: z19 :: z20 :: z21 :: z22 :: z23 :: z24 :: z25 :: z26 :: z27 :: z28 :: z29 :: z30 :: z31 :: z32 :: z33 :: z34 :: z35 :: z36 :: z37 :: z38 :: z39 :: z40 :: z41 :: z42 :: z43 :: z44 :: z45 :: z46 :: z47 :: z48 :: z49 :: z50 :: z51 :: z52 :: z53 :: z54 :: z55 :: z56 :: z57 :: z58 :: z59 :: z60 :: z61 :: z62 :: z63 :: z64 :: z65 :: z66 :: z67 :: z68 :: z69 :: z70 :: z71 :: z72 :: z73 :: z74 :: z75 :: z76 :: z77 :: z78 :: z79 :: z80 :: z81 :: z82 :: z83 :: z84 :: z85 :: z86 :: z87 :: z88 :: z89 :: z90 :: z91 :: z92 :: z93 :: z94 :: z95 :: z96 :: z97 :: z98 :: z99 :: y100 :: y101 :: y102 :: y103 :: y104 :: y105 :: y106 :: y107 :: y108 :: y109 :: y110 :: y111 :: y112 :: y113 :: y114 :: y115 :: y116 :: y117 :: y118 :: y119 :: y120 :: y121 :: y122 :: y123 :: y124 :: y125 :: y126 :: y127 :: y128 :: y129 :: y130 :: y131 :: y132 :: y133 :: y134 :: z135 :: z136 :: z137 :: z138 :: z139 :: z140 :: z141 :: z142 :: z143 :: z144 :: z145 :: z146 :: z147 :: z148 :: z149 :: z150 :: z151 :: z152 :: z153 :: z154 :: z155 :: z156 :: z157 :: z158 :: z159 :: z160 :: z161 :: z162 :: z163 :: z164 :: z165 :: z166 :: z167 :: z168 :: z169 :: z170 :: z171 :: z172 :: z173 :: z174 :: z175 :: z176 :: z177 :: z178 :: z179 :: z180 :: z181 :: z182 :: z183 :: z184 :: z185 :: z186 :: z187 :: z188 :: z189 :: z190 :: z191 :: z192 :: z193 :: z194 :: z195 :: z196 :: z197 :: []).toArray, []⟩ (wr.drewN nq)) :
    Code.wp Tryd.prog refRegionPCode (Exit.then K Q) ⟨(.agg (s.list.map vu32).toArray :: .agg (shaK.map vu32).toArray :: .slice (some ⟨ab, ao, none⟩) n cap :: .int .i64 at_ :: .pointer (some ⟨G, 0, none⟩) :: .pointer (some ⟨G + 1, 0, none⟩) :: z6 :: z7 :: .pointer (some ⟨G + 1 + 1, 0, none⟩) :: .pointer (some ⟨G + 1 + 1 + 1, 0, none⟩) :: z10 :: z11 :: z12 :: z13 :: .pointer (some ⟨V, 0, none⟩) :: .int .i64 k :: z16 :: z17 :: z18 :: z19 :: z20 :: z21 :: z22 :: z23 :: z24 :: z25 :: z26 :: z27 :: z28 :: z29 :: z30 :: z31 :: z32 :: z33 :: z34 :: z35 :: z36 :: z37 :: z38 :: z39 :: z40 :: z41 :: z42 :: z43 :: z44 :: z45 :: z46 :: z47 :: z48 :: z49 :: z50 :: z51 :: z52 :: z53 :: z54 :: z55 :: z56 :: z57 :: z58 :: z59 :: z60 :: z61 :: z62 :: z63 :: z64 :: z65 :: z66 :: z67 :: z68 :: z69 :: z70 :: z71 :: z72 :: z73 :: z74 :: z75 :: z76 :: z77 :: z78 :: z79 :: z80 :: z81 :: z82 :: z83 :: z84 :: z85 :: z86 :: z87 :: z88 :: z89 :: z90 :: z91 :: z92 :: z93 :: z94 :: z95 :: z96 :: z97 :: z98 :: z99 :: z100 :: z101 :: z102 :: z103 :: z104 :: z105 :: z106 :: z107 :: z108 :: z109 :: z110 :: z111 :: z112 :: z113 :: z114 :: z115 :: z116 :: z117 :: z118 :: z119 :: z120 :: z121 :: z122 :: z123 :: z124 :: z125 :: z126 :: z127 :: z128 :: z129 :: z130 :: z131 :: z132 :: z133 :: z134 :: z135 :: z136 :: z137 :: z138 :: z139 :: z140 :: z141 :: z142 :: z143 :: z144 :: z145 :: z146 :: z147 :: z148 :: z149 :: z150 :: z151 :: z152 :: z153 :: z154 :: z155 :: z156 :: z157 :: z158 :: z159 :: z160 :: z161 :: z162 :: z163 :: z164 :: z165 :: z166 :: z167 :: z168 :: z169 :: z170 :: z171 :: z172 :: z173 :: z174 :: z175 :: z176 :: z177 :: z178 :: z179 :: z180 :: z181 :: z182 :: z183 :: z184 :: z185 :: z186 :: z187 :: z188 :: z189 :: z190 :: z191 :: z192 :: z193 :: z194 :: z195 :: z196 :: z197 :: []).toArray, []⟩ wr := by
  conv => arg 2; whnf
  obtain ⟨c0, c1, c2, c3, c4, c5, c6, c7⟩ := hR.cells
  have ck := hR.1.const hlt
  have i64 : (k : Int) < 64 := by omega
  have H := Lib.hid hK
  clear hK
  go_quiet ((go_at_call 51; exact Calls.quiet_of (refright_int _ _ (by unfold TurnI; omega) _)))
  exact H.out nq _ _ _ _ _ _ _ _ _ _ _ _ _ _ _ _ _ _ _ _ _ _ _ _ _ _ _ _ _ _ _ _ _ _ _ (hR.drewN nq)

noncomputable def refRegionQCode : Code := subCode [1, 1, 1, 1, 0, 1, 2, 2, 1, 0, 2, 1, 0] ((Tryd.f49.body).getD .skip)
set_option maxRecDepth 100000 in
set_option maxHeartbeats 4000000 in
theorem refRegionQ {z6 z7 z10 z11 z12 z13 z17 z18 z19 z20 z21 z22 z23 z24 z25 z26 z27 z28 z29 z30 z31 z32 z33 z34 z35 z36 z37 z38 z39 z40 z41 z42 z43 z44 z45 z46 z47 z48 z49 z50 z51 z52 z53 z54 z55 z56 z57 z58 z59 z60 z61 z62 z63 z64 z65 z66 z67 z68 z69 z70 z71 z72 z73 z74 z75 z76 z77 z78 z79 z80 z81 z82 z83 z84 z85 z86 z87 z88 z89 z90 z91 z92 z93 z94 z95 z96 z97 z98 z99 z100 z101 z102 z103 z104 z105 z106 z107 z108 z109 z110 z111 z112 z113 z114 z115 z116 z117 z118 z119 z120 z121 z122 z123 z124 z125 z126 z127 z128 z129 z130 z131 z132 z133 z134 z135 z136 z137 z138 z139 z140 z141 z142 z143 z144 z145 z146 z147 z148 z149 z150 z151 z152 z153 z154 z155 z156 z157 z158 z159 z160 z161 z162 z163 z164 z165 z166 z167 z168 z169 z170 z171 z172 z173 z174 z175 z176 z177 z178 z179 z180 z181 z182 z183 z184 z185 z186 z187 z188 z189 z190 z191 z192 z193 z194 z195 z196 z197 : Value} (w wr : World) (G V : Nat) (s st : Eight) (l : List (BitVec 32)) (p : BitVec 32) (ab ao n cap at_ k : Nat) {K : Act → World → Prop} {Q : Exit → Act → World → Prop}
    (hR : RefRound w wr G V s l st) 
    (hK : ∀ (nq : Nat) (y135 y136 y137 y138 y139 y140 y141 y142 y143 y144 y145 y146 y147 y148 y149 y150 y151 y152 y153 y154 y155 y156 y157 y158 y159 y160 y161 y162 y163 : Value), RefRound w (wr.drewN nq) G V s l st → K ⟨(.agg (s.list.map vu32).toArray :: .agg (shaK.map vu32).toArray :: .slice (some ⟨ab, ao, none⟩) n cap :: .int .i64 at_ :: .pointer (some ⟨G, 0, none⟩) :: .pointer (some ⟨G + 1, 0, none⟩) :: z6 :: z7 :: .pointer (some ⟨G + 1 + 1, 0, none⟩) :: .pointer (some ⟨G + 1 + 1 + 1, 0, none⟩) :: z10 :: z11 :: z12 :: z13 :: .pointer (some ⟨V, 0, none⟩) :: .int .i64 k :: vu32 p :: vu32 (roundQ st) :: z18 :: z19 :: z20 :: z21 :: z22 :: z23 :: z24 :: z25 :: z26 :: z27 :: z28 :: z29 :: z30 :: z31 :: z32 :: z33 :: z34 :: z35 :: z36 :: z37 :: z38 :: z39 :: z40 :: z41 :: z42 :: z43 :: z44 :: z45 :: z46 :: z47 :: z48 :: z49 :: z50 :: z51 :: z52 :: z53 :: z54 :: z55 :: z56 :: z57 :: z58 :: z59 :: z60 :: z61 :: z62 :: z63 :: z64 :: z65 :: z66 :: z67 :: z68 :: z69 :: z70 :: z71 :: z72 :: z73 :: z74 :: z75 :: z76 :: z77 :: z78 :: z79 :: z80 :: z81 :: z82 :: z83 :: z84 :: z85 :: z86 :: z87 :: z88 :: z89 :: z90 :: z91 :: z92 :: z93 :: z94 :: z95 :: z96 :: z97 :: z98 :: z99 :: z100 :: z101 :: z102 :: z103 :: z104 :: z105 :: z106 :: z107 :: z108 :: z109 :: z110 :: z111 :: z112 :: z113 :: z114 :: z115 :: z116 :: z117 :: z118 :: z119 :: z120 :: z121 :: z122 :: z123 :: z124 :: z125 :: z126 :: z127 :: z128 :: z129 :: z130 :: z131 :: z132 :: z133 :: z134 :: y135 :: y136 :: y137 :: y138 :: y139 :: y140 :: y141 :: y142 :: y143 :: y144 :: y145 :: y146 :: y147 :: y148 :: y149 :: y150 :: y151 :: y152 :: y153 :: y154 :: y155 :: y156 :: y157 :: y158 :: y159 :: y160 :: y161 :: y162 :: y163 :: z164 :: z165 :: z166 :: z167 :: z168 :: z169 :: z170 :: z171 :: z172 :: z173 :: z174 :: z175 :: z176 :: z177 :: z178 :: z179 :: z180 :: z181 :: z182 :: z183 :: z184 :: z185 :: z186 :: z187 :: z188 :: z189 :: z190 :: z191 :: z192 :: z193 :: z194 :: z195 :: z196 :: z197 :: []).toArray, []⟩ (wr.drewN nq)) :
    Code.wp Tryd.prog refRegionQCode (Exit.then K Q) ⟨(.agg (s.list.map vu32).toArray :: .agg (shaK.map vu32).toArray :: .slice (some ⟨ab, ao, none⟩) n cap :: .int .i64 at_ :: .pointer (some ⟨G, 0, none⟩) :: .pointer (some ⟨G + 1, 0, none⟩) :: z6 :: z7 :: .pointer (some ⟨G + 1 + 1, 0, none⟩) :: .pointer (some ⟨G + 1 + 1 + 1, 0, none⟩) :: z10 :: z11 :: z12 :: z13 :: .pointer (some ⟨V, 0, none⟩) :: .int .i64 k :: vu32 p :: z17 :: z18 :: z19 :: z20 :: z21 :: z22 :: z23 :: z24 :: z25 :: z26 :: z27 :: z28 :: z29 :: z30 :: z31 :: z32 :: z33 :: z34 :: z35 :: z36 :: z37 :: z38 :: z39 :: z40 :: z41 :: z42 :: z43 :: z44 :: z45 :: z46 :: z47 :: z48 :: z49 :: z50 :: z51 :: z52 :: z53 :: z54 :: z55 :: z56 :: z57 :: z58 :: z59 :: z60 :: z61 :: z62 :: z63 :: z64 :: z65 :: z66 :: z67 :: z68 :: z69 :: z70 :: z71 :: z72 :: z73 :: z74 :: z75 :: z76 :: z77 :: z78 :: z79 :: z80 :: z81 :: z82 :: z83 :: z84 :: z85 :: z86 :: z87 :: z88 :: z89 :: z90 :: z91 :: z92 :: z93 :: z94 :: z95 :: z96 :: z97 :: z98 :: z99 :: z100 :: z101 :: z102 :: z103 :: z104 :: z105 :: z106 :: z107 :: z108 :: z109 :: z110 :: z111 :: z112 :: z113 :: z114 :: z115 :: z116 :: z117 :: z118 :: z119 :: z120 :: z121 :: z122 :: z123 :: z124 :: z125 :: z126 :: z127 :: z128 :: z129 :: z130 :: z131 :: z132 :: z133 :: z134 :: z135 :: z136 :: z137 :: z138 :: z139 :: z140 :: z141 :: z142 :: z143 :: z144 :: z145 :: z146 :: z147 :: z148 :: z149 :: z150 :: z151 :: z152 :: z153 :: z154 :: z155 :: z156 :: z157 :: z158 :: z159 :: z160 :: z161 :: z162 :: z163 :: z164 :: z165 :: z166 :: z167 :: z168 :: z169 :: z170 :: z171 :: z172 :: z173 :: z174 :: z175 :: z176 :: z177 :: z178 :: z179 :: z180 :: z181 :: z182 :: z183 :: z184 :: z185 :: z186 :: z187 :: z188 :: z189 :: z190 :: z191 :: z192 :: z193 :: z194 :: z195 :: z196 :: z197 :: []).toArray, []⟩ wr := by
  conv => arg 2; whnf
  obtain ⟨c0, c1, c2, c3, c4, c5, c6, c7⟩ := hR.cells
  have H := Lib.hid hK
  clear hK
  go_quiet ((go_at_call 51; exact Calls.quiet_of (refright_int _ _ (by unfold TurnI; omega) _)))
  exact H.out nq _ _ _ _ _ _ _ _ _ _ _ _ _ _ _ _ _ _ _ _ _ _ _ _ _ _ _ _ _ (hR.drewN nq)

end Go.Proofs.YtglcingpolpkdaaDoor
