/- act: Read of both disks; what was told is written over, its room too. -/
import Derived.Test.YtmmlpbepaefamaaDAk
namespace Go.Proofs.Ytmmlpbepaefamaa
open Go.RowKit

set_option maxRecDepth 100000 in
set_option maxHeartbeats 1000000 in
/-- OverBytes of a slice whose block is of bytes all through. -/
theorem over_own (w : World) (B : Nat) (v : Value) (l : List (BitVec 8)) (hv : Own w B v l) (hS : Bys w v) :
    Calls Try.prog 54 #[v] w fun e w' => e = .returned (.tuple #[]) ∧ Only w w' fun k => v.ownBlock = some k := by
  by_cases hg0 : v.ownBlock = none
  · rcases hv.shape with ⟨rfl, _⟩ | ⟨g, cap, rfl, _⟩
    · clear hv hS hg0
      go_enter Try.func54, Try.ntmps54
      go_wp2
      go_loopw [3] (fun i wr => i = .int .i64 0 ∧ w = wr) (fun _ _ => 0)
      case atStart => exact ⟨rfl, rfl⟩
      case round =>
        obtain ⟨rfl, rfl⟩ := hrel
        go_wp2
        go_end0
        exact ⟨rfl, Only.of_below (Below.refl _ _) _⟩
    · cases hg0
  · obtain ⟨g, hg⟩ := Option.ne_none_iff_exists'.1 hg0
    obtain ⟨ys, hW⟩ := hS g hg
    obtain ⟨n, c, rfl, hle, hmax, hlen⟩ : ∃ n c, v = .slice (some ⟨g, 0, none⟩) n c ∧ n ≤ c ∧ c ≤ maxLen ∧ ys.length = c := by
      rcases hv.2 with ⟨rfl, _⟩ | ⟨g2, cap, cur, rfl, _, hc, h1, h2, h3, _⟩
      · cases hg
      · obtain rfl := Option.some.inj hg
        have e : cur = (ys.map vu8).toArray := (Obj.cells.inj (Option.some.inj (hc.symm.trans hW))).1
        refine ⟨_, _, rfl, h1, h2, ?_⟩
        rw [e] at h3
        simpa using h3
    have hc' := Lib.hid hlen
    simp only [maxLen] at hmax
    have e0 : (Value.slice (some ⟨g, 0, none⟩) n c).ownBlock = some g := rfl
    rw [e0]
    clear hv hS hg0 hg hlen e0
    go_enter Try.func54, Try.ntmps54
    go_wp2
    go_loopw [3] (fun i wr => ∃ j : Nat, j ≤ c ∧ i = .int .i64 j ∧ Whole wr g 5 ((overRow ys j).map vu8) ∧ w.grownBy wr (some g)) (fun i _ => c - (intOf i).toNat)
    case atStart => exact ⟨0, by omega, rfl, by simpa [overRow] using hW, World.grownBy.refl _ _⟩
    case round =>
      obtain ⟨j, hj, rfl, hR, hG⟩ := hrel
      by_cases hlt : j < c
      · have hjy : j < ys.length := by rw [hc'.out]; exact hlt
        have i1 : (j : Int) < (c : Int) := by omega
        have i2 : 0 ≤ (j : Int) ∧ (j : Int) < (c : Int) := by omega
        have b2 : IntKind.i64.wrap ((j : Int) + 1) = (j : Int) + 1 := IntWalk.i64_in _ (by omega)
        obtain ⟨y, hy⟩ : ∃ y, ys[j] = y := ⟨_, rfl⟩
        have c0 : wr.cell? ⟨g, j, none⟩ = some (vu8 y) := hR.cell_of (by rw [List.getElem?_map, overRow_at ys j hjy, hy]; rfl)
        have hfree := hR.free j
        have hnx := overRow_next ys j hjy
        rw [hy] at hnx
        have HN := Lib.hid hnx
        have HR := Lib.hid hR
        clear hnx hR hy hjy hW
        go_wp2
        go_roundw
        case rel =>
          have hR := HR.out.put j (vu8 (y ^^^ 90#8))
          rw [← List.map_set, HN.out] at hR
          exact ⟨j + 1, by omega, by go_num, hR, grown_set hG (.inl rfl) _⟩
        case measure => simp [intOf]; omega
      · obtain rfl : j = c := by omega
        clear hR hW
        go_wp2
        go_end0
        exact ⟨rfl, (Only.of_grown hG).weak fun i _ e => e⟩

set_option maxRecDepth 100000 in
set_option maxHeartbeats 4000000 in
theorem act_k5 {z2 z3 z4 z8 z9 z10 z11 z12 z13 z14 z15 z16 z17 z19 z20 z21 z22 z23 z24 z25 z26 z27 z28 z29 z30 z31 z32 z33 z34 z35 z36 z37 z38 z39 z40 z41 z42 z43 z44 z45 z46 z47 z48 z49 z50 z51 z52 z53 z54 z55 z56 z57 z58 z59 z60 z61 z62 z63 z64 z65 z66 z67 z68 z69 z70 z71 z72 z73 z74 z75 z76 z77 z78 z79 z80 z81 z82 z83 z84 z85 z86 z87 z88 z89 z90 z91 z92 z93 z94 z95 z96 z97 z98 z99 z100 z101 z102 z103 z104 z105 z106 z107 z108 z109 z110 z111 z112 z113 z114 z115 z116 z117 z118 z119 z120 z121 z122 z123 z124 z125 z126 z127 z128 z129 z130 z131 z132 z133 z134 z135 z136 z137 z138 z139 z140 z141 z142 z143 z144 z145 z146 z147 z148 z149 z150 z151 z152 z153 z154 z155 z156 z157 z158 z159 z160 z161 z162 z163 z164 z165 z166 z167 z168 z169 z170 z171 z172 z173 z174 z175 z176 z177 z178 z179 z180 z181 z182 z183 z184 z185 z186 z187 z188 z189 z190 z191 z192 z193 z194 z195 z196 z197 z198 z199 z200 z201 z202 : Value} (W w : World) (B d m X : Nat) (ks rl : List Int) (j : Nat) (name dst : ByteArray) (bv : Value) (z : Int) (kv : Value) (h : Sc W w B d m (fun i => i = X) ks rl j) (hX : Whole w X 63 [.int .u8 5, .string name, .string dst, bv, .int .i64 z, kv]) (hj : j ≤ 800) {Q : Exit → Act → World → Prop}
    (hq : ∀ (y8 y9 y10 y11 y12 y13 y14 y15 y19 y20 y21 y22 y23 y24 y25 y26 y27 y28 y29 y30 y31 y32 y33 y34 y35 y36 y37 y38 y39 y40 y41 y42 y43 y44 y45 y46 y47 y48 y49 y50 y51 y52 y53 y54 y55 y56 y57 y58 y59 y60 y61 y62 y63 y64 y65 y66 y67 y68 y69 y70 y71 y72 y73 y74 y75 y76 y77 y78 y79 y80 y81 y82 y83 y84 y85 y86 y87 y88 y89 y90 y91 y92 y93 y94 y95 y96 y97 y98 y99 y100 y101 y102 y103 y104 y105 y106 y107 y108 y109 y110 y111 y112 y113 y114 y115 y116 y117 y118 y119 y120 y121 y122 y123 y124 y125 y126 y127 y128 y129 y130 y131 y132 y133 y134 y135 y136 y137 y138 y139 y140 y141 y142 y143 y144 y145 y146 y147 y148 y149 y150 y151 y152 y153 y154 y155 y156 y157 y158 y159 y160 y161 y162 y163 y164 y165 y166 y167 y168 y169 y170 : Value) (w' : World), Sc W w' B d m (fun i => i = X) ks rl (j + 1) → Whole w' X 63 [.int .u8 5, .string name, .string dst, bv, .int .i64 z, kv] → Q .normal ⟨(.pointer (some ⟨d, 0, none⟩) :: .pointer (some ⟨m, 0, none⟩) :: z2 :: z3 :: z4 :: .pointer (some ⟨X, 0, none⟩) :: .bool false :: .bool true :: y8 :: y9 :: y10 :: y11 :: y12 :: y13 :: y14 :: y15 :: z16 :: z17 :: .int .u8 5 :: y19 :: y20 :: y21 :: y22 :: y23 :: y24 :: y25 :: y26 :: y27 :: y28 :: y29 :: y30 :: y31 :: y32 :: y33 :: y34 :: y35 :: y36 :: y37 :: y38 :: y39 :: y40 :: y41 :: y42 :: y43 :: y44 :: y45 :: y46 :: y47 :: y48 :: y49 :: y50 :: y51 :: y52 :: y53 :: y54 :: y55 :: y56 :: y57 :: y58 :: y59 :: y60 :: y61 :: y62 :: y63 :: y64 :: y65 :: y66 :: y67 :: y68 :: y69 :: y70 :: y71 :: y72 :: y73 :: y74 :: y75 :: y76 :: y77 :: y78 :: y79 :: y80 :: y81 :: y82 :: y83 :: y84 :: y85 :: y86 :: y87 :: y88 :: y89 :: y90 :: y91 :: y92 :: y93 :: y94 :: y95 :: y96 :: y97 :: y98 :: y99 :: y100 :: y101 :: y102 :: y103 :: y104 :: y105 :: y106 :: y107 :: y108 :: y109 :: y110 :: y111 :: y112 :: y113 :: y114 :: y115 :: y116 :: y117 :: y118 :: y119 :: y120 :: y121 :: y122 :: y123 :: y124 :: y125 :: y126 :: y127 :: y128 :: y129 :: y130 :: y131 :: y132 :: y133 :: y134 :: y135 :: y136 :: y137 :: y138 :: y139 :: y140 :: y141 :: y142 :: y143 :: y144 :: y145 :: y146 :: y147 :: y148 :: y149 :: y150 :: y151 :: y152 :: y153 :: y154 :: y155 :: y156 :: y157 :: y158 :: y159 :: y160 :: y161 :: y162 :: y163 :: y164 :: y165 :: y166 :: y167 :: y168 :: y169 :: y170 :: z171 :: z172 :: z173 :: z174 :: z175 :: z176 :: z177 :: z178 :: z179 :: z180 :: z181 :: z182 :: z183 :: z184 :: z185 :: z186 :: z187 :: z188 :: z189 :: z190 :: z191 :: z192 :: z193 :: z194 :: z195 :: z196 :: z197 :: z198 :: z199 :: z200 :: z201 :: z202 :: []).toArray, []⟩ w') : Code.wp Try.prog actSwitch Q ⟨(.pointer (some ⟨d, 0, none⟩) :: .pointer (some ⟨m, 0, none⟩) :: z2 :: z3 :: z4 :: .pointer (some ⟨X, 0, none⟩) :: .bool false :: .bool true :: z8 :: z9 :: z10 :: z11 :: z12 :: z13 :: z14 :: z15 :: z16 :: z17 :: .int .u8 5 :: z19 :: z20 :: z21 :: z22 :: z23 :: z24 :: z25 :: z26 :: z27 :: z28 :: z29 :: z30 :: z31 :: z32 :: z33 :: z34 :: z35 :: z36 :: z37 :: z38 :: z39 :: z40 :: z41 :: z42 :: z43 :: z44 :: z45 :: z46 :: z47 :: z48 :: z49 :: z50 :: z51 :: z52 :: z53 :: z54 :: z55 :: z56 :: z57 :: z58 :: z59 :: z60 :: z61 :: z62 :: z63 :: z64 :: z65 :: z66 :: z67 :: z68 :: z69 :: z70 :: z71 :: z72 :: z73 :: z74 :: z75 :: z76 :: z77 :: z78 :: z79 :: z80 :: z81 :: z82 :: z83 :: z84 :: z85 :: z86 :: z87 :: z88 :: z89 :: z90 :: z91 :: z92 :: z93 :: z94 :: z95 :: z96 :: z97 :: z98 :: z99 :: z100 :: z101 :: z102 :: z103 :: z104 :: z105 :: z106 :: z107 :: z108 :: z109 :: z110 :: z111 :: z112 :: z113 :: z114 :: z115 :: z116 :: z117 :: z118 :: z119 :: z120 :: z121 :: z122 :: z123 :: z124 :: z125 :: z126 :: z127 :: z128 :: z129 :: z130 :: z131 :: z132 :: z133 :: z134 :: z135 :: z136 :: z137 :: z138 :: z139 :: z140 :: z141 :: z142 :: z143 :: z144 :: z145 :: z146 :: z147 :: z148 :: z149 :: z150 :: z151 :: z152 :: z153 :: z154 :: z155 :: z156 :: z157 :: z158 :: z159 :: z160 :: z161 :: z162 :: z163 :: z164 :: z165 :: z166 :: z167 :: z168 :: z169 :: z170 :: z171 :: z172 :: z173 :: z174 :: z175 :: z176 :: z177 :: z178 :: z179 :: z180 :: z181 :: z182 :: z183 :: z184 :: z185 :: z186 :: z187 :: z188 :: z189 :: z190 :: z191 :: z192 :: z193 :: z194 :: z195 :: z196 :: z197 :: z198 :: z199 :: z200 :: z201 :: z202 :: []).toArray, []⟩ w := by
  conv => arg 2; whnf
  obtain ⟨e, c, HC⟩ := h.read (by omega) name
  have HC := Lib.hid HC
  have HQ := Lib.hid hq
  have HS := Lib.hid h
  have x1 := hX.cell 1
  have HX := Lib.hid hX
  clear h hq hX
  go_wp2_with (first
    | (go_at_call 54; refine (over_own w2 w.heap.size u c hO2 hB2).mono ?_; rintro r w3 ⟨rfl, ho3⟩)
    | (go_at_call 24; refine HSB.out.mono ?_; rintro r w2b ⟨rfl, hw2⟩; rw [← hw2]; clear hw2)
    | (go_at_call 60; refine HC2.out.mono ?_; rintro r w2 ⟨u2, rfl, hS2, hb2⟩; have hO2 : Own w2 w.heap.size u c := row_low hO1 hb2; have hB2 := hB1.low hb2; have HSB := Lib.hid (same_yes w2 u u2 c hO2.slice hS2))
    | (go_at_call 20; refine HC.out.mono ?_; rintro r w1 ⟨u, rfl, hO1, hB1, hb1, HC2⟩; have HC2 := Lib.hid (HC2 w1 (Below.refl _ _)); have hX1 := HX.out.below hb1 HX.out.lt; have x1 := hX1.cell 1)
    | fail)
  have hb12 : Below w.heap.size w w2 := hb1.trans (hb2.mono hb1.size)
  have hS3 : Sc W w3 B d m (fun i => i = X) ks rl j := HS.out.low (hb12.trans (ho3.below hb12.size fun i _ e => own_ge hO2 e))
  exact HQ.out _ _ _ _ _ _ _ _ _ _ _ _ _ _ _ _ _ _ _ _ _ _ _ _ _ _ _ _ _ _ _ _ _ _ _ _ _ _ _ _ _ _ _ _ _ _ _ _ _ _ _ _ _ _ _ _ _ _ _ _ _ _ _ _ _ _ _ _ _ _ _ _ _ _ _ _ _ _ _ _ _ _ _ _ _ _ _ _ _ _ _ _ _ _ _ _ _ _ _ _ _ _ _ _ _ _ _ _ _ _ _ _ _ _ _ _ _ _ _ _ _ _ _ _ _ _ _ _ _ _ _ _ _ _ _ _ _ _ _ _ _ _ _ _ _ _ _ _ _ _ _ _ _ _ _ _ _ _ _ _ _ (hS3.more (by omega)) (HX.out.below (hb12.trans (ho3.below hb12.size fun i _ e => own_ge hO2 e)) HX.out.lt)

end Go.Proofs.Ytmmlpbepaefamaa
