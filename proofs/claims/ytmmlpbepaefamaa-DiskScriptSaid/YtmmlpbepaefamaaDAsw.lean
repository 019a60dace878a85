/- act: a call of any kind. -/
import Derived.Test.YtmmlpbepaefamaaDAa
import Derived.Test.YtmmlpbepaefamaaDAc
import Derived.Test.YtmmlpbepaefamaaDAr
namespace Go.Proofs.Ytmmlpbepaefamaa
open Go.RowKit

set_option maxRecDepth 100000 in
set_option maxHeartbeats 4000000 in
theorem act_switch {z2 z3 z4 z8 z9 z10 z11 z12 z13 z14 z15 z16 z17 z19 z20 z21 z22 z23 z24 z25 z26 z27 z28 z29 z30 z31 z32 z33 z34 z35 z36 z37 z38 z39 z40 z41 z42 z43 z44 z45 z46 z47 z48 z49 z50 z51 z52 z53 z54 z55 z56 z57 z58 z59 z60 z61 z62 z63 z64 z65 z66 z67 z68 z69 z70 z71 z72 z73 z74 z75 z76 z77 z78 z79 z80 z81 z82 z83 z84 z85 z86 z87 z88 z89 z90 z91 z92 z93 z94 z95 z96 z97 z98 z99 z100 z101 z102 z103 z104 z105 z106 z107 z108 z109 z110 z111 z112 z113 z114 z115 z116 z117 z118 z119 z120 z121 z122 z123 z124 z125 z126 z127 z128 z129 z130 z131 z132 z133 z134 z135 z136 z137 z138 z139 z140 z141 z142 z143 z144 z145 z146 z147 z148 z149 z150 z151 z152 z153 z154 z155 z156 z157 z158 z159 z160 z161 z162 z163 z164 z165 z166 z167 z168 z169 z170 z171 z172 z173 z174 z175 z176 z177 z178 z179 z180 z181 z182 z183 z184 z185 z186 z187 z188 z189 z190 z191 z192 z193 z194 z195 z196 z197 z198 z199 z200 z201 z202 : Value} (W w : World) (B d m X : Nat) (ks rl : List Int) (j : Nat) (kind : Int) (name dst : ByteArray) (bv : Value) (z : Int) (kv : Value) (b : List (BitVec 8)) (ks0 : List Kp) (hb : SliceIs W bv b) (hbl : b.length ≤ 1000000000) (hs : name.size ≤ 1000) (hd : dst.size ≤ 1000) (hz : z ≤ 9223372036854775807) (hk : KeepSrc W kv ks0) (hkl : ks0.length ≤ 40) (h : Sc W w B d m (fun i => i = X) ks rl j) (hX : Whole w X 63 [.int .u8 kind, .string name, .string dst, bv, .int .i64 z, kv]) (hf : Fx ks rl) (hj : j ≤ 800) {Q : Exit → Act → World → Prop}
    (hq : ∀ (y8 y9 y10 y11 y12 y13 y14 y15 y19 y20 y21 y22 y23 y24 y25 y26 y27 y28 y29 y30 y31 y32 y33 y34 y35 y36 y37 y38 y39 y40 y41 y42 y43 y44 y45 y46 y47 y48 y49 y50 y51 y52 y53 y54 y55 y56 y57 y58 y59 y60 y61 y62 y63 y64 y65 y66 y67 y68 y69 y70 y71 y72 y73 y74 y75 y76 y77 y78 y79 y80 y81 y82 y83 y84 y85 y86 y87 y88 y89 y90 y91 y92 y93 y94 y95 y96 y97 y98 y99 y100 y101 y102 y103 y104 y105 y106 y107 y108 y109 y110 y111 y112 y113 y114 y115 y116 y117 y118 y119 y120 y121 y122 y123 y124 y125 y126 y127 y128 y129 y130 y131 y132 y133 y134 y135 y136 y137 y138 y139 y140 y141 y142 y143 y144 y145 y146 y147 y148 y149 y150 y151 y152 y153 y154 y155 y156 y157 y158 y159 y160 y161 y162 y163 y164 y165 y166 y167 y168 y169 y170 : Value) (w' : World), Sc W w' B d m (fun i => i = X) ks rl (j + 1) → Whole w' X 63 [.int .u8 kind, .string name, .string dst, bv, .int .i64 z, kv] → Q .normal ⟨(.pointer (some ⟨d, 0, none⟩) :: .pointer (some ⟨m, 0, none⟩) :: z2 :: z3 :: z4 :: .pointer (some ⟨X, 0, none⟩) :: .bool false :: .bool true :: y8 :: y9 :: y10 :: y11 :: y12 :: y13 :: y14 :: y15 :: z16 :: z17 :: .int .u8 kind :: y19 :: y20 :: y21 :: y22 :: y23 :: y24 :: y25 :: y26 :: y27 :: y28 :: y29 :: y30 :: y31 :: y32 :: y33 :: y34 :: y35 :: y36 :: y37 :: y38 :: y39 :: y40 :: y41 :: y42 :: y43 :: y44 :: y45 :: y46 :: y47 :: y48 :: y49 :: y50 :: y51 :: y52 :: y53 :: y54 :: y55 :: y56 :: y57 :: y58 :: y59 :: y60 :: y61 :: y62 :: y63 :: y64 :: y65 :: y66 :: y67 :: y68 :: y69 :: y70 :: y71 :: y72 :: y73 :: y74 :: y75 :: y76 :: y77 :: y78 :: y79 :: y80 :: y81 :: y82 :: y83 :: y84 :: y85 :: y86 :: y87 :: y88 :: y89 :: y90 :: y91 :: y92 :: y93 :: y94 :: y95 :: y96 :: y97 :: y98 :: y99 :: y100 :: y101 :: y102 :: y103 :: y104 :: y105 :: y106 :: y107 :: y108 :: y109 :: y110 :: y111 :: y112 :: y113 :: y114 :: y115 :: y116 :: y117 :: y118 :: y119 :: y120 :: y121 :: y122 :: y123 :: y124 :: y125 :: y126 :: y127 :: y128 :: y129 :: y130 :: y131 :: y132 :: y133 :: y134 :: y135 :: y136 :: y137 :: y138 :: y139 :: y140 :: y141 :: y142 :: y143 :: y144 :: y145 :: y146 :: y147 :: y148 :: y149 :: y150 :: y151 :: y152 :: y153 :: y154 :: y155 :: y156 :: y157 :: y158 :: y159 :: y160 :: y161 :: y162 :: y163 :: y164 :: y165 :: y166 :: y167 :: y168 :: y169 :: y170 :: z171 :: z172 :: z173 :: z174 :: z175 :: z176 :: z177 :: z178 :: z179 :: z180 :: z181 :: z182 :: z183 :: z184 :: z185 :: z186 :: z187 :: z188 :: z189 :: z190 :: z191 :: z192 :: z193 :: z194 :: z195 :: z196 :: z197 :: z198 :: z199 :: z200 :: z201 :: z202 :: []).toArray, []⟩ w') : Code.wp Try.prog actSwitch Q ⟨(.pointer (some ⟨d, 0, none⟩) :: .pointer (some ⟨m, 0, none⟩) :: z2 :: z3 :: z4 :: .pointer (some ⟨X, 0, none⟩) :: .bool false :: .bool true :: z8 :: z9 :: z10 :: z11 :: z12 :: z13 :: z14 :: z15 :: z16 :: z17 :: .int .u8 kind :: z19 :: z20 :: z21 :: z22 :: z23 :: z24 :: z25 :: z26 :: z27 :: z28 :: z29 :: z30 :: z31 :: z32 :: z33 :: z34 :: z35 :: z36 :: z37 :: z38 :: z39 :: z40 :: z41 :: z42 :: z43 :: z44 :: z45 :: z46 :: z47 :: z48 :: z49 :: z50 :: z51 :: z52 :: z53 :: z54 :: z55 :: z56 :: z57 :: z58 :: z59 :: z60 :: z61 :: z62 :: z63 :: z64 :: z65 :: z66 :: z67 :: z68 :: z69 :: z70 :: z71 :: z72 :: z73 :: z74 :: z75 :: z76 :: z77 :: z78 :: z79 :: z80 :: z81 :: z82 :: z83 :: z84 :: z85 :: z86 :: z87 :: z88 :: z89 :: z90 :: z91 :: z92 :: z93 :: z94 :: z95 :: z96 :: z97 :: z98 :: z99 :: z100 :: z101 :: z102 :: z103 :: z104 :: z105 :: z106 :: z107 :: z108 :: z109 :: z110 :: z111 :: z112 :: z113 :: z114 :: z115 :: z116 :: z117 :: z118 :: z119 :: z120 :: z121 :: z122 :: z123 :: z124 :: z125 :: z126 :: z127 :: z128 :: z129 :: z130 :: z131 :: z132 :: z133 :: z134 :: z135 :: z136 :: z137 :: z138 :: z139 :: z140 :: z141 :: z142 :: z143 :: z144 :: z145 :: z146 :: z147 :: z148 :: z149 :: z150 :: z151 :: z152 :: z153 :: z154 :: z155 :: z156 :: z157 :: z158 :: z159 :: z160 :: z161 :: z162 :: z163 :: z164 :: z165 :: z166 :: z167 :: z168 :: z169 :: z170 :: z171 :: z172 :: z173 :: z174 :: z175 :: z176 :: z177 :: z178 :: z179 :: z180 :: z181 :: z182 :: z183 :: z184 :: z185 :: z186 :: z187 :: z188 :: z189 :: z190 :: z191 :: z192 :: z193 :: z194 :: z195 :: z196 :: z197 :: z198 :: z199 :: z200 :: z201 :: z202 :: []).toArray, []⟩ w := by
  by_cases h0 : kind = 0
  · subst h0
    exact act_k0 W w B d m X ks rl j name dst bv z kv b hb hbl hs h hX hf hj hq
  by_cases h1 : kind = 1
  · subst h1
    exact act_k1 W w B d m X ks rl j name dst bv z kv h hX hf hj hq
  by_cases h2 : kind = 2
  · subst h2
    exact act_k2 W w B d m X ks rl j name dst bv z kv h hX hf hj hq
  by_cases h3 : kind = 3
  · subst h3
    exact act_k3 W w B d m X ks rl j name dst bv z kv (by omega) h hX hf hj hq
  by_cases h4 : kind = 4
  · subst h4
    exact act_k4 W w B d m X ks rl j name dst bv z kv h hX hf hj hq
  by_cases h5 : kind = 5
  · subst h5
    exact act_k5 W w B d m X ks rl j name dst bv z kv h hX hj hq
  by_cases h6 : kind = 6
  · subst h6
    exact act_k6 W w B d m X ks rl j name dst bv z kv ks0 hk hkl h hX hj hq
  by_cases h7 : kind = 7
  · subst h7
    exact act_k7 W w B d m X ks rl j name dst bv z kv hz h hX hj hq
  exact act_other W w B d m X ks rl j kind name dst bv z kv h0 h1 h2 h3 h4 h5 h6 h7 h hX hq

end Go.Proofs.Ytmmlpbepaefamaa
