/- QuotaTrail: what Notes told is written over. -/
import Derived.Test.YtglcingpolpkdaaDoorQTail
namespace Go.Proofs.YtglcingpolpkdaaDoor
open Go.RowKit

/-- Each note of a list has a time that can be written. -/
def FlipN (w : World) (v : Value) (n : Nat) : Prop := ∀ i, i < n → ∃ g c d cur, v = .slice (some ⟨g, 0, none⟩) n c ∧ Whole w g 36 cur ∧ cur[i * 6]? = some (.int .i64 d)
theorem FlipN.of {w : World} {B : Nat} {v : Value} {l : List Nt} (h : w.ownsRow B 36 6 v l.length (l.flatMap Nt.cells)) : FlipN w v l.length := fun i hi => by
  obtain ⟨p, c, rfl⟩ := slice_of_row h
  obtain ⟨g, rfl, hr⟩ := own_at Nt.cells_length h (List.getElem?_eq_getElem hi)
  obtain ⟨cap, cur, he, hB, hW, _⟩ := own_full h rfl
  refine ⟨g, c, l[i].time, cur, rfl, hW, ?_⟩
  rw [← hW.cell]
  exact hr 0 _ rfl
theorem FlipN.step {w : World} {g c n k : Nat} {d : Int} (h : FlipN w (.slice (some ⟨g, 0, none⟩) n c) n) (hk : k < n) : FlipN (w.setCell ⟨g, k * 6, none⟩ (.int .i64 d)) (.slice (some ⟨g, 0, none⟩) n c) n := fun i hi => by
  obtain ⟨g1, c1, d1, cur, he, hW, hx⟩ := h i hi
  have hg : g = g1 := by
    injection he with he
    injection he with he
    injection he
  subst hg
  refine ⟨g, c, if i = k then d else d1, _, rfl, hW.put _ _, ?_⟩
  by_cases hik : i = k
  · subst hik
    rw [if_pos rfl, List.getElem?_set_self (List.getElem?_eq_some_iff.1 hx).1]
  · rw [if_neg hik, List.getElem?_set_ne (by omega)]
    exact hx

noncomputable def qturnCode : Code := subCode [1, 1, 1, 1, 1, 1, 1, 1, 1, 0] ((Tryd.f3.body).getD .skip)

set_option maxRecDepth 100000 in
set_option maxHeartbeats 4000000 in
theorem qturn_step {z0 z1 z2 z3 z4 z5 z6 z7 z8 z9 z10 z11 z12 z13 z14 z15 z16 z17 z18 z19 z20 z21 z22 z23 z24 z26 z27 z28 z29 z30 z31 z32 z33 z34 z35 z36 z37 z38 z39 z40 z41 z42 z43 z44 z45 z46 z47 z48 z49 z50 z51 z52 z53 z54 z55 z56 z57 z58 z59 z60 z61 z62 z63 z64 z65 z66 z67 z68 z69 z70 z71 z72 z73 z74 z75 z76 z77 z78 z79 z80 z81 z82 z83 z84 z85 z86 z87 z88 z89 z90 z91 z92 z93 z94 z95 z96 z97 z98 z99 z100 z101 z102 z103 z104 z105 z106 z107 z108 z109 z110 z111 z112 z113 z114 z115 z116 z117 z118 z119 z120 z121 z122 z123 z124 z125 z126 z127 z128 z129 z130 z131 z132 z133 z134 z135 z136 z137 z138 z139 z140 z141 z142 z143 z144 z145 z146 z147 z148 z149 z150 z151 z152 z153 z154 z155 z156 z157 z158 z159 z160 z161 z162 z163 z164 z165 z166 z167 z168 z169 z170 z171 z172 z173 z174 z175 z176 z177 z178 z179 z180 z181 z182 z183 z184 z185 z186 z187 z188 z189 z190 z191 z192 z193 z194 z195 z196 z197 z198 z199 z200 z201 z202 z203 z204 z205 z206 z207 z208 z209 z210 z211 z212 z213 z214 z215 z216 z217 z218 z219 z220 z221 z222 z223 z224 z225 z226 z227 z228 z229 z230 z231 z232 z233 z234 z235 z236 z237 z238 z239 z240 z241 z242 z243 z244 z245 z246 z247 z248 z249 z250 z251 z252 z253 z254 : Value} {w : World} {NP cv : Nat} {pv : Option Addr} (hF : FlipN w (.slice pv NP cv) NP) (hlen : NP ≤ 1000) {Q : Exit → Act → World → Prop}
    (hq : ∀ (y27 y215 y216 y217 y218 y219 y220 y221 y222 y223 y224 y225 y226 y227 y228 y229 y230 : Value) (w' : World), (Only w w' fun k => (Value.slice pv NP cv).ownBlock = some k) → Q .normal ⟨(z0 :: z1 :: z2 :: z3 :: z4 :: z5 :: z6 :: z7 :: z8 :: z9 :: z10 :: z11 :: z12 :: z13 :: z14 :: z15 :: z16 :: z17 :: z18 :: z19 :: z20 :: z21 :: z22 :: z23 :: z24 :: .slice pv NP cv :: z26 :: y27 :: z28 :: z29 :: z30 :: z31 :: z32 :: z33 :: z34 :: z35 :: z36 :: z37 :: z38 :: z39 :: z40 :: z41 :: z42 :: z43 :: z44 :: z45 :: z46 :: z47 :: z48 :: z49 :: z50 :: z51 :: z52 :: z53 :: z54 :: z55 :: z56 :: z57 :: z58 :: z59 :: z60 :: z61 :: z62 :: z63 :: z64 :: z65 :: z66 :: z67 :: z68 :: z69 :: z70 :: z71 :: z72 :: z73 :: z74 :: z75 :: z76 :: z77 :: z78 :: z79 :: z80 :: z81 :: z82 :: z83 :: z84 :: z85 :: z86 :: z87 :: z88 :: z89 :: z90 :: z91 :: z92 :: z93 :: z94 :: z95 :: z96 :: z97 :: z98 :: z99 :: z100 :: z101 :: z102 :: z103 :: z104 :: z105 :: z106 :: z107 :: z108 :: z109 :: z110 :: z111 :: z112 :: z113 :: z114 :: z115 :: z116 :: z117 :: z118 :: z119 :: z120 :: z121 :: z122 :: z123 :: z124 :: z125 :: z126 :: z127 :: z128 :: z129 :: z130 :: z131 :: z132 :: z133 :: z134 :: z135 :: z136 :: z137 :: z138 :: z139 :: z140 :: z141 :: z142 :: z143 :: z144 :: z145 :: z146 :: z147 :: z148 :: z149 :: z150 :: z151 :: z152 :: z153 :: z154 :: z155 :: z156 :: z157 :: z158 :: z159 :: z160 :: z161 :: z162 :: z163 :: z164 :: z165 :: z166 :: z167 :: z168 :: z169 :: z170 :: z171 :: z172 :: z173 :: z174 :: z175 :: z176 :: z177 :: z178 :: z179 :: z180 :: z181 :: z182 :: z183 :: z184 :: z185 :: z186 :: z187 :: z188 :: z189 :: z190 :: z191 :: z192 :: z193 :: z194 :: z195 :: z196 :: z197 :: z198 :: z199 :: z200 :: z201 :: z202 :: z203 :: z204 :: z205 :: z206 :: z207 :: z208 :: z209 :: z210 :: z211 :: z212 :: z213 :: z214 :: y215 :: y216 :: y217 :: y218 :: y219 :: y220 :: y221 :: y222 :: y223 :: y224 :: y225 :: y226 :: y227 :: y228 :: y229 :: y230 :: z231 :: z232 :: z233 :: z234 :: z235 :: z236 :: z237 :: z238 :: z239 :: z240 :: z241 :: z242 :: z243 :: z244 :: z245 :: z246 :: z247 :: z248 :: z249 :: z250 :: z251 :: z252 :: z253 :: z254 :: []).toArray, []⟩ w') : Code.wp Tryd.prog qturnCode Q ⟨(z0 :: z1 :: z2 :: z3 :: z4 :: z5 :: z6 :: z7 :: z8 :: z9 :: z10 :: z11 :: z12 :: z13 :: z14 :: z15 :: z16 :: z17 :: z18 :: z19 :: z20 :: z21 :: z22 :: z23 :: z24 :: .slice pv NP cv :: z26 :: z27 :: z28 :: z29 :: z30 :: z31 :: z32 :: z33 :: z34 :: z35 :: z36 :: z37 :: z38 :: z39 :: z40 :: z41 :: z42 :: z43 :: z44 :: z45 :: z46 :: z47 :: z48 :: z49 :: z50 :: z51 :: z52 :: z53 :: z54 :: z55 :: z56 :: z57 :: z58 :: z59 :: z60 :: z61 :: z62 :: z63 :: z64 :: z65 :: z66 :: z67 :: z68 :: z69 :: z70 :: z71 :: z72 :: z73 :: z74 :: z75 :: z76 :: z77 :: z78 :: z79 :: z80 :: z81 :: z82 :: z83 :: z84 :: z85 :: z86 :: z87 :: z88 :: z89 :: z90 :: z91 :: z92 :: z93 :: z94 :: z95 :: z96 :: z97 :: z98 :: z99 :: z100 :: z101 :: z102 :: z103 :: z104 :: z105 :: z106 :: z107 :: z108 :: z109 :: z110 :: z111 :: z112 :: z113 :: z114 :: z115 :: z116 :: z117 :: z118 :: z119 :: z120 :: z121 :: z122 :: z123 :: z124 :: z125 :: z126 :: z127 :: z128 :: z129 :: z130 :: z131 :: z132 :: z133 :: z134 :: z135 :: z136 :: z137 :: z138 :: z139 :: z140 :: z141 :: z142 :: z143 :: z144 :: z145 :: z146 :: z147 :: z148 :: z149 :: z150 :: z151 :: z152 :: z153 :: z154 :: z155 :: z156 :: z157 :: z158 :: z159 :: z160 :: z161 :: z162 :: z163 :: z164 :: z165 :: z166 :: z167 :: z168 :: z169 :: z170 :: z171 :: z172 :: z173 :: z174 :: z175 :: z176 :: z177 :: z178 :: z179 :: z180 :: z181 :: z182 :: z183 :: z184 :: z185 :: z186 :: z187 :: z188 :: z189 :: z190 :: z191 :: z192 :: z193 :: z194 :: z195 :: z196 :: z197 :: z198 :: z199 :: z200 :: z201 :: z202 :: z203 :: z204 :: z205 :: z206 :: z207 :: z208 :: z209 :: z210 :: z211 :: z212 :: z213 :: z214 :: z215 :: z216 :: z217 :: z218 :: z219 :: z220 :: z221 :: z222 :: z223 :: z224 :: z225 :: z226 :: z227 :: z228 :: z229 :: z230 :: z231 :: z232 :: z233 :: z234 :: z235 :: z236 :: z237 :: z238 :: z239 :: z240 :: z241 :: z242 :: z243 :: z244 :: z245 :: z246 :: z247 :: z248 :: z249 :: z250 :: z251 :: z252 :: z253 :: z254 :: []).toArray, []⟩ w := by
  conv => arg 2; whnf
  have HQ := Lib.hid hq
  clear hq
  go_wp2
  go_loopw [27] (fun i wr => ∃ k : Nat, k ≤ NP ∧ i = .int .i64 k ∧ FlipN wr (.slice pv NP cv) NP ∧ Only w wr fun k => (Value.slice pv NP cv).ownBlock = some k) (fun i _ => NP - (intOf i).toNat)
  case atStart => exact ⟨0, by omega, rfl, hF, Only.of_below (Below.refl _ _) _⟩
  case round =>
    clear hF
    obtain ⟨k, hk, rfl, hF, hO⟩ := hrel
    by_cases hlt : k < NP
    · have i1 : (k : Int) < (NP : Int) := by omega
      have i2 : 0 ≤ (k : Int) ∧ (k : Int) < (NP : Int) := by omega
      have b2 : IntKind.i64.wrap ((k : Int) + 1) = (k : Int) + 1 := IntWalk.i64_in _ (by omega)
      obtain ⟨gl, c1, d, cur, he, hW, hx⟩ := hF k hlt
      have he : pv = some ⟨gl, 0, none⟩ := by injection he
      subst he
      have c0 : wr.cell? ⟨gl, k * 6, none⟩ = some (.int .i64 d) := hW.cell_of hx
      have hfree := hW.free (k * 6)
      have HF := Lib.hid hF
      clear hx hW hF he
      go_wp2
      go_roundw
      case rel => exact ⟨k + 1, by omega, by go_num, HF.out.step hlt, (hO.trans (Only.set wr ⟨gl, k * 6, none⟩ _)).weak fun i _ hi => hi.elim id fun e => by rw [e]; rfl⟩
      case measure => simp [intOf]; omega
    · obtain rfl : k = NP := by omega
      have i1 : ¬ (k : Int) < (k : Int) := by omega
      go_wp2
      exact HQ.out _ _ _ _ _ _ _ _ _ _ _ _ _ _ _ _ _ _ hO

end Go.Proofs.YtglcingpolpkdaaDoor
