/- QuotaTrail: what At and Notes tell is held against the reference's notes. -/
import Derived.Test.YtglcingpolpkdaaDoorQRound
namespace Go.Proofs.YtglcingpolpkdaaDoor
open Go.RowKit

theorem wp_build_as {P : Program} {o : Oper} {a : Act} {w : World} {K : Act → World → Prop} {Q : Exit → Act → World → Prop} (t : TypeId) (parts : Array (Nat × Operand)) (ho : o.op = .build t parts)
    (cells : Array Value) (hb : P.built t (parts.map fun (i, x) => (i, a.eval x)).toList = some cells) (h : K (a.put o.dst (.agg cells)) w) : o.wp P a w K Q := by
  unfold Oper.wp execOp
  simp only [ho, Sem.run_bind, run_build w t _ cells hb, Result.andThen_ok, Sem.run_pure]
  exact h
theorem eqlIn_zeroN (w : World) : (Op.equalIn 10000 36 (.agg zeroNote.toArray) (.agg zeroNote.toArray)).run Tryd.prog w = .ok true w := by
  have := eqlIn_note w zeroNt zeroNt
  rw [(eqN_iff _ _).2 rfl] at this
  exact this
theorem eqlIn_zeroD (w : World) : (Op.equalIn 10000 24 (.agg (zeroNums .u8 32).toArray) (.agg (zeroNums .u8 32).toArray)).run Tryd.prog w = .ok true w := by
  have := eqlIn_dg w zeroG zeroG
  rw [eqD_self, zeroG_vs] at this
  exact this
theorem neq_zeroD (w : World) : (binOp .neq 24 (.agg (zeroNums .u8 32).toArray) (.agg (zeroNums .u8 32).toArray)).run Tryd.prog w = .ok (.bool false) w := by
  have := neq_dg w zeroG
  rw [zeroG_vs] at this
  exact this

noncomputable def q16Code : Code := subCode [1, 1, 1, 1, 1, 1, 0] ((Tryd.f3.body).getD .skip)

set_option maxRecDepth 100000 in
set_option maxHeartbeats 4000000 in
theorem q16_step {z0 z1 z2 z4 z5 z6 z7 z8 z9 z10 z11 z13 z14 z15 z16 z17 z18 z19 z20 z21 z25 z26 z27 z28 z29 z30 z31 z32 z33 z34 z35 z36 z37 z38 z39 z40 z41 z42 z43 z44 z45 z46 z47 z48 z49 z50 z51 z52 z53 z54 z55 z56 z57 z58 z59 z60 z61 z62 z63 z64 z65 z66 z67 z68 z69 z70 z71 z72 z73 z74 z75 z76 z77 z78 z79 z80 z81 z82 z83 z84 z85 z86 z87 z88 z89 z90 z91 z92 z93 z94 z95 z96 z97 z98 z99 z100 z101 z102 z103 z104 z105 z106 z107 z108 z109 z110 z111 z112 z113 z114 z115 z116 z117 z118 z119 z120 z121 z122 z123 z124 z125 z126 z127 z128 z129 z130 z131 z132 z133 z134 z135 z136 z137 z138 z139 z140 z141 z142 z143 z144 z145 z146 z147 z148 z149 z150 z151 z152 z153 z154 z155 z156 z157 z158 z159 z160 z161 z162 z163 z164 z165 z166 z167 z168 z169 z170 z171 z172 z173 z174 z175 z176 z177 z178 z179 z180 z181 z182 z183 z184 z185 z186 z187 z188 z189 z190 z191 z192 z193 z194 z195 z196 z197 z198 z199 z200 z201 z202 z203 z204 z205 z206 z207 z208 z209 z210 z211 z212 z213 z214 z215 z216 z217 z218 z219 z220 z221 z222 z223 z224 z225 z226 z227 z228 z229 z230 z231 z232 z233 z234 z235 z236 z237 z238 z239 z240 z241 z242 z243 z244 z245 z246 z247 z248 z249 z250 z251 z252 z253 z254 : Value} {W w : World} {RB NM cr NB DB : Nat} {pr : Option Addr} {M : List Nt} {n : Nt} {E : Dg} {f C : Int} (hS : QA W w RB (.slice pr NM cr) M NB DB n E) (hM : M.length = NM) (hlen : NM ≤ 1000) (hok : ∀ m ∈ M, nextOk m = true) (hat : atT M f = (n, E, C)) {Q : Exit → Act → World → Prop}
    (hq : ∀ (y127 y128 y129 y130 y131 y132 y133 y134 y135 y136 y137 y138 y139 y140 y141 y142 y143 y144 y145 y146 y147 y148 y149 y150 y151 y152 y153 y154 y155 y156 y157 y158 y159 y160 y161 y162 y163 y164 y165 y166 y167 y168 y169 y170 : Value) (w' : World), Below w.heap.size w w' → Q .normal ⟨(z0 :: z1 :: z2 :: .int .i64 f :: z4 :: z5 :: z6 :: z7 :: z8 :: z9 :: z10 :: z11 :: .pointer (some ⟨RB, 0, none⟩) :: z13 :: z14 :: z15 :: z16 :: z17 :: z18 :: z19 :: z20 :: z21 :: .pointer (some ⟨NB, 0, none⟩) :: .pointer (some ⟨DB, 0, none⟩) :: .int .i64 C :: z25 :: z26 :: z27 :: z28 :: z29 :: z30 :: z31 :: z32 :: z33 :: z34 :: z35 :: z36 :: z37 :: z38 :: z39 :: z40 :: z41 :: z42 :: z43 :: z44 :: z45 :: z46 :: z47 :: z48 :: z49 :: z50 :: z51 :: z52 :: z53 :: z54 :: z55 :: z56 :: z57 :: z58 :: z59 :: z60 :: z61 :: z62 :: z63 :: z64 :: z65 :: z66 :: z67 :: z68 :: z69 :: z70 :: z71 :: z72 :: z73 :: z74 :: z75 :: z76 :: z77 :: z78 :: z79 :: z80 :: z81 :: z82 :: z83 :: z84 :: z85 :: z86 :: z87 :: z88 :: z89 :: z90 :: z91 :: z92 :: z93 :: z94 :: z95 :: z96 :: z97 :: z98 :: z99 :: z100 :: z101 :: z102 :: z103 :: z104 :: z105 :: z106 :: z107 :: z108 :: z109 :: z110 :: z111 :: z112 :: z113 :: z114 :: z115 :: z116 :: z117 :: z118 :: z119 :: z120 :: z121 :: z122 :: z123 :: z124 :: z125 :: z126 :: y127 :: y128 :: y129 :: y130 :: y131 :: y132 :: y133 :: y134 :: y135 :: y136 :: y137 :: y138 :: y139 :: y140 :: y141 :: y142 :: y143 :: y144 :: y145 :: y146 :: y147 :: y148 :: y149 :: y150 :: y151 :: y152 :: y153 :: y154 :: y155 :: y156 :: y157 :: y158 :: y159 :: y160 :: y161 :: y162 :: y163 :: y164 :: y165 :: y166 :: y167 :: y168 :: y169 :: y170 :: z171 :: z172 :: z173 :: z174 :: z175 :: z176 :: z177 :: z178 :: z179 :: z180 :: z181 :: z182 :: z183 :: z184 :: z185 :: z186 :: z187 :: z188 :: z189 :: z190 :: z191 :: z192 :: z193 :: z194 :: z195 :: z196 :: z197 :: z198 :: z199 :: z200 :: z201 :: z202 :: z203 :: z204 :: z205 :: z206 :: z207 :: z208 :: z209 :: z210 :: z211 :: z212 :: z213 :: z214 :: z215 :: z216 :: z217 :: z218 :: z219 :: z220 :: z221 :: z222 :: z223 :: z224 :: z225 :: z226 :: z227 :: z228 :: z229 :: z230 :: z231 :: z232 :: z233 :: z234 :: z235 :: z236 :: z237 :: z238 :: z239 :: z240 :: z241 :: z242 :: z243 :: z244 :: z245 :: z246 :: z247 :: z248 :: z249 :: z250 :: z251 :: z252 :: z253 :: z254 :: []).toArray, []⟩ w') : Code.wp Tryd.prog q16Code Q ⟨(z0 :: z1 :: z2 :: .int .i64 f :: z4 :: z5 :: z6 :: z7 :: z8 :: z9 :: z10 :: z11 :: .pointer (some ⟨RB, 0, none⟩) :: z13 :: z14 :: z15 :: z16 :: z17 :: z18 :: z19 :: z20 :: z21 :: .pointer (some ⟨NB, 0, none⟩) :: .pointer (some ⟨DB, 0, none⟩) :: .int .i64 C :: z25 :: z26 :: z27 :: z28 :: z29 :: z30 :: z31 :: z32 :: z33 :: z34 :: z35 :: z36 :: z37 :: z38 :: z39 :: z40 :: z41 :: z42 :: z43 :: z44 :: z45 :: z46 :: z47 :: z48 :: z49 :: z50 :: z51 :: z52 :: z53 :: z54 :: z55 :: z56 :: z57 :: z58 :: z59 :: z60 :: z61 :: z62 :: z63 :: z64 :: z65 :: z66 :: z67 :: z68 :: z69 :: z70 :: z71 :: z72 :: z73 :: z74 :: z75 :: z76 :: z77 :: z78 :: z79 :: z80 :: z81 :: z82 :: z83 :: z84 :: z85 :: z86 :: z87 :: z88 :: z89 :: z90 :: z91 :: z92 :: z93 :: z94 :: z95 :: z96 :: z97 :: z98 :: z99 :: z100 :: z101 :: z102 :: z103 :: z104 :: z105 :: z106 :: z107 :: z108 :: z109 :: z110 :: z111 :: z112 :: z113 :: z114 :: z115 :: z116 :: z117 :: z118 :: z119 :: z120 :: z121 :: z122 :: z123 :: z124 :: z125 :: z126 :: z127 :: z128 :: z129 :: z130 :: z131 :: z132 :: z133 :: z134 :: z135 :: z136 :: z137 :: z138 :: z139 :: z140 :: z141 :: z142 :: z143 :: z144 :: z145 :: z146 :: z147 :: z148 :: z149 :: z150 :: z151 :: z152 :: z153 :: z154 :: z155 :: z156 :: z157 :: z158 :: z159 :: z160 :: z161 :: z162 :: z163 :: z164 :: z165 :: z166 :: z167 :: z168 :: z169 :: z170 :: z171 :: z172 :: z173 :: z174 :: z175 :: z176 :: z177 :: z178 :: z179 :: z180 :: z181 :: z182 :: z183 :: z184 :: z185 :: z186 :: z187 :: z188 :: z189 :: z190 :: z191 :: z192 :: z193 :: z194 :: z195 :: z196 :: z197 :: z198 :: z199 :: z200 :: z201 :: z202 :: z203 :: z204 :: z205 :: z206 :: z207 :: z208 :: z209 :: z210 :: z211 :: z212 :: z213 :: z214 :: z215 :: z216 :: z217 :: z218 :: z219 :: z220 :: z221 :: z222 :: z223 :: z224 :: z225 :: z226 :: z227 :: z228 :: z229 :: z230 :: z231 :: z232 :: z233 :: z234 :: z235 :: z236 :: z237 :: z238 :: z239 :: z240 :: z241 :: z242 :: z243 :: z244 :: z245 :: z246 :: z247 :: z248 :: z249 :: z250 :: z251 :: z252 :: z253 :: z254 :: []).toArray, []⟩ w := by
  conv => arg 2; whnf
  have HQ := Lib.hid hq
  clear hq
  have c0 := hS.rr.box.cell 0
  by_cases hb : f < 0 ∨ (NM : Int) ≤ f
  · have hz : atT M f = (zeroNt, zeroG, 2) := by
      unfold atT
      by_cases h0 : 0 ≤ f
      · rw [if_pos h0, List.getElem?_eq_none (by omega)]
      · rw [if_neg h0]
    rw [hz] at hat
    injection hat with h1 h2
    injection h2 with h2 h3
    subst h1 h2 h3
    have hN : Whole w NB 36 zeroNote := hS.note
    have hD : Whole w DB 24 (zeroNums .u8 32) := by rw [← zeroG_vs]; exact hS.head
    have e1 := eqlIn_zeroN
    have e2 := eqlIn_zeroD
    have e3 := neq_zeroD
    have hgd : Tryd.prog.eqGuardType Tryd.prog.depth 24 = false := by kernel_rfl
    have hgn := guard_note
    have i5 : ((2 : Int) != 2) = false := rfl
    clear hS hz hok hM
    by_cases h0 : f < 0
    · clear hb
      go_wp2_with (first
      | (refine BigFrame.wpList_want (by rfl) fun K hK => wp_load_mid 24 _ (by rfl) DB 0 (by rfl) (zeroNums .u8 32) _ (whole_rangeG hD) Tryd.underlying24 (by rfl) (by rw [size_d]; rfl) (hK _ _ ?_))
      | (refine BigFrame.wpList_want (by rfl) fun K hK => wp_build_as 24 _ (by rfl) (zeroNums .u8 32).toArray (by kernel_rfl) (hK _ _ ?_))
      | (refine wpList_build_as (by rfl) 36 _ (by rfl) zeroNote.toArray (by kernel_rfl) ?_)
      | (refine wpList_load_mid (by rfl) 36 _ (by rfl) NB 0 (by rfl) zeroNote _ (whole_rangeG hN) Tryd.underlying36 (by rfl) (by rw [size_n]; rfl) ?_)
      | fail)
      exact HQ.out _ _ _ _ _ _ _ _ _ _ _ _ _ _ _ _ _ _ _ _ _ _ _ _ _ _ _ _ _ _ _ _ _ _ _ _ _ _ _ _ _ _ _ _ _ (Below.refl _ _)
    · have h1 : (NM : Int) ≤ f := hb.resolve_left h0
      clear hb
      go_wp2_with (first
      | (refine BigFrame.wpList_want (by rfl) fun K hK => wp_load_mid 24 _ (by rfl) DB 0 (by rfl) (zeroNums .u8 32) _ (whole_rangeG hD) Tryd.underlying24 (by rfl) (by rw [size_d]; rfl) (hK _ _ ?_))
      | (refine BigFrame.wpList_want (by rfl) fun K hK => wp_build_as 24 _ (by rfl) (zeroNums .u8 32).toArray (by kernel_rfl) (hK _ _ ?_))
      | (refine wpList_build_as (by rfl) 36 _ (by rfl) zeroNote.toArray (by kernel_rfl) ?_)
      | (refine wpList_load_mid (by rfl) 36 _ (by rfl) NB 0 (by rfl) zeroNote _ (whole_rangeG hN) Tryd.underlying36 (by rfl) (by rw [size_n]; rfl) ?_)
      | fail)
      exact HQ.out _ _ _ _ _ _ _ _ _ _ _ _ _ _ _ _ _ _ _ _ _ _ _ _ _ _ _ _ _ _ _ _ _ _ _ _ _ _ _ _ _ _ _ _ _ (Below.refl _ _)
  · obtain ⟨k, rfl⟩ := Int.eq_ofNat_of_zero_le (show 0 ≤ f by omega)
    obtain ⟨m, hm⟩ : ∃ m, M[k]? = some m := ⟨_, List.getElem?_eq_getElem (by omega)⟩
    have hz : atT M k = (m, headG (M.take (k + 1)), 0) := by
      unfold atT
      rw [if_pos (by omega), Int.toNat_natCast, hm]
    rw [hz] at hat
    injection hat with h1 h2
    injection h2 with h2 h3
    subst h1 h3
    obtain ⟨g, rfl⟩ : ∃ g, pr = some ⟨g, 0, none⟩ := by
      have hr := hS.rr
      rw [← hM] at hr
      obtain ⟨g, hg, _⟩ := hr.note hm
      exact ⟨g, hg⟩
    have i1 : ¬ (k : Int) < 0 := by omega
    have i2 : ¬ (NM : Int) ≤ (k : Int) := by omega
    go_upto_region 19 with fail
    clear c0
    refine qat_step hS hM hlen hok hm h2 ?_
    intro _ _ _ _ _ _ _ _ _ _ _ _ _ _ _ _ _ _ _ _ w2 _ hb2
    go_wp2
    exact HQ.out _ _ _ _ _ _ _ _ _ _ _ _ _ _ _ _ _ _ _ _ _ _ _ _ _ _ _ _ _ _ _ _ _ _ _ _ _ _ _ _ _ _ _ _ _ hb2

/-- A part of the reference's notes. -/
theorem TrR.part {W w : World} {rb g c a b : Nat} {ns : List Nt} (h : TrR W w rb (.slice (some ⟨g, 0, none⟩) ns.length c) ns) (ha : a ≤ b) (hb : b ≤ ns.length) (hc : ns.length ≤ c) :
    NotesAt w (.slice (if c = a then some ⟨g, 0, none⟩ else some ⟨g, a * 6, none⟩) (b - a) (c - a)) ((ns.drop a).take (b - a)) := by
  have hl : ((ns.drop a).take (b - a)).length = b - a := by
    rw [List.length_take, List.length_drop]
    omega
  by_cases hz : b - a = 0
  · rw [hz, List.take_zero]
    exact .inl ⟨_, _, rfl, rfl⟩
  · rw [if_neg (by omega)]
    obtain ⟨n, hn⟩ : ∃ n, ns[a]? = some n := ⟨_, List.getElem?_eq_getElem (by omega)⟩
    refine .inr ⟨g, a * 6, c - a, by rw [hl], ?_, fun i m hm => ?_⟩
    · exact cell_lt (a := ⟨g, a * 6 + 0, none⟩) (h.note_at hn 0 _ rfl)
    · have hi : i < b - a := by
        have := (List.getElem?_eq_some_iff.1 hm).1
        omega
      rw [List.getElem?_take, if_pos hi, List.getElem?_drop] at hm
      have := h.note_at hm
      rwa [Nat.add_mul] at this

noncomputable def q22Code : Code := subCode [1, 1, 1, 1, 1, 1, 1, 1, 0] ((Tryd.f3.body).getD .skip)

set_option maxRecDepth 100000 in
set_option maxHeartbeats 4000000 in
theorem q22_step {z0 z1 z2 z5 z6 z7 z8 z9 z10 z11 z13 z14 z15 z16 z17 z18 z19 z20 z21 z22 z23 z24 z27 z28 z29 z30 z31 z32 z33 z34 z35 z36 z37 z38 z39 z40 z41 z42 z43 z44 z45 z46 z47 z48 z49 z50 z51 z52 z53 z54 z55 z56 z57 z58 z59 z60 z61 z62 z63 z64 z65 z66 z67 z68 z69 z70 z71 z72 z73 z74 z75 z76 z77 z78 z79 z80 z81 z82 z83 z84 z85 z86 z87 z88 z89 z90 z91 z92 z93 z94 z95 z96 z97 z98 z99 z100 z101 z102 z103 z104 z105 z106 z107 z108 z109 z110 z111 z112 z113 z114 z115 z116 z117 z118 z119 z120 z121 z122 z123 z124 z125 z126 z127 z128 z129 z130 z131 z132 z133 z134 z135 z136 z137 z138 z139 z140 z141 z142 z143 z144 z145 z146 z147 z148 z149 z150 z151 z152 z153 z154 z155 z156 z157 z158 z159 z160 z161 z162 z163 z164 z165 z166 z167 z168 z169 z170 z171 z172 z173 z174 z175 z176 z177 z178 z179 z180 z181 z182 z183 z184 z185 z186 z187 z188 z189 z190 z191 z192 z193 z194 z195 z196 z197 z198 z199 z200 z201 z202 z203 z204 z205 z206 z207 z208 z209 z210 z211 z212 z213 z214 z215 z216 z217 z218 z219 z220 z221 z222 z223 z224 z225 z226 z227 z228 z229 z230 z231 z232 z233 z234 z235 z236 z237 z238 z239 z240 z241 z242 z243 z244 z245 z246 z247 z248 z249 z250 z251 z252 z253 z254 : Value} {W w : World} {RB NM cr NP cv : Nat} {pr pv : Option Addr} {M P : List Nt} {f t C : Int} (hR : TrR W w RB (.slice pr NM cr) M) (hM : M.length = NM) (hlen : NM ≤ 1000) (hn : notesT M f t = (P, C)) (hv : NotesAt w (.slice pv NP cv) P) (hP : P.length = NP) {Q : Exit → Act → World → Prop}
    (hq : ∀ (y178 y179 y180 y181 y182 y183 y184 y185 y186 y187 y188 y189 y190 y191 y192 y193 y194 y195 y196 y197 y198 y199 y200 y201 y202 y203 y204 y205 y206 y207 y208 y209 y210 y211 y212 y213 y214 : Value) (w' : World), Below w.heap.size w w' → Q .normal ⟨(z0 :: z1 :: z2 :: .int .i64 f :: .int .i64 t :: z5 :: z6 :: z7 :: z8 :: z9 :: z10 :: z11 :: .pointer (some ⟨RB, 0, none⟩) :: z13 :: z14 :: z15 :: z16 :: z17 :: z18 :: z19 :: z20 :: z21 :: z22 :: z23 :: z24 :: .slice pv NP cv :: .int .i64 C :: z27 :: z28 :: z29 :: z30 :: z31 :: z32 :: z33 :: z34 :: z35 :: z36 :: z37 :: z38 :: z39 :: z40 :: z41 :: z42 :: z43 :: z44 :: z45 :: z46 :: z47 :: z48 :: z49 :: z50 :: z51 :: z52 :: z53 :: z54 :: z55 :: z56 :: z57 :: z58 :: z59 :: z60 :: z61 :: z62 :: z63 :: z64 :: z65 :: z66 :: z67 :: z68 :: z69 :: z70 :: z71 :: z72 :: z73 :: z74 :: z75 :: z76 :: z77 :: z78 :: z79 :: z80 :: z81 :: z82 :: z83 :: z84 :: z85 :: z86 :: z87 :: z88 :: z89 :: z90 :: z91 :: z92 :: z93 :: z94 :: z95 :: z96 :: z97 :: z98 :: z99 :: z100 :: z101 :: z102 :: z103 :: z104 :: z105 :: z106 :: z107 :: z108 :: z109 :: z110 :: z111 :: z112 :: z113 :: z114 :: z115 :: z116 :: z117 :: z118 :: z119 :: z120 :: z121 :: z122 :: z123 :: z124 :: z125 :: z126 :: z127 :: z128 :: z129 :: z130 :: z131 :: z132 :: z133 :: z134 :: z135 :: z136 :: z137 :: z138 :: z139 :: z140 :: z141 :: z142 :: z143 :: z144 :: z145 :: z146 :: z147 :: z148 :: z149 :: z150 :: z151 :: z152 :: z153 :: z154 :: z155 :: z156 :: z157 :: z158 :: z159 :: z160 :: z161 :: z162 :: z163 :: z164 :: z165 :: z166 :: z167 :: z168 :: z169 :: z170 :: z171 :: z172 :: z173 :: z174 :: z175 :: z176 :: z177 :: y178 :: y179 :: y180 :: y181 :: y182 :: y183 :: y184 :: y185 :: y186 :: y187 :: y188 :: y189 :: y190 :: y191 :: y192 :: y193 :: y194 :: y195 :: y196 :: y197 :: y198 :: y199 :: y200 :: y201 :: y202 :: y203 :: y204 :: y205 :: y206 :: y207 :: y208 :: y209 :: y210 :: y211 :: y212 :: y213 :: y214 :: z215 :: z216 :: z217 :: z218 :: z219 :: z220 :: z221 :: z222 :: z223 :: z224 :: z225 :: z226 :: z227 :: z228 :: z229 :: z230 :: z231 :: z232 :: z233 :: z234 :: z235 :: z236 :: z237 :: z238 :: z239 :: z240 :: z241 :: z242 :: z243 :: z244 :: z245 :: z246 :: z247 :: z248 :: z249 :: z250 :: z251 :: z252 :: z253 :: z254 :: []).toArray, []⟩ w') : Code.wp Tryd.prog q22Code Q ⟨(z0 :: z1 :: z2 :: .int .i64 f :: .int .i64 t :: z5 :: z6 :: z7 :: z8 :: z9 :: z10 :: z11 :: .pointer (some ⟨RB, 0, none⟩) :: z13 :: z14 :: z15 :: z16 :: z17 :: z18 :: z19 :: z20 :: z21 :: z22 :: z23 :: z24 :: .slice pv NP cv :: .int .i64 C :: z27 :: z28 :: z29 :: z30 :: z31 :: z32 :: z33 :: z34 :: z35 :: z36 :: z37 :: z38 :: z39 :: z40 :: z41 :: z42 :: z43 :: z44 :: z45 :: z46 :: z47 :: z48 :: z49 :: z50 :: z51 :: z52 :: z53 :: z54 :: z55 :: z56 :: z57 :: z58 :: z59 :: z60 :: z61 :: z62 :: z63 :: z64 :: z65 :: z66 :: z67 :: z68 :: z69 :: z70 :: z71 :: z72 :: z73 :: z74 :: z75 :: z76 :: z77 :: z78 :: z79 :: z80 :: z81 :: z82 :: z83 :: z84 :: z85 :: z86 :: z87 :: z88 :: z89 :: z90 :: z91 :: z92 :: z93 :: z94 :: z95 :: z96 :: z97 :: z98 :: z99 :: z100 :: z101 :: z102 :: z103 :: z104 :: z105 :: z106 :: z107 :: z108 :: z109 :: z110 :: z111 :: z112 :: z113 :: z114 :: z115 :: z116 :: z117 :: z118 :: z119 :: z120 :: z121 :: z122 :: z123 :: z124 :: z125 :: z126 :: z127 :: z128 :: z129 :: z130 :: z131 :: z132 :: z133 :: z134 :: z135 :: z136 :: z137 :: z138 :: z139 :: z140 :: z141 :: z142 :: z143 :: z144 :: z145 :: z146 :: z147 :: z148 :: z149 :: z150 :: z151 :: z152 :: z153 :: z154 :: z155 :: z156 :: z157 :: z158 :: z159 :: z160 :: z161 :: z162 :: z163 :: z164 :: z165 :: z166 :: z167 :: z168 :: z169 :: z170 :: z171 :: z172 :: z173 :: z174 :: z175 :: z176 :: z177 :: z178 :: z179 :: z180 :: z181 :: z182 :: z183 :: z184 :: z185 :: z186 :: z187 :: z188 :: z189 :: z190 :: z191 :: z192 :: z193 :: z194 :: z195 :: z196 :: z197 :: z198 :: z199 :: z200 :: z201 :: z202 :: z203 :: z204 :: z205 :: z206 :: z207 :: z208 :: z209 :: z210 :: z211 :: z212 :: z213 :: z214 :: z215 :: z216 :: z217 :: z218 :: z219 :: z220 :: z221 :: z222 :: z223 :: z224 :: z225 :: z226 :: z227 :: z228 :: z229 :: z230 :: z231 :: z232 :: z233 :: z234 :: z235 :: z236 :: z237 :: z238 :: z239 :: z240 :: z241 :: z242 :: z243 :: z244 :: z245 :: z246 :: z247 :: z248 :: z249 :: z250 :: z251 :: z252 :: z253 :: z254 :: []).toArray, []⟩ w := by
  conv => arg 2; whnf
  have HQ := Lib.hid hq
  clear hq
  have c0 := hR.box.cell 0
  by_cases hb : 0 ≤ f ∧ f ≤ t ∧ t ≤ (NM : Int)
  · have hz : notesT M f t = ((M.drop f.toNat).take (t.toNat - f.toNat), 0) := by
      unfold notesT
      rw [hM, if_pos hb]
    rw [hz] at hn
    injection hn with h1 h2
    subst h2
    obtain ⟨h3, h4, h5⟩ := hb
    obtain ⟨a, rfl⟩ := Int.eq_ofNat_of_zero_le h3
    obtain ⟨b, rfl⟩ := Int.eq_ofNat_of_zero_le (Int.le_trans h3 h4)
    rw [Int.toNat_natCast, Int.toNat_natCast] at h1
    have hab : a ≤ b := by omega
    have hbM : b ≤ NM := by omega
    have i0 : ¬ (a : Int) < 0 := by omega
    have i1 : ¬ (b : Int) < (a : Int) := by omega
    have i2 : ¬ (NM : Int) < (b : Int) := by omega
    have i5 : ((0 : Int) != 0) = false := rfl
    rcases row_shape hR.row with ⟨he, hz⟩ | ⟨g, c, he, _, _, _⟩
    · injection he with he1 he2 he3
      subst he1 he2 he3
      obtain rfl : b = 0 := by omega
      obtain rfl : a = 0 := by omega
      have hPn : P = [] := by
        rw [← h1]
        simp
      subst hPn
      have HS := Lib.hid (fun w' (hb : Below w.heap.size w w') => same_calls w' _ (.slice none 0 0) [] [] (hv.low hb) (.inl ⟨_, _, rfl, rfl⟩) (by simp))
      clear hv h1 hz hM h3 h4 h5 hR hlen hP
      go_wp2_with (first | (go_at_call 18; refine (HS.out _ (Below.refl _ _)).mono ?_; rintro e w2 ⟨rfl, hb2⟩) | fail)
      exact HQ.out _ _ _ _ _ _ _ _ _ _ _ _ _ _ _ _ _ _ _ _ _ _ _ _ _ _ _ _ _ _ _ _ _ _ _ _ _ _ hb2
    · injection he with he1 he2 he3
      subst he1
      rw [← hM] at hR
      obtain ⟨cap, cur, he, _, _, h6, h7, _⟩ := own_full hR.row rfl
      obtain rfl : cr = cap := by injection he
      rw [hM] at h6
      have hpart := hR.part hab (by omega) (by omega)
      rw [h1] at hpart
      have HS := Lib.hid (same_calls w _ _ P P hv hpart (by rw [← h1, List.length_take, List.length_drop]; omega))
      rw [(sameT_iff P P).2 rfl] at HS
      have j1 : (0 : Int) ≤ (a : Int) ∧ (a : Int) ≤ (b : Int) ∧ (b : Int) ≤ (cr : Int) := by omega
      clear hv h1 hM h3 h4 h5 hR hlen hP hpart he he3 he2
      go_wp2_with (first | (go_at_call 18; refine HS.out.mono ?_; rintro e w2 ⟨rfl, hb2⟩) | fail)
      all_goals exact HQ.out _ _ _ _ _ _ _ _ _ _ _ _ _ _ _ _ _ _ _ _ _ _ _ _ _ _ _ _ _ _ _ _ _ _ _ _ _ _ hb2
  · have hz : notesT M f t = ([], 2) := by
      unfold notesT
      rw [hM, if_neg hb]
    rw [hz] at hn
    injection hn with h1 h2
    subst h1 h2
    obtain rfl : NP = 0 := by rw [← hP]; rfl
    have i5 : ((2 : Int) != 2) = false := rfl
    clear hv hz hM hR hlen hP
    by_cases h0 : f < 0
    · clear hb
      go_wp2
      exact HQ.out _ _ _ _ _ _ _ _ _ _ _ _ _ _ _ _ _ _ _ _ _ _ _ _ _ _ _ _ _ _ _ _ _ _ _ _ _ _ (Below.refl _ _)
    · by_cases h1 : t < f
      · clear hb
        go_wp2
        exact HQ.out _ _ _ _ _ _ _ _ _ _ _ _ _ _ _ _ _ _ _ _ _ _ _ _ _ _ _ _ _ _ _ _ _ _ _ _ _ _ (Below.refl _ _)
      · have h2 : (NM : Int) < t := by omega
        clear hb
        go_wp2
        exact HQ.out _ _ _ _ _ _ _ _ _ _ _ _ _ _ _ _ _ _ _ _ _ _ _ _ _ _ _ _ _ _ _ _ _ _ _ _ _ _ (Below.refl _ _)

end Go.Proofs.YtglcingpolpkdaaDoor
