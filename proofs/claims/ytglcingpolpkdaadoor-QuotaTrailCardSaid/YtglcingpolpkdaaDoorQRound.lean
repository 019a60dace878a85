/- QuotaTrail: one round of the first loop. -/
import Derived.Test.YtglcingpolpkdaaDoorQEnd
namespace Go.Proofs.YtglcingpolpkdaaDoor
open Go.RowKit

/-- Both trails and both heads that were handed in. -/
structure QM (W w : World) (TB RB FB LB : Nat) (lv rv : Value) (M M' : List Nt) (first last : Dg) : Prop where
  tr : TrP W w TB lv M
  rr : TrR W w RB rv M'
  fb : Whole w FB 24 first.vs
  lb : Whole w LB 24 last.vs
  tab : KTab w
  pos : 0 < W.heap.size
theorem QM.on {W w w' : World} {TB RB FB LB : Nat} {lv rv : Value} {M M' : List Nt} {first last : Dg} (h : QM W w TB RB FB LB lv rv M M' first last) (hb : Below w.heap.size w w') : QM W w' TB RB FB LB lv rv M M' first last :=
  ⟨h.tr.on hb, h.rr.on hb, h.fb.below hb h.fb.lt, h.lb.below hb h.lb.lt, h.tab.below hb h.tab.1, h.pos⟩
theorem KTab.only {w w' : World} {S : Nat → Prop} (h : KTab w) (ho : Only w w' S) (hs : ¬ S 0) : KTab w' :=
  ⟨Nat.lt_of_lt_of_le h.1 ho.size, fun i x hx => (World.cell?_of_block (a := ⟨0, i, none⟩) (ho.block 0 h.1 hs)).trans (h.2 i x hx)⟩
theorem rows_ne {w : World} {B B' n n' k k' : Nat} {e e' : TypeId} {v v' : Value} {xs xs' : List Value} (h : w.ownsRow B e n v k xs) (h' : w.ownsRow B' e' n' v' k' xs') (ht : e ≠ e') : ∀ g, v.ownBlock = some g → v'.ownBlock ≠ some g := fun g hg hg' => by
  obtain ⟨cur, hc⟩ := row_type h hg
  obtain ⟨cur', hc'⟩ := row_type h' hg'
  rw [hc] at hc'
  have hc' := Option.some.inj hc'
  injection hc' with _ hc' _
  exact ht hc'
theorem QM.padd {W w w' : World} {TB RB FB LB : Nat} {lv rv lv' : Value} {M M' M2 : List Nt} {first last : Dg} (h : QM W w TB RB FB LB lv rv M M' first last) (ho : Only w w' fun i => i = TB ∨ lv.ownBlock = some i) (ht : TrP W w' TB lv' M2) : QM W w' TB RB FB LB lv' rv M2 M' first last := by
  have hge : ∀ i, (i = TB ∨ lv.ownBlock = some i) → W.heap.size ≤ i := fun i hi => hi.elim (fun e => e ▸ h.tr.new) fun e => own_ge h.tr.row e
  have hd : ∀ {B : Nat} {vs : List Value}, Whole w B 24 vs → ¬ (B = TB ∨ lv.ownBlock = some B) := fun hw hi => hi.elim (whole_ne hw h.tr.box (by decide)) (row_ne_whole h.tr.row hw (by decide))
  exact ⟨ht, h.rr.only ho (fun s => s.elim (whole_ne h.rr.box h.tr.box (by decide)) (row_ne_whole h.tr.row h.rr.box (by decide))) (fun g hg s => s.elim (fun e => row_ne_whole h.rr.row h.tr.box (by decide) (e ▸ hg)) (fun e => rows_ne h.rr.row h.tr.row (by decide) g hg e)) (fun i _ s => hge i s), h.fb.only ho (hd h.fb), h.lb.only ho (hd h.lb), h.tab.only ho (fun s => by have := hge 0 s; have := h.pos; omega), h.pos⟩
theorem QM.radd {W w w' : World} {TB RB FB LB : Nat} {lv rv rv' : Value} {M M' M2 : List Nt} {first last : Dg} (h : QM W w TB RB FB LB lv rv M M' first last) (ho : Only w w' fun i => i = RB) (ht : TrR W w' RB rv' M2) : QM W w' TB RB FB LB lv rv' M M2 first last :=
  ⟨h.tr.only ho (whole_ne h.tr.box h.rr.box (by decide)) (fun g hg (e : g = RB) => row_ne_whole h.tr.row h.rr.box (by decide) (e ▸ hg)) (fun i _ (e : i = RB) => e ▸ h.rr.new), ht, h.fb.only ho (whole_ne h.fb h.rr.box (by decide)), h.lb.only ho (whole_ne h.lb h.rr.box (by decide)), h.tab.only ho (fun e => by have := h.rr.new; have := h.pos; omega), h.pos⟩

noncomputable def qroundCode : Code := subCode [1, 1, 1, 1, 0, 1, 2, 2, 1, 0] ((Tryd.f3.body).getD .skip)

set_option maxRecDepth 100000 in
set_option maxHeartbeats 4000000 in
theorem qround {z1 z2 z3 z4 z5 z8 z9 z10 z14 z15 z16 z17 z18 z19 z20 z21 z22 z23 z24 z25 z26 z27 z28 z29 z30 z31 z32 z33 z34 z35 z36 z37 z38 z39 z40 z41 z42 z43 z44 z45 z46 z47 z48 z49 z50 z51 z52 z53 z54 z55 z56 z57 z58 z59 z60 z61 z62 z63 z64 z65 z66 z67 z68 z69 z70 z71 z72 z73 z74 z75 z76 z77 z78 z79 z80 z81 z82 z83 z84 z85 z86 z87 z88 z89 z90 z91 z92 z93 z94 z95 z96 z97 z98 z99 z100 z101 z102 z103 z104 z105 z106 z107 z108 z109 z110 z111 z112 z113 z114 z115 z116 z117 z118 z119 z120 z121 z122 z123 z124 z125 z126 z127 z128 z129 z130 z131 z132 z133 z134 z135 z136 z137 z138 z139 z140 z141 z142 z143 z144 z145 z146 z147 z148 z149 z150 z151 z152 z153 z154 z155 z156 z157 z158 z159 z160 z161 z162 z163 z164 z165 z166 z167 z168 z169 z170 z171 z172 z173 z174 z175 z176 z177 z178 z179 z180 z181 z182 z183 z184 z185 z186 z187 z188 z189 z190 z191 z192 z193 z194 z195 z196 z197 z198 z199 z200 z201 z202 z203 z204 z205 z206 z207 z208 z209 z210 z211 z212 z213 z214 z215 z216 z217 z218 z219 z220 z221 z222 z223 z224 z225 z226 z227 z228 z229 z230 z231 z232 z233 z234 z235 z236 z237 z238 z239 z240 z241 z242 z243 z244 z245 z246 z247 z248 z249 z250 z251 z252 z253 z254 : Value} {W w : World} {TB RB FB LB g o NL ca k : Nat} {lv rv : Value} {M l : List Nt} {first last : Dg} {n : Nt} (hm : QM W w TB RB FB LB lv rv M M first last) (hargs : NotesAt W (.slice (some ⟨g, o, none⟩) NL ca) l) (hx : l[k]? = some n) (i2 : 0 ≤ (k : Int) ∧ (k : Int) < (NL : Int)) (hok : ∀ m ∈ M, nextOk m = true) (hlen : M.length ≤ 800) {Q : Exit → Act → World → Prop}
    (hq : ∀ (y14 y15 y16 y17 y18 y19 y20 y21 y44 y45 y46 y47 y48 y49 y50 y51 y52 y53 y54 y55 y56 y57 y58 y59 y60 y61 y62 y63 y64 y65 y66 y67 y68 y69 y70 y71 y72 y73 y74 y75 y76 y77 y78 y79 y80 y81 y82 y83 y84 y85 y86 y87 y88 y89 y90 y91 y92 y93 y94 y95 y96 y97 y98 y99 y100 y101 y102 y103 y104 y105 y106 y107 y108 y109 y110 y111 y112 y113 y114 y115 y116 y117 y118 y119 : Value) (w' : World) (lv' rv' : Value), QM W w' TB RB FB LB lv' rv' (addP M n) (addP M n) first last → Q .normal ⟨(.slice (some ⟨g, o, none⟩) NL ca :: z1 :: z2 :: z3 :: z4 :: z5 :: .pointer (some ⟨FB, 0, none⟩) :: .pointer (some ⟨LB, 0, none⟩) :: z8 :: z9 :: z10 :: .pointer (some ⟨TB, 0, none⟩) :: .pointer (some ⟨RB, 0, none⟩) :: .int .i64 k :: y14 :: y15 :: y16 :: y17 :: y18 :: y19 :: y20 :: y21 :: z22 :: z23 :: z24 :: z25 :: z26 :: z27 :: z28 :: z29 :: z30 :: z31 :: z32 :: z33 :: z34 :: z35 :: z36 :: z37 :: z38 :: z39 :: z40 :: z41 :: z42 :: z43 :: y44 :: y45 :: y46 :: y47 :: y48 :: y49 :: y50 :: y51 :: y52 :: y53 :: y54 :: y55 :: y56 :: y57 :: y58 :: y59 :: y60 :: y61 :: y62 :: y63 :: y64 :: y65 :: y66 :: y67 :: y68 :: y69 :: y70 :: y71 :: y72 :: y73 :: y74 :: y75 :: y76 :: y77 :: y78 :: y79 :: y80 :: y81 :: y82 :: y83 :: y84 :: y85 :: y86 :: y87 :: y88 :: y89 :: y90 :: y91 :: y92 :: y93 :: y94 :: y95 :: y96 :: y97 :: y98 :: y99 :: y100 :: y101 :: y102 :: y103 :: y104 :: y105 :: y106 :: y107 :: y108 :: y109 :: y110 :: y111 :: y112 :: y113 :: y114 :: y115 :: y116 :: y117 :: y118 :: y119 :: z120 :: z121 :: z122 :: z123 :: z124 :: z125 :: z126 :: z127 :: z128 :: z129 :: z130 :: z131 :: z132 :: z133 :: z134 :: z135 :: z136 :: z137 :: z138 :: z139 :: z140 :: z141 :: z142 :: z143 :: z144 :: z145 :: z146 :: z147 :: z148 :: z149 :: z150 :: z151 :: z152 :: z153 :: z154 :: z155 :: z156 :: z157 :: z158 :: z159 :: z160 :: z161 :: z162 :: z163 :: z164 :: z165 :: z166 :: z167 :: z168 :: z169 :: z170 :: z171 :: z172 :: z173 :: z174 :: z175 :: z176 :: z177 :: z178 :: z179 :: z180 :: z181 :: z182 :: z183 :: z184 :: z185 :: z186 :: z187 :: z188 :: z189 :: z190 :: z191 :: z192 :: z193 :: z194 :: z195 :: z196 :: z197 :: z198 :: z199 :: z200 :: z201 :: z202 :: z203 :: z204 :: z205 :: z206 :: z207 :: z208 :: z209 :: z210 :: z211 :: z212 :: z213 :: z214 :: z215 :: z216 :: z217 :: z218 :: z219 :: z220 :: z221 :: z222 :: z223 :: z224 :: z225 :: z226 :: z227 :: z228 :: z229 :: z230 :: z231 :: z232 :: z233 :: z234 :: z235 :: z236 :: z237 :: z238 :: z239 :: z240 :: z241 :: z242 :: z243 :: z244 :: z245 :: z246 :: z247 :: z248 :: z249 :: z250 :: z251 :: z252 :: z253 :: z254 :: []).toArray, []⟩ w') : Code.wp Tryd.prog qroundCode Q ⟨(.slice (some ⟨g, o, none⟩) NL ca :: z1 :: z2 :: z3 :: z4 :: z5 :: .pointer (some ⟨FB, 0, none⟩) :: .pointer (some ⟨LB, 0, none⟩) :: z8 :: z9 :: z10 :: .pointer (some ⟨TB, 0, none⟩) :: .pointer (some ⟨RB, 0, none⟩) :: .int .i64 k :: z14 :: z15 :: z16 :: z17 :: z18 :: z19 :: z20 :: z21 :: z22 :: z23 :: z24 :: z25 :: z26 :: z27 :: z28 :: z29 :: z30 :: z31 :: z32 :: z33 :: z34 :: z35 :: z36 :: z37 :: z38 :: z39 :: z40 :: z41 :: z42 :: z43 :: z44 :: z45 :: z46 :: z47 :: z48 :: z49 :: z50 :: z51 :: z52 :: z53 :: z54 :: z55 :: z56 :: z57 :: z58 :: z59 :: z60 :: z61 :: z62 :: z63 :: z64 :: z65 :: z66 :: z67 :: z68 :: z69 :: z70 :: z71 :: z72 :: z73 :: z74 :: z75 :: z76 :: z77 :: z78 :: z79 :: z80 :: z81 :: z82 :: z83 :: z84 :: z85 :: z86 :: z87 :: z88 :: z89 :: z90 :: z91 :: z92 :: z93 :: z94 :: z95 :: z96 :: z97 :: z98 :: z99 :: z100 :: z101 :: z102 :: z103 :: z104 :: z105 :: z106 :: z107 :: z108 :: z109 :: z110 :: z111 :: z112 :: z113 :: z114 :: z115 :: z116 :: z117 :: z118 :: z119 :: z120 :: z121 :: z122 :: z123 :: z124 :: z125 :: z126 :: z127 :: z128 :: z129 :: z130 :: z131 :: z132 :: z133 :: z134 :: z135 :: z136 :: z137 :: z138 :: z139 :: z140 :: z141 :: z142 :: z143 :: z144 :: z145 :: z146 :: z147 :: z148 :: z149 :: z150 :: z151 :: z152 :: z153 :: z154 :: z155 :: z156 :: z157 :: z158 :: z159 :: z160 :: z161 :: z162 :: z163 :: z164 :: z165 :: z166 :: z167 :: z168 :: z169 :: z170 :: z171 :: z172 :: z173 :: z174 :: z175 :: z176 :: z177 :: z178 :: z179 :: z180 :: z181 :: z182 :: z183 :: z184 :: z185 :: z186 :: z187 :: z188 :: z189 :: z190 :: z191 :: z192 :: z193 :: z194 :: z195 :: z196 :: z197 :: z198 :: z199 :: z200 :: z201 :: z202 :: z203 :: z204 :: z205 :: z206 :: z207 :: z208 :: z209 :: z210 :: z211 :: z212 :: z213 :: z214 :: z215 :: z216 :: z217 :: z218 :: z219 :: z220 :: z221 :: z222 :: z223 :: z224 :: z225 :: z226 :: z227 :: z228 :: z229 :: z230 :: z231 :: z232 :: z233 :: z234 :: z235 :: z236 :: z237 :: z238 :: z239 :: z240 :: z241 :: z242 :: z243 :: z244 :: z245 :: z246 :: z247 :: z248 :: z249 :: z250 :: z251 :: z252 :: z253 :: z254 :: []).toArray, []⟩ w := by
  conv => arg 2; whnf
  have HQ := Lib.hid hq
  clear hq
  obtain ⟨g', o', he, hgW, hrW⟩ := hargs.at hx
  obtain ⟨rfl, rfl⟩ : g = g' ∧ o = o' := by
    injection he with he
    injection he with h1 h2
    exact ⟨h1, h2⟩
  have HRG := Lib.hid (fun w' (hb : Below W.heap.size W w') => range_low hrW hgW hb)
  have HGW := Lib.hid (fun (w' : World) (hb : Below W.heap.size W w') => Nat.lt_of_lt_of_le hgW hb.size)
  have HOK := Lib.hid (And.intro hok (addP_ok n hok))
  have HLEN := Lib.hid (And.intro hlen (addP_len M n))
  have HP := Lib.hid (fun w' lv (h : TrP W w' TB lv M) (hk : KTab w') => tadd_calls W w' TB lv M n h hk (by omega))
  have HR := Lib.hid (fun w' rv (h : TrR W w' RB rv M) (hk : KTab w') (hp : 0 < W.heap.size) => radd_calls W w' RB rv M n h hk hp hok (by omega))
  have HU := Lib.hid (fun w' (hk : KTab w') => next_dg w' first n hk)
  have HV := Lib.hid (fun w' (hk : KTab w') => refnext_dg w' first n hk)
  obtain ⟨E, hE⟩ : ∃ E, nextE (headG M) n = E := ⟨_, rfl⟩
  obtain ⟨U, hU⟩ : ∃ U, nextE first n = U := ⟨_, rfl⟩
  obtain ⟨C, hC⟩ : ∃ C, nextC n = C := ⟨_, rfl⟩
  obtain ⟨M2, hM2⟩ : ∃ M2, addP M n = M2 := ⟨_, rfl⟩
  rw [hE, hC, hM2] at HP HR
  rw [hU, hC] at HU HV
  rw [hM2] at HOK HLEN HQ
  clear hE hU hC hM2 hok hlen hx he hrW hgW hargs
  have hrng := HRG.out w hm.tr.below
  go_upto_region 11 with (first
    | (refine wpList_store_new (by rfl) 24 _ _ (by rfl) (zeroNums .u8 32).toArray E.vs.toArray 24 (by rfl) (by rfl) (by rw [size_d]; simp [Dg.vs_length]) (by simp [zeroNums, Dg.vs_length]) (Dg.all_one _) ?_; have hX2 : Whole (w4.alloc (.cells E.vs.toArray 24)) w4.heap.size 24 E.vs := Whole.new w4 24 E.vs.toArray; have b5 : Below w4.heap.size w4 (w4.alloc (.cells E.vs.toArray 24)) := (Below.refl _ _).alloc (Nat.le_refl _) _; have hm5 := hm4.on b5; replace hX1 := hX1.below b5 hX1.lt; generalize w4.alloc (.cells E.vs.toArray 24) = w5 at hX1 hX2 hm5 b5 ⊢; obtain ⟨X2, hX2e⟩ : ∃ x, w4.heap.size = x := ⟨_, rfl⟩; rw [hX2e] at hX2 ⊢; clear hX2e b5)
    | (go_at_call 10; refine (HR.out _ rv hm3.rr hm3.tab hm3.pos).mono ?_; rintro e w4 ⟨rfl, rv4, hR4, hO4⟩; have hm4 := hm3.radd hO4 hR4; replace hX1 := hX1.only hO4 (whole_ne hX1 hm3.rr.box (by decide)); clear hO4 hR4)
    | (refine wpList_load_mid (by rfl) 36 _ (by rfl) g (o + k * 6) (by rfl) n.cells _ (HRG.out w3 hm3.tr.below) Tryd.underlying36 (by rfl) (by rw [size_n]; rfl) ?_)
    | (refine wpList_store_new (by rfl) 24 _ _ (by rfl) (zeroNums .u8 32).toArray E.vs.toArray 24 (by rfl) (by rfl) (by rw [size_d]; simp [Dg.vs_length]) (by simp [zeroNums, Dg.vs_length]) (Dg.all_one _) ?_; have hX1 : Whole (w2.alloc (.cells E.vs.toArray 24)) w2.heap.size 24 E.vs := Whole.new w2 24 E.vs.toArray; have b3 : Below w2.heap.size w2 (w2.alloc (.cells E.vs.toArray 24)) := (Below.refl _ _).alloc (Nat.le_refl _) _; have hm3 := hm2.on b3; generalize w2.alloc (.cells E.vs.toArray 24) = w3 at hX1 hm3 b3 ⊢; obtain ⟨X1, hX1e⟩ : ∃ x, w2.heap.size = x := ⟨_, rfl⟩; rw [hX1e] at hX1 ⊢; clear hX1e b3)
    | (refine wpList_alloc_row (by rfl) 24 (by rfl) _ _ info_d ?_)
    | (go_at_call 9; refine (HP.out _ lv hm.tr hm.tab).mono ?_; rintro e w2 ⟨rfl, lv2, hT2, hO2⟩; have hm2 := hm.padd hO2 hT2; clear hT2 hO2)
    | (refine wpList_load_mid (by rfl) 36 _ (by rfl) g (o + k * 6) (by rfl) n.cells _ hrng Tryd.underlying36 (by rfl) (by rw [size_n]; rfl) ?_)
    | fail)
  refine qnext_step hm5.fb hm5.tab (HRG.out w5 hm5.tr.below) (HGW.out w5 hm5.tr.below) i2 HU ?_
  intro _ _ _ _ _ _ _ _ _ w6 X3 b6 hX3 _
  have hm6 := hm5.on b6
  replace hX1 := hX1.below b6 hX1.lt
  replace hX2 := hX2.below b6 hX2.lt
  go_upto_region 12 with fail
  refine qrnext_step hm6.fb hm6.tab (HRG.out w6 hm6.tr.below) (HGW.out w6 hm6.tr.below) i2 HV ?_
  intro _ _ _ _ _ _ _ _ _ w7 X4 b7 hX4 _
  have hm7 := hm6.on b7
  replace hX1 := hX1.below b7 hX1.lt
  replace hX2 := hX2.below b7 hX2.lt
  replace hX3 := hX3.below b7 hX3.lt
  go_upto_region 13 with fail
  obtain ⟨p2, c2, rfl⟩ := hm7.tr.shape
  obtain ⟨q2, d2, rfl⟩ := hm7.rr.shape
  refine qsame_step ⟨hm7.tr, hm7.rr, hX1, hX2, hX3, hX4, hm7.tab⟩ rfl (by have := HLEN.out; omega) HOK.out.2 ?_
  intro _ _ _ _ _ _ _ _ _ _ _ _ _ _ _ _ _ _ _ _ _ _ _ _ _ _ _ _ _ _ _ _ _ _ _ _ _ _ _ w8 _ b8
  have hm8 := hm7.on b8
  go_wp2
  exact HQ.out _ _ _ _ _ _ _ _ _ _ _ _ _ _ _ _ _ _ _ _ _ _ _ _ _ _ _ _ _ _ _ _ _ _ _ _ _ _ _ _ _ _ _ _ _ _ _ _ _ _ _ _ _ _ _ _ _ _ _ _ _ _ _ _ _ _ _ _ _ _ _ _ _ _ _ _ _ _ _ _ _ _ _ _ _ _ _ hm8

end Go.Proofs.YtglcingpolpkdaaDoor
