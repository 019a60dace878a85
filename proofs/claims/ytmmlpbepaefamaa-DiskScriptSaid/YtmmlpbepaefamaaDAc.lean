/- act: Crash of both disks, of keeps that are copied. -/
import Derived.Test.YtmmlpbepaefamaaDAk
namespace Go.Proofs.Ytmmlpbepaefamaa
open Go.RowKit

theorem row_held {w w' : World} {B n size : Nat} {e : TypeId} {v : Value} {xs : List Value} (h : w.ownsRow B e size v n xs) (hk : ∀ g, v.ownBlock = some g → w'.heap[g]? = w.heap[g]?) : w'.ownsRow B e size v n xs := by
  refine ⟨h.1, ?_⟩
  rcases h.2 with h0 | ⟨g, cap, cur, rfl, hb, hc, rest⟩
  · exact .inl h0
  · exact .inr ⟨g, cap, cur, rfl, hb, (hk g rfl).trans hc, rest⟩
theorem keeps_of_row {w : World} {B : Nat} {v : Value} {ks : List Kp} (h : w.ownsRow B 38 3 v ks.length (ks.flatMap Kp.cells)) : KeepsAt w v ks := by
  rcases row_shape h with ⟨rfl, h0⟩ | ⟨g, cap, rfl, _, hg, hc⟩
  · exact .inl ⟨List.eq_nil_of_length_eq_zero h0, _, _, rfl⟩
  · refine .inr ⟨g, 0, cap, rfl, hg, fun k x hx j u hj => ?_⟩
    have := hc _ _ (flat_at lenK ks k x j u hx hj)
    rwa [Nat.zero_add]
theorem info_keep : ∃ i, Try.prog.info? 38 = some i ∧ i.zero = some (.agg #[.string ⟨#[]⟩, .int .i64 0, .int .i64 0]) ∧ i.size = 3 ∧ i.bytes = 32 := info_of (by kernel_rfl)
theorem wpList_append_keeps {w : World} {ops : Array Oper} {rest : List Oper} {o : Oper} {a : Act} {Q : Exit → Act → World → Prop} (hgd : o.guard = none) (s x : Operand)
    (ho : o.op = .call { callee := .builtin .append, args := #[s, x], argTypes := #[39, 39] })
    (B : Nat) (v u : Value) (l m : List Kp) (hs : a.eval s = v) (hown : w.ownsRow B 38 3 v l.length (l.flatMap Kp.cells)) (hx : a.eval x = u) (hu : KeepSrc w u m) (hlen : l.length + m.length ≤ 100000) (hbase : B ≤ w.heap.size)
    (h : ∀ v' w', w'.ownsRow B 38 3 v' (l ++ m).length ((l ++ m).flatMap Kp.cells) → w.grownBy w' v.ownBlock → Moved w v v' → wpList Try.prog ops Q rest (a.put o.dst v') w') :
    wpList Try.prog ops Q (o :: rest) a w := by
  refine wpList_plain hgd fun K hK => ?_
  obtain ⟨i, hi, hz, hsz, hbys⟩ := info_keep
  rcases hu with ⟨rfl, rfl⟩ | ⟨a0, c, rfl, rfl⟩ | ⟨g, off, c, rfl, hg, hc⟩
  · have hrun := run_append_owned_none (P := Try.prog) (w := w) B 39 o.type 38 i 3 Try.underlying39 hi v l.length (l.flatMap Kp.cells) hown
    unfold Oper.wp execOp
    simp only [ho, resolve, invoke, builtin, Sem.run_bind, Sem.run_pure, Result.andThen_ok, List.map_toArray, List.map_cons, List.map_nil, hs, hx, hrun]
    exact hK _ _ (h v w (by simpa using hown) (World.grownBy.refl _ _) (.inl rfl))
  · refine wp_append_at w s x 39 ho B 38 i _ 3 32 Try.underlying39 hi hz hsz hbys rfl (by decide) v l.length (l.flatMap Kp.cells) hs hown a0 0 c [] hx rfl (fun j y hj => by simp at hj) (fun y hy => by cases hy) (by simp only [maxLen]; simp only [List.length_nil] at hlen; omega) (Nat.le_trans (Nat.mul_le_mul hlen (Nat.le_refl 32)) (by decide)) hbase fun v' w' h1 h2 h4 => hK _ _ (h v' w' ?_ h2 h4)
    simpa using h1
  · refine wp_append_at w s x 39 ho B 38 i _ 3 32 Try.underlying39 hi hz hsz hbys rfl (by decide) v l.length (l.flatMap Kp.cells) hs hown ⟨g, off, none⟩ m.length c (m.flatMap Kp.cells) hx (flat_len lenK m) (fun j y hj => ?_) (fun y hy => ?_) (by simp only [maxLen]; omega) (Nat.le_trans (Nat.mul_le_mul hlen (Nat.le_refl 32)) (by decide)) hbase fun v' w' h1 h2 h4 => hK _ _ (h v' w' ?_ h2 h4)
    · obtain ⟨k, r, q, rfl, hq, hr⟩ := flat_inv lenK m j y hj
      rw [Addr.add_lit, ← Nat.add_assoc]
      exact hc k q hq r y hr
    · obtain ⟨b, _, hb⟩ := List.mem_flatMap.1 hy
      simp [Kp.cells] at hb
      rcases hb with rfl | rfl | rfl <;> rfl
    · rw [List.length_append, List.flatMap_append]
      exact h1

set_option maxRecDepth 100000 in
set_option maxHeartbeats 4000000 in
theorem act_k6 {z2 z3 z4 z8 z9 z10 z11 z12 z13 z14 z15 z16 z17 z19 z20 z21 z22 z23 z24 z25 z26 z27 z28 z29 z30 z31 z32 z33 z34 z35 z36 z37 z38 z39 z40 z41 z42 z43 z44 z45 z46 z47 z48 z49 z50 z51 z52 z53 z54 z55 z56 z57 z58 z59 z60 z61 z62 z63 z64 z65 z66 z67 z68 z69 z70 z71 z72 z73 z74 z75 z76 z77 z78 z79 z80 z81 z82 z83 z84 z85 z86 z87 z88 z89 z90 z91 z92 z93 z94 z95 z96 z97 z98 z99 z100 z101 z102 z103 z104 z105 z106 z107 z108 z109 z110 z111 z112 z113 z114 z115 z116 z117 z118 z119 z120 z121 z122 z123 z124 z125 z126 z127 z128 z129 z130 z131 z132 z133 z134 z135 z136 z137 z138 z139 z140 z141 z142 z143 z144 z145 z146 z147 z148 z149 z150 z151 z152 z153 z154 z155 z156 z157 z158 z159 z160 z161 z162 z163 z164 z165 z166 z167 z168 z169 z170 z171 z172 z173 z174 z175 z176 z177 z178 z179 z180 z181 z182 z183 z184 z185 z186 z187 z188 z189 z190 z191 z192 z193 z194 z195 z196 z197 z198 z199 z200 z201 z202 : Value} (W w : World) (B d m X : Nat) (ks rl : List Int) (j : Nat) (name dst : ByteArray) (bv : Value) (z : Int) (kv : Value) (ks0 : List Kp) (hk : KeepSrc W kv ks0) (hkl : ks0.length ≤ 40) (h : Sc W w B d m (fun i => i = X) ks rl j) (hX : Whole w X 63 [.int .u8 6, .string name, .string dst, bv, .int .i64 z, kv]) (hj : j ≤ 800) {Q : Exit → Act → World → Prop}
    (hq : ∀ (y8 y9 y10 y11 y12 y13 y14 y15 y19 y20 y21 y22 y23 y24 y25 y26 y27 y28 y29 y30 y31 y32 y33 y34 y35 y36 y37 y38 y39 y40 y41 y42 y43 y44 y45 y46 y47 y48 y49 y50 y51 y52 y53 y54 y55 y56 y57 y58 y59 y60 y61 y62 y63 y64 y65 y66 y67 y68 y69 y70 y71 y72 y73 y74 y75 y76 y77 y78 y79 y80 y81 y82 y83 y84 y85 y86 y87 y88 y89 y90 y91 y92 y93 y94 y95 y96 y97 y98 y99 y100 y101 y102 y103 y104 y105 y106 y107 y108 y109 y110 y111 y112 y113 y114 y115 y116 y117 y118 y119 y120 y121 y122 y123 y124 y125 y126 y127 y128 y129 y130 y131 y132 y133 y134 y135 y136 y137 y138 y139 y140 y141 y142 y143 y144 y145 y146 y147 y148 y149 y150 y151 y152 y153 y154 y155 y156 y157 y158 y159 y160 y161 y162 y163 y164 y165 y166 y167 y168 y169 y170 : Value) (w' : World), Sc W w' B d m (fun i => i = X) ks rl (j + 1) → Whole w' X 63 [.int .u8 6, .string name, .string dst, bv, .int .i64 z, kv] → Q .normal ⟨(.pointer (some ⟨d, 0, none⟩) :: .pointer (some ⟨m, 0, none⟩) :: z2 :: z3 :: z4 :: .pointer (some ⟨X, 0, none⟩) :: .bool false :: .bool true :: y8 :: y9 :: y10 :: y11 :: y12 :: y13 :: y14 :: y15 :: z16 :: z17 :: .int .u8 6 :: y19 :: y20 :: y21 :: y22 :: y23 :: y24 :: y25 :: y26 :: y27 :: y28 :: y29 :: y30 :: y31 :: y32 :: y33 :: y34 :: y35 :: y36 :: y37 :: y38 :: y39 :: y40 :: y41 :: y42 :: y43 :: y44 :: y45 :: y46 :: y47 :: y48 :: y49 :: y50 :: y51 :: y52 :: y53 :: y54 :: y55 :: y56 :: y57 :: y58 :: y59 :: y60 :: y61 :: y62 :: y63 :: y64 :: y65 :: y66 :: y67 :: y68 :: y69 :: y70 :: y71 :: y72 :: y73 :: y74 :: y75 :: y76 :: y77 :: y78 :: y79 :: y80 :: y81 :: y82 :: y83 :: y84 :: y85 :: y86 :: y87 :: y88 :: y89 :: y90 :: y91 :: y92 :: y93 :: y94 :: y95 :: y96 :: y97 :: y98 :: y99 :: y100 :: y101 :: y102 :: y103 :: y104 :: y105 :: y106 :: y107 :: y108 :: y109 :: y110 :: y111 :: y112 :: y113 :: y114 :: y115 :: y116 :: y117 :: y118 :: y119 :: y120 :: y121 :: y122 :: y123 :: y124 :: y125 :: y126 :: y127 :: y128 :: y129 :: y130 :: y131 :: y132 :: y133 :: y134 :: y135 :: y136 :: y137 :: y138 :: y139 :: y140 :: y141 :: y142 :: y143 :: y144 :: y145 :: y146 :: y147 :: y148 :: y149 :: y150 :: y151 :: y152 :: y153 :: y154 :: y155 :: y156 :: y157 :: y158 :: y159 :: y160 :: y161 :: y162 :: y163 :: y164 :: y165 :: y166 :: y167 :: y168 :: y169 :: y170 :: z171 :: z172 :: z173 :: z174 :: z175 :: z176 :: z177 :: z178 :: z179 :: z180 :: z181 :: z182 :: z183 :: z184 :: z185 :: z186 :: z187 :: z188 :: z189 :: z190 :: z191 :: z192 :: z193 :: z194 :: z195 :: z196 :: z197 :: z198 :: z199 :: z200 :: z201 :: z202 :: []).toArray, []⟩ w') : Code.wp Try.prog actSwitch Q ⟨(.pointer (some ⟨d, 0, none⟩) :: .pointer (some ⟨m, 0, none⟩) :: z2 :: z3 :: z4 :: .pointer (some ⟨X, 0, none⟩) :: .bool false :: .bool true :: z8 :: z9 :: z10 :: z11 :: z12 :: z13 :: z14 :: z15 :: z16 :: z17 :: .int .u8 6 :: z19 :: z20 :: z21 :: z22 :: z23 :: z24 :: z25 :: z26 :: z27 :: z28 :: z29 :: z30 :: z31 :: z32 :: z33 :: z34 :: z35 :: z36 :: z37 :: z38 :: z39 :: z40 :: z41 :: z42 :: z43 :: z44 :: z45 :: z46 :: z47 :: z48 :: z49 :: z50 :: z51 :: z52 :: z53 :: z54 :: z55 :: z56 :: z57 :: z58 :: z59 :: z60 :: z61 :: z62 :: z63 :: z64 :: z65 :: z66 :: z67 :: z68 :: z69 :: z70 :: z71 :: z72 :: z73 :: z74 :: z75 :: z76 :: z77 :: z78 :: z79 :: z80 :: z81 :: z82 :: z83 :: z84 :: z85 :: z86 :: z87 :: z88 :: z89 :: z90 :: z91 :: z92 :: z93 :: z94 :: z95 :: z96 :: z97 :: z98 :: z99 :: z100 :: z101 :: z102 :: z103 :: z104 :: z105 :: z106 :: z107 :: z108 :: z109 :: z110 :: z111 :: z112 :: z113 :: z114 :: z115 :: z116 :: z117 :: z118 :: z119 :: z120 :: z121 :: z122 :: z123 :: z124 :: z125 :: z126 :: z127 :: z128 :: z129 :: z130 :: z131 :: z132 :: z133 :: z134 :: z135 :: z136 :: z137 :: z138 :: z139 :: z140 :: z141 :: z142 :: z143 :: z144 :: z145 :: z146 :: z147 :: z148 :: z149 :: z150 :: z151 :: z152 :: z153 :: z154 :: z155 :: z156 :: z157 :: z158 :: z159 :: z160 :: z161 :: z162 :: z163 :: z164 :: z165 :: z166 :: z167 :: z168 :: z169 :: z170 :: z171 :: z172 :: z173 :: z174 :: z175 :: z176 :: z177 :: z178 :: z179 :: z180 :: z181 :: z182 :: z183 :: z184 :: z185 :: z186 :: z187 :: z188 :: z189 :: z190 :: z191 :: z192 :: z193 :: z194 :: z195 :: z196 :: z197 :: z198 :: z199 :: z200 :: z201 :: z202 :: []).toArray, []⟩ w := by
  conv => arg 2; whnf
  have hkw := hk.low h.below
  have x5 := hX.cell 5
  have HQ := Lib.hid hq
  have HS := Lib.hid h
  have HX := Lib.hid hX
  have HK := Lib.hid hk
  have HKL := Lib.hid hkl
  have b1 : Below w.heap.size w (w.alloc (.cells #[] 38)) := (Below.refl _ _).alloc (Nat.le_refl _) _
  have hE := own_empty (f := Kp.cells) (n := 3) w 38
  have HKS := Lib.hid (hkw.low b1)
  clear x5
  have x5 := (HX.out.below b1 HX.out.lt).cell 5
  clear h hq hX hk hkl hkw
  go_upto_block 1 with (first
    | (go_at_call 61; refine HC3.out.mono ?_; rintro r w3 ⟨rfl, hK3, hS3⟩)
    | (go_at_call 14; refine HC2.out.mono ?_; rintro r w2 ⟨rfl, hK2, HC3⟩; have HC3 := Lib.hid HC3; have x5 := (hX1.held hK2 (.inl rfl)).cell 5)
    | (refine wpList_append_keeps (w := w.alloc (.cells #[] 38)) (by rfl) _ _ (by rfl) w.heap.size _ _ [] ks0 (by rfl) hE (by rfl) HKS.out (by have := HKL.out; simp only [List.length_nil]; omega) b1.size ?_; intro v1 w1 O1 G1 M1; rw [List.nil_append] at O1; have b2 := b1.grown G1 b1.size (fun i hi => own_ge hE hi); have hX1 := HX.out.below b2 HX.out.lt; have x5 := hX1.cell 5; have hS1 := HS.out.add b2 (Z := fun i => v1.ownBlock = some i) (fun i e => ⟨own_ge O1 e, row_lt O1 e⟩); have HC2 := Lib.hid (hS1.crash (by omega) v1 kv ks0 (by have := HKL.out; omega) (fun w' hK _ => keeps_of_row (row_held O1 fun g e => hK g (.inr e))) HK.out); obtain ⟨a1, n1, c1, he1⟩ := slice_any O1; subst he1)
    | fail)
  have hX3 := (hX1.held hK2 (.inl rfl)).held hK3 (.inl rfl)
  have O3 := row_held (row_held O1 fun g e => hK2 g (.inr e)) fun g e => hK3 g (.inr e)
  have hk3 := HK.out.low hS3.below
  have hS3' : Sc W w3 B d m (fun i => i = X) ks rl (j + 1) := hS3.fewer fun i e => .inl e
  obtain ⟨n, hn⟩ : ∃ n, ks0.length = n := ⟨_, rfl⟩
  have hn1 : n1 = n := by
    obtain ⟨a', c', he⟩ := slice_of_row O3
    injection he with _ h2
    omega
  subst hn1
  have HN := Lib.hid hn
  have HO := Lib.hid O3
  have HK3 := Lib.hid hk3
  have HX3 := Lib.hid hX3
  have HS3 := Lib.hid hS3'
  have hn40 : n1 ≤ 40 := by have := HKL.out; omega
  clear x5 hE O1 G1 M1 b1 b2 hX1 hS1 hK2 hK3 hX3 O3 hk3 hS3 hS3' hn
  go_wp2
  go_loopw [7, 15] (fun b i wr => ∃ k : Nat, k ≤ n1 ∧ b = .bool true ∧ i = .int .i64 k ∧ Below w3.heap.size w3 wr) (fun _ i _ => n1 - (intOf i).toNat)
  case atStart => exact ⟨0, by omega, rfl, rfl, Below.refl _ _⟩
  case round =>
    obtain ⟨i, hi, rfl, rfl, hB⟩ := hrel
    by_cases hlt : i < n1
    · have i1 : (i : Int) < (n1 : Int) := by omega
      have i2 : 0 ≤ (i : Int) ∧ (i : Int) < (n1 : Int) := by omega
      have b2 : IntKind.i64.wrap ((i : Int) + 1) = (i : Int) + 1 := IntWalk.i64_in _ (by omega)
      obtain ⟨q, hq⟩ : ∃ q, ks0[i]? = some q := ⟨_, List.getElem?_eq_getElem (by rw [HN.out]; exact hlt)⟩
      obtain ⟨g, ha1, hr1⟩ := own_at lenK (row_low HO.out hB) hq
      subst ha1
      obtain ⟨g2, o2, c2, hkv, hg2, hr2⟩ : ∃ g2 o2 c2, kv = .slice (some ⟨g2, o2, none⟩) n1 c2 ∧ g2 < w3.heap.size ∧ w3.rangeAt g2 (o2 + i * 3) q.cells := by
        rcases HK3.out with ⟨_, h0⟩ | ⟨_, _, _, h0⟩ | ⟨g2, o2, c2, he, hg2, hc⟩
        · rw [h0] at hq; simp at hq
        · rw [h0] at hq; simp at hq
        · exact ⟨g2, o2, c2, by rw [he, HN.out], hg2, hc i q hq⟩
      subst hkv
      have hr2 := rangeAt_low hr2 hg2 hB
      have hX := HX3.out.below hB HX3.out.lt
      obtain ⟨s1, s2, s3⟩ := q
      have hall : wr.rangeAt g (i * 3) [.string s1, .int .i64 s2, .int .i64 s3] ∧ wr.rangeAt g2 (o2 + i * 3) [.string s1, .int .i64 s2, .int .i64 s3] ∧ Whole wr X 63 [.int .u8 6, .string name, .string dst, bv, .int .i64 z, .slice (some ⟨g2, o2, none⟩) n1 c2] := ⟨hr1, hr2, hX⟩
      have hBd := hB.trans (((Below.refl wr.heap.size wr).drew).mono hB.size)
      clear hr1 hr2 hX hq hg2
      go_wp2
      refine wp_region_noPanic ?_
      refine wp_region_held_drew (S := fun w' => w'.rangeAt g (i * 3) [.string s1, .int .i64 s2, .int .i64 s3] ∧ w'.rangeAt g2 (o2 + i * 3) [.string s1, .int .i64 s2, .int .i64 s3] ∧ Whole w' X 63 [.int .u8 6, .string name, .string dst, bv, .int .i64 z, .slice (some ⟨g2, o2, none⟩) n1 c2]) (by kernel_rfl) (⟨fun a u h => hall.1 a u h, fun a u h => hall.2.1 a u h, hall.2.2.drew⟩) (fun hhS => ?_)
      generalize wr.drew = wd at hBd hhS ⊢
      refine wpAnyH_take (i := 0) (oi := ⟨some 143, _, _, _, _, _⟩) (v := ?_) rfl (by kernel_rfl) (by kernel_rfl) (by kernel_rfl) (fun _ _ _ h => h) (Or.inl ⟨by rfl, ?_⟩) (by assumption) ?_
      rotate_left
      · intro w hSw
        (try dsimp only at hSw)
        go_simp
        all_goals (with_reducible rfl)
      try simp only [Act.put, List.setIfInBounds_toArray, List.set_cons_zero, List.set_cons_succ]
      refine wpAnyH_take (i := 1) (oi := ⟨some 144, _, _, _, _, _⟩) (v := ?_) rfl (by kernel_rfl) (by kernel_rfl) (by kernel_rfl) (fun _ _ _ h => h) (Or.inl ⟨by rfl, ?_⟩) (by assumption) ?_
      rotate_left
      · intro w hSw
        (try dsimp only at hSw)
        go_simp
        all_goals (with_reducible rfl)
      try simp only [Act.put, List.setIfInBounds_toArray, List.set_cons_zero, List.set_cons_succ]
      refine wpAnyH_take (i := 2) (oi := ⟨some 145, _, _, _, _, _⟩) (v := ?_) rfl (by kernel_rfl) (by kernel_rfl) (by kernel_rfl) (fun _ _ _ h => h) (Or.inl ⟨by rfl, ?_⟩) (by assumption) ?_
      rotate_left
      · intro w hSw
        (try dsimp only at hSw)
        go_simp
        all_goals (with_reducible rfl)
      try simp only [Act.put, List.setIfInBounds_toArray, List.set_cons_zero, List.set_cons_succ]
      refine wpAnyH_take (i := 3) (oi := ⟨some 146, _, _, _, _, _⟩) (v := ?_) rfl (by kernel_rfl) (by kernel_rfl) (by kernel_rfl) (fun _ _ _ h => h) (Or.inl ⟨by rfl, ?_⟩) (by assumption) ?_
      rotate_left
      · intro w hSw
        (try dsimp only at hSw)
        go_simp
        all_goals (with_reducible rfl)
      try simp only [Act.put, List.setIfInBounds_toArray, List.set_cons_zero, List.set_cons_succ]
      refine wpAnyH_take (i := 4) (oi := ⟨some 147, _, _, _, _, _⟩) (v := ?_) rfl (by kernel_rfl) (by kernel_rfl) (by kernel_rfl) (fun _ _ _ h => h) (Or.inl ⟨by rfl, ?_⟩) (by assumption) ?_
      rotate_left
      · intro w hSw
        (try dsimp only at hSw)
        go_simp
        all_goals (with_reducible rfl)
      try simp only [Act.put, List.setIfInBounds_toArray, List.set_cons_zero, List.set_cons_succ]
      refine wpAnyH_take (i := 5) (oi := ⟨some 148, _, _, _, _, _⟩) (v := (.agg #[.string s1, .int .i64 s2, .int .i64 s3])) rfl (by kernel_rfl) (by kernel_rfl) (by kernel_rfl) (fun _ _ _ h => h) (Or.inl ⟨by rfl, ?_⟩) (by assumption) ?_
      · intro w hSw
        (try dsimp only at hSw)
        have y0 : w.cell? ⟨g, i * 3, none⟩ = some (.string s1) := hSw.1 0 _ rfl
        have y1 := hSw.1 1 _ rfl
        have y2 := hSw.1 2 _ rfl
        have u0 : w.cell? ⟨g2, o2 + i * 3, none⟩ = some (.string s1) := hSw.2.1 0 _ rfl
        have u1 := hSw.2.1 1 _ rfl
        have u2 := hSw.2.1 2 _ rfl
        have x5 := hSw.2.2.cell 5
        go_simp
        all_goals (first | done | simp)
      try simp only [Act.put, List.setIfInBounds_toArray, List.set_cons_zero, List.set_cons_succ]
      refine wpAnyH_take (i := 6) (oi := ⟨some 149, _, _, _, _, _⟩) (v := ?_) rfl (by kernel_rfl) (by kernel_rfl) (by kernel_rfl) (fun _ _ _ h => h) (Or.inl ⟨by rfl, ?_⟩) (by assumption) ?_
      rotate_left
      · intro w hSw
        (try dsimp only at hSw)
        go_simp
        all_goals (with_reducible rfl)
      try simp only [Act.put, List.setIfInBounds_toArray, List.set_cons_zero, List.set_cons_succ]
      refine wpAnyH_take (i := 7) (oi := ⟨some 150, _, _, _, _, _⟩) (v := ?_) rfl (by kernel_rfl) (by kernel_rfl) (by kernel_rfl) (fun _ _ _ h => h) (Or.inl ⟨by rfl, ?_⟩) (by assumption) ?_
      rotate_left
      · intro w hSw
        (try dsimp only at hSw)
        have y0 : w.cell? ⟨g, i * 3, none⟩ = some (.string s1) := hSw.1 0 _ rfl
        have y1 := hSw.1 1 _ rfl
        have y2 := hSw.1 2 _ rfl
        have u0 : w.cell? ⟨g2, o2 + i * 3, none⟩ = some (.string s1) := hSw.2.1 0 _ rfl
        have u1 := hSw.2.1 1 _ rfl
        have u2 := hSw.2.1 2 _ rfl
        have x5 := hSw.2.2.cell 5
        go_simp
        all_goals (with_reducible rfl)
      try simp only [Act.put, List.setIfInBounds_toArray, List.set_cons_zero, List.set_cons_succ]
      refine wpAnyH_take (i := 8) (oi := ⟨some 151, _, _, _, _, _⟩) (v := ?_) rfl (by kernel_rfl) (by kernel_rfl) (by kernel_rfl) (fun _ _ _ h => h) (Or.inl ⟨by rfl, ?_⟩) (by assumption) ?_
      rotate_left
      · intro w hSw
        (try dsimp only at hSw)
        go_simp
        all_goals (with_reducible rfl)
      try simp only [Act.put, List.setIfInBounds_toArray, List.set_cons_zero, List.set_cons_succ]
      refine wpAnyH_take (i := 9) (oi := ⟨some 152, _, _, _, _, _⟩) (v := ?_) rfl (by kernel_rfl) (by kernel_rfl) (by kernel_rfl) (fun _ _ _ h => h) (Or.inl ⟨by rfl, ?_⟩) (by assumption) ?_
      rotate_left
      · intro w hSw
        (try dsimp only at hSw)
        go_simp
        all_goals (with_reducible rfl)
      try simp only [Act.put, List.setIfInBounds_toArray, List.set_cons_zero, List.set_cons_succ]
      refine wpAnyH_take (i := 10) (oi := ⟨some 153, _, _, _, _, _⟩) (v := (.agg #[.string s1, .int .i64 s2, .int .i64 s3])) rfl (by kernel_rfl) (by kernel_rfl) (by kernel_rfl) (fun _ _ _ h => h) (Or.inl ⟨by rfl, ?_⟩) (by assumption) ?_
      · intro w hSw
        (try dsimp only at hSw)
        have y0 : w.cell? ⟨g, i * 3, none⟩ = some (.string s1) := hSw.1 0 _ rfl
        have y1 := hSw.1 1 _ rfl
        have y2 := hSw.1 2 _ rfl
        have u0 : w.cell? ⟨g2, o2 + i * 3, none⟩ = some (.string s1) := hSw.2.1 0 _ rfl
        have u1 := hSw.2.1 1 _ rfl
        have u2 := hSw.2.1 2 _ rfl
        have x5 := hSw.2.2.cell 5
        go_simp
        all_goals (first | done | simp)
      try simp only [Act.put, List.setIfInBounds_toArray, List.set_cons_zero, List.set_cons_succ]
      refine wpAnyH_take (i := 11) (oi := ⟨some 154, _, _, _, _, _⟩) (v := (.bool true)) rfl (by kernel_rfl) (by kernel_rfl) (by kernel_rfl) (fun _ _ _ h => h) (Or.inl ⟨by rfl, ?_⟩) (by assumption) ?_
      · intro w hSw
        (try dsimp only at hSw)
        go_simp
        all_goals (first | done | simp)
      try simp only [Act.put, List.setIfInBounds_toArray, List.set_cons_zero, List.set_cons_succ]
      refine wpAnyH_take (i := 12) (oi := ⟨some 155, _, _, _, _, _⟩) (v := (.bool true)) rfl (by kernel_rfl) (by kernel_rfl) (by kernel_rfl) (fun _ _ _ h => h) (Or.inl ⟨by rfl, ?_⟩) (by assumption) ?_
      · intro w hSw
        (try dsimp only at hSw)
        go_simp
        all_goals (first | done | simp)
      try simp only [Act.put, List.setIfInBounds_toArray, List.set_cons_zero, List.set_cons_succ]
      refine wpAnyH_take (i := 13) (oi := ⟨some 7, _, _, _, _, _⟩) (v := ?_) rfl (by kernel_rfl) (by kernel_rfl) (by kernel_rfl) (fun _ _ _ h => h) (Or.inl ⟨by rfl, ?_⟩) (by assumption) ?_
      rotate_left
      · intro w hSw
        (try dsimp only at hSw)
        go_simp
        all_goals (with_reducible rfl)
      try simp only [Act.put, List.setIfInBounds_toArray, List.set_cons_zero, List.set_cons_succ]
      refine wpAnyH_done (by kernel_rfl) ?_ _
      refine NoPanic.normal ?_
      clear hall
      go_wp2
      go_roundw
      case rel => exact ⟨i + 1, by omega, rfl, by go_num, hBd⟩
      case measure => simp [intOf]; omega
    · obtain rfl : i = n1 := by omega
      have i1 : ¬ (i : Int) < (i : Int) := by omega
      go_wp2
      exact HQ.out _ _ _ _ _ _ _ _ _ _ _ _ _ _ _ _ _ _ _ _ _ _ _ _ _ _ _ _ _ _ _ _ _ _ _ _ _ _ _ _ _ _ _ _ _ _ _ _ _ _ _ _ _ _ _ _ _ _ _ _ _ _ _ _ _ _ _ _ _ _ _ _ _ _ _ _ _ _ _ _ _ _ _ _ _ _ _ _ _ _ _ _ _ _ _ _ _ _ _ _ _ _ _ _ _ _ _ _ _ _ _ _ _ _ _ _ _ _ _ _ _ _ _ _ _ _ _ _ _ _ _ _ _ _ _ _ _ _ _ _ _ _ _ _ _ _ _ _ _ _ _ _ _ _ _ _ _ _ _ _ _ (HS3.out.low hB) (HX3.out.below hB HX3.out.lt)

end Go.Proofs.Ytmmlpbepaefamaa
