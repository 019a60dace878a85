/- AccessTurned: the calls that add, in another order. -/
import Derived.Test.YtglcingpolpkdaaATSplit
import Derived.Deep.QuietTactic
import Derived.BigQuiet
namespace Go.Proofs.Ytglcingpolpkdaa
open Go.RowKit

/-- reliquarykit.Pick. -/
def pickZ (x n : Int) : Int := if x.tmod n < 0 then x.tmod n + n else x.tmod n
theorem pick_in (x : Int) (n : Nat) (h0 : 0 < n) : ∃ y : Nat, pickZ x n = y ∧ y < n := by
  have a1 : x.tmod n < n := Int.tmod_lt_of_pos x (by omega)
  have a2 : -(n : Int) < x.tmod n := by
    have := Int.lt_tmod_of_pos x (b := (n : Int)) (by omega)
    omega
  unfold pickZ
  split
  · exact ⟨(x.tmod n + n).toNat, by omega, by omega⟩
  · exact ⟨(x.tmod n).toNat, by omega, by omega⟩
set_option maxRecDepth 100000 in
theorem pick_calls (w : World) (x : Int) (n : Nat) (h0 : 0 < n) (hn : n ≤ 1000000000) : Calls Try.prog 19 #[.int .i64 x, .int .i64 n] w fun e w' => e = .returned (.int .i64 (pickZ x n)) ∧ ∃ q, w' = w.drewN q := by
  have i0 : ¬ (n : Int) < 1 := by omega
  have i1 : ¬ (n : Int) = 0 := by omega
  have a1 : x.tmod n < n := Int.tmod_lt_of_pos x (by omega)
  have a2 : -(n : Int) < x.tmod n := by
    have := Int.lt_tmod_of_pos x (b := (n : Int)) (by omega)
    omega
  unfold pickZ
  obtain ⟨r, hr⟩ : ∃ r, x.tmod n = r := ⟨_, rfl⟩
  rw [hr] at a1 a2
  have s1 : IntKind.i64.wrap (x.tmod n) = r := by
    rw [hr]
    exact IntWalk.i64_in _ (by omega)
  have s2 : IntKind.i64.wrap r = r := IntWalk.i64_in _ (by omega)
  rw [hr]
  by_cases hneg : r < 0
  · have s3 : IntKind.i64.wrap (r + n) = r + n := IntWalk.i64_in _ (by omega)
    rw [if_pos hneg]
    go_enter Try.func19, Try.ntmps19
    go_wp2
    go_ret
    exact ⟨rfl, 0, rfl⟩
  · rw [if_neg hneg]
    go_enter Try.func19, Try.ntmps19
    go_wp2
    go_ret
    exact ⟨rfl, 0, rfl⟩

/-- Numbers lie in a slice. -/
def IntsAt (w : World) (v : Value) (l : List Int) : Prop :=
  (∃ a c, v = .slice a 0 c ∧ l = []) ∨ ∃ b off c, v = .slice (some ⟨b, off, none⟩) l.length c ∧ b < w.heap.size ∧ ∀ j z, l[j]? = some z → w.cell? ⟨b, off + j, none⟩ = some (.int .i64 z)
theorem IntsAt.at {w : World} {p : Option Addr} {n c i : Nat} {l : List Int} {z : Int} (h : IntsAt w (.slice p n c) l) (hz : l[i]? = some z) : ∃ b off, p = some ⟨b, off, none⟩ ∧ b < w.heap.size ∧ w.cell? ⟨b, off + i, none⟩ = some (.int .i64 z) := by
  rcases h with ⟨_, _, _, rfl⟩ | ⟨b, off, c', he, hl, hc⟩
  · simp at hz
  · injection he with he
    exact ⟨b, off, he, hl, hc i z hz⟩

theorem wp_load_act {op : Oper} {a : Act} {w : World} {K : Act → World → Prop} {Q : Exit → Act → World → Prop} (x : Operand) (ho : op.op = .load 38 x) (b o : Nat) (hx : a.eval x = .pointer (some ⟨b, o, none⟩)) (q : Ac) (hc : w.rangeAt b o q.cells)
    (h : K (a.put op.dst (.agg q.cells.toArray)) w) : op.wp Try.prog a w K Q := wp_load_mid 38 x ho b o hx q.cells _ hc Try.underlying38 (by rfl) size_ac h
theorem wp_store_act {op : Oper} {a : Act} {w : World} {K : Act → World → Prop} {Q : Exit → Act → World → Prop} (x y : Operand) (ho : op.op = .store 38 x y) (b o : Nat) (q : Ac) (hx : a.eval x = .pointer (some ⟨b, o, none⟩)) (hy : a.eval y = .agg q.cells.toArray) (ht : w.there b o 10)
    (h : K (a.put op.dst undef) (w.setCells b o q.cells)) : op.wp Try.prog a w K Q :=
  wp_store_mid 38 x y ho b o q.cells.toArray hx hy (by simpa [cells_ac] using ht) (by rw [size_ac]; simp [cells_ac]) (all_oneCell_toArray (cells_one q)) (by simpa using h)

noncomputable def turnedSwap : Code := subCode [1, 1, 1, 1, 1, 1, 0, 1] ((Try.f4.body).getD .skip)

set_option maxRecDepth 100000 in
set_option maxHeartbeats 4000000 in
theorem turned_swap {z0 z2 z3 z4 z5 z6 z7 z8 z9 z10 z13 z14 z15 z16 z17 z18 z19 z20 z21 z22 z23 z24 z25 z26 z27 z28 z29 z30 z31 z32 z33 z34 z35 z36 z37 z38 z39 z40 z41 z42 z43 z44 z45 z46 z47 z48 z49 z50 z51 z52 z53 z54 z55 z56 z57 z58 z59 z60 z61 z62 z63 z64 z65 z66 z67 z68 z69 z70 z71 z72 z73 z74 z75 z76 z77 z78 z79 z80 z81 z82 z83 z84 z85 z86 z87 z88 z89 z90 z91 z92 z93 z94 z95 z96 z97 z98 z99 z100 z101 z102 z103 z104 z105 z106 z107 z108 z109 z110 z111 z112 z113 z114 z115 z116 z117 z118 z119 z120 z121 z122 z123 z124 z125 z126 z127 z128 z129 z130 z131 z132 z133 z134 z135 z136 z137 z138 z139 z140 z141 z142 z143 z144 z145 z146 z147 z148 z149 z150 z151 z152 z153 z154 z155 : Value} (W w : World) (tp : Option Addr) (T tc g n c : Nat) (zs : List Int) (ls0 : List Ac) (hI : IntsAt W (.slice tp T tc) zs) (hT : zs.length = T) (hB0 : Below W.heap.size W w) (hgW : W.heap.size ≤ g) (hR0 : RowA w g ls0) (hn0 : ls0.length = n) (hz0 : g < w.heap.size) (hn : n ≤ 1000) {Q : Exit → Act → World → Prop}
    (hq : ∀ (y12 y13 y14 y74 y75 y76 y77 y78 y79 y80 y81 y82 y83 y84 y85 y86 y87 y88 y89 y90 y91 y92 y93 y94 y95 y96 y97 y98 y99 y100 y101 y102 y103 y104 y105 y106 y107 y108 y109 y110 y111 y112 y113 : Value) (w' : World) (ls : List Ac), ls.length = n → (∀ a, a ∈ ls ↔ a ∈ ls0) → RowA w' g ls → Below W.heap.size W w' → g < w'.heap.size → Q .normal ⟨(z0 :: .slice tp T tc :: z2 :: z3 :: z4 :: z5 :: z6 :: z7 :: z8 :: z9 :: z10 :: .slice (some ⟨g, 0, none⟩) n c :: y12 :: y13 :: y14 :: z15 :: z16 :: z17 :: z18 :: z19 :: z20 :: z21 :: z22 :: z23 :: z24 :: z25 :: z26 :: z27 :: z28 :: z29 :: z30 :: z31 :: z32 :: z33 :: z34 :: z35 :: z36 :: z37 :: z38 :: z39 :: z40 :: z41 :: z42 :: z43 :: z44 :: z45 :: z46 :: z47 :: z48 :: z49 :: z50 :: z51 :: z52 :: z53 :: z54 :: z55 :: z56 :: z57 :: z58 :: z59 :: z60 :: z61 :: z62 :: z63 :: z64 :: z65 :: z66 :: z67 :: z68 :: z69 :: z70 :: z71 :: z72 :: z73 :: y74 :: y75 :: y76 :: y77 :: y78 :: y79 :: y80 :: y81 :: y82 :: y83 :: y84 :: y85 :: y86 :: y87 :: y88 :: y89 :: y90 :: y91 :: y92 :: y93 :: y94 :: y95 :: y96 :: y97 :: y98 :: y99 :: y100 :: y101 :: y102 :: y103 :: y104 :: y105 :: y106 :: y107 :: y108 :: y109 :: y110 :: y111 :: y112 :: y113 :: z114 :: z115 :: z116 :: z117 :: z118 :: z119 :: z120 :: z121 :: z122 :: z123 :: z124 :: z125 :: z126 :: z127 :: z128 :: z129 :: z130 :: z131 :: z132 :: z133 :: z134 :: z135 :: z136 :: z137 :: z138 :: z139 :: z140 :: z141 :: z142 :: z143 :: z144 :: z145 :: z146 :: z147 :: z148 :: z149 :: z150 :: z151 :: z152 :: z153 :: z154 :: z155 :: []).toArray, []⟩ w') : Code.wp Try.prog turnedSwap Q ⟨(z0 :: .slice tp T tc :: z2 :: z3 :: z4 :: z5 :: z6 :: z7 :: z8 :: z9 :: z10 :: .slice (some ⟨g, 0, none⟩) n c :: .int .i64 0 :: z13 :: z14 :: z15 :: z16 :: z17 :: z18 :: z19 :: z20 :: z21 :: z22 :: z23 :: z24 :: z25 :: z26 :: z27 :: z28 :: z29 :: z30 :: z31 :: z32 :: z33 :: z34 :: z35 :: z36 :: z37 :: z38 :: z39 :: z40 :: z41 :: z42 :: z43 :: z44 :: z45 :: z46 :: z47 :: z48 :: z49 :: z50 :: z51 :: z52 :: z53 :: z54 :: z55 :: z56 :: z57 :: z58 :: z59 :: z60 :: z61 :: z62 :: z63 :: z64 :: z65 :: z66 :: z67 :: z68 :: z69 :: z70 :: z71 :: z72 :: z73 :: z74 :: z75 :: z76 :: z77 :: z78 :: z79 :: z80 :: z81 :: z82 :: z83 :: z84 :: z85 :: z86 :: z87 :: z88 :: z89 :: z90 :: z91 :: z92 :: z93 :: z94 :: z95 :: z96 :: z97 :: z98 :: z99 :: z100 :: z101 :: z102 :: z103 :: z104 :: z105 :: z106 :: z107 :: z108 :: z109 :: z110 :: z111 :: z112 :: z113 :: z114 :: z115 :: z116 :: z117 :: z118 :: z119 :: z120 :: z121 :: z122 :: z123 :: z124 :: z125 :: z126 :: z127 :: z128 :: z129 :: z130 :: z131 :: z132 :: z133 :: z134 :: z135 :: z136 :: z137 :: z138 :: z139 :: z140 :: z141 :: z142 :: z143 :: z144 :: z145 :: z146 :: z147 :: z148 :: z149 :: z150 :: z151 :: z152 :: z153 :: z154 :: z155 :: []).toArray, []⟩ w := by
  conv => arg 2; whnf
  have HQ := Lib.hid hq
  have HI := Lib.hid hI
  have HT := Lib.hid hT
  clear hq hI hT
  go_wp2
  go_loopw [12] (fun i wr => ∃ k : Nat, k ≤ 100 ∧ i = .int .i64 k ∧ ∃ ls : List Ac, ls.length = n ∧ (∀ a, a ∈ ls ↔ a ∈ ls0) ∧ RowA wr g ls ∧ Below W.heap.size W wr ∧ g < wr.heap.size) (fun i _ => 100 - (intOf i).toNat)
  case atStart => exact ⟨0, by omega, rfl, ls0, hn0, fun _ => Iff.rfl, hR0, hB0, hz0⟩
  case round =>
    obtain ⟨k, hk, rfl, ls, hlen, hmem, hR, hB, hz⟩ := hrel
    clear hB0 hR0 hz0 hn0
    have HM := Lib.hid hmem
    clear hmem
    by_cases hlt : k < T ∧ k < 100 ∧ 0 < n
    · obtain ⟨hl1, hl2, hl3⟩ := hlt
      obtain ⟨z, hz1⟩ : ∃ z, zs[k]? = some z := ⟨_, List.getElem?_eq_getElem (by rw [HT.out]; exact hl1)⟩
      obtain ⟨tb, toff, rfl, htb, c0⟩ := HI.out.at hz1
      replace c0 := (hB.cell (p := ⟨tb, toff + k, none⟩) htb).trans c0
      obtain ⟨y, hy, hyn⟩ := pick_in z n hl3
      obtain ⟨x, hx⟩ : ∃ x, k % n = x := ⟨_, rfl⟩
      have hxn : x < n := hx ▸ Nat.mod_lt _ hl3
      obtain ⟨ax, hax⟩ : ∃ a, ls[x]? = some a := ⟨_, List.getElem?_eq_getElem (by rw [hlen]; exact hxn)⟩
      obtain ⟨ay, hay⟩ : ∃ a, ls[y]? = some a := ⟨_, List.getElem?_eq_getElem (by rw [hlen]; exact hyn)⟩
      have PK := Lib.hid (fun w => hy ▸ pick_calls w z n hl3 (by omega))
      have i1 : (k : Int) < (T : Int) := by omega
      have i2 : (k : Int) < 100 := by omega
      have i3 : (0 : Int) < (n : Int) := by omega
      have i4 : 0 ≤ (k : Int) ∧ (k : Int) < (T : Int) := by omega
      have i5 : ¬ (n : Int) = 0 := by omega
      have i6 : IntKind.i64.wrap ((k : Int).tmod (n : Int)) = (x : Int) := by
        rw [Int.tmod_eq_emod_of_nonneg (by omega), ← Int.natCast_emod, hx]
        exact IntWalk.i64_in _ (by omega)
      have i7 : 0 ≤ (x : Int) ∧ (x : Int) < (n : Int) := by omega
      have i8 : 0 ≤ (y : Int) ∧ (y : Int) < (n : Int) := by omega
      have b2 : IntKind.i64.wrap ((k : Int) + 1) = (k : Int) + 1 := IntWalk.i64_in _ (by omega)
      clear hy hz1
      go_wp2
      go_quiet ((go_at_call 19; exact Calls.quiet_of (PK.out _)))
      have hR2 : RowA (wr.drewN nq) g ls := hR
      have hB2 : Below W.heap.size W (wr.drewN nq) := ⟨hB.os, hB.tape, hB.output, hB.size, hB.block⟩
      have hz2 : g < (wr.drewN nq).heap.size := hz
      clear c0 hR hB hz
      generalize wr.drewN nq = w2 at hR2 hB2 hz2 ⊢
      have hRd : RowA w2.drew g ls := hR2
      have hBd := hB2.drew
      have hzd : g < w2.drew.heap.size := hz2
      clear hR2 hB2 hz2
      rw [show (k : Int) % (n : Int) = (x : Int) by rw [← Int.natCast_emod, hx]]
      go_wp2
      refine wp_region_noPanic ?_
      refine wp_region_held_drew (S := fun _ => True) (by kernel_rfl) trivial (fun hhS => ?_)
      generalize w2.drew = wd at hRd hBd hzd ⊢
      refine wpAnyH_take (i := 0) (oi := ⟨some 100, _, _, _, _, _⟩) (v := ?_) rfl (by kernel_rfl) (by kernel_rfl) (by kernel_rfl) (fun _ _ _ h => h) (Or.inl ⟨by rfl, ?_⟩) (by assumption) ?_
      rotate_left
      · intro w hSw
        (try dsimp only at hSw)
        go_simp
        all_goals (with_reducible rfl)
      try simp only [Act.put, List.setIfInBounds_toArray, List.set_cons_zero, List.set_cons_succ]
      refine wpAnyH_take (i := 1) (oi := ⟨some 101, _, _, _, _, _⟩) (v := ?_) rfl (by kernel_rfl) (by kernel_rfl) (by kernel_rfl) (fun _ _ _ h => h) (Or.inl ⟨by rfl, ?_⟩) (by assumption) ?_
      rotate_left
      · intro w hSw
        (try dsimp only at hSw)
        go_simp
        all_goals (with_reducible rfl)
      try simp only [Act.put, List.setIfInBounds_toArray, List.set_cons_zero, List.set_cons_succ]
      refine wpAnyH_take (i := 2) (oi := ⟨some 102, _, _, _, _, _⟩) (v := ?_) rfl (by kernel_rfl) (by kernel_rfl) (by kernel_rfl) (fun _ _ _ h => h) (Or.inl ⟨by rfl, ?_⟩) (by assumption) ?_
      rotate_left
      · intro w hSw
        (try dsimp only at hSw)
        go_simp
        all_goals (with_reducible rfl)
      try simp only [Act.put, List.setIfInBounds_toArray, List.set_cons_zero, List.set_cons_succ]
      refine wpAnyH_take (i := 3) (oi := ⟨some 103, _, _, _, _, _⟩) (v := ?_) rfl (by kernel_rfl) (by kernel_rfl) (by kernel_rfl) (fun _ _ _ h => h) (Or.inl ⟨by rfl, ?_⟩) (by assumption) ?_
      rotate_left
      · intro w hSw
        (try dsimp only at hSw)
        go_simp
        all_goals (with_reducible rfl)
      try simp only [Act.put, List.setIfInBounds_toArray, List.set_cons_zero, List.set_cons_succ]
      refine wpAnyH_take (i := 4) (oi := ⟨some 104, _, _, _, _, _⟩) (v := ?_) rfl (by kernel_rfl) (by kernel_rfl) (by kernel_rfl) (fun _ _ _ h => h) (Or.inl ⟨by rfl, ?_⟩) (by assumption) ?_
      rotate_left
      · intro w hSw
        (try dsimp only at hSw)
        go_simp
        all_goals (with_reducible rfl)
      try simp only [Act.put, List.setIfInBounds_toArray, List.set_cons_zero, List.set_cons_succ]
      refine wpAnyH_take (i := 5) (oi := ⟨some 105, _, _, _, _, _⟩) (v := ?_) rfl (by kernel_rfl) (by kernel_rfl) (by kernel_rfl) (fun _ _ _ h => h) (Or.inl ⟨by rfl, ?_⟩) (by assumption) ?_
      rotate_left
      · intro w hSw
        (try dsimp only at hSw)
        go_simp
        all_goals (with_reducible rfl)
      try simp only [Act.put, List.setIfInBounds_toArray, List.set_cons_zero, List.set_cons_succ]
      refine wpAnyH_take (i := 6) (oi := ⟨some 106, _, _, _, _, _⟩) (v := ?_) rfl (by kernel_rfl) (by kernel_rfl) (by kernel_rfl) (fun _ _ _ h => h) (Or.inl ⟨by rfl, ?_⟩) (by assumption) ?_
      rotate_left
      · intro w hSw
        (try dsimp only at hSw)
        go_simp
        all_goals (with_reducible rfl)
      try simp only [Act.put, List.setIfInBounds_toArray, List.set_cons_zero, List.set_cons_succ]
      refine wpAnyH_take (i := 8) (oi := ⟨some 108, _, _, _, _, _⟩) (v := ?_) rfl (by kernel_rfl) (by kernel_rfl) (by kernel_rfl) (fun _ _ _ h => h) (Or.inl ⟨by rfl, ?_⟩) (by assumption) ?_
      rotate_left
      · intro w hSw
        (try dsimp only at hSw)
        go_simp
        all_goals (with_reducible rfl)
      try simp only [Act.put, List.setIfInBounds_toArray, List.set_cons_zero, List.set_cons_succ]
      refine wpAnyH_take (i := 9) (oi := ⟨some 109, _, _, _, _, _⟩) (v := ?_) rfl (by kernel_rfl) (by kernel_rfl) (by kernel_rfl) (fun _ _ _ h => h) (Or.inl ⟨by rfl, ?_⟩) (by assumption) ?_
      rotate_left
      · intro w hSw
        (try dsimp only at hSw)
        go_simp
        all_goals (with_reducible rfl)
      try simp only [Act.put, List.setIfInBounds_toArray, List.set_cons_zero, List.set_cons_succ]
      refine wpAnyH_take (i := 10) (oi := ⟨some 110, _, _, _, _, _⟩) (v := ?_) rfl (by kernel_rfl) (by kernel_rfl) (by kernel_rfl) (fun _ _ _ h => h) (Or.inl ⟨by rfl, ?_⟩) (by assumption) ?_
      rotate_left
      · intro w hSw
        (try dsimp only at hSw)
        go_simp
        all_goals (with_reducible rfl)
      try simp only [Act.put, List.setIfInBounds_toArray, List.set_cons_zero, List.set_cons_succ]
      obtain ⟨ld1, th1⟩ := hRd x _ hax
      obtain ⟨ld2, th2⟩ := hRd y _ hay
      refine wpAnyH_ready (rs := [7, 11]) (by kernel_rfl) (by simp) ?_
      refine AllReadyH.cons (o := ⟨some 107, _, _, _, _, _⟩) rfl (fun K hK => ?_) ?_
      · rw [if_pos (by rfl)]
        refine wp_load_act _ (by rfl) g (y * 10) (by rfl) ay ld2 ?_
        refine hK.out _ _ trivial (fun _ => ?_)
        clear hK K
        try simp only [Act.put, List.setIfInBounds_toArray, List.set_cons_zero, List.set_cons_succ]
        refine wpAnyH_ready (rs := [11]) (by kernel_rfl) (by simp) ?_
        refine AllReadyH.cons (o := ⟨some 111, _, _, _, _, _⟩) rfl (fun K hK => ?_) AllReadyH.nil
        rw [if_pos (by rfl)]
        refine wp_load_act _ (by rfl) g (x * 10) (by rfl) ax ld1 ?_
        refine hK.out _ _ trivial (fun _ => ?_)
        clear hK K
        try simp only [Act.put, List.setIfInBounds_toArray, List.set_cons_zero, List.set_cons_succ]
        refine wpAnyH_take (i := 12) (oi := ⟨some 112, _, _, _, _, _⟩) (v := ?_) rfl (by kernel_rfl) (by kernel_rfl) (by kernel_rfl) (fun _ _ _ h => h) (Or.inl ⟨by rfl, ?_⟩) (by assumption) ?_
        rotate_left
        · intro w hSw
          (try dsimp only at hSw)
          go_simp
          all_goals (with_reducible rfl)
        try simp only [Act.put, List.setIfInBounds_toArray, List.set_cons_zero, List.set_cons_succ]
        refine wpAnyH_ready (rs := [13]) (by kernel_rfl) (by simp) ?_
        refine AllReadyH.cons (o := ⟨none, _, _, _, _, _⟩) rfl (fun K hK => ?_) AllReadyH.nil
        rw [if_pos (by rfl)]
        refine wp_store_act _ _ (by rfl) g (x * 10) ay (by rfl) (by rfl) th1 ?_
        refine hK.out _ _ trivial (fun _ => ?_)
        clear hK K
        try simp only [Act.put]
        have hR3 := hRd.set (show x < ls.length by omega) ay
        have hB3 := below_setCells g hgW ay.cells (x * 10) _ hBd
        have hz3 : g < (wd.setCells g (x * 10) ay.cells).heap.size := by rw [size_cells]; exact hzd
        generalize (wd.setCells g (x * 10) ay.cells) = w3 at hR3 hB3 hz3 ⊢
        obtain ⟨a3, ha3⟩ : ∃ a, (ls.set x ay)[y]? = some a := ⟨_, List.getElem?_eq_getElem (by rw [List.length_set, hlen]; exact hyn)⟩
        have th3 := (hR3 y _ ha3).2
        clear ha3 ld1 th1 ld2 th2 hRd hBd hzd
        refine wpAnyH_take (i := 14) (oi := ⟨some 113, _, _, _, _, _⟩) (v := ?_) rfl (by kernel_rfl) (by kernel_rfl) (by kernel_rfl) (fun _ _ _ h => h) (Or.inl ⟨by rfl, ?_⟩) (by assumption) ?_
        rotate_left
        · intro w hSw
          (try dsimp only at hSw)
          go_simp
          all_goals (with_reducible rfl)
        try simp only [Act.put, List.setIfInBounds_toArray, List.set_cons_zero, List.set_cons_succ]
        refine wpAnyH_ready (rs := [15]) (by kernel_rfl) (by simp) ?_
        refine AllReadyH.cons (o := ⟨none, _, _, _, _, _⟩) rfl (fun K hK => ?_) AllReadyH.nil
        rw [if_pos (by rfl)]
        refine wp_store_act _ _ (by rfl) g (y * 10) ax (by rfl) (by rfl) th3 ?_
        refine hK.out _ _ trivial (fun _ => ?_)
        clear hK K
        try simp only [Act.put]
        have hR4 := hR3.set (show y < (ls.set x ay).length by rw [List.length_set, hlen]; exact hyn) ax
        have hB4 := below_setCells g hgW ax.cells (y * 10) _ hB3
        have hz4 : g < (w3.setCells g (y * 10) ax.cells).heap.size := by rw [size_cells]; exact hz3
        generalize (w3.setCells g (y * 10) ax.cells) = w4 at hR4 hB4 hz4 ⊢
        clear th3 hR3 hB3 hz3
        refine wpAnyH_done (by kernel_rfl) ?_ _
        refine NoPanic.normal ?_
        go_wp2
        go_roundw
        case rel => exact ⟨k + 1, by omega, by go_num, (ls.set x ay).set y ax, by simp [hlen], fun q => (swap_mem ls x y ax ay hax hay q).trans (HM.out q), hR4, hB4, hz4⟩
        case measure => simp [intOf]; omega
      refine AllReadyH.cons (o := ⟨some 111, _, _, _, _, _⟩) rfl (fun K hK => ?_) AllReadyH.nil
      · rw [if_pos (by rfl)]
        refine wp_load_act _ (by rfl) g (x * 10) (by rfl) ax ld1 ?_
        refine hK.out _ _ trivial (fun _ => ?_)
        clear hK K
        try simp only [Act.put, List.setIfInBounds_toArray, List.set_cons_zero, List.set_cons_succ]
        refine wpAnyH_ready (rs := [7]) (by kernel_rfl) (by simp) ?_
        refine AllReadyH.cons (o := ⟨some 107, _, _, _, _, _⟩) rfl (fun K hK => ?_) AllReadyH.nil
        rw [if_pos (by rfl)]
        refine wp_load_act _ (by rfl) g (y * 10) (by rfl) ay ld2 ?_
        refine hK.out _ _ trivial (fun _ => ?_)
        clear hK K
        try simp only [Act.put, List.setIfInBounds_toArray, List.set_cons_zero, List.set_cons_succ]
        refine wpAnyH_take (i := 12) (oi := ⟨some 112, _, _, _, _, _⟩) (v := ?_) rfl (by kernel_rfl) (by kernel_rfl) (by kernel_rfl) (fun _ _ _ h => h) (Or.inl ⟨by rfl, ?_⟩) (by assumption) ?_
        rotate_left
        · intro w hSw
          (try dsimp only at hSw)
          go_simp
          all_goals (with_reducible rfl)
        try simp only [Act.put, List.setIfInBounds_toArray, List.set_cons_zero, List.set_cons_succ]
        refine wpAnyH_ready (rs := [13]) (by kernel_rfl) (by simp) ?_
        refine AllReadyH.cons (o := ⟨none, _, _, _, _, _⟩) rfl (fun K hK => ?_) AllReadyH.nil
        rw [if_pos (by rfl)]
        refine wp_store_act _ _ (by rfl) g (x * 10) ay (by rfl) (by rfl) th1 ?_
        refine hK.out _ _ trivial (fun _ => ?_)
        clear hK K
        try simp only [Act.put]
        have hR3 := hRd.set (show x < ls.length by omega) ay
        have hB3 := below_setCells g hgW ay.cells (x * 10) _ hBd
        have hz3 : g < (wd.setCells g (x * 10) ay.cells).heap.size := by rw [size_cells]; exact hzd
        generalize (wd.setCells g (x * 10) ay.cells) = w3 at hR3 hB3 hz3 ⊢
        obtain ⟨a3, ha3⟩ : ∃ a, (ls.set x ay)[y]? = some a := ⟨_, List.getElem?_eq_getElem (by rw [List.length_set, hlen]; exact hyn)⟩
        have th3 := (hR3 y _ ha3).2
        clear ha3 ld1 th1 ld2 th2 hRd hBd hzd
        refine wpAnyH_take (i := 14) (oi := ⟨some 113, _, _, _, _, _⟩) (v := ?_) rfl (by kernel_rfl) (by kernel_rfl) (by kernel_rfl) (fun _ _ _ h => h) (Or.inl ⟨by rfl, ?_⟩) (by assumption) ?_
        rotate_left
        · intro w hSw
          (try dsimp only at hSw)
          go_simp
          all_goals (with_reducible rfl)
        try simp only [Act.put, List.setIfInBounds_toArray, List.set_cons_zero, List.set_cons_succ]
        refine wpAnyH_ready (rs := [15]) (by kernel_rfl) (by simp) ?_
        refine AllReadyH.cons (o := ⟨none, _, _, _, _, _⟩) rfl (fun K hK => ?_) AllReadyH.nil
        rw [if_pos (by rfl)]
        refine wp_store_act _ _ (by rfl) g (y * 10) ax (by rfl) (by rfl) th3 ?_
        refine hK.out _ _ trivial (fun _ => ?_)
        clear hK K
        try simp only [Act.put]
        have hR4 := hR3.set (show y < (ls.set x ay).length by rw [List.length_set, hlen]; exact hyn) ax
        have hB4 := below_setCells g hgW ax.cells (y * 10) _ hB3
        have hz4 : g < (w3.setCells g (y * 10) ax.cells).heap.size := by rw [size_cells]; exact hz3
        generalize (w3.setCells g (y * 10) ax.cells) = w4 at hR4 hB4 hz4 ⊢
        clear th3 hR3 hB3 hz3
        refine wpAnyH_done (by kernel_rfl) ?_ _
        refine NoPanic.normal ?_
        go_wp2
        go_roundw
        case rel => exact ⟨k + 1, by omega, by go_num, (ls.set x ay).set y ax, by simp [hlen], fun q => (swap_mem ls x y ax ay hax hay q).trans (HM.out q), hR4, hB4, hz4⟩
        case measure => simp [intOf]; omega
    · by_cases h1 : k < T
      · have i1 : (k : Int) < (T : Int) := by omega
        by_cases h2 : k < 100
        · have i2 : (k : Int) < 100 := by omega
          have i3 : ¬ (0 : Int) < (n : Int) := by omega
          go_wp2
          exact HQ.out _ _ _ _ _ _ _ _ _ _ _ _ _ _ _ _ _ _ _ _ _ _ _ _ _ _ _ _ _ _ _ _ _ _ _ _ _ _ _ _ _ _ _ _ ls hlen HM.out hR hB hz
        · have i2 : ¬ (k : Int) < 100 := by omega
          go_wp2
          exact HQ.out _ _ _ _ _ _ _ _ _ _ _ _ _ _ _ _ _ _ _ _ _ _ _ _ _ _ _ _ _ _ _ _ _ _ _ _ _ _ _ _ _ _ _ _ ls hlen HM.out hR hB hz
      · have i1 : ¬ (k : Int) < (T : Int) := by omega
        go_wp2
        exact HQ.out _ _ _ _ _ _ _ _ _ _ _ _ _ _ _ _ _ _ _ _ _ _ _ _ _ _ _ _ _ _ _ _ _ _ _ _ _ _ _ _ _ _ _ _ ls hlen HM.out hR hB hz

end Go.Proofs.Ytglcingpolpkdaa
