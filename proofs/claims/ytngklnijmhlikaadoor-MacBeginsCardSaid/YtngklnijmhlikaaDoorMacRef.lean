/- The reference's Code. -/
import Derived.Test.YtngklnijmhlikaaDoorMacSame
import Derived.Maps.AppendAt
namespace Go.Proofs.YtngklnijmhlikaaDoor
open Go.RowKit

/-- 'append(s, c)', s the call's own: and where the new slice lies. -/
theorem wpList_append_one_at {w : World} {ops : Array Oper} {rest : List Oper} {o : Oper} {a : Act} {Q : Exit → Act → World → Prop} (hgd : o.guard = none) (s x : Operand)
    (ho : o.op = .call { callee := .builtin .append, args := #[s, x], argTypes := #[22, 22] })
    (B : Nat) (v : Value) (xs : List (BitVec 8)) (hs : a.eval s = v) (hown : Own w B v xs) (c : Value) (y : BitVec 8) (hc : c = vu8 y)
    (hx : a.eval x = .slice (some ⟨w.heap.size, 0, none⟩) 1 1) (hlen : xs.length + 1 ≤ 140737488355327) (hbase : B ≤ w.heap.size)
    (h : ∀ v' w', Own w' B v' (xs ++ [y]) → w.grownBy w' v.ownBlock → (∀ g, v'.ownBlock = some g → v.ownBlock = some g ∨ w.heap.size ≤ g) → wpList Tryd.prog ops Q rest (a.put o.dst v') w') :
    wpList Tryd.prog ops Q (o :: rest) a (w.alloc (.cells #[c] 5)) := by
  obtain ⟨i, hi, hz, hsz, hby⟩ := info_u8
  subst hc
  refine wpList_append_own_at (w := w.alloc (.cells #[vu8 y] 5)) hgd s x _ ho B _ i _ 1 1 Tryd.underlying22 hi hz hsz hby rfl (by decide) v xs.length (xs.map vu8) hs (World.ownsRow.alloc hown _) ⟨w.heap.size, 0, none⟩ 1 1 [vu8 y] hx rfl (cell_one_new _ _ _) (fun u hu => ?_) (by simp only [maxLen]; omega) (by omega) (by simp; omega) fun v' w' h1 h2 _ h4 => h v' w' ?_ (grown_trans (grown_alloc (World.grownBy.refl _ _) _) h2) (fun g hg => ?_)
  · have : u = vu8 y := by simpa using hu
    rw [this]
    rfl
  · unfold Own
    rw [List.length_append, List.map_append]
    exact h1
  · rcases h4 with h4 | h4
    · exact .inl (by rw [← h4]; exact hg)
    · right
      rw [h4] at hg
      simp at hg
      omega

theorem apart_kept {a b : Value} (h : ∀ g, a.ownBlock = some g → b.ownBlock ≠ some g) : b.ownBlock = none ∨ b.ownBlock ≠ a.ownBlock := by
  cases hb : b.ownBlock with
  | none => exact .inl rfl
  | some g => exact .inr (fun e => h g e.symm hb)

theorem xorAll_next (l : List (BitVec 8)) (c : BitVec 8) (j : Nat) (x : BitVec 8) (hx : l[j]? = some x) : xorAll (l.take (j + 1)) c = xorAll (l.take j) c ++ [x ^^^ c] := by
  have h1 : j < l.length := (List.getElem?_eq_some_iff.1 hx).1
  unfold xorAll
  rw [List.take_succ_eq_append_getElem h1, (List.getElem?_eq_some_iff.1 hx).2, List.map_append]
  rfl

noncomputable def refTail : Code := subCode [1, 1, 1, 1] ((Tryd.f29.body).getD .skip)

set_option maxRecDepth 100000 in
set_option maxHeartbeats 2000000 in
theorem refcode_tail {z0 z2 z3 z6 z7 z8 z9 z10 z11 z12 z13 z14 z15 z16 z17 z18 z19 z20 z21 z22 z23 z24 z25 z26 z27 z28 z29 z30 z31 z32 z33 z34 z35 z36 z37 z38 z39 z40 z41 z42 z43 z44 z45 z46 z47 z48 z49 z50 z51 z52 z53 z54 z55 : Value} (w wc : World) (gk ck : Nat) (KB b M : List (BitVec 8)) (lKB : KB.length = 64) (hgB : w.heap.size + 1 ≤ gk) (hgl : gk < wc.heap.size) (hgk : BytesAt wc gk 0 KB)
    (hR : Whole wc w.heap.size 25 (zeroNums .u8 32)) (hB : Below w.heap.size w wc) {bp : Option Addr} {bc : Nat} (hb : SliceIs w (.slice bp b.length bc) b) (hszb : b.length ≤ 500000000000) (hM : sha (xorAll KB 92#8 ++ sha (xorAll KB 54#8 ++ b)) = M) :
    Code.wp Tryd.prog refTail (bodyPost Tryd.prog Tryd.f29 fun e w' => e = .returned (.agg (M.map vu8).toArray) ∧ Below w.heap.size w w') ⟨(z0 :: .slice bp b.length bc :: z2 :: z3 :: .pointer (some ⟨w.heap.size, 0, none⟩) :: .slice (some ⟨gk, 0, none⟩) 64 ck :: z6 :: z7 :: z8 :: z9 :: z10 :: z11 :: z12 :: z13 :: z14 :: z15 :: z16 :: z17 :: z18 :: z19 :: z20 :: z21 :: z22 :: z23 :: z24 :: z25 :: z26 :: z27 :: z28 :: z29 :: z30 :: z31 :: z32 :: z33 :: z34 :: z35 :: z36 :: z37 :: z38 :: z39 :: z40 :: z41 :: z42 :: z43 :: z44 :: z45 :: z46 :: z47 :: z48 :: z49 :: z50 :: z51 :: z52 :: z53 :: z54 :: z55 :: []).toArray, []⟩ wc := by
  conv => arg 2; whnf
  go_upto_block 2 with (fail)
  have hbl := hb.lt
  go_wp2
  go_loopw [7, 8, 9] (fun v1 v2 iv wr => ∃ j : Nat, j ≤ 64 ∧ iv = .int .i64 j ∧ Own wr (w.heap.size + 1) v1 (xorAll (KB.take j) 54#8) ∧ Own wr (w.heap.size + 1) v2 (xorAll (KB.take j) 92#8) ∧ v1.ownBlock ≠ some gk ∧ v2.ownBlock ≠ some gk ∧ (∀ g, v1.ownBlock = some g → v2.ownBlock ≠ some g) ∧ BytesAt wr gk 0 KB ∧ gk < wr.heap.size ∧ Whole wr w.heap.size 25 (zeroNums .u8 32) ∧ Below w.heap.size w wr) (fun _ _ iv _ => 64 - (intOf iv).toNat)
  case atStart => exact ⟨0, by omega, rfl, by simpa [xorAll] using Own.nil _ _, by simpa [xorAll] using Own.nil _ _, by simp [Value.ownBlock], by simp [Value.ownBlock], by simp [Value.ownBlock], hgk, hgl, hR, hB⟩
  case round =>
    obtain ⟨j, hj, rfl, hO1, hO2, hn1, hn2, hap, hgr, hglr, hRr, hBr⟩ := hrel
    clear hgk hgl hR hB
    by_cases hlt : j < 64
    · obtain ⟨x, hx⟩ : ∃ x, KB[j]? = some x := ⟨_, List.getElem?_eq_getElem (by rw [lKB]; exact hlt)⟩
      have cX : wr.cell? ⟨gk, j, none⟩ = some (vu8 x) := by
        have := hgr j x hx
        rwa [Nat.zero_add] at this
      have i1 : (j : Int) < 64 := by omega
      have i2 : 0 ≤ (j : Int) ∧ (j : Int) < 64 := by omega
      have b2 : IntKind.i64.wrap ((j : Int) + 1) = (j : Int) + 1 := IntWalk.i64_in _ (by omega)
      have l1 : (xorAll (KB.take j) 54#8).length ≤ 64 := by rw [xorAll_length]; simp; omega
      have l2 : (xorAll (KB.take j) 92#8).length ≤ 64 := by rw [xorAll_length]; simp; omega
      have x1 := Lib.hid (xorAll_next KB 54#8 j x hx)
      have x2 := Lib.hid (xorAll_next KB 92#8 j x hx)
      have hrl := hRr.lt
      have HG := Lib.hid hgr
      clear hx hgr
      go_wp2_with (first
        | (at_builtin; refine wpList_append_one_at (by rfl) (.tmp 40) (.tmp 46) (by rfl) (w.heap.size + 1) u8 (xorAll (KB.take j) 92#8) (by rfl) hO2b _ (x ^^^ 92#8) (by rfl) (by rfl) (by omega) (by omega) ?_; intro v2' w2 hO2n hG2 hL2)
        | (at_builtin; refine wpList_append_one_at (by rfl) (.tmp 32) (.tmp 38) (by rfl) (w.heap.size + 1) u7 (xorAll (KB.take j) 54#8) (by rfl) hO1 _ (x ^^^ 54#8) (by rfl) (by rfl) (by omega) (by omega) ?_; intro v1' w1 hO1n hG1 hL1
           have hz1 := hG1.size
           have hO2b : Own w1 (w.heap.size + 1) u8 (xorAll (KB.take j) 92#8) := hO2.kept hG1 (apart_kept hap)
           have cX1 : w1.cell? ⟨gk, j, none⟩ = some (vu8 x) := World.grownBy.cell hG1 cX (fun e => hn1 e.symm))
        | fail)
      have ap1 : ∀ g, u8.ownBlock = some g → v1'.ownBlock ≠ some g := fun g h8 h1 => by
        rcases hL1 g h1 with h7 | hge
        · exact hap g h7 h8
        · have := (hO2.lt g h8).2
          omega
      have hz2 := hG2.size
      refine ⟨⟨j + 1, by omega, by go_num, ?_, ?_, fun h1 => ?_, fun h2 => ?_, fun g h1 h2 => ?_, ?_, by omega, ?_, ?_⟩, by simp [intOf]; omega⟩
      · rw [x1.out]
        exact hO1n.kept hG2 (apart_kept ap1)
      · rw [x2.out]
        exact hO2n
      · rcases hL1 gk h1 with h7 | hge
        · exact hn1 h7
        · omega
      · rcases hL2 gk h2 with h8 | hge
        · exact hn2 h8
        · omega
      · rcases hL2 g h2 with h8 | hge
        · exact ap1 g h8 h1
        · have := (hO1n.lt g h1).2
          omega
      · exact (HG.out.grown hG1 hglr (Ne.symm hn1)).grown hG2 (by omega) (Ne.symm hn2)
      · exact (hRr.grown hG1 (fun e => by have := hO1.high _ e.symm; omega)).grown hG2 (fun e => by have := hO2.high _ e.symm; omega)
      · exact (hBr.grown hG1 hBr.size (fun k hk => by have := hO1.high k hk; omega)).grown hG2 (by omega) (fun k hk => by have := hO2.high k hk; omega)
    · obtain rfl : j = 64 := by omega
      have hfull : KB.take 64 = KB := List.take_of_length_le (by omega)
      rw [hfull] at hO1 hO2
      have hb1 := hb.low hBr
      have hrl := hRr.lt
      have lI : (xorAll KB 54#8).length = 64 := by rw [xorAll_length, lKB]
      have lO : (xorAll KB 92#8).length = 64 := by rw [xorAll_length, lKB]
      have hBA : ∀ (wx : World) o, Below wx.heap.size wx (wx.alloc o) := fun wx o => (Below.refl _ _).alloc (Nat.le_refl _) o
      clear hgr hglr hn1 hn2
      go_upto_region 14 with (first
        | (at_builtin; refine wpList_append_bytes (by rfl) (.tmp 48) (.tmp 49) (by rfl) (w.heap.size + 1) u7 (xorAll KB 54#8) (by rfl) hO1 _ b (by rfl) hb1 (by omega) (by omega) ?_; intro v1' w1 hO1n hG1)
        | (go_at_call 19; refine (refsum_calls w1 _ _ hO1n.slice (by simp [lI]; omega)).mono ?_; rintro e w2 ⟨rfl, hB2⟩)
        | (refine wpList_alloc_row (by rfl) 25 (by rfl) _ _ info_d ?_)
        | (refine wpList_store_new (o := ⟨none, _, _, _, _, _⟩) (by rfl) 25 _ _ (by rfl) _ ((sha (xorAll KB 54#8 ++ b)).map vu8).toArray 25 (by rfl) (by rfl) (by rw [size_d]; simp [sha_length]) (by simp [zeroNums, sha_length]) (all_u8 _) ?_)
        | fail)
      have hO2b : Own w1 (w.heap.size + 1) u8 (xorAll KB 92#8) := hO2.kept hG1 (apart_kept hap)
      have hR1 := hRr.grown hG1 (fun e => by have := hO1.high _ e.symm; omega)
      have hBw1 := hBr.grown hG1 hBr.size (fun k hk => by have := hO1.high k hk; omega)
      have hB13 := hB2.trans ((hBA w2 (.cells ((sha (xorAll KB 54#8 ++ b)).map vu8).toArray 25)).mono hB2.size)
      have hO3 := hO2b.low hB13
      have hR3 := hR1.below hB13 hR1.lt
      have hBw3 := hBw1.trans (hB13.mono hBw1.size)
      have hD3 := Whole.new w2 25 ((sha (xorAll KB 54#8 ++ b)).map vu8).toArray
      have lS : (sha (xorAll KB 54#8 ++ b)).length = 32 := sha_length _
      obtain ⟨S, hS⟩ : ∃ S, sha (xorAll KB 54#8 ++ b) = S := ⟨_, rfl⟩
      rw [hS] at hD3 lS hM hO3 hR3 hBw3 ⊢
      try simp only [Act.put, List.setIfInBounds_toArray, List.set_cons_zero, List.set_cons_succ]
      generalize (w2.alloc (.cells (S.map vu8).toArray 25)) = w3 at *
      generalize w2.heap.size = D at *
      have hSD : SliceIs w3 (.slice (some ⟨D, 0, none⟩) 32 32) S := SliceIs.whole hD3 lS
      have hr3l := hR3.lt
      have lM : M.length = 32 := by rw [← hM]; exact sha_length _
      clear hS hO2b hR1 hBw1 hB13 hB2 hO2 hO1 hO1n hG1 hRr hBr hb1 hap
      go_wp2_with (first
        | (at_builtin; refine wpList_append_bytes (by rfl) (.tmp 52) (.tmp 53) (by rfl) (w.heap.size + 1) u8 (xorAll KB 92#8) (by rfl) hO3 _ S (by rfl) hSD (by omega) (by omega) ?_; intro v4 w4 hO4 hG4
           have hR4 := hR3.grown hG4 (fun e => (by have := hO3.high _ e.symm; omega))
           have hBw4 := hBw3.grown hG4 hBw3.size (fun k hk => (by have := hO3.high k hk; omega)))
        | (go_at_call 19; refine (refsum_calls w4 _ _ hO4.slice (by simp [lO, lS])).mono ?_; rw [hM]; rintro e w5 ⟨rfl, hB5⟩
           have hR5 := hR4.below hB5 hR4.lt)
        | (refine wpList_store_row (o := ⟨none, _, _, _, _, _⟩) (by rfl) 25 _ _ (by rfl) w.heap.size (M.map vu8).toArray (by rfl) (by rfl) 25 _ hR5 (by rw [size_d]; simp [lM]) (by simp [zeroNums, lM]) (all_u8 _) ?_)
        | fail)
      refine bodyPost_ret (results_cell_row rfl _ _ w.heap.size 25 _ (0, 0) _ rfl (hR5.row (M.map vu8)) Tryd.underlying25 rfl (by rw [size_d]; simp [lM])) rfl ⟨rfl, ?_⟩
      have hBf := hBw4.trans (hB5.mono hBw4.size)
      exact hBf.grown (grown_row (World.grownBy.refl _ (some w.heap.size)) (.inl rfl) _) hBf.size (fun k hk => by simp at hk; omega)

set_option maxRecDepth 100000 in
set_option maxHeartbeats 2000000 in
theorem refcode_calls (w : World) (sk sb : Value) (key b : List (BitVec 8)) (hk : SliceIs w sk key) (hb : SliceIs w sb b) (hszk : key.length ≤ 500000000000) (hszb : b.length ≤ 500000000000) :
    Calls Tryd.prog 29 #[sk, sb] w fun e w' => e = .returned (.agg ((macCode key b).map vu8).toArray) ∧ Below w.heap.size w w' := by
  have hBA : ∀ (wx : World) o, Below wx.heap.size wx (wx.alloc o) := fun wx o => (Below.refl _ _).alloc (Nat.le_refl _) o
  obtain ⟨bp, bc, rfl, _⟩ := hb.cells
  go_enter Tryd.func29, Tryd.ntmps29
  go_upto_region 1 with (refine wpList_alloc_row (by rfl) 25 (by rfl) _ _ info_d ?_)
  have hR1 := Whole.new w 25 (zeroNums .u8 32).toArray
  have hB1 := hBA w (.cells (zeroNums .u8 32).toArray 25)
  have hz1 : (w.alloc (.cells (zeroNums .u8 32).toArray 25)).heap.size = w.heap.size + 1 := by simp
  generalize (w.alloc (.cells (zeroNums .u8 32).toArray 25)) = w1 at *
  replace hR1 : Whole w1 w.heap.size 25 (zeroNums .u8 32) := hR1
  have hk1 := hk.low hB1
  go_upto_region 2 with (at_builtin; refine wpList_append_bytes (by rfl) (.tmp 11) (.tmp 12) (by rfl) (w.heap.size + 1) _ [] (by rfl) (Own.made w1 _ _ hz1 (by omega)) _ key (by rfl) (hk1.alloc _) (by simp; omega) (by simp; omega) ?_; intro v2 w2 hO2 hG2)
  rw [List.nil_append] at hO2
  have hne2 : ∀ k, (Value.slice (some ⟨w.heap.size + 1, 0, none⟩) 0 0).ownBlock = some k → w.heap.size + 1 ≤ k := fun k hk => by
    simp [Value.ownBlock] at hk
    omega
  have hR2 := (hR1.alloc (.cells #[] 5)).grown hG2 (fun e => by have := hne2 _ e.symm; omega)
  have hBw2 := (hB1.trans ((hBA w1 (.cells #[] 5)).mono (by omega))).grown hG2 (by simp; omega) (fun k hk => by have := hne2 k hk; omega)
  obtain ⟨kp, kc, hv2, _⟩ := hO2.slice.cells
  subst hv2
  have hr2l := hR2.lt
  clear hne2 hG2 hR1 hB1 hk1 hz1
  by_cases hbig : 64 < key.length
  · have i1 : (64 : Int) < (key.length : Int) := by omega
    have hko : keyOf key = sha key := if_pos hbig
    obtain ⟨S, hS⟩ : ∃ S, sha key = S := ⟨_, rfl⟩
    have lS : S.length = 32 := by rw [← hS]; exact sha_length _
    rw [hS] at hko
    have RS := Lib.hid (fun (wx : World) (sl : Value) (hsl : SliceIs wx sl key) => hS ▸ refsum_calls wx key sl hsl (by omega))
    have HKO := Lib.hid hko
    clear hS hko
    go_upto_block 0 with (first
      | (go_at_call 19; refine (RS.out w2 _ hO2.slice).mono ?_; rintro e w3 ⟨rfl, hB3⟩
         have hR3 := hR2.below hB3 hr2l
         have hBw3 := hBw2.trans (hB3.mono hBw2.size)
         have hz3 := hR3.lt)
      | (refine wpList_alloc_row (by rfl) 25 (by rfl) _ _ info_d ?_)
      | (refine wpList_store_new (o := ⟨none, _, _, _, _, _⟩) (by rfl) 25 _ _ (by rfl) _ (S.map vu8).toArray 25 (by rfl) (by rfl) (by rw [size_d]; simp [lS]) (by simp [zeroNums, lS]) (all_u8 _) ?_)
      | (at_builtin; refine wpList_append_bytes (by rfl) (.tmp 19) (.tmp 20) (by rfl) (w.heap.size + 1) _ [] (by rfl) (Own.made (w3.alloc (.cells (S.map vu8).toArray 25)) _ (w3.heap.size + 1) (by simp) (by simp; omega)) _ S (by rfl) ((SliceIs.whole (Whole.new w3 25 (S.map vu8).toArray) lS).alloc _) (by simp [lS]) (by simp; omega) ?_; intro v5 w5 hO5 hG5)
      | fail)
    rw [List.nil_append, ← HKO.out] at hO5
    have hne5 : ∀ k, (Value.slice (some ⟨w3.heap.size + 1, 0, none⟩) 0 0).ownBlock = some k → w.heap.size + 1 ≤ k := fun k hk => by
      simp [Value.ownBlock] at hk
      omega
    have hR := ((hR3.alloc (.cells (S.map vu8).toArray 25)).alloc (.cells #[] 5)).grown hG5 (fun e => by have := hne5 _ e.symm; omega)
    have hB := ((hBw3.trans ((hBA w3 (.cells (S.map vu8).toArray 25)).mono hBw3.size)).trans ((hBA (w3.alloc (.cells (S.map vu8).toArray 25)) (.cells #[] 5)).mono (by simp; omega))).grown hG5 (by simp; omega) (fun k hk => by have := hne5 k hk; omega)
    have hO := hO5
    clear hO5 hG5 hne5 hR3 hBw3 hB3 hR2 hBw2 hO2
    have hkl := keyOf_le key
    have hkd : keyBlock key = keyOf key ++ List.replicate (64 - (keyOf key).length) 0#8 := rfl
    obtain ⟨KK, hKK⟩ : ∃ KK, keyOf key = KK := ⟨_, rfl⟩
    obtain ⟨KB, hKB⟩ : ∃ KB, keyBlock key = KB := ⟨_, rfl⟩
    have lKB : KB.length = 64 := by rw [← hKB]; exact keyBlock_length key
    rw [hKK] at hkl hkd hO
    rw [hKB] at hkd
    obtain ⟨m, hm⟩ : ∃ m, KK.length = m := ⟨_, rfl⟩
    rw [hm] at hkl hkd
    have HM := Lib.hid hm
    have HKD := Lib.hid hkd
    have HKB := Lib.hid hKB
    clear hm hkd hKK hKB
    go_cut [5] (fun v w' => Own w' (w.heap.size + 1) v KB ∧ Whole w' w.heap.size 25 (zeroNums .u8 32) ∧ Below w.heap.size w w')
    case first =>
      go_wp2
      go_loopw [5] (fun v wr => ∃ j : Nat, m + j ≤ 64 ∧ Own wr (w.heap.size + 1) v (KK ++ List.replicate j 0#8) ∧ Whole wr w.heap.size 25 (zeroNums .u8 32) ∧ Below w.heap.size w wr) (fun v _ => 64 - lenOf v)
      case atStart => exact ⟨0, by omega, by simpa using hO, hR, hB⟩
      case round =>
        obtain ⟨j, hj, hOr, hRr, hBr⟩ := hrel
        clear hO hR hB
        obtain ⟨sp', cp', hv, _⟩ := hOr.slice.cells
        subst hv
        obtain ⟨L, hL⟩ : ∃ L, (KK ++ List.replicate j 0#8).length = L := ⟨_, rfl⟩
        have hL2 : L = m + j := by rw [← hL]; simp [HM.out]
        rw [hL] at hOr ⊢
        have hrl := hRr.lt
        by_cases hlt : L < 64
        · have i1 : (L : Int) < 64 := by omega
          have t2 : w.heap.size + 1 ≤ wr.heap.size := hrl
          go_wp2_with (at_builtin; refine wpList_append_one (by rfl) (.tmp 25) (.tmp 26) (by rfl) (w.heap.size + 1) _ _ (by rfl) hOr (.int .u8 0) 0#8 (by rfl) (by rfl) (by rw [hL]; omega) t2 ?_; intro v1 w1' hO1 hG1)
          have hne : ∀ k, (Value.slice sp' L cp').ownBlock = some k → w.heap.size + 1 ≤ k := fun k hk => hOr.high k hk
          refine ⟨⟨j + 1, by omega, ?_, hRr.grown hG1 (fun e => by have := hne _ e.symm; omega), hBr.grown hG1 hBr.size (fun k hk => by have := hne k hk; omega)⟩, ?_⟩
          · rw [List.replicate_succ', ← List.append_assoc]
            exact hO1
          · obtain ⟨sp2, cp2, hv2, _⟩ := hO1.slice.cells
            subst hv2
            simp only [lenOf, List.length_append, List.length_singleton] at hL ⊢
            omega
        · have hj2 : j = 64 - m := by omega
          obtain rfl : L = 64 := by omega
          subst hj2
          clear hL hL2 hj hlt
          rw [← HKD.out] at hOr
          go_wp2
          go_meet
          case rel => exact ⟨hOr, hRr, hBr⟩
    case rest =>
      obtain ⟨hO5, hR5, hB5⟩ := hcut
      clear hO hR hB
      go_step
      obtain ⟨gk, ck, hvk, hgB, hgl, hgk, hck, hcm⟩ := hO5.full (by rintro rfl; simp at lKB)
      subst hvk
      rw [lKB]
      have e2 : macCode key b = sha (xorAll KB 92#8 ++ sha (xorAll KB 54#8 ++ b)) := by rw [← HKB.out]; rfl
      exact refcode_tail w wc gk ck KB b _ lKB hgB hgl hgk hR5 hB5 hb hszb e2.symm
  · have i1 : ¬ (64 : Int) < (key.length : Int) := by omega
    have hko : keyOf key = key := if_neg hbig
    go_upto_block 0 with (fail)
    have hO : Own w2 (w.heap.size + 1) (.slice kp key.length kc) (keyOf key) := by
      rw [hko]
      exact hO2
    have hR := hR2
    have hB := hBw2
    clear hR2 hBw2 hO2
    have hkl := keyOf_le key
    have hkd : keyBlock key = keyOf key ++ List.replicate (64 - (keyOf key).length) 0#8 := rfl
    obtain ⟨KK, hKK⟩ : ∃ KK, keyOf key = KK := ⟨_, rfl⟩
    obtain ⟨KB, hKB⟩ : ∃ KB, keyBlock key = KB := ⟨_, rfl⟩
    have lKB : KB.length = 64 := by rw [← hKB]; exact keyBlock_length key
    rw [hKK] at hkl hkd hO
    rw [hKB] at hkd
    obtain ⟨m, hm⟩ : ∃ m, KK.length = m := ⟨_, rfl⟩
    rw [hm] at hkl hkd
    have HM := Lib.hid hm
    have HKD := Lib.hid hkd
    have HKB := Lib.hid hKB
    clear hm hkd hKK hKB
    go_cut [5] (fun v w' => Own w' (w.heap.size + 1) v KB ∧ Whole w' w.heap.size 25 (zeroNums .u8 32) ∧ Below w.heap.size w w')
    case first =>
      go_wp2
      go_loopw [5] (fun v wr => ∃ j : Nat, m + j ≤ 64 ∧ Own wr (w.heap.size + 1) v (KK ++ List.replicate j 0#8) ∧ Whole wr w.heap.size 25 (zeroNums .u8 32) ∧ Below w.heap.size w wr) (fun v _ => 64 - lenOf v)
      case atStart => exact ⟨0, by omega, by simpa using hO, hR, hB⟩
      case round =>
        obtain ⟨j, hj, hOr, hRr, hBr⟩ := hrel
        clear hO hR hB
        obtain ⟨sp', cp', hv, _⟩ := hOr.slice.cells
        subst hv
        obtain ⟨L, hL⟩ : ∃ L, (KK ++ List.replicate j 0#8).length = L := ⟨_, rfl⟩
        have hL2 : L = m + j := by rw [← hL]; simp [HM.out]
        rw [hL] at hOr ⊢
        have hrl := hRr.lt
        by_cases hlt : L < 64
        · have i1 : (L : Int) < 64 := by omega
          have t2 : w.heap.size + 1 ≤ wr.heap.size := hrl
          go_wp2_with (at_builtin; refine wpList_append_one (by rfl) (.tmp 25) (.tmp 26) (by rfl) (w.heap.size + 1) _ _ (by rfl) hOr (.int .u8 0) 0#8 (by rfl) (by rfl) (by rw [hL]; omega) t2 ?_; intro v1 w1' hO1 hG1)
          have hne : ∀ k, (Value.slice sp' L cp').ownBlock = some k → w.heap.size + 1 ≤ k := fun k hk => hOr.high k hk
          refine ⟨⟨j + 1, by omega, ?_, hRr.grown hG1 (fun e => by have := hne _ e.symm; omega), hBr.grown hG1 hBr.size (fun k hk => by have := hne k hk; omega)⟩, ?_⟩
          · rw [List.replicate_succ', ← List.append_assoc]
            exact hO1
          · obtain ⟨sp2, cp2, hv2, _⟩ := hO1.slice.cells
            subst hv2
            simp only [lenOf, List.length_append, List.length_singleton] at hL ⊢
            omega
        · have hj2 : j = 64 - m := by omega
          obtain rfl : L = 64 := by omega
          subst hj2
          clear hL hL2 hj hlt
          rw [← HKD.out] at hOr
          go_wp2
          go_meet
          case rel => exact ⟨hOr, hRr, hBr⟩
    case rest =>
      obtain ⟨hO5, hR5, hB5⟩ := hcut
      clear hO hR hB
      go_step
      obtain ⟨gk, ck, hvk, hgB, hgl, hgk, hck, hcm⟩ := hO5.full (by rintro rfl; simp at lKB)
      subst hvk
      rw [lKB]
      have e2 : macCode key b = sha (xorAll KB 92#8 ++ sha (xorAll KB 54#8 ++ b)) := by rw [← HKB.out]; rfl
      exact refcode_tail w wc gk ck KB b _ lKB hgB hgl hgk hR5 hB5 hb hszb e2.symm

end Go.Proofs.YtngklnijmhlikaaDoor
