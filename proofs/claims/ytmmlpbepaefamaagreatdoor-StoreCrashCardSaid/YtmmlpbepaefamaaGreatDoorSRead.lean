/- A record read back into its changes. -/
import Derived.Test.YtmmlpbepaefamaaGreatDoorSCkpt
import Derived.Test.YtmmlpbepaefamaaGreatDoorWFieldsX2
namespace Go.Proofs.YtmmlpbepaefamaaGreatDoor
open Go.RowKit Go.MapKept

def lenS : Value → Nat
  | .slice _ n _ => n
  | _ => 0
/-- What a change says, whatever block its value lies in. -/
def Chg.say (c : Chg) : ByteArray × List (BitVec 8) × Bool := (c.key, c.val, c.gone)
theorem textOf_bytesB (s : ByteArray) : textOf (bytesB s) = s := by
  unfold textOf bytesB
  rw [List.map_map]
  have : (UInt8.ofBitVec ∘ fun b : UInt8 => b.toBitVec) = id := by
    funext b
    rfl
  first
    | (rw [this, List.map_id]; done)
    | (simp)
theorem recL_drop {L : List Chg} {k : Nat} {c : Chg} (h : L[k]? = some c) : recL (L.drop k) = recF c ++ recL (L.drop (k + 1)) := by
  obtain ⟨hk, rfl⟩ := List.getElem?_eq_some_iff.1 h
  rw [List.drop_eq_getElem_cons hk]
  rfl
theorem info_chg : ∃ i, Tryz.prog.info? 32 = some i ∧ i.zero = some (.agg #[.string ⟨#[]⟩, .slice none 0 0, .bool false]) ∧ i.size = 3 ∧ i.bytes = 48 := info_of (by kernel_rfl)

theorem chgs_own {w : World} {B : Nat} {v : Value} {M : List Chg} (h : w.ownsRow B 32 3 v M.length (M.flatMap Chg.cells)) (hv : ∀ x ∈ M, SliceIs w x.v x.val) : ChgsAt w v M := by
  rcases row_shape h with ⟨rfl, h0⟩ | ⟨g, cap, rfl, _, hg, hc⟩
  · have : M = [] := List.eq_nil_of_length_eq_zero h0
    subst this
    exact .inl ⟨rfl, _, _, rfl⟩
  · refine .inr ⟨g, 0, cap, rfl, hg, fun k x hx => ⟨fun j u hj => ?_, hv x (List.mem_of_getElem? hx)⟩⟩
    rw [Nat.zero_add]
    exact hc _ _ (flat_at lenChg M k x j u hx hj)
theorem ListsOwn.at' {w : World} {B : Nat} {u : Value} {bs : List (List (BitVec 8))} (h : ListsOwn w B u bs) : ListsAt w u bs := by
  obtain ⟨vs, h1, h2, h3⟩ := h.row
  rcases row_shape h2 with ⟨rfl, h0⟩ | ⟨g, cap, rfl, _, hg, hc⟩
  · have : bs = [] := List.eq_nil_of_length_eq_zero (by omega)
    subst this
    exact ⟨_, _, rfl, Nat.le_refl _, fun e => absurd rfl e⟩
  · have hle : vs.length ≤ cap := by
      rcases h2.2 with ⟨e, _⟩ | ⟨g', cap', cur, e, _, _, hle, _⟩
      · cases e
      · injection e with _ _ e3
        omega
    refine ⟨_, cap, by rw [h1], by omega, fun _ => ⟨g, 0, rfl, hg, fun i x hx => ?_⟩⟩
    obtain ⟨v, h4, h5⟩ := h3 i x hx
    refine ⟨v, ?_, h5.slice⟩
    rw [Nat.zero_add]
    refine hc i v ?_
    have := flat_at (f := fun x : Value => [x]) (n := 1) (fun _ => rfl) vs i v 0 v h4 rfl
    simpa using this

set_option maxRecDepth 100000 in
set_option maxHeartbeats 8000000 in
theorem sread_calls (w : World) (v : Value) (L : List Chg) (hv : SliceR w v (recB L)) (hw : wrongE L = 0) (hz : sizeF (recL L) ≤ 65536) :
    Calls Tryz.prog 26 #[v] w fun r w' => ∃ u L', r = .returned (.tuple #[u, .bool true]) ∧ (∃ a k c, u = .slice a k c) ∧ ChgsAt w' u L' ∧ L'.map Chg.say = L.map Chg.say ∧ Below w.heap.size w w' := by
  obtain ⟨hl64, hce⟩ := wrongE_zero hw
  have HRF := Lib.hid (readfields_calls w v (recL L) hv (by have := recL_len L; omega) (by omega))
  obtain ⟨pv, cv, rfl, _⟩ := hv.2
  obtain ⟨N, hN⟩ : ∃ N, L.length = N := ⟨_, rfl⟩
  rw [hN] at hl64
  have HN := Lib.hid hN
  have HCE := Lib.hid hce
  have hrl := recL_len L
  rw [hN] at hrl
  have HRL := Lib.hid hrl
  have g0 : ((3 * N : Nat) : Int).tmod 3 = 0 := by rw [Int.tmod_eq_emod_of_nonneg (by omega)]; omega
  have g1 : ¬ (64 : Int) < ((3 * N : Nat) : Int).tdiv 3 := by rw [Int.tdiv_eq_ediv_of_nonneg (by omega)]; omega
  obtain ⟨R, hR⟩ : ∃ R, (recB L).length = R := ⟨_, rfl⟩
  rw [hR] at HRF ⊢
  clear hv hw hz hN hce hrl hR
  go_enter Tryz.func26, Tryz.ntmps26
  go_upto_region 2 with (first
    | (go_at_call 53; refine HRF.out.mono ?_; rintro r w2 ⟨_, rfl, hU, hb2⟩)
    | fail)
  have HU := Lib.hid hU.at'
  obtain ⟨ua, uc, hue, hule, _⟩ := hU.at'
  rw [HRL.out] at hue hule
  subst hue
  clear hU HRF
  have HB2 := Lib.hid hb2
  clear hb2
  go_upto_block 0 with fail
  clear g0 g1
  go_wp2
  go_loopw [4, 6] (fun f u wr => ∃ (k : Nat) (a : Option Addr) (n c : Nat) (b : Option Addr) (q e : Nat) (M : List Chg), k ≤ N ∧ f = .slice a n c ∧ n = 3 * (N - k) ∧ ListsAt w2 (.slice a n c) (recL (L.drop k)) ∧ u = .slice b q e ∧ wr.ownsRow w2.heap.size 32 3 (.slice b q e) M.length (M.flatMap Chg.cells) ∧ (∀ x ∈ M, SliceIs w2 x.v x.val) ∧ M.map Chg.say = (L.take k).map Chg.say ∧ Below w2.heap.size w2 wr) (fun f _ _ => lenS f)
  case atStart => exact ⟨0, _, _, _, _, _, _, [], by omega, rfl, rfl, HU.out, rfl, World.ownsRow_nil _ _ _ _, (fun x hx => by cases hx), rfl, Below.refl _ _⟩
  case round =>
    obtain ⟨k, a, n, c, b, q, e, M, hk, rfl, hn, hF, rfl, hM, hMS, hMv, hB⟩ := hrel
    by_cases hlt : k < N
    · obtain ⟨x, hx⟩ : ∃ x, L[k]? = some x := ⟨_, List.getElem?_eq_getElem (by rw [HN.out]; exact hlt)⟩
      have hdr := recL_drop hx
      have hcx := chgE_zero (HCE.out x (List.mem_of_getElem? hx))
      have htk : (L.take (k + 1)).map Chg.say = (L.take k).map Chg.say ++ [Chg.say x] := by
        rw [List.take_add_one, hx, List.map_append]
        rfl
      obtain ⟨key, qv, val, gone⟩ := x
      rw [hdr] at hF
      obtain ⟨ao, c', hfe, hlc, hne⟩ := hF
      obtain ⟨g, o, rfl, hg, hcell⟩ := hne (by simp [recF])
      obtain ⟨v0, hc0, hs0⟩ := hcell 0 [kindV gone] rfl
      obtain ⟨v1, hc1, hs1⟩ := hcell 1 (bytesB key) rfl
      obtain ⟨v2, hc2, hs2⟩ := hcell 2 val rfl
      injection hfe with e1 e2 e3
      subst e1 e3
      have hrest : ListsAt w2 (.slice (if c = 3 then some ⟨g, o, none⟩ else some ⟨g, o + 3, none⟩) (n - 3) (c - 3)) (recL (L.drop (k + 1))) := by
        rw [List.length_append] at e2 hlc
        have hln : (recL (L.drop (k + 1))).length = n - 3 := by simp [recF] at e2; omega
        have hlc3 : n - 3 ≤ c - 3 := by simp [recF] at hlc; omega
        refine ⟨_, _, by rw [hln], by omega, fun hn0 => ?_⟩
        have hc3 : ¬ c = 3 := fun e => hn0 (List.eq_nil_of_length_eq_zero (by omega))
        rw [if_neg hc3]
        refine ⟨g, o + 3, rfl, hg, fun i bs hi => ?_⟩
        obtain ⟨v, h1, h2⟩ := hcell (i + 3) bs (by rw [List.getElem?_append_right (by simp [recF])]; simpa [recF] using hi)
        exact ⟨v, by rw [show o + 3 + i = o + (i + 3) by omega]; exact h1, h2⟩
      obtain ⟨a1, k1, rfl⟩ := bytes_len hs1
      obtain ⟨a2, k2, rfl⟩ := bytes_len hs2
      obtain ⟨bk, ok, kc, rfl, hbk, hky⟩ : ∃ bk ok kc, v0 = .slice (some ⟨bk, ok, none⟩) 1 kc ∧ bk < w2.heap.size ∧ w2.cell? ⟨bk, ok, none⟩ = some (vu8 (kindV gone)) := by
        rcases hs0 with ⟨h, _⟩ | ⟨bk, ok, kc, h, h1, h2⟩
        · cases h
        · exact ⟨bk, ok, kc, h, h1, h2 0 _ rfl⟩
      have i1 : (0 : Int) < (n : Int) := by omega
      have i2 : (1 : Int) < (n : Int) := by omega
      have i3 : (2 : Int) < (n : Int) := by omega
      have i4 : 3 ≤ n := by omega
      have HNN := Lib.hid hn
      clear hn
      obtain ⟨kn, hkn⟩ : ∃ kn, (bytesB key).length = kn := ⟨_, rfl⟩
      obtain ⟨vn, hvne⟩ : ∃ vn, val.length = vn := ⟨_, rfl⟩
      rw [hkn] at hc1 hs1
      rw [hvne] at hc2 hs2
      dsimp only at hcx
      have hvn : vn ≤ 8192 := by rw [← hvne]; exact hcx.2.2.1
      have HML := Lib.hid (show M.length ≤ 64 from by
        have := congrArg List.length hMv
        rw [List.length_map, List.length_map, List.length_take] at this
        omega)
      have HTK := Lib.hid (And.intro htk hMv)
      have HMS := Lib.hid hMS
      have HRS := Lib.hid hrest
      have HV0 := Lib.hid (show gone = true → vn = 0 from fun h => by rw [← hvne, hcx.2.2.2 h]; rfl)
      have hk1 := hcx.1
      have hk2 := hcx.2.1
      clear hcell hlc hne hx hdr htk hMv hMS hrest hs0 hcx hkn hvne e2
      by_cases hgo : gone = true
      · subst hgo
        have hv0 : vn = 0 := HV0.out rfl
        subst hv0
        have z3 : w2.cell? ⟨bk, ok, none⟩ = some (.int .u8 1) := hky
        go_upto_region 7 with fail
        have hd := hB.trans (((Below.refl wr.heap.size wr).drew).mono hB.size)
        have hM7 := row_low hM ((Below.refl wr.heap.size wr).drew)
        have HS7 := Lib.hid (show wr.drew.cell? ⟨g, o, none⟩ = some (.slice (some ⟨bk, ok, none⟩) 1 kc) ∧ wr.drew.cell? ⟨g, o + 1, none⟩ = some (.slice a1 kn k1) ∧ wr.drew.cell? ⟨g, o + 2, none⟩ = some (.slice a2 0 k2) ∧ wr.drew.cell? ⟨bk, ok, none⟩ = some (.int .u8 1) ∧ SliceIs wr.drew (.slice a1 kn k1) (bytesB key) from ⟨(hd.cell (p := ⟨g, o, none⟩) hg).trans hc0, (hd.cell (p := ⟨g, o + 1, none⟩) hg).trans hc1, (hd.cell (p := ⟨g, o + 2, none⟩) hg).trans hc2, (hd.cell (p := ⟨bk, ok, none⟩) hbk).trans z3, hs1.low hd⟩)
        clear hM
        refine wp_region_noPanic ?_
        refine wp_region_held_drew (S := fun w' => w'.cell? ⟨g, o, none⟩ = some (.slice (some ⟨bk, ok, none⟩) 1 kc) ∧ w'.cell? ⟨g, o + 1, none⟩ = some (.slice a1 kn k1) ∧ w'.cell? ⟨g, o + 2, none⟩ = some (.slice a2 0 k2) ∧ w'.cell? ⟨bk, ok, none⟩ = some (.int .u8 1) ∧ SliceIs w' (.slice a1 kn k1) (bytesB key)) (by kernel_rfl) (HS7.out) (fun hhS => ?_)
        generalize wr.drew = wd at hd hM7 HS7 hhS ⊢
        refine wpAnyH_take (i := 0) (oi := ⟨some 31, _, _, _, _, _⟩) (v := ?_) rfl (by kernel_rfl) (by kernel_rfl) (by kernel_rfl) (fun _ _ _ h => h) (Or.inl ⟨by rfl, ?_⟩) (by assumption) ?_
        rotate_left
        · intro w hSw
          (try dsimp only at hSw)
          go_simp
          all_goals (with_reducible rfl)
        try simp only [Act.put, List.setIfInBounds_toArray, List.set_cons_zero, List.set_cons_succ]
        refine wpAnyH_take (i := 1) (oi := ⟨some 32, _, _, _, _, _⟩) (v := ?_) rfl (by kernel_rfl) (by kernel_rfl) (by kernel_rfl) (fun _ _ _ h => h) (Or.inl ⟨by rfl, ?_⟩) (by assumption) ?_
        rotate_left
        · intro w hSw
          (try dsimp only at hSw)
          go_simp
          all_goals (with_reducible rfl)
        try simp only [Act.put, List.setIfInBounds_toArray, List.set_cons_zero, List.set_cons_succ]
        refine wpAnyH_take (i := 2) (oi := ⟨some 33, _, _, _, _, _⟩) (v := ?_) rfl (by kernel_rfl) (by kernel_rfl) (by kernel_rfl) (fun _ _ _ h => h) (Or.inl ⟨by rfl, ?_⟩) (by assumption) ?_
        rotate_left
        · intro w hSw
          (try dsimp only at hSw)
          have y0 := hSw.1
          have y1 := hSw.2.1
          have y2 := hSw.2.2.1
          have y3 := hSw.2.2.2.1
          go_simp
          all_goals (with_reducible rfl)
        try simp only [Act.put, List.setIfInBounds_toArray, List.set_cons_zero, List.set_cons_succ]
        refine wpAnyH_take (i := 3) (oi := ⟨some 34, _, _, _, _, _⟩) (v := ?_) rfl (by kernel_rfl) (by kernel_rfl) (by kernel_rfl) (fun _ _ _ h => h) (Or.inl ⟨by rfl, ?_⟩) (by assumption) ?_
        rotate_left
        · intro w hSw
          (try dsimp only at hSw)
          go_simp
          all_goals (with_reducible rfl)
        try simp only [Act.put, List.setIfInBounds_toArray, List.set_cons_zero, List.set_cons_succ]
        refine wpAnyH_take (i := 4) (oi := ⟨some 35, _, _, _, _, _⟩) (v := ?_) rfl (by kernel_rfl) (by kernel_rfl) (by kernel_rfl) (fun _ _ _ h => h) (Or.inl ⟨by rfl, ?_⟩) (by assumption) ?_
        rotate_left
        · intro w hSw
          (try dsimp only at hSw)
          go_simp
          all_goals (with_reducible rfl)
        try simp only [Act.put, List.setIfInBounds_toArray, List.set_cons_zero, List.set_cons_succ]
        refine wpAnyH_take (i := 5) (oi := ⟨some 36, _, _, _, _, _⟩) (v := ?_) rfl (by kernel_rfl) (by kernel_rfl) (by kernel_rfl) (fun _ _ _ h => h) (Or.inl ⟨by rfl, ?_⟩) (by assumption) ?_
        rotate_left
        · intro w hSw
          (try dsimp only at hSw)
          go_simp
          all_goals (with_reducible rfl)
        try simp only [Act.put, List.setIfInBounds_toArray, List.set_cons_zero, List.set_cons_succ]
        refine wpAnyH_take (i := 6) (oi := ⟨some 37, _, _, _, _, _⟩) (v := ?_) rfl (by kernel_rfl) (by kernel_rfl) (by kernel_rfl) (fun _ _ _ h => h) (Or.inl ⟨by rfl, ?_⟩) (by assumption) ?_
        rotate_left
        · intro w hSw
          (try dsimp only at hSw)
          go_simp
          all_goals (with_reducible rfl)
        try simp only [Act.put, List.setIfInBounds_toArray, List.set_cons_zero, List.set_cons_succ]
        refine wpAnyH_take (i := 7) (oi := ⟨some 38, _, _, _, _, _⟩) (v := ?_) rfl (by kernel_rfl) (by kernel_rfl) (by kernel_rfl) (fun _ _ _ h => h) (Or.inl ⟨by rfl, ?_⟩) (by assumption) ?_
        rotate_left
        · intro w hSw
          (try dsimp only at hSw)
          go_simp
          all_goals (with_reducible rfl)
        try simp only [Act.put, List.setIfInBounds_toArray, List.set_cons_zero, List.set_cons_succ]
        refine wpAnyH_take (i := 8) (oi := ⟨some 39, _, _, _, _, _⟩) (v := ?_) rfl (by kernel_rfl) (by kernel_rfl) (by kernel_rfl) (fun _ _ _ h => h) (Or.inl ⟨by rfl, ?_⟩) (by assumption) ?_
        rotate_left
        · intro w hSw
          (try dsimp only at hSw)
          have y0 := hSw.1
          have y1 := hSw.2.1
          have y2 := hSw.2.2.1
          have y3 := hSw.2.2.2.1
          go_simp
          all_goals (with_reducible rfl)
        try simp only [Act.put, List.setIfInBounds_toArray, List.set_cons_zero, List.set_cons_succ]
        refine wpAnyH_take (i := 9) (oi := ⟨some 40, _, _, _, _, _⟩) (v := ?_) rfl (by kernel_rfl) (by kernel_rfl) (by kernel_rfl) (fun _ _ _ h => h) (Or.inl ⟨by rfl, ?_⟩) (by assumption) ?_
        rotate_left
        · intro w hSw
          (try dsimp only at hSw)
          go_simp
          all_goals (with_reducible rfl)
        try simp only [Act.put, List.setIfInBounds_toArray, List.set_cons_zero, List.set_cons_succ]
        refine wpAnyH_take (i := 10) (oi := ⟨some 41, _, _, _, _, _⟩) (v := ?_) rfl (by kernel_rfl) (by kernel_rfl) (by kernel_rfl) (fun _ _ _ h => h) (Or.inl ⟨by rfl, ?_⟩) (by assumption) ?_
        rotate_left
        · intro w hSw
          (try dsimp only at hSw)
          have y0 := hSw.1
          have y1 := hSw.2.1
          have y2 := hSw.2.2.1
          have y3 := hSw.2.2.2.1
          go_simp
          all_goals (with_reducible rfl)
        try simp only [Act.put, List.setIfInBounds_toArray, List.set_cons_zero, List.set_cons_succ]
        refine wpAnyH_take (i := 11) (oi := ⟨some 42, _, _, _, _, _⟩) (v := (.bool false)) rfl (by kernel_rfl) (by kernel_rfl) (by kernel_rfl) (fun _ _ _ h => h) (Or.inl ⟨by rfl, ?_⟩) (by assumption) ?_
        · intro w hSw
          (try dsimp only at hSw)
          go_simp
          all_goals (first | done | simp)
        try simp only [Act.put, List.setIfInBounds_toArray, List.set_cons_zero, List.set_cons_succ]
        refine wpAnyH_take (i := 12) (oi := ⟨some 43, _, _, _, _, _⟩) (v := (.bool false)) rfl (by kernel_rfl) (by kernel_rfl) (by kernel_rfl) (fun _ _ _ h => h) (Or.inl ⟨by rfl, ?_⟩) (by assumption) ?_
        · intro w hSw
          (try dsimp only at hSw)
          go_simp
          all_goals (first | done | simp)
        try simp only [Act.put, List.setIfInBounds_toArray, List.set_cons_zero, List.set_cons_succ]
        refine wpAnyH_take (i := 13) (oi := ⟨some 44, _, _, _, _, _⟩) (v := ?_) rfl (by kernel_rfl) (by kernel_rfl) (by kernel_rfl) (fun _ _ _ h => h) (Or.inl ⟨by rfl, ?_⟩) (by assumption) ?_
        rotate_left
        · intro w hSw
          (try dsimp only at hSw)
          go_simp
          all_goals (with_reducible rfl)
        try simp only [Act.put, List.setIfInBounds_toArray, List.set_cons_zero, List.set_cons_succ]
        refine wpAnyH_take (i := 14) (oi := ⟨some 45, _, _, _, _, _⟩) (v := ?_) rfl (by kernel_rfl) (by kernel_rfl) (by kernel_rfl) (fun _ _ _ h => h) (Or.inl ⟨by rfl, ?_⟩) (by assumption) ?_
        rotate_left
        · intro w hSw
          (try dsimp only at hSw)
          go_simp
          all_goals (with_reducible rfl)
        try simp only [Act.put, List.setIfInBounds_toArray, List.set_cons_zero, List.set_cons_succ]
        refine wpAnyH_take (i := 15) (oi := ⟨some 46, _, _, _, _, _⟩) (v := ?_) rfl (by kernel_rfl) (by kernel_rfl) (by kernel_rfl) (fun _ _ _ h => h) (Or.inl ⟨by rfl, ?_⟩) (by assumption) ?_
        rotate_left
        · intro w hSw
          (try dsimp only at hSw)
          go_simp
          all_goals (with_reducible rfl)
        try simp only [Act.put, List.setIfInBounds_toArray, List.set_cons_zero, List.set_cons_succ]
        refine wpAnyH_take (i := 16) (oi := ⟨some 47, _, _, _, _, _⟩) (v := ?_) rfl (by kernel_rfl) (by kernel_rfl) (by kernel_rfl) (fun _ _ _ h => h) (Or.inl ⟨by rfl, ?_⟩) (by assumption) ?_
        rotate_left
        · intro w hSw
          (try dsimp only at hSw)
          have y0 := hSw.1
          have y1 := hSw.2.1
          have y2 := hSw.2.2.1
          have y3 := hSw.2.2.2.1
          go_simp
          all_goals (with_reducible rfl)
        try simp only [Act.put, List.setIfInBounds_toArray, List.set_cons_zero, List.set_cons_succ]
        refine wpAnyH_take (i := 17) (oi := ⟨some 48, _, _, _, _, _⟩) (v := (.string key)) rfl (by kernel_rfl) (by kernel_rfl) (by kernel_rfl) (fun _ _ _ h => h) (Or.inl ⟨by rfl, ?_⟩) (by assumption) ?_
        · intro w hSw
          (try dsimp only at hSw)
          have y0 := hSw.1
          have y1 := hSw.2.1
          have y2 := hSw.2.2.1
          have y3 := hSw.2.2.2.1
          have hcv := run_convert_slice w _ _ hSw.2.2.2.2
          rw [textOf_bytesB] at hcv
          go_simp
          all_goals (first | done | simp)
        try simp only [Act.put, List.setIfInBounds_toArray, List.set_cons_zero, List.set_cons_succ]
        refine wpAnyH_take (i := 18) (oi := ⟨some 49, _, _, _, _, _⟩) (v := ?_) rfl (by kernel_rfl) (by kernel_rfl) (by kernel_rfl) (fun _ _ _ h => h) (Or.inl ⟨by rfl, ?_⟩) (by assumption) ?_
        rotate_left
        · intro w hSw
          (try dsimp only at hSw)
          go_simp
          all_goals (with_reducible rfl)
        try simp only [Act.put, List.setIfInBounds_toArray, List.set_cons_zero, List.set_cons_succ]
        refine wpAnyH_take (i := 19) (oi := ⟨some 50, _, _, _, _, _⟩) (v := ?_) rfl (by kernel_rfl) (by kernel_rfl) (by kernel_rfl) (fun _ _ _ h => h) (Or.inl ⟨by rfl, ?_⟩) (by assumption) ?_
        rotate_left
        · intro w hSw
          (try dsimp only at hSw)
          go_simp
          all_goals (with_reducible rfl)
        try simp only [Act.put, List.setIfInBounds_toArray, List.set_cons_zero, List.set_cons_succ]
        refine wpAnyH_take (i := 20) (oi := ⟨some 51, _, _, _, _, _⟩) (v := ?_) rfl (by kernel_rfl) (by kernel_rfl) (by kernel_rfl) (fun _ _ _ h => h) (Or.inl ⟨by rfl, ?_⟩) (by assumption) ?_
        rotate_left
        · intro w hSw
          (try dsimp only at hSw)
          have y0 := hSw.1
          have y1 := hSw.2.1
          have y2 := hSw.2.2.1
          have y3 := hSw.2.2.2.1
          go_simp
          all_goals (with_reducible rfl)
        try simp only [Act.put, List.setIfInBounds_toArray, List.set_cons_zero, List.set_cons_succ]
        refine wpAnyH_ready (rs := [21]) (by kernel_rfl) (by simp) ?_
        refine AllReadyH.cons (o := ⟨some 52, _, _, _, _, _⟩) rfl (fun K hK => ?_) AllReadyH.nil
        go_simp
        refine (bounds_yes _ key a2 0 k2 hk1 hk2 hvn).mono ?_
        rintro r w5 ⟨rfl, rfl⟩
        refine hK.out _ _ (hhS) (fun _ => ?_)
        clear hK K
        try simp only [Act.put, List.setIfInBounds_toArray, List.set_cons_zero, List.set_cons_succ]
        refine wpAnyH_take (i := 22) (oi := ⟨some 53, _, _, _, _, _⟩) (v := ?_) rfl (by kernel_rfl) (by kernel_rfl) (by kernel_rfl) (fun _ _ _ h => h) (Or.inl ⟨by rfl, ?_⟩) (by assumption) ?_
        rotate_left
        · intro w hSw
          (try dsimp only at hSw)
          go_simp
          all_goals (with_reducible rfl)
        try simp only [Act.put, List.setIfInBounds_toArray, List.set_cons_zero, List.set_cons_succ]
        refine wpAnyH_take (i := 23) (oi := ⟨some 54, _, _, _, _, _⟩) (v := ?_) rfl (by kernel_rfl) (by kernel_rfl) (by kernel_rfl) (fun _ _ _ h => h) (Or.inl ⟨by rfl, ?_⟩) (by assumption) ?_
        rotate_left
        · intro w hSw
          (try dsimp only at hSw)
          go_simp
          all_goals (with_reducible rfl)
        try simp only [Act.put, List.setIfInBounds_toArray, List.set_cons_zero, List.set_cons_succ]
        refine wpAnyH_take (i := 24) (oi := ⟨some 55, _, _, _, _, _⟩) (v := ?_) rfl (by kernel_rfl) (by kernel_rfl) (by kernel_rfl) (fun _ _ _ h => h) (Or.inl ⟨by rfl, ?_⟩) (by assumption) ?_
        rotate_left
        · intro w hSw
          (try dsimp only at hSw)
          go_simp
          all_goals (with_reducible rfl)
        try simp only [Act.put, List.setIfInBounds_toArray, List.set_cons_zero, List.set_cons_succ]
        refine wpAnyH_take (i := 25) (oi := ⟨some 56, _, _, _, _, _⟩) (v := ?_) rfl (by kernel_rfl) (by kernel_rfl) (by kernel_rfl) (fun _ _ _ h => h) (Or.inl ⟨by rfl, ?_⟩) (by assumption) ?_
        rotate_left
        · intro w hSw
          (try dsimp only at hSw)
          go_simp
          all_goals (with_reducible rfl)
        try simp only [Act.put, List.setIfInBounds_toArray, List.set_cons_zero, List.set_cons_succ]
        refine wpAnyH_take (i := 26) (oi := ⟨some 57, _, _, _, _, _⟩) (v := ?_) rfl (by kernel_rfl) (by kernel_rfl) (by kernel_rfl) (fun _ _ _ h => h) (Or.inl ⟨by rfl, ?_⟩) (by assumption) ?_
        rotate_left
        · intro w hSw
          (try dsimp only at hSw)
          go_simp
          all_goals (with_reducible rfl)
        try simp only [Act.put, List.setIfInBounds_toArray, List.set_cons_zero, List.set_cons_succ]
        refine wpAnyH_take (i := 27) (oi := ⟨some 58, _, _, _, _, _⟩) (v := ?_) rfl (by kernel_rfl) (by kernel_rfl) (by kernel_rfl) (fun _ _ _ h => h) (Or.inl ⟨by rfl, ?_⟩) (by assumption) ?_
        rotate_left
        · intro w hSw
          (try dsimp only at hSw)
          have y0 := hSw.1
          have y1 := hSw.2.1
          have y2 := hSw.2.2.1
          have y3 := hSw.2.2.2.1
          go_simp
          all_goals (with_reducible rfl)
        try simp only [Act.put, List.setIfInBounds_toArray, List.set_cons_zero, List.set_cons_succ]
        refine wpAnyH_take (i := 28) (oi := ⟨some 59, _, _, _, _, _⟩) (v := ?_) rfl (by kernel_rfl) (by kernel_rfl) (by kernel_rfl) (fun _ _ _ h => h) (Or.inl ⟨by rfl, ?_⟩) (by assumption) ?_
        rotate_left
        · intro w hSw
          (try dsimp only at hSw)
          go_simp
          all_goals (with_reducible rfl)
        try simp only [Act.put, List.setIfInBounds_toArray, List.set_cons_zero, List.set_cons_succ]
        refine wpAnyH_take (i := 29) (oi := ⟨some 60, _, _, _, _, _⟩) (v := ?_) rfl (by kernel_rfl) (by kernel_rfl) (by kernel_rfl) (fun _ _ _ h => h) (Or.inl ⟨by rfl, ?_⟩) (by assumption) ?_
        rotate_left
        · intro w hSw
          (try dsimp only at hSw)
          have y0 := hSw.1
          have y1 := hSw.2.1
          have y2 := hSw.2.2.1
          have y3 := hSw.2.2.2.1
          go_simp
          all_goals (with_reducible rfl)
        try simp only [Act.put, List.setIfInBounds_toArray, List.set_cons_zero, List.set_cons_succ]
        refine wpAnyH_take (i := 30) (oi := ⟨some 61, _, _, _, _, _⟩) (v := (.bool true)) rfl (by kernel_rfl) (by kernel_rfl) (by kernel_rfl) (fun _ _ _ h => h) (Or.inl ⟨by rfl, ?_⟩) (by assumption) ?_
        · intro w hSw
          (try dsimp only at hSw)
          go_simp
          all_goals (first | done | simp)
        try simp only [Act.put, List.setIfInBounds_toArray, List.set_cons_zero, List.set_cons_succ]
        refine wpAnyH_take (i := 31) (oi := ⟨some 62, _, _, _, _, _⟩) (v := ?_) rfl (by kernel_rfl) (by kernel_rfl) (by kernel_rfl) (fun _ _ _ h => h) (Or.inl ⟨by rfl, ?_⟩) (by assumption) ?_
        rotate_left
        · intro w hSw
          (try dsimp only at hSw)
          go_simp
          all_goals (with_reducible rfl)
        try simp only [Act.put, List.setIfInBounds_toArray, List.set_cons_zero, List.set_cons_succ]
        refine wpAnyH_take (i := 32) (oi := ⟨some 63, _, _, _, _, _⟩) (v := ?_) rfl (by kernel_rfl) (by kernel_rfl) (by kernel_rfl) (fun _ _ _ h => h) (Or.inl ⟨by rfl, ?_⟩) (by assumption) ?_
        rotate_left
        · intro w hSw
          (try dsimp only at hSw)
          go_simp
          all_goals (with_reducible rfl)
        try simp only [Act.put, List.setIfInBounds_toArray, List.set_cons_zero, List.set_cons_succ]
        refine wpAnyH_take (i := 33) (oi := ⟨some 64, _, _, _, _, _⟩) (v := ?_) rfl (by kernel_rfl) (by kernel_rfl) (by kernel_rfl) (fun _ _ _ h => h) (Or.inl ⟨by rfl, ?_⟩) (by assumption) ?_
        rotate_left
        · intro w hSw
          (try dsimp only at hSw)
          go_simp
          all_goals (with_reducible rfl)
        try simp only [Act.put, List.setIfInBounds_toArray, List.set_cons_zero, List.set_cons_succ]
        refine wpAnyH_take (i := 34) (oi := ⟨some 65, _, _, _, _, _⟩) (v := ?_) rfl (by kernel_rfl) (by kernel_rfl) (by kernel_rfl) (fun _ _ _ h => h) (Or.inl ⟨by rfl, ?_⟩) (by assumption) ?_
        rotate_left
        · intro w hSw
          (try dsimp only at hSw)
          have y0 := hSw.1
          have y1 := hSw.2.1
          have y2 := hSw.2.2.1
          have y3 := hSw.2.2.2.1
          go_simp
          all_goals (with_reducible rfl)
        try simp only [Act.put, List.setIfInBounds_toArray, List.set_cons_zero, List.set_cons_succ]
        refine wpAnyH_take (i := 35) (oi := ⟨some 66, _, _, _, _, _⟩) (v := ?_) rfl (by kernel_rfl) (by kernel_rfl) (by kernel_rfl) (fun _ _ _ h => h) (Or.inl ⟨by rfl, ?_⟩) (by assumption) ?_
        rotate_left
        · intro w hSw
          (try dsimp only at hSw)
          go_simp
          all_goals (with_reducible rfl)
        try simp only [Act.put, List.setIfInBounds_toArray, List.set_cons_zero, List.set_cons_succ]
        refine wpAnyH_take (i := 36) (oi := ⟨some 67, _, _, _, _, _⟩) (v := ?_) rfl (by kernel_rfl) (by kernel_rfl) (by kernel_rfl) (fun _ _ _ h => h) (Or.inl ⟨by rfl, ?_⟩) (by assumption) ?_
        rotate_left
        · intro w hSw
          (try dsimp only at hSw)
          go_simp
          all_goals (with_reducible rfl)
        try simp only [Act.put, List.setIfInBounds_toArray, List.set_cons_zero, List.set_cons_succ]
        refine wpAnyH_take (i := 37) (oi := ⟨some 68, _, _, _, _, _⟩) (v := (.bool false)) rfl (by kernel_rfl) (by kernel_rfl) (by kernel_rfl) (fun _ _ _ h => h) (Or.inl ⟨by rfl, ?_⟩) (by assumption) ?_
        · intro w hSw
          (try dsimp only at hSw)
          go_simp
          all_goals (first | done | simp)
        try simp only [Act.put, List.setIfInBounds_toArray, List.set_cons_zero, List.set_cons_succ]
        refine wpAnyH_take (i := 38) (oi := ⟨some 69, _, _, _, _, _⟩) (v := (.bool false)) rfl (by kernel_rfl) (by kernel_rfl) (by kernel_rfl) (fun _ _ _ h => h) (Or.inl ⟨by rfl, ?_⟩) (by assumption) ?_
        · intro w hSw
          (try dsimp only at hSw)
          go_simp
          all_goals (first | done | simp)
        try simp only [Act.put, List.setIfInBounds_toArray, List.set_cons_zero, List.set_cons_succ]
        refine wpAnyH_done (by kernel_rfl) ?_ _
        refine NoPanic.normal ?_
        go_upto_region 9 with fail
        have hd9 := hd.trans (((Below.refl wd.heap.size wd).drew).mono hd.size)
        have hM9 := row_low hM7 ((Below.refl wd.heap.size wd).drew)
        have HS9 := Lib.hid (show wd.drew.cell? ⟨g, o, none⟩ = some (.slice (some ⟨bk, ok, none⟩) 1 kc) ∧ wd.drew.cell? ⟨g, o + 1, none⟩ = some (.slice a1 kn k1) ∧ wd.drew.cell? ⟨g, o + 2, none⟩ = some (.slice a2 0 k2) ∧ wd.drew.cell? ⟨bk, ok, none⟩ = some (.int .u8 1) ∧ SliceIs wd.drew (.slice a1 kn k1) (bytesB key) from ⟨(hd9.cell (p := ⟨g, o, none⟩) hg).trans hc0, (hd9.cell (p := ⟨g, o + 1, none⟩) hg).trans hc1, (hd9.cell (p := ⟨g, o + 2, none⟩) hg).trans hc2, (hd9.cell (p := ⟨bk, ok, none⟩) hbk).trans z3, hs1.low hd9⟩)
        clear hM7 hhS HS7
        refine wp_region_noPanic ?_
        refine wp_region_held_drew (S := fun w' => w'.cell? ⟨g, o, none⟩ = some (.slice (some ⟨bk, ok, none⟩) 1 kc) ∧ w'.cell? ⟨g, o + 1, none⟩ = some (.slice a1 kn k1) ∧ w'.cell? ⟨g, o + 2, none⟩ = some (.slice a2 0 k2) ∧ w'.cell? ⟨bk, ok, none⟩ = some (.int .u8 1) ∧ SliceIs w' (.slice a1 kn k1) (bytesB key)) (by kernel_rfl) (HS9.out) (fun hhS => ?_)
        generalize wd.drew = wd at hd9 hM9 HS9 hhS ⊢
        refine wpAnyH_take (i := 0) (oi := ⟨some 70, _, _, _, _, _⟩) (v := ?_) rfl (by kernel_rfl) (by kernel_rfl) (by kernel_rfl) (fun _ _ _ h => h) (Or.inl ⟨by rfl, ?_⟩) (by assumption) ?_
        rotate_left
        · intro w hSw
          (try dsimp only at hSw)
          go_simp
          all_goals (with_reducible rfl)
        try simp only [Act.put, List.setIfInBounds_toArray, List.set_cons_zero, List.set_cons_succ]
        refine wpAnyH_take (i := 1) (oi := ⟨some 71, _, _, _, _, _⟩) (v := ?_) rfl (by kernel_rfl) (by kernel_rfl) (by kernel_rfl) (fun _ _ _ h => h) (Or.inl ⟨by rfl, ?_⟩) (by assumption) ?_
        rotate_left
        · intro w hSw
          (try dsimp only at hSw)
          go_simp
          all_goals (with_reducible rfl)
        try simp only [Act.put, List.setIfInBounds_toArray, List.set_cons_zero, List.set_cons_succ]
        refine wpAnyH_take (i := 2) (oi := ⟨some 72, _, _, _, _, _⟩) (v := ?_) rfl (by kernel_rfl) (by kernel_rfl) (by kernel_rfl) (fun _ _ _ h => h) (Or.inl ⟨by rfl, ?_⟩) (by assumption) ?_
        rotate_left
        · intro w hSw
          (try dsimp only at hSw)
          go_simp
          all_goals (with_reducible rfl)
        try simp only [Act.put, List.setIfInBounds_toArray, List.set_cons_zero, List.set_cons_succ]
        refine wpAnyH_take (i := 3) (oi := ⟨some 73, _, _, _, _, _⟩) (v := ?_) rfl (by kernel_rfl) (by kernel_rfl) (by kernel_rfl) (fun _ _ _ h => h) (Or.inl ⟨by rfl, ?_⟩) (by assumption) ?_
        rotate_left
        · intro w hSw
          (try dsimp only at hSw)
          have y0 := hSw.1
          have y1 := hSw.2.1
          have y2 := hSw.2.2.1
          have y3 := hSw.2.2.2.1
          go_simp
          all_goals (with_reducible rfl)
        try simp only [Act.put, List.setIfInBounds_toArray, List.set_cons_zero, List.set_cons_succ]
        refine wpAnyH_take (i := 4) (oi := ⟨some 74, _, _, _, _, _⟩) (v := (.string key)) rfl (by kernel_rfl) (by kernel_rfl) (by kernel_rfl) (fun _ _ _ h => h) (Or.inl ⟨by rfl, ?_⟩) (by assumption) ?_
        · intro w hSw
          (try dsimp only at hSw)
          have y0 := hSw.1
          have y1 := hSw.2.1
          have y2 := hSw.2.2.1
          have y3 := hSw.2.2.2.1
          have hcv := run_convert_slice w _ _ hSw.2.2.2.2
          rw [textOf_bytesB] at hcv
          go_simp
          all_goals (first | done | simp)
        try simp only [Act.put, List.setIfInBounds_toArray, List.set_cons_zero, List.set_cons_succ]
        refine wpAnyH_take (i := 5) (oi := ⟨some 75, _, _, _, _, _⟩) (v := ?_) rfl (by kernel_rfl) (by kernel_rfl) (by kernel_rfl) (fun _ _ _ h => h) (Or.inl ⟨by rfl, ?_⟩) (by assumption) ?_
        rotate_left
        · intro w hSw
          (try dsimp only at hSw)
          go_simp
          all_goals (with_reducible rfl)
        try simp only [Act.put, List.setIfInBounds_toArray, List.set_cons_zero, List.set_cons_succ]
        refine wpAnyH_take (i := 6) (oi := ⟨some 76, _, _, _, _, _⟩) (v := ?_) rfl (by kernel_rfl) (by kernel_rfl) (by kernel_rfl) (fun _ _ _ h => h) (Or.inl ⟨by rfl, ?_⟩) (by assumption) ?_
        rotate_left
        · intro w hSw
          (try dsimp only at hSw)
          go_simp
          all_goals (with_reducible rfl)
        try simp only [Act.put, List.setIfInBounds_toArray, List.set_cons_zero, List.set_cons_succ]
        refine wpAnyH_take (i := 7) (oi := ⟨some 77, _, _, _, _, _⟩) (v := ?_) rfl (by kernel_rfl) (by kernel_rfl) (by kernel_rfl) (fun _ _ _ h => h) (Or.inl ⟨by rfl, ?_⟩) (by assumption) ?_
        rotate_left
        · intro w hSw
          (try dsimp only at hSw)
          have y0 := hSw.1
          have y1 := hSw.2.1
          have y2 := hSw.2.2.1
          have y3 := hSw.2.2.2.1
          go_simp
          all_goals (with_reducible rfl)
        try simp only [Act.put, List.setIfInBounds_toArray, List.set_cons_zero, List.set_cons_succ]
        refine wpAnyH_take (i := 8) (oi := ⟨some 78, _, _, _, _, _⟩) (v := ?_) rfl (by kernel_rfl) (by kernel_rfl) (by kernel_rfl) (fun _ _ _ h => h) (Or.inl ⟨by rfl, ?_⟩) (by assumption) ?_
        rotate_left
        · intro w hSw
          (try dsimp only at hSw)
          go_simp
          all_goals (with_reducible rfl)
        try simp only [Act.put, List.setIfInBounds_toArray, List.set_cons_zero, List.set_cons_succ]
        refine wpAnyH_take (i := 9) (oi := ⟨some 79, _, _, _, _, _⟩) (v := ?_) rfl (by kernel_rfl) (by kernel_rfl) (by kernel_rfl) (fun _ _ _ h => h) (Or.inl ⟨by rfl, ?_⟩) (by assumption) ?_
        rotate_left
        · intro w hSw
          (try dsimp only at hSw)
          go_simp
          all_goals (with_reducible rfl)
        try simp only [Act.put, List.setIfInBounds_toArray, List.set_cons_zero, List.set_cons_succ]
        refine wpAnyH_take (i := 10) (oi := ⟨some 80, _, _, _, _, _⟩) (v := ?_) rfl (by kernel_rfl) (by kernel_rfl) (by kernel_rfl) (fun _ _ _ h => h) (Or.inl ⟨by rfl, ?_⟩) (by assumption) ?_
        rotate_left
        · intro w hSw
          (try dsimp only at hSw)
          have y0 := hSw.1
          have y1 := hSw.2.1
          have y2 := hSw.2.2.1
          have y3 := hSw.2.2.2.1
          go_simp
          all_goals (with_reducible rfl)
        try simp only [Act.put, List.setIfInBounds_toArray, List.set_cons_zero, List.set_cons_succ]
        refine wpAnyH_take (i := 11) (oi := ⟨some 81, _, _, _, _, _⟩) (v := ?_) rfl (by kernel_rfl) (by kernel_rfl) (by kernel_rfl) (fun _ _ _ h => h) (Or.inl ⟨by rfl, ?_⟩) (by assumption) ?_
        rotate_left
        · intro w hSw
          (try dsimp only at hSw)
          go_simp
          all_goals (with_reducible rfl)
        try simp only [Act.put, List.setIfInBounds_toArray, List.set_cons_zero, List.set_cons_succ]
        refine wpAnyH_take (i := 12) (oi := ⟨some 82, _, _, _, _, _⟩) (v := ?_) rfl (by kernel_rfl) (by kernel_rfl) (by kernel_rfl) (fun _ _ _ h => h) (Or.inl ⟨by rfl, ?_⟩) (by assumption) ?_
        rotate_left
        · intro w hSw
          (try dsimp only at hSw)
          have y0 := hSw.1
          have y1 := hSw.2.1
          have y2 := hSw.2.2.1
          have y3 := hSw.2.2.2.1
          go_simp
          all_goals (with_reducible rfl)
        try simp only [Act.put, List.setIfInBounds_toArray, List.set_cons_zero, List.set_cons_succ]
        refine wpAnyH_take (i := 13) (oi := ⟨some 83, _, _, _, _, _⟩) (v := (.bool true)) rfl (by kernel_rfl) (by kernel_rfl) (by kernel_rfl) (fun _ _ _ h => h) (Or.inl ⟨by rfl, ?_⟩) (by assumption) ?_
        · intro w hSw
          (try dsimp only at hSw)
          go_simp
          all_goals (first | done | simp)
        try simp only [Act.put, List.setIfInBounds_toArray, List.set_cons_zero, List.set_cons_succ]
        refine wpAnyH_take (i := 14) (oi := ⟨some 84, _, _, _, _, _⟩) (v := (.agg #[.string key, .slice a2 0 k2, .bool true])) rfl (by kernel_rfl) (by kernel_rfl) (by kernel_rfl) (fun _ _ _ h => h) (Or.inl ⟨by rfl, ?_⟩) (by assumption) ?_
        · intro w hSw
          (try dsimp only at hSw)
          go_simp
          all_goals (first | done | simp)
        try simp only [Act.put, List.setIfInBounds_toArray, List.set_cons_zero, List.set_cons_succ]
        refine wpAnyH_ready (rs := [15]) (by kernel_rfl) (by simp) ?_
        refine AllReadyH.cons (o := ⟨some 85, _, _, _, _, _⟩) rfl (fun K hK => ?_) AllReadyH.nil
        rw [if_pos (by rfl)]
        refine wp_slice_one 33 32 _ (by rfl) #[.string key, .slice a2 0 k2, .bool true] (by rfl) Tryz.underlying33 zero_chg (by decide) (by decide) (by rfl) ?_
        have b8 := (Below.refl wd.heap.size wd).alloc (Nat.le_refl _) (.cells #[.string key, .slice a2 0 k2, .bool true] 32)
        have s8 : SrcG Chg.cells 3 (wd.alloc (.cells #[.string key, .slice a2 0 k2, .bool true] 32)) (.slice (some ⟨wd.heap.size, 0, none⟩) 1 1) [(⟨key, .slice a2 0 k2, val, true⟩ : Chg)] := src_new (f := Chg.cells) (n := 3) wd 32 (⟨key, .slice a2 0 k2, val, true⟩ : Chg)
        have hM8 := row_low hM9 b8
        have hd8 := hd9.trans (b8.mono hd9.size)
        have hSS : ∀ {w3 : World}, Below w2.heap.size w2 w3 → w3.cell? ⟨g, o, none⟩ = some (.slice (some ⟨bk, ok, none⟩) 1 kc) ∧ w3.cell? ⟨g, o + 1, none⟩ = some (.slice a1 kn k1) ∧ w3.cell? ⟨g, o + 2, none⟩ = some (.slice a2 0 k2) ∧ w3.cell? ⟨bk, ok, none⟩ = some (.int .u8 1) ∧ SliceIs w3 (.slice a1 kn k1) (bytesB key) := fun {w3} hq => ⟨(hq.cell (p := ⟨g, o, none⟩) hg).trans hc0, (hq.cell (p := ⟨g, o + 1, none⟩) hg).trans hc1, (hq.cell (p := ⟨g, o + 2, none⟩) hg).trans hc2, (hq.cell (p := ⟨bk, ok, none⟩) hbk).trans z3, hs1.low hq⟩
        generalize wd.alloc (.cells #[.string key, .slice a2 0 k2, .bool true] 32) = w8 at b8 s8 hM8 hd8 ⊢
        refine hK.out _ _ (hSS hd8) (fun _ => ?_)
        clear hK K
        try simp only [Act.put, List.setIfInBounds_toArray, List.set_cons_zero, List.set_cons_succ]
        refine wpAnyH_ready (rs := [16]) (by kernel_rfl) (by simp) ?_
        refine AllReadyH.cons (o := ⟨some 86, _, _, _, _, _⟩) rfl (fun K hK => ?_) AllReadyH.nil
        rw [if_pos (by rfl)]
        refine wp_append_gen (f := Chg.cells) (n := 3) _ _ 33 32 (by rfl) _ 48 Tryz.underlying33 info_chg rfl (by decide) (by decide) lenChg w2.heap.size _ _ M [(⟨key, .slice a2 0 k2, val, true⟩ : Chg)] (by rfl) hM8 (by rfl) s8 (fun q hq y hy => by (obtain rfl : q = _ := by simpa using hq); (simp [Chg.cells] at hy); (rcases hy with rfl | rfl | rfl <;> rfl)) (by have := HML.out; simp only [List.length_cons, List.length_nil]; omega) hd8.size ?_
        intro v9 w9 O9 G9 M9
        have hd9b := hd8.trans ((Only.of_grown G9).below hd8.size fun i _ e => own_ge hM8 e)
        obtain ⟨a9, n9, c9, he9⟩ := slice_any O9
        subst he9
        clear hM8 s8
        refine hK.out _ _ (hSS hd9b) (fun _ => ?_)
        clear hK K
        try simp only [Act.put, List.setIfInBounds_toArray, List.set_cons_zero, List.set_cons_succ]
        refine wpAnyH_take (i := 17) (oi := ⟨some 6, _, _, _, _, _⟩) (v := ?_) rfl (by kernel_rfl) (by kernel_rfl) (by kernel_rfl) (fun _ _ _ h => h) (Or.inl ⟨by rfl, ?_⟩) (by assumption) ?_
        rotate_left
        · intro w hSw
          (try dsimp only at hSw)
          go_simp
          all_goals (with_reducible rfl)
        try simp only [Act.put, List.setIfInBounds_toArray, List.set_cons_zero, List.set_cons_succ]
        refine wpAnyH_done (by kernel_rfl) ?_ _
        refine NoPanic.normal ?_
        have hn3 := HNN.out
        have hk3 : n - 3 = 3 * (N - (k + 1)) := by omega
        have HK3 := Lib.hid hk3
        clear hk3 hn3
        go_wp2
        go_roundw
        case rel =>
          refine ⟨k + 1, _, _, _, a9, n9, c9, M ++ [(⟨key, .slice a2 0 k2, val, true⟩ : Chg)], by omega, rfl, HK3.out, HRS.out, rfl, O9, fun y hy => ?_, ?_, hd9b⟩
          · rcases List.mem_append.1 hy with hy | hy
            · exact HMS.out y hy
            · obtain rfl : y = _ := by simpa using hy
              exact hs2
          · rw [HTK.out.1, List.map_append, HTK.out.2]
            rfl
        case measure => simp only [lenS]; omega
      · obtain rfl : gone = false := by simpa using hgo
        have z3 : w2.cell? ⟨bk, ok, none⟩ = some (.int .u8 0) := hky
        go_upto_region 7 with fail
        have hd := hB.trans (((Below.refl wr.heap.size wr).drew).mono hB.size)
        have hM7 := row_low hM ((Below.refl wr.heap.size wr).drew)
        have HS7 := Lib.hid (show wr.drew.cell? ⟨g, o, none⟩ = some (.slice (some ⟨bk, ok, none⟩) 1 kc) ∧ wr.drew.cell? ⟨g, o + 1, none⟩ = some (.slice a1 kn k1) ∧ wr.drew.cell? ⟨g, o + 2, none⟩ = some (.slice a2 vn k2) ∧ wr.drew.cell? ⟨bk, ok, none⟩ = some (.int .u8 0) ∧ SliceIs wr.drew (.slice a1 kn k1) (bytesB key) from ⟨(hd.cell (p := ⟨g, o, none⟩) hg).trans hc0, (hd.cell (p := ⟨g, o + 1, none⟩) hg).trans hc1, (hd.cell (p := ⟨g, o + 2, none⟩) hg).trans hc2, (hd.cell (p := ⟨bk, ok, none⟩) hbk).trans z3, hs1.low hd⟩)
        clear hM
        refine wp_region_noPanic ?_
        refine wp_region_held_drew (S := fun w' => w'.cell? ⟨g, o, none⟩ = some (.slice (some ⟨bk, ok, none⟩) 1 kc) ∧ w'.cell? ⟨g, o + 1, none⟩ = some (.slice a1 kn k1) ∧ w'.cell? ⟨g, o + 2, none⟩ = some (.slice a2 vn k2) ∧ w'.cell? ⟨bk, ok, none⟩ = some (.int .u8 0) ∧ SliceIs w' (.slice a1 kn k1) (bytesB key)) (by kernel_rfl) (HS7.out) (fun hhS => ?_)
        generalize wr.drew = wd at hd hM7 HS7 hhS ⊢
        refine wpAnyH_take (i := 0) (oi := ⟨some 31, _, _, _, _, _⟩) (v := ?_) rfl (by kernel_rfl) (by kernel_rfl) (by kernel_rfl) (fun _ _ _ h => h) (Or.inl ⟨by rfl, ?_⟩) (by assumption) ?_
        rotate_left
        · intro w hSw
          (try dsimp only at hSw)
          go_simp
          all_goals (with_reducible rfl)
        try simp only [Act.put, List.setIfInBounds_toArray, List.set_cons_zero, List.set_cons_succ]
        refine wpAnyH_take (i := 1) (oi := ⟨some 32, _, _, _, _, _⟩) (v := ?_) rfl (by kernel_rfl) (by kernel_rfl) (by kernel_rfl) (fun _ _ _ h => h) (Or.inl ⟨by rfl, ?_⟩) (by assumption) ?_
        rotate_left
        · intro w hSw
          (try dsimp only at hSw)
          go_simp
          all_goals (with_reducible rfl)
        try simp only [Act.put, List.setIfInBounds_toArray, List.set_cons_zero, List.set_cons_succ]
        refine wpAnyH_take (i := 2) (oi := ⟨some 33, _, _, _, _, _⟩) (v := ?_) rfl (by kernel_rfl) (by kernel_rfl) (by kernel_rfl) (fun _ _ _ h => h) (Or.inl ⟨by rfl, ?_⟩) (by assumption) ?_
        rotate_left
        · intro w hSw
          (try dsimp only at hSw)
          have y0 := hSw.1
          have y1 := hSw.2.1
          have y2 := hSw.2.2.1
          have y3 := hSw.2.2.2.1
          go_simp
          all_goals (with_reducible rfl)
        try simp only [Act.put, List.setIfInBounds_toArray, List.set_cons_zero, List.set_cons_succ]
        refine wpAnyH_take (i := 3) (oi := ⟨some 34, _, _, _, _, _⟩) (v := ?_) rfl (by kernel_rfl) (by kernel_rfl) (by kernel_rfl) (fun _ _ _ h => h) (Or.inl ⟨by rfl, ?_⟩) (by assumption) ?_
        rotate_left
        · intro w hSw
          (try dsimp only at hSw)
          go_simp
          all_goals (with_reducible rfl)
        try simp only [Act.put, List.setIfInBounds_toArray, List.set_cons_zero, List.set_cons_succ]
        refine wpAnyH_take (i := 4) (oi := ⟨some 35, _, _, _, _, _⟩) (v := ?_) rfl (by kernel_rfl) (by kernel_rfl) (by kernel_rfl) (fun _ _ _ h => h) (Or.inl ⟨by rfl, ?_⟩) (by assumption) ?_
        rotate_left
        · intro w hSw
          (try dsimp only at hSw)
          go_simp
          all_goals (with_reducible rfl)
        try simp only [Act.put, List.setIfInBounds_toArray, List.set_cons_zero, List.set_cons_succ]
        refine wpAnyH_take (i := 5) (oi := ⟨some 36, _, _, _, _, _⟩) (v := ?_) rfl (by kernel_rfl) (by kernel_rfl) (by kernel_rfl) (fun _ _ _ h => h) (Or.inl ⟨by rfl, ?_⟩) (by assumption) ?_
        rotate_left
        · intro w hSw
          (try dsimp only at hSw)
          go_simp
          all_goals (with_reducible rfl)
        try simp only [Act.put, List.setIfInBounds_toArray, List.set_cons_zero, List.set_cons_succ]
        refine wpAnyH_take (i := 6) (oi := ⟨some 37, _, _, _, _, _⟩) (v := ?_) rfl (by kernel_rfl) (by kernel_rfl) (by kernel_rfl) (fun _ _ _ h => h) (Or.inl ⟨by rfl, ?_⟩) (by assumption) ?_
        rotate_left
        · intro w hSw
          (try dsimp only at hSw)
          go_simp
          all_goals (with_reducible rfl)
        try simp only [Act.put, List.setIfInBounds_toArray, List.set_cons_zero, List.set_cons_succ]
        refine wpAnyH_take (i := 7) (oi := ⟨some 38, _, _, _, _, _⟩) (v := ?_) rfl (by kernel_rfl) (by kernel_rfl) (by kernel_rfl) (fun _ _ _ h => h) (Or.inl ⟨by rfl, ?_⟩) (by assumption) ?_
        rotate_left
        · intro w hSw
          (try dsimp only at hSw)
          go_simp
          all_goals (with_reducible rfl)
        try simp only [Act.put, List.setIfInBounds_toArray, List.set_cons_zero, List.set_cons_succ]
        refine wpAnyH_take (i := 8) (oi := ⟨some 39, _, _, _, _, _⟩) (v := ?_) rfl (by kernel_rfl) (by kernel_rfl) (by kernel_rfl) (fun _ _ _ h => h) (Or.inl ⟨by rfl, ?_⟩) (by assumption) ?_
        rotate_left
        · intro w hSw
          (try dsimp only at hSw)
          have y0 := hSw.1
          have y1 := hSw.2.1
          have y2 := hSw.2.2.1
          have y3 := hSw.2.2.2.1
          go_simp
          all_goals (with_reducible rfl)
        try simp only [Act.put, List.setIfInBounds_toArray, List.set_cons_zero, List.set_cons_succ]
        refine wpAnyH_take (i := 9) (oi := ⟨some 40, _, _, _, _, _⟩) (v := ?_) rfl (by kernel_rfl) (by kernel_rfl) (by kernel_rfl) (fun _ _ _ h => h) (Or.inl ⟨by rfl, ?_⟩) (by assumption) ?_
        rotate_left
        · intro w hSw
          (try dsimp only at hSw)
          go_simp
          all_goals (with_reducible rfl)
        try simp only [Act.put, List.setIfInBounds_toArray, List.set_cons_zero, List.set_cons_succ]
        refine wpAnyH_take (i := 10) (oi := ⟨some 41, _, _, _, _, _⟩) (v := ?_) rfl (by kernel_rfl) (by kernel_rfl) (by kernel_rfl) (fun _ _ _ h => h) (Or.inl ⟨by rfl, ?_⟩) (by assumption) ?_
        rotate_left
        · intro w hSw
          (try dsimp only at hSw)
          have y0 := hSw.1
          have y1 := hSw.2.1
          have y2 := hSw.2.2.1
          have y3 := hSw.2.2.2.1
          go_simp
          all_goals (with_reducible rfl)
        try simp only [Act.put, List.setIfInBounds_toArray, List.set_cons_zero, List.set_cons_succ]
        refine wpAnyH_take (i := 11) (oi := ⟨some 42, _, _, _, _, _⟩) (v := (.bool false)) rfl (by kernel_rfl) (by kernel_rfl) (by kernel_rfl) (fun _ _ _ h => h) (Or.inl ⟨by rfl, ?_⟩) (by assumption) ?_
        · intro w hSw
          (try dsimp only at hSw)
          go_simp
          all_goals (first | done | simp)
        try simp only [Act.put, List.setIfInBounds_toArray, List.set_cons_zero, List.set_cons_succ]
        refine wpAnyH_take (i := 12) (oi := ⟨some 43, _, _, _, _, _⟩) (v := (.bool false)) rfl (by kernel_rfl) (by kernel_rfl) (by kernel_rfl) (fun _ _ _ h => h) (Or.inl ⟨by rfl, ?_⟩) (by assumption) ?_
        · intro w hSw
          (try dsimp only at hSw)
          go_simp
          all_goals (first | done | simp)
        try simp only [Act.put, List.setIfInBounds_toArray, List.set_cons_zero, List.set_cons_succ]
        refine wpAnyH_take (i := 13) (oi := ⟨some 44, _, _, _, _, _⟩) (v := ?_) rfl (by kernel_rfl) (by kernel_rfl) (by kernel_rfl) (fun _ _ _ h => h) (Or.inl ⟨by rfl, ?_⟩) (by assumption) ?_
        rotate_left
        · intro w hSw
          (try dsimp only at hSw)
          go_simp
          all_goals (with_reducible rfl)
        try simp only [Act.put, List.setIfInBounds_toArray, List.set_cons_zero, List.set_cons_succ]
        refine wpAnyH_take (i := 14) (oi := ⟨some 45, _, _, _, _, _⟩) (v := ?_) rfl (by kernel_rfl) (by kernel_rfl) (by kernel_rfl) (fun _ _ _ h => h) (Or.inl ⟨by rfl, ?_⟩) (by assumption) ?_
        rotate_left
        · intro w hSw
          (try dsimp only at hSw)
          go_simp
          all_goals (with_reducible rfl)
        try simp only [Act.put, List.setIfInBounds_toArray, List.set_cons_zero, List.set_cons_succ]
        refine wpAnyH_take (i := 15) (oi := ⟨some 46, _, _, _, _, _⟩) (v := ?_) rfl (by kernel_rfl) (by kernel_rfl) (by kernel_rfl) (fun _ _ _ h => h) (Or.inl ⟨by rfl, ?_⟩) (by assumption) ?_
        rotate_left
        · intro w hSw
          (try dsimp only at hSw)
          go_simp
          all_goals (with_reducible rfl)
        try simp only [Act.put, List.setIfInBounds_toArray, List.set_cons_zero, List.set_cons_succ]
        refine wpAnyH_take (i := 16) (oi := ⟨some 47, _, _, _, _, _⟩) (v := ?_) rfl (by kernel_rfl) (by kernel_rfl) (by kernel_rfl) (fun _ _ _ h => h) (Or.inl ⟨by rfl, ?_⟩) (by assumption) ?_
        rotate_left
        · intro w hSw
          (try dsimp only at hSw)
          have y0 := hSw.1
          have y1 := hSw.2.1
          have y2 := hSw.2.2.1
          have y3 := hSw.2.2.2.1
          go_simp
          all_goals (with_reducible rfl)
        try simp only [Act.put, List.setIfInBounds_toArray, List.set_cons_zero, List.set_cons_succ]
        refine wpAnyH_take (i := 17) (oi := ⟨some 48, _, _, _, _, _⟩) (v := (.string key)) rfl (by kernel_rfl) (by kernel_rfl) (by kernel_rfl) (fun _ _ _ h => h) (Or.inl ⟨by rfl, ?_⟩) (by assumption) ?_
        · intro w hSw
          (try dsimp only at hSw)
          have y0 := hSw.1
          have y1 := hSw.2.1
          have y2 := hSw.2.2.1
          have y3 := hSw.2.2.2.1
          have hcv := run_convert_slice w _ _ hSw.2.2.2.2
          rw [textOf_bytesB] at hcv
          go_simp
          all_goals (first | done | simp)
        try simp only [Act.put, List.setIfInBounds_toArray, List.set_cons_zero, List.set_cons_succ]
        refine wpAnyH_take (i := 18) (oi := ⟨some 49, _, _, _, _, _⟩) (v := ?_) rfl (by kernel_rfl) (by kernel_rfl) (by kernel_rfl) (fun _ _ _ h => h) (Or.inl ⟨by rfl, ?_⟩) (by assumption) ?_
        rotate_left
        · intro w hSw
          (try dsimp only at hSw)
          go_simp
          all_goals (with_reducible rfl)
        try simp only [Act.put, List.setIfInBounds_toArray, List.set_cons_zero, List.set_cons_succ]
        refine wpAnyH_take (i := 19) (oi := ⟨some 50, _, _, _, _, _⟩) (v := ?_) rfl (by kernel_rfl) (by kernel_rfl) (by kernel_rfl) (fun _ _ _ h => h) (Or.inl ⟨by rfl, ?_⟩) (by assumption) ?_
        rotate_left
        · intro w hSw
          (try dsimp only at hSw)
          go_simp
          all_goals (with_reducible rfl)
        try simp only [Act.put, List.setIfInBounds_toArray, List.set_cons_zero, List.set_cons_succ]
        refine wpAnyH_take (i := 20) (oi := ⟨some 51, _, _, _, _, _⟩) (v := ?_) rfl (by kernel_rfl) (by kernel_rfl) (by kernel_rfl) (fun _ _ _ h => h) (Or.inl ⟨by rfl, ?_⟩) (by assumption) ?_
        rotate_left
        · intro w hSw
          (try dsimp only at hSw)
          have y0 := hSw.1
          have y1 := hSw.2.1
          have y2 := hSw.2.2.1
          have y3 := hSw.2.2.2.1
          go_simp
          all_goals (with_reducible rfl)
        try simp only [Act.put, List.setIfInBounds_toArray, List.set_cons_zero, List.set_cons_succ]
        refine wpAnyH_ready (rs := [21]) (by kernel_rfl) (by simp) ?_
        refine AllReadyH.cons (o := ⟨some 52, _, _, _, _, _⟩) rfl (fun K hK => ?_) AllReadyH.nil
        go_simp
        refine (bounds_yes _ key a2 vn k2 hk1 hk2 hvn).mono ?_
        rintro r w5 ⟨rfl, rfl⟩
        refine hK.out _ _ (hhS) (fun _ => ?_)
        clear hK K
        try simp only [Act.put, List.setIfInBounds_toArray, List.set_cons_zero, List.set_cons_succ]
        refine wpAnyH_take (i := 22) (oi := ⟨some 53, _, _, _, _, _⟩) (v := ?_) rfl (by kernel_rfl) (by kernel_rfl) (by kernel_rfl) (fun _ _ _ h => h) (Or.inl ⟨by rfl, ?_⟩) (by assumption) ?_
        rotate_left
        · intro w hSw
          (try dsimp only at hSw)
          go_simp
          all_goals (with_reducible rfl)
        try simp only [Act.put, List.setIfInBounds_toArray, List.set_cons_zero, List.set_cons_succ]
        refine wpAnyH_take (i := 23) (oi := ⟨some 54, _, _, _, _, _⟩) (v := ?_) rfl (by kernel_rfl) (by kernel_rfl) (by kernel_rfl) (fun _ _ _ h => h) (Or.inl ⟨by rfl, ?_⟩) (by assumption) ?_
        rotate_left
        · intro w hSw
          (try dsimp only at hSw)
          go_simp
          all_goals (with_reducible rfl)
        try simp only [Act.put, List.setIfInBounds_toArray, List.set_cons_zero, List.set_cons_succ]
        refine wpAnyH_take (i := 24) (oi := ⟨some 55, _, _, _, _, _⟩) (v := ?_) rfl (by kernel_rfl) (by kernel_rfl) (by kernel_rfl) (fun _ _ _ h => h) (Or.inl ⟨by rfl, ?_⟩) (by assumption) ?_
        rotate_left
        · intro w hSw
          (try dsimp only at hSw)
          go_simp
          all_goals (with_reducible rfl)
        try simp only [Act.put, List.setIfInBounds_toArray, List.set_cons_zero, List.set_cons_succ]
        refine wpAnyH_take (i := 25) (oi := ⟨some 56, _, _, _, _, _⟩) (v := ?_) rfl (by kernel_rfl) (by kernel_rfl) (by kernel_rfl) (fun _ _ _ h => h) (Or.inl ⟨by rfl, ?_⟩) (by assumption) ?_
        rotate_left
        · intro w hSw
          (try dsimp only at hSw)
          go_simp
          all_goals (with_reducible rfl)
        try simp only [Act.put, List.setIfInBounds_toArray, List.set_cons_zero, List.set_cons_succ]
        refine wpAnyH_take (i := 26) (oi := ⟨some 57, _, _, _, _, _⟩) (v := ?_) rfl (by kernel_rfl) (by kernel_rfl) (by kernel_rfl) (fun _ _ _ h => h) (Or.inl ⟨by rfl, ?_⟩) (by assumption) ?_
        rotate_left
        · intro w hSw
          (try dsimp only at hSw)
          go_simp
          all_goals (with_reducible rfl)
        try simp only [Act.put, List.setIfInBounds_toArray, List.set_cons_zero, List.set_cons_succ]
        refine wpAnyH_take (i := 27) (oi := ⟨some 58, _, _, _, _, _⟩) (v := ?_) rfl (by kernel_rfl) (by kernel_rfl) (by kernel_rfl) (fun _ _ _ h => h) (Or.inl ⟨by rfl, ?_⟩) (by assumption) ?_
        rotate_left
        · intro w hSw
          (try dsimp only at hSw)
          have y0 := hSw.1
          have y1 := hSw.2.1
          have y2 := hSw.2.2.1
          have y3 := hSw.2.2.2.1
          go_simp
          all_goals (with_reducible rfl)
        try simp only [Act.put, List.setIfInBounds_toArray, List.set_cons_zero, List.set_cons_succ]
        refine wpAnyH_take (i := 28) (oi := ⟨some 59, _, _, _, _, _⟩) (v := ?_) rfl (by kernel_rfl) (by kernel_rfl) (by kernel_rfl) (fun _ _ _ h => h) (Or.inl ⟨by rfl, ?_⟩) (by assumption) ?_
        rotate_left
        · intro w hSw
          (try dsimp only at hSw)
          go_simp
          all_goals (with_reducible rfl)
        try simp only [Act.put, List.setIfInBounds_toArray, List.set_cons_zero, List.set_cons_succ]
        refine wpAnyH_take (i := 29) (oi := ⟨some 60, _, _, _, _, _⟩) (v := ?_) rfl (by kernel_rfl) (by kernel_rfl) (by kernel_rfl) (fun _ _ _ h => h) (Or.inl ⟨by rfl, ?_⟩) (by assumption) ?_
        rotate_left
        · intro w hSw
          (try dsimp only at hSw)
          have y0 := hSw.1
          have y1 := hSw.2.1
          have y2 := hSw.2.2.1
          have y3 := hSw.2.2.2.1
          go_simp
          all_goals (with_reducible rfl)
        try simp only [Act.put, List.setIfInBounds_toArray, List.set_cons_zero, List.set_cons_succ]
        refine wpAnyH_take (i := 30) (oi := ⟨some 61, _, _, _, _, _⟩) (v := (.bool false)) rfl (by kernel_rfl) (by kernel_rfl) (by kernel_rfl) (fun _ _ _ h => h) (Or.inl ⟨by rfl, ?_⟩) (by assumption) ?_
        · intro w hSw
          (try dsimp only at hSw)
          go_simp
          all_goals (first | done | simp)
        try simp only [Act.put, List.setIfInBounds_toArray, List.set_cons_zero, List.set_cons_succ]
        refine wpAnyH_take (i := 31) (oi := ⟨some 62, _, _, _, _, _⟩) (v := ?_) rfl (by kernel_rfl) (by kernel_rfl) (by kernel_rfl) (fun _ _ _ h => h) (Or.inl ⟨by rfl, ?_⟩) (by assumption) ?_
        rotate_left
        · intro w hSw
          (try dsimp only at hSw)
          go_simp
          all_goals (with_reducible rfl)
        try simp only [Act.put, List.setIfInBounds_toArray, List.set_cons_zero, List.set_cons_succ]
        refine wpAnyH_take (i := 32) (oi := ⟨some 63, _, _, _, _, _⟩) (v := undef) rfl (by kernel_rfl) (by kernel_rfl) (by kernel_rfl) (fun _ _ _ h => h) (Or.inr ⟨by rfl, rfl⟩) (by assumption) ?_
        try simp only [Act.put, List.setIfInBounds_toArray, List.set_cons_zero, List.set_cons_succ]
        refine wpAnyH_take (i := 33) (oi := ⟨some 64, _, _, _, _, _⟩) (v := undef) rfl (by kernel_rfl) (by kernel_rfl) (by kernel_rfl) (fun _ _ _ h => h) (Or.inr ⟨by rfl, rfl⟩) (by assumption) ?_
        try simp only [Act.put, List.setIfInBounds_toArray, List.set_cons_zero, List.set_cons_succ]
        refine wpAnyH_take (i := 34) (oi := ⟨some 65, _, _, _, _, _⟩) (v := undef) rfl (by kernel_rfl) (by kernel_rfl) (by kernel_rfl) (fun _ _ _ h => h) (Or.inr ⟨by rfl, rfl⟩) (by assumption) ?_
        try simp only [Act.put, List.setIfInBounds_toArray, List.set_cons_zero, List.set_cons_succ]
        refine wpAnyH_take (i := 35) (oi := ⟨some 66, _, _, _, _, _⟩) (v := undef) rfl (by kernel_rfl) (by kernel_rfl) (by kernel_rfl) (fun _ _ _ h => h) (Or.inr ⟨by rfl, rfl⟩) (by assumption) ?_
        try simp only [Act.put, List.setIfInBounds_toArray, List.set_cons_zero, List.set_cons_succ]
        refine wpAnyH_take (i := 36) (oi := ⟨some 67, _, _, _, _, _⟩) (v := undef) rfl (by kernel_rfl) (by kernel_rfl) (by kernel_rfl) (fun _ _ _ h => h) (Or.inr ⟨by rfl, rfl⟩) (by assumption) ?_
        try simp only [Act.put, List.setIfInBounds_toArray, List.set_cons_zero, List.set_cons_succ]
        refine wpAnyH_take (i := 37) (oi := ⟨some 68, _, _, _, _, _⟩) (v := (.bool false)) rfl (by kernel_rfl) (by kernel_rfl) (by kernel_rfl) (fun _ _ _ h => h) (Or.inl ⟨by rfl, ?_⟩) (by assumption) ?_
        · intro w hSw
          (try dsimp only at hSw)
          go_simp
          all_goals (first | done | simp)
        try simp only [Act.put, List.setIfInBounds_toArray, List.set_cons_zero, List.set_cons_succ]
        refine wpAnyH_take (i := 38) (oi := ⟨some 69, _, _, _, _, _⟩) (v := (.bool false)) rfl (by kernel_rfl) (by kernel_rfl) (by kernel_rfl) (fun _ _ _ h => h) (Or.inl ⟨by rfl, ?_⟩) (by assumption) ?_
        · intro w hSw
          (try dsimp only at hSw)
          go_simp
          all_goals (first | done | simp)
        try simp only [Act.put, List.setIfInBounds_toArray, List.set_cons_zero, List.set_cons_succ]
        refine wpAnyH_done (by kernel_rfl) ?_ _
        refine NoPanic.normal ?_
        go_upto_region 9 with fail
        have hd9 := hd.trans (((Below.refl wd.heap.size wd).drew).mono hd.size)
        have hM9 := row_low hM7 ((Below.refl wd.heap.size wd).drew)
        have HS9 := Lib.hid (show wd.drew.cell? ⟨g, o, none⟩ = some (.slice (some ⟨bk, ok, none⟩) 1 kc) ∧ wd.drew.cell? ⟨g, o + 1, none⟩ = some (.slice a1 kn k1) ∧ wd.drew.cell? ⟨g, o + 2, none⟩ = some (.slice a2 vn k2) ∧ wd.drew.cell? ⟨bk, ok, none⟩ = some (.int .u8 0) ∧ SliceIs wd.drew (.slice a1 kn k1) (bytesB key) from ⟨(hd9.cell (p := ⟨g, o, none⟩) hg).trans hc0, (hd9.cell (p := ⟨g, o + 1, none⟩) hg).trans hc1, (hd9.cell (p := ⟨g, o + 2, none⟩) hg).trans hc2, (hd9.cell (p := ⟨bk, ok, none⟩) hbk).trans z3, hs1.low hd9⟩)
        clear hM7 hhS HS7
        refine wp_region_noPanic ?_
        refine wp_region_held_drew (S := fun w' => w'.cell? ⟨g, o, none⟩ = some (.slice (some ⟨bk, ok, none⟩) 1 kc) ∧ w'.cell? ⟨g, o + 1, none⟩ = some (.slice a1 kn k1) ∧ w'.cell? ⟨g, o + 2, none⟩ = some (.slice a2 vn k2) ∧ w'.cell? ⟨bk, ok, none⟩ = some (.int .u8 0) ∧ SliceIs w' (.slice a1 kn k1) (bytesB key)) (by kernel_rfl) (HS9.out) (fun hhS => ?_)
        generalize wd.drew = wd at hd9 hM9 HS9 hhS ⊢
        refine wpAnyH_take (i := 0) (oi := ⟨some 70, _, _, _, _, _⟩) (v := ?_) rfl (by kernel_rfl) (by kernel_rfl) (by kernel_rfl) (fun _ _ _ h => h) (Or.inl ⟨by rfl, ?_⟩) (by assumption) ?_
        rotate_left
        · intro w hSw
          (try dsimp only at hSw)
          go_simp
          all_goals (with_reducible rfl)
        try simp only [Act.put, List.setIfInBounds_toArray, List.set_cons_zero, List.set_cons_succ]
        refine wpAnyH_take (i := 1) (oi := ⟨some 71, _, _, _, _, _⟩) (v := ?_) rfl (by kernel_rfl) (by kernel_rfl) (by kernel_rfl) (fun _ _ _ h => h) (Or.inl ⟨by rfl, ?_⟩) (by assumption) ?_
        rotate_left
        · intro w hSw
          (try dsimp only at hSw)
          go_simp
          all_goals (with_reducible rfl)
        try simp only [Act.put, List.setIfInBounds_toArray, List.set_cons_zero, List.set_cons_succ]
        refine wpAnyH_take (i := 2) (oi := ⟨some 72, _, _, _, _, _⟩) (v := ?_) rfl (by kernel_rfl) (by kernel_rfl) (by kernel_rfl) (fun _ _ _ h => h) (Or.inl ⟨by rfl, ?_⟩) (by assumption) ?_
        rotate_left
        · intro w hSw
          (try dsimp only at hSw)
          go_simp
          all_goals (with_reducible rfl)
        try simp only [Act.put, List.setIfInBounds_toArray, List.set_cons_zero, List.set_cons_succ]
        refine wpAnyH_take (i := 3) (oi := ⟨some 73, _, _, _, _, _⟩) (v := ?_) rfl (by kernel_rfl) (by kernel_rfl) (by kernel_rfl) (fun _ _ _ h => h) (Or.inl ⟨by rfl, ?_⟩) (by assumption) ?_
        rotate_left
        · intro w hSw
          (try dsimp only at hSw)
          have y0 := hSw.1
          have y1 := hSw.2.1
          have y2 := hSw.2.2.1
          have y3 := hSw.2.2.2.1
          go_simp
          all_goals (with_reducible rfl)
        try simp only [Act.put, List.setIfInBounds_toArray, List.set_cons_zero, List.set_cons_succ]
        refine wpAnyH_take (i := 4) (oi := ⟨some 74, _, _, _, _, _⟩) (v := (.string key)) rfl (by kernel_rfl) (by kernel_rfl) (by kernel_rfl) (fun _ _ _ h => h) (Or.inl ⟨by rfl, ?_⟩) (by assumption) ?_
        · intro w hSw
          (try dsimp only at hSw)
          have y0 := hSw.1
          have y1 := hSw.2.1
          have y2 := hSw.2.2.1
          have y3 := hSw.2.2.2.1
          have hcv := run_convert_slice w _ _ hSw.2.2.2.2
          rw [textOf_bytesB] at hcv
          go_simp
          all_goals (first | done | simp)
        try simp only [Act.put, List.setIfInBounds_toArray, List.set_cons_zero, List.set_cons_succ]
        refine wpAnyH_take (i := 5) (oi := ⟨some 75, _, _, _, _, _⟩) (v := ?_) rfl (by kernel_rfl) (by kernel_rfl) (by kernel_rfl) (fun _ _ _ h => h) (Or.inl ⟨by rfl, ?_⟩) (by assumption) ?_
        rotate_left
        · intro w hSw
          (try dsimp only at hSw)
          go_simp
          all_goals (with_reducible rfl)
        try simp only [Act.put, List.setIfInBounds_toArray, List.set_cons_zero, List.set_cons_succ]
        refine wpAnyH_take (i := 6) (oi := ⟨some 76, _, _, _, _, _⟩) (v := ?_) rfl (by kernel_rfl) (by kernel_rfl) (by kernel_rfl) (fun _ _ _ h => h) (Or.inl ⟨by rfl, ?_⟩) (by assumption) ?_
        rotate_left
        · intro w hSw
          (try dsimp only at hSw)
          go_simp
          all_goals (with_reducible rfl)
        try simp only [Act.put, List.setIfInBounds_toArray, List.set_cons_zero, List.set_cons_succ]
        refine wpAnyH_take (i := 7) (oi := ⟨some 77, _, _, _, _, _⟩) (v := ?_) rfl (by kernel_rfl) (by kernel_rfl) (by kernel_rfl) (fun _ _ _ h => h) (Or.inl ⟨by rfl, ?_⟩) (by assumption) ?_
        rotate_left
        · intro w hSw
          (try dsimp only at hSw)
          have y0 := hSw.1
          have y1 := hSw.2.1
          have y2 := hSw.2.2.1
          have y3 := hSw.2.2.2.1
          go_simp
          all_goals (with_reducible rfl)
        try simp only [Act.put, List.setIfInBounds_toArray, List.set_cons_zero, List.set_cons_succ]
        refine wpAnyH_take (i := 8) (oi := ⟨some 78, _, _, _, _, _⟩) (v := ?_) rfl (by kernel_rfl) (by kernel_rfl) (by kernel_rfl) (fun _ _ _ h => h) (Or.inl ⟨by rfl, ?_⟩) (by assumption) ?_
        rotate_left
        · intro w hSw
          (try dsimp only at hSw)
          go_simp
          all_goals (with_reducible rfl)
        try simp only [Act.put, List.setIfInBounds_toArray, List.set_cons_zero, List.set_cons_succ]
        refine wpAnyH_take (i := 9) (oi := ⟨some 79, _, _, _, _, _⟩) (v := ?_) rfl (by kernel_rfl) (by kernel_rfl) (by kernel_rfl) (fun _ _ _ h => h) (Or.inl ⟨by rfl, ?_⟩) (by assumption) ?_
        rotate_left
        · intro w hSw
          (try dsimp only at hSw)
          go_simp
          all_goals (with_reducible rfl)
        try simp only [Act.put, List.setIfInBounds_toArray, List.set_cons_zero, List.set_cons_succ]
        refine wpAnyH_take (i := 10) (oi := ⟨some 80, _, _, _, _, _⟩) (v := ?_) rfl (by kernel_rfl) (by kernel_rfl) (by kernel_rfl) (fun _ _ _ h => h) (Or.inl ⟨by rfl, ?_⟩) (by assumption) ?_
        rotate_left
        · intro w hSw
          (try dsimp only at hSw)
          have y0 := hSw.1
          have y1 := hSw.2.1
          have y2 := hSw.2.2.1
          have y3 := hSw.2.2.2.1
          go_simp
          all_goals (with_reducible rfl)
        try simp only [Act.put, List.setIfInBounds_toArray, List.set_cons_zero, List.set_cons_succ]
        refine wpAnyH_take (i := 11) (oi := ⟨some 81, _, _, _, _, _⟩) (v := ?_) rfl (by kernel_rfl) (by kernel_rfl) (by kernel_rfl) (fun _ _ _ h => h) (Or.inl ⟨by rfl, ?_⟩) (by assumption) ?_
        rotate_left
        · intro w hSw
          (try dsimp only at hSw)
          go_simp
          all_goals (with_reducible rfl)
        try simp only [Act.put, List.setIfInBounds_toArray, List.set_cons_zero, List.set_cons_succ]
        refine wpAnyH_take (i := 12) (oi := ⟨some 82, _, _, _, _, _⟩) (v := ?_) rfl (by kernel_rfl) (by kernel_rfl) (by kernel_rfl) (fun _ _ _ h => h) (Or.inl ⟨by rfl, ?_⟩) (by assumption) ?_
        rotate_left
        · intro w hSw
          (try dsimp only at hSw)
          have y0 := hSw.1
          have y1 := hSw.2.1
          have y2 := hSw.2.2.1
          have y3 := hSw.2.2.2.1
          go_simp
          all_goals (with_reducible rfl)
        try simp only [Act.put, List.setIfInBounds_toArray, List.set_cons_zero, List.set_cons_succ]
        refine wpAnyH_take (i := 13) (oi := ⟨some 83, _, _, _, _, _⟩) (v := (.bool false)) rfl (by kernel_rfl) (by kernel_rfl) (by kernel_rfl) (fun _ _ _ h => h) (Or.inl ⟨by rfl, ?_⟩) (by assumption) ?_
        · intro w hSw
          (try dsimp only at hSw)
          go_simp
          all_goals (first | done | simp)
        try simp only [Act.put, List.setIfInBounds_toArray, List.set_cons_zero, List.set_cons_succ]
        refine wpAnyH_take (i := 14) (oi := ⟨some 84, _, _, _, _, _⟩) (v := (.agg #[.string key, .slice a2 vn k2, .bool false])) rfl (by kernel_rfl) (by kernel_rfl) (by kernel_rfl) (fun _ _ _ h => h) (Or.inl ⟨by rfl, ?_⟩) (by assumption) ?_
        · intro w hSw
          (try dsimp only at hSw)
          go_simp
          all_goals (first | done | simp)
        try simp only [Act.put, List.setIfInBounds_toArray, List.set_cons_zero, List.set_cons_succ]
        refine wpAnyH_ready (rs := [15]) (by kernel_rfl) (by simp) ?_
        refine AllReadyH.cons (o := ⟨some 85, _, _, _, _, _⟩) rfl (fun K hK => ?_) AllReadyH.nil
        rw [if_pos (by rfl)]
        refine wp_slice_one 33 32 _ (by rfl) #[.string key, .slice a2 vn k2, .bool false] (by rfl) Tryz.underlying33 zero_chg (by decide) (by decide) (by rfl) ?_
        have b8 := (Below.refl wd.heap.size wd).alloc (Nat.le_refl _) (.cells #[.string key, .slice a2 vn k2, .bool false] 32)
        have s8 : SrcG Chg.cells 3 (wd.alloc (.cells #[.string key, .slice a2 vn k2, .bool false] 32)) (.slice (some ⟨wd.heap.size, 0, none⟩) 1 1) [(⟨key, .slice a2 vn k2, val, false⟩ : Chg)] := src_new (f := Chg.cells) (n := 3) wd 32 (⟨key, .slice a2 vn k2, val, false⟩ : Chg)
        have hM8 := row_low hM9 b8
        have hd8 := hd9.trans (b8.mono hd9.size)
        have hSS : ∀ {w3 : World}, Below w2.heap.size w2 w3 → w3.cell? ⟨g, o, none⟩ = some (.slice (some ⟨bk, ok, none⟩) 1 kc) ∧ w3.cell? ⟨g, o + 1, none⟩ = some (.slice a1 kn k1) ∧ w3.cell? ⟨g, o + 2, none⟩ = some (.slice a2 vn k2) ∧ w3.cell? ⟨bk, ok, none⟩ = some (.int .u8 0) ∧ SliceIs w3 (.slice a1 kn k1) (bytesB key) := fun {w3} hq => ⟨(hq.cell (p := ⟨g, o, none⟩) hg).trans hc0, (hq.cell (p := ⟨g, o + 1, none⟩) hg).trans hc1, (hq.cell (p := ⟨g, o + 2, none⟩) hg).trans hc2, (hq.cell (p := ⟨bk, ok, none⟩) hbk).trans z3, hs1.low hq⟩
        generalize wd.alloc (.cells #[.string key, .slice a2 vn k2, .bool false] 32) = w8 at b8 s8 hM8 hd8 ⊢
        refine hK.out _ _ (hSS hd8) (fun _ => ?_)
        clear hK K
        try simp only [Act.put, List.setIfInBounds_toArray, List.set_cons_zero, List.set_cons_succ]
        refine wpAnyH_ready (rs := [16]) (by kernel_rfl) (by simp) ?_
        refine AllReadyH.cons (o := ⟨some 86, _, _, _, _, _⟩) rfl (fun K hK => ?_) AllReadyH.nil
        rw [if_pos (by rfl)]
        refine wp_append_gen (f := Chg.cells) (n := 3) _ _ 33 32 (by rfl) _ 48 Tryz.underlying33 info_chg rfl (by decide) (by decide) lenChg w2.heap.size _ _ M [(⟨key, .slice a2 vn k2, val, false⟩ : Chg)] (by rfl) hM8 (by rfl) s8 (fun q hq y hy => by (obtain rfl : q = _ := by simpa using hq); (simp [Chg.cells] at hy); (rcases hy with rfl | rfl | rfl <;> rfl)) (by have := HML.out; simp only [List.length_cons, List.length_nil]; omega) hd8.size ?_
        intro v9 w9 O9 G9 M9
        have hd9b := hd8.trans ((Only.of_grown G9).below hd8.size fun i _ e => own_ge hM8 e)
        obtain ⟨a9, n9, c9, he9⟩ := slice_any O9
        subst he9
        clear hM8 s8
        refine hK.out _ _ (hSS hd9b) (fun _ => ?_)
        clear hK K
        try simp only [Act.put, List.setIfInBounds_toArray, List.set_cons_zero, List.set_cons_succ]
        refine wpAnyH_take (i := 17) (oi := ⟨some 6, _, _, _, _, _⟩) (v := ?_) rfl (by kernel_rfl) (by kernel_rfl) (by kernel_rfl) (fun _ _ _ h => h) (Or.inl ⟨by rfl, ?_⟩) (by assumption) ?_
        rotate_left
        · intro w hSw
          (try dsimp only at hSw)
          go_simp
          all_goals (with_reducible rfl)
        try simp only [Act.put, List.setIfInBounds_toArray, List.set_cons_zero, List.set_cons_succ]
        refine wpAnyH_done (by kernel_rfl) ?_ _
        refine NoPanic.normal ?_
        have hn3 := HNN.out
        have hk3 : n - 3 = 3 * (N - (k + 1)) := by omega
        have HK3 := Lib.hid hk3
        clear hk3 hn3
        go_wp2
        go_roundw
        case rel =>
          refine ⟨k + 1, _, _, _, a9, n9, c9, M ++ [(⟨key, .slice a2 vn k2, val, false⟩ : Chg)], by omega, rfl, HK3.out, HRS.out, rfl, O9, fun y hy => ?_, ?_, hd9b⟩
          · rcases List.mem_append.1 hy with hy | hy
            · exact HMS.out y hy
            · obtain rfl : y = _ := by simpa using hy
              exact hs2
          · rw [HTK.out.1, List.map_append, HTK.out.2]
            rfl
        case measure => simp only [lenS]; omega
    · obtain rfl : k = N := by omega
      obtain rfl : n = 0 := by omega
      rw [List.take_of_length_le (Nat.le_of_eq HN.out)] at hMv
      have HM := Lib.hid hM
      have HMS := Lib.hid hMS
      have HMV := Lib.hid hMv
      clear hM hMS hMv hF hn
      go_wp2
      go_ret2
      exact ⟨_, M, rfl, ⟨_, _, _, rfl⟩, chgs_own HM.out fun x hx => (HMS.out x hx).low hB, HMV.out, HB2.out.trans (hB.mono HB2.out.size)⟩

end Go.Proofs.YtmmlpbepaefamaaGreatDoor
