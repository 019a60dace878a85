/- QuotaLeads: collide. -/
import Derived.Test.YtglcingpolpkdaaDoorColl
namespace Go.Proofs.YtglcingpolpkdaaDoor
open Go.RowKit

theorem CS.on {w w' : World} {XB YB UB VB : Nat} {x y u v : Dg} {g1 p1 : Nat} {m : Nt} {g2 p2 : Nat} {n : Nt} (h : CS w XB YB UB VB x y u v g1 p1 m g2 p2 n) (hb : Below w.heap.size w w') (h1 : g1 < w.heap.size) (h2 : g2 < w.heap.size) : CS w' XB YB UB VB x y u v g1 p1 m g2 p2 n :=
  ⟨h.xb.below hb h.xb.lt, h.yb.below hb h.yb.lt, h.ub.below hb h.ub.lt, h.vb.below hb h.vb.lt, rng_low h.ra h1 hb, rng_low h.rb h2 hb⟩
theorem KTab.over {w w' : World} {S : Nat → Prop} (h : KTab w) (ho : Only w w' S) (hs : ¬ S 0) : KTab w' :=
  ⟨Nat.lt_of_lt_of_le h.1 ho.size, fun i x hx => (World.cell?_of_block (a := ⟨0, i, none⟩) (ho.block 0 h.1 hs)).trans (h.2 i x hx)⟩
theorem drop_at {l : List Nt} {k : Nat} {n : Nt} (h : l[k]? = some n) : l.drop k = n :: l.drop (k + 1) := by
  obtain ⟨hk, he⟩ := List.getElem?_eq_some_iff.1 h
  rw [List.drop_eq_getElem_cons hk, he]

set_option maxRecDepth 100000 in
set_option maxHeartbeats 4000000 in
theorem collide_calls (w : World) (d : Dg) (va vb : Value) (a b : List Nt) (ha : NotesAt w va a) (hb : NotesAt w vb b) (hK : KTab w) (hl : a.length = b.length) (hlen : a.length ≤ 1000) :
    Calls Tryd.prog 26 #[.agg d.vs.toArray, va, vb] w fun e w' => e = .returned (.bool (collT d d a b)) ∧ Below w.heap.size w w' := by
  obtain ⟨pa, ca, rfl⟩ := ha.len
  obtain ⟨pb, cb, rfl⟩ := hb.len
  have b1 : Below w.heap.size w (w.alloc (.cells d.vs.toArray 24)) := (Below.refl _ _).alloc (Nat.le_refl _) _
  have h1 : Whole (w.alloc (.cells d.vs.toArray 24)) w.heap.size 24 d.vs := Whole.new w 24 d.vs.toArray
  obtain ⟨N, hN⟩ : ∃ n, a.length = n := ⟨_, rfl⟩
  have hN2 : b.length = N := by rw [← hl, hN]
  have HA := Lib.hid ha
  have HB := Lib.hid hb
  have HL := Lib.hid (And.intro hN hN2)
  have HK := Lib.hid hK
  rw [hN] at HA hlen
  rw [hN2] at HB
  rw [hN, hN2]
  clear ha hb hN hN2 hl hK
  go_enter Tryd.func26, Tryd.ntmps26
  go_upto_region 1 with (first
    | (refine wpList_box_cells (by rfl) 24 _ (by rfl) d.vs.toArray (by rfl) ?_)
    | fail)
  generalize w.alloc (.cells d.vs.toArray 24) = w1 at b1 h1 ⊢
  obtain ⟨H, hH⟩ : ∃ x, w.heap.size = x := ⟨_, rfl⟩
  rw [hH] at h1 ⊢
  clear hH
  refine cstart_step h1 ?_
  intro _ _ w2 X Y hX hY hXY hXn hYn b2
  have HX := Lib.hid (And.intro hXY (And.intro (Nat.le_trans b1.size hXn) (Nat.le_trans b1.size hYn)))
  have hb0 := b1.trans (b2.mono b1.size)
  clear h1 b1 b2 hXY hXn hYn
  go_wp2
  go_loopw [9] (fun i wr => ∃ (k : Nat) (x y : Dg), k ≤ N ∧ i = .int .i64 k ∧ Whole wr X 24 x.vs ∧ Whole wr Y 24 y.vs ∧ Below w.heap.size w wr ∧ collT d d a b = collT x y (a.drop k) (b.drop k)) (fun i _ => N - (intOf i).toNat)
  case atStart => exact ⟨0, d, d, by omega, rfl, hX, hY, hb0, by simp⟩
  case round =>
    clear hX hY hb0
    obtain ⟨k, x, y, hkN, rfl, hX, hY, hB, hC⟩ := hrel
    have HC := Lib.hid hC
    clear hC
    by_cases hlt : k < N
    · obtain ⟨m, hm⟩ : ∃ m, a[k]? = some m := ⟨_, List.getElem?_eq_getElem (by have := HL.out.1; omega)⟩
      obtain ⟨n, hn⟩ : ∃ n, b[k]? = some n := ⟨_, List.getElem?_eq_getElem (by have := HL.out.2; omega)⟩
      obtain ⟨g, o, rfl, hgl, hg⟩ := HA.out.at hm
      obtain ⟨g2, o2, rfl, hgl2, hg2⟩ := HB.out.at hn
      have HG := Lib.hid (fun w' (hb : Below w.heap.size w w') => And.intro (rng_low hg hgl hb) (Nat.lt_of_lt_of_le hgl hb.size))
      have HG2 := Lib.hid (fun w' (hb : Below w.heap.size w w') => And.intro (rng_low hg2 hgl2 hb) (Nat.lt_of_lt_of_le hgl2 hb.size))
      have hco := HC.out
      rw [drop_at hm, drop_at hn, collT] at hco
      have HO := Lib.hid hco
      clear hm hn hg hg2 hgl hgl2 hco
      have i1 : (k : Int) < (N : Int) := by omega
      have i2 : 0 ≤ (k : Int) ∧ (k : Int) < (N : Int) := by omega
      have b2 : IntKind.i64.wrap ((k : Int) + 1) = (k : Int) + 1 := IntWalk.i64_in _ (by omega)
      have HU := Lib.hid (fun w' (hk : KTab w') => next_dg w' x m hk)
      have HV := Lib.hid (fun w' (hk : KTab w') => next_dg w' y n hk)
      go_upto_region 5 with fail
      refine cnexta_step hX (HK.out.below hB HK.out.1) (HG.out _ hB).1 (HG.out _ hB).2 i2 HU ?_
      intro _ _ _ _ _ _ _ _ _ w3 UB b3 hU hUn
      have hX3 := hX.below b3 hX.lt
      have hY3 := hY.below b3 hY.lt
      have hUX : X ≠ UB := Nat.ne_of_lt (Nat.lt_of_lt_of_le hX.lt hUn)
      have hUY : Y ≠ UB := Nat.ne_of_lt (Nat.lt_of_lt_of_le hY.lt hUn)
      have hB3 := hB.trans (b3.mono hB.size)
      clear hX hY hB b3 hUn
      go_upto_region 6 with fail
      refine cnextb_step hY3 (HK.out.below hB3 HK.out.1) (HG2.out _ hB3).1 (HG2.out _ hB3).2 i2 HV ?_
      intro _ _ _ _ _ _ _ _ _ w4 VB b4 hV hVn
      have hX4 := hX3.below b4 hX3.lt
      have hY4 := hY3.below b4 hY3.lt
      have hU4 := hU.below b4 hU.lt
      have hVX : X ≠ VB := Nat.ne_of_lt (Nat.lt_of_lt_of_le hX3.lt hVn)
      have hVY : Y ≠ VB := Nat.ne_of_lt (Nat.lt_of_lt_of_le hY3.lt hVn)
      have hB4 := hB3.trans (b4.mono hB3.size)
      clear hX3 hY3 hU hB3 b4 hVn HU HV
      have HOK := Lib.hid (And.intro hU4 hV)
      clear hU4 hV
      unfold nextE at HOK
      unfold nextC
      by_cases hm : nextOk m = true
      · by_cases hn : nextOk n = true
        · rw [if_pos (by rw [hm, hn]; rfl)] at HO
          rw [if_pos hm, if_pos hn] at HOK ⊢
          obtain ⟨u, hu⟩ : ∃ u, nextG x m = u := ⟨_, rfl⟩
          obtain ⟨v, hv⟩ : ∃ v, nextG y n = v := ⟨_, rfl⟩
          rw [hu, hv] at HO HOK
          clear hu hv hm hn
          have hcs : CS w4 X Y UB VB x y u v g (o + k * 6) m g2 (o2 + k * 6) n := ⟨hX4, hY4, HOK.out.1, HOK.out.2, (HG.out _ hB4).1, (HG2.out _ hB4).1⟩
          have h1 := fun w => eqlIn_dg w u v
          have h2 := fun w => eqlIn_dg w x y
          have h3 := fun w => equalIn_note w m n
          clear hX4 hY4
          cases hA : eqD u v
          · rw [hA] at h1
            rw [hA] at HO
            replace HO := Lib.hid (HO.out.trans (if_neg (by simp)))
            go_upto_region 9 with fail
            refine ctestn_step hcs h1 ?_
            intro _ _ _ _ _ _ _ _ _ _ _ _ _ _ _ _ _ _ w5 b5
            have hcs2 := hcs.on b5 (HG.out _ hB4).2 (HG2.out _ hB4).2
            clear hcs
            go_upto_region 11 with fail
            refine cput_step hcs2.xb hcs2.yb hcs2.ub hcs2.vb HX.out.1 hUX hVX hUY hVY ?_
            intro _ _ w6 hX6 hY6 hO6
            have hB6 : Below w.heap.size w w6 := hB4.trans ((b5.mono hB4.size).trans (hO6.below (Nat.le_trans hB4.size b5.size) (fun i _ hi => hi.elim (fun e => e ▸ HX.out.2.1) (fun e => e ▸ HX.out.2.2))))
            clear hcs2 hO6 b5 hB4
            go_wp2
            go_roundw
            case rel => exact ⟨k + 1, u, v, by omega, by go_num, hX6, hY6, hB6, HO.out⟩
            case measure => simp [intOf]; omega
          · rw [hA] at h1
            cases hBx : eqD x y
            · rw [hBx] at h2
              rw [hA, hBx] at HO
              replace HO := Lib.hid (HO.out.trans (if_pos rfl))
              go_upto_region 9 with fail
              refine ctestd_step hcs h1 h2 ?_
              intro _ _ _ _ _ _ _ _ _ _ _ _ _ _ _ _ _ _ w5 b5
              have hcs2 := hcs.on b5 (HG.out _ hB4).2 (HG2.out _ hB4).2
              clear hcs
              have HF := Lib.hid (And.intro (HO.out) (hB4.trans (b5.mono hB4.size)))
              clear hcs2 b5 hB4 HO HC
              go_wp2
              all_goals
                go_ret
                exact ⟨by rw [HF.out.1] <;> rfl, HF.out.2⟩
            · rw [hBx] at h2
              cases hCx : eqN m n
              · rw [hCx] at h3
                rw [hA, hBx, hCx] at HO
                replace HO := Lib.hid (HO.out.trans (if_pos rfl))
                go_upto_region 9 with fail
                refine ctestu_step hcs h1 h2 h3 i2 i2 ?_
                intro _ _ _ _ _ _ _ _ _ _ _ _ _ _ _ _ _ _ w5 b5
                have hcs2 := hcs.on b5 (HG.out _ hB4).2 (HG2.out _ hB4).2
                clear hcs
                have HF := Lib.hid (And.intro (HO.out) (hB4.trans (b5.mono hB4.size)))
                clear hcs2 b5 hB4 HO HC
                go_wp2
                all_goals
                  go_ret
                  exact ⟨by rw [HF.out.1] <;> rfl, HF.out.2⟩
              · rw [hCx] at h3
                rw [hA, hBx, hCx] at HO
                replace HO := Lib.hid (HO.out.trans (if_neg (by simp)))
                go_upto_region 9 with fail
                refine ctests_step hcs h1 h2 h3 i2 i2 ?_
                intro _ _ _ _ _ _ _ _ _ _ _ _ _ _ _ _ _ _ w5 b5
                have hcs2 := hcs.on b5 (HG.out _ hB4).2 (HG2.out _ hB4).2
                clear hcs
                go_upto_region 11 with fail
                refine cput_step hcs2.xb hcs2.yb hcs2.ub hcs2.vb HX.out.1 hUX hVX hUY hVY ?_
                intro _ _ w6 hX6 hY6 hO6
                have hB6 : Below w.heap.size w w6 := hB4.trans ((b5.mono hB4.size).trans (hO6.below (Nat.le_trans hB4.size b5.size) (fun i _ hi => hi.elim (fun e => e ▸ HX.out.2.1) (fun e => e ▸ HX.out.2.2))))
                clear hcs2 hO6 b5 hB4
                go_wp2
                go_roundw
                case rel => exact ⟨k + 1, u, v, by omega, by go_num, hX6, hY6, hB6, HO.out⟩
                case measure => simp [intOf]; omega
        · rw [if_neg (by rw [hm]; simpa using hn)] at HO
          rw [if_pos hm, if_neg hn]
          have HF := Lib.hid (And.intro (HO.out) hB4)
          clear HOK hB4 hX4 hY4 hm hn HO HC
          go_wp2
          all_goals
            go_ret
            exact ⟨by rw [HF.out.1] <;> rfl, HF.out.2⟩
      · rw [if_neg (by simp [hm])] at HO
        rw [if_neg hm]
        have HF := Lib.hid (And.intro (HO.out) hB4)
        clear HOK hB4 hX4 hY4 hm HO HC
        go_wp2
        all_goals
          go_ret
          exact ⟨by rw [HF.out.1] <;> rfl, HF.out.2⟩
    · obtain rfl : k = N := by omega
      have i1 : ¬ (k : Int) < (k : Int) := by omega
      have hco := HC.out
      rw [List.drop_of_length_le (Nat.le_of_eq HL.out.1), List.drop_of_length_le (Nat.le_of_eq HL.out.2), show collT x y [] [] = false from rfl] at hco
      have HF := Lib.hid hco
      clear HC hco
      go_wp2
      go_ret
      exact ⟨by rw [HF.out] <;> rfl, hB⟩

end Go.Proofs.YtglcingpolpkdaaDoor
