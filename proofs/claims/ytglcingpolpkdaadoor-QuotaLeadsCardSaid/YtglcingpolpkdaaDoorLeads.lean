/- QuotaLeads: the law's walk. -/
import Derived.Test.YtglcingpolpkdaaDoorHeads
import Derived.Test.YtglcingpolpkdaaDoorPick
import Derived.Test.YtglcingpolpkdaaDoorQKnown
namespace Go.Proofs.YtglcingpolpkdaaDoor
open Go.RowKit

theorem notes_here (W w : World) (tb F T : Nat) (lv : Value) (ns : List Nt) (h : TrP W w tb lv ns) (hft : F ≤ T) (htl : T ≤ ns.length) (hlen : ns.length ≤ 1000) :
    Calls Tryd.prog 17 #[.pointer (some ⟨tb, 0, none⟩), .int .i64 F, .int .i64 T] w fun e w' => ∃ v, e = .returned (.tuple #[v, .int .i64 0]) ∧ (∃ pp pc, v = .slice pp (T - F) pc) ∧ NotesAt w' v ((ns.drop F).take (T - F)) ∧ Below w.heap.size w w' := by
  refine (tnotes_calls W w tb lv F T ns h hlen).mono ?_
  rintro e w' ⟨v, rfl, hO, hb⟩
  have e1 : notesT ns F T = ((ns.drop F).take (T - F), 0) := by
    unfold notesT
    rw [if_pos (by omega)]
    simp
  rw [e1] at hO ⊢
  have hN := notes_of_own hO
  obtain ⟨pp, pc, hv⟩ := hN.len
  have hl : ((ns.drop F).take (T - F)).length = T - F := by
    rw [List.length_take, List.length_drop]
    omega
  exact ⟨v, rfl, ⟨pp, pc, by rw [hv]; simp only [hl]⟩, hN, hb⟩
theorem leads_coll (A B : Dg) (P other : List Nt) (hl : P.length = other.length) (hs : sameT other P = false) (hp : checkT A P B = true) (ho : checkT A other B = true) : collT A A P other = true := by
  unfold checkT at hp ho
  rw [Bool.and_eq_true, eqD_iff] at hp ho
  refine collT_yes P other A A hl hp.1 ho.1 (hp.2.trans ho.2.symm) (.inr fun e => ?_)
  rw [← Bool.not_eq_true, sameT_iff] at hs
  exact hs e.symm
theorem leads_plain (l : List Nt) (f t : Nat) (hft : f ≤ t) (hok : l.all nextOk = true) : checkT (headG (l.take f)) ((l.drop f).take (t - f)) (headG (l.take t)) = true := by
  unfold checkT
  rw [Bool.and_eq_true, List.all_eq_true, eqD_iff]
  refine ⟨fun x hx => List.all_eq_true.1 hok x (List.mem_of_mem_drop (List.mem_of_mem_take hx)), ?_⟩
  unfold headG
  rw [← List.foldl_append]
  congr 1
  rw [show l.take t = l.take (f + (t - f)) by congr 1; omega, List.take_add]

set_option maxRecDepth 100000 in
set_option maxHeartbeats 4000000 in
theorem quotaLeads_walk (W : World) (va vo : Value) (l other : List Nt) (f t : Int) (hv : NotesAt W va l) (hvo : NotesAt W vo other) (hcap : ∃ a c, va = .slice a l.length c ∧ l.length ≤ c) (hfit : ∀ n ∈ l, FitN n) (hfito : ∀ n ∈ other, FitN n)
    (hbig : l.length ≤ 9223372036854775806) (hbigo : other.length ≤ 9223372036854775806) (hK : KTab W) : Calls Tryd.prog 6 #[va, vo, .int .i64 f, .int .i64 t] W fun e w' => e = .returned (.bool true) ∧ Below W.heap.size W w' := by
  obtain ⟨pa, ca, rfl, hca⟩ := hcap
  obtain ⟨po, co, rfl⟩ := hvo.len
  have HQ := Lib.hid (quotaKnown_walk W hK)
  have HS := Lib.hid (fun w' (hb : Below W.heap.size W w') => short_calls w' _ l (hv.low hb) hfit hbig)
  have HSO := Lib.hid (fun w' (hb : Below W.heap.size W w') => short_calls w' _ other (hvo.low hb) hfito hbigo)
  have HV := Lib.hid hv
  have HVO := Lib.hid hvo
  have HK := Lib.hid hK
  have HCA := Lib.hid hca
  obtain ⟨q, hq⟩ : ∃ q, shortT l = q := ⟨_, rfl⟩
  obtain ⟨r, hr⟩ : ∃ r, shortT other = r := ⟨_, rfl⟩
  rw [hq] at HS
  rw [hr] at HSO
  have HQQ := Lib.hid (And.intro hq hr)
  obtain ⟨NL, hNL⟩ : ∃ n, l.length = n := ⟨_, rfl⟩
  obtain ⟨NO, hNO⟩ : ∃ n, other.length = n := ⟨_, rfl⟩
  have HL := Lib.hid (And.intro hNL hNO)
  rw [hNL] at HV HS HCA ⊢
  rw [hNO] at HVO HSO ⊢
  clear hv hvo hfit hfito hbig hbigo hK hca hq hr hNL hNO
  cases q
  · go_enter Tryd.func6, Tryd.ntmps6
    go_wp2_with (first
      | (go_at_call 7; refine (HS.out _ b1).mono ?_; rintro e w2 ⟨rfl, b2⟩)
      | (go_at_call 5; refine HQ.out.mono ?_; rintro e w1 ⟨rfl, b1⟩)
      | fail)
    go_ret
    exact ⟨rfl, b1.trans (b2.mono b1.size)⟩
  cases r
  · go_enter Tryd.func6, Tryd.ntmps6
    go_wp2_with (first
      | (go_at_call 7; refine (HSO.out _ (b1.trans (b2.mono b1.size))).mono ?_; rintro e w3 ⟨rfl, b3⟩)
      | (go_at_call 7; refine (HS.out _ b1).mono ?_; rintro e w2 ⟨rfl, b2⟩)
      | (go_at_call 5; refine HQ.out.mono ?_; rintro e w1 ⟨rfl, b1⟩)
      | fail)
    go_ret
    exact ⟨rfl, (b1.trans (b2.mono b1.size)).trans (b3.mono (b1.trans (b2.mono b1.size)).size)⟩
  have hlen : NL ≤ 60 := by
    have := HQQ.out.1
    unfold shortT at this
    rw [Bool.and_eq_true, decide_eq_true_eq] at this
    have := HL.out.1
    omega
  have hleno : NO ≤ 60 := by
    have := HQQ.out.2
    unfold shortT at this
    rw [Bool.and_eq_true, decide_eq_true_eq] at this
    have := HL.out.2
    omega
  go_enter Tryd.func6, Tryd.ntmps6
  go_upto_region 7 with (first
    | (go_at_call 8; refine (tnew_alone w3).mono ?_; rintro e w4 ⟨rfl, hw4⟩; have b4 : Below w3.heap.size w3 w4 := hw4 ▸ (Below.refl _ _).alloc (Nat.le_refl _) _; have hT4 := hw4 ▸ TrP.fresh0 B3; clear hw4)
    | (go_at_call 7; refine (HSO.out _ (b1.trans (b2.mono b1.size))).mono ?_; rintro e w3 ⟨rfl, b3⟩; have B3 := (b1.trans (b2.mono b1.size)).trans (b3.mono (b1.trans (b2.mono b1.size)).size))
    | (go_at_call 7; refine (HS.out _ b1).mono ?_; rintro e w2 ⟨rfl, b2⟩)
    | (go_at_call 5; refine HQ.out.mono ?_; rintro e w1 ⟨rfl, b1⟩)
    | fail)
  obtain ⟨TB, hTB⟩ : ∃ x, w3.heap.size = x := ⟨_, rfl⟩
  rw [hTB] at hT4 ⊢
  clear hTB b1 b2 b3 b4 B3 HS HSO HQ
  have hH5 := heads_new (W := W) hT4.below.size
  have hT5 := hT4.on ((Below.refl w4.heap.size w4).alloc (Nat.le_refl _) (.cells zeroG.vs.toArray 24))
  go_upto_region 8 with (first
    | (refine wpList_slice_one (by rfl) 69 24 _ (by rfl) zeroG.vs.toArray (by rfl) Tryd.underlying69 info_d (by decide) (by decide) (by simp [Dg.vs_length]) ?_)
    | (refine wpList_build_as (by rfl) 24 _ (by rfl) zeroG.vs.toArray (by kernel_rfl) ?_)
    | fail)
  have hm : QL W (w4.alloc (.cells zeroG.vs.toArray 24)) TB (.slice none 0 0) (.slice (some ⟨w4.heap.size, 0, none⟩) 1 1) [] := ⟨hT5, hH5, HK.out.below hT5.below HK.out.1, HK.out.1⟩
  clear hT4 hT5 hH5
  generalize w4.alloc (.cells zeroG.vs.toArray 24) = w5 at hm ⊢
  obtain ⟨HB, hHB⟩ : ∃ x, w4.heap.size = x := ⟨_, rfl⟩
  rw [hHB] at hm ⊢
  clear hHB
  go_upto_block 0 with fail
  go_wp2
  go_loopw [11, 12] (fun h i wr => ∃ (k g c : Nat) (lv : Value), k ≤ NL ∧ i = .int .i64 k ∧ h = .slice (some ⟨g, 0, none⟩) (k + 1) c ∧ QL W wr TB lv h (l.take k) ∧ (l.take k).all nextOk = true) (fun _ i _ => NL - (intOf i).toNat)
  case atStart => exact ⟨0, HB, 1, _, by omega, rfl, rfl, by rw [List.take_zero]; exact hm, by rw [List.take_zero]; rfl⟩
  case round =>
    clear hm
    obtain ⟨k, g, c, lv, hk, rfl, rfl, hm, hok⟩ := hrel
    by_cases hlt : k < NL
    · obtain ⟨n, hx⟩ : ∃ n, l[k]? = some n := ⟨_, List.getElem?_eq_getElem (by have := HL.out.1; omega)⟩
      obtain ⟨ga, oa, rfl, hgl, hg⟩ := HV.out.at hx
      have HG := Lib.hid (fun w' (hb : Below W.heap.size W w') => rng_low hg hgl hb)
      have i1 : (k : Int) < (NL : Int) := by omega
      have i2 : 0 ≤ (k : Int) ∧ (k : Int) < (NL : Int) := by omega
      have b2 : IntKind.i64.wrap ((k : Int) + 1) = (k : Int) + 1 := IntWalk.i64_in _ (by omega)
      have hkl : (l.take k).length = k := by rw [List.length_take]; have := HL.out.1; omega
      have hnx : l.take k ++ [n] = l.take (k + 1) := by rw [List.take_add_one, hx]; rfl
      have hon : nextOk n = true → (l.take (k + 1)).all nextOk = true := fun h => by rw [← hnx, List.all_append, hok]; simp [h]
      obtain ⟨ns, hns⟩ : ∃ x, l.take k = x := ⟨_, rfl⟩
      obtain ⟨ms, hms⟩ : ∃ x, l.take (k + 1) = x := ⟨_, rfl⟩
      rw [hns] at hm hkl hnx
      rw [hms] at hnx hon
      have HM := Lib.hid hms
      have HN := Lib.hid hnx
      have HKL := Lib.hid hkl
      clear hok hx hg hgl hns hms hnx hkl
      by_cases hn : nextOk n = true
      · have HA := Lib.hid (tadd_yes W wr TB lv ns n hm.tr hm.tab (by have := HKL.out; omega) hn)
        have HON := Lib.hid (hon hn)
        clear hon hn
        rw [HN.out] at HA
        have hq0 := HG.out wr hm.tr.below
        obtain ⟨D, hD⟩ : ∃ x, headG ms = x := ⟨_, rfl⟩
        rw [hD] at HA
        have HD := Lib.hid hD
        clear hD
        go_wp2_with (first
          | (refine wpList_append_gen (f := Dg.vs) (n := 32) (w := w9) (by rfl) _ _ 69 24 (by rfl) _ 32 Tryd.underlying69 info_dg rfl (by decide) (by decide) Dg.vs_length W.heap.size _ _ (headsOf ns) [D] (by rfl) hm9.hd (by rfl) hu (fun b _ y hy => (by obtain ⟨x, _, rfl⟩ := List.mem_map.1 hy; rfl)) (by rw [headsOf_length]; have := HKL.out; simp; omega) hm9.tr.below.size ?_; intro v10 w10 hO10 hG10 _)
          | (refine wpList_slice_one (by rfl) 69 24 _ (by rfl) D.vs.toArray (by rfl) Tryd.underlying69 info_d (by decide) (by decide) (by simp [Dg.vs_length]) ?_; have hu := src_new (f := Dg.vs) (n := 32) w8 24 D; have hm9 := hm8.on ((Below.refl w8.heap.size w8).alloc (Nat.le_refl _) (.cells D.vs.toArray 24)); generalize w8.alloc (.cells D.vs.toArray 24) = w9 at hu hm9 ⊢; obtain ⟨S9, hS9⟩ : ∃ x, w8.heap.size = x := ⟨_, rfl⟩; rw [hS9] at hu ⊢; clear hS9)
          | (refine wpList_load_mid (by rfl) 24 _ (by rfl) X7 0 (by rfl) D.vs _ (whole_rangeG h8) Tryd.underlying24 (by rfl) (by rw [size_d, Dg.vs_length]) ?_)
          | (refine wpList_store_row (by rfl) 24 _ _ (by rfl) w6.heap.size D.vs.toArray (by rfl) (by rfl) 24 _ h7 (by rw [size_d]; simp [Dg.vs_length]) (by simp [zeroNums, Dg.vs_length]) (Dg.all_one _) ?_; have h8 := h7.row D.vs; have b8 : Below w6.heap.size w6 (w7.setRow w6.heap.size D.vs.toArray) := b7.grown (grown_row (World.grownBy.refl w7 (some w6.heap.size)) (.inl rfl) _) b7.size (fun k hk => by injection hk with hk; omega); have hm8 := hm6.on b8; generalize w7.setRow w6.heap.size D.vs.toArray = w8 at h8 hm8 b8 ⊢; obtain ⟨X7, hX7⟩ : ∃ x, w6.heap.size = x := ⟨_, rfl⟩; rw [hX7] at h8 ⊢; clear hX7 b8)
          | (refine wpList_alloc_row (by rfl) 24 (by rfl) _ _ info_d ?_; have h7 := Whole.new w6 24 (zeroNums .u8 32).toArray; have b7 : Below w6.heap.size w6 (w6.alloc (.cells (zeroNums .u8 32).toArray 24)) := (Below.refl _ _).alloc (Nat.le_refl _) _; generalize w6.alloc (.cells (zeroNums .u8 32).toArray 24) = w7 at h7 b7 ⊢)
          | (go_at_call 9; refine HA.out.mono ?_; rintro e w6 ⟨rfl, lv6, hT6, hO6⟩; have hm6 := hm.padd hO6 hT6; clear hT6 hO6)
          | (refine wpList_load_mid (by rfl) 36 _ (by rfl) ga (oa + k * 6) (by rfl) n.cells _ hq0 Tryd.underlying36 (by rfl) (by rw [size_n]; rfl) ?_)
          | fail)
        go_roundw
        case rel =>
          rw [← HD.out, ← HN.out] at hO10
          have hf := (HN.out ▸ hm9).hadd hG10 hO10
          rcases row_shape hf.hd with ⟨_, hz⟩ | ⟨g', c', rfl, _, _, _⟩
          · rw [headsOf_length] at hz
            omega
          · have hl : (headsOf (ns ++ [n])).length = k + 1 + 1 := by rw [headsOf_length, List.length_append, HKL.out]; rfl
            rw [hl] at hf ⊢
            refine ⟨k + 1, g', c', lv6, by omega, by go_num, rfl, ?_, ?_⟩
            · rw [HM.out, ← HN.out]
              exact hf
            · rw [HM.out]
              exact HON.out
        case measure => simp [intOf]; omega
      · have HA := Lib.hid (tadd_no W wr TB lv ns n hm.tr hm.tab (by have := HKL.out; omega) hn)
        clear hon hn
        have hq0 := HG.out wr hm.tr.below
        go_wp2_with (first
          | (refine wpList_store_row (by rfl) 24 _ _ (by rfl) w6.heap.size zeroG.vs.toArray (by rfl) (by rfl) 24 _ h7 (by rw [size_d]; simp [Dg.vs_length]) (by simp [zeroNums, Dg.vs_length]) (Dg.all_one _) ?_; have b8 : Below w6.heap.size w6 (w7.setRow w6.heap.size zeroG.vs.toArray) := b7.grown (grown_row (World.grownBy.refl w7 (some w6.heap.size)) (.inl rfl) _) b7.size (fun k hk => by injection hk with hk; omega); have hm8 := hb6.trans (b8.mono hb6.size); generalize w7.setRow w6.heap.size zeroG.vs.toArray = w8 at hm8 b8 ⊢; clear b8)
          | (refine wpList_alloc_row (by rfl) 24 (by rfl) _ _ info_d ?_; have h7 := Whole.new w6 24 (zeroNums .u8 32).toArray; have b7 : Below w6.heap.size w6 (w6.alloc (.cells (zeroNums .u8 32).toArray 24)) := (Below.refl _ _).alloc (Nat.le_refl _) _; generalize w6.alloc (.cells (zeroNums .u8 32).toArray 24) = w7 at h7 b7 ⊢)
          | (go_at_call 9; refine HA.out.mono ?_; rintro e w6 ⟨rfl, hb6⟩)
          | (refine wpList_load_mid (by rfl) 36 _ (by rfl) ga (oa + k * 6) (by rfl) n.cells _ hq0 Tryd.underlying36 (by rfl) (by rw [size_n]; rfl) ?_)
          | fail)
        go_ret
        exact ⟨rfl, hm8⟩
    · obtain rfl : k = NL := by omega
      have i1 : ¬ (k : Int) < (k : Int) := by omega
      rw [List.take_of_length_le (Nat.le_of_eq HL.out.1)] at hm hok
      have b3 : IntKind.i64.wrap ((k : Int) + 1) = (k : Int) + 1 := IntWalk.i64_in _ (by omega)
      have HPT := Lib.hid (fun w => pick_calls w t ((k : Int) + 1) (by omega) (by omega))
      go_upto_region 16 with (first
        | (go_at_call 25; refine (HPT.out _).mono ?_; rintro e w' ⟨t2, rfl, ht2, rfl⟩; obtain ⟨T, rfl⟩ := Int.eq_ofNat_of_zero_le ht2.1)
        | fail)
      have hT : T ≤ k := by omega
      have b4 : IntKind.i64.wrap ((T : Int) + 1) = (T : Int) + 1 := IntWalk.i64_in _ (by omega)
      have HPF := Lib.hid (fun w => pick_calls w f ((T : Int) + 1) (by omega) (by omega))
      clear ht2 HPT
      go_upto_region 17 with (first
        | (go_at_call 25; refine (HPF.out _).mono ?_; rintro e w' ⟨f2, rfl, hf2, rfl⟩; obtain ⟨F, rfl⟩ := Int.eq_ofNat_of_zero_le hf2.1)
        | fail)
      have hF : F ≤ T := by omega
      clear hf2 HPF
      have HNT := Lib.hid (notes_here W wr TB F T lv l hm.tr hF (by have := HL.out.1; omega) (by have := HL.out.1; omega))
      have HCK := Lib.hid (leads_plain l F T hF hok)
      obtain ⟨A, hA⟩ : ∃ x, headG (l.take F) = x := ⟨_, rfl⟩
      obtain ⟨B, hB⟩ : ∃ x, headG (l.take T) = x := ⟨_, rfl⟩
      have ra := hm.head (k := F) (by have := HL.out.1; omega)
      have rb := hm.head (k := T) (by have := HL.out.1; omega)
      have hgb := hm.block
      rw [hA] at ra HCK
      rw [hB] at rb HCK
      obtain ⟨P, hP⟩ : ∃ x, (l.drop F).take (T - F) = x := ⟨_, rfl⟩
      rw [hP] at HNT HCK
      have HP := Lib.hid hP
      clear hA hB hP hok
      have i2 : 0 ≤ (F : Int) ∧ (F : Int) < ((k + 1 : Nat) : Int) := by omega
      have i3 : 0 ≤ (T : Int) ∧ (T : Int) < ((k + 1 : Nat) : Int) := by omega
      go_upto_region 18 with (first
        | (go_at_call 17; refine HNT.out.mono ?_; rintro e w2 ⟨v2, rfl, ⟨pp, pc, rfl⟩, hN2, b2⟩)
        | fail)
      have hS : LS w2 g F T A B (.slice pp (T - F) pc) P (.slice pa k ca) l (.slice po NO co) other :=
        ⟨rng_low ra hgb b2, rng_low rb hgb b2, Nat.lt_of_lt_of_le hgb b2.size, hN2, (HV.out.low hm.tr.below).low b2, (HVO.out.low hm.tr.below).low b2, hm.tab.below b2 hm.tab.1⟩
      have hB2 := hm.tr.below.trans (b2.mono hm.tr.below.size)
      clear hm ra rb hgb hN2 b2 HNT
      refine lfirst_step hS i2 i3 HCA.out hF hT HL.out.1 (by have := HL.out.1; omega) HP.out.symm HCK.out ?_
      intro _ _ _ _ _ _ _ _ _ _ _ _ _ _ _ _ _ _ _ _ _ _ _ _ _ _ _ _ _ _ _ _ _ w3 b3
      replace hS := hS.on b3
      replace hB2 := hB2.trans (b3.mono hB2.size)
      clear b3
      obtain ⟨Dl, hDl⟩ : ∃ x, IntKind.i64.wrap ((T : Int) - (F : Int)) = x := ⟨_, rfl⟩
      have hDn : Dl = ((T - F : Nat) : Int) := by
        rw [← hDl, IntWalk.i64_in _ (by omega)]
        omega
      go_upto_region 20 with fail
      cases hd : ((NO : Int) != Dl)
      · have hPL : P.length = other.length := by
          have h1 := HP.out
          have h2 := bne_eq_false_iff_eq.1 hd
          rw [← h1, List.length_take, List.length_drop, HL.out.1, HL.out.2]
          omega
        have hol : other.length ≤ 1000 := by rw [HL.out.2]; omega
        cases hs : sameT other P
        · cases hc : checkT A other B
          · refine lbad_step hS i2 i3 hDl hd hol hs hc ?_
            intro _ _ _ _ _ _ _ _ _ _ _ _ _ _ _ _ _ _ _ _ _ _ _ w4 b4
            replace hB2 := hB2.trans (b4.mono hB2.size)
            clear hS b4
            go_wp2
            go_ret
            exact ⟨rfl, hB2⟩
          · refine lgood_step hS i2 i3 hDl hd hol hs hc ?_
            intro _ _ _ _ _ _ _ _ _ _ _ _ _ _ _ _ _ _ _ _ _ _ _ w4 b4
            replace hB2 := hB2.trans (b4.mono hB2.size)
            replace hS := hS.on b4
            have HCO := Lib.hid (collide_calls w4 A _ _ P other hS.hp hS.oth hS.tab hPL (by rw [hPL]; exact hol))
            rw [leads_coll A B P other hPL hs HCK.out hc] at HCO
            have hra := hS.ha
            clear hS b4 hs hc
            go_wp2_with (first
              | (go_at_call 26; refine HCO.out.mono ?_; rintro e w5 ⟨rfl, b5⟩)
              | (refine BigFrame.wpList_want (by rfl) fun K hK => wp_load_mid 24 _ (by rfl) g (F * 32) (by rfl) A.vs _ hra Tryd.underlying24 (by rfl) (by rw [size_d, Dg.vs_length]) (hK _ _ ?_))
              | fail)
            go_ret
            exact ⟨rfl, hB2.trans (b5.mono hB2.size)⟩
        · refine lsame_step hS i2 i3 hDl hd hol hs ?_
          intro _ _ _ _ _ _ _ _ _ _ _ _ _ _ _ _ _ _ _ _ _ _ _ w4 b4
          replace hB2 := hB2.trans (b4.mono hB2.size)
          clear hS b4
          go_wp2
          go_ret
          exact ⟨rfl, hB2⟩
      · refine llen_step hS i2 i3 hDl hd ?_
        intro _ _ _ _ _ _ _ _ _ _ _ _ _ _ _ _ _ _ _ _ _ _ _ w4 b4
        replace hB2 := hB2.trans (b4.mono hB2.size)
        clear hS b4
        go_wp2
        go_ret
        exact ⟨rfl, hB2⟩

end Go.Proofs.YtglcingpolpkdaaDoor
