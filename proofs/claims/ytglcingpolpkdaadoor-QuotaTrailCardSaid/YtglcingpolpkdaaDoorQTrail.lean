/- QuotaTrail: the law's walk. -/
import Derived.Test.YtglcingpolpkdaaDoorQPlain
namespace Go.Proofs.YtglcingpolpkdaaDoor
open Go.RowKit

set_option maxHeartbeats 400000 in
theorem tnew_calls (w : World) : Calls Tryd.prog 8 #[] w fun e w' => e = .returned (.pointer (some ⟨w.heap.size, 0, none⟩)) ∧ w.alloc (.cells #[.slice none 0 0, .bool true] 60) = w' := by
  go_enter Tryd.func8, Tryd.ntmps8
  go_wp2
  go_ret
  exact ⟨rfl, rfl⟩
theorem TrP.fresh {W w : World} (hb : Below W.heap.size W w) : TrP W (w.alloc (.cells #[.slice none 0 0, .bool true] 60)) w.heap.size (.slice none 0 0) [] :=
  ⟨Whole.new w 60 _, ⟨rfl, .inl ⟨rfl, rfl⟩⟩, hb.size, hb.alloc hb.size _⟩
theorem TrR.fresh {W w : World} (hb : Below W.heap.size W w) : TrR W (w.alloc (.cells #[.slice none 0 0] 30)) w.heap.size (.slice none 0 0) [] :=
  ⟨Whole.new w 30 _, ⟨rfl, .inl ⟨rfl, rfl⟩⟩, hb.size, hb.alloc hb.size _⟩
theorem fold_add (l : List Nt) (k : Nat) (n : Nt) (hx : l[k]? = some n) : (l.take (k + 1)).foldl addP [] = addP ((l.take k).foldl addP []) n := by
  rw [List.take_add_one, List.foldl_append, hx]
  rfl
theorem fold_len : ∀ (l : List Nt) (M : List Nt), (l.foldl addP M).length ≤ M.length + l.length
  | [], M => by simp
  | n :: l, M => by
    have := fold_len l (addP M n)
    have := addP_len M n
    rw [List.foldl_cons, List.length_cons]
    omega
theorem fold_ok : ∀ (l : List Nt) (M : List Nt), (∀ m ∈ M, nextOk m = true) → ∀ m ∈ l.foldl addP M, nextOk m = true
  | [], _, h => h
  | n :: l, M, h => fold_ok l (addP M n) (addP_ok n h)

set_option maxRecDepth 100000 in
set_option maxHeartbeats 4000000 in
theorem quotaTrail_walk (W : World) (v : Value) (l : List Nt) (first last : Dg) (f t : Int) (hv : NotesAt W v l) (hfit : ∀ n ∈ l, FitN n) (hbig : l.length ≤ 9223372036854775806) (hK : KTab W) :
    Answers Tryd.prog 3 #[v, .agg first.vs.toArray, .agg last.vs.toArray, .int .i64 f, .int .i64 t] W := by
  unfold Answers
  obtain ⟨pa, ca, rfl⟩ := hv.len
  have b1 : Below W.heap.size W (W.alloc (.cells first.vs.toArray 24)) := (Below.refl _ _).alloc (Nat.le_refl _) _
  have h1 : Whole (W.alloc (.cells first.vs.toArray 24)) W.heap.size 24 first.vs := Whole.new W 24 first.vs.toArray
  have s1 : (W.alloc (.cells first.vs.toArray 24)).heap.size = W.heap.size + 1 := by simp
  go_enter Tryd.func3, Tryd.ntmps3
  go_upto_region 1 with (first
    | (refine wpList_box_cells (by rfl) 24 _ (by rfl) last.vs.toArray (by rfl) ?_)
    | (refine wpList_box_cells (by rfl) 24 _ (by rfl) first.vs.toArray (by rfl) ?_)
    | fail)
  generalize W.alloc (.cells first.vs.toArray 24) = w1 at b1 h1 s1 ⊢
  have b2 : Below w1.heap.size w1 (w1.alloc (.cells last.vs.toArray 24)) := (Below.refl _ _).alloc (Nat.le_refl _) _
  have h2 : Whole (w1.alloc (.cells last.vs.toArray 24)) w1.heap.size 24 last.vs := Whole.new w1 24 last.vs.toArray
  replace h1 := h1.below b2 h1.lt
  replace b1 := b1.trans (b2.mono b1.size)
  rw [s1] at h2
  try simp only [World.size_alloc]
  try rw [s1]
  generalize w1.alloc (.cells last.vs.toArray 24) = w2 at b1 h1 h2 ⊢
  obtain ⟨FB, hFB⟩ : ∃ x, W.heap.size = x := ⟨_, rfl⟩
  obtain ⟨LB, hLB⟩ : ∃ x, FB + 1 = x := ⟨_, rfl⟩
  rw [hFB] at h1 h2 ⊢
  rw [hLB] at h2 ⊢
  clear hFB hLB b2 s1
  have HS := Lib.hid (short_calls w2 _ l (hv.low b1) hfit hbig)
  obtain ⟨q, hq⟩ : ∃ q, shortT l = q := ⟨_, rfl⟩
  rw [hq] at HS
  have HV := Lib.hid hv
  have HQ := Lib.hid hq
  have HK := Lib.hid (hK.below b1 hK.1)
  have HP := Lib.hid hK.1
  have HF := Lib.hid (And.intro h1 (And.intro h2 b1))
  clear hv hfit hbig hK hq h1 h2 b1
  cases q
  · go_wp2_with (first | (go_at_call 7; refine HS.out.mono ?_; rintro e w3 ⟨rfl, b3⟩) | fail)
    go_ret
    exact ⟨rfl, HF.out.2.2.trans (b3.mono HF.out.2.2.size)⟩
  · obtain ⟨NL, hNL⟩ : ∃ n, l.length = n := ⟨_, rfl⟩
    have hlen : NL ≤ 60 := by
      have := HQ.out
      unfold shortT at this
      rw [Bool.and_eq_true, decide_eq_true_eq] at this
      omega
    have HL := Lib.hid hNL
    rw [hNL] at HV HS ⊢
    clear hNL
    go_upto_region 4 with (first
      | (refine wpList_build_as (by rfl) 30 _ (by rfl) #[.slice none 0 0] (by kernel_rfl) ?_)
      | (refine wpList_box_cells (by rfl) 30 _ (by rfl) #[.slice none 0 0] (by rfl) ?_)
      | (go_at_call 8; refine (tnew_calls w3).mono ?_; rintro e w4 ⟨rfl, hw4⟩; have hT4 := hw4 ▸ TrP.fresh b3; have b4 : Below w3.heap.size w3 w4 := hw4 ▸ (Below.refl _ _).alloc (Nat.le_refl _) _; clear hw4; obtain ⟨TB, hTB⟩ : ∃ x, w3.heap.size = x := ⟨_, rfl⟩; have HTB := Lib.hid hTB; rw [hTB] at hT4 ⊢; clear hTB)
      | (go_at_call 7; refine HS.out.mono ?_; rintro e w3 ⟨rfl, b3'⟩; have b3 := HF.out.2.2.trans (b3'.mono HF.out.2.2.size); have h13 := HF.out.1.below b3' HF.out.1.lt; have h23 := HF.out.2.1.below b3' HF.out.2.1.lt; have k3 := HK.out.below b3' HK.out.1)
      | fail)
    have b5 : Below w4.heap.size w4 (w4.alloc (.cells #[.slice none 0 0] 30)) := (Below.refl _ _).alloc (Nat.le_refl _) _
    have b35 := b4.trans (b5.mono b4.size)
    have hm : QM W (w4.alloc (.cells #[.slice none 0 0] 30)) TB w4.heap.size FB LB (.slice none 0 0) (.slice none 0 0) [] [] first last :=
      ⟨hT4.on b5, TrR.fresh hT4.below, h13.below b35 h13.lt, h23.below b35 h23.lt, k3.below b35 k3.1, HP.out⟩
    clear b5 b35 hT4 b4 h13 h23 k3 b3 b3' HTB
    generalize w4.alloc (.cells #[.slice none 0 0] 30) = w5 at hm ⊢
    obtain ⟨RB, hRB⟩ : ∃ x, w4.heap.size = x := ⟨_, rfl⟩
    rw [hRB] at hm ⊢
    clear hRB
    go_upto_block 0 with fail
    go_wp2
    go_loopw [13] (fun i wr => ∃ (k : Nat) (lv rv : Value), k ≤ NL ∧ i = .int .i64 k ∧ QM W wr TB RB FB LB lv rv ((l.take k).foldl addP []) ((l.take k).foldl addP []) first last) (fun i _ => NL - (intOf i).toNat)
    case atStart => exact ⟨0, _, _, by omega, rfl, by rw [List.take_zero]; exact hm⟩
    case round =>
      clear hm
      obtain ⟨k, lv, rv, hk, rfl, hm⟩ := hrel
      have HM := Lib.hid hm
      clear hm
      by_cases hlt : k < NL
      · obtain ⟨n, hx⟩ : ∃ n, l[k]? = some n := ⟨_, List.getElem?_eq_getElem (by have := HL.out; omega)⟩
        obtain ⟨g, o, rfl, _, _⟩ := HV.out.at hx
        have i1 : (k : Int) < (NL : Int) := by omega
        have i2 : 0 ≤ (k : Int) ∧ (k : Int) < (NL : Int) := by omega
        have b2 : IntKind.i64.wrap ((k : Int) + 1) = (k : Int) + 1 := IntWalk.i64_in _ (by omega)
        have HX := Lib.hid hx
        have hl2 := fold_len (l.take k) []
        have hl3 : (l.take k).length ≤ k := by rw [List.length_take]; omega
        have HO := Lib.hid (And.intro (fold_ok (l.take k) [] (fun m hm => by simp at hm)) (show ((l.take k).foldl addP []).length ≤ 800 by simp at hl2; omega))
        clear hx hl2 hl3
        go_upto_block 1 with fail
        refine qround HM.out HV.out HX.out i2 HO.out.1 HO.out.2 ?_
        intro _ _ _ _ _ _ _ _ _ _ _ _ _ _ _ _ _ _ _ _ _ _ _ _ _ _ _ _ _ _ _ _ _ _ _ _ _ _ _ _ _ _ _ _ _ _ _ _ _ _ _ _ _ _ _ _ _ _ _ _ _ _ _ _ _ _ _ _ _ _ _ _ _ _ _ _ _ _ _ _ _ _ _ _ w6 lv6 rv6 hm6
        rw [← fold_add l k n HX.out] at hm6
        have HM6 := Lib.hid hm6
        clear hm6
        go_wp2
        go_roundw
        case rel => exact ⟨k + 1, _, _, by omega, by go_num, HM6.out⟩
        case measure => simp [intOf]; omega
      · obtain rfl : k = NL := by omega
        have i1 : ¬ (k : Int) < (k : Int) := by omega
        have hm := HM.out
        rw [List.take_of_length_le (Nat.le_of_eq HL.out)] at hm
        have hl2 := fold_len l []
        have hok := fold_ok l [] (fun m hm => by simp at hm)
        generalize l.foldl addP [] = M at hm hl2 hok
        have hMl : M.length ≤ 60 := by have := HL.out; simp at hl2; omega
        clear HM hl2
        obtain ⟨pl, cl, rfl⟩ := hm.tr.shape
        obtain ⟨pr, cr, rfl⟩ := hm.rr.shape
        obtain ⟨n0, E0, C0, hat⟩ : ∃ a b c, atT M f = (a, b, c) := ⟨_, _, _, rfl⟩
        obtain ⟨P, CP, hnt⟩ : ∃ a b, notesT M f t = (a, b) := ⟨_, _, rfl⟩
        have hPl : P.length ≤ 1000 := by
          have e : P = (notesT M f t).1 := by rw [hnt]
          rw [e]
          unfold notesT
          split
          · simp
            omega
          · simp
        obtain ⟨NM, hNM⟩ : ∃ m, M.length = m := ⟨_, rfl⟩
        go_upto_region 15 with fail
        rename_i hk
        refine q15_step hm.tr (by omega) hat ?_
        intro _ _ _ _ _ _ _ w7 NB DB b7 hN7 hD7
        refine hk _ _ ?_
        clear hk
        replace hm := hm.on b7
        refine wp_seq ?_
        refine q16_step (W := W) (NM := M.length) ⟨hm.rr, hN7, hD7, hm.tab⟩ rfl (by omega) hok hat ?_
        intro _ _ _ _ _ _ _ _ _ _ _ _ _ _ _ _ _ _ _ _ _ _ _ _ _ _ _ _ _ _ _ _ _ _ _ _ _ _ _ _ _ _ _ _ w8 b8
        change Code.wp _ _ _ _ _
        replace hm := hm.on b8
        clear b7 b8 hN7 hD7 hat
        refine wp_seq ?_
        refine q21_step hm.tr (by omega) hnt ?_
        intro _ _ _ _ _ _ _ w9 pv cv b9 hO9
        change Code.wp _ _ _ _ _
        have hrv : ∀ g, (Value.slice pr M.length cr).ownBlock = some g → g < w8.heap.size := fun g hg => row_lt hm.rr.row hg
        have hWB := hm.tr.below.size
        replace hm := hm.on b9
        refine wp_seq ?_
        refine q22_step (NM := M.length) hm.rr rfl (by omega) hnt (notes_of_own hO9) rfl ?_
        intro _ _ _ _ _ _ _ _ _ _ _ _ _ _ _ _ _ _ _ _ _ _ _ _ _ _ _ _ _ _ _ _ _ _ _ _ _ w10 b10
        change Code.wp _ _ _ _ _
        replace hm := hm.on b10
        replace hO9 := row_low hO9 b10
        refine wp_seq ?_
        refine qturn_step (FlipN.of hO9) hPl ?_
        intro _ _ _ _ _ _ _ _ _ _ _ _ _ _ _ _ _ w11 hO11
        change Code.wp _ _ _ _ _
        replace hm := hm.over hO11 hO9 hWB hrv
        clear hO9 hO11 hrv hWB b9 b10 hnt
        refine wp_seq ?_
        refine q31_step hm.tr (by omega) ?_
        intro _ _ _ _ _ _ _ w12 pq cq b12 hO12
        change Code.wp _ _ _ _ _
        replace hm := hm.on b12
        refine wp_seq ?_
        refine qend_step (W := W) (NM := M.length) (NL := k) (l := l) ⟨hm.rr, notes_of_own hO12, hm.fb, hm.lb, HV.out.low hm.tr.below, hm.tab⟩ rfl (by omega) (by have := HL.out; omega) ?_
        intro _ _ _ _ _ _ _ _ _ _ _ _ _ _ _ _ _ w13 b13
        change Code.wp _ _ _ _ _
        go_wp2
        go_ret
        exact ⟨rfl, hm.tr.below.trans (b13.mono hm.tr.below.size)⟩

end Go.Proofs.YtglcingpolpkdaaDoor
