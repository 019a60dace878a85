/- DiskKeeps' walk. -/
import Derived.Test.YtmmlpbepaefamaaDKeepF
namespace Go.Proofs.Ytmmlpbepaefamaa
open Go.RowKit Go.Maps Go.Sort Go.Shelf

set_option maxRecDepth 100000 in
set_option maxHeartbeats 8000000 in
theorem diskKeeps_walk (W : World) (v0 : Value) (ls : List (List (BitVec 8))) (sy op by_ : Int) (h0 : ListsAt W v0 ls) :
    Calls Try.prog 5 #[v0, .int .i64 sy, .int .i64 op, .int .i64 by_] W fun e w' => e = .returned (.bool true) ∧ Below W.heap.size W w' := by
  obtain ⟨p0, c0, rfl, hc0, hcells⟩ := id h0
  have HDK := Lib.hid (diskKnown_walk W)
  have HL0 := Lib.hid hcells
  clear hcells h0 hc0
  by_cases hs : ls.length ≤ 40
  · obtain ⟨N, hN⟩ : ∃ n, ls.length = n := ⟨_, rfl⟩
    have HN := Lib.hid hN
    rw [hN] at hs ⊢
    have i0 : ¬ (40 : Int) < (N : Int) := by omega
    have e1 : IntKind.i64.wrap ((N : Int) + 1) = (N : Int) + 1 := IntWalk.i64_in _ (by omega)
    clear hN
    go_enter Try.func5, Try.ntmps5
    go_upto_region 5 with (first
      | (go_at_call 9; refine (kd_new w1 _ [] (.inl ⟨_, _, rfl, rfl⟩) (by simp)).mono ?_; rintro e w2 ⟨d, S, ks, rfl, hD, hks⟩)
      | (go_at_call 4; refine HDK.out.mono ?_; rintro e w1 ⟨rfl, B1⟩)
      | fail)
    have Q := Lib.hid (show ∀ n, refB ks n = false from fun n => decide_eq_false fun e => by have := (hks _).1 e; cases this)
    clear HDK hks i0
    go_upto_region 8 with (first
      | (go_at_call 11; refine (pick_calls w2 sy ((N : Int) + 1) (by omega) (by omega)).mono ?_; rintro e w2b ⟨r, rfl, hr, hw2⟩; subst hw2)
      | fail)
    obtain ⟨s, rfl⟩ := Int.eq_ofNat_of_zero_le hr.1
    have hsN : s ≤ N := by omega
    clear hr e1
    have HD := Lib.hid (And.intro B1 hD)
    clear hD B1
    go_wp2
    go_loopw [12, 13, 14] (fun sv av i wr => ∃ (k c : Nat) (S' : Nat → Prop) (sa aa : Option Addr) (sn sc an ac : Nat), k ≤ N ∧ i = .int .i64 k ∧ c ≤ 2 * k ∧ sv = .slice sa sn sc ∧ av = .slice aa an ac ∧ shortTo ls k ∧ KD w1 wr d S' (pfs ⟨#[108, 111, 103]⟩ ls (syncd s k) k) ks c ∧ Own wr w1.heap.size (.slice sa sn sc) ((ls.take (syncd s k)).flatten) ∧ Own wr w1.heap.size (.slice aa an ac) ((ls.take k).flatten) ∧ (∀ g, (Value.slice sa sn sc).ownBlock = some g → ¬ S' g) ∧ (∀ g, (Value.slice aa an ac).ownBlock = some g → ¬ S' g ∧ (Value.slice sa sn sc).ownBlock ≠ some g)) (fun _ _ i _ => N - (intOf i).toNat)
    case atStart =>
      have h0 : syncd s 0 = 0 := by have := syncd_le s 0; omega
      refine ⟨0, 0, S, none, none, 0, 0, 0, 0, by omega, rfl, by omega, rfl, rfl, fun x hx => by simp at hx, HD.out.2, ?_, Own.nil _ _, (fun g hg => by cases hg), (fun g hg => by cases hg)⟩
      rw [h0]
      exact Own.nil _ _
    case round =>
      obtain ⟨k, c, S1, sa, aa, sn, sc, an, ac, hkN, rfl, hc, rfl, rfl, hsh, hK, O1, O2, hg1, hg2⟩ := hrel
      have BW := HD.out.1.trans (hK.below.mono HD.out.1.size)
      have HSH := Lib.hid hsh
      clear hsh
      by_cases hlt : k < N
      · obtain ⟨x, hx⟩ : ∃ x, ls[k]? = some x := ⟨_, List.getElem?_eq_getElem (by rw [HN.out]; exact hlt)⟩
        obtain ⟨b, o, rfl, hb, hc⟩ := HL0.out (by rintro rfl; simp at hx)
        obtain ⟨v, hcv, hsv⟩ := hc k x hx
        obtain ⟨q, kk, rfl⟩ := hsv.len
        have hqW : ∀ g o c, Value.slice q x.length kk = .slice (some ⟨g, o, none⟩) x.length c → g < W.heap.size ∨ x.length = 0 := fun g o c e => by
          rcases hsv with ⟨rfl, _⟩ | ⟨b2, o2, c2, he, hl2, _⟩
          · exact .inr rfl
          · rw [he] at e
            injection e with e
            injection e with e
            injection e with e
            exact .inl (e ▸ hl2)
        have c1 := (BW.cell (p := ⟨b, o + k, none⟩) hb).trans hcv
        have hsx := hsv.low BW
        have i1 : (k : Int) < (N : Int) := by omega
        have i2 : 0 ≤ (k : Int) ∧ (k : Int) < (N : Int) := by omega
        have b2 : IntKind.i64.wrap ((k : Int) + 1) = (k : Int) + 1 := IntWalk.i64_in _ (by omega)
        have HX := Lib.hid (And.intro hx hb)
        have HV := Lib.hid (And.intro hcv hsv)
        clear hc hcv hsv hx hb
        by_cases h500 : x.length ≤ 500
        · have i5 : ¬ (500 : Int) < (x.length : Int) := by omega
          have hsh2 := shortTo_step HSH.out HX.out.1 h500
          have hAP := kd_append_at hK (pfs_ok ⟨#[108, 111, 103]⟩ (by decide) ls (by rw [HN.out]; exact hs) (syncd s k) k) (by omega) ⟨#[108, 111, 103]⟩ (by decide) _ x hsx (fun hne g o c e hS => by
            rcases hqW g o c e with h | h
            · have := (hK.old hS).2
              have := HD.out.1.size
              omega
            · exact hne (List.eq_nil_of_length_eq_zero h)) (by omega) ((congrArg (fun q => appR _ q _ _) (Q.out _)).trans (pfs_app _ log_named ls (syncd s k) k x HX.out.1 (syncd_le s k) hsh2 (by omega)))
          have HAP := Lib.hid hAP
          have HC := Lib.hid (And.intro hsh2 (And.intro hqW (show c ≤ 80 by omega)))
          clear hAP hqW hsh2 hsx
          go_upto_region 16 with (first
            | (go_at_call 17; refine HAP.out.mono ?_; rintro e w4 ⟨rfl, S4, h4, o4, s4⟩)
            | fail)
          have B4 : Below W.heap.size W w4 := HD.out.1.trans (h4.below.mono HD.out.1.size)
          have c4 := (B4.cell (p := ⟨b, o + k, none⟩) HX.out.2).trans HV.out.1
          have hsx4 := HV.out.2.low B4
          have hO1 := row_only O1 o4 hg1
          have hO2 := row_only O2 o4 (fun g hg => (hg2 g hg).1)
          have hn1 : ∀ g, (Value.slice sa sn sc).ownBlock = some g → ¬ S4 g := fun g hg e => hg1 g hg (s4 g (row_lt O1 hg) e)
          have hn2 : ∀ g, (Value.slice aa an ac).ownBlock = some g → ¬ S4 g ∧ (Value.slice sa sn sc).ownBlock ≠ some g := fun g hg => ⟨fun e => (hg2 g hg).1 (s4 g (row_lt O2 hg) e), (hg2 g hg).2⟩
          clear HAP O1 O2 hg1 hg2 o4 s4 c1
          have hlen4 := shortTo_len HSH.out (by omega)
          have hW14 : w1.heap.size ≤ w4.heap.size := h4.below.size
          go_upto_region 17 with (first
            | (refine wpList_append_bytesM (by rfl) _ _ (by rfl) w1.heap.size _ ((ls.take k).flatten) (by rfl) hO2 _ x (by rfl) hsx4 (by omega) hW14 ?_; intro v5 w5 O5 G5 M5; obtain ⟨a5, n5, cc5, e5⟩ := slice_any O5; subst e5)
            | fail)
          rw [← flat_take ls k x HX.out.1] at O5
          have h5 := h4.only (Only.of_grown G5) (fun i _ e => (hn2 i e).1) (fun i hi e => own_ge hO2 e)
          have P1 := row_only hO1 (Only.of_grown G5) (fun g hg e => (hn2 g e).2 hg)
          have hm5 : ∀ g, (Value.slice a5 n5 cc5).ownBlock = some g → (Value.slice aa an ac).ownBlock = some g ∨ w4.heap.size ≤ g := fun g hg => by
            rcases M5 with M5 | ⟨g', M5, hg'⟩
            · exact .inl (M5 ▸ hg)
            · rw [M5] at hg
              injection hg with hg
              exact .inr (hg ▸ hg')
          have hq5 : ∀ g, (Value.slice a5 n5 cc5).ownBlock = some g → ¬ S4 g ∧ (Value.slice sa sn sc).ownBlock ≠ some g := fun g hg => by
            rcases hm5 g hg with e | e
            · exact hn2 g e
            · refine ⟨fun e2 => ?_, fun e2 => ?_⟩
              · have := (h4.old e2).1
                omega
              · have := row_lt hO1 e2
                omega
          clear hO1 hO2 hn2 hsx4 c4 G5 M5 hm5 h4 i2
          by_cases hsk : s = k + 1
          · have i3 : (k : Int) + 1 = (s : Int) := by omega
            have HS := Lib.hid (syncd_new s k hsk)
            rw [HS.out.1] at h5
            have HSY := Lib.hid (kd_sync_at h5 (pfs_ok ⟨#[108, 111, 103]⟩ (by decide) ls (by rw [HN.out]; exact hs) 0 (k + 1)) (by omega) ⟨#[108, 111, 103]⟩ ((congrArg (fun q => syncR _ q _) (Q.out _)).trans (pfs_sync _ ls 0 (k + 1) (by omega) (by omega))))
            clear hsk P1
            go_upto_region 20 with (first
              | (go_at_call 18; refine HSY.out.mono ?_; rintro e w6 ⟨rfl, S6, h6, o6, s6⟩)
              | fail)
            have Q5 := row_only O5 o6 (fun g hg => (hq5 g hg).1)
            have hq6 : ∀ g, (Value.slice a5 n5 cc5).ownBlock = some g → ¬ S6 g ∧ g < w6.heap.size := fun g hg => ⟨fun e => (hq5 g hg).1 (s6 g (row_lt O5 hg) e), row_lt Q5 hg⟩
            have hw6 : w1.heap.size ≤ w6.heap.size := h6.below.size
            have hs6 : ∀ i, S6 i → i < w6.heap.size := fun i hi => (h6.old hi).1
            have b7 : Below w6.heap.size w6 (w6.alloc (.cells #[] 5)) := (Below.refl _ _).alloc (Nat.le_refl _) _
            have hE : Own (w6.alloc (.cells #[] 5)) w1.heap.size (.slice (some ⟨w6.heap.size, 0, none⟩) 0 0) [] := World.ownsRow_lit w6 #[] 0 hw6 (by decide) (by simp)
            have Q7 := row_low Q5 b7
            have h7 := h6.low b7
            have hl5 := shortTo_len HC.out.1 (by omega)
            clear O5 HSY hq5 o6 s6 h6 Q5
            go_wp2_with (first
              | (refine wpList_append_bytesM (w := w6.alloc (.cells #[] 5)) (by rfl) _ _ (by rfl) w1.heap.size _ [] (by rfl) hE _ ((ls.take (k + 1)).flatten) (by rfl) (Own.slice Q7) (by simp only [List.length_nil]; omega) (Nat.le_trans hw6 b7.size) ?_; intro v8 w8 O8 G8 M8; obtain ⟨a8, n8, cc8, e8⟩ := slice_any O8; subst e8)
              | fail)
            have ho8 : ∀ i, (Value.slice (some ⟨w6.heap.size, 0, none⟩) 0 0).ownBlock = some i → i = w6.heap.size := fun i e => (Option.some.inj e).symm
            have hm8 : ∀ g, (Value.slice a8 n8 cc8).ownBlock = some g → w6.heap.size ≤ g := fun g hg => by
              rcases M8 with M8 | ⟨g', M8, hg'⟩
              · rw [M8] at hg
                have := ho8 g hg
                omega
              · rw [M8] at hg
                injection hg with hg
                have := b7.size
                omega
            have h8 := h7.only (Only.of_grown G8) (fun i _ e e2 => by have := ho8 i e; have := hs6 i e2; omega) (fun i hi e => by have := ho8 i e; omega)
            have Q8 := row_only Q7 (Only.of_grown G8) (fun g hg e => by have := ho8 g e; have := (hq6 g hg).2; omega)
            rw [List.nil_append] at O8
            go_roundw
            case rel =>
              refine ⟨k + 1, c + 1 + 1, S6, _, _, _, _, _, _, by omega, by go_num, by omega, rfl, rfl, HC.out.1, by rw [HS.out.2]; exact h8, by rw [HS.out.2]; exact O8, Q8, fun g hg e => ?_, fun g hg => ⟨(hq6 g hg).1, fun e => ?_⟩⟩
              · have := hm8 g hg
                have := hs6 g e
                omega
              · have := hm8 g e
                have := (hq6 g hg).2
                omega
            case measure => simp [intOf]; omega
          · have i3 : ¬ (k : Int) + 1 = (s : Int) := by omega
            have HS := Lib.hid (syncd_old s k hsk)
            clear hsk
            go_wp2
            go_roundw
            case rel => exact ⟨k + 1, c + 1, S4, _, _, _, _, _, _, by omega, by go_num, by omega, rfl, rfl, HC.out.1, by rw [HS.out]; exact h5, by rw [HS.out]; exact P1, O5, hn1, hq5⟩
            case measure => simp [intOf]; omega
        · have i5 : (500 : Int) < (x.length : Int) := by omega
          go_wp2
          go_ret
          exact ⟨rfl, BW⟩
      · obtain rfl : k = N := by omega
        have i1 : ¬ (k : Int) < (k : Int) := by omega
        have hsy : syncd s k = s := by
          unfold syncd
          rw [if_pos hsN]
        rw [hsy] at hK O1
        have hall : (ls.take k).flatten = ls.flatten := by rw [List.take_of_length_le (Nat.le_of_eq HN.out)]
        rw [hall] at O2
        have hlen := shortTo_len HSH.out hs
        rw [hall] at hlen
        have F1 : Free wr S1 (.slice sa sn sc) ((ls.take s).flatten) := ⟨⟨_, O1⟩, hg1⟩
        have F2 : Free wr S1 (.slice aa an ac) ls.flatten := ⟨⟨_, O2⟩, fun g hg => (hg2 g hg).1⟩
        have HCR := Lib.hid (crash_lit (A' := crashF [⟨⟨#[108, 111, 103]⟩, op, by_⟩] (pfs ⟨#[108, 111, 103]⟩ ls s k)) hK (pfs_ok ⟨#[108, 111, 103]⟩ (by decide) ls (by rw [HN.out]; exact hs) s k) ⟨⟨#[108, 111, 103]⟩, op, by_⟩ rfl)
        have HPC := Lib.hid (show (crashF [⟨⟨#[108, 111, 103]⟩, op, by_⟩] (pfs ⟨#[108, 111, 103]⟩ ls s k) = [] ∧ s = 0) ∨ ∃ C r1 r2, crashF [⟨⟨#[108, 111, 103]⟩, op, by_⟩] (pfs ⟨#[108, 111, 103]⟩ ls s k) = [(⟨#[108, 111, 103]⟩, ⟨C, [], false⟩)] ∧ C = (ls.take s).flatten ++ r1 ∧ ls.flatten = C ++ r2 from by have := pfs_crash ⟨#[108, 111, 103]⟩ ls s (by rw [HN.out]; exact hsN) op by_; rwa [HN.out] at this)
        clear O1 O2 hg1 hg2 hsy hall BW HL0
        go_upto_region 23 with (first
          | (go_at_call 14; refine HCR.out.mono ?_; rintro e w6 ⟨rfl, S6, h6, o6, s6⟩)
          | (refine wpList_slice_one (by rfl) 39 38 _ (by rfl) (Kp.cells ⟨⟨#[108, 111, 103]⟩, op, by_⟩).toArray (by rfl) Try.underlying39 zeroK (by decide) (by decide) (by rfl) ?_)
          | fail)
        replace F1 := F1.on o6 s6
        replace F2 := F2.on o6 s6
        clear HCR hK o6 s6
        rcases HPC.out with ⟨hA, rfl⟩ | ⟨C, r1, r2, hA, hC1, hC2⟩
        · rw [hA] at h6
          have hn0 := F1.cap.1
          rw [List.take_zero] at hn0
          obtain rfl : sn = 0 := hn0
          clear hA F1 F2 HPC
          have B6 := HD.out.1.trans (h6.below.mono HD.out.1.size)
          go_wp2_with (first
            | (go_at_call 20; refine (kd_read_none h6 ⟨#[108, 111, 103]⟩ rfl).mono ?_; rintro e w7 ⟨rfl, hw7⟩; subst hw7)
            | fail)
          go_ret
          exact ⟨rfl, B6⟩
        · rw [hA] at h6
          have hokA : okA [(⟨#[108, 111, 103]⟩, (⟨C, [], false⟩ : Dfile))] := ⟨by simp, fun x hx => by (obtain rfl : x = _ := by simpa using hx); exact ⟨by show 0 ≤ 80000; omega, (by decide : (⟨#[108, 111, 103]⟩ : ByteArray).size ≤ 1000)⟩⟩
          have l1 : C.length = ((ls.take s).flatten).length + r1.length := by rw [hC1, List.length_append]
          have l2 : ls.flatten.length = C.length + r2.length := by rw [hC2, List.length_append]
          have t1 : C.take ((ls.take s).flatten).length = (ls.take s).flatten := by rw [hC1, List.take_left]
          have t2 : ls.flatten.take C.length = C := by rw [hC2, List.take_left]
          have HT := Lib.hid (And.intro t1 (And.intro t2 (And.intro hokA (And.intro l1 l2))))
          obtain ⟨n1, m1⟩ := F1.cap
          obtain ⟨n2, m2⟩ := F2.cap
          clear hA hC1 hC2 t1 t2 hokA HPC
          have HRD := Lib.hid (kd_read_at h6 HT.out.2.2.1 ⟨#[108, 111, 103]⟩ ⟨C, [], false⟩ rfl)
          have hcC : (⟨C, [], false⟩ : Dfile).content = C := rfl
          rw [hcC] at HRD
          obtain ⟨NC, hNC⟩ : ∃ x, C.length = x := ⟨_, rfl⟩
          rw [hNC] at HRD l1 l2
          have HNC := Lib.hid hNC
          have HF := Lib.hid (And.intro n1 (And.intro n2 (And.intro m1 (And.intro m2 (And.intro l1 l2)))))
          clear hNC hcC n1 n2 m1 m2 l1 l2
          go_upto_region 26 with (first
            | (go_at_call 20; refine HRD.out.mono ?_; rintro e w7 ⟨_, rfl, ⟨ba, bc, rfl⟩, O7, b7⟩)
            | fail)
          have F7 : Free w7 S6 (.slice ba NC bc) C := Free.new O7 (fun i hi => (h6.old hi).1)
          replace h6 := h6.low b7
          replace F1 := F1.low b7
          replace F2 := F2.low b7
          clear O7 b7 HRD
          have HM3 := Lib.hid F7.cap.2
          have j1 : ¬ (NC : Int) < (sn : Int) := by obtain ⟨n1, n2, m1, m2, l1, l2⟩ := HF.out; omega
          have j2 : ¬ (an : Int) < (NC : Int) := by obtain ⟨n1, n2, m1, m2, l1, l2⟩ := HF.out; omega
          have j3 : (0 : Int) ≤ (sn : Int) := by obtain ⟨n1, n2, m1, m2, l1, l2⟩ := HF.out; omega
          have j4 : (sn : Int) ≤ (bc : Int) := by obtain ⟨n1, n2, m1, m2, l1, l2⟩ := HF.out; have := HNC.out; have := HM3.out; omega
          have j5 : (0 : Int) ≤ (NC : Int) := by obtain ⟨n1, n2, m1, m2, l1, l2⟩ := HF.out; omega
          have j6 : (NC : Int) ≤ (ac : Int) := by obtain ⟨n1, n2, m1, m2, l1, l2⟩ := HF.out; omega
          have HS1 := Lib.hid (same_true w7 (.slice ba sn bc) (.slice sa sn sc) ((ls.take s).flatten) (by obtain ⟨n1, n2, m1, m2, l1, l2⟩ := HF.out; have h1 := F7.front (n := sn) (by have := HNC.out; omega); have h2 : C.take sn = (ls.take s).flatten := (congrArg (C.take ·) n1).trans HT.out.1; rwa [h2] at h1) F1.slice)
          have HS2 := Lib.hid (show ∀ w', w7 = w' → Calls Try.prog 24 #[.slice ba NC bc, .slice aa NC ac] w' fun e w'' => e = .returned (.bool true) ∧ w' = w'' from fun w' hw => hw ▸ same_true w7 (.slice ba NC bc) (.slice aa NC ac) C F7.slice (by obtain ⟨n1, n2, m1, m2, l1, l2⟩ := HF.out; have h1 := F2.front (n := NC) (by omega); have h2 : ls.flatten.take NC = C := (congrArg (ls.flatten.take ·) HNC.out.symm).trans HT.out.2.1; rwa [h2] at h1))
          clear F1 F2
          go_upto_region 28 with (first
            | (go_at_call 19; refine (kd_pending_at h6 ⟨#[108, 111, 103]⟩ 0 rfl).mono ?_; rintro e w7d ⟨rfl, hw7⟩; subst hw7)
            | (go_at_call 24; refine (HS2.out w7b hw7b).mono ?_; rintro e w7c ⟨rfl, hw7c⟩; subst hw7c; subst hw7b)
            | (go_at_call 24; refine HS1.out.mono ?_; rintro e w7b ⟨rfl, hw7b⟩)
            | fail)
          clear HS1 HS2 j1 j2 j3 j4 j5 j6
          go_upto_region 29 with (first
            | (go_at_call 14; refine (crash_nil h6 HT.out.2.2.1 (crash_again _ C)).mono ?_; rintro e w8 ⟨rfl, S8, h8, o8, s8⟩)
            | fail)
          replace F7 := F7.on o8 s8
          clear h6 o8 s8
          have B8 := HD.out.1.trans (h8.below.mono HD.out.1.size)
          go_wp2_with (first
            | (go_at_call 24; refine (same_true w9 _ _ C (F7.low b9).slice O9.slice).mono ?_; rintro e w10 ⟨rfl, hw10⟩; subst hw10)
            | (go_at_call 20; refine (kd_read_at h8 HT.out.2.2.1 ⟨#[108, 111, 103]⟩ ⟨C, [], false⟩ rfl).mono ?_; rintro e w9 ⟨_, rfl, ⟨xa, xc, rfl⟩, O9, b9⟩)
            | fail)
          go_ret
          exact ⟨rfl, B8.trans (b9.mono B8.size)⟩
  · have i0 : (40 : Int) < (ls.length : Int) := by omega
    go_enter Try.func5, Try.ntmps5
    go_wp2_with (first
      | (go_at_call 4; refine HDK.out.mono ?_; rintro e w1 ⟨rfl, B1⟩)
      | fail)
    go_ret
    exact ⟨rfl, B1⟩

end Go.Proofs.Ytmmlpbepaefamaa
