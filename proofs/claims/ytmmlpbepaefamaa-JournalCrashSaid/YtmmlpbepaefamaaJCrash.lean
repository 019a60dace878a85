/- JournalCrash's walk. -/
import Derived.Test.YtmmlpbepaefamaaJCrF
import Derived.Test.YtmmlpbepaefamaaPick
namespace Go.Proofs.Ytmmlpbepaefamaa
open Go.RowKit

/-- How many records are synced once there are k. -/
def syncAt (s k : Nat) : Nat := if s ≤ k then s else 0
theorem syncAt_le (s k : Nat) : syncAt s k ≤ k := by
  unfold syncAt
  split <;> omega
theorem syncAt_new (s k : Nat) (h : s = k + 1) : syncAt s k = 0 ∧ syncAt s (k + 1) = k + 1 := by
  unfold syncAt
  constructor
  · rw [if_neg (by omega)]
  · rw [if_pos (by omega), h]
theorem syncAt_old (s k : Nat) (h : s ≠ k + 1) : syncAt s (k + 1) = syncAt s k := by
  unfold syncAt
  split <;> split <;> omega

set_option maxRecDepth 100000 in
set_option maxHeartbeats 4000000 in
theorem journalCrash_walk (W : World) (v0 : Value) (ls : List (List (BitVec 8))) (sy op by_ : Int) (h0 : ListsAt W v0 ls)
    (hl : ls.length ≤ 9223372036854775807) (hb : ∀ x ∈ ls, x.length ≤ 9223372036854775806) :
    Calls Try.prog 3 #[v0, .int .i64 sy, .int .i64 op, .int .i64 by_] W fun e w' => e = .returned (.bool true) ∧ Below W.heap.size W w' := by
  obtain ⟨p0, c0, rfl, hc0⟩ := h0.shape
  have HJK := Lib.hid (journalKnown_walk W)
  have HSC := Lib.hid (fun w' (hb' : Below W.heap.size W w') => short_calls w' _ ls (h0.low hb') hl hb)
  have HL0 := Lib.hid h0
  have HC0 := Lib.hid hc0
  clear hl hb h0 hc0
  by_cases hs : shortL ls
  · rw [decide_eq_true hs] at HSC
    have HSH := Lib.hid hs
    have HLF := Lib.hid (show ∀ w' m, Below W.heap.size W w' → m ≤ ls.length → ListsAt w' (.slice p0 m c0) (ls.take m) from fun w' m hb hm => (HL0.out.low hb).front hm)
    have hN30 := hs.1
    obtain ⟨N, hN⟩ : ∃ n, ls.length = n := ⟨_, rfl⟩
    rw [hN] at HL0 HC0 HSC hN30
    have HN := Lib.hid hN
    have hnm : nameN ⟨#[108, 111, 103]⟩ = true := by kernel_rfl
    have e1 : IntKind.i64.wrap ((N : Int) + 1) = (N : Int) + 1 := IntWalk.i64_in _ (by omega)
    clear hs
    rw [hN]
    clear hN
    go_enter Try.func3, Try.ntmps3
    go_upto_region 5 with (first
      | (go_at_call 9; refine (dnew_calls w2).mono ?_; rintro e w3 ⟨d, rfl, fm, rm, own, hD, hown⟩)
      | (go_at_call 8; refine (HSC.out w1 B1).mono ?_; rintro e w2 ⟨rfl, hw2⟩; have B2 : Below W.heap.size W w2 := hw2 ▸ B1; clear hw2)
      | (go_at_call 7; refine HJK.out.mono ?_; rintro e w1 ⟨rfl, B1⟩)
      | fail)
    clear HJK HSC B1 hown
    go_upto_region 8 with (first
      | (go_at_call 10; refine (jopen_missing w2 w3 d fm rm 0 own [] [] hD ⟨#[108, 111, 103]⟩ hnm (by decide) rfl).mono ?_; rintro e w4 ⟨jb, ⟨oa, oc, rfl⟩, hJ, hjb, b4⟩)
      | fail)
    clear hD hjb b4
    go_upto_region 9 with (first
      | (go_at_call 11; refine (pick_calls w4 sy ((N : Int) + 1) (by omega) (by omega)).mono ?_; rintro e w4b ⟨r, rfl, hr, hw4⟩; subst hw4)
      | fail)
    obtain ⟨s, rfl⟩ := Int.eq_ofNat_of_zero_le hr.1
    have hsN : s ≤ N := by omega
    clear hr e1
    have HB2 := Lib.hid B2
    have HJ := Lib.hid (show LogAt w2 w4 jb d fm rm own (jfiles ⟨#[108, 111, 103]⟩ 0 ls (syncAt s 0) 0) [] 0 ⟨#[108, 111, 103]⟩ ((0 : Nat) : Int) ((((ls.take 0).flatMap frameC).length : Nat) : Int) from by rw [List.take_zero]; exact hJ)
    clear B2 hJ
    go_wp2
    go_loopw [15] (fun i wr => ∃ (k c fb : Nat) (own' : Nat → Option Nat), k ≤ N ∧ i = .int .i64 k ∧ c ≤ 2 * k ∧ LogAt w2 wr jb d fm rm own' (jfiles ⟨#[108, 111, 103]⟩ fb ls (syncAt s k) k) [] c ⟨#[108, 111, 103]⟩ ((k : Nat) : Int) ((((ls.take k).flatMap frameC).length : Nat) : Int)) (fun i _ => N - (intOf i).toNat)
    case atStart => exact ⟨0, 0, 0, own, by omega, rfl, by omega, HJ.out⟩
    case round =>
      clear HJ
      obtain ⟨k, c, fb, own1, hkN, rfl, hc, hJ⟩ := hrel
      by_cases hlt : k < N
      · obtain ⟨x, hx⟩ : ∃ x, ls[k]? = some x := ⟨_, List.getElem?_eq_getElem (by rw [HN.out]; exact hlt)⟩
        obtain ⟨g, o, q, kc, rfl, hg, hcx, hsx⟩ := (HL0.out.low (HB2.out.trans (hJ.disk.below.mono HB2.out.size))).nth hx
        have i1 : (k : Int) < (N : Int) := by omega
        have i2 : 0 ≤ (k : Int) ∧ (k : Int) < (N : Int) := by omega
        have b2 : IntKind.i64.wrap ((k : Int) + 1) = (k : Int) + 1 := IntWalk.i64_in _ (by omega)
        have HAP := Lib.hid (jr_append w2 wr jb d fm rm c fb (syncAt s k) k own1 ⟨#[108, 111, 103]⟩ ls HSH.out x hx (syncAt_le s k) (fun e => by have := syncAt_le s k; omega) hnm (by decide) (by omega) hJ _ hsx)
        clear hx hsx hg hJ
        by_cases hsk : s = k + 1
        · have i3 : (k : Int) + 1 = (s : Int) := by omega
          have HS := Lib.hid (syncAt_new s k hsk)
          rw [HS.out.1] at HAP
          clear hsk
          go_wp2_with (first
            | (go_at_call 12; refine HAP.out.mono ?_; rintro e w6 ⟨rfl, own6, fb6, h6⟩)
            | (go_at_call 13; refine (jr_sync w2 w6 jb d fm rm (c + 1) fb6 k own6 ⟨#[108, 111, 103]⟩ ls HSH.out (by rw [HN.out]; exact hlt) (by omega) _ h6).mono ?_; rintro e w7 ⟨rfl, own7, h7⟩)
            | fail)
          go_roundw
          case rel => exact ⟨k + 1, c + 1 + 1, fb6, own7, by omega, by go_num, by omega, by rw [HS.out.2]; exact h7⟩
          case measure => simp [intOf]; omega
        · have i3 : ¬ (k : Int) + 1 = (s : Int) := by omega
          have HS := Lib.hid (syncAt_old s k hsk)
          clear hsk
          go_wp2_with (first
            | (go_at_call 12; refine HAP.out.mono ?_; rintro e w6 ⟨rfl, own6, fb6, h6⟩)
            | fail)
          go_roundw
          case rel => exact ⟨k + 1, c + 1, fb6, own6, by omega, by go_num, by omega, by rw [HS.out]; exact h6⟩
          case measure => simp [intOf]; omega
      · obtain rfl : k = N := by omega
        have i1 : ¬ (k : Int) < (k : Int) := by omega
        have hsy : syncAt s k = s := by
          unfold syncAt
          rw [if_pos hsN]
        rw [hsy] at hJ
        have HJ2 := Lib.hid hJ.disk
        clear hJ hsy
        have bk : Below wr.heap.size wr (wr.alloc (.cells (Kp.cells ⟨⟨#[108, 111, 103]⟩, op, by_⟩).toArray 38)) := (Below.refl _ _).alloc (Nat.le_refl _) _
        have HCR := Lib.hid (dcrash_calls w2 _ d fm rm c own1 _ [] (HJ2.out.low bk) (fun y hy => by
            unfold jfiles at hy
            split at hy
            · cases hy
            · obtain rfl : y = _ := by simpa using hy
              have := jf_ops ls s k
              have := HSH.out.1
              show (jf ls s k).ops.length ≤ 100000
              omega) (.slice (some ⟨wr.heap.size, 0, none⟩) 1 1) [⟨⟨#[108, 111, 103]⟩, op, by_⟩] (by simp) (fun w' ho => KeepsAt.one _ ho (by
            rintro (e | e)
            · have := HJ2.out.all.lt
              omega
            · cases e2 : own1 wr.heap.size with
              | none => exact e e2
              | some fb2 =>
                have := (HJ2.out.old _ _ e2).2
                omega)))
        clear bk HJ2
        go_upto_region 16 with (first
          | (go_at_call 14; refine HCR.out.mono ?_; rintro e w6 ⟨rfl, own6, h6, _, _⟩)
          | (refine wpList_slice_one (by rfl) 39 38 _ (by rfl) (Kp.cells ⟨⟨#[108, 111, 103]⟩, op, by_⟩).toArray (by rfl) Try.underlying39 zeroK (by decide) (by decide) (by rfl) ?_)
          | fail)
        clear HCR
        have HCB := Lib.hid (And.intro HC0.out (show c ≤ 100 by omega))
        rw [show jfiles ⟨#[108, 111, 103]⟩ fb ls s k = jfiles ⟨#[108, 111, 103]⟩ fb ls s ls.length by rw [HN.out]] at h6
        have HOP := Lib.hid (jr_open w2 w6 d fm rm c fb s own6 ⟨#[108, 111, 103]⟩ ls HSH.out (by rw [HN.out]; exact hsN) hnm (by decide) HCB.out.2 _ h6)
        clear h6
        go_upto_region 17 with (first
          | (go_at_call 10; refine HOP.out.mono ?_; rintro e w8 ⟨jb2, m, _, own8, L8, c8, z8, rfl, m1, m2, ⟨p8, cap8, rfl⟩, h8, hL8, hc8, hz8, U8⟩)
          | fail)
        clear HOP
        rw [HN.out] at m2
        have j1 : ¬ (m : Int) < (s : Int) := by omega
        have j2 : ¬ (k : Int) < (m : Int) := by omega
        have HLN := Lib.hid (jlen_calls w8 jb2 d ⟨#[108, 111, 103]⟩ m z8 h8.jour)
        go_upto_region 19 with (first
          | (go_at_call 15; refine HLN.out.mono ?_; rintro e w8b ⟨rfl, hw8⟩; subst hw8)
          | fail)
        clear HLN j1 j2
        have B8 := HB2.out.trans (h8.disk.below.mono HB2.out.size)
        have HSL := Lib.hid (samelists_calls w8 _ _ (ls.take m) (ls.take m) U8 (HLF.out w8 m B8 (by rw [HN.out]; exact m2)) (by rw [List.length_take]; omega))
        rw [decide_eq_true rfl] at HSL
        have j1 : (0 : Int) ≤ (m : Int) := by omega
        have j2 : (m : Int) ≤ (c0 : Int) := by have := HC0.out; omega
        have j3 : IntKind.i64.wrap ((m : Int) + 1) = (m : Int) + 1 := IntWalk.i64_in _ (by omega)
        have HM := Lib.hid (show ∀ w9, Below w8.heap.size w8 w9 → Calls Try.prog 12 #[.pointer (some ⟨jb2, 0, none⟩), .slice (some ⟨w9.heap.size, 0, none⟩) 1 1] (w9.alloc (.cells #[.int .u8 9] 5)) fun e w' => e = .returned (.int .i64 0) ∧ (∃ own' L' c', LogAt w2 w' jb2 d fm rm own' L' [] c' ⟨#[108, 111, 103]⟩ ((m : Int) + 1) ((z8 : Int) + 13)) from fun w9 b9 => by
          have b10 := b9.trans (((Below.refl w9.heap.size w9).alloc (Nat.le_refl _) (.cells #[.int .u8 9] 5)).mono b9.size)
          have := jr_more w2 (w9.alloc (.cells #[.int .u8 9] 5)) jb2 d fm rm c8 fb m z8 own8 ⟨#[108, 111, 103]⟩ ls L8 HSH.out (by rw [HN.out]; exact m2) hL8 hnm (by decide) hc8 hz8 (h8.low b10) _ [9#8] (SliceIs.one w9 5 (.int .u8 9) 9#8 (by kernel_rfl)) (by decide)
          exact this)
        clear U8 h8 hL8
        go_wp2_with (first
          | (go_at_call 15; refine (jlen_calls w11 jb2 d ⟨#[108, 111, 103]⟩ _ _ h11.jour).mono ?_; rintro e w12 ⟨rfl, hw12⟩; subst hw12)
          | (go_at_call 12; refine (HM.out w9 b9).mono ?_; rintro e w11 ⟨rfl, own11, L11, c11, h11⟩)
          | (go_at_call 16; refine HSL.out.mono ?_; rintro e w9 ⟨rfl, b9⟩)
          | fail)
        go_ret
        exact ⟨rfl, HB2.out.trans (h11.disk.below.mono HB2.out.size)⟩
  · rw [decide_eq_false hs] at HSC
    go_enter Try.func3, Try.ntmps3
    go_wp2_with (first
      | (go_at_call 8; refine (HSC.out w1 B1).mono ?_; rintro e w2 ⟨rfl, hw2⟩; have B2 : Below W.heap.size W w2 := hw2 ▸ B1; clear hw2)
      | (go_at_call 7; refine HJK.out.mono ?_; rintro e w1 ⟨rfl, B1⟩)
      | fail)
    go_ret
    exact ⟨rfl, B2⟩

end Go.Proofs.Ytmmlpbepaefamaa
