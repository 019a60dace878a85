/- JournalBack's walk. -/
import Derived.Test.YtglcingpolpkdaaJLists
import Derived.Test.YtglcingpolpkdaaJFlip
import Derived.Test.YtglcingpolpkdaaJKnown
import Derived.Test.YtglcingpolpkdaaPick
namespace Go.Proofs.Ytglcingpolpkdaa
open Go.RowKit

theorem Own.cap {w : World} {B n c : Nat} {a : Option Addr} {l : List (BitVec 8)} (h : Own w B (.slice a n c) l) : l.length ≤ c := by
  obtain ⟨_, _, _, he, hc⟩ := Own.room h
  injection he with _ _ h3
  omega
theorem Own.front2 {w : World} {B n k m : Nat} {a : Option Addr} {c : Nat} {l : List (BitVec 8)} (h : Own w B (.slice a k c) l) (hn : n ≤ m) (hm : m = l.length) : SliceIs w (.slice a n c) (l.take n) := (Own.front h (by omega)).slice

theorem flip_ne (y : BitVec 8) (m : Nat) (h : m < 8) : y ≠ y ^^^ BitVec.ofInt 8 ((2 : Int) ^ m) := fun e => by
  have h2 : BitVec.ofInt 8 ((2 : Int) ^ m) = 0#8 := by
    have := congrArg (y ^^^ ·) e
    simp only [← BitVec.xor_assoc, BitVec.xor_self, BitVec.zero_xor] at this
    exact this.symm
  obtain rfl | rfl | rfl | rfl | rfl | rfl | rfl | rfl : m = 0 ∨ m = 1 ∨ m = 2 ∨ m = 3 ∨ m = 4 ∨ m = 5 ∨ m = 6 ∨ m = 7 := by omega
  all_goals exact absurd h2 (by decide)

set_option maxRecDepth 100000 in
set_option maxHeartbeats 4000000 in
theorem journalBack_walk (W : World) (v0 v1 : Value) (ls : List (List (BitVec 8))) (more : List (BitVec 8)) (torn bit : Int) (h0 : ListsAt W v0 ls) (h1 : SliceIs W v1 more)
    (hl : ls.length ≤ 9223372036854775807) (hb : ∀ x ∈ ls, x.length ≤ 9223372036854775806) :
    Calls Try.prog 10 #[v0, v1, .int .i64 torn, .int .i64 bit] W fun e w' => e = .returned (.bool true) ∧ Below W.heap.size W w' := by
  obtain ⟨p1, c1, rfl⟩ := h1.len
  obtain ⟨p0, c0, rfl, _⟩ := h0.shape
  have HJK := Lib.hid (journalKnown_walk W)
  have HSC := Lib.hid (fun w' (hb' : Below W.heap.size W w') => short_calls w' _ ls (h0.low hb') hl hb)
  have HL0 := Lib.hid h0
  have HM := Lib.hid h1
  clear hl hb h0 h1
  by_cases hs : shortL ls
  · rw [decide_eq_true hs] at HSC
    have HSH := Lib.hid hs
    by_cases h5 : more.length ≤ 500
    · have i1 : ¬ (500 : Int) < (more.length : Int) := by omega
      have HFS := Lib.hid (fun w' (hb' : Below W.heap.size W w') => frames_calls w' _ ls (HL0.out.low hb') hs)
      have HFR := Lib.hid (fun w' (hb' : Below W.heap.size W w') => topframe_calls w' _ more (HM.out.low hb') (by omega))
      have hfl := frameC_length more
      have HRD0 := Lib.hid (show ∀ t, t < more.length + 12 → readC (ls.flatMap frameC ++ (frameC more).take t) = some (ls, (ls.flatMap frameC).length) from fun t ht => by rw [readC_frames ls ((frameC more).take t) (fun x hx => by have := hs.2 x hx; omega), readC_torn more t ht (by omega)]; simp)
      have HFL := Lib.hid (fun (rest : List (BitVec 8)) (i : Nat) (y : BitVec 8) (hi : i < (ls.flatMap frameC).length) (hy : (ls.flatMap frameC).getD i 0 ≠ y) => readC_flips ls rest i y (fun x hx => by have := hs.2 x hx; omega) hi hy)
      have hnb := frames_len ls hs.2
      have hnb2 : 512 * ls.length ≤ 15360 := by have := hs.1; omega
      obtain ⟨FB, hFB⟩ : ∃ x, ls.flatMap frameC = x := ⟨_, rfl⟩
      rw [hFB] at HFS HRD0 HFL hnb
      obtain ⟨NB, hNB⟩ : ∃ x, FB.length = x := ⟨_, rfl⟩
      rw [hNB] at HRD0 HFL hnb
      have HNB := Lib.hid (And.intro (Nat.le_trans hnb hnb2) hNB)
      obtain ⟨NF, hNF⟩ : ∃ x, more.length + 12 = x := ⟨_, rfl⟩
      have HLF := Lib.hid (show NF = (frameC more).length by rw [frameC_length, hNF])
      rw [hNF] at HRD0
      have HNF := Lib.hid hNF
      have e12 : IntKind.i64.wrap ((more.length : Int) + 12) = (NF : Int) := by rw [IntWalk.i64_in _ (by omega)]; omega
      have hNF2 : NF ≤ 512 := by omega
      have hNF1 : 12 ≤ NF := by omega
      clear hs hfl hnb hnb2 hFB hNB hNF
      go_enter Try.func10, Try.ntmps10
      go_upto_region 8 with (first
        | (go_at_call 32; refine (HFR.out w3 B3).mono ?_; rintro e w4 ⟨_, rfl, O4, b4⟩; have HB0 := Lib.hid (And.intro (row_low O3 b4) (own_down B3.size O4)); have B4 := B3.trans (b4.mono B3.size); (obtain ⟨a4, c4, h4⟩ := slice_of_row O4); rw [← HLF.out] at h4; subst h4; clear O3 O4 b4)
        | (go_at_call 39; refine (HFS.out w2 B2).mono ?_; rintro e w3 ⟨_, rfl, O3, b3⟩; have B3 := B2.trans (b3.mono B2.size); replace O3 := own_down B2.size O3; (obtain ⟨a3, c3, h3⟩ := slice_of_row O3); rw [HNB.out.2] at h3; subst h3; clear b3)
        | (go_at_call 38; refine (HSC.out w1 B1).mono ?_; rintro e w2 ⟨rfl, hw2⟩; have B2 : Below W.heap.size W w2 := hw2 ▸ B1; clear hw2)
        | (go_at_call 9; refine HJK.out.mono ?_; rintro e w1 ⟨rfl, B1⟩)
        | fail)
      clear e12 i1 HJK HSC HFS HFR
      go_upto_region 9 with (first
        | (go_at_call 19; refine (pick_calls w4 torn (NF : Int) (by omega) (by omega)).mono ?_; rintro e w4b ⟨r, rfl, hr, hw4⟩; subst hw4)
        | fail)
      obtain ⟨t, rfl⟩ := Int.eq_ofNat_of_zero_le hr.1
      have HT := Lib.hid (show t < NF by omega)
      have HRD := Lib.hid (HRD0.out t HT.out)
      have HB := Lib.hid (show ∀ w', Below w4.heap.size w4 w' → Own w' W.heap.size (.slice a3 NB c3) FB ∧ Own w' W.heap.size (.slice a4 NF c4) (frameC more) ∧ NF ≤ c4 from fun w' hb' => ⟨row_low HB0.out.1 hb', row_low HB0.out.2 hb', by have := HLF.out; have := Own.cap HB0.out.2; omega⟩)
      have HA := Lib.hid (show ∀ w', Below w4.heap.size w4 w' → ListsAt w' (.slice p0 ls.length c0) ls ∧ Below W.heap.size W w' from fun w' hb' => ⟨HL0.out.low (B4.trans (hb'.mono B4.size)), B4.trans (hb'.mono B4.size)⟩)
      have j1 : (t : Int) ≤ (c4 : Int) := by have := (HB.out w4 (Below.refl _ _)).2.2; omega
      have j2 : (0 : Int) ≤ (t : Int) := by omega
      clear hr HB0 B1 B2 B3 B4 HRD0
      refine wp_region_noPanic ?_
      refine wp_region_held_drew (S := fun _ => True) (by kernel_rfl) (trivial) (fun hhS => ?_)
      have hTr : True := trivial
      have hBd : Below w4.heap.size w4 w4.drew := (Below.refl _ _).drew
      generalize w4.drew = wd at hBd ⊢
      refine wpAnyH_take (i := 0) (oi := ⟨some 60, _, _, _, _, _⟩) (v := ?_) rfl (by kernel_rfl) (by kernel_rfl) (by kernel_rfl) (fun _ _ _ h => h) (Or.inl ⟨by rfl, ?_⟩) (by assumption) ?_
      rotate_left
      · intro w hSw
        (try dsimp only at hSw)
        go_simp
        all_goals (with_reducible rfl)
      try simp only [Act.put, List.setIfInBounds_toArray, List.set_cons_zero, List.set_cons_succ]
      refine wpAnyH_take (i := 2) (oi := ⟨some 62, _, _, _, _, _⟩) (v := ?_) rfl (by kernel_rfl) (by kernel_rfl) (by kernel_rfl) (fun _ _ _ h => h) (Or.inl ⟨by rfl, ?_⟩) (by assumption) ?_
      rotate_left
      · intro w hSw
        (try dsimp only at hSw)
        go_simp
        all_goals (with_reducible rfl)
      try simp only [Act.put, List.setIfInBounds_toArray, List.set_cons_zero, List.set_cons_succ]
      refine wpAnyH_take (i := 3) (oi := ⟨some 63, _, _, _, _, _⟩) (v := ?_) rfl (by kernel_rfl) (by kernel_rfl) (by kernel_rfl) (fun _ _ _ h => h) (Or.inl ⟨by rfl, ?_⟩) (by assumption) ?_
      rotate_left
      · intro w hSw
        (try dsimp only at hSw)
        go_simp
        all_goals (with_reducible rfl)
      try simp only [Act.put, List.setIfInBounds_toArray, List.set_cons_zero, List.set_cons_succ]
      refine wpAnyH_take (i := 4) (oi := ⟨some 64, _, _, _, _, _⟩) (v := ?_) rfl (by kernel_rfl) (by kernel_rfl) (by kernel_rfl) (fun _ _ _ h => h) (Or.inl ⟨by rfl, ?_⟩) (by assumption) ?_
      rotate_left
      · intro w hSw
        (try dsimp only at hSw)
        go_simp
        all_goals (with_reducible rfl)
      try simp only [Act.put, List.setIfInBounds_toArray, List.set_cons_zero, List.set_cons_succ]
      refine wpAnyH_ready (rs := [1]) (by kernel_rfl) (by simp) ?_
      refine AllReadyH.cons (o := ⟨some 61, _, _, _, _, _⟩) rfl (fun K hK => ?_) AllReadyH.nil
      go_simp
      refine (copy_calls wd _ FB (HB.out _ hBd).1.slice (by have := HNB.out; omega)).mono ?_
      rintro e w5 ⟨_, rfl, O5, b5⟩
      obtain ⟨a5, n5, c5, h5⟩ := slice_any O5
      subst h5
      have B5 := hBd.trans (b5.mono hBd.size)
      have S5 := (HB.out _ B5).2.1.front2 (Nat.le_of_lt HT.out) HLF.out
      refine hK.out _ _ (trivial) (fun _ => ?_)
      clear hK K
      try simp only [Act.put, List.setIfInBounds_toArray, List.set_cons_zero, List.set_cons_succ]
      refine wpAnyH_ready (rs := [5]) (by kernel_rfl) (by simp) ?_
      refine AllReadyH.cons (o := ⟨some 65, _, _, _, _, _⟩) rfl (fun K hK => ?_) AllReadyH.nil
      rw [if_pos (by rfl)]
      refine wp_append_bytesM _ _ (by rfl) wd.heap.size _ FB (by rfl) O5 _ ((frameC more).take t) (by rfl) S5 (by have := HNB.out; have := HLF.out; rw [List.length_take]; omega) b5.size ?_
      intro v6 w6 O6 G6 _
      have B6 := B5.grown G6 B5.size (fun i hi => Nat.le_trans hBd.size (own_ge O5 hi))
      obtain ⟨a6, n6, c6, h6⟩ := slice_any O6
      subst h6
      refine hK.out _ _ (trivial) (fun _ => ?_)
      clear hK K
      try simp only [Act.put, List.setIfInBounds_toArray, List.set_cons_zero, List.set_cons_succ]
      refine wpAnyH_ready (rs := [6]) (by kernel_rfl) (by simp) ?_
      refine AllReadyH.cons (o := ⟨some 66, _, _, _, _, _⟩) rfl (fun K hK => ?_) AllReadyH.nil
      go_simp
      refine (topread_some w6 _ _ (Own.room O6) (by have := HNB.out; have := HLF.out; rw [List.length_append, List.length_take]; omega) HRD.out).mono ?_
      rintro e w7 ⟨b7, _, rfl, ⟨a7, c7, rfl⟩, hU7⟩
      have B7 := B6.trans (b7.mono B6.size)
      refine hK.out _ _ (trivial) (fun _ => ?_)
      clear hK K
      try simp only [Act.put, List.setIfInBounds_toArray, List.set_cons_zero, List.set_cons_succ]
      refine wpAnyH_take (i := 7) (oi := ⟨some 59, _, _, _, _, _⟩) (v := ?_) rfl (by kernel_rfl) (by kernel_rfl) (by kernel_rfl) (fun _ _ _ h => h) (Or.inl ⟨by rfl, ?_⟩) (by assumption) ?_
      rotate_left
      · intro w hSw
        (try dsimp only at hSw)
        go_simp
        all_goals (with_reducible rfl)
      try simp only [Act.put, List.setIfInBounds_toArray, List.set_cons_zero, List.set_cons_succ]
      refine wpAnyH_take (i := 8) (oi := ⟨some 67, _, _, _, _, _⟩) (v := ?_) rfl (by kernel_rfl) (by kernel_rfl) (by kernel_rfl) (fun _ _ _ h => h) (Or.inl ⟨by rfl, ?_⟩) (by assumption) ?_
      rotate_left
      · intro w hSw
        (try dsimp only at hSw)
        go_simp
        all_goals (with_reducible rfl)
      try simp only [Act.put, List.setIfInBounds_toArray, List.set_cons_zero, List.set_cons_succ]
      refine wpAnyH_take (i := 9) (oi := ⟨some 68, _, _, _, _, _⟩) (v := ?_) rfl (by kernel_rfl) (by kernel_rfl) (by kernel_rfl) (fun _ _ _ h => h) (Or.inl ⟨by rfl, ?_⟩) (by assumption) ?_
      rotate_left
      · intro w hSw
        (try dsimp only at hSw)
        go_simp
        all_goals (with_reducible rfl)
      try simp only [Act.put, List.setIfInBounds_toArray, List.set_cons_zero, List.set_cons_succ]
      refine wpAnyH_take (i := 10) (oi := ⟨some 69, _, _, _, _, _⟩) (v := ?_) rfl (by kernel_rfl) (by kernel_rfl) (by kernel_rfl) (fun _ _ _ h => h) (Or.inl ⟨by rfl, ?_⟩) (by assumption) ?_
      rotate_left
      · intro w hSw
        (try dsimp only at hSw)
        go_simp
        all_goals (with_reducible rfl)
      try simp only [Act.put, List.setIfInBounds_toArray, List.set_cons_zero, List.set_cons_succ]
      refine wpAnyH_take (i := 11) (oi := ⟨some 14, _, _, _, _, _⟩) (v := ?_) rfl (by kernel_rfl) (by kernel_rfl) (by kernel_rfl) (fun _ _ _ h => h) (Or.inl ⟨by rfl, ?_⟩) (by assumption) ?_
      rotate_left
      · intro w hSw
        (try dsimp only at hSw)
        go_simp
        all_goals (with_reducible rfl)
      try simp only [Act.put, List.setIfInBounds_toArray, List.set_cons_zero, List.set_cons_succ]
      refine wpAnyH_take (i := 12) (oi := ⟨some 15, _, _, _, _, _⟩) (v := ?_) rfl (by kernel_rfl) (by kernel_rfl) (by kernel_rfl) (fun _ _ _ h => h) (Or.inl ⟨by rfl, ?_⟩) (by assumption) ?_
      rotate_left
      · intro w hSw
        (try dsimp only at hSw)
        go_simp
        all_goals (with_reducible rfl)
      try simp only [Act.put, List.setIfInBounds_toArray, List.set_cons_zero, List.set_cons_succ]
      refine wpAnyH_take (i := 13) (oi := ⟨some 16, _, _, _, _, _⟩) (v := ?_) rfl (by kernel_rfl) (by kernel_rfl) (by kernel_rfl) (fun _ _ _ h => h) (Or.inl ⟨by rfl, ?_⟩) (by assumption) ?_
      rotate_left
      · intro w hSw
        (try dsimp only at hSw)
        go_simp
        all_goals (with_reducible rfl)
      try simp only [Act.put, List.setIfInBounds_toArray, List.set_cons_zero, List.set_cons_succ]
      refine wpAnyH_done (by kernel_rfl) ?_ _
      refine NoPanic.normal ?_
      clear O5 S5 O6 G6 B5 B6 b5 b7 hBd
      have HSL := Lib.hid (samelists_calls w7 _ _ ls ls hU7.lists ((HA.out _ B7).1) (by have := HSH.out.1; omega))
      rw [decide_eq_true rfl] at HSL
      have i6 : (NB : Int) = (NB : Int) := rfl
      by_cases hz : NB = 0
      · have i7 : (NB : Int) = 0 := by omega
        go_wp2_with (first
          | (go_at_call 40; refine HSL.out.mono ?_; rintro e w8 ⟨rfl, b8⟩)
          | fail)
        go_ret
        exact ⟨rfl, (HA.out _ (B7.trans (b8.mono B7.size))).2⟩
      · have i7 : ¬ (NB : Int) = 0 := by omega
        go_upto_region 14 with (first
          | (go_at_call 40; refine HSL.out.mono ?_; rintro e w8 ⟨rfl, b8⟩; have B8 := B7.trans (b8.mono B7.size))
          | fail)
        clear HSL hU7 i6 i7 b8 B7
        go_upto_region 15 with (first
          | (go_at_call 36; refine (copy_calls w8 _ FB (HB.out _ B8).1.slice (by have := HNB.out; omega)).mono ?_; rintro e w9 ⟨_, rfl, O9, b9⟩; have B9 := B8.trans (b9.mono B8.size); obtain ⟨a9, c9, h9⟩ := slice_of_row O9; rw [HNB.out.2] at h9; subst h9)
          | fail)
        clear b9
        have m1 : IntKind.i64.wrap (8 * (NB : Int)) = 8 * (NB : Int) := IntWalk.i64_in _ (by have := HNB.out; omega)
        go_upto_region 16 with (first
          | (go_at_call 19; refine (pick_calls w9 bit (8 * (NB : Int)) (by omega) (by have := HNB.out; omega)).mono ?_; rintro e w9b ⟨r, rfl, hr, hw9⟩; subst hw9)
          | fail)
        obtain ⟨k, rfl⟩ := Int.eq_ofNat_of_zero_le hr.1
        have hkq : k / 8 < NB := by omega
        obtain ⟨q, hq⟩ : ∃ x, k / 8 = x := ⟨_, rfl⟩
        obtain ⟨m, hm8⟩ : ∃ x, k % 8 = x := ⟨_, rfl⟩
        have d1 : IntKind.i64.wrap ((k : Int) / 8) = (q : Int) := by rw [IntWalk.i64_in _ (by have := HNB.out; omega)]; omega
        have d2 : (k : Int).tmod 8 = (m : Int) := by rw [Int.tmod_eq_emod_of_nonneg (by omega)]; omega
        rw [hq] at hkq
        have hm7 : m < 8 := by omega
        have hZb : ∀ y : BitVec 8, y ≠ y ^^^ BitVec.ofInt 8 ((2 : Int) ^ m) := fun y => flip_ne y m hm7
        obtain ⟨g9, rfl⟩ : ∃ g, a9 = some ⟨g, 0, none⟩ := by obtain ⟨g, c, h, _⟩ := Own.full O9 (by intro e; have := HNB.out.2; rw [e] at this; simp at this; omega); injection h with h; exact ⟨g, h⟩
        have i8 : 0 ≤ (q : Int) ∧ (q : Int) < (NB : Int) := by omega
        have HG9 := Lib.hid (show w8.heap.size ≤ g9 from own_ge O9 rfl)
        clear m1 hr hq hm8
        refine wp_region_noPanic ?_
        refine wp_region_held_drew (S := fun _ => True) (by kernel_rfl) (trivial) (fun hhS => ?_)
        have hTr : True := trivial
        have hBd : Below w9.heap.size w9 w9.drew := (Below.refl _ _).drew
        replace O9 := row_low O9 hBd
        replace B9 := B9.trans (hBd.mono B9.size)
        generalize w9.drew = we at O9 B9 hBd ⊢
        obtain ⟨y0, y1, P9⟩ := Own.poke O9 (i := q) (by rw [HNB.out.2]; exact hkq) (FB.getD q 0 ^^^ BitVec.ofInt 8 ((2 : Int) ^ m))
        obtain ⟨y, hyq⟩ : ∃ x, FB.getD q 0 = x := ⟨_, rfl⟩
        rw [hyq] at y0 P9
        refine wpAnyH_take (i := 0) (oi := ⟨some 95, _, _, _, _, _⟩) (v := ?_) rfl (by kernel_rfl) (by kernel_rfl) (by kernel_rfl) (fun _ _ _ h => h) (Or.inl ⟨by rfl, ?_⟩) (by assumption) ?_
        rotate_left
        · intro w hSw
          (try dsimp only at hSw)
          go_simp
          all_goals (with_reducible rfl)
        try simp only [Act.put, List.setIfInBounds_toArray, List.set_cons_zero, List.set_cons_succ]
        refine wpAnyH_take (i := 1) (oi := ⟨some 96, _, _, _, _, _⟩) (v := ?_) rfl (by kernel_rfl) (by kernel_rfl) (by kernel_rfl) (fun _ _ _ h => h) (Or.inl ⟨by rfl, ?_⟩) (by assumption) ?_
        rotate_left
        · intro w hSw
          (try dsimp only at hSw)
          go_simp
          all_goals (with_reducible rfl)
        try simp only [Act.put, List.setIfInBounds_toArray, List.set_cons_zero, List.set_cons_succ]
        refine wpAnyH_take (i := 2) (oi := ⟨some 97, _, _, _, _, _⟩) (v := ?_) rfl (by kernel_rfl) (by kernel_rfl) (by kernel_rfl) (fun _ _ _ h => h) (Or.inl ⟨by rfl, ?_⟩) (by assumption) ?_
        rotate_left
        · intro w hSw
          (try dsimp only at hSw)
          go_simp
          all_goals (with_reducible rfl)
        try simp only [Act.put, List.setIfInBounds_toArray, List.set_cons_zero, List.set_cons_succ]
        refine wpAnyH_take (i := 3) (oi := ⟨some 98, _, _, _, _, _⟩) (v := ?_) rfl (by kernel_rfl) (by kernel_rfl) (by kernel_rfl) (fun _ _ _ h => h) (Or.inl ⟨by rfl, ?_⟩) (by assumption) ?_
        rotate_left
        · intro w hSw
          (try dsimp only at hSw)
          go_simp
          all_goals (with_reducible rfl)
        try simp only [Act.put, List.setIfInBounds_toArray, List.set_cons_zero, List.set_cons_succ]
        refine wpAnyH_take (i := 4) (oi := ⟨some 99, _, _, _, _, _⟩) (v := ?_) rfl (by kernel_rfl) (by kernel_rfl) (by kernel_rfl) (fun _ _ _ h => h) (Or.inl ⟨by rfl, ?_⟩) (by assumption) ?_
        rotate_left
        · intro w hSw
          (try dsimp only at hSw)
          go_simp
          all_goals (with_reducible rfl)
        try simp only [Act.put, List.setIfInBounds_toArray, List.set_cons_zero, List.set_cons_succ]
        refine wpAnyH_take (i := 5) (oi := ⟨some 100, _, _, _, _, _⟩) (v := ?_) rfl (by kernel_rfl) (by kernel_rfl) (by kernel_rfl) (fun _ _ _ h => h) (Or.inl ⟨by rfl, ?_⟩) (by assumption) ?_
        rotate_left
        · intro w hSw
          (try dsimp only at hSw)
          go_simp
          all_goals (with_reducible rfl)
        try simp only [Act.put, List.setIfInBounds_toArray, List.set_cons_zero, List.set_cons_succ]
        refine wpAnyH_take (i := 6) (oi := ⟨some 101, _, _, _, _, _⟩) (v := ?_) rfl (by kernel_rfl) (by kernel_rfl) (by kernel_rfl) (fun _ _ _ h => h) (Or.inl ⟨by rfl, ?_⟩) (by assumption) ?_
        rotate_left
        · intro w hSw
          (try dsimp only at hSw)
          go_simp
          all_goals (with_reducible rfl)
        try simp only [Act.put, List.setIfInBounds_toArray, List.set_cons_zero, List.set_cons_succ]
        refine wpAnyH_take (i := 8) (oi := ⟨some 103, _, _, _, _, _⟩) (v := ?_) rfl (by kernel_rfl) (by kernel_rfl) (by kernel_rfl) (fun _ _ _ h => h) (Or.inl ⟨by rfl, ?_⟩) (by assumption) ?_
        rotate_left
        · intro w hSw
          (try dsimp only at hSw)
          go_simp
          all_goals (with_reducible rfl)
        try simp only [Act.put, List.setIfInBounds_toArray, List.set_cons_zero, List.set_cons_succ]
        refine wpAnyH_take (i := 9) (oi := ⟨some 104, _, _, _, _, _⟩) (v := ?_) rfl (by kernel_rfl) (by kernel_rfl) (by kernel_rfl) (fun _ _ _ h => h) (Or.inl ⟨by rfl, ?_⟩) (by assumption) ?_
        rotate_left
        · intro w hSw
          (try dsimp only at hSw)
          go_simp
          all_goals (with_reducible rfl)
        try simp only [Act.put, List.setIfInBounds_toArray, List.set_cons_zero, List.set_cons_succ]
        refine wpAnyH_take (i := 10) (oi := ⟨some 105, _, _, _, _, _⟩) (v := ?_) rfl (by kernel_rfl) (by kernel_rfl) (by kernel_rfl) (fun _ _ _ h => h) (Or.inl ⟨by rfl, ?_⟩) (by assumption) ?_
        rotate_left
        · intro w hSw
          (try dsimp only at hSw)
          go_simp
          all_goals (with_reducible rfl)
        try simp only [Act.put, List.setIfInBounds_toArray, List.set_cons_zero, List.set_cons_succ]
        refine wpAnyH_ready (rs := [7]) (by kernel_rfl) (by simp) ?_
        refine AllReadyH.cons (o := ⟨some 102, _, _, _, _, _⟩) rfl (fun K hK => ?_) AllReadyH.nil
        go_simp
        refine hK.out _ _ (trivial) (fun _ => ?_)
        clear hK K
        try simp only [Act.put, List.setIfInBounds_toArray, List.set_cons_zero, List.set_cons_succ]
        refine wpAnyH_take (i := 11) (oi := ⟨some 106, _, _, _, _, _⟩) (v := ?_) rfl (by kernel_rfl) (by kernel_rfl) (by kernel_rfl) (fun _ _ _ h => h) (Or.inl ⟨by rfl, ?_⟩) (by assumption) ?_
        rotate_left
        · intro w hSw
          (try dsimp only at hSw)
          go_simp
          all_goals (with_reducible rfl)
        try simp only [Act.put, List.setIfInBounds_toArray, List.set_cons_zero, List.set_cons_succ]
        refine wpAnyH_take (i := 12) (oi := ⟨some 107, _, _, _, _, _⟩) (v := ?_) rfl (by kernel_rfl) (by kernel_rfl) (by kernel_rfl) (fun _ _ _ h => h) (Or.inl ⟨by rfl, ?_⟩) (by assumption) ?_
        rotate_left
        · intro w hSw
          (try dsimp only at hSw)
          go_simp
          all_goals (with_reducible rfl)
        try simp only [Act.put, List.setIfInBounds_toArray, List.set_cons_zero, List.set_cons_succ]
        refine wpAnyH_ready (rs := [13]) (by kernel_rfl) (by simp) ?_
        refine AllReadyH.cons (o := ⟨none, _, _, _, _, _⟩) rfl (fun K hK => ?_) AllReadyH.nil
        go_simp
        refine hK.out _ _ (trivial) (fun _ => ?_)
        clear hK K
        try simp only [Act.put]
        refine wpAnyH_done (by kernel_rfl) ?_ _
        refine NoPanic.normal ?_
        clear y0 y1 O9 hBd
        have B10 : Below w4.heap.size w4 (we.setCell ⟨g9, q, none⟩ (vu8 (y ^^^ BitVec.ofInt 8 ((2 : Int) ^ m)))) := B9.setCell (Nat.le_trans B8.size HG9.out) _
        have HRN := Lib.hid (HFL.out ((frameC more).take t) q (y ^^^ BitVec.ofInt 8 ((2 : Int) ^ m)) hkq (by rw [hyq]; exact hZb y))
        generalize we.setCell ⟨g9, q, none⟩ (vu8 (y ^^^ BitVec.ofInt 8 ((2 : Int) ^ m))) = wf at P9 B10 ⊢
        obtain ⟨Z, hZ⟩ : ∃ x, FB.set q (y ^^^ BitVec.ofInt 8 ((2 : Int) ^ m)) = x := ⟨_, rfl⟩
        have HZ := Lib.hid (show Z.length = NB by rw [← hZ, List.length_set, HNB.out.2])
        rw [hZ] at P9 HRN
        have S10 := (HB.out _ B10).2.1.front2 (Nat.le_of_lt HT.out) HLF.out
        clear hZ hyq d1 d2 i8 hkq hm7 B9 hZb
        go_wp2_with (first
          | (go_at_call 35; refine (topread_none w11 _ _ (Own.room O11) (by have := HNB.out; have := HLF.out; have := HZ.out; rw [List.length_append, List.length_take]; omega) HRN.out).mono ?_; rintro e w12 ⟨b12, rfl⟩)
          | (refine wpList_append_bytes (w := wf) (by rfl) _ _ (by rfl) w8.heap.size _ Z (by rfl) P9 _ ((frameC more).take t) (by rfl) S10 (by have := HNB.out; have := HLF.out; have := HZ.out; rw [List.length_take]; omega) (Nat.le_trans HG9.out (Nat.le_of_lt (row_lt P9 rfl))) ?_; intro v11 w11 O11 G11; have B11 := B10.grown G11 B10.size (fun i hi => Nat.le_trans B8.size (own_ge P9 hi)); obtain ⟨a11, n11, c11, h11⟩ := slice_any O11; subst h11)
          | fail)
        go_ret
        exact ⟨rfl, (HA.out _ (B11.trans (b12.mono B11.size))).2⟩

    · have i1 : (500 : Int) < (more.length : Int) := by omega
      go_enter Try.func10, Try.ntmps10
      go_wp2_with (first
        | (go_at_call 38; refine (HSC.out w1 B1).mono ?_; rintro e w2 ⟨rfl, hw2⟩; have B2 : Below W.heap.size W w2 := hw2 ▸ B1; clear hw2)
        | (go_at_call 9; refine HJK.out.mono ?_; rintro e w1 ⟨rfl, B1⟩)
        | fail)
      go_ret
      exact ⟨rfl, B2⟩
  · rw [decide_eq_false hs] at HSC
    go_enter Try.func10, Try.ntmps10
    go_wp2_with (first
      | (go_at_call 38; refine (HSC.out w1 B1).mono ?_; rintro e w2 ⟨rfl, hw2⟩; have B2 : Below W.heap.size W w2 := hw2 ▸ B1; clear hw2)
      | (go_at_call 9; refine HJK.out.mono ?_; rintro e w1 ⟨rfl, B1⟩)
      | fail)
    go_ret
    exact ⟨rfl, B2⟩

end Go.Proofs.Ytglcingpolpkdaa
