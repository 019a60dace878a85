/- file.crash. -/
import Derived.Test.YtmmlpbepaefamaaGreatDoorDSync
namespace Go.Proofs.YtmmlpbepaefamaaGreatDoor
open Go.RowKit

/-- How many operations stay. -/
def crashK (f : Dfile) (x : Int) : Nat := min x.toNat f.ops.length
/-- What a crash makes of a file: what is safe, and whether it is there still. -/
def crashS (f : Dfile) (x y : Int) : List (BitVec 8) := match f.ops[crashK f x]? with
  | some (.add b) => runOps f.safe (f.ops.take (crashK f x)) ++ b.take (min y.toNat b.length)
  | _ => runOps f.safe (f.ops.take (crashK f x))
def crashB (f : Dfile) (x y : Int) : Bool := !f.fresh || (decide (0 < crashK f x) || match f.ops[crashK f x]? with
  | some (.add b) => decide (0 < min y.toNat b.length)
  | _ => false)
theorem row_addr {w : World} {B n size c m : Nat} {e : TypeId} {a : Option Addr} {xs : List Value} (h : w.ownsRow B e size (.slice a m c) n xs) (hn : 0 < n) : a = some ⟨(a.getD ⟨0, 0, none⟩).block, 0, none⟩ := by
  rcases h.2 with ⟨_, h0⟩ | ⟨g, cap, cur, he, _⟩
  · omega
  · injection he with h1 h2 h3
    rw [h1]
    rfl
theorem row_cap {w : World} {B n size c : Nat} {e : TypeId} {a : Option Addr} {xs : List Value} (h : w.ownsRow B e size (.slice a n c) n xs) : n ≤ c := by
  rcases h.2 with ⟨he, h0⟩ | ⟨g, cap, cur, he, _, _, hle, _⟩
  · injection he with h1 h2 h3
    omega
  · injection he with h1 h2 h3
    omega

set_option maxRecDepth 100000 in
set_option maxHeartbeats 4000000 in
theorem fcrash_calls (w : World) (B fb : Nat) (own : Nat → Option Nat) (f : Dfile) (sv ov : Value) (l : List (Dop × Value)) (h : FileAt w B own fb f sv ov l) (hlen : f.ops.length ≤ 100000) (hB : B ≤ w.heap.size) (x y : Int) (hx : 0 ≤ x) (hy : 0 ≤ y) :
    Calls Tryz.prog 37 #[.pointer (some ⟨fb, 0, none⟩), .int .i64 x, .int .i64 y] w fun e w' => e = .returned (.bool (crashB f x y)) ∧ ∃ u, Work w w' B fb sv u (.slice none 0 0) false (crashS f x y) := by
  obtain ⟨oa, oc, rfl⟩ := h.slice
  have hcap := row_cap (show w.ownsRow B 123 3 (.slice oa f.ops.length oc) f.ops.length (l.flatMap opC) from h.count ▸ h.row)
  have c1 := h.box.cell 1
  obtain ⟨N, hN⟩ : ∃ n, f.ops.length = n := ⟨_, rfl⟩
  rw [hN] at h c1 hlen hcap
  obtain ⟨K, hK⟩ : ∃ k, crashK f x = k := ⟨_, rfl⟩
  have hKN : K = min x.toNat N := by rw [← hK, ← hN]; rfl
  have HF := Lib.hid h
  have HN := Lib.hid hN
  have HK := Lib.hid hK
  have HLB := Lib.hid hB
  clear h hN hK hB
  have m1 : (if (N : Int) < x then (N : Int) else x) = (K : Int) := by split <;> omega
  have HKN := Lib.hid hKN
  have hKN1 : K ≤ N := by omega
  clear hKN
  go_enter Tryz.func37, Tryz.ntmps37
  go_upto_block 0 with fail
  clear m1
  clear c1
  obtain ⟨sa, sn, sc, hsv⟩ := slice_any HF.out.safe
  have HSV := Lib.hid hsv
  clear hsv
  go_wp2
  go_loopw [1] (fun i wr => ∃ (k M C : Nat) (ua a : Option Addr) (un uc : Nat), k + M = N ∧ k ≤ K ∧ M ≤ C ∧ i = .int .i64 ((K - k : Nat) : Int) ∧ Work w wr B fb sv (.slice ua un uc) (.slice a M C) f.fresh (runOps f.safe (f.ops.take k)) ∧ (0 < M → ∃ g, oa = some ⟨g, 0, none⟩ ∧ a = some ⟨g, k * 3, none⟩)) (fun i _ => (intOf i).toNat)
  case atStart => exact ⟨0, N, oc, sa, oa, sn, sc, by omega, by omega, hcap, rfl, by rw [List.take_zero, ← HSV.out]; exact Work.start HF.out, fun h0 => ⟨_, row_addr HF.out.row (by rw [HF.out.count, HN.out]; omega), by rw [Nat.zero_mul]; exact row_addr HF.out.row (by rw [HF.out.count, HN.out]; omega)⟩⟩
  case round =>
    obtain ⟨k, M, C, ua, a, un, uc, hkM, hkK, hMC, rfl, hWk, hAd⟩ := hrel
    by_cases hlt : k < K
    · have hM0 : 0 < M := by omega
      obtain ⟨g, rfl, rfl⟩ := hAd hM0
      obtain ⟨p, hp⟩ : ∃ p, l[k]? = some p := ⟨_, List.getElem?_eq_getElem (by rw [HF.out.count, HN.out]; omega)⟩
      obtain ⟨g', he, hr, ho, hok⟩ := hWk.op HF.out hp
      obtain rfl : g = g' := by injection he with he; injection he
      have hgl : g < wr.heap.size := row_lt (hWk.ops HF.out).1 rfl
      have i1 : (0 : Int) < ((K - k : Nat) : Int) := by omega
      obtain ⟨R, hR⟩ : ∃ r, ((K - k : Nat) : Int) = r := ⟨_, rfl⟩
      have HRR := Lib.hid hR
      have hst := runOps_step f.safe f.ops k _ hok
      have hmx := (okOps_at f.ops f.safe k _ HF.out.okf.2 hok)
      obtain ⟨X, hX⟩ : ∃ x, runOps f.safe (f.ops.take k) = x := ⟨_, rfl⟩
      rw [hX] at hst hmx hWk
      have HST := Lib.hid (And.intro hst (And.intro hmx.2 hmx.1))
      clear hX hp hok hst hmx hAd he
      have c0 := hr 0
      have c1 := hr 1
      have c2 := hr 2
      obtain ⟨o, bv⟩ := p
      cases o with
      | add b =>
        have hbo : SliceIs wr bv b := Own.slice (show Own wr B bv b from ho)
        obtain ⟨ba, bc, hbv⟩ := slice_of_row (show Own wr B bv b from ho)
        clear ho
        subst hbv
        have c0 := c0 _ rfl
        have c1 := c1 _ rfl
        have c2 := c2 _ rfl
        simp only [Nat.add_zero] at c0
        clear hr
        go_wp2
        refine wp_region_noPanic ?_
        refine wp_region_held_drew (S := fun _ => True) (by kernel_rfl) (trivial) (fun hhS => ?_)
        have hTr : True := trivial
        have hBd : Below wr.heap.size wr wr.drew := (Below.refl _ _).drew
        replace hWk := hWk.on hBd
        have c0d := (hBd.cell (p := ⟨g, k * 3, none⟩) hgl).trans c0
        have c1d := (hBd.cell (p := ⟨g, k * 3 + 1, none⟩) hgl).trans c1
        have c2d := (hBd.cell (p := ⟨g, k * 3 + 2, none⟩) hgl).trans c2
        clear c0 c1 c2
        generalize wr.drew = wd at hWk hBd c0d c1d c2d ⊢
        have x0 := hWk.box.cell 0
        have x1 := hWk.box.cell 1
        have y0 := c0d
        have y1 := c1d
        have y2 := c2d
        clear c0d c1d c2d
        refine wpAnyH_take (i := 0) (oi := ⟨some 23, _, _, _, _, _⟩) (v := ?_) rfl (by kernel_rfl) (by kernel_rfl) (by kernel_rfl) (fun _ _ _ h => h) (Or.inl ⟨by rfl, ?_⟩) (by assumption) ?_
        rotate_left
        · intro w hSw
          (try dsimp only at hSw)
          go_simp
          all_goals (with_reducible rfl)
        try simp only [Act.put, List.setIfInBounds_toArray, List.set_cons_zero, List.set_cons_succ]
        refine wpAnyH_take (i := 1) (oi := ⟨some 24, _, _, _, _, _⟩) (v := ?_) rfl (by kernel_rfl) (by kernel_rfl) (by kernel_rfl) (fun _ _ _ h => h) (Or.inl ⟨by rfl, ?_⟩) (by assumption) ?_
        rotate_left
        · intro w hSw
          (try dsimp only at hSw)
          go_simp
          all_goals (with_reducible rfl)
        try simp only [Act.put, List.setIfInBounds_toArray, List.set_cons_zero, List.set_cons_succ]
        refine wpAnyH_take (i := 2) (oi := ⟨some 25, _, _, _, _, _⟩) (v := ?_) rfl (by kernel_rfl) (by kernel_rfl) (by kernel_rfl) (fun _ _ _ h => h) (Or.inl ⟨by rfl, ?_⟩) (by assumption) ?_
        rotate_left
        · intro w hSw
          (try dsimp only at hSw)
          go_simp
          all_goals (with_reducible rfl)
        try simp only [Act.put, List.setIfInBounds_toArray, List.set_cons_zero, List.set_cons_succ]
        refine wpAnyH_take (i := 3) (oi := ⟨some 26, _, _, _, _, _⟩) (v := ?_) rfl (by kernel_rfl) (by kernel_rfl) (by kernel_rfl) (fun _ _ _ h => h) (Or.inl ⟨by rfl, ?_⟩) (by assumption) ?_
        rotate_left
        · intro w hSw
          (try dsimp only at hSw)
          go_simp
          all_goals (with_reducible rfl)
        try simp only [Act.put, List.setIfInBounds_toArray, List.set_cons_zero, List.set_cons_succ]
        refine wpAnyH_take (i := 7) (oi := ⟨some 30, _, _, _, _, _⟩) (v := ?_) rfl (by kernel_rfl) (by kernel_rfl) (by kernel_rfl) (fun _ _ _ h => h) (Or.inl ⟨by rfl, ?_⟩) (by assumption) ?_
        rotate_left
        · intro w hSw
          (try dsimp only at hSw)
          go_simp
          all_goals (with_reducible rfl)
        try simp only [Act.put, List.setIfInBounds_toArray, List.set_cons_zero, List.set_cons_succ]
        refine wpAnyH_take (i := 8) (oi := ⟨some 31, _, _, _, _, _⟩) (v := ?_) rfl (by kernel_rfl) (by kernel_rfl) (by kernel_rfl) (fun _ _ _ h => h) (Or.inl ⟨by rfl, ?_⟩) (by assumption) ?_
        rotate_left
        · intro w hSw
          (try dsimp only at hSw)
          go_simp
          all_goals (with_reducible rfl)
        try simp only [Act.put, List.setIfInBounds_toArray, List.set_cons_zero, List.set_cons_succ]
        refine wpAnyH_take (i := 9) (oi := ⟨some 32, _, _, _, _, _⟩) (v := ?_) rfl (by kernel_rfl) (by kernel_rfl) (by kernel_rfl) (fun _ _ _ h => h) (Or.inl ⟨by rfl, ?_⟩) (by assumption) ?_
        rotate_left
        · intro w hSw
          (try dsimp only at hSw)
          go_simp
          all_goals (with_reducible rfl)
        try simp only [Act.put, List.setIfInBounds_toArray, List.set_cons_zero, List.set_cons_succ]
        refine wpAnyH_ready (rs := [4, 10]) (by kernel_rfl) (by simp) ?_
        refine AllReadyH.cons (o := ⟨some 27, _, _, _, _, _⟩) rfl (fun K hK => ?_) ?_
        · go_simp
          refine hK.out _ _ (trivial) (fun _ => ?_)
          clear hK K
          try simp only [Act.put, List.setIfInBounds_toArray, List.set_cons_zero, List.set_cons_succ]
          refine wpAnyH_take (i := 5) (oi := ⟨some 28, _, _, _, _, _⟩) (v := ?_) rfl (by kernel_rfl) (by kernel_rfl) (by kernel_rfl) (fun _ _ _ h => h) (Or.inl ⟨by rfl, ?_⟩) (by assumption) ?_
          rotate_left
          · intro w hSw
            (try dsimp only at hSw)
            go_simp
            all_goals (with_reducible rfl)
          try simp only [Act.put, List.setIfInBounds_toArray, List.set_cons_zero, List.set_cons_succ]
          refine wpAnyH_ready (rs := [6, 10]) (by kernel_rfl) (by simp) ?_
          refine AllReadyH.cons (o := ⟨some 29, _, _, _, _, _⟩) rfl (fun K hK => ?_) ?_
          · go_simp
            refine hK.out _ _ (trivial) (fun _ => ?_)
            clear hK K
            try simp only [Act.put, List.setIfInBounds_toArray, List.set_cons_zero, List.set_cons_succ]
            refine wpAnyH_ready (rs := [10]) (by kernel_rfl) (by simp) ?_
            refine AllReadyH.cons (o := ⟨some 33, _, _, _, _, _⟩) rfl (fun K hK => ?_) AllReadyH.nil
            go_simp
            refine hK.out _ _ (trivial) (fun _ => ?_)
            clear hK K
            try simp only [Act.put, List.setIfInBounds_toArray, List.set_cons_zero, List.set_cons_succ]
            refine wpAnyH_ready (rs := [11]) (by kernel_rfl) (by simp) ?_
            refine AllReadyH.cons (o := ⟨some 34, _, _, _, _, _⟩) rfl (fun K hK => ?_) AllReadyH.nil
            go_simp
            refine (after_add wd B _ _ X b hWk.safe (hbo.low hBd) (by have := HST.out.2.1; rw [HST.out.1] at this; simp [Dop.run] at this; omega) (Nat.le_trans HLB.out hWk.only.size)).mono ?_
            rintro e w4 ⟨_, rfl, ⟨a4, n4, c4, rfl⟩, hAf⟩
            have hW4 := hWk.after hAf
            have z0 := hW4.1.cell 0
            have z1 := hW4.1.free 0
            clear x0 x1 y0 y1 y2
            refine hK.out _ _ (trivial) (fun _ => ?_)
            clear hK K
            try simp only [Act.put, List.setIfInBounds_toArray, List.set_cons_zero, List.set_cons_succ]
            refine wpAnyH_take (i := 12) (oi := ⟨some 35, _, _, _, _, _⟩) (v := ?_) rfl (by kernel_rfl) (by kernel_rfl) (by kernel_rfl) (fun _ _ _ h => h) (Or.inl ⟨by rfl, ?_⟩) (by assumption) ?_
            rotate_left
            · intro w hSw
              (try dsimp only at hSw)
              go_simp
              all_goals (with_reducible rfl)
            try simp only [Act.put, List.setIfInBounds_toArray, List.set_cons_zero, List.set_cons_succ]
            refine wpAnyH_take (i := 13) (oi := ⟨some 36, _, _, _, _, _⟩) (v := ?_) rfl (by kernel_rfl) (by kernel_rfl) (by kernel_rfl) (fun _ _ _ h => h) (Or.inl ⟨by rfl, ?_⟩) (by assumption) ?_
            rotate_left
            · intro w hSw
              (try dsimp only at hSw)
              go_simp
              all_goals (with_reducible rfl)
            try simp only [Act.put, List.setIfInBounds_toArray, List.set_cons_zero, List.set_cons_succ]
            refine wpAnyH_ready (rs := [14]) (by kernel_rfl) (by simp) ?_
            refine AllReadyH.cons (o := ⟨none, _, _, _, _, _⟩) rfl (fun K hK => ?_) AllReadyH.nil
            go_simp
            refine hK.out _ _ (trivial) (fun _ => ?_)
            clear hK K
            try simp only [Act.put]
            refine wpAnyH_done (by kernel_rfl) ?_ _
            refine NoPanic.normal ?_
            replace hWk := hW4.2
            clear hW4 hAf z0 z1 hBd
            generalize w4.setCell ⟨fb, 0, none⟩ (.slice a4 n4 c4) = w5 at hWk ⊢
            have s1 := hWk.box.cell 1
            have s2 := hWk.box.free 1
            have t1 : (1 : Int) ≤ (M : Int) := by omega
            have t2 : (M : Int) ≤ (C : Int) := by omega
            have t3 : (0 : Int) ≤ 1 := by omega
            obtain ⟨A, hA⟩ : ∃ x, (if C = 1 then some (⟨g, k * 3, none⟩ : Addr) else some ⟨g, k * 3 + 3, none⟩) = x := ⟨_, rfl⟩
            have HAA := Lib.hid hA
            replace hWk := hWk.setOps (.slice A (M - 1) (C - 1))
            have HWK := Lib.hid hWk
            clear hWk
            go_wp2
            go_roundw
            case rel => exact ⟨k + 1, M - 1, C - 1, _, A, _, _, by omega, by omega, by omega, congrArg (Value.int .i64) (by have := HRR.out; omega), by rw [HST.out.1]; exact HWK.out, fun h0 => ⟨g, rfl, by rw [← HAA.out, if_neg (by omega)]; congr 2; omega⟩⟩
            case measure => (have := HRR.out); simp [intOf]; omega
          refine AllReadyH.cons (o := ⟨some 33, _, _, _, _, _⟩) rfl (fun K hK => ?_) AllReadyH.nil
          go_simp
          refine hK.out _ _ (trivial) (fun _ => ?_)
          clear hK K
          try simp only [Act.put, List.setIfInBounds_toArray, List.set_cons_zero, List.set_cons_succ]
          refine wpAnyH_ready (rs := [6]) (by kernel_rfl) (by simp) ?_
          refine AllReadyH.cons (o := ⟨some 29, _, _, _, _, _⟩) rfl (fun K hK => ?_) AllReadyH.nil
          go_simp
          refine hK.out _ _ (trivial) (fun _ => ?_)
          clear hK K
          try simp only [Act.put, List.setIfInBounds_toArray, List.set_cons_zero, List.set_cons_succ]
          refine wpAnyH_ready (rs := [11]) (by kernel_rfl) (by simp) ?_
          refine AllReadyH.cons (o := ⟨some 34, _, _, _, _, _⟩) rfl (fun K hK => ?_) AllReadyH.nil
          go_simp
          refine (after_add wd B _ _ X b hWk.safe (hbo.low hBd) (by have := HST.out.2.1; rw [HST.out.1] at this; simp [Dop.run] at this; omega) (Nat.le_trans HLB.out hWk.only.size)).mono ?_
          rintro e w4 ⟨_, rfl, ⟨a4, n4, c4, rfl⟩, hAf⟩
          have hW4 := hWk.after hAf
          have z0 := hW4.1.cell 0
          have z1 := hW4.1.free 0
          clear x0 x1 y0 y1 y2
          refine hK.out _ _ (trivial) (fun _ => ?_)
          clear hK K
          try simp only [Act.put, List.setIfInBounds_toArray, List.set_cons_zero, List.set_cons_succ]
          refine wpAnyH_take (i := 12) (oi := ⟨some 35, _, _, _, _, _⟩) (v := ?_) rfl (by kernel_rfl) (by kernel_rfl) (by kernel_rfl) (fun _ _ _ h => h) (Or.inl ⟨by rfl, ?_⟩) (by assumption) ?_
          rotate_left
          · intro w hSw
            (try dsimp only at hSw)
            go_simp
            all_goals (with_reducible rfl)
          try simp only [Act.put, List.setIfInBounds_toArray, List.set_cons_zero, List.set_cons_succ]
          refine wpAnyH_take (i := 13) (oi := ⟨some 36, _, _, _, _, _⟩) (v := ?_) rfl (by kernel_rfl) (by kernel_rfl) (by kernel_rfl) (fun _ _ _ h => h) (Or.inl ⟨by rfl, ?_⟩) (by assumption) ?_
          rotate_left
          · intro w hSw
            (try dsimp only at hSw)
            go_simp
            all_goals (with_reducible rfl)
          try simp only [Act.put, List.setIfInBounds_toArray, List.set_cons_zero, List.set_cons_succ]
          refine wpAnyH_ready (rs := [14]) (by kernel_rfl) (by simp) ?_
          refine AllReadyH.cons (o := ⟨none, _, _, _, _, _⟩) rfl (fun K hK => ?_) AllReadyH.nil
          go_simp
          refine hK.out _ _ (trivial) (fun _ => ?_)
          clear hK K
          try simp only [Act.put]
          refine wpAnyH_done (by kernel_rfl) ?_ _
          refine NoPanic.normal ?_
          replace hWk := hW4.2
          clear hW4 hAf z0 z1 hBd
          generalize w4.setCell ⟨fb, 0, none⟩ (.slice a4 n4 c4) = w5 at hWk ⊢
          have s1 := hWk.box.cell 1
          have s2 := hWk.box.free 1
          have t1 : (1 : Int) ≤ (M : Int) := by omega
          have t2 : (M : Int) ≤ (C : Int) := by omega
          have t3 : (0 : Int) ≤ 1 := by omega
          obtain ⟨A, hA⟩ : ∃ x, (if C = 1 then some (⟨g, k * 3, none⟩ : Addr) else some ⟨g, k * 3 + 3, none⟩) = x := ⟨_, rfl⟩
          have HAA := Lib.hid hA
          replace hWk := hWk.setOps (.slice A (M - 1) (C - 1))
          have HWK := Lib.hid hWk
          clear hWk
          go_wp2
          go_roundw
          case rel => exact ⟨k + 1, M - 1, C - 1, _, A, _, _, by omega, by omega, by omega, congrArg (Value.int .i64) (by have := HRR.out; omega), by rw [HST.out.1]; exact HWK.out, fun h0 => ⟨g, rfl, by rw [← HAA.out, if_neg (by omega)]; congr 2; omega⟩⟩
          case measure => (have := HRR.out); simp [intOf]; omega
        refine AllReadyH.cons (o := ⟨some 33, _, _, _, _, _⟩) rfl (fun K hK => ?_) AllReadyH.nil
        go_simp
        refine hK.out _ _ (trivial) (fun _ => ?_)
        clear hK K
        try simp only [Act.put, List.setIfInBounds_toArray, List.set_cons_zero, List.set_cons_succ]
        refine wpAnyH_ready (rs := [4]) (by kernel_rfl) (by simp) ?_
        refine AllReadyH.cons (o := ⟨some 27, _, _, _, _, _⟩) rfl (fun K hK => ?_) AllReadyH.nil
        go_simp
        refine hK.out _ _ (trivial) (fun _ => ?_)
        clear hK K
        try simp only [Act.put, List.setIfInBounds_toArray, List.set_cons_zero, List.set_cons_succ]
        refine wpAnyH_take (i := 5) (oi := ⟨some 28, _, _, _, _, _⟩) (v := ?_) rfl (by kernel_rfl) (by kernel_rfl) (by kernel_rfl) (fun _ _ _ h => h) (Or.inl ⟨by rfl, ?_⟩) (by assumption) ?_
        rotate_left
        · intro w hSw
          (try dsimp only at hSw)
          go_simp
          all_goals (with_reducible rfl)
        try simp only [Act.put, List.setIfInBounds_toArray, List.set_cons_zero, List.set_cons_succ]
        refine wpAnyH_ready (rs := [6]) (by kernel_rfl) (by simp) ?_
        refine AllReadyH.cons (o := ⟨some 29, _, _, _, _, _⟩) rfl (fun K hK => ?_) AllReadyH.nil
        go_simp
        refine hK.out _ _ (trivial) (fun _ => ?_)
        clear hK K
        try simp only [Act.put, List.setIfInBounds_toArray, List.set_cons_zero, List.set_cons_succ]
        refine wpAnyH_ready (rs := [11]) (by kernel_rfl) (by simp) ?_
        refine AllReadyH.cons (o := ⟨some 34, _, _, _, _, _⟩) rfl (fun K hK => ?_) AllReadyH.nil
        go_simp
        refine (after_add wd B _ _ X b hWk.safe (hbo.low hBd) (by have := HST.out.2.1; rw [HST.out.1] at this; simp [Dop.run] at this; omega) (Nat.le_trans HLB.out hWk.only.size)).mono ?_
        rintro e w4 ⟨_, rfl, ⟨a4, n4, c4, rfl⟩, hAf⟩
        have hW4 := hWk.after hAf
        have z0 := hW4.1.cell 0
        have z1 := hW4.1.free 0
        clear x0 x1 y0 y1 y2
        refine hK.out _ _ (trivial) (fun _ => ?_)
        clear hK K
        try simp only [Act.put, List.setIfInBounds_toArray, List.set_cons_zero, List.set_cons_succ]
        refine wpAnyH_take (i := 12) (oi := ⟨some 35, _, _, _, _, _⟩) (v := ?_) rfl (by kernel_rfl) (by kernel_rfl) (by kernel_rfl) (fun _ _ _ h => h) (Or.inl ⟨by rfl, ?_⟩) (by assumption) ?_
        rotate_left
        · intro w hSw
          (try dsimp only at hSw)
          go_simp
          all_goals (with_reducible rfl)
        try simp only [Act.put, List.setIfInBounds_toArray, List.set_cons_zero, List.set_cons_succ]
        refine wpAnyH_take (i := 13) (oi := ⟨some 36, _, _, _, _, _⟩) (v := ?_) rfl (by kernel_rfl) (by kernel_rfl) (by kernel_rfl) (fun _ _ _ h => h) (Or.inl ⟨by rfl, ?_⟩) (by assumption) ?_
        rotate_left
        · intro w hSw
          (try dsimp only at hSw)
          go_simp
          all_goals (with_reducible rfl)
        try simp only [Act.put, List.setIfInBounds_toArray, List.set_cons_zero, List.set_cons_succ]
        refine wpAnyH_ready (rs := [14]) (by kernel_rfl) (by simp) ?_
        refine AllReadyH.cons (o := ⟨none, _, _, _, _, _⟩) rfl (fun K hK => ?_) AllReadyH.nil
        go_simp
        refine hK.out _ _ (trivial) (fun _ => ?_)
        clear hK K
        try simp only [Act.put]
        refine wpAnyH_done (by kernel_rfl) ?_ _
        refine NoPanic.normal ?_
        replace hWk := hW4.2
        clear hW4 hAf z0 z1 hBd
        generalize w4.setCell ⟨fb, 0, none⟩ (.slice a4 n4 c4) = w5 at hWk ⊢
        have s1 := hWk.box.cell 1
        have s2 := hWk.box.free 1
        have t1 : (1 : Int) ≤ (M : Int) := by omega
        have t2 : (M : Int) ≤ (C : Int) := by omega
        have t3 : (0 : Int) ≤ 1 := by omega
        obtain ⟨A, hA⟩ : ∃ x, (if C = 1 then some (⟨g, k * 3, none⟩ : Addr) else some ⟨g, k * 3 + 3, none⟩) = x := ⟨_, rfl⟩
        have HAA := Lib.hid hA
        replace hWk := hWk.setOps (.slice A (M - 1) (C - 1))
        have HWK := Lib.hid hWk
        clear hWk
        go_wp2
        go_roundw
        case rel => exact ⟨k + 1, M - 1, C - 1, _, A, _, _, by omega, by omega, by omega, congrArg (Value.int .i64) (by have := HRR.out; omega), by rw [HST.out.1]; exact HWK.out, fun h0 => ⟨g, rfl, by rw [← HAA.out, if_neg (by omega)]; congr 2; omega⟩⟩
        case measure => (have := HRR.out); simp [intOf]; omega
      | cut n2 =>
        have hbv : bv = .slice Option.none 0 0 := ho
        subst hbv
        have c0 := c0 _ rfl
        have c1 := c1 _ rfl
        have c2 := c2 _ rfl
        simp only [Nat.add_zero] at c0
        clear hr ho
        go_wp2
        refine wp_region_noPanic ?_
        refine wp_region_held_drew (S := fun _ => True) (by kernel_rfl) (trivial) (fun hhS => ?_)
        have hTr : True := trivial
        have hBd : Below wr.heap.size wr wr.drew := (Below.refl _ _).drew
        replace hWk := hWk.on hBd
        have c0d := (hBd.cell (p := ⟨g, k * 3, none⟩) hgl).trans c0
        have c1d := (hBd.cell (p := ⟨g, k * 3 + 1, none⟩) hgl).trans c1
        have c2d := (hBd.cell (p := ⟨g, k * 3 + 2, none⟩) hgl).trans c2
        clear c0 c1 c2
        generalize wr.drew = wd at hWk hBd c0d c1d c2d ⊢
        have x0 := hWk.box.cell 0
        have x1 := hWk.box.cell 1
        have y0 := c0d
        have y1 := c1d
        have y2 := c2d
        clear c0d c1d c2d
        refine wpAnyH_take (i := 0) (oi := ⟨some 23, _, _, _, _, _⟩) (v := ?_) rfl (by kernel_rfl) (by kernel_rfl) (by kernel_rfl) (fun _ _ _ h => h) (Or.inl ⟨by rfl, ?_⟩) (by assumption) ?_
        rotate_left
        · intro w hSw
          (try dsimp only at hSw)
          go_simp
          all_goals (with_reducible rfl)
        try simp only [Act.put, List.setIfInBounds_toArray, List.set_cons_zero, List.set_cons_succ]
        refine wpAnyH_take (i := 1) (oi := ⟨some 24, _, _, _, _, _⟩) (v := ?_) rfl (by kernel_rfl) (by kernel_rfl) (by kernel_rfl) (fun _ _ _ h => h) (Or.inl ⟨by rfl, ?_⟩) (by assumption) ?_
        rotate_left
        · intro w hSw
          (try dsimp only at hSw)
          go_simp
          all_goals (with_reducible rfl)
        try simp only [Act.put, List.setIfInBounds_toArray, List.set_cons_zero, List.set_cons_succ]
        refine wpAnyH_take (i := 2) (oi := ⟨some 25, _, _, _, _, _⟩) (v := ?_) rfl (by kernel_rfl) (by kernel_rfl) (by kernel_rfl) (fun _ _ _ h => h) (Or.inl ⟨by rfl, ?_⟩) (by assumption) ?_
        rotate_left
        · intro w hSw
          (try dsimp only at hSw)
          go_simp
          all_goals (with_reducible rfl)
        try simp only [Act.put, List.setIfInBounds_toArray, List.set_cons_zero, List.set_cons_succ]
        refine wpAnyH_take (i := 3) (oi := ⟨some 26, _, _, _, _, _⟩) (v := ?_) rfl (by kernel_rfl) (by kernel_rfl) (by kernel_rfl) (fun _ _ _ h => h) (Or.inl ⟨by rfl, ?_⟩) (by assumption) ?_
        rotate_left
        · intro w hSw
          (try dsimp only at hSw)
          go_simp
          all_goals (with_reducible rfl)
        try simp only [Act.put, List.setIfInBounds_toArray, List.set_cons_zero, List.set_cons_succ]
        refine wpAnyH_take (i := 7) (oi := ⟨some 30, _, _, _, _, _⟩) (v := ?_) rfl (by kernel_rfl) (by kernel_rfl) (by kernel_rfl) (fun _ _ _ h => h) (Or.inl ⟨by rfl, ?_⟩) (by assumption) ?_
        rotate_left
        · intro w hSw
          (try dsimp only at hSw)
          go_simp
          all_goals (with_reducible rfl)
        try simp only [Act.put, List.setIfInBounds_toArray, List.set_cons_zero, List.set_cons_succ]
        refine wpAnyH_take (i := 8) (oi := ⟨some 31, _, _, _, _, _⟩) (v := ?_) rfl (by kernel_rfl) (by kernel_rfl) (by kernel_rfl) (fun _ _ _ h => h) (Or.inl ⟨by rfl, ?_⟩) (by assumption) ?_
        rotate_left
        · intro w hSw
          (try dsimp only at hSw)
          go_simp
          all_goals (with_reducible rfl)
        try simp only [Act.put, List.setIfInBounds_toArray, List.set_cons_zero, List.set_cons_succ]
        refine wpAnyH_take (i := 9) (oi := ⟨some 32, _, _, _, _, _⟩) (v := ?_) rfl (by kernel_rfl) (by kernel_rfl) (by kernel_rfl) (fun _ _ _ h => h) (Or.inl ⟨by rfl, ?_⟩) (by assumption) ?_
        rotate_left
        · intro w hSw
          (try dsimp only at hSw)
          go_simp
          all_goals (with_reducible rfl)
        try simp only [Act.put, List.setIfInBounds_toArray, List.set_cons_zero, List.set_cons_succ]
        refine wpAnyH_ready (rs := [4, 10]) (by kernel_rfl) (by simp) ?_
        refine AllReadyH.cons (o := ⟨some 27, _, _, _, _, _⟩) rfl (fun K hK => ?_) ?_
        · go_simp
          refine hK.out _ _ (trivial) (fun _ => ?_)
          clear hK K
          try simp only [Act.put, List.setIfInBounds_toArray, List.set_cons_zero, List.set_cons_succ]
          refine wpAnyH_take (i := 5) (oi := ⟨some 28, _, _, _, _, _⟩) (v := ?_) rfl (by kernel_rfl) (by kernel_rfl) (by kernel_rfl) (fun _ _ _ h => h) (Or.inl ⟨by rfl, ?_⟩) (by assumption) ?_
          rotate_left
          · intro w hSw
            (try dsimp only at hSw)
            go_simp
            all_goals (with_reducible rfl)
          try simp only [Act.put, List.setIfInBounds_toArray, List.set_cons_zero, List.set_cons_succ]
          refine wpAnyH_ready (rs := [6, 10]) (by kernel_rfl) (by simp) ?_
          refine AllReadyH.cons (o := ⟨some 29, _, _, _, _, _⟩) rfl (fun K hK => ?_) ?_
          · go_simp
            refine hK.out _ _ (trivial) (fun _ => ?_)
            clear hK K
            try simp only [Act.put, List.setIfInBounds_toArray, List.set_cons_zero, List.set_cons_succ]
            refine wpAnyH_ready (rs := [10]) (by kernel_rfl) (by simp) ?_
            refine AllReadyH.cons (o := ⟨some 33, _, _, _, _, _⟩) rfl (fun K hK => ?_) AllReadyH.nil
            go_simp
            refine hK.out _ _ (trivial) (fun _ => ?_)
            clear hK K
            try simp only [Act.put, List.setIfInBounds_toArray, List.set_cons_zero, List.set_cons_succ]
            refine wpAnyH_ready (rs := [11]) (by kernel_rfl) (by simp) ?_
            refine AllReadyH.cons (o := ⟨some 34, _, _, _, _, _⟩) rfl (fun K hK => ?_) AllReadyH.nil
            go_simp
            refine (after_cut wd B n2 _ X hWk.safe (HST.out.2.2 n2 rfl)).mono ?_
            rintro e w4 ⟨_, rfl, ⟨a4, n4, c4, rfl⟩, hAf⟩
            have hW4 := hWk.after hAf
            have z0 := hW4.1.cell 0
            have z1 := hW4.1.free 0
            clear x0 x1 y0 y1 y2
            refine hK.out _ _ (trivial) (fun _ => ?_)
            clear hK K
            try simp only [Act.put, List.setIfInBounds_toArray, List.set_cons_zero, List.set_cons_succ]
            refine wpAnyH_take (i := 12) (oi := ⟨some 35, _, _, _, _, _⟩) (v := ?_) rfl (by kernel_rfl) (by kernel_rfl) (by kernel_rfl) (fun _ _ _ h => h) (Or.inl ⟨by rfl, ?_⟩) (by assumption) ?_
            rotate_left
            · intro w hSw
              (try dsimp only at hSw)
              go_simp
              all_goals (with_reducible rfl)
            try simp only [Act.put, List.setIfInBounds_toArray, List.set_cons_zero, List.set_cons_succ]
            refine wpAnyH_take (i := 13) (oi := ⟨some 36, _, _, _, _, _⟩) (v := ?_) rfl (by kernel_rfl) (by kernel_rfl) (by kernel_rfl) (fun _ _ _ h => h) (Or.inl ⟨by rfl, ?_⟩) (by assumption) ?_
            rotate_left
            · intro w hSw
              (try dsimp only at hSw)
              go_simp
              all_goals (with_reducible rfl)
            try simp only [Act.put, List.setIfInBounds_toArray, List.set_cons_zero, List.set_cons_succ]
            refine wpAnyH_ready (rs := [14]) (by kernel_rfl) (by simp) ?_
            refine AllReadyH.cons (o := ⟨none, _, _, _, _, _⟩) rfl (fun K hK => ?_) AllReadyH.nil
            go_simp
            refine hK.out _ _ (trivial) (fun _ => ?_)
            clear hK K
            try simp only [Act.put]
            refine wpAnyH_done (by kernel_rfl) ?_ _
            refine NoPanic.normal ?_
            replace hWk := hW4.2
            clear hW4 hAf z0 z1 hBd
            generalize w4.setCell ⟨fb, 0, none⟩ (.slice a4 n4 c4) = w5 at hWk ⊢
            have s1 := hWk.box.cell 1
            have s2 := hWk.box.free 1
            have t1 : (1 : Int) ≤ (M : Int) := by omega
            have t2 : (M : Int) ≤ (C : Int) := by omega
            have t3 : (0 : Int) ≤ 1 := by omega
            obtain ⟨A, hA⟩ : ∃ x, (if C = 1 then some (⟨g, k * 3, none⟩ : Addr) else some ⟨g, k * 3 + 3, none⟩) = x := ⟨_, rfl⟩
            have HAA := Lib.hid hA
            replace hWk := hWk.setOps (.slice A (M - 1) (C - 1))
            have HWK := Lib.hid hWk
            clear hWk
            go_wp2
            go_roundw
            case rel => exact ⟨k + 1, M - 1, C - 1, _, A, _, _, by omega, by omega, by omega, congrArg (Value.int .i64) (by have := HRR.out; omega), by rw [HST.out.1]; exact HWK.out, fun h0 => ⟨g, rfl, by rw [← HAA.out, if_neg (by omega)]; congr 2; omega⟩⟩
            case measure => (have := HRR.out); simp [intOf]; omega
          refine AllReadyH.cons (o := ⟨some 33, _, _, _, _, _⟩) rfl (fun K hK => ?_) AllReadyH.nil
          go_simp
          refine hK.out _ _ (trivial) (fun _ => ?_)
          clear hK K
          try simp only [Act.put, List.setIfInBounds_toArray, List.set_cons_zero, List.set_cons_succ]
          refine wpAnyH_ready (rs := [6]) (by kernel_rfl) (by simp) ?_
          refine AllReadyH.cons (o := ⟨some 29, _, _, _, _, _⟩) rfl (fun K hK => ?_) AllReadyH.nil
          go_simp
          refine hK.out _ _ (trivial) (fun _ => ?_)
          clear hK K
          try simp only [Act.put, List.setIfInBounds_toArray, List.set_cons_zero, List.set_cons_succ]
          refine wpAnyH_ready (rs := [11]) (by kernel_rfl) (by simp) ?_
          refine AllReadyH.cons (o := ⟨some 34, _, _, _, _, _⟩) rfl (fun K hK => ?_) AllReadyH.nil
          go_simp
          refine (after_cut wd B n2 _ X hWk.safe (HST.out.2.2 n2 rfl)).mono ?_
          rintro e w4 ⟨_, rfl, ⟨a4, n4, c4, rfl⟩, hAf⟩
          have hW4 := hWk.after hAf
          have z0 := hW4.1.cell 0
          have z1 := hW4.1.free 0
          clear x0 x1 y0 y1 y2
          refine hK.out _ _ (trivial) (fun _ => ?_)
          clear hK K
          try simp only [Act.put, List.setIfInBounds_toArray, List.set_cons_zero, List.set_cons_succ]
          refine wpAnyH_take (i := 12) (oi := ⟨some 35, _, _, _, _, _⟩) (v := ?_) rfl (by kernel_rfl) (by kernel_rfl) (by kernel_rfl) (fun _ _ _ h => h) (Or.inl ⟨by rfl, ?_⟩) (by assumption) ?_
          rotate_left
          · intro w hSw
            (try dsimp only at hSw)
            go_simp
            all_goals (with_reducible rfl)
          try simp only [Act.put, List.setIfInBounds_toArray, List.set_cons_zero, List.set_cons_succ]
          refine wpAnyH_take (i := 13) (oi := ⟨some 36, _, _, _, _, _⟩) (v := ?_) rfl (by kernel_rfl) (by kernel_rfl) (by kernel_rfl) (fun _ _ _ h => h) (Or.inl ⟨by rfl, ?_⟩) (by assumption) ?_
          rotate_left
          · intro w hSw
            (try dsimp only at hSw)
            go_simp
            all_goals (with_reducible rfl)
          try simp only [Act.put, List.setIfInBounds_toArray, List.set_cons_zero, List.set_cons_succ]
          refine wpAnyH_ready (rs := [14]) (by kernel_rfl) (by simp) ?_
          refine AllReadyH.cons (o := ⟨none, _, _, _, _, _⟩) rfl (fun K hK => ?_) AllReadyH.nil
          go_simp
          refine hK.out _ _ (trivial) (fun _ => ?_)
          clear hK K
          try simp only [Act.put]
          refine wpAnyH_done (by kernel_rfl) ?_ _
          refine NoPanic.normal ?_
          replace hWk := hW4.2
          clear hW4 hAf z0 z1 hBd
          generalize w4.setCell ⟨fb, 0, none⟩ (.slice a4 n4 c4) = w5 at hWk ⊢
          have s1 := hWk.box.cell 1
          have s2 := hWk.box.free 1
          have t1 : (1 : Int) ≤ (M : Int) := by omega
          have t2 : (M : Int) ≤ (C : Int) := by omega
          have t3 : (0 : Int) ≤ 1 := by omega
          obtain ⟨A, hA⟩ : ∃ x, (if C = 1 then some (⟨g, k * 3, none⟩ : Addr) else some ⟨g, k * 3 + 3, none⟩) = x := ⟨_, rfl⟩
          have HAA := Lib.hid hA
          replace hWk := hWk.setOps (.slice A (M - 1) (C - 1))
          have HWK := Lib.hid hWk
          clear hWk
          go_wp2
          go_roundw
          case rel => exact ⟨k + 1, M - 1, C - 1, _, A, _, _, by omega, by omega, by omega, congrArg (Value.int .i64) (by have := HRR.out; omega), by rw [HST.out.1]; exact HWK.out, fun h0 => ⟨g, rfl, by rw [← HAA.out, if_neg (by omega)]; congr 2; omega⟩⟩
          case measure => (have := HRR.out); simp [intOf]; omega
        refine AllReadyH.cons (o := ⟨some 33, _, _, _, _, _⟩) rfl (fun K hK => ?_) AllReadyH.nil
        go_simp
        refine hK.out _ _ (trivial) (fun _ => ?_)
        clear hK K
        try simp only [Act.put, List.setIfInBounds_toArray, List.set_cons_zero, List.set_cons_succ]
        refine wpAnyH_ready (rs := [4]) (by kernel_rfl) (by simp) ?_
        refine AllReadyH.cons (o := ⟨some 27, _, _, _, _, _⟩) rfl (fun K hK => ?_) AllReadyH.nil
        go_simp
        refine hK.out _ _ (trivial) (fun _ => ?_)
        clear hK K
        try simp only [Act.put, List.setIfInBounds_toArray, List.set_cons_zero, List.set_cons_succ]
        refine wpAnyH_take (i := 5) (oi := ⟨some 28, _, _, _, _, _⟩) (v := ?_) rfl (by kernel_rfl) (by kernel_rfl) (by kernel_rfl) (fun _ _ _ h => h) (Or.inl ⟨by rfl, ?_⟩) (by assumption) ?_
        rotate_left
        · intro w hSw
          (try dsimp only at hSw)
          go_simp
          all_goals (with_reducible rfl)
        try simp only [Act.put, List.setIfInBounds_toArray, List.set_cons_zero, List.set_cons_succ]
        refine wpAnyH_ready (rs := [6]) (by kernel_rfl) (by simp) ?_
        refine AllReadyH.cons (o := ⟨some 29, _, _, _, _, _⟩) rfl (fun K hK => ?_) AllReadyH.nil
        go_simp
        refine hK.out _ _ (trivial) (fun _ => ?_)
        clear hK K
        try simp only [Act.put, List.setIfInBounds_toArray, List.set_cons_zero, List.set_cons_succ]
        refine wpAnyH_ready (rs := [11]) (by kernel_rfl) (by simp) ?_
        refine AllReadyH.cons (o := ⟨some 34, _, _, _, _, _⟩) rfl (fun K hK => ?_) AllReadyH.nil
        go_simp
        refine (after_cut wd B n2 _ X hWk.safe (HST.out.2.2 n2 rfl)).mono ?_
        rintro e w4 ⟨_, rfl, ⟨a4, n4, c4, rfl⟩, hAf⟩
        have hW4 := hWk.after hAf
        have z0 := hW4.1.cell 0
        have z1 := hW4.1.free 0
        clear x0 x1 y0 y1 y2
        refine hK.out _ _ (trivial) (fun _ => ?_)
        clear hK K
        try simp only [Act.put, List.setIfInBounds_toArray, List.set_cons_zero, List.set_cons_succ]
        refine wpAnyH_take (i := 12) (oi := ⟨some 35, _, _, _, _, _⟩) (v := ?_) rfl (by kernel_rfl) (by kernel_rfl) (by kernel_rfl) (fun _ _ _ h => h) (Or.inl ⟨by rfl, ?_⟩) (by assumption) ?_
        rotate_left
        · intro w hSw
          (try dsimp only at hSw)
          go_simp
          all_goals (with_reducible rfl)
        try simp only [Act.put, List.setIfInBounds_toArray, List.set_cons_zero, List.set_cons_succ]
        refine wpAnyH_take (i := 13) (oi := ⟨some 36, _, _, _, _, _⟩) (v := ?_) rfl (by kernel_rfl) (by kernel_rfl) (by kernel_rfl) (fun _ _ _ h => h) (Or.inl ⟨by rfl, ?_⟩) (by assumption) ?_
        rotate_left
        · intro w hSw
          (try dsimp only at hSw)
          go_simp
          all_goals (with_reducible rfl)
        try simp only [Act.put, List.setIfInBounds_toArray, List.set_cons_zero, List.set_cons_succ]
        refine wpAnyH_ready (rs := [14]) (by kernel_rfl) (by simp) ?_
        refine AllReadyH.cons (o := ⟨none, _, _, _, _, _⟩) rfl (fun K hK => ?_) AllReadyH.nil
        go_simp
        refine hK.out _ _ (trivial) (fun _ => ?_)
        clear hK K
        try simp only [Act.put]
        refine wpAnyH_done (by kernel_rfl) ?_ _
        refine NoPanic.normal ?_
        replace hWk := hW4.2
        clear hW4 hAf z0 z1 hBd
        generalize w4.setCell ⟨fb, 0, none⟩ (.slice a4 n4 c4) = w5 at hWk ⊢
        have s1 := hWk.box.cell 1
        have s2 := hWk.box.free 1
        have t1 : (1 : Int) ≤ (M : Int) := by omega
        have t2 : (M : Int) ≤ (C : Int) := by omega
        have t3 : (0 : Int) ≤ 1 := by omega
        obtain ⟨A, hA⟩ : ∃ x, (if C = 1 then some (⟨g, k * 3, none⟩ : Addr) else some ⟨g, k * 3 + 3, none⟩) = x := ⟨_, rfl⟩
        have HAA := Lib.hid hA
        replace hWk := hWk.setOps (.slice A (M - 1) (C - 1))
        have HWK := Lib.hid hWk
        clear hWk
        go_wp2
        go_roundw
        case rel => exact ⟨k + 1, M - 1, C - 1, _, A, _, _, by omega, by omega, by omega, congrArg (Value.int .i64) (by have := HRR.out; omega), by rw [HST.out.1]; exact HWK.out, fun h0 => ⟨g, rfl, by rw [← HAA.out, if_neg (by omega)]; congr 2; omega⟩⟩
        case measure => (have := HRR.out); simp [intOf]; omega
    · obtain rfl : k = K := by omega
      have i1 : ¬ (0 : Int) < ((k - k : Nat) : Int) := by omega
      have HC := Lib.hid (And.intro HK.out (And.intro HN.out HKN.out))
      clear HK HKN hlt
      by_cases hM : M = 0
      · have i2 : ¬ (0 : Int) < (M : Int) := by omega
        have HFIN := Lib.hid (show crashS f x y = runOps f.safe (f.ops.take k) ∧ crashB f x y = (!f.fresh || decide (0 < k)) from by
          have hn : f.ops[k]? = none := List.getElem?_eq_none (by rw [HN.out]; omega)
          unfold crashS crashB
          rw [HC.out.1, hn, Bool.or_false]
          exact ⟨rfl, rfl⟩)
        have q1 := hWk.box.cell 1
        have q2 := hWk.box.free 1
        have h1 := hWk.setOps (.slice none 0 0)
        have q3 := h1.box.cell 2
        have q4 := h1.box.free 2
        have h2 := h1.setFresh false
        have HW2 := Lib.hid h2
        clear h1 h2 hWk
        go_wp2
        all_goals (go_ret; exact ⟨by rw [HFIN.out.2] <;> (first | rfl | (simp [*] <;> omega)), _, by rw [HFIN.out.1]; exact HW2.out⟩)
      · have hM0 : 0 < M := by omega
        have i2 : (0 : Int) < (M : Int) := by omega
        obtain ⟨g, rfl, rfl⟩ := hAd hM0
        obtain ⟨p, hp⟩ : ∃ p, l[k]? = some p := ⟨_, List.getElem?_eq_getElem (by rw [HF.out.count, HN.out]; omega)⟩
        obtain ⟨g', he, hr, ho, hok⟩ := hWk.op HF.out hp
        obtain rfl : g = g' := by injection he with he; injection he
        have hgl : g < wr.heap.size := row_lt (hWk.ops HF.out).1 rfl
        have c0 := hr 0
        have c1 := hr 1
        have c2 := hr 2
        have s1 := hWk.box.cell 1
        clear hAd he hp
        obtain ⟨o, bv⟩ := p
        cases o with
        | cut n2 =>
          have c0 := c0 _ rfl
          simp only [Nat.add_zero] at c0
          clear hr ho c1 c2
          have HFIN := Lib.hid (show crashS f x y = runOps f.safe (f.ops.take k) ∧ crashB f x y = (!f.fresh || decide (0 < k)) from by
            have hn : f.ops[k]? = some (.cut n2) := hok
            unfold crashS crashB
            rw [HC.out.1, hn, Bool.or_false]
            exact ⟨rfl, rfl⟩)
          have q1 := hWk.box.cell 1
          have q2 := hWk.box.free 1
          have h1 := hWk.setOps (.slice none 0 0)
          have q3 := h1.box.cell 2
          have q4 := h1.box.free 2
          have h2 := h1.setFresh false
          have HW2 := Lib.hid h2
          clear h1 h2 hWk
          go_wp2
          all_goals (go_ret; exact ⟨by rw [HFIN.out.2] <;> (first | rfl | (simp [*] <;> omega)), _, by rw [HFIN.out.1]; exact HW2.out⟩)
        | add b =>
          have hbo : Own wr B bv b := ho
          obtain ⟨ba, bc, hbv⟩ := slice_of_row hbo
          clear ho
          subst hbv
          have c0 := c0 _ rfl
          have c2 := c2 _ rfl
          simp only [Nat.add_zero] at c0
          obtain ⟨nb, hnb⟩ : ∃ n, min y.toNat b.length = n := ⟨_, rfl⟩
          have HFIN := Lib.hid (show crashS f x y = runOps f.safe (f.ops.take k) ++ b.take nb ∧ crashB f x y = (!f.fresh || (decide (0 < k) || decide (0 < nb))) from by
            have hn : f.ops[k]? = some (.add b) := hok
            unfold crashS crashB
            rw [HC.out.1, hn]
            simp only []
            rw [hnb]
            exact ⟨rfl, rfl⟩)
          have m1 : (if (b.length : Int) < y then (b.length : Int) else y) = (nb : Int) := by split <;> omega
          have j1 : (nb : Int) ≤ (bc : Int) := by have := row_cap hbo; omega
          have j2 : (0 : Int) ≤ (nb : Int) := by omega
          have hnl : nb ≤ b.length := by omega
          have HL := Lib.hid (show (runOps f.safe (f.ops.take k)).length ≤ 1048576 ∧ b.length ≤ 1048576 from by
            have h1 := okOps_at f.ops f.safe k _ HF.out.okf.2 hok
            have h2 := okOps_len _ _ HF.out.okf.1 (okOps_take f.ops f.safe k HF.out.okf.2)
            have h3 := runOps_step f.safe f.ops k _ hok
            have h4 := h1.2
            rw [h3] at h4
            simp only [Dop.run, List.length_append] at h4
            exact ⟨h2, by omega⟩)
          have HNB := Lib.hid hnb
          clear hr hok c1 hnb
          obtain ⟨X, hX⟩ : ∃ x, runOps f.safe (f.ops.take k) = x := ⟨_, rfl⟩
          rw [hX] at hWk HFIN HL
          clear hX
          go_wp2
          clear m1 i2 s1
          refine wp_region_noPanic ?_
          refine wp_region_held_drew (S := fun _ => True) (by kernel_rfl) (trivial) (fun hhS => ?_)
          have hTr : True := trivial
          have hBd : Below wr.heap.size wr wr.drew := (Below.refl _ _).drew
          replace hWk := hWk.on hBd
          have y2 := (hBd.cell (p := ⟨g, k * 3 + 2, none⟩) hgl).trans c2
          replace hbo := row_low hbo hBd
          have S13 := (Own.front hbo hnl).slice
          clear c0 c2
          generalize wr.drew = wd at hWk hBd y2 hbo S13 ⊢
          have x0 := hWk.box.cell 0
          have x1 := hWk.box.cell 1
          refine wpAnyH_take (i := 0) (oi := ⟨some 71, _, _, _, _, _⟩) (v := ?_) rfl (by kernel_rfl) (by kernel_rfl) (by kernel_rfl) (fun _ _ _ h => h) (Or.inl ⟨by rfl, ?_⟩) (by assumption) ?_
          rotate_left
          · intro w hSw
            (try dsimp only at hSw)
            go_simp
            all_goals (with_reducible rfl)
          try simp only [Act.put, List.setIfInBounds_toArray, List.set_cons_zero, List.set_cons_succ]
          refine wpAnyH_take (i := 1) (oi := ⟨some 72, _, _, _, _, _⟩) (v := ?_) rfl (by kernel_rfl) (by kernel_rfl) (by kernel_rfl) (fun _ _ _ h => h) (Or.inl ⟨by rfl, ?_⟩) (by assumption) ?_
          rotate_left
          · intro w hSw
            (try dsimp only at hSw)
            go_simp
            all_goals (with_reducible rfl)
          try simp only [Act.put, List.setIfInBounds_toArray, List.set_cons_zero, List.set_cons_succ]
          refine wpAnyH_take (i := 2) (oi := ⟨some 73, _, _, _, _, _⟩) (v := ?_) rfl (by kernel_rfl) (by kernel_rfl) (by kernel_rfl) (fun _ _ _ h => h) (Or.inl ⟨by rfl, ?_⟩) (by assumption) ?_
          rotate_left
          · intro w hSw
            (try dsimp only at hSw)
            go_simp
            all_goals (with_reducible rfl)
          try simp only [Act.put, List.setIfInBounds_toArray, List.set_cons_zero, List.set_cons_succ]
          refine wpAnyH_take (i := 3) (oi := ⟨some 74, _, _, _, _, _⟩) (v := ?_) rfl (by kernel_rfl) (by kernel_rfl) (by kernel_rfl) (fun _ _ _ h => h) (Or.inl ⟨by rfl, ?_⟩) (by assumption) ?_
          rotate_left
          · intro w hSw
            (try dsimp only at hSw)
            go_simp
            all_goals (with_reducible rfl)
          try simp only [Act.put, List.setIfInBounds_toArray, List.set_cons_zero, List.set_cons_succ]
          refine wpAnyH_take (i := 5) (oi := ⟨some 76, _, _, _, _, _⟩) (v := ?_) rfl (by kernel_rfl) (by kernel_rfl) (by kernel_rfl) (fun _ _ _ h => h) (Or.inl ⟨by rfl, ?_⟩) (by assumption) ?_
          rotate_left
          · intro w hSw
            (try dsimp only at hSw)
            go_simp
            all_goals (with_reducible rfl)
          try simp only [Act.put, List.setIfInBounds_toArray, List.set_cons_zero, List.set_cons_succ]
          refine wpAnyH_take (i := 6) (oi := ⟨some 77, _, _, _, _, _⟩) (v := ?_) rfl (by kernel_rfl) (by kernel_rfl) (by kernel_rfl) (fun _ _ _ h => h) (Or.inl ⟨by rfl, ?_⟩) (by assumption) ?_
          rotate_left
          · intro w hSw
            (try dsimp only at hSw)
            go_simp
            all_goals (with_reducible rfl)
          try simp only [Act.put, List.setIfInBounds_toArray, List.set_cons_zero, List.set_cons_succ]
          refine wpAnyH_take (i := 7) (oi := ⟨some 78, _, _, _, _, _⟩) (v := ?_) rfl (by kernel_rfl) (by kernel_rfl) (by kernel_rfl) (fun _ _ _ h => h) (Or.inl ⟨by rfl, ?_⟩) (by assumption) ?_
          rotate_left
          · intro w hSw
            (try dsimp only at hSw)
            go_simp
            all_goals (with_reducible rfl)
          try simp only [Act.put, List.setIfInBounds_toArray, List.set_cons_zero, List.set_cons_succ]
          refine wpAnyH_take (i := 12) (oi := ⟨some 83, _, _, _, _, _⟩) (v := ?_) rfl (by kernel_rfl) (by kernel_rfl) (by kernel_rfl) (fun _ _ _ h => h) (Or.inl ⟨by rfl, ?_⟩) (by assumption) ?_
          rotate_left
          · intro w hSw
            (try dsimp only at hSw)
            go_simp
            all_goals (with_reducible rfl)
          try simp only [Act.put, List.setIfInBounds_toArray, List.set_cons_zero, List.set_cons_succ]
          refine wpAnyH_ready (rs := [4, 8]) (by kernel_rfl) (by simp) ?_
          refine AllReadyH.cons (o := ⟨some 75, _, _, _, _, _⟩) rfl (fun K hK => ?_) ?_
          · go_simp
            refine hK.out _ _ (trivial) (fun _ => ?_)
            clear hK K
            try simp only [Act.put, List.setIfInBounds_toArray, List.set_cons_zero, List.set_cons_succ]
            refine wpAnyH_ready (rs := [8]) (by kernel_rfl) (by simp) ?_
            refine AllReadyH.cons (o := ⟨some 79, _, _, _, _, _⟩) rfl (fun K hK => ?_) AllReadyH.nil
            go_simp
            refine hK.out _ _ (trivial) (fun _ => ?_)
            clear hK K
            try simp only [Act.put, List.setIfInBounds_toArray, List.set_cons_zero, List.set_cons_succ]
            refine wpAnyH_take (i := 9) (oi := ⟨some 80, _, _, _, _, _⟩) (v := ?_) rfl (by kernel_rfl) (by kernel_rfl) (by kernel_rfl) (fun _ _ _ h => h) (Or.inl ⟨by rfl, ?_⟩) (by assumption) ?_
            rotate_left
            · intro w hSw
              (try dsimp only at hSw)
              go_simp
              all_goals (with_reducible rfl)
            try simp only [Act.put, List.setIfInBounds_toArray, List.set_cons_zero, List.set_cons_succ]
            refine wpAnyH_take (i := 10) (oi := ⟨some 81, _, _, _, _, _⟩) (v := ?_) rfl (by kernel_rfl) (by kernel_rfl) (by kernel_rfl) (fun _ _ _ h => h) (Or.inl ⟨by rfl, ?_⟩) (by assumption) ?_
            rotate_left
            · intro w hSw
              (try dsimp only at hSw)
              go_simp
              all_goals (with_reducible rfl)
            try simp only [Act.put, List.setIfInBounds_toArray, List.set_cons_zero, List.set_cons_succ]
            refine wpAnyH_ready (rs := [11]) (by kernel_rfl) (by simp) ?_
            refine AllReadyH.cons (o := ⟨some 82, _, _, _, _, _⟩) rfl (fun K hK => ?_) AllReadyH.nil
            go_simp
            refine hK.out _ _ (trivial) (fun _ => ?_)
            clear hK K
            try simp only [Act.put, List.setIfInBounds_toArray, List.set_cons_zero, List.set_cons_succ]
            refine wpAnyH_take (i := 13) (oi := ⟨some 84, _, _, _, _, _⟩) (v := ?_) rfl (by kernel_rfl) (by kernel_rfl) (by kernel_rfl) (fun _ _ _ h => h) (Or.inl ⟨by rfl, ?_⟩) (by assumption) ?_
            rotate_left
            · intro w hSw
              (try dsimp only at hSw)
              go_simp
              all_goals (with_reducible rfl)
            try simp only [Act.put, List.setIfInBounds_toArray, List.set_cons_zero, List.set_cons_succ]
            refine wpAnyH_ready (rs := [14]) (by kernel_rfl) (by simp) ?_
            refine AllReadyH.cons (o := ⟨some 85, _, _, _, _, _⟩) rfl (fun K hK => ?_) AllReadyH.nil
            rw [if_pos (by rfl)]
            refine wp_append_bytesM _ _ (by rfl) B _ X (by rfl) hWk.safe _ (b.take nb) (by rfl) S13 (by have := HL.out; rw [List.length_take]; omega) (Nat.le_trans HLB.out hWk.only.size) ?_
            intro v4 w4 O4 G4 M4
            obtain ⟨a4, n4, c4, h4⟩ := slice_any O4
            subst h4
            have hW4 := hWk.after (v' := .slice a4 n4 c4) ⟨O4, Only.of_grown G4, fun g2 hg2 => M4.elim (fun e => .inl (e ▸ hg2)) (fun ⟨g3, e, hg3⟩ => .inr (by rw [e] at hg2; injection hg2 with hg2; omega))⟩
            have z0 := hW4.1.cell 0
            have z1 := hW4.1.free 0
            clear x0 x1 y2
            refine hK.out _ _ (trivial) (fun _ => ?_)
            clear hK K
            try simp only [Act.put, List.setIfInBounds_toArray, List.set_cons_zero, List.set_cons_succ]
            refine wpAnyH_take (i := 15) (oi := ⟨some 86, _, _, _, _, _⟩) (v := ?_) rfl (by kernel_rfl) (by kernel_rfl) (by kernel_rfl) (fun _ _ _ h => h) (Or.inl ⟨by rfl, ?_⟩) (by assumption) ?_
            rotate_left
            · intro w hSw
              (try dsimp only at hSw)
              go_simp
              all_goals (with_reducible rfl)
            try simp only [Act.put, List.setIfInBounds_toArray, List.set_cons_zero, List.set_cons_succ]
            refine wpAnyH_take (i := 16) (oi := ⟨some 87, _, _, _, _, _⟩) (v := ?_) rfl (by kernel_rfl) (by kernel_rfl) (by kernel_rfl) (fun _ _ _ h => h) (Or.inl ⟨by rfl, ?_⟩) (by assumption) ?_
            rotate_left
            · intro w hSw
              (try dsimp only at hSw)
              go_simp
              all_goals (with_reducible rfl)
            try simp only [Act.put, List.setIfInBounds_toArray, List.set_cons_zero, List.set_cons_succ]
            refine wpAnyH_ready (rs := [17]) (by kernel_rfl) (by simp) ?_
            refine AllReadyH.cons (o := ⟨none, _, _, _, _, _⟩) rfl (fun K hK => ?_) AllReadyH.nil
            go_simp
            refine hK.out _ _ (trivial) (fun _ => ?_)
            clear hK K
            try simp only [Act.put]
            refine wpAnyH_done (by kernel_rfl) ?_ _
            refine NoPanic.normal ?_
            replace hWk := hW4.2
            clear hW4 z0 z1 O4 G4 M4 S13 hbo hBd
            generalize w4.setCell ⟨fb, 0, none⟩ (.slice a4 n4 c4) = w5 at hWk ⊢
            have q1 := hWk.box.cell 1
            have q2 := hWk.box.free 1
            have h1 := hWk.setOps (.slice none 0 0)
            have q3 := h1.box.cell 2
            have q4 := h1.box.free 2
            have h2 := h1.setFresh false
            have HW2 := Lib.hid h2
            clear h1 h2 hWk
            go_wp2
            all_goals (go_ret; exact ⟨by rw [HFIN.out.2] <;> (first | rfl | (simp [*] <;> omega)), _, by rw [HFIN.out.1]; exact HW2.out⟩)
          refine AllReadyH.cons (o := ⟨some 79, _, _, _, _, _⟩) rfl (fun K hK => ?_) AllReadyH.nil
          go_simp
          refine hK.out _ _ (trivial) (fun _ => ?_)
          clear hK K
          try simp only [Act.put, List.setIfInBounds_toArray, List.set_cons_zero, List.set_cons_succ]
          refine wpAnyH_take (i := 9) (oi := ⟨some 80, _, _, _, _, _⟩) (v := ?_) rfl (by kernel_rfl) (by kernel_rfl) (by kernel_rfl) (fun _ _ _ h => h) (Or.inl ⟨by rfl, ?_⟩) (by assumption) ?_
          rotate_left
          · intro w hSw
            (try dsimp only at hSw)
            go_simp
            all_goals (with_reducible rfl)
          try simp only [Act.put, List.setIfInBounds_toArray, List.set_cons_zero, List.set_cons_succ]
          refine wpAnyH_take (i := 10) (oi := ⟨some 81, _, _, _, _, _⟩) (v := ?_) rfl (by kernel_rfl) (by kernel_rfl) (by kernel_rfl) (fun _ _ _ h => h) (Or.inl ⟨by rfl, ?_⟩) (by assumption) ?_
          rotate_left
          · intro w hSw
            (try dsimp only at hSw)
            go_simp
            all_goals (with_reducible rfl)
          try simp only [Act.put, List.setIfInBounds_toArray, List.set_cons_zero, List.set_cons_succ]
          refine wpAnyH_ready (rs := [4, 11]) (by kernel_rfl) (by simp) ?_
          refine AllReadyH.cons (o := ⟨some 75, _, _, _, _, _⟩) rfl (fun K hK => ?_) ?_
          · go_simp
            refine hK.out _ _ (trivial) (fun _ => ?_)
            clear hK K
            try simp only [Act.put, List.setIfInBounds_toArray, List.set_cons_zero, List.set_cons_succ]
            refine wpAnyH_ready (rs := [11]) (by kernel_rfl) (by simp) ?_
            refine AllReadyH.cons (o := ⟨some 82, _, _, _, _, _⟩) rfl (fun K hK => ?_) AllReadyH.nil
            go_simp
            refine hK.out _ _ (trivial) (fun _ => ?_)
            clear hK K
            try simp only [Act.put, List.setIfInBounds_toArray, List.set_cons_zero, List.set_cons_succ]
            refine wpAnyH_take (i := 13) (oi := ⟨some 84, _, _, _, _, _⟩) (v := ?_) rfl (by kernel_rfl) (by kernel_rfl) (by kernel_rfl) (fun _ _ _ h => h) (Or.inl ⟨by rfl, ?_⟩) (by assumption) ?_
            rotate_left
            · intro w hSw
              (try dsimp only at hSw)
              go_simp
              all_goals (with_reducible rfl)
            try simp only [Act.put, List.setIfInBounds_toArray, List.set_cons_zero, List.set_cons_succ]
            refine wpAnyH_ready (rs := [14]) (by kernel_rfl) (by simp) ?_
            refine AllReadyH.cons (o := ⟨some 85, _, _, _, _, _⟩) rfl (fun K hK => ?_) AllReadyH.nil
            rw [if_pos (by rfl)]
            refine wp_append_bytesM _ _ (by rfl) B _ X (by rfl) hWk.safe _ (b.take nb) (by rfl) S13 (by have := HL.out; rw [List.length_take]; omega) (Nat.le_trans HLB.out hWk.only.size) ?_
            intro v4 w4 O4 G4 M4
            obtain ⟨a4, n4, c4, h4⟩ := slice_any O4
            subst h4
            have hW4 := hWk.after (v' := .slice a4 n4 c4) ⟨O4, Only.of_grown G4, fun g2 hg2 => M4.elim (fun e => .inl (e ▸ hg2)) (fun ⟨g3, e, hg3⟩ => .inr (by rw [e] at hg2; injection hg2 with hg2; omega))⟩
            have z0 := hW4.1.cell 0
            have z1 := hW4.1.free 0
            clear x0 x1 y2
            refine hK.out _ _ (trivial) (fun _ => ?_)
            clear hK K
            try simp only [Act.put, List.setIfInBounds_toArray, List.set_cons_zero, List.set_cons_succ]
            refine wpAnyH_take (i := 15) (oi := ⟨some 86, _, _, _, _, _⟩) (v := ?_) rfl (by kernel_rfl) (by kernel_rfl) (by kernel_rfl) (fun _ _ _ h => h) (Or.inl ⟨by rfl, ?_⟩) (by assumption) ?_
            rotate_left
            · intro w hSw
              (try dsimp only at hSw)
              go_simp
              all_goals (with_reducible rfl)
            try simp only [Act.put, List.setIfInBounds_toArray, List.set_cons_zero, List.set_cons_succ]
            refine wpAnyH_take (i := 16) (oi := ⟨some 87, _, _, _, _, _⟩) (v := ?_) rfl (by kernel_rfl) (by kernel_rfl) (by kernel_rfl) (fun _ _ _ h => h) (Or.inl ⟨by rfl, ?_⟩) (by assumption) ?_
            rotate_left
            · intro w hSw
              (try dsimp only at hSw)
              go_simp
              all_goals (with_reducible rfl)
            try simp only [Act.put, List.setIfInBounds_toArray, List.set_cons_zero, List.set_cons_succ]
            refine wpAnyH_ready (rs := [17]) (by kernel_rfl) (by simp) ?_
            refine AllReadyH.cons (o := ⟨none, _, _, _, _, _⟩) rfl (fun K hK => ?_) AllReadyH.nil
            go_simp
            refine hK.out _ _ (trivial) (fun _ => ?_)
            clear hK K
            try simp only [Act.put]
            refine wpAnyH_done (by kernel_rfl) ?_ _
            refine NoPanic.normal ?_
            replace hWk := hW4.2
            clear hW4 z0 z1 O4 G4 M4 S13 hbo hBd
            generalize w4.setCell ⟨fb, 0, none⟩ (.slice a4 n4 c4) = w5 at hWk ⊢
            have q1 := hWk.box.cell 1
            have q2 := hWk.box.free 1
            have h1 := hWk.setOps (.slice none 0 0)
            have q3 := h1.box.cell 2
            have q4 := h1.box.free 2
            have h2 := h1.setFresh false
            have HW2 := Lib.hid h2
            clear h1 h2 hWk
            go_wp2
            all_goals (go_ret; exact ⟨by rw [HFIN.out.2] <;> (first | rfl | (simp [*] <;> omega)), _, by rw [HFIN.out.1]; exact HW2.out⟩)
          refine AllReadyH.cons (o := ⟨some 82, _, _, _, _, _⟩) rfl (fun K hK => ?_) AllReadyH.nil
          go_simp
          refine hK.out _ _ (trivial) (fun _ => ?_)
          clear hK K
          try simp only [Act.put, List.setIfInBounds_toArray, List.set_cons_zero, List.set_cons_succ]
          refine wpAnyH_take (i := 13) (oi := ⟨some 84, _, _, _, _, _⟩) (v := ?_) rfl (by kernel_rfl) (by kernel_rfl) (by kernel_rfl) (fun _ _ _ h => h) (Or.inl ⟨by rfl, ?_⟩) (by assumption) ?_
          rotate_left
          · intro w hSw
            (try dsimp only at hSw)
            go_simp
            all_goals (with_reducible rfl)
          try simp only [Act.put, List.setIfInBounds_toArray, List.set_cons_zero, List.set_cons_succ]
          refine wpAnyH_ready (rs := [4]) (by kernel_rfl) (by simp) ?_
          refine AllReadyH.cons (o := ⟨some 75, _, _, _, _, _⟩) rfl (fun K hK => ?_) AllReadyH.nil
          go_simp
          refine hK.out _ _ (trivial) (fun _ => ?_)
          clear hK K
          try simp only [Act.put, List.setIfInBounds_toArray, List.set_cons_zero, List.set_cons_succ]
          refine wpAnyH_ready (rs := [14]) (by kernel_rfl) (by simp) ?_
          refine AllReadyH.cons (o := ⟨some 85, _, _, _, _, _⟩) rfl (fun K hK => ?_) AllReadyH.nil
          rw [if_pos (by rfl)]
          refine wp_append_bytesM _ _ (by rfl) B _ X (by rfl) hWk.safe _ (b.take nb) (by rfl) S13 (by have := HL.out; rw [List.length_take]; omega) (Nat.le_trans HLB.out hWk.only.size) ?_
          intro v4 w4 O4 G4 M4
          obtain ⟨a4, n4, c4, h4⟩ := slice_any O4
          subst h4
          have hW4 := hWk.after (v' := .slice a4 n4 c4) ⟨O4, Only.of_grown G4, fun g2 hg2 => M4.elim (fun e => .inl (e ▸ hg2)) (fun ⟨g3, e, hg3⟩ => .inr (by rw [e] at hg2; injection hg2 with hg2; omega))⟩
          have z0 := hW4.1.cell 0
          have z1 := hW4.1.free 0
          clear x0 x1 y2
          refine hK.out _ _ (trivial) (fun _ => ?_)
          clear hK K
          try simp only [Act.put, List.setIfInBounds_toArray, List.set_cons_zero, List.set_cons_succ]
          refine wpAnyH_take (i := 15) (oi := ⟨some 86, _, _, _, _, _⟩) (v := ?_) rfl (by kernel_rfl) (by kernel_rfl) (by kernel_rfl) (fun _ _ _ h => h) (Or.inl ⟨by rfl, ?_⟩) (by assumption) ?_
          rotate_left
          · intro w hSw
            (try dsimp only at hSw)
            go_simp
            all_goals (with_reducible rfl)
          try simp only [Act.put, List.setIfInBounds_toArray, List.set_cons_zero, List.set_cons_succ]
          refine wpAnyH_take (i := 16) (oi := ⟨some 87, _, _, _, _, _⟩) (v := ?_) rfl (by kernel_rfl) (by kernel_rfl) (by kernel_rfl) (fun _ _ _ h => h) (Or.inl ⟨by rfl, ?_⟩) (by assumption) ?_
          rotate_left
          · intro w hSw
            (try dsimp only at hSw)
            go_simp
            all_goals (with_reducible rfl)
          try simp only [Act.put, List.setIfInBounds_toArray, List.set_cons_zero, List.set_cons_succ]
          refine wpAnyH_ready (rs := [17]) (by kernel_rfl) (by simp) ?_
          refine AllReadyH.cons (o := ⟨none, _, _, _, _, _⟩) rfl (fun K hK => ?_) AllReadyH.nil
          go_simp
          refine hK.out _ _ (trivial) (fun _ => ?_)
          clear hK K
          try simp only [Act.put]
          refine wpAnyH_done (by kernel_rfl) ?_ _
          refine NoPanic.normal ?_
          replace hWk := hW4.2
          clear hW4 z0 z1 O4 G4 M4 S13 hbo hBd
          generalize w4.setCell ⟨fb, 0, none⟩ (.slice a4 n4 c4) = w5 at hWk ⊢
          have q1 := hWk.box.cell 1
          have q2 := hWk.box.free 1
          have h1 := hWk.setOps (.slice none 0 0)
          have q3 := h1.box.cell 2
          have q4 := h1.box.free 2
          have h2 := h1.setFresh false
          have HW2 := Lib.hid h2
          clear h1 h2 hWk
          go_wp2
          all_goals (go_ret; exact ⟨by rw [HFIN.out.2] <;> (first | rfl | (simp [*] <;> omega)), _, by rw [HFIN.out.1]; exact HW2.out⟩)

end Go.Proofs.YtmmlpbepaefamaaGreatDoor
