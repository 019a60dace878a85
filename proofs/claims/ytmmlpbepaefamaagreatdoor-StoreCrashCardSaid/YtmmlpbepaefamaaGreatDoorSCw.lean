/- StoreCrash's walk. -/
import Derived.Test.YtmmlpbepaefamaaGreatDoorFrame
import Derived.Test.YtmmlpbepaefamaaGreatDoorSCr
import Derived.Test.YtmmlpbepaefamaaGreatDoorSKcX2
namespace Go.Proofs.YtmmlpbepaefamaaGreatDoor
open Go.RowKit Go.MapKept

set_option maxRecDepth 100000 in
set_option maxHeartbeats 8000000 in
theorem scr_long_a (W : World) (p0 p1 p2 : Option Addr) (R c0 N c1 K c2 : Nat) (hR : 60 < R) : Answers Tryz.prog 4 #[.slice p0 R c0, .slice p1 N c1, .slice p2 K c2] W := by
  have HKN := Lib.hid (sknown_calls W)
  have i1 : (60 : Int) < (R : Int) := by omega
  unfold Answers
  go_enter Tryz.func4, Tryz.ntmps4
  go_wp2_with (first
    | (go_at_call 3; refine HKN.out.mono ?_; rintro e w1 ⟨rfl, hb1⟩)
    | fail)
  go_ret
  exact ⟨rfl, hb1⟩

set_option maxRecDepth 100000 in
set_option maxHeartbeats 8000000 in
theorem scr_long_b (W : World) (p0 p1 p2 : Option Addr) (R c0 N c1 K c2 : Nat) (hR : R ≤ 60) (hN : 30 < N) : Answers Tryz.prog 4 #[.slice p0 R c0, .slice p1 N c1, .slice p2 K c2] W := by
  have HKN := Lib.hid (sknown_calls W)
  have i1 : ¬ (60 : Int) < (R : Int) := by omega
  have i2 : (30 : Int) < (N : Int) := by omega
  unfold Answers
  go_enter Tryz.func4, Tryz.ntmps4
  go_wp2_with (first
    | (go_at_call 3; refine HKN.out.mono ?_; rintro e w1 ⟨rfl, hb1⟩)
    | fail)
  go_ret
  exact ⟨rfl, hb1⟩

set_option maxRecDepth 100000 in
set_option maxHeartbeats 8000000 in
theorem scr_long_c (W : World) (p0 p1 p2 : Option Addr) (R c0 N c1 K c2 : Nat) (hR : R ≤ 60) (hN : N ≤ 30) (hK : 20 < K) : Answers Tryz.prog 4 #[.slice p0 R c0, .slice p1 N c1, .slice p2 K c2] W := by
  have HKN := Lib.hid (sknown_calls W)
  have i1 : ¬ (60 : Int) < (R : Int) := by omega
  have i2 : ¬ (30 : Int) < (N : Int) := by omega
  have i3 : (20 : Int) < (K : Int) := by omega
  unfold Answers
  go_enter Tryz.func4, Tryz.ntmps4
  go_wp2_with (first
    | (go_at_call 3; refine HKN.out.mono ?_; rintro e w1 ⟨rfl, hb1⟩)
    | fail)
  go_ret
  exact ⟨rfl, hb1⟩

theorem cell_lt {w : World} {g i : Nat} {v : Value} (h : w.cell? ⟨g, i, none⟩ = some v) : g < w.heap.size := by
  rcases Nat.lt_or_ge g w.heap.size with h1 | h1
  · exact h1
  · simp [World.cell?, Array.getElem?_eq_none h1] at h
theorem step_at {w : World} {p : Option Addr} {n c k : Nat} {l : List StepA} {x : StepA} (h : StepsAt w (.slice p n c) l) (hx : l[k]? = some x) : ∃ g o kd, p = some ⟨g, o, none⟩ ∧ w.cell? ⟨g, o + k * 2, none⟩ = some (.int .u8 kd) ∧ w.cell? ⟨g, o + k * 2 + 1, none⟩ = some x.lv ∧ ChgsAt w x.lv x.L := by
  obtain ⟨g, o, hp, _, hr, hc⟩ := h.get hx
  obtain ⟨kd, hkd⟩ : ∃ kd : Int, vu8 x.kind = .int .u8 kd := ⟨_, rfl⟩
  exact ⟨g, o, kd, hp, hkd ▸ hr 0 _ rfl, hr 1 _ rfl, hc⟩
theorem chg_at {w : World} {p : Option Addr} {n c k : Nat} {l : List Chg} {x : Chg} (h : ChgsAt w (.slice p n c) l) (hx : l[k]? = some x) : ∃ g o a q, p = some ⟨g, o, none⟩ ∧ w.cell? ⟨g, o + k * 3, none⟩ = some (.string x.key) ∧ w.cell? ⟨g, o + k * 3 + 1, none⟩ = some (.slice a x.val.length q) := by
  obtain ⟨g, o, hp, _, hr, hs⟩ := h.get hx
  obtain ⟨a, q, he⟩ := bytes_len hs
  exact ⟨g, o, a, q, hp, hr 0 _ rfl, by rw [← he]; exact hr 1 _ rfl⟩

set_option maxRecDepth 100000 in
set_option maxHeartbeats 8000000 in
theorem scr_main (W : World) (p0 p1 p2 : Option Addr) (R c0 N c1 K c2 : Nat) (rl : List Int) (l : List StepA) (kp : List Kp) (h0 : NumsAt W (.slice p0 R c0) rl) (h1 : StepsAt W (.slice p1 N c1) l) (h2 : KeepsAt W (.slice p2 K c2) kp) (hR : rl.length = R) (hN : l.length = N) (hK : kp.length = K) (hR60 : R ≤ 60) (hN30 : N ≤ 30) (hK20 : K ≤ 20) (hf : ∀ a ∈ l, fitL a.L) : Answers Tryz.prog 4 #[.slice p0 R c0, .slice p1 N c1, .slice p2 K c2] W := by
  have HKN := Lib.hid (sknown_calls W)
  have i1 : ¬ (60 : Int) < (R : Int) := by omega
  have i2 : ¬ (30 : Int) < (N : Int) := by omega
  have i3 : ¬ (20 : Int) < (K : Int) := by omega
  have H0 := Lib.hid h0
  have H1 := Lib.hid h1
  have H2 := Lib.hid h2
  have HLN := Lib.hid (And.intro hR (And.intro hN (And.intro hK (And.intro hR60 (And.intro hN30 hK20)))))
  have HFT := Lib.hid hf
  clear h0 h1 h2 hR hN hK hf
  unfold Answers
  go_enter Tryz.func4, Tryz.ntmps4
  go_upto_region 5 with (first
    | (go_at_call 5; refine (kd_new w1 _ rl (H0W.out) (by have := HLN.out; omega)).mono ?_; rintro e w2 ⟨d, S2, ks, rfl, hD2, hks⟩)
    | (go_at_call 3; refine HKN.out.mono ?_; rintro e w1 ⟨rfl, hb1⟩; have HB1 := Lib.hid hb1; clear hb1; have H0W := Lib.hid (show NumsAt w1 (.slice p0 R c0) rl from H0.out.low HB1.out))
    | fail)
  clear HKN H0 H0W
  have H1W := Lib.hid (H1.out.low HB1.out)
  have H2W := Lib.hid (H2.out.low HB1.out)
  have HKS := Lib.hid hks
  have HOP := Lib.hid (live_open hD2 okS.nil (by omega) (by omega) (g := 0) (by omega) (fun L h => (by cases h)) (by simp) (ds_crash_nil (A := []) DS.new List.nodup_nil))
  clear hD2 hks H1 H2
  go_upto_region 8 with (first
    | (go_at_call 6; refine HOP.out.mono ?_; rintro r w3 ⟨s, T3, rfl, hL3, -⟩)
    | fail)
  replace hL3 : Live w1 w3 d s 0 0 T3 [] ks kv0 0 := hL3.cap [] (by simp) (fun _ => rfl)
  clear HOP
  have hb34 : Below w3.heap.size w3 (w3.alloc (.cells #[.slice none 0 0] 36)) := (Below.refl _ _).alloc (Nat.le_refl _) _
  have HC4 := Lib.hid (show CInv w1 (w3.alloc (.cells #[.slice none 0 0] 36)) d s ks (.slice (some ⟨w3.heap.size, 0, none⟩) 1 1) 0 0 1 from ⟨0, 0, T3, [], kv0, 0, [kv0], [[]], hL3.low hb34, SInv.new, okS.nil, Nat.le_refl _, Nat.le_refl _, AO.one w3 _ _ hL3.below.size (fun i e => (hL3.old e).1), rfl, rfl, fun j H P h1 h2 => (by
    have hj : j = 0 := by have := (List.getElem?_eq_some_iff.1 h1).1; simpa using this
    subst hj
    obtain rfl : kv0 = H := by simpa using h1
    obtain rfl : [] = P := by simpa using h2
    exact IsP.none), fun P hP => (by
    obtain rfl := List.mem_singleton.1 hP
    exact Nat.zero_le _)⟩)
  clear hL3 hb34
  go_upto_block 0 with fail
  generalize w3.alloc (.cells #[.slice none 0 0] 36) = w4 at HC4 ⊢
  obtain ⟨va, hva⟩ : ∃ va, Value.slice (some ⟨w3.heap.size, 0, none⟩) 1 1 = va := ⟨_, rfl⟩
  rw [hva] at HC4
  simp only [hva]
  clear hva
  go_wp2
  go_loopw [12, 13, 14] (fun v sf i wr => ∃ (k safe m : Nat), k ≤ N ∧ i = .int .i64 k ∧ sf = .int .i64 safe ∧ CInv w1 wr d s ks v k safe m ∧ 1 ≤ m ∧ m ≤ k + 1) (fun _ _ i _ => N - (intOf i).toNat)
  case atStart => exact ⟨0, 0, 1, by omega, rfl, rfl, HC4.out, by omega, by omega⟩
  case round =>
    clear HC4
    obtain ⟨k, safe, m, hk, rfl, rfl, hC, hm1, hmk⟩ := hrel
    obtain ⟨ra, rq, rfl⟩ := hC.row
    by_cases hlt : k < N
    · have i4 : (k : Int) < (N : Int) := by omega
      have i5 : 0 ≤ (k : Int) ∧ (k : Int) < (N : Int) := by omega
      have s2 : IntKind.i64.wrap ((k : Int) + 1) = (k : Int) + 1 := IntWalk.i64_in _ (by omega)
      have s3 : IntKind.i64.wrap ((m : Int) - 1) = ((m - 1 : Nat) : Int) := by rw [IntWalk.i64_in _ (by omega)]; omega
      obtain ⟨x, hx⟩ : ∃ x, l[k]? = some x := ⟨_, List.getElem?_eq_getElem (by have := HLN.out.2.1; omega)⟩
      obtain ⟨g, og, kd, rfl, x0, x1, hCh⟩ := step_at (H1W.out.low hC.below) hx
      have hfx := HFT.out x (List.mem_of_getElem? hx)
      obtain ⟨kind, lv, L⟩ := x
      obtain ⟨ca, cq, hlv⟩ := hCh.len
      dsimp only at hlv hCh hfx x1
      subst hlv
      obtain ⟨M, hM⟩ : ∃ M, L.length = M := ⟨_, rfl⟩
      rw [hM] at x1 hCh
      have HM := Lib.hid hM
      have HC := Lib.hid hC
      have HX := Lib.hid (And.intro x0 x1)
      have HG := Lib.hid (show g < wr.heap.size from by
        rcases Nat.lt_or_ge g wr.heap.size with h | h
        · exact h
        · simp [World.cell?, Array.getElem?_eq_none h] at x0)
      have HCH := Lib.hid hCh
      have HFX := Lib.hid hfx
      have HMK := Lib.hid (And.intro hm1 hmk)
      clear hx hC hfx hM hCh x0 hm1 hmk
      by_cases h10 : M ≤ 10
      · have i6 : ¬ (10 : Int) < (M : Int) := by omega
        go_upto_block 2 with fail
        clear x1
        go_wp2
        obtain ⟨w0, rfl⟩ : ∃ w0, w0 = wr := ⟨_, rfl⟩
        go_loopw [15] (fun i wr => ∃ j : Nat, j ≤ M ∧ i = .int .i64 j ∧ Below w0.heap.size w0 wr ∧ ∀ (q : Nat) (c : Chg), q < j → L[q]? = some c → c.key.size + c.val.length ≤ 200) (fun i _ => M - (intOf i).toNat)
        case atStart => exact ⟨0, by omega, rfl, Below.refl _ _, fun q c hq => by omega⟩
        case round =>
          obtain ⟨j, hj, rfl, hB, hall⟩ := hrel
          have HALL := Lib.hid hall
          have HBJ := Lib.hid hB
          have x1 := (hB.cell (p := ⟨g, og + k * 2 + 1, none⟩) HG.out).trans HX.out.2
          have x0 := (hB.cell (p := ⟨g, og + k * 2, none⟩) HG.out).trans HX.out.1
          clear hall hB
          by_cases hjm : j < M
          · have j1 : (j : Int) < (M : Int) := by omega
            have j2 : 0 ≤ (j : Int) ∧ (j : Int) < (M : Int) := by omega
            have t2 : IntKind.i64.wrap ((j : Int) + 1) = (j : Int) + 1 := IntWalk.i64_in _ (by omega)
            obtain ⟨c, hc⟩ : ∃ c, L[j]? = some c := ⟨_, List.getElem?_eq_getElem (by rw [HM.out]; exact hjm)⟩
            have hfc := HFX.out.2 c (List.mem_of_getElem? hc)
            obtain ⟨gc, oc, qa, qc, rfl, x2, x3⟩ := chg_at (HCH.out.low HBJ.out) hc
            obtain ⟨key, cv, val, gone⟩ := c
            dsimp only at x2 x3 hfc
            obtain ⟨kn, hkn⟩ : ∃ kn, key.size = kn := ⟨_, rfl⟩
            obtain ⟨vn, hvn⟩ : ∃ vn, val.length = vn := ⟨_, rfl⟩
            rw [hvn] at x3 hfc
            rw [hkn] at hfc
            have t3 : IntKind.i64.wrap ((kn : Int) + (vn : Int)) = ((kn + vn : Nat) : Int) := by rw [IntWalk.i64_in _ (by omega)]; omega
            obtain ⟨sn, hsn⟩ : ∃ sn, kn + vn = sn := ⟨_, rfl⟩
            rw [hsn] at t3
            have HCC := Lib.hid (And.intro hc (And.intro hkn (And.intro hvn hsn)))
            have k1 : ((key.size : Nat) : Int) = (kn : Int) := by rw [hkn]
            clear hc hkn hvn hsn hfc
            by_cases h200 : sn ≤ 200
            · have i7 : ¬ (200 : Int) < (sn : Int) := by omega
              go_wp2
              have hdr := (Below.refl wr.heap.size wr).drew
              have x1d := (hdr.cell (p := ⟨g, og + k * 2 + 1, none⟩) (Nat.lt_of_lt_of_le HG.out HBJ.out.size)).trans x1
              have x2d := (hdr.cell (p := ⟨gc, oc + j * 3, none⟩) (cell_lt x2)).trans x2
              have x3d := (hdr.cell (p := ⟨gc, oc + j * 3 + 1, none⟩) (cell_lt x3)).trans x3
              clear x1 x2 x3 x0
              refine wp_region_noPanic ?_
              refine wp_region_held_drew (S := fun w' => w'.cell? ⟨g, og + k * 2 + 1, none⟩ = some (.slice (some ⟨gc, oc, none⟩) M cq) ∧ w'.cell? ⟨gc, oc + j * 3, none⟩ = some (.string key) ∧ w'.cell? ⟨gc, oc + j * 3 + 1, none⟩ = some (.slice qa vn qc)) (by kernel_rfl) (⟨x1d, x2d, x3d⟩) (fun hhS => ?_)
              generalize wr.drew = wd at hdr hhS ⊢
              refine wpAnyH_take (i := 0) (oi := ⟨some 84, _, _, _, _, _⟩) (v := ?_) rfl (by kernel_rfl) (by kernel_rfl) (by kernel_rfl) (fun _ _ _ h => h) (Or.inl ⟨by rfl, ?_⟩) (by assumption) ?_
              rotate_left
              · intro w hSw
                (try dsimp only at hSw)
                go_simp
                all_goals (with_reducible rfl)
              try simp only [Act.put, List.setIfInBounds_toArray, List.set_cons_zero, List.set_cons_succ]
              refine wpAnyH_take (i := 1) (oi := ⟨some 85, _, _, _, _, _⟩) (v := ?_) rfl (by kernel_rfl) (by kernel_rfl) (by kernel_rfl) (fun _ _ _ h => h) (Or.inl ⟨by rfl, ?_⟩) (by assumption) ?_
              rotate_left
              · intro w hSw
                (try dsimp only at hSw)
                go_simp
                all_goals (with_reducible rfl)
              try simp only [Act.put, List.setIfInBounds_toArray, List.set_cons_zero, List.set_cons_succ]
              refine wpAnyH_take (i := 2) (oi := ⟨some 86, _, _, _, _, _⟩) (v := ?_) rfl (by kernel_rfl) (by kernel_rfl) (by kernel_rfl) (fun _ _ _ h => h) (Or.inl ⟨by rfl, ?_⟩) (by assumption) ?_
              rotate_left
              · intro w hSw
                (try dsimp only at hSw)
                go_simp
                all_goals (with_reducible rfl)
              try simp only [Act.put, List.setIfInBounds_toArray, List.set_cons_zero, List.set_cons_succ]
              refine wpAnyH_take (i := 3) (oi := ⟨some 87, _, _, _, _, _⟩) (v := ?_) rfl (by kernel_rfl) (by kernel_rfl) (by kernel_rfl) (fun _ _ _ h => h) (Or.inl ⟨by rfl, ?_⟩) (by assumption) ?_
              rotate_left
              · intro w hSw
                (try dsimp only at hSw)
                go_simp
                all_goals (with_reducible rfl)
              try simp only [Act.put, List.setIfInBounds_toArray, List.set_cons_zero, List.set_cons_succ]
              refine wpAnyH_take (i := 4) (oi := ⟨some 88, _, _, _, _, _⟩) (v := ?_) rfl (by kernel_rfl) (by kernel_rfl) (by kernel_rfl) (fun _ _ _ h => h) (Or.inl ⟨by rfl, ?_⟩) (by assumption) ?_
              rotate_left
              · intro w hSw
                (try dsimp only at hSw)
                have y1 := hSw.1
                have y2 := hSw.2.1
                have y3 := hSw.2.2
                go_simp
                all_goals (with_reducible rfl)
              try simp only [Act.put, List.setIfInBounds_toArray, List.set_cons_zero, List.set_cons_succ]
              refine wpAnyH_take (i := 5) (oi := ⟨some 89, _, _, _, _, _⟩) (v := ?_) rfl (by kernel_rfl) (by kernel_rfl) (by kernel_rfl) (fun _ _ _ h => h) (Or.inl ⟨by rfl, ?_⟩) (by assumption) ?_
              rotate_left
              · intro w hSw
                (try dsimp only at hSw)
                go_simp
                all_goals (with_reducible rfl)
              try simp only [Act.put, List.setIfInBounds_toArray, List.set_cons_zero, List.set_cons_succ]
              refine wpAnyH_take (i := 6) (oi := ⟨some 90, _, _, _, _, _⟩) (v := ?_) rfl (by kernel_rfl) (by kernel_rfl) (by kernel_rfl) (fun _ _ _ h => h) (Or.inl ⟨by rfl, ?_⟩) (by assumption) ?_
              rotate_left
              · intro w hSw
                (try dsimp only at hSw)
                go_simp
                all_goals (with_reducible rfl)
              try simp only [Act.put, List.setIfInBounds_toArray, List.set_cons_zero, List.set_cons_succ]
              refine wpAnyH_take (i := 7) (oi := ⟨some 91, _, _, _, _, _⟩) (v := ?_) rfl (by kernel_rfl) (by kernel_rfl) (by kernel_rfl) (fun _ _ _ h => h) (Or.inl ⟨by rfl, ?_⟩) (by assumption) ?_
              rotate_left
              · intro w hSw
                (try dsimp only at hSw)
                go_simp
                all_goals (with_reducible rfl)
              try simp only [Act.put, List.setIfInBounds_toArray, List.set_cons_zero, List.set_cons_succ]
              refine wpAnyH_take (i := 8) (oi := ⟨some 92, _, _, _, _, _⟩) (v := ?_) rfl (by kernel_rfl) (by kernel_rfl) (by kernel_rfl) (fun _ _ _ h => h) (Or.inl ⟨by rfl, ?_⟩) (by assumption) ?_
              rotate_left
              · intro w hSw
                (try dsimp only at hSw)
                have y1 := hSw.1
                have y2 := hSw.2.1
                have y3 := hSw.2.2
                go_simp
                all_goals (with_reducible rfl)
              try simp only [Act.put, List.setIfInBounds_toArray, List.set_cons_zero, List.set_cons_succ]
              refine wpAnyH_take (i := 9) (oi := ⟨some 93, _, _, _, _, _⟩) (v := ?_) rfl (by kernel_rfl) (by kernel_rfl) (by kernel_rfl) (fun _ _ _ h => h) (Or.inl ⟨by rfl, ?_⟩) (by assumption) ?_
              rotate_left
              · intro w hSw
                (try dsimp only at hSw)
                go_simp
                all_goals (with_reducible rfl)
              try simp only [Act.put, List.setIfInBounds_toArray, List.set_cons_zero, List.set_cons_succ]
              refine wpAnyH_take (i := 10) (oi := ⟨some 94, _, _, _, _, _⟩) (v := ?_) rfl (by kernel_rfl) (by kernel_rfl) (by kernel_rfl) (fun _ _ _ h => h) (Or.inl ⟨by rfl, ?_⟩) (by assumption) ?_
              rotate_left
              · intro w hSw
                (try dsimp only at hSw)
                go_simp
                all_goals (with_reducible rfl)
              try simp only [Act.put, List.setIfInBounds_toArray, List.set_cons_zero, List.set_cons_succ]
              refine wpAnyH_take (i := 11) (oi := ⟨some 95, _, _, _, _, _⟩) (v := ?_) rfl (by kernel_rfl) (by kernel_rfl) (by kernel_rfl) (fun _ _ _ h => h) (Or.inl ⟨by rfl, ?_⟩) (by assumption) ?_
              rotate_left
              · intro w hSw
                (try dsimp only at hSw)
                go_simp
                all_goals (with_reducible rfl)
              try simp only [Act.put, List.setIfInBounds_toArray, List.set_cons_zero, List.set_cons_succ]
              refine wpAnyH_take (i := 12) (oi := ⟨some 96, _, _, _, _, _⟩) (v := ?_) rfl (by kernel_rfl) (by kernel_rfl) (by kernel_rfl) (fun _ _ _ h => h) (Or.inl ⟨by rfl, ?_⟩) (by assumption) ?_
              rotate_left
              · intro w hSw
                (try dsimp only at hSw)
                go_simp
                all_goals (with_reducible rfl)
              try simp only [Act.put, List.setIfInBounds_toArray, List.set_cons_zero, List.set_cons_succ]
              refine wpAnyH_take (i := 13) (oi := ⟨some 97, _, _, _, _, _⟩) (v := ?_) rfl (by kernel_rfl) (by kernel_rfl) (by kernel_rfl) (fun _ _ _ h => h) (Or.inl ⟨by rfl, ?_⟩) (by assumption) ?_
              rotate_left
              · intro w hSw
                (try dsimp only at hSw)
                go_simp
                all_goals (with_reducible rfl)
              try simp only [Act.put, List.setIfInBounds_toArray, List.set_cons_zero, List.set_cons_succ]
              refine wpAnyH_take (i := 14) (oi := ⟨some 98, _, _, _, _, _⟩) (v := ?_) rfl (by kernel_rfl) (by kernel_rfl) (by kernel_rfl) (fun _ _ _ h => h) (Or.inl ⟨by rfl, ?_⟩) (by assumption) ?_
              rotate_left
              · intro w hSw
                (try dsimp only at hSw)
                have y1 := hSw.1
                have y2 := hSw.2.1
                have y3 := hSw.2.2
                go_simp
                all_goals (with_reducible rfl)
              try simp only [Act.put, List.setIfInBounds_toArray, List.set_cons_zero, List.set_cons_succ]
              refine wpAnyH_take (i := 15) (oi := ⟨some 99, _, _, _, _, _⟩) (v := ?_) rfl (by kernel_rfl) (by kernel_rfl) (by kernel_rfl) (fun _ _ _ h => h) (Or.inl ⟨by rfl, ?_⟩) (by assumption) ?_
              rotate_left
              · intro w hSw
                (try dsimp only at hSw)
                go_simp
                all_goals (with_reducible rfl)
              try simp only [Act.put, List.setIfInBounds_toArray, List.set_cons_zero, List.set_cons_succ]
              refine wpAnyH_take (i := 16) (oi := ⟨some 100, _, _, _, _, _⟩) (v := ?_) rfl (by kernel_rfl) (by kernel_rfl) (by kernel_rfl) (fun _ _ _ h => h) (Or.inl ⟨by rfl, ?_⟩) (by assumption) ?_
              rotate_left
              · intro w hSw
                (try dsimp only at hSw)
                go_simp
                all_goals (with_reducible rfl)
              try simp only [Act.put, List.setIfInBounds_toArray, List.set_cons_zero, List.set_cons_succ]
              refine wpAnyH_take (i := 17) (oi := ⟨some 101, _, _, _, _, _⟩) (v := ?_) rfl (by kernel_rfl) (by kernel_rfl) (by kernel_rfl) (fun _ _ _ h => h) (Or.inl ⟨by rfl, ?_⟩) (by assumption) ?_
              rotate_left
              · intro w hSw
                (try dsimp only at hSw)
                go_simp
                all_goals (with_reducible rfl)
              try simp only [Act.put, List.setIfInBounds_toArray, List.set_cons_zero, List.set_cons_succ]
              refine wpAnyH_take (i := 18) (oi := ⟨some 102, _, _, _, _, _⟩) (v := ?_) rfl (by kernel_rfl) (by kernel_rfl) (by kernel_rfl) (fun _ _ _ h => h) (Or.inl ⟨by rfl, ?_⟩) (by assumption) ?_
              rotate_left
              · intro w hSw
                (try dsimp only at hSw)
                have y1 := hSw.1
                have y2 := hSw.2.1
                have y3 := hSw.2.2
                go_simp
                all_goals (with_reducible rfl)
              try simp only [Act.put, List.setIfInBounds_toArray, List.set_cons_zero, List.set_cons_succ]
              refine wpAnyH_take (i := 19) (oi := ⟨some 103, _, _, _, _, _⟩) (v := ?_) rfl (by kernel_rfl) (by kernel_rfl) (by kernel_rfl) (fun _ _ _ h => h) (Or.inl ⟨by rfl, ?_⟩) (by assumption) ?_
              rotate_left
              · intro w hSw
                (try dsimp only at hSw)
                go_simp
                all_goals (with_reducible rfl)
              try simp only [Act.put, List.setIfInBounds_toArray, List.set_cons_zero, List.set_cons_succ]
              refine wpAnyH_take (i := 20) (oi := ⟨some 104, _, _, _, _, _⟩) (v := ?_) rfl (by kernel_rfl) (by kernel_rfl) (by kernel_rfl) (fun _ _ _ h => h) (Or.inl ⟨by rfl, ?_⟩) (by assumption) ?_
              rotate_left
              · intro w hSw
                (try dsimp only at hSw)
                go_simp
                all_goals (with_reducible rfl)
              try simp only [Act.put, List.setIfInBounds_toArray, List.set_cons_zero, List.set_cons_succ]
              refine wpAnyH_take (i := 21) (oi := ⟨some 105, _, _, _, _, _⟩) (v := ?_) rfl (by kernel_rfl) (by kernel_rfl) (by kernel_rfl) (fun _ _ _ h => h) (Or.inl ⟨by rfl, ?_⟩) (by assumption) ?_
              rotate_left
              · intro w hSw
                (try dsimp only at hSw)
                go_simp
                all_goals (with_reducible rfl)
              try simp only [Act.put, List.setIfInBounds_toArray, List.set_cons_zero, List.set_cons_succ]
              refine wpAnyH_done (by kernel_rfl) ?_ _
              refine NoPanic.normal ?_
              go_wp2
              go_roundw
              case rel =>
                refine ⟨j + 1, by omega, by go_num, HBJ.out.trans (hdr.mono HBJ.out.size), fun q c hq hc => ?_⟩
                rcases Nat.lt_succ_iff_lt_or_eq.1 hq with hq | rfl
                · exact HALL.out q c hq hc
                · rw [HCC.out.1] at hc
                  injection hc with hc
                  subst hc
                  show key.size + val.length ≤ 200
                  have := HCC.out
                  omega
              case measure => simp [intOf]; omega
            · have i7 : (200 : Int) < (sn : Int) := by omega
              go_wp2
              have hdr := (Below.refl wr.heap.size wr).drew
              have x1d := (hdr.cell (p := ⟨g, og + k * 2 + 1, none⟩) (Nat.lt_of_lt_of_le HG.out HBJ.out.size)).trans x1
              have x2d := (hdr.cell (p := ⟨gc, oc + j * 3, none⟩) (cell_lt x2)).trans x2
              have x3d := (hdr.cell (p := ⟨gc, oc + j * 3 + 1, none⟩) (cell_lt x3)).trans x3
              clear x1 x2 x3 x0
              refine wp_region_noPanic ?_
              refine wp_region_held_drew (S := fun w' => w'.cell? ⟨g, og + k * 2 + 1, none⟩ = some (.slice (some ⟨gc, oc, none⟩) M cq) ∧ w'.cell? ⟨gc, oc + j * 3, none⟩ = some (.string key) ∧ w'.cell? ⟨gc, oc + j * 3 + 1, none⟩ = some (.slice qa vn qc)) (by kernel_rfl) (⟨x1d, x2d, x3d⟩) (fun hhS => ?_)
              generalize wr.drew = wd at hdr hhS ⊢
              refine wpAnyH_take (i := 0) (oi := ⟨some 84, _, _, _, _, _⟩) (v := ?_) rfl (by kernel_rfl) (by kernel_rfl) (by kernel_rfl) (fun _ _ _ h => h) (Or.inl ⟨by rfl, ?_⟩) (by assumption) ?_
              rotate_left
              · intro w hSw
                (try dsimp only at hSw)
                go_simp
                all_goals (with_reducible rfl)
              try simp only [Act.put, List.setIfInBounds_toArray, List.set_cons_zero, List.set_cons_succ]
              refine wpAnyH_take (i := 1) (oi := ⟨some 85, _, _, _, _, _⟩) (v := ?_) rfl (by kernel_rfl) (by kernel_rfl) (by kernel_rfl) (fun _ _ _ h => h) (Or.inl ⟨by rfl, ?_⟩) (by assumption) ?_
              rotate_left
              · intro w hSw
                (try dsimp only at hSw)
                go_simp
                all_goals (with_reducible rfl)
              try simp only [Act.put, List.setIfInBounds_toArray, List.set_cons_zero, List.set_cons_succ]
              refine wpAnyH_take (i := 2) (oi := ⟨some 86, _, _, _, _, _⟩) (v := ?_) rfl (by kernel_rfl) (by kernel_rfl) (by kernel_rfl) (fun _ _ _ h => h) (Or.inl ⟨by rfl, ?_⟩) (by assumption) ?_
              rotate_left
              · intro w hSw
                (try dsimp only at hSw)
                go_simp
                all_goals (with_reducible rfl)
              try simp only [Act.put, List.setIfInBounds_toArray, List.set_cons_zero, List.set_cons_succ]
              refine wpAnyH_take (i := 3) (oi := ⟨some 87, _, _, _, _, _⟩) (v := ?_) rfl (by kernel_rfl) (by kernel_rfl) (by kernel_rfl) (fun _ _ _ h => h) (Or.inl ⟨by rfl, ?_⟩) (by assumption) ?_
              rotate_left
              · intro w hSw
                (try dsimp only at hSw)
                go_simp
                all_goals (with_reducible rfl)
              try simp only [Act.put, List.setIfInBounds_toArray, List.set_cons_zero, List.set_cons_succ]
              refine wpAnyH_take (i := 4) (oi := ⟨some 88, _, _, _, _, _⟩) (v := ?_) rfl (by kernel_rfl) (by kernel_rfl) (by kernel_rfl) (fun _ _ _ h => h) (Or.inl ⟨by rfl, ?_⟩) (by assumption) ?_
              rotate_left
              · intro w hSw
                (try dsimp only at hSw)
                have y1 := hSw.1
                have y2 := hSw.2.1
                have y3 := hSw.2.2
                go_simp
                all_goals (with_reducible rfl)
              try simp only [Act.put, List.setIfInBounds_toArray, List.set_cons_zero, List.set_cons_succ]
              refine wpAnyH_take (i := 5) (oi := ⟨some 89, _, _, _, _, _⟩) (v := ?_) rfl (by kernel_rfl) (by kernel_rfl) (by kernel_rfl) (fun _ _ _ h => h) (Or.inl ⟨by rfl, ?_⟩) (by assumption) ?_
              rotate_left
              · intro w hSw
                (try dsimp only at hSw)
                go_simp
                all_goals (with_reducible rfl)
              try simp only [Act.put, List.setIfInBounds_toArray, List.set_cons_zero, List.set_cons_succ]
              refine wpAnyH_take (i := 6) (oi := ⟨some 90, _, _, _, _, _⟩) (v := ?_) rfl (by kernel_rfl) (by kernel_rfl) (by kernel_rfl) (fun _ _ _ h => h) (Or.inl ⟨by rfl, ?_⟩) (by assumption) ?_
              rotate_left
              · intro w hSw
                (try dsimp only at hSw)
                go_simp
                all_goals (with_reducible rfl)
              try simp only [Act.put, List.setIfInBounds_toArray, List.set_cons_zero, List.set_cons_succ]
              refine wpAnyH_take (i := 7) (oi := ⟨some 91, _, _, _, _, _⟩) (v := ?_) rfl (by kernel_rfl) (by kernel_rfl) (by kernel_rfl) (fun _ _ _ h => h) (Or.inl ⟨by rfl, ?_⟩) (by assumption) ?_
              rotate_left
              · intro w hSw
                (try dsimp only at hSw)
                go_simp
                all_goals (with_reducible rfl)
              try simp only [Act.put, List.setIfInBounds_toArray, List.set_cons_zero, List.set_cons_succ]
              refine wpAnyH_take (i := 8) (oi := ⟨some 92, _, _, _, _, _⟩) (v := ?_) rfl (by kernel_rfl) (by kernel_rfl) (by kernel_rfl) (fun _ _ _ h => h) (Or.inl ⟨by rfl, ?_⟩) (by assumption) ?_
              rotate_left
              · intro w hSw
                (try dsimp only at hSw)
                have y1 := hSw.1
                have y2 := hSw.2.1
                have y3 := hSw.2.2
                go_simp
                all_goals (with_reducible rfl)
              try simp only [Act.put, List.setIfInBounds_toArray, List.set_cons_zero, List.set_cons_succ]
              refine wpAnyH_take (i := 9) (oi := ⟨some 93, _, _, _, _, _⟩) (v := ?_) rfl (by kernel_rfl) (by kernel_rfl) (by kernel_rfl) (fun _ _ _ h => h) (Or.inl ⟨by rfl, ?_⟩) (by assumption) ?_
              rotate_left
              · intro w hSw
                (try dsimp only at hSw)
                go_simp
                all_goals (with_reducible rfl)
              try simp only [Act.put, List.setIfInBounds_toArray, List.set_cons_zero, List.set_cons_succ]
              refine wpAnyH_take (i := 10) (oi := ⟨some 94, _, _, _, _, _⟩) (v := ?_) rfl (by kernel_rfl) (by kernel_rfl) (by kernel_rfl) (fun _ _ _ h => h) (Or.inl ⟨by rfl, ?_⟩) (by assumption) ?_
              rotate_left
              · intro w hSw
                (try dsimp only at hSw)
                go_simp
                all_goals (with_reducible rfl)
              try simp only [Act.put, List.setIfInBounds_toArray, List.set_cons_zero, List.set_cons_succ]
              refine wpAnyH_take (i := 11) (oi := ⟨some 95, _, _, _, _, _⟩) (v := ?_) rfl (by kernel_rfl) (by kernel_rfl) (by kernel_rfl) (fun _ _ _ h => h) (Or.inl ⟨by rfl, ?_⟩) (by assumption) ?_
              rotate_left
              · intro w hSw
                (try dsimp only at hSw)
                go_simp
                all_goals (with_reducible rfl)
              try simp only [Act.put, List.setIfInBounds_toArray, List.set_cons_zero, List.set_cons_succ]
              refine wpAnyH_take (i := 12) (oi := ⟨some 96, _, _, _, _, _⟩) (v := ?_) rfl (by kernel_rfl) (by kernel_rfl) (by kernel_rfl) (fun _ _ _ h => h) (Or.inl ⟨by rfl, ?_⟩) (by assumption) ?_
              rotate_left
              · intro w hSw
                (try dsimp only at hSw)
                go_simp
                all_goals (with_reducible rfl)
              try simp only [Act.put, List.setIfInBounds_toArray, List.set_cons_zero, List.set_cons_succ]
              refine wpAnyH_take (i := 13) (oi := ⟨some 97, _, _, _, _, _⟩) (v := ?_) rfl (by kernel_rfl) (by kernel_rfl) (by kernel_rfl) (fun _ _ _ h => h) (Or.inl ⟨by rfl, ?_⟩) (by assumption) ?_
              rotate_left
              · intro w hSw
                (try dsimp only at hSw)
                go_simp
                all_goals (with_reducible rfl)
              try simp only [Act.put, List.setIfInBounds_toArray, List.set_cons_zero, List.set_cons_succ]
              refine wpAnyH_take (i := 14) (oi := ⟨some 98, _, _, _, _, _⟩) (v := ?_) rfl (by kernel_rfl) (by kernel_rfl) (by kernel_rfl) (fun _ _ _ h => h) (Or.inl ⟨by rfl, ?_⟩) (by assumption) ?_
              rotate_left
              · intro w hSw
                (try dsimp only at hSw)
                have y1 := hSw.1
                have y2 := hSw.2.1
                have y3 := hSw.2.2
                go_simp
                all_goals (with_reducible rfl)
              try simp only [Act.put, List.setIfInBounds_toArray, List.set_cons_zero, List.set_cons_succ]
              refine wpAnyH_take (i := 15) (oi := ⟨some 99, _, _, _, _, _⟩) (v := ?_) rfl (by kernel_rfl) (by kernel_rfl) (by kernel_rfl) (fun _ _ _ h => h) (Or.inl ⟨by rfl, ?_⟩) (by assumption) ?_
              rotate_left
              · intro w hSw
                (try dsimp only at hSw)
                go_simp
                all_goals (with_reducible rfl)
              try simp only [Act.put, List.setIfInBounds_toArray, List.set_cons_zero, List.set_cons_succ]
              refine wpAnyH_take (i := 16) (oi := ⟨some 100, _, _, _, _, _⟩) (v := ?_) rfl (by kernel_rfl) (by kernel_rfl) (by kernel_rfl) (fun _ _ _ h => h) (Or.inl ⟨by rfl, ?_⟩) (by assumption) ?_
              rotate_left
              · intro w hSw
                (try dsimp only at hSw)
                go_simp
                all_goals (with_reducible rfl)
              try simp only [Act.put, List.setIfInBounds_toArray, List.set_cons_zero, List.set_cons_succ]
              refine wpAnyH_take (i := 17) (oi := ⟨some 101, _, _, _, _, _⟩) (v := ?_) rfl (by kernel_rfl) (by kernel_rfl) (by kernel_rfl) (fun _ _ _ h => h) (Or.inl ⟨by rfl, ?_⟩) (by assumption) ?_
              rotate_left
              · intro w hSw
                (try dsimp only at hSw)
                go_simp
                all_goals (with_reducible rfl)
              try simp only [Act.put, List.setIfInBounds_toArray, List.set_cons_zero, List.set_cons_succ]
              refine wpAnyH_take (i := 18) (oi := ⟨some 102, _, _, _, _, _⟩) (v := ?_) rfl (by kernel_rfl) (by kernel_rfl) (by kernel_rfl) (fun _ _ _ h => h) (Or.inl ⟨by rfl, ?_⟩) (by assumption) ?_
              rotate_left
              · intro w hSw
                (try dsimp only at hSw)
                have y1 := hSw.1
                have y2 := hSw.2.1
                have y3 := hSw.2.2
                go_simp
                all_goals (with_reducible rfl)
              try simp only [Act.put, List.setIfInBounds_toArray, List.set_cons_zero, List.set_cons_succ]
              refine wpAnyH_take (i := 19) (oi := ⟨some 103, _, _, _, _, _⟩) (v := ?_) rfl (by kernel_rfl) (by kernel_rfl) (by kernel_rfl) (fun _ _ _ h => h) (Or.inl ⟨by rfl, ?_⟩) (by assumption) ?_
              rotate_left
              · intro w hSw
                (try dsimp only at hSw)
                go_simp
                all_goals (with_reducible rfl)
              try simp only [Act.put, List.setIfInBounds_toArray, List.set_cons_zero, List.set_cons_succ]
              refine wpAnyH_take (i := 20) (oi := ⟨some 104, _, _, _, _, _⟩) (v := ?_) rfl (by kernel_rfl) (by kernel_rfl) (by kernel_rfl) (fun _ _ _ h => h) (Or.inl ⟨by rfl, ?_⟩) (by assumption) ?_
              rotate_left
              · intro w hSw
                (try dsimp only at hSw)
                go_simp
                all_goals (with_reducible rfl)
              try simp only [Act.put, List.setIfInBounds_toArray, List.set_cons_zero, List.set_cons_succ]
              refine wpAnyH_take (i := 21) (oi := ⟨some 105, _, _, _, _, _⟩) (v := ?_) rfl (by kernel_rfl) (by kernel_rfl) (by kernel_rfl) (fun _ _ _ h => h) (Or.inl ⟨by rfl, ?_⟩) (by assumption) ?_
              rotate_left
              · intro w hSw
                (try dsimp only at hSw)
                go_simp
                all_goals (with_reducible rfl)
              try simp only [Act.put, List.setIfInBounds_toArray, List.set_cons_zero, List.set_cons_succ]
              refine wpAnyH_done (by kernel_rfl) ?_ _
              refine NoPanic.normal ?_
              go_wp2
              go_ret
              exact ⟨rfl, HB1.out.trans (((HC.out.below).trans ((HBJ.out.trans (hdr.mono HBJ.out.size)).mono HC.out.below.size)).mono HB1.out.size)⟩
          · obtain rfl : j = M := by omega
            have j1 : ¬ (j : Int) < (j : Int) := by omega
            have hcb := HC.out.low HBJ.out
            have hch := HCH.out.low HBJ.out
            have h200 : ∀ c ∈ L, c.key.size + c.val.length ≤ 200 := fun c hc => by
              obtain ⟨q, hq1, hq2⟩ := List.getElem_of_mem hc
              exact HALL.out q c (by have := HM.out; omega) (by rw [List.getElem?_eq_getElem hq1, hq2])
            by_cases hk0 : kd = 0
            · subst hk0
              have HCM := Lib.hid (c_commit hcb (by omega) _ L hch HFX.out (by have := HM.out; omega) h200)
              clear hcb hch h200
              go_upto_if 127 with (first
                | (go_at_call 7; refine HCM.out.mono ?_; rintro r w5 ⟨e, rfl, hne, heq⟩; have HE := Lib.hid (And.intro hne heq); clear hne heq)
                | fail)
              clear x1 x0 HCM
              by_cases he : e = 0
              · subst he
                have HPR := Lib.hid (c_pairs (HE.out.2 rfl) (by omega))
                go_wp2_with (first
                  | (obtain ⟨g', n', T', A', F', c', Hs, Ps, P, q1, q2, q3, q4, q5, q6, q7, q8, q9, q10, q11, q12⟩ := HPost.out; refine wpList_append_row (w := w6) (by rfl) _ _ (by rfl) q1 q6 (by rfl) q10 (by rfl) (by have := HMK.out; omega) ?_; intro p' q' w7 hA7 hL7; rw [q7] at hA7; rw [q7]; have HN := Lib.hid (show CInv w1 w7 d s ks (.slice p' (m + 1) q') (k + 1) safe (m + 1) from ⟨g', n', T', A', F', c', Hs ++ [F'], Ps ++ [P], hL7, q2, q3, q4, q5, hA7, by rw [List.length_append, q7]; rfl, by rw [List.length_append, q8]; rfl, q9.add (by omega) q11 q12⟩); clear q1 q2 q3 q4 q5 q6 q8 q9 q10 q11 q12 hA7 hL7)
                  | (go_at_call 9; refine HPR.out.mono ?_; rintro r w6 ⟨pa, pn, pc, rfl, hPost⟩; have HPost := Lib.hid hPost; clear hPost)
                  | fail)
                go_roundw
                case rel => exact ⟨k + 1, safe, m + 1, by omega, by go_num, rfl, HN.out, by omega, by have := HMK.out; omega⟩
                case measure => simp [intOf]; omega
              · have g1 : (e == 0) = false := by simpa using he
                go_wp2
                go_roundw
                case rel => exact ⟨k + 1, safe, m, by omega, by go_num, rfl, HE.out.1 he, HMK.out.1, by have := HMK.out; omega⟩
                case measure => simp [intOf]; omega
            · have g0 : (kd == 0) = false := by simpa using hk0
              by_cases hk1 : kd = 1
              · subst hk1
                have HCM := Lib.hid (c_sync hcb (by omega))
                clear hcb hch h200
                go_upto_if 137 with (first
                  | (go_at_call 15; refine HCM.out.mono ?_; rintro r w5 ⟨e, rfl, hne, heq⟩; have HE := Lib.hid (And.intro hne heq); clear hne heq)
                  | fail)
                clear x1 x0 HCM
                by_cases he : e = 0
                · subst he
                  go_wp2
                  go_roundw
                  case rel => exact ⟨k + 1, m - 1, m, by omega, by go_num, rfl, HE.out.2 rfl, HMK.out.1, by have := HMK.out; omega⟩
                  case measure => simp [intOf]; omega
                · have g1 : (e == 0) = false := by simpa using he
                  go_wp2
                  go_roundw
                  case rel => exact ⟨k + 1, safe, m, by omega, by go_num, rfl, HE.out.1 he, HMK.out.1, by have := HMK.out; omega⟩
                  case measure => simp [intOf]; omega
              · have g1' : (kd == 1) = false := by simpa using hk1
                have HCM := Lib.hid (c_ckpt hcb (by omega))
                clear hcb hch h200
                go_upto_if 114 with (first
                  | (go_at_call 16; refine HCM.out.mono ?_; rintro r w5 ⟨e, rfl, hne, heq⟩; have HE := Lib.hid (And.intro hne heq); clear hne heq)
                  | fail)
                clear x1 x0 HCM
                by_cases he : e = 0
                · subst he
                  go_wp2
                  go_roundw
                  case rel => exact ⟨k + 1, m - 1, m, by omega, by go_num, rfl, HE.out.2 rfl, HMK.out.1, by have := HMK.out; omega⟩
                  case measure => simp [intOf]; omega
                · have g1 : (e == 0) = false := by simpa using he
                  go_wp2
                  go_roundw
                  case rel => exact ⟨k + 1, safe, m, by omega, by go_num, rfl, HE.out.1 he, HMK.out.1, by have := HMK.out; omega⟩
                  case measure => simp [intOf]; omega
      · have i6 : (10 : Int) < (M : Int) := by omega
        go_wp2
        go_ret
        exact ⟨rfl, HB1.out.trans (HC.out.below.mono HB1.out.size)⟩
    · obtain rfl : k = N := by omega
      have i4 : ¬ (k : Int) < (k : Int) := by omega
      have HCR := Lib.hid (c_crash hC (by omega) (rl := rl) (by have := HLN.out; omega) _ kp H2W.out (by have := HLN.out; omega))
      have HM := Lib.hid (And.intro hm1 hmk)
      clear hC hm1 hmk
      go_upto_block 5 with (first
        | (go_at_call 12; refine HCR.out.mono ?_; rintro r w5 ⟨rfl, hT5⟩; have HT5 := Lib.hid hT5; clear hT5)
        | fail)
      clear HCR
      go_wp2
      go_loopw [16] (fun i wr => ∃ q : Nat, q ≤ 60 ∧ i = .int .i64 q ∧ TInv w1 wr d ks rl (.slice ra m rq) q safe m) (fun i _ => 70 - (intOf i).toNat)
      case atStart => exact ⟨0, by omega, rfl, HT5.out⟩
      case round =>
        clear HT5
        obtain ⟨q, hq, rfl, hT⟩ := hrel
        have j1 : (q : Int) < 70 := by omega
        have t2 : IntKind.i64.wrap ((q : Int) + 1) = (q : Int) + 1 := IntWalk.i64_in _ (by omega)
        have HOP := Lib.hid (t_open hT HKS.out hq)
        clear hT
        go_upto_region 35 with (first
          | (go_at_call 6; refine HOP.out.mono ?_; rintro r w6 ⟨tp, te, rfl, hX6⟩; have HX6 := Lib.hid hX6; clear hX6)
          | fail)
        clear HOP
        rcases HX6.out with ⟨rfl, rfl, hq60, hT⟩ | ⟨t, g, rfl, rfl, hO⟩
        · have HT := Lib.hid hT
          clear HX6 hT
          go_wp2
          go_roundw
          case rel => exact ⟨q + 1, by omega, by go_num, HT.out⟩
          case measure => simp [intOf]; omega
        · have HUP := Lib.hid (u_open hO)
          clear HX6 hO
          go_upto_region 39 with (first
            | (go_at_call 6; refine HUP.out.mono ?_; rintro r w7 ⟨u, rfl, hU7⟩; have HU7 := Lib.hid hU7; clear hU7)
            | fail)
          obtain ⟨nU, Tt, Tu, SU, AU, FU, iU, Ps, PU, k1, k2, k3, k4, k5, k6, k7, k8, k9⟩ := HU7.out
          have HPT := Lib.hid (live_pairs k1 (by omega) k3)
          have HLT := Lib.hid (And.intro k1 k2)
          have HAU := Lib.hid k7
          have HPS := Lib.hid (And.intro k4 (And.intro k5 (And.intro k8 k9)))
          have HIP := Lib.hid (And.intro k3 k6)
          clear k1 k2 k3 k4 k5 k6 k7 k8 k9 HU7 HUP
          go_upto_block 7 with (first
            | (go_at_call 9; refine HPT.out.mono ?_; rintro r w8 ⟨_, P8, E8, rfl, ⟨na, nn, nc, rfl⟩, hE8, hP8, hI8, hl8, hb8⟩)
            | fail)
          have hPP := hE8.at
          rw [hP8, hI8.eq HIP.out.2] at hPP
          have hl9 : PU.length ≤ 1400 := by rw [← hI8.eq HIP.out.2]; exact hl8
          have HPP := Lib.hid (And.intro hPP hl9)
          have HB8 := Lib.hid hb8
          clear hE8 hP8 hI8 hl8 hb8 hPP hl9 HPT
          go_wp2
          obtain ⟨w9, rfl⟩ : ∃ w9, w9 = w8 := ⟨_, rfl⟩
          go_loopw [22, 23] (fun b i wr => ∃ (a : Nat) (bb : Bool), a ≤ m ∧ safe ≤ a ∧ i = .int .i64 a ∧ b = .bool bb ∧ (iU < a → bb = true) ∧ Below w9.heap.size w9 wr) (fun _ i _ => m - (intOf i).toNat)
          case atStart => exact ⟨safe, false, by have h1 := (List.getElem?_eq_some_iff.1 HPS.out.2.1).1; have h2 := HPS.out; omega, Nat.le_refl _, rfl, rfl, fun h => (by have := HPS.out.1; omega), Below.refl _ _⟩
          case round =>
            obtain ⟨a, bb, ha, hsa, rfl, rfl, hbb, hB⟩ := hrel
            have HBB := Lib.hid hbb
            have HBA := Lib.hid hB
            have HBW := Lib.hid (HB8.out.trans (hB.mono HB8.out.size))
            clear hbb hB
            by_cases ham : a < m
            · have l1 : (a : Int) < (m : Int) := by omega
              have l2 : 0 ≤ (a : Int) ∧ (a : Int) < (m : Int) := by omega
              have u2 : IntKind.i64.wrap ((a : Int) + 1) = (a : Int) + 1 := IntWalk.i64_in _ (by have := HM.out; omega)
              obtain ⟨Pa, hPa⟩ : ∃ Pa, Ps[a]? = some Pa := ⟨_, List.getElem?_eq_getElem (by have := HPS.out.2.2.1; omega)⟩
              obtain ⟨ga, ea, ek, eq, rfl, c1, hPO⟩ := (HAU.out.low HBW.out).get hPa
              have HSP := Lib.hid (samepairs_calls wr _ _ PU Pa (HPP.out.1.low HBA.out) hPO.at (by have := HPP.out.2; omega) (by have := HPS.out.2.2.2 Pa (List.mem_of_getElem? hPa); omega))
              have HPA := Lib.hid hPa
              clear hPa hPO
              cases bb
              case true =>
                go_wp2
                go_roundw
                case rel => exact ⟨a + 1, true, by omega, by omega, by go_num, rfl, fun _ => rfl, HBA.out⟩
                case measure => simp [intOf]; omega
              case false =>
                go_wp2_with (first
                  | (go_at_call 11; refine HSP.out.mono ?_; rintro r w10 ⟨rfl, hb10⟩; have HB10 := Lib.hid hb10; clear hb10)
                  | fail)
                go_roundw
                case rel =>
                  refine ⟨a + 1, _, by omega, by omega, by go_num, rfl, fun h => ?_, HBA.out.trans (HB10.out.mono HBA.out.size)⟩
                  rcases Nat.lt_succ_iff_lt_or_eq.1 h with h | rfl
                  · have := HBB.out h
                    cases this
                  · have h1 := HPS.out.2.1
                    rw [HPA.out] at h1
                    injection h1 with h1
                    exact decide_eq_true h1.symm
                case measure => simp [intOf]; omega
            · obtain rfl : a = m := by omega
              have l1 : ¬ (a : Int) < (a : Int) := by omega
              have hbt : bb = true := HBB.out (by have h1 := (List.getElem?_eq_some_iff.1 HPS.out.2.1).1; have h2 := HPS.out.2.2.1; omega)
              subst hbt
              have k1 := HLT.out.1.low HBW.out
              have k2 := HLT.out.2.low HBW.out
              have HPU := Lib.hid (live_pairs k2 (by omega) HIP.out.1)
              have HL2 := Lib.hid (And.intro k1 k2)
              have HP2 := Lib.hid (HPP.out.1.low HBA.out)
              clear k1 k2
              go_wp2_with (first
                | (go_at_call 17; refine (live_gen HL3.out.2).mono ?_; rintro r w13 ⟨rfl, rfl⟩)
                | (go_at_call 17; refine (live_gen HL3.out.1).mono ?_; rintro r w12b ⟨rfl, rfl⟩)
                | (go_at_call 11; refine HS2.out.mono ?_; rintro r w12 ⟨rfl, hb12⟩; have HL3 := Lib.hid (And.intro (HL2.out.1.low (HB11.out.trans (hb12.mono HB11.out.size))) (HL2.out.2.low (HB11.out.trans (hb12.mono HB11.out.size)))); clear hb12)
                | (go_at_call 9; refine HPU.out.mono ?_; rintro r w11 ⟨_, P11, E11, rfl, ⟨ma, mn, mc, rfl⟩, hE11, hP11, hI11, hl11, hb11⟩; have hat := hE11.at; rw [hP11] at hat; have HB11 := Lib.hid hb11; have HS2 := Lib.hid (samepairs_calls w11 _ _ PU P11 (HP2.out.low hb11) hat (by have := HPP.out.2; omega) (by omega)); rw [decide_eq_true (HIP.out.2.eq hI11)] at HS2; clear hE11 hP11 hI11 hl11 hb11 hat)
                | fail)
              go_ret
              exact ⟨rfl, HB1.out.trans (HL3.out.1.below.mono HB1.out.size)⟩

end Go.Proofs.YtmmlpbepaefamaaGreatDoor
