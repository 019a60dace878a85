/- Lists of bytes: which are short, the same. -/
import Derived.Test.YtmmlpbepaefamaaJArgs
import Derived.Test.YtmmlpbepaefamaaJKit
import Derived.Test.YtmmlpbepaefamaaJOpen
namespace Go.Proofs.Ytmmlpbepaefamaa
open Go.RowKit

theorem ListsOwn.lists {w : World} {B : Nat} {v : Value} {bs : List (List (BitVec 8))} (h : ListsOwn w B v bs) : ListsAt w v bs := by
  obtain ⟨vs, h1, h2, h3⟩ := h.row
  rcases h2.2 with ⟨rfl, h0⟩ | ⟨g, cap, cur, he, hb, hg, hle, hm, _⟩
  · have : bs = [] := List.eq_nil_of_length_eq_zero (by omega)
    subst this
    exact ⟨none, 0, rfl, Nat.le_refl _, fun h => absurd rfl h⟩
  · refine ⟨some ⟨g, 0, none⟩, cap, by rw [he, h1], by omega, fun _ => ⟨g, 0, rfl, (Array.getElem?_eq_some_iff.1 hg).1, fun i x hx => ?_⟩⟩
    obtain ⟨u, hu, ho⟩ := h3 i x hx
    refine ⟨u, ?_, ho.slice⟩
    have := World.ownsRow.cells h2 (g := g) (by rw [he]; rfl) i u (by rw [show vs.flatMap (fun x => [x]) = vs by simp]; exact hu)
    rwa [Addr.add_lit] at this
/-- Where the i-th list stands. -/
theorem ListsAt.nth {w : World} {p : Option Addr} {n c : Nat} {ls : List (List (BitVec 8))} (h : ListsAt w (.slice p n c) ls) {i : Nat} {x : List (BitVec 8)} (hx : ls[i]? = some x) : ∃ b o q k, p = some ⟨b, o, none⟩ ∧ b < w.heap.size ∧ w.cell? ⟨b, o + i, none⟩ = some (.slice q x.length k) ∧ SliceIs w (.slice q x.length k) x := by
  obtain ⟨ao, c', he, _, hc⟩ := h
  injection he with h1 h2 h3
  subst h1 h3
  obtain ⟨b, o, rfl, hlt, hc⟩ := hc (by rintro rfl; simp at hx)
  obtain ⟨v, hv, hs⟩ := hc i x hx
  obtain ⟨q, k, rfl⟩ := hs.len
  exact ⟨b, o, q, k, rfl, hlt, hv, hs⟩
theorem ListsAt.shape {w : World} {v : Value} {ls : List (List (BitVec 8))} (h : ListsAt w v ls) : ∃ p c, v = .slice p ls.length c ∧ ls.length ≤ c := by
  obtain ⟨p, c, h, hc, _⟩ := h
  exact ⟨p, c, h, hc⟩
/-- Some of the first lists. -/
theorem ListsAt.front {w : World} {p : Option Addr} {c k : Nat} {ls : List (List (BitVec 8))} (h : ListsAt w (.slice p ls.length c) ls) (hk : k ≤ ls.length) : ListsAt w (.slice p k c) (ls.take k) := by
  obtain ⟨ao, c', he, hlc, hc⟩ := h
  injection he with h1 h2 h3
  subst h1 h3
  have hl : (ls.take k).length = k := by rw [List.length_take]; omega
  refine ⟨_, c, by rw [hl], by omega, fun hne => ?_⟩
  obtain ⟨b, o, e, hlt, hx⟩ := hc (by rintro rfl; simp at hne)
  exact ⟨b, o, e, hlt, fun i x hi => hx i x (by rw [List.getElem?_take] at hi; split at hi; exact hi; cases hi)⟩

def shortL (ls : List (List (BitVec 8))) : Prop := ls.length ≤ 30 ∧ ∀ x ∈ ls, x.length ≤ 500
instance (ls : List (List (BitVec 8))) : Decidable (shortL ls) := by unfold shortL; infer_instance

set_option maxRecDepth 100000 in
set_option maxHeartbeats 4000000 in
theorem short_calls (w : World) (v : Value) (ls : List (List (BitVec 8))) (hv : ListsAt w v ls) (hlen : ls.length ≤ 9223372036854775807) (hb : ∀ x ∈ ls, x.length ≤ 9223372036854775806) :
    Calls Try.prog 8 #[v] w fun e w' => e = .returned (.bool (decide (shortL ls))) ∧ w = w' := by
  obtain ⟨p, c, rfl, _⟩ := hv.shape
  have HV := Lib.hid hv
  have HB := Lib.hid hb
  clear hv hb
  obtain ⟨N, hN⟩ : ∃ n, ls.length = n := ⟨_, rfl⟩
  have HN := Lib.hid hN
  rw [hN] at hlen HV ⊢
  clear hN
  go_enter Try.func8, Try.ntmps8
  go_wp2
  go_loopw [3] (fun i wr => ∃ k : Nat, k ≤ N ∧ i = .int .i64 k ∧ (∀ j x, j < k → ls[j]? = some x → x.length ≤ 500) ∧ w = wr) (fun i _ => N - (intOf i).toNat)
  case atStart => exact ⟨0, by omega, rfl, fun j x h => by omega, rfl⟩
  case round =>
    obtain ⟨k, hk, rfl, hS, rfl⟩ := hrel
    by_cases hlt : k < N
    · obtain ⟨x, hx⟩ : ∃ x, ls[k]? = some x := ⟨_, List.getElem?_eq_getElem (by rw [HN.out]; exact hlt)⟩
      obtain ⟨b, o, q, kk, rfl, hbl, hcell, _⟩ := HV.out.nth hx
      have i1 : (k : Int) < (N : Int) := by omega
      have i2 : 0 ≤ (k : Int) ∧ (k : Int) < (N : Int) := by omega
      have b2 : IntKind.i64.wrap ((k : Int) + 1) = (k : Int) + 1 := IntWalk.i64_in _ (by omega)
      have HS := Lib.hid (And.intro hS hx)
      clear hS hx hbl
      by_cases h5 : 500 < x.length
      · have i3 : (500 : Int) < (x.length : Int) := by omega
        have HF := Lib.hid (show ¬ shortL ls from fun h => by have := h.2 x (List.mem_of_getElem? HS.out.2); omega)
        go_wp2
        go_ret
        exact ⟨by rw [decide_eq_false HF.out] <;> rfl, rfl⟩
      · have i3 : ¬ (500 : Int) < (x.length : Int) := by omega
        go_wp2
        go_roundw
        case rel => exact ⟨k + 1, by omega, by go_num, fun j y hj hy => (Nat.lt_succ_iff_lt_or_eq.1 hj).elim (fun h => HS.out.1 j y h hy) (fun h => by subst h; rw [HS.out.2] at hy; rw [← Option.some.inj hy]; omega), by trivial⟩
        case measure => simp [intOf]; omega
    · obtain rfl : k = N := by omega
      have i1 : ¬ (k : Int) < (k : Int) := by omega
      have HF := Lib.hid (show shortL ls ↔ k ≤ 30 from ⟨fun h => by have := h.1; rw [HN.out] at this; exact this, fun h => ⟨by rw [HN.out]; exact h, fun x hx => by
        obtain ⟨j, hj⟩ := List.getElem?_of_mem hx
        exact hS j x (by have := (List.getElem?_eq_some_iff.1 hj).1; rw [HN.out] at this; exact this) hj⟩⟩)
      clear hS
      by_cases h30 : k ≤ 30
      · have i3 : (k : Int) ≤ 30 := by omega
        go_wp2
        go_ret
        exact ⟨by rw [decide_eq_true (HF.out.2 h30)] <;> rfl, rfl⟩
      · have i3 : ¬ (k : Int) ≤ 30 := by omega
        go_wp2
        go_ret
        exact ⟨by rw [decide_eq_false (fun h => h30 (HF.out.1 h))] <;> rfl, rfl⟩

theorem frames_take (ls : List (List (BitVec 8))) (k : Nat) (x : List (BitVec 8)) (hx : ls[k]? = some x) : (ls.take (k + 1)).flatMap frameC = (ls.take k).flatMap frameC ++ frameC x := by
  rw [List.take_add_one, hx, List.flatMap_append]
  simp
theorem frames_len : ∀ (ls : List (List (BitVec 8))), (∀ x ∈ ls, x.length ≤ 500) → (ls.flatMap frameC).length ≤ 512 * ls.length
  | [], _ => by simp
  | x :: ls, h => by
    have := frames_len ls (fun y hy => h y (List.mem_cons_of_mem _ hy))
    have := h x List.mem_cons_self
    rw [List.flatMap_cons, List.length_append, frameC_length, List.length_cons]
    omega
set_option maxRecDepth 100000 in
set_option maxHeartbeats 4000000 in
theorem samelists_calls (w : World) (v u : Value) (xs ys : List (List (BitVec 8))) (hv : ListsAt w v xs) (hu : ListsAt w u ys) (hlen : xs.length ≤ 1000000) :
    Calls Try.prog 16 #[v, u] w fun e w' => e = .returned (.bool (decide (xs = ys))) ∧ Below w.heap.size w w' := by
  obtain ⟨pv, cv, rfl, _⟩ := hv.shape
  obtain ⟨pu, cu, rfl, _⟩ := hu.shape
  by_cases hl : xs.length = ys.length
  · rw [← hl] at hu ⊢
    have HV := Lib.hid (And.intro hv hu)
    obtain ⟨N, hN⟩ : ∃ n, xs.length = n := ⟨_, rfl⟩
    have HN := Lib.hid (And.intro hN (hl.symm.trans hN))
    rw [hN] at HV hlen ⊢
    clear hN hv hu hl
    go_enter Try.func16, Try.ntmps16
    go_wp2
    go_loopw [5] (fun i wr => ∃ k : Nat, k ≤ N ∧ i = .int .i64 k ∧ (∀ i x y, i < k → xs[i]? = some x → ys[i]? = some y → x = y) ∧ Below w.heap.size w wr) (fun i _ => N - (intOf i).toNat)
    case atStart => exact ⟨0, by omega, rfl, fun i x y h => by omega, Below.refl _ _⟩
    case round =>
      obtain ⟨k, hk, rfl, hS, hB⟩ := hrel
      by_cases hlt : k < N
      · obtain ⟨x, hx⟩ : ∃ x, xs[k]? = some x := ⟨_, List.getElem?_eq_getElem (by rw [HN.out.1]; exact hlt)⟩
        obtain ⟨y, hy⟩ : ∃ y, ys[k]? = some y := ⟨_, List.getElem?_eq_getElem (by rw [HN.out.2]; exact hlt)⟩
        obtain ⟨b1, o1, p1, c1, rfl, hl1, hc1, hs1⟩ := HV.out.1.nth hx
        obtain ⟨b2, o2, p2, c2, rfl, hl2, hc2, hs2⟩ := HV.out.2.nth hy
        have hBd := hB.trans (((Below.refl wr.heap.size wr).drew).mono hB.size)
        have hc1d := (hBd.cell (p := ⟨b1, o1 + k, none⟩) hl1).trans hc1
        have hc2d := (hBd.cell (p := ⟨b2, o2 + k, none⟩) hl2).trans hc2
        have HX := Lib.hid (And.intro (hs1.low hB) (hs2.low hB))
        have HXY := Lib.hid (And.intro hx hy)
        have HS := Lib.hid hS
        have i1 : (k : Int) < (N : Int) := by omega
        have i2 : 0 ≤ (k : Int) ∧ (k : Int) < (N : Int) := by omega
        have bb : IntKind.i64.wrap ((k : Int) + 1) = (k : Int) + 1 := IntWalk.i64_in _ (by omega)
        obtain ⟨n1, hn1⟩ : ∃ n, x.length = n := ⟨_, rfl⟩
        obtain ⟨n2, hn2⟩ : ∃ n, y.length = n := ⟨_, rfl⟩
        rw [hn1] at hc1d HX
        rw [hn2] at hc2d HX
        clear hn1 hn2 hx hy hs1 hs2 hc1 hc2 hl1 hl2 hBd hS
        by_cases hxy : x = y
        · have HE := Lib.hid hxy
          have hdec : decide (x = y) = true := decide_eq_true hxy
          clear hxy
          go_wp2
          refine wp_region_noPanic ?_
          refine wp_region_held_drew (S := fun w' => w'.cell? ⟨b1, o1 + k, none⟩ = some (.slice p1 n1 c1) ∧ w'.cell? ⟨b2, o2 + k, none⟩ = some (.slice p2 n2 c2)) (by kernel_rfl) (⟨hc1d, hc2d⟩) (fun hhS => ?_)
          replace hhS := hhS
          have hB1 := (Below.refl wr.heap.size wr).drew
          have hB2 := hB.trans (hB1.mono hB.size)
          clear hB
          generalize wr.drew = wd at hhS hB1 hB2 ⊢
          refine wpAnyH_take (i := 0) (oi := ⟨some 17, _, _, _, _, _⟩) (v := ?_) rfl (by kernel_rfl) (by kernel_rfl) (by kernel_rfl) (fun _ _ _ h => h) (Or.inl ⟨by rfl, ?_⟩) (by assumption) ?_
          rotate_left
          · intro w hSw
            (try dsimp only at hSw)
            go_simp
            all_goals (with_reducible rfl)
          try simp only [Act.put, List.setIfInBounds_toArray, List.set_cons_zero, List.set_cons_succ]
          refine wpAnyH_take (i := 1) (oi := ⟨some 18, _, _, _, _, _⟩) (v := ?_) rfl (by kernel_rfl) (by kernel_rfl) (by kernel_rfl) (fun _ _ _ h => h) (Or.inl ⟨by rfl, ?_⟩) (by assumption) ?_
          rotate_left
          · intro w hSw
            (try dsimp only at hSw)
            go_simp
            all_goals (with_reducible rfl)
          try simp only [Act.put, List.setIfInBounds_toArray, List.set_cons_zero, List.set_cons_succ]
          refine wpAnyH_take (i := 2) (oi := ⟨some 19, _, _, _, _, _⟩) (v := ?_) rfl (by kernel_rfl) (by kernel_rfl) (by kernel_rfl) (fun _ _ _ h => h) (Or.inl ⟨by rfl, ?_⟩) (by assumption) ?_
          rotate_left
          · intro w hSw
            (try dsimp only at hSw)
            go_simp
            all_goals (with_reducible rfl)
          try simp only [Act.put, List.setIfInBounds_toArray, List.set_cons_zero, List.set_cons_succ]
          refine wpAnyH_take (i := 3) (oi := ⟨some 20, _, _, _, _, _⟩) (v := ?_) rfl (by kernel_rfl) (by kernel_rfl) (by kernel_rfl) (fun _ _ _ h => h) (Or.inl ⟨by rfl, ?_⟩) (by assumption) ?_
          rotate_left
          · intro w hSw
            (try dsimp only at hSw)
            have y0 := hSw.1
            have y1 := hSw.2
            go_simp
            all_goals (with_reducible rfl)
          try simp only [Act.put, List.setIfInBounds_toArray, List.set_cons_zero, List.set_cons_succ]
          refine wpAnyH_take (i := 4) (oi := ⟨some 21, _, _, _, _, _⟩) (v := ?_) rfl (by kernel_rfl) (by kernel_rfl) (by kernel_rfl) (fun _ _ _ h => h) (Or.inl ⟨by rfl, ?_⟩) (by assumption) ?_
          rotate_left
          · intro w hSw
            (try dsimp only at hSw)
            go_simp
            all_goals (with_reducible rfl)
          try simp only [Act.put, List.setIfInBounds_toArray, List.set_cons_zero, List.set_cons_succ]
          refine wpAnyH_take (i := 5) (oi := ⟨some 22, _, _, _, _, _⟩) (v := ?_) rfl (by kernel_rfl) (by kernel_rfl) (by kernel_rfl) (fun _ _ _ h => h) (Or.inl ⟨by rfl, ?_⟩) (by assumption) ?_
          rotate_left
          · intro w hSw
            (try dsimp only at hSw)
            go_simp
            all_goals (with_reducible rfl)
          try simp only [Act.put, List.setIfInBounds_toArray, List.set_cons_zero, List.set_cons_succ]
          refine wpAnyH_take (i := 6) (oi := ⟨some 23, _, _, _, _, _⟩) (v := ?_) rfl (by kernel_rfl) (by kernel_rfl) (by kernel_rfl) (fun _ _ _ h => h) (Or.inl ⟨by rfl, ?_⟩) (by assumption) ?_
          rotate_left
          · intro w hSw
            (try dsimp only at hSw)
            go_simp
            all_goals (with_reducible rfl)
          try simp only [Act.put, List.setIfInBounds_toArray, List.set_cons_zero, List.set_cons_succ]
          refine wpAnyH_take (i := 7) (oi := ⟨some 24, _, _, _, _, _⟩) (v := ?_) rfl (by kernel_rfl) (by kernel_rfl) (by kernel_rfl) (fun _ _ _ h => h) (Or.inl ⟨by rfl, ?_⟩) (by assumption) ?_
          rotate_left
          · intro w hSw
            (try dsimp only at hSw)
            have y0 := hSw.1
            have y1 := hSw.2
            go_simp
            all_goals (with_reducible rfl)
          try simp only [Act.put, List.setIfInBounds_toArray, List.set_cons_zero, List.set_cons_succ]
          refine wpAnyH_ready (rs := [8]) (by kernel_rfl) (by simp) ?_
          refine AllReadyH.cons (o := ⟨some 25, _, _, _, _, _⟩) rfl (fun K hK => ?_) AllReadyH.nil
          go_simp
          refine (same_calls wd _ _ x y (HX.out.1.low hB1) (HX.out.2.low hB1)).mono ?_
          rintro e w3 ⟨rfl, hw3⟩
          rw [hdec, ← hw3]
          clear hw3
          refine hK.out _ _ (hhS) (fun _ => ?_)
          clear hK K
          try simp only [Act.put, List.setIfInBounds_toArray, List.set_cons_zero, List.set_cons_succ]
          refine wpAnyH_take (i := 9) (oi := ⟨some 26, _, _, _, _, _⟩) (v := .bool false) rfl (by kernel_rfl) (by kernel_rfl) (by kernel_rfl) (fun _ _ _ h => h) (Or.inl ⟨by rfl, ?_⟩) (by assumption) ?_
          · intro w hSw
            (try dsimp only at hSw)
            go_simp
            all_goals (first | done | simp)
          try simp only [Act.put, List.setIfInBounds_toArray, List.set_cons_zero, List.set_cons_succ]
          refine wpAnyH_done (by kernel_rfl) ?_ _
          refine NoPanic.normal ?_
          go_wp2
          go_roundw
          case rel => exact ⟨k + 1, by omega, by go_num, fun i x y hi hx hy => (Nat.lt_succ_iff_lt_or_eq.1 hi).elim (fun h => HS.out i x y h hx hy) (fun h => by subst h; rw [HXY.out.1] at hx; rw [HXY.out.2] at hy; rw [← Option.some.inj hx, ← Option.some.inj hy]; exact HE.out), hB2⟩
          case measure => simp [intOf]; omega
        · have HE := Lib.hid hxy
          have hdec : decide (x = y) = false := decide_eq_false hxy
          clear hxy
          go_wp2
          refine wp_region_noPanic ?_
          refine wp_region_held_drew (S := fun w' => w'.cell? ⟨b1, o1 + k, none⟩ = some (.slice p1 n1 c1) ∧ w'.cell? ⟨b2, o2 + k, none⟩ = some (.slice p2 n2 c2)) (by kernel_rfl) (⟨hc1d, hc2d⟩) (fun hhS => ?_)
          replace hhS := hhS
          have hB1 := (Below.refl wr.heap.size wr).drew
          have hB2 := hB.trans (hB1.mono hB.size)
          clear hB
          generalize wr.drew = wd at hhS hB1 hB2 ⊢
          refine wpAnyH_take (i := 0) (oi := ⟨some 17, _, _, _, _, _⟩) (v := ?_) rfl (by kernel_rfl) (by kernel_rfl) (by kernel_rfl) (fun _ _ _ h => h) (Or.inl ⟨by rfl, ?_⟩) (by assumption) ?_
          rotate_left
          · intro w hSw
            (try dsimp only at hSw)
            go_simp
            all_goals (with_reducible rfl)
          try simp only [Act.put, List.setIfInBounds_toArray, List.set_cons_zero, List.set_cons_succ]
          refine wpAnyH_take (i := 1) (oi := ⟨some 18, _, _, _, _, _⟩) (v := ?_) rfl (by kernel_rfl) (by kernel_rfl) (by kernel_rfl) (fun _ _ _ h => h) (Or.inl ⟨by rfl, ?_⟩) (by assumption) ?_
          rotate_left
          · intro w hSw
            (try dsimp only at hSw)
            go_simp
            all_goals (with_reducible rfl)
          try simp only [Act.put, List.setIfInBounds_toArray, List.set_cons_zero, List.set_cons_succ]
          refine wpAnyH_take (i := 2) (oi := ⟨some 19, _, _, _, _, _⟩) (v := ?_) rfl (by kernel_rfl) (by kernel_rfl) (by kernel_rfl) (fun _ _ _ h => h) (Or.inl ⟨by rfl, ?_⟩) (by assumption) ?_
          rotate_left
          · intro w hSw
            (try dsimp only at hSw)
            go_simp
            all_goals (with_reducible rfl)
          try simp only [Act.put, List.setIfInBounds_toArray, List.set_cons_zero, List.set_cons_succ]
          refine wpAnyH_take (i := 3) (oi := ⟨some 20, _, _, _, _, _⟩) (v := ?_) rfl (by kernel_rfl) (by kernel_rfl) (by kernel_rfl) (fun _ _ _ h => h) (Or.inl ⟨by rfl, ?_⟩) (by assumption) ?_
          rotate_left
          · intro w hSw
            (try dsimp only at hSw)
            have y0 := hSw.1
            have y1 := hSw.2
            go_simp
            all_goals (with_reducible rfl)
          try simp only [Act.put, List.setIfInBounds_toArray, List.set_cons_zero, List.set_cons_succ]
          refine wpAnyH_take (i := 4) (oi := ⟨some 21, _, _, _, _, _⟩) (v := ?_) rfl (by kernel_rfl) (by kernel_rfl) (by kernel_rfl) (fun _ _ _ h => h) (Or.inl ⟨by rfl, ?_⟩) (by assumption) ?_
          rotate_left
          · intro w hSw
            (try dsimp only at hSw)
            go_simp
            all_goals (with_reducible rfl)
          try simp only [Act.put, List.setIfInBounds_toArray, List.set_cons_zero, List.set_cons_succ]
          refine wpAnyH_take (i := 5) (oi := ⟨some 22, _, _, _, _, _⟩) (v := ?_) rfl (by kernel_rfl) (by kernel_rfl) (by kernel_rfl) (fun _ _ _ h => h) (Or.inl ⟨by rfl, ?_⟩) (by assumption) ?_
          rotate_left
          · intro w hSw
            (try dsimp only at hSw)
            go_simp
            all_goals (with_reducible rfl)
          try simp only [Act.put, List.setIfInBounds_toArray, List.set_cons_zero, List.set_cons_succ]
          refine wpAnyH_take (i := 6) (oi := ⟨some 23, _, _, _, _, _⟩) (v := ?_) rfl (by kernel_rfl) (by kernel_rfl) (by kernel_rfl) (fun _ _ _ h => h) (Or.inl ⟨by rfl, ?_⟩) (by assumption) ?_
          rotate_left
          · intro w hSw
            (try dsimp only at hSw)
            go_simp
            all_goals (with_reducible rfl)
          try simp only [Act.put, List.setIfInBounds_toArray, List.set_cons_zero, List.set_cons_succ]
          refine wpAnyH_take (i := 7) (oi := ⟨some 24, _, _, _, _, _⟩) (v := ?_) rfl (by kernel_rfl) (by kernel_rfl) (by kernel_rfl) (fun _ _ _ h => h) (Or.inl ⟨by rfl, ?_⟩) (by assumption) ?_
          rotate_left
          · intro w hSw
            (try dsimp only at hSw)
            have y0 := hSw.1
            have y1 := hSw.2
            go_simp
            all_goals (with_reducible rfl)
          try simp only [Act.put, List.setIfInBounds_toArray, List.set_cons_zero, List.set_cons_succ]
          refine wpAnyH_ready (rs := [8]) (by kernel_rfl) (by simp) ?_
          refine AllReadyH.cons (o := ⟨some 25, _, _, _, _, _⟩) rfl (fun K hK => ?_) AllReadyH.nil
          go_simp
          refine (same_calls wd _ _ x y (HX.out.1.low hB1) (HX.out.2.low hB1)).mono ?_
          rintro e w3 ⟨rfl, hw3⟩
          rw [hdec, ← hw3]
          clear hw3
          refine hK.out _ _ (hhS) (fun _ => ?_)
          clear hK K
          try simp only [Act.put, List.setIfInBounds_toArray, List.set_cons_zero, List.set_cons_succ]
          refine wpAnyH_take (i := 9) (oi := ⟨some 26, _, _, _, _, _⟩) (v := .bool true) rfl (by kernel_rfl) (by kernel_rfl) (by kernel_rfl) (fun _ _ _ h => h) (Or.inl ⟨by rfl, ?_⟩) (by assumption) ?_
          · intro w hSw
            (try dsimp only at hSw)
            go_simp
            all_goals (first | done | simp)
          try simp only [Act.put, List.setIfInBounds_toArray, List.set_cons_zero, List.set_cons_succ]
          refine wpAnyH_done (by kernel_rfl) ?_ _
          refine NoPanic.normal ?_
          go_wp2
          go_ret
          exact ⟨by rw [decide_eq_false (fun e => HE.out (by have h1 := HXY.out.1; rw [e, HXY.out.2] at h1; exact (Option.some.inj h1).symm))] <;> rfl, hB2⟩
      · obtain rfl : k = N := by omega
        have i1 : ¬ (k : Int) < (k : Int) := by omega
        have HF := Lib.hid (show xs = ys from List.ext_getElem? fun i => by
          by_cases hi : i < k
          · have h1 : i < xs.length := by rw [HN.out.1]; exact hi
            have h2 : i < ys.length := by rw [HN.out.2]; exact hi
            rw [List.getElem?_eq_getElem h1, List.getElem?_eq_getElem h2, hS i _ _ hi (List.getElem?_eq_getElem h1) (List.getElem?_eq_getElem h2)]
          · rw [List.getElem?_eq_none (by rw [HN.out.1]; omega), List.getElem?_eq_none (by rw [HN.out.2]; omega)])
        clear hS
        go_wp2
        go_ret
        exact ⟨by rw [decide_eq_true HF.out] <;> rfl, hB⟩
  · have i1 : (xs.length : Int) ≠ (ys.length : Int) := by omega
    have HF := Lib.hid (show ¬ xs = ys from fun e => hl (by rw [e]))
    clear hv hu
    go_enter Try.func16, Try.ntmps16
    go_wp2
    go_ret
    exact ⟨by rw [decide_eq_false HF.out] <;> rfl, Below.refl _ _⟩

end Go.Proofs.Ytmmlpbepaefamaa
