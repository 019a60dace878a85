/- mac.Extract, mac.Same. -/
import Derived.Test.YtngklnijmhlikaaDoorMacCode
namespace Go.Proofs.YtngklnijmhlikaaDoor
open Go.RowKit

set_option maxRecDepth 100000 in
set_option maxHeartbeats 1000000 in
theorem extract_calls (w : World) (sk sb : Value) (key b : List (BitVec 8)) (hk : SliceIs w sk key) (hb : SliceIs w sb b) (hK : KTab w) (hszk : key.length ≤ 1099511627776) (hszb : b.length ≤ 1000000000000) :
    Calls Tryd.prog 30 #[sk, sb] w fun e w' => e = .returned (.agg ((macCode key b).map vu8).toArray) ∧ Below w.heap.size w w' := by
  have hBA : ∀ (wx : World) o, Below wx.heap.size wx (wx.alloc o) := fun wx o => (Below.refl _ _).alloc (Nat.le_refl _) o
  have lM := macCode_length key b
  go_enter Tryd.func30, Tryd.ntmps30
  go_upto_region 1 with (refine wpList_alloc_row (by rfl) 25 (by rfl) _ _ info_d ?_)
  have hr1 := Whole.new w 25 (zeroNums .u8 32).toArray
  have hB1 := hBA w (.cells (zeroNums .u8 32).toArray 25)
  have hz1 : w.heap.size < (w.alloc (.cells (zeroNums .u8 32).toArray 25)).heap.size := by simp
  generalize (w.alloc (.cells (zeroNums .u8 32).toArray 25)) = w1 at *
  replace hr1 : Whole w1 w.heap.size 25 (zeroNums .u8 32) := hr1
  go_wp2_with (first
    | (go_at_call 28; refine (code_calls w1 sk sb key b (hk.low hB1) (hb.low hB1) (hK.below hB1 hK.1) hszk hszb).mono ?_; rintro e w2 ⟨rfl, hB2⟩
       have hr2 := hr1.below hB2 hz1)
    | (refine wpList_store_row (o := ⟨none, _, _, _, _, _⟩) (by rfl) 25 _ _ (by rfl) w.heap.size ((macCode key b).map vu8).toArray (by rfl) (by rfl) 25 _ hr2 (by rw [size_d]; simp [lM]) (by simp [zeroNums, lM]) (all_u8 _) ?_)
    | fail)
  refine bodyPost_ret (results_cell_row rfl _ _ w.heap.size 25 _ (0, 0) _ rfl (hr2.row ((macCode key b).map vu8)) Tryd.underlying25 rfl (by rw [size_d]; simp [lM])) rfl ⟨rfl, ?_⟩
  have hBf := hB1.trans (hB2.mono (Nat.le_of_lt hz1))
  exact hBf.grown (grown_row (World.grownBy.refl _ (some w.heap.size)) (.inl rfl) _) hBf.size (fun k hk => by simp at hk; omega)

theorem or_xor_zero (u x y : BitVec 8) : (u ||| (x ^^^ y)) = 0#8 ↔ u = 0#8 ∧ x = y := by
  rw [BitVec.or_eq_zero_iff, BitVec.xor_eq_zero_iff]

theorem take_next_eq (xs ys : List (BitVec 8)) (j : Nat) (x y : BitVec 8) (hx : xs[j]? = some x) (hy : ys[j]? = some y) : xs.take (j + 1) = ys.take (j + 1) ↔ xs.take j = ys.take j ∧ x = y := by
  have h1 : j < xs.length := (List.getElem?_eq_some_iff.1 hx).1
  have h2 : j < ys.length := (List.getElem?_eq_some_iff.1 hy).1
  rw [List.take_succ_eq_append_getElem h1, List.take_succ_eq_append_getElem h2, (List.getElem?_eq_some_iff.1 hx).2, (List.getElem?_eq_some_iff.1 hy).2]
  constructor
  · intro h
    have := List.append_inj' h rfl
    exact ⟨this.1, by simpa using this.2⟩
  · rintro ⟨h, rfl⟩
    rw [h]

set_option maxRecDepth 100000 in
set_option maxHeartbeats 1000000 in
theorem macsame_calls (w : World) (s t : Value) (xs ys : List (BitVec 8)) (hs : SliceIs w s xs) (ht : SliceIs w t ys) (hsz : xs.length ≤ 1099511627776) :
    Calls Tryd.prog 31 #[s, t] w fun e w' => e = .returned (.bool (decide (xs = ys))) ∧ Below w.heap.size w w' := by
  have hs0 := hs
  have ht0 := ht
  obtain ⟨sp, sc, rfl, hsc⟩ := hs.cells
  obtain ⟨tp, tc, rfl, htc⟩ := ht.cells
  by_cases hlen : xs.length = ys.length
  · obtain ⟨n, hn⟩ : ∃ n, xs.length = n := ⟨_, rfl⟩
    have hn2 : ys.length = n := by rw [← hlen, hn]
    have HX := Lib.hid hn
    have HY := Lib.hid hn2
    have HS := Lib.hid hs0
    have HT := Lib.hid ht0
    rw [hn] at hsz ⊢
    rw [hn2]
    clear hsc htc hs ht hs0 ht0 hlen hn hn2
    go_enter Tryd.func31, Tryd.ntmps31
    go_wp2
    go_loopw [5, 14] (fun uv iv wr => ∃ (j : Nat) (u : BitVec 8), j ≤ n ∧ iv = .int .i64 j ∧ uv = vu8 u ∧ (u = 0#8 ↔ xs.take j = ys.take j) ∧ Below w.heap.size w wr) (fun _ iv _ => n - (intOf iv).toNat)
    case atStart => exact ⟨0, 0#8, by omega, rfl, rfl, by simp, Below.refl _ _⟩
    case round =>
      obtain ⟨j, u, hj, rfl, rfl, hu, hBr⟩ := hrel
      by_cases hlt : j < n
      · obtain ⟨x, hx⟩ : ∃ x, xs[j]? = some x := ⟨_, List.getElem?_eq_getElem (by rw [HX.out]; exact hlt)⟩
        obtain ⟨y, hy⟩ : ∃ y, ys[j]? = some y := ⟨_, List.getElem?_eq_getElem (by rw [HY.out]; exact hlt)⟩
        have hxne : xs ≠ [] := by rintro rfl; simp at hx
        have hyne : ys ≠ [] := by rintro rfl; simp at hy
        rcases HS.out with ⟨h, _⟩ | ⟨b1, o1, c1, e1, l1, a1⟩
        · exact absurd h hxne
        rcases HT.out with ⟨h, _⟩ | ⟨b2, o2, c2, e2, l2, a2⟩
        · exact absurd h hyne
        injection e1 with e1 _ _
        injection e2 with e2 _ _
        subst e1 e2
        have cX : wr.cell? ⟨b1, o1 + j, none⟩ = some (vu8 x) := (hBr.cell (p := ⟨b1, o1 + j, none⟩) l1).trans (a1 j x hx)
        have cY : wr.cell? ⟨b2, o2 + j, none⟩ = some (vu8 y) := (hBr.cell (p := ⟨b2, o2 + j, none⟩) l2).trans (a2 j y hy)
        have i1 : (j : Int) < (n : Int) := by omega
        have i2 : 0 ≤ (j : Int) ∧ (j : Int) < (n : Int) := by omega
        have s2 : IntKind.i64.wrap ((j : Int) + 1) = (j : Int) + 1 := IntWalk.i64_in _ (by omega)
        have hnx := Lib.hid ((or_xor_zero u x y).trans ((and_congr_left' hu).trans (take_next_eq xs ys j x y hx hy).symm))
        clear hu hx hy hxne hyne a1 a2 HS HT
        go_upto_region 7 with (fail)
        go_region_held3 (fun w' => w'.cell? ⟨b1, o1 + j, none⟩ = some (vu8 x) ∧ w'.cell? ⟨b2, o2 + j, none⟩ = some (vu8 y)) (first | exact ⟨cX, cY⟩ | go_keep) (fail)
        all_goals
          go_wp2
          exact ⟨⟨j + 1, u ||| (x ^^^ y), by omega, by go_num, rfl, hnx.out, hBr.drew⟩, by simp [intOf]; omega⟩
      · obtain rfl : j = n := by omega
        rw [List.take_of_length_le (by rw [HX.out]; omega), List.take_of_length_le (by rw [HY.out]; omega)] at hu
        go_wp2
        go_ret
        refine ⟨?_, hBr⟩
        show Ending.returned (.bool ((u.toNat : Int) == 0)) = _
        congr 2
        rw [Bool.eq_iff_iff]
        simp only [beq_iff_eq, decide_eq_true_eq]
        rw [← hu]
        constructor
        · intro h
          exact BitVec.eq_of_toNat_eq (by simpa using h)
        · rintro rfl
          rfl
  · have i1 : ¬ (xs.length : Int) = (ys.length : Int) := by omega
    have hne : xs ≠ ys := fun e => hlen (by rw [e])
    go_enter Tryd.func31, Tryd.ntmps31
    go_wp2
    go_ret
    exact ⟨by simp [hne], Below.refl _ _⟩

end Go.Proofs.YtngklnijmhlikaaDoor
