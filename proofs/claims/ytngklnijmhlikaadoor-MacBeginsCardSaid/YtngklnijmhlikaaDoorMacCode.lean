/- mac.Code, mac.Extract, mac.Same. -/
import Derived.Test.YtngklnijmhlikaaDoorMac
namespace Go.Proofs.YtngklnijmhlikaaDoor
open Go.RowKit

/-- A slice of a block that holds bytes. -/
theorem SliceIs.whole {w : World} {g : Nat} {t : TypeId} {ys : List (BitVec 8)} {n c : Nat} (h : Whole w g t (ys.map vu8)) (hn : ys.length = n) : SliceIs w (.slice (some ⟨g, 0, Option.none⟩) n c) ys := by
  subst hn
  have hb : BytesAt w g 0 ys := BytesAt.of_whole (pre := []) (post := []) (t := t) (by simpa using h) rfl
  exact .inr ⟨g, 0, c, rfl, h.lt, hb⟩
theorem second_row (w : World) (t : TypeId) (Z cs : List Value) : Whole (((w.alloc (.cells Z.toArray t)).alloc (.cells Z.toArray t)).setRow w.heap.size cs.toArray) (w.heap.size + 1) t Z := by
  have h := Whole.new (w.alloc (.cells Z.toArray t)) t Z.toArray
  rw [World.size_alloc] at h
  exact Whole.row_far h (by omega) _

theorem second_row' (w : World) (t : TypeId) (Z cs : List Value) : Whole (((w.alloc (.cells Z.toArray t)).alloc (.cells Z.toArray t)).setRow w.heap.size cs.toArray) (w.alloc (.cells Z.toArray t)).heap.size t Z := by
  rw [World.size_alloc]
  exact second_row w t Z cs

set_option maxRecDepth 100000 in
set_option maxHeartbeats 2000000 in
theorem code_calls (w : World) (sk sb : Value) (key b : List (BitVec 8)) (hk : SliceIs w sk key) (hb : SliceIs w sb b) (hK : KTab w) (hszk : key.length ≤ 1099511627776) (hszb : b.length ≤ 1000000000000) :
    Calls Tryd.prog 28 #[sk, sb] w fun e w' => e = .returned (.agg ((macCode key b).map vu8).toArray) ∧ Below w.heap.size w w' := by
  have hBA : ∀ (wx : World) o, Below wx.heap.size wx (wx.alloc o) := fun wx o => (Below.refl _ _).alloc (Nat.le_refl _) o
  obtain ⟨KI, hKI⟩ : ∃ l, xorAll (keyBlock key) 54#8 = l := ⟨_, rfl⟩
  obtain ⟨KO, hKO⟩ : ∃ l, xorAll (keyBlock key) 92#8 = l := ⟨_, rfl⟩
  have lKI : KI.length = 64 := by rw [← hKI, xorAll_length, keyBlock_length]
  have lKO : KO.length = 64 := by rw [← hKO, xorAll_length, keyBlock_length]
  have BI := Lib.hid (fun (wx : World) (hs : SliceIs wx sk key) (hk : KTab wx) => hKI ▸ macblock_calls wx sk key (.int .u8 54) 54#8 rfl hs hk hszk)
  have BO := Lib.hid (fun (wx : World) (hs : SliceIs wx sk key) (hk : KTab wx) => hKO ▸ macblock_calls wx sk key (.int .u8 92) 92#8 rfl hs hk hszk)
  have hres : macCode key b = sha (KO ++ sha (KI ++ b)) := by rw [← hKI, ← hKO]; rfl
  have HRES := Lib.hid hres
  clear hres hKI hKO
  have hsb := hb
  obtain ⟨bp, bc, rfl, _⟩ := hsb.cells
  go_enter Tryd.func28, Tryd.ntmps28
  go_upto_region 1 with (refine wpList_alloc_row (by rfl) 25 (by rfl) _ _ info_d ?_)
  have hr1 := Whole.new w 25 (zeroNums .u8 32).toArray
  have hB1 := hBA w (.cells (zeroNums .u8 32).toArray 25)
  have hz1 : w.heap.size < (w.alloc (.cells (zeroNums .u8 32).toArray 25)).heap.size := by simp
  generalize (w.alloc (.cells (zeroNums .u8 32).toArray 25)) = w1 at *
  replace hr1 : Whole w1 w.heap.size 25 (zeroNums .u8 32) := hr1
  have hk1 := hk.low hB1
  have hK1 := hK.below hB1 hK.1
  have hb1 := hb.low hB1
  go_upto_region 2 with (first
    | (go_at_call 74; refine (BO.out w2 (hk1.low hB2) (hK1.below hB2 hK1.1)).mono ?_; rintro e w3 ⟨rfl, hB3⟩)
    | (go_at_call 74; refine (BI.out w1 hk1 hK1).mono ?_; rintro e w2 ⟨rfl, hB2⟩)
    | (refine wpList_alloc_row (by rfl) 33 (by rfl) _ _ info_64 ?_)
    | (refine wpList_store_row (o := ⟨none, _, _, _, _, _⟩) (by rfl) 33 _ _ (by rfl) w3.heap.size (KI.map vu8).toArray (by rfl) (by rfl) 33 _ ((Whole.new w3 33 (zeroNums .u8 64).toArray).alloc _) (by rw [size_b64]; simp [lKI]) (by simp [zeroNums, lKI]) (all_u8 _) ?_)
    | (refine wpList_store_row (o := ⟨none, _, _, _, _, _⟩) (by rfl) 33 _ _ (by rfl) (w3.alloc (.cells (zeroNums .u8 64).toArray 33)).heap.size (KO.map vu8).toArray (by rfl) (by rfl) 33 _ (second_row' w3 _ _ _) (by rw [size_b64]; simp [lKO]) (by simp [zeroNums, lKO]) (all_u8 _) ?_)
    | fail)
  try simp only [World.size_alloc, Act.put, List.setIfInBounds_toArray, List.set_cons_zero, List.set_cons_succ]
  have hI5 := (((Whole.new w3 33 (zeroNums .u8 64).toArray).alloc (.cells (zeroNums .u8 64).toArray 33)).row (KI.map vu8)).row_far (k := w3.heap.size + 1) (by omega) (KO.map vu8).toArray
  have hO5 := (second_row w3 33 (zeroNums .u8 64) (KI.map vu8)).row (KO.map vu8)
  have hB35 : Below w3.heap.size w3 ((((w3.alloc (.cells (zeroNums .u8 64).toArray 33)).alloc (.cells (zeroNums .u8 64).toArray 33)).setRow w3.heap.size (KI.map vu8).toArray).setRow (w3.heap.size + 1) (KO.map vu8).toArray) :=
    (((((Below.refl w3.heap.size w3).alloc (Nat.le_refl _) _).alloc (by simp) _).grown (grown_row (World.grownBy.refl _ (some w3.heap.size)) (.inl rfl) _) (by rw [World.size_alloc, World.size_alloc]; omega) (fun k e => by cases e; exact Nat.le_refl _)).grown (grown_row (World.grownBy.refl _ (some (w3.heap.size + 1))) (.inl rfl) _) (by simp [World.setRow]; omega) (fun k e => by cases e; omega))
  generalize ((((w3.alloc (.cells (zeroNums .u8 64).toArray 33)).alloc (.cells (zeroNums .u8 64).toArray 33)).setRow w3.heap.size (KI.map vu8).toArray).setRow (w3.heap.size + 1) (KO.map vu8).toArray) = w5 at *
  have hB15 := hB2.trans ((hB3.trans (hB35.mono hB3.size)).mono hB2.size)
  have hIO : w.heap.size < w3.heap.size := by have := hB2.size; have := hB3.size; omega
  generalize w3.heap.size = I at *
  have hr5 := hr1.below hB15 hz1
  have hK5 := hK1.below hB15 hK1.1
  have hb5 := hb1.low hB15
  have hBw5 := hB1.trans (hB15.mono hB1.size)
  clear hB15 hB35 hB3 hB2 hr1 hK1 hb1 hk1 hB1 BI BO
  have hI5l := hI5.lt
  have hO5l := hO5.lt
  have hbl := hb.lt
  have zw := hBw5.size
  go_upto_region 6 with (first
    | (go_at_call 25; refine (new_hash w5).mono ?_; rintro e w6 ⟨h, rfl, hh5, hh6, hB6⟩
       have h0 : h ≠ 0 := (by have := hK5.1; omega)
       have hK6 := hK5.below hB6 hK5.1
       have hI6 := hI5.below hB6 hI5l)
    | (go_at_call 21; refine (write_slice w7 h KI b _ hh7 hK7 h0 (by omega) hb7 (by intro b' o c e hne; have := hbl b' o c e hne; omega)).mono ?_; rintro e w8 ⟨rfl, hh8, hG8⟩
       have hK8 := hK7.grown hG8 (fun e => h0 (by simpa using e))
       have hG58 := grown_trans hG57 hG8)
    | (go_at_call 21; refine (write_slice w6 h [] KI _ hh6 hK6 h0 (by simp [lKI]) (SliceIs.whole hI6 lKI) (by intro b' o c e _; injection e with e1 _ _; cases e1; omega)).mono ?_; rintro e w7 ⟨rfl, hh7, hG7⟩
       have hK7 := hK6.grown hG7 (fun e => h0 (by simpa using e))
       have hG57 := grown_trans (below_grown hB6 (some h)) hG7
       have hb7 := hb5.grown hG57 (fun b' o c e hne eb => by have := hbl b' o c e hne; cases eb; omega))
    | (go_at_call 22; refine (sum_hash w8 h (KI ++ b) hh8 hK8 (by simp [lKI]; omega)).mono ?_; rintro e w9 ⟨rfl, hB9⟩)
    | (refine wpList_alloc_row (by rfl) 25 (by rfl) _ _ info_d ?_)
    | (refine wpList_store_new (o := ⟨none, _, _, _, _, _⟩) (by rfl) 25 _ _ (by rfl) _ ((sha (KI ++ b)).map vu8).toArray 25 (by rfl) (by rfl) (by rw [size_d]; simp [sha_length]) (by simp [zeroNums, sha_length]) (all_u8 _) ?_)
    | fail)
  have hG89 := grown_trans hG58 (below_grown hB9 (some h))
  have hBA9 := hBA w9 (.cells ((sha (KI ++ b)).map vu8).toArray 25)
  have hG5a := grown_trans hG89 (below_grown hBA9 (some h))
  have hD10 := Whole.new w9 25 ((sha (KI ++ b)).map vu8).toArray
  have zD : w9.heap.size < (w9.alloc (.cells ((sha (KI ++ b)).map vu8).toArray 25)).heap.size := by simp
  try simp only [Act.put, List.setIfInBounds_toArray, List.set_cons_zero, List.set_cons_succ]
  generalize (w9.alloc (.cells ((sha (KI ++ b)).map vu8).toArray 25)) = w10 at *
  have hz9 : w5.heap.size ≤ w9.heap.size := hG89.size
  generalize w9.heap.size = D at *
  have hO10 := hO5.grown hG5a (fun e => by cases e; omega)
  have hr10 := hr5.grown hG5a (fun e => by cases e; omega)
  have hBw10 := hBw5.grown hG5a zw (fun j e => by cases e; omega)
  have hK10 := hK5.grown hG5a (fun e => h0 (by simpa using e))
  replace hD10 : Whole w10 D 25 ((sha (KI ++ b)).map vu8) := hD10
  have hO10l := hO10.lt
  have hD10l := hD10.lt
  have lS : (sha (KI ++ b)).length = 32 := sha_length _
  obtain ⟨S, hS⟩ : ∃ S, sha (KI ++ b) = S := ⟨_, rfl⟩
  rw [hS] at hD10 lS
  have HS := Lib.hid hS
  clear hS hG5a hBA9 hG89 hG58 hG57 hG7 hG8 hB9 hB6 hh6 hh7 hh8 hK6 hK7 hK8 hI6 hI5 hO5 hr5 hK5 hb5 hb7 hBw5 hbl hb hk
  go_wp2_with (first
    | (go_at_call 25; refine (new_hash w10).mono ?_; rintro e w11 ⟨h2, rfl, hh10, hh11, hB11⟩
       have h20 : h2 ≠ 0 := (by have := hK10.1; omega)
       have hK11 := hK10.below hB11 hK10.1
       have hO11 := hO10.below hB11 hO10l
       have hD11 := hD10.below hB11 hD10l)
    | (go_at_call 21; refine (write_slice w12 h2 KO S _ hh12 hK12 h20 (by omega) (SliceIs.whole hD12 lS) (by intro b' o c e _; injection e with e1 _ _; cases e1; omega)).mono ?_; rintro e w13 ⟨rfl, hh13, hG13⟩
       have hK13 := hK12.grown hG13 (fun e => h20 (by simpa using e))
       have hGf := grown_trans hG1012 hG13)
    | (go_at_call 21; refine (write_slice w11 h2 [] KO _ hh11 hK11 h20 (by simp [lKO]) (SliceIs.whole hO11 lKO) (by intro b' o c e _; injection e with e1 _ _; cases e1; omega)).mono ?_; rintro e w12 ⟨rfl, hh12, hG12⟩
       have hK12 := hK11.grown hG12 (fun e => h20 (by simpa using e))
       have hG1012 := grown_trans (below_grown hB11 (some h2)) hG12
       have hD12 := hD11.grown hG12 (fun e => by cases e; omega))
    | (go_at_call 22; refine (sum_hash w13 h2 (KO ++ S) hh13 hK13 (by simp [lKO, lS])).mono ?_; rintro e w14 ⟨rfl, hB14⟩
       have hG1014 := grown_trans hGf (below_grown hB14 (some h2))
       have hr14 := hr10.grown hG1014 (fun e => by cases e; omega))
    | (refine wpList_store_row (o := ⟨none, _, _, _, _, _⟩) (by rfl) 25 _ _ (by rfl) w.heap.size ((sha (KO ++ S)).map vu8).toArray (by rfl) (by rfl) 25 _ hr14 (by rw [size_d]; simp [sha_length]) (by simp [zeroNums, sha_length]) (all_u8 _) ?_)
    | fail)
  rw [HRES.out, HS.out]
  refine bodyPost_ret (results_cell_row rfl _ _ w.heap.size 25 _ (0, 0) _ rfl (hr14.row ((sha (KO ++ S)).map vu8)) Tryd.underlying25 rfl (by rw [size_d]; simp [sha_length])) rfl ⟨rfl, ?_⟩
  have hBf := hBw10.grown hG1014 hBw10.size (fun j e => by cases e; omega)
  exact hBf.grown (grown_row (World.grownBy.refl _ (some w.heap.size)) (.inl rfl) _) hBf.size (fun k hk => by simp at hk; omega)

end Go.Proofs.YtngklnijmhlikaaDoor
