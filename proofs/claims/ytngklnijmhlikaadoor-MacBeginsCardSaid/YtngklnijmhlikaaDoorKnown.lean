/- DigestKnown: the walk. -/
import Derived.Test.YtngklnijmhlikaaDoorKnownEnd
namespace Go.Proofs.YtngklnijmhlikaaDoor
open Go.RowKit

set_option maxRecDepth 100000 in
set_option maxHeartbeats 1000000 in
theorem digestKnown_calls (w : World) (hK : KTab w) : Calls Tryd.prog 9 #[] w fun e w' => e = .returned (.bool true) ∧ Below w.heap.size w w' := by
  go_enter Tryd.func9, Tryd.ntmps9
  go_upto_region 4 with (go_at_call 25; refine (new_hash w).mono ?_; rintro e w1 ⟨h, rfl, hh1, hh2, hB1⟩)
  have hK1 := hK.below hB1 hK.1
  have h0 : h ≠ 0 := by have := hK.1; omega
  have hl1 := hh2.lt
  have hBA : ∀ (wx : World) o, Below wx.heap.size wx (wx.alloc o) := fun wx o => (Below.refl _ _).alloc (Nat.le_refl _) o
  have v1 := Lib.run_convert_bytes_const w1 22 5 #[.int .u8 97] 1 1 Tryd.underlying22 Tryd.underlying5
  have q1 : ∀ (wx : World), SliceIs (wx.alloc (.cells #[.int .u8 97] 5 (1, 2))) (.slice (some ⟨wx.heap.size, 0, Option.none⟩) 1 1) [97#8] := fun wx => SliceIs.marked wx _ _ [97#8] 1
  have q2 : ∀ (wx : World), SliceIs (wx.alloc (.cells #[.int .u8 98, .int .u8 99] 5 (2, 3))) (.slice (some ⟨wx.heap.size, 0, Option.none⟩) 2 2) [98#8, 99#8] := fun wx => SliceIs.marked wx _ _ [98#8, 99#8] 2
  go_upto_region 6 with (first
    | (go_at_call 21; refine (write_slice (w2.alloc (.cells #[.int .u8 98, .int .u8 99] 5 (2, 3))) h _ [98#8, 99#8] _ (hh3.low (hBA _ _)) (hK2.below (hBA _ _) hK2.1) h0 (by simp) (q2 w2) (by intro b o c e _; cases e; omega)).mono ?_; rintro e w3 ⟨rfl, hh4, hG3⟩)
    | (go_at_call 21; refine (write_slice (w1.alloc (.cells #[.int .u8 97] 5 (1, 2))) h [] [97#8] _ (hh2.low (hBA _ _)) (hK1.below (hBA _ _) hK1.1) h0 (by simp) (q1 w1) (by intro b o c e _; cases e; omega)).mono ?_; rintro e w2 ⟨rfl, hh3, hG2⟩
       have hl2 := hh3.lt
       have v2 := Lib.run_convert_bytes_const w2 22 5 #[.int .u8 98, .int .u8 99] 2 2 Tryd.underlying22 Tryd.underlying5
       have hK2 := (hK1.below (hBA w1 (.cells #[.int .u8 97] 5 (1, 2))) hK1.1).grown hG2 (fun e => h0 (by simpa using e)))
    | fail)
  have cB3 : Below w.heap.size w w3 := by
    have c1 := (hB1.trans ((hBA w1 (.cells #[.int .u8 97] 5 (1, 2))).mono hB1.size))
    have c2 := c1.grown hG2 c1.size (fun k hk => by cases hk; omega)
    have c3 := (c2.trans ((hBA w2 (.cells #[.int .u8 98, .int .u8 99] 5 (2, 3))).mono c2.size))
    exact c3.grown hG3 c3.size (fun k hk => by cases hk; omega)
  have hK3 := hK.below cB3 hK.1
  generalize hcN : (⟨#[101, 51, 98, 48, 99, 52, 52, 50, 57, 56, 102, 99, 49, 99, 49, 52, 57, 97, 102, 98, 102, 52, 99, 56, 57, 57, 54, 102, 98, 57, 50, 52, 50, 55, 97, 101, 52, 49, 101, 52, 54, 52, 57, 98, 57, 51, 52, 99, 97, 52, 57, 53, 57, 57, 49, 98, 55, 56, 53, 50, 98, 56, 53, 53]⟩ : ByteArray) = sN
  generalize hcA : (⟨#[98, 97, 55, 56, 49, 54, 98, 102, 56, 102, 48, 49, 99, 102, 101, 97, 52, 49, 52, 49, 52, 48, 100, 101, 53, 100, 97, 101, 50, 50, 50, 51, 98, 48, 48, 51, 54, 49, 97, 51, 57, 54, 49, 55, 55, 97, 57, 99, 98, 52, 49, 48, 102, 102, 54, 49, 102, 50, 48, 48, 49, 53, 97, 100]⟩ : ByteArray) = sA
  have hN : sN = textOf noneText := by rw [← hcN]; kernel_rfl
  have hA : sA = textOf abcText := by rw [← hcA]; kernel_rfl
  have zN : sN.size = 64 := by rw [hN]; rfl
  have hS1 : sN.extract 1 64 = textOf (noneText.drop 1) := by rw [hN]; kernel_rfl
  have hS2 : (⟨#[65]⟩ : ByteArray) ++ sN.extract 1 64 = textOf (65#8 :: noneText.drop 1) := by rw [hN]; kernel_rfl
  have P1 : ∀ wx, Calls Tryd.prog 35 #[.string (sN.extract 1 64)] wx fun e w' => e = .returned (.tuple #[.agg ((List.replicate 32 0#8).map vu8).toArray, .int .i64 4]) ∧ Below wx.heap.size wx w' := fun wx => by
    have h := parse_calls wx (noneText.drop 1)
    rw [parseRes_bad short_bad, ← hS1] at h
    exact h
  have P2 : ∀ wx, Calls Tryd.prog 35 #[.string ((⟨#[65]⟩ : ByteArray) ++ sN.extract 1 64)] wx fun e w' => e = .returned (.tuple #[.agg ((List.replicate 32 0#8).map vu8).toArray, .int .i64 4]) ∧ Below wx.heap.size wx w' := fun wx => by
    have h := parse_calls wx (65#8 :: noneText.drop 1)
    rw [parseRes_bad upper_bad, ← hS2] at h
    exact h
  have P3 : ∀ wx, Calls Tryd.prog 35 #[.string sN] wx fun e w' => e = .returned (.tuple #[.agg ((sha []).map vu8).toArray, .int .i64 0]) ∧ Below wx.heap.size wx w' := fun wx => by
    have h := parse_calls wx noneText
    rw [parseRes_ok none_ok, none_back, ← hN] at h
    exact h
  obtain ⟨Z, hZ⟩ : ∃ Z, List.replicate 32 0#8 = Z := ⟨_, rfl⟩
  obtain ⟨S0, hS0⟩ : ∃ S0, sha [] = S0 := ⟨_, rfl⟩
  have lZ : Z.length = 32 := by rw [← hZ]; simp
  have lS0 : S0.length = 32 := by rw [← hS0]; exact sha_length _
  rw [hZ] at P1 P2
  rw [hS0] at P3
  have HZ := Lib.hid hZ
  have HS0 := Lib.hid hS0
  clear hZ hS0
  have hP1 := Lib.hid P1
  have hP2 := Lib.hid P2
  have hP3 := Lib.hid P3
  clear hS1 hS2 P1 P2 P3
  have HN := Lib.hid hN
  have HA := Lib.hid hA
  clear hN hA hcN hcA hh2 hh3 hG2 hG3 v1 v2 q1 q2 hK1 hK2 hB1 hl1 hl2
  replace hh4 : HashIs w3 h [97#8, 98#8, 99#8] := hh4
  have hh3 := hh4
  clear hh4
  go_upto_region 7 with (first
    | (go_at_call 35; refine (hP1.out w3).mono ?_; rintro e w4 ⟨rfl, hB4⟩)
    | (refine wpList_alloc_row (by rfl) 25 (by rfl) _ _ info_d ?_)
    | (refine wpList_store_new (o := ⟨none, _, _, _, _, _⟩) (by rfl) 25 _ _ (by rfl) _ (Z.map vu8).toArray 25 (by rfl) (by rfl) (by rw [size_d]; simp [lZ]) (by simp [zeroNums, lZ]) (all_u8 _) ?_)
    | fail)
  have cB5 : Below w.heap.size w (w4.alloc (.cells (Z.map vu8).toArray 25)) := (cB3.trans (hB4.mono cB3.size)).trans ((hBA w4 _).mono (Nat.le_trans cB3.size hB4.size))
  have hh5 : HashIs (w4.alloc (.cells (Z.map vu8).toArray 25)) h [97#8, 98#8, 99#8] := (hh3.low hB4).low (hBA _ _)
  try simp only [Act.put, List.setIfInBounds_toArray, List.set_cons_zero, List.set_cons_succ]
  generalize (w4.alloc (.cells (Z.map vu8).toArray 25)) = w5 at *
  clear hh3 cB3 hB4
  go_upto_region 8 with (first
    | (go_at_call 35; refine (hP2.out w5).mono ?_; rintro e w6 ⟨rfl, hB6⟩)
    | (refine wpList_alloc_row (by rfl) 25 (by rfl) _ _ info_d ?_)
    | (refine wpList_store_new (o := ⟨none, _, _, _, _, _⟩) (by rfl) 25 _ _ (by rfl) _ (Z.map vu8).toArray 25 (by rfl) (by rfl) (by rw [size_d]; simp [lZ]) (by simp [zeroNums, lZ]) (all_u8 _) ?_)
    | fail)
  have cB7 : Below w.heap.size w (w6.alloc (.cells (Z.map vu8).toArray 25)) := (cB5.trans (hB6.mono cB5.size)).trans ((hBA w6 _).mono (Nat.le_trans cB5.size hB6.size))
  have hh7 : HashIs (w6.alloc (.cells (Z.map vu8).toArray 25)) h [97#8, 98#8, 99#8] := (hh5.low hB6).low (hBA _ _)
  try simp only [Act.put, List.setIfInBounds_toArray, List.set_cons_zero, List.set_cons_succ]
  generalize (w6.alloc (.cells (Z.map vu8).toArray 25)) = w7 at *
  clear hh5 cB5 hB6
  go_upto_region 9 with (first
    | (go_at_call 35; refine (hP3.out w7).mono ?_; rintro e w8 ⟨rfl, hB8⟩)
    | (refine wpList_alloc_row (by rfl) 25 (by rfl) _ _ info_d ?_)
    | (refine wpList_store_new (o := ⟨none, _, _, _, _, _⟩) (by rfl) 25 _ _ (by rfl) _ (S0.map vu8).toArray 25 (by rfl) (by rfl) (by rw [size_d]; simp [lS0]) (by simp [zeroNums, lS0]) (all_u8 _) ?_)
    | fail)
  have cB9 : Below w.heap.size w (w8.alloc (.cells (S0.map vu8).toArray 25)) := (cB7.trans (hB8.mono cB7.size)).trans ((hBA w8 _).mono (Nat.le_trans cB7.size hB8.size))
  have hh9 : HashIs (w8.alloc (.cells (S0.map vu8).toArray 25)) h [97#8, 98#8, 99#8] := (hh7.low hB8).low (hBA _ _)
  have hD9 := Whole.new w8 25 (S0.map vu8).toArray
  have zD : w8.heap.size < (w8.alloc (.cells (S0.map vu8).toArray 25)).heap.size := by simp
  try simp only [Act.put, List.setIfInBounds_toArray, List.set_cons_zero, List.set_cons_succ]
  generalize (w8.alloc (.cells (S0.map vu8).toArray 25)) = w9 at *
  generalize w8.heap.size = D at *
  clear hh7 cB7 hB8
  have hk9 : KnownIn w w9 h D S0 := ⟨cB9, hh9, range_whole hD9, zD⟩
  refine known_end w w9 h D S0 sN sA hK hk9 HS0.out HN.out HA.out ?_
  intros
  go_wp2
  go_ret
  refine ⟨rfl, ?_⟩
  rename_i hkn
  exact hkn.1

open Go.ChangeShapes Go.WideShapes in
theorem digestKnown_answers {H : Type} {enc : TypeId × Value → H} (W : World) (base : Nat) (args : Array Value) (ds gs : List (DataW H)) (before : List MemPlace)
    (_ : ∀ (j : Nat) t v, Tryd.f9.params[j]? = some t → args[j]? = some v → Value.okWide Tryd.prog W .any base t v)
    (hW : DataW.Whole enc Tryd.prog Tryd.f9.params.toList Rows.digestKnownSpec.vars false W args.toList ds gs before)
    (_ : (DataW.weightsEach Tryd.prog (Tryd.f9.params.toList ++ Rows.digestKnownSpec.plain.varTypes Tryd.prog) (ds ++ gs)).all (· ≤ reachBytes) = true)
    (hL : laidMetH Tryd.prog Rows.digestKnownRow.laid W) : Answers Tryd.prog 9 args W := by
  obtain ⟨p, q, hA, _, _, _, _⟩ := hW
  rw [Tryd.params9] at hA
  have hargs : args = #[] := by
    have h := (trodAll_nil hA).1
    cases args
    simpa using h
  subst hargs
  exact digestKnown_calls W (ktab_of hL)

end Go.Proofs.YtngklnijmhlikaaDoor
