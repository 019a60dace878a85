/- MacKnown: the chapter's examples are answered as it says. -/
import Derived.Test.YtngklnijmhlikaaDoorDerive
import Derived.Test.YtngklnijmhlikaaDoorKnownEnd
namespace Go.Proofs.YtngklnijmhlikaaDoor
open Go.RowKit

theorem bytesAt_u8 (w : World) (t : TypeId) (ys : List (BitVec 8)) (c : Nat) : SliceIs (w.alloc (.cells (ys.map vu8).toArray t)) (.slice (some ⟨w.heap.size, 0, Option.none⟩) ys.length c) ys := SliceIs.marked w t (0, 0) ys c

theorem wpList_load_row_want {P : Program} {ops : Array Oper} {rest : List Oper} {o : Oper} {a : Act} {w : World} {Q : Exit → Act → World → Prop} (hw : Region.wanted o (yielded ops a.tmps) = true) (ty : TypeId) (x : Operand) (ho : o.op = .load ty x)
    (g : Nat) (hx : a.eval x = .pointer (some ⟨g, 0, Option.none⟩)) (t : TypeId) (cs : Array Value) (fr : Nat × Nat) (d : TypeDesc) (hg : w.heap[g]? = some (.cells cs t fr))
    (hu : P.underlying ty = some d) (hd : (match d with | .struct _ | .array _ _ => true | _ => false) = true) (hi : (P.info? ty).map (·.size) = some cs.size)
    (h : wpList P ops Q rest (a.put o.dst (.agg cs)) w) : wpList P ops Q (o :: rest) a w :=
  wpList_step fun K hK => by
    rw [if_pos hw]
    exact wp_load_row ty x ho g hx t cs fr d hg hu hd hi (hK _ _ h)

set_option maxRecDepth 100000 in
set_option maxHeartbeats 2000000 in
theorem macKnown_calls (w : World) (hK : KTab w) : Calls Tryd.prog 11 #[] w fun e w' => e = .returned (.bool true) ∧ Below w.heap.size w w' := by
  have hBA : ∀ (wx : World) o, Below wx.heap.size wx (wx.alloc o) := fun wx o => (Below.refl _ _).alloc (Nat.le_refl _) o
  obtain ⟨M1, hM1⟩ : ∃ M, macCode (fromOf 11#8 0#8 20) hiText = M := ⟨_, rfl⟩
  obtain ⟨M2, hM2⟩ : ∃ M, macCode jefeText whatText = M := ⟨_, rfl⟩
  obtain ⟨E, hE⟩ : ∃ E, expandOf (macCode (fromOf 0#8 1#8 13) (fromOf 11#8 0#8 22)) (fromOf 240#8 1#8 10) 42 = E := ⟨_, rfl⟩
  have l1 : M1.length = 32 := by rw [← hM1]; exact macCode_length _ _
  have l2 : M2.length = 32 := by rw [← hM2]; exact macCode_length _ _
  have lE : E.length = 42 := by rw [← hE]; exact expandOf_length _ _ _
  have eE : E[0]? = some 60#8 ∧ E[1]? = some 178#8 ∧ E[40]? = some 88#8 ∧ E[41]? = some 101#8 := by rw [← hE]; exact derived_is
  go_enter Tryd.func11, Tryd.ntmps11
  generalize hc1 : (⟨#[98, 48, 51, 52, 52, 99, 54, 49, 100, 56, 100, 98, 51, 56, 53, 51, 53, 99, 97, 56, 97, 102, 99, 101, 97, 102, 48, 98, 102, 49, 50, 98, 56, 56, 49, 100, 99, 50, 48, 48, 99, 57, 56, 51, 51, 100, 97, 55, 50, 54, 101, 57, 51, 55, 54, 99, 50, 101, 51, 50, 99, 102, 102, 55]⟩ : ByteArray) = s1
  generalize hc2 : (⟨#[53, 98, 100, 99, 99, 49, 52, 54, 98, 102, 54, 48, 55, 53, 52, 101, 54, 97, 48, 52, 50, 52, 50, 54, 48, 56, 57, 53, 55, 53, 99, 55, 53, 97, 48, 48, 51, 102, 48, 56, 57, 100, 50, 55, 51, 57, 56, 51, 57, 100, 101, 99, 53, 56, 98, 57, 54, 52, 101, 99, 51, 56, 52, 51]⟩ : ByteArray) = s2
  have e1 : textOf (hexText M1) = s1 := by rw [← hM1, code1_is, ← hc1]; kernel_rfl
  have e2 : textOf (hexText M2) = s2 := by rw [← hM2, code2_is, ← hc2]; kernel_rfl
  have T1 := Lib.hid (fun (wx : World) => e1 ▸ text_calls wx M1 l1)
  have T2 := Lib.hid (fun (wx : World) => e2 ▸ text_calls wx M2 l2)
  have CC1 := Lib.hid (fun (wx : World) (sk sb : Value) (hk : SliceIs wx sk (fromOf 11#8 0#8 20)) (hb : SliceIs wx sb hiText) (hkt : KTab wx) => hM1 ▸ code_calls wx sk sb _ _ hk hb hkt (by simp [fromOf_length]) (by simp [hiText]))
  have CC2 := Lib.hid (fun (wx : World) (sk sb : Value) (hk : SliceIs wx sk jefeText) (hb : SliceIs wx sb whatText) (hkt : KTab wx) => hM2 ▸ code_calls wx sk sb _ _ hk hb hkt (by simp [jefeText]) (by simp [whatText]))
  have DD := Lib.hid (fun (wx : World) (ss sm si : Value) (hs : SliceIs wx ss (fromOf 0#8 1#8 13)) (hm : SliceIs wx sm (fromOf 11#8 0#8 22)) (hi : SliceIs wx si (fromOf 240#8 1#8 10)) (hkt : KTab wx) => hE ▸ derive_calls wx ss sm si _ _ _ 42 hs hm hi hkt (by simp [fromOf_length]) (by simp [fromOf_length]) (by simp [fromOf_length]) (by omega))
  clear hM1 hM2 hE hc1 hc2 e1 e2
  go_upto_region 2 with (first
    | (go_at_call 28; refine (CC1.out (w1.alloc (.cells #[.int .u8 72, .int .u8 105, .int .u8 32, .int .u8 84, .int .u8 104, .int .u8 101, .int .u8 114, .int .u8 101] 5 (8, 9))) _ _ (hO1.slice.low (hBA _ _)) (SliceIs.marked w1 _ _ hiText 8) ((hK.below hB1 hK.1).below (hBA _ _) (hK.below hB1 hK.1).1)).mono ?_; rintro e w2 ⟨rfl, hB2⟩)
    | (go_at_call 46; refine (from_calls w _ _ 11#8 0#8 20 (by rfl) (by rfl) (by omega)).mono ?_; rintro e w1 ⟨u1, rfl, hO1, hB1⟩
       have v1 := Lib.run_convert_bytes_const w1 22 5 #[.int .u8 72, .int .u8 105, .int .u8 32, .int .u8 84, .int .u8 104, .int .u8 101, .int .u8 114, .int .u8 101] 8 8 Tryd.underlying22 Tryd.underlying5)
    | (refine wpList_alloc_row (by rfl) 25 (by rfl) _ _ info_d ?_)
    | (refine wpList_store_new (o := ⟨none, _, _, _, _, _⟩) (by rfl) 25 _ _ (by rfl) _ (M1.map vu8).toArray 25 (by rfl) (by rfl) (by rw [size_d]; simp [l1]) (by simp [zeroNums, l1]) (all_u8 _) ?_)
    | fail)
  have cB2 := (hB1.trans ((hBA w1 (.cells #[.int .u8 72, .int .u8 105, .int .u8 32, .int .u8 84, .int .u8 104, .int .u8 101, .int .u8 114, .int .u8 101] 5 (8, 9))).mono hB1.size))
  replace cB2 := cB2.trans (hB2.mono cB2.size)
  clear v1 hB2 hO1 hB1
  try simp only [Act.put, List.setIfInBounds_toArray, List.set_cons_zero, List.set_cons_succ]
  have hD1 := Whole.new w2 25 (M1.map vu8).toArray
  have zD1 : w2.heap.size < (w2.alloc (.cells (M1.map vu8).toArray 25)).heap.size := by simp
  have cB3 := cB2.trans ((hBA w2 (.cells (M1.map vu8).toArray 25)).mono cB2.size)
  generalize (w2.alloc (.cells (M1.map vu8).toArray 25)) = w3 at *
  generalize w2.heap.size = D1 at *
  replace hD1 : Whole w3 D1 25 (M1.map vu8) := hD1

  clear cB2
  have v2 := Lib.run_convert_bytes_const w3 22 5 #[.int .u8 74, .int .u8 101, .int .u8 102, .int .u8 101] 4 4 Tryd.underlying22 Tryd.underlying5
  have v3 := Lib.run_convert_bytes_const (w3.alloc (.cells #[.int .u8 74, .int .u8 101, .int .u8 102, .int .u8 101] 5 (4, 5))) 22 5 #[.int .u8 119, .int .u8 104, .int .u8 97, .int .u8 116, .int .u8 32, .int .u8 100, .int .u8 111, .int .u8 32, .int .u8 121, .int .u8 97, .int .u8 32, .int .u8 119, .int .u8 97, .int .u8 110, .int .u8 116, .int .u8 32, .int .u8 102, .int .u8 111, .int .u8 114, .int .u8 32, .int .u8 110, .int .u8 111, .int .u8 116, .int .u8 104, .int .u8 105, .int .u8 110, .int .u8 103, .int .u8 63] 28 28 Tryd.underlying22 Tryd.underlying5
  rw [World.size_alloc] at v3
  have cB3b := cB3.trans ((((Below.refl _ _).alloc (Nat.le_refl _) (.cells #[.int .u8 74, .int .u8 101, .int .u8 102, .int .u8 101] 5 (4, 5))).alloc (by simp) (.cells #[.int .u8 119, .int .u8 104, .int .u8 97, .int .u8 116, .int .u8 32, .int .u8 100, .int .u8 111, .int .u8 32, .int .u8 121, .int .u8 97, .int .u8 32, .int .u8 119, .int .u8 97, .int .u8 110, .int .u8 116, .int .u8 32, .int .u8 102, .int .u8 111, .int .u8 114, .int .u8 32, .int .u8 110, .int .u8 111, .int .u8 116, .int .u8 104, .int .u8 105, .int .u8 110, .int .u8 103, .int .u8 63] 5 (28, 29)) : Below w3.heap.size w3 _).mono cB3.size)
  have sA : SliceIs ((w3.alloc (.cells #[.int .u8 74, .int .u8 101, .int .u8 102, .int .u8 101] 5 (4, 5))).alloc (.cells #[.int .u8 119, .int .u8 104, .int .u8 97, .int .u8 116, .int .u8 32, .int .u8 100, .int .u8 111, .int .u8 32, .int .u8 121, .int .u8 97, .int .u8 32, .int .u8 119, .int .u8 97, .int .u8 110, .int .u8 116, .int .u8 32, .int .u8 102, .int .u8 111, .int .u8 114, .int .u8 32, .int .u8 110, .int .u8 111, .int .u8 116, .int .u8 104, .int .u8 105, .int .u8 110, .int .u8 103, .int .u8 63] 5 (28, 29))) (.slice (some ⟨w3.heap.size, 0, none⟩) 4 4) jefeText := (SliceIs.marked w3 _ _ jefeText 4).low (hBA _ _)
  have sB : SliceIs ((w3.alloc (.cells #[.int .u8 74, .int .u8 101, .int .u8 102, .int .u8 101] 5 (4, 5))).alloc (.cells #[.int .u8 119, .int .u8 104, .int .u8 97, .int .u8 116, .int .u8 32, .int .u8 100, .int .u8 111, .int .u8 32, .int .u8 121, .int .u8 97, .int .u8 32, .int .u8 119, .int .u8 97, .int .u8 110, .int .u8 116, .int .u8 32, .int .u8 102, .int .u8 111, .int .u8 114, .int .u8 32, .int .u8 110, .int .u8 111, .int .u8 116, .int .u8 104, .int .u8 105, .int .u8 110, .int .u8 103, .int .u8 63] 5 (28, 29))) (.slice (some ⟨w3.heap.size + 1, 0, none⟩) 28 28) whatText := by
    have h := SliceIs.marked (w3.alloc (.cells #[.int .u8 74, .int .u8 101, .int .u8 102, .int .u8 101] 5 (4, 5))) 5 (28, 29) whatText 28
    rw [World.size_alloc] at h
    exact h
  go_upto_region 3 with (first
    | (go_at_call 28; refine (CC2.out _ _ _ sA sB (hK.below cB3b hK.1)).mono ?_; rintro e w4 ⟨rfl, hB4⟩)
    | (refine wpList_alloc_row (by rfl) 25 (by rfl) _ _ info_d ?_)
    | (refine wpList_store_new (o := ⟨none, _, _, _, _, _⟩) (by rfl) 25 _ _ (by rfl) _ (M2.map vu8).toArray 25 (by rfl) (by rfl) (by rw [size_d]; simp [l2]) (by simp [zeroNums, l2]) (all_u8 _) ?_)
    | fail)
  have cB4 := cB3b.trans (hB4.mono cB3b.size)
  have hD1b := (hD1.alloc (.cells #[.int .u8 74, .int .u8 101, .int .u8 102, .int .u8 101] 5 (4, 5))).alloc (.cells #[.int .u8 119, .int .u8 104, .int .u8 97, .int .u8 116, .int .u8 32, .int .u8 100, .int .u8 111, .int .u8 32, .int .u8 121, .int .u8 97, .int .u8 32, .int .u8 119, .int .u8 97, .int .u8 110, .int .u8 116, .int .u8 32, .int .u8 102, .int .u8 111, .int .u8 114, .int .u8 32, .int .u8 110, .int .u8 111, .int .u8 116, .int .u8 104, .int .u8 105, .int .u8 110, .int .u8 103, .int .u8 63] 5 (28, 29))
  replace hD1 := hD1b.below hB4 hD1b.lt
  clear v2 v3 hB4 sA sB cB3b cB3 hD1b zD1
  replace hD1 := hD1.alloc (.cells (M2.map vu8).toArray 25)
  try simp only [Act.put, List.setIfInBounds_toArray, List.set_cons_zero, List.set_cons_succ]
  have hD2 := Whole.new w4 25 (M2.map vu8).toArray
  have zD2 : w4.heap.size < (w4.alloc (.cells (M2.map vu8).toArray 25)).heap.size := by simp
  have cB5 := cB4.trans ((hBA w4 (.cells (M2.map vu8).toArray 25)).mono cB4.size)
  generalize (w4.alloc (.cells (M2.map vu8).toArray 25)) = w5 at *
  generalize w4.heap.size = D2 at *
  replace hD2 : Whole w5 D2 25 (M2.map vu8) := hD2

  clear cB4
  have hK5 := hK.below cB5 hK.1
  go_upto_region 4 with (first
    | (go_at_call 43; refine (DD.out w8 _ _ _ (hO6.slice.low (hB7.trans (hB8.mono hB7.size))) (hO7.slice.low hB8) hO8.slice hK8).mono ?_; rintro e w9 ⟨c, rfl, hO9, hB9⟩)
    | (go_at_call 46; refine (from_calls w7 _ _ 240#8 1#8 10 (by rfl) (by rfl) (by omega)).mono ?_; rintro e w8 ⟨u8, rfl, hO8, hB8⟩
       have hK8 := hK7.below hB8 hK7.1)
    | (go_at_call 46; refine (from_calls w6 _ _ 11#8 0#8 22 (by rfl) (by rfl) (by omega)).mono ?_; rintro e w7 ⟨u7, rfl, hO7, hB7⟩
       have hK7 := hK6.below hB7 hK6.1)
    | (go_at_call 46; refine (from_calls w5 _ _ 0#8 1#8 13 (by rfl) (by rfl) (by omega)).mono ?_; rintro e w6 ⟨u6, rfl, hO6, hB6⟩
       have hK6 := hK5.below hB6 hK5.1)
    | fail)
  have hB59 : Below w5.heap.size w5 w9 := hB6.trans ((hB7.trans ((hB8.trans (hB9.mono hB8.size)).mono hB7.size)).mono hB6.size)
  replace hD1 := hD1.below hB59 hD1.lt
  replace hD2 := hD2.below hB59 hD2.lt
  have cB9 := cB5.trans (hB59.mono cB5.size)
  have hK9 := hK.below cB9 hK.1
  clear hB59 hB6 hB7 hB8 hB9 hO6 hO7 hO8 hK6 hK7 hK8 hK5 cB5
  obtain ⟨gc, kc, rfl, _, gl, hby, _, _⟩ := hO9.full (by rintro rfl; simp at lE)
  rw [lE]
  go_upto_region 5 with (first
    | (go_at_call 41; refine (expand_calls w9 _ _ [] [] 0 (SliceIs.none _) (SliceIs.none _) hK9 (by simp) (by simp) (by omega)).mono ?_; rintro e w10 ⟨b, rfl, hO10, hB10⟩)
    | fail)
  replace hD1 := hD1.below hB10 hD1.lt
  replace hD2 := hD2.below hB10 hD2.lt
  have hby' := hby.below hB10 gl
  have cB10 := cB9.trans (hB10.mono cB9.size)
  have hEe : expandOf [] [] 0 = [] := List.length_eq_zero_iff.1 (expandOf_length _ _ _)
  rw [hEe] at hO10
  obtain ⟨bp, bc, rfl, _⟩ := hO10.slice.cells
  clear cB9 hO9 hB10 hO10 hEe hK9
  go_upto_region 6 with (first
    | (go_at_call 41; refine (expand_bad w10 _ _ 8161 (by omega)).mono ?_; rintro e w11 ⟨rfl, rfl⟩)
    | fail)
  have c0 : w10.cell? ⟨gc, 0, none⟩ = some (vu8 60#8) := by have h := hby' 0 _ eE.1; rwa [Nat.zero_add] at h
  have c1 : w10.cell? ⟨gc, 1, none⟩ = some (vu8 178#8) := by have h := hby' 1 _ eE.2.1; rwa [Nat.zero_add] at h
  have c2 : w10.cell? ⟨gc, 40, none⟩ = some (vu8 88#8) := by have h := hby' 40 _ eE.2.2.1; rwa [Nat.zero_add] at h
  have c3 : w10.cell? ⟨gc, 41, none⟩ = some (vu8 101#8) := by have h := hby' 41 _ eE.2.2.2; rwa [Nat.zero_add] at h
  go_upto_region 8 with (fail)
  have q1 : ∀ (wx : World) o, SliceIs ((wx.alloc (.cells #[.int .u8 1, .int .u8 2] 5)).alloc o) (.slice (some ⟨wx.heap.size, 0, Option.none⟩) 2 2) [1#8, 2#8] := fun wx o => (bytesAt_u8 wx _ [1#8, 2#8] 2).low (hBA _ _)
  have q2 : ∀ (wx : World), SliceIs ((wx.alloc (.cells #[.int .u8 1, .int .u8 2] 5)).alloc (.cells #[.int .u8 1, .int .u8 2] 5)) (.slice (some ⟨wx.heap.size + 1, 0, Option.none⟩) 2 2) [1#8, 2#8] := fun wx => by
    have h := bytesAt_u8 (wx.alloc (.cells #[.int .u8 1, .int .u8 2] 5)) 5 [1#8, 2#8] 2
    rw [World.size_alloc] at h
    exact h
  have q3 : ∀ (wx : World), SliceIs ((wx.alloc (.cells #[.int .u8 1, .int .u8 2] 5)).alloc (.cells #[.int .u8 1] 5)) (.slice (some ⟨wx.heap.size + 1, 0, Option.none⟩) 1 1) [1#8] := fun wx => by
    have h := bytesAt_u8 (wx.alloc (.cells #[.int .u8 1, .int .u8 2] 5)) 5 [1#8] 1
    rw [World.size_alloc] at h
    exact h
  clear hby hby' c0 c1 c2 c3 CC1 CC2 DD eE lE gl
  go_wp2_with (first
    | (refine wpList_load_row_want (o := ⟨some 81, _, _, _, _, _⟩) (by kernel_rfl) 25 _ (by rfl) D2 (by rfl) 25 (M2.map vu8).toArray (0, 0) _ hD2' Tryd.underlying25 (by rfl) (by rw [size_d]; simp [l2]) ?_)
    | (refine wpList_load_row (by rfl) 25 _ (by rfl) D1 (by rfl) 25 (M1.map vu8).toArray (0, 0) _ hD1 Tryd.underlying25 (by rfl) (by rw [size_d]; simp [l1]) ?_)
    | (go_at_call 31; refine (macsame_calls w14 _ _ [] [] (SliceIs.none _) (SliceIs.none _) (by simp)).mono ?_; rintro e w15 ⟨rfl, hB15⟩)
    | (go_at_call 31; refine (macsame_calls _ _ _ [1#8, 2#8] [1#8] (q1 w13 (.cells #[.int .u8 1] 5)) (q3 w13) (by simp)).mono ?_; rintro e w14 ⟨rfl, hB14⟩)
    | (go_at_call 31; refine (macsame_calls _ _ _ [1#8, 2#8] [1#8, 2#8] (q1 w12 (.cells #[.int .u8 1, .int .u8 2] 5)) (q2 w12) (by simp)).mono ?_; rintro e w13 ⟨rfl, hB13⟩)
    | (go_at_call 39; refine (T2.out w11).mono ?_; rintro e w12 ⟨rfl, hB12⟩)
    | (go_at_call 39; refine (T1.out w10).mono ?_; rintro e w11 ⟨rfl, hB11⟩
       have hD2' := hD2.below hB11 hD2.lt)
    | fail)
  go_ret
  refine ⟨rfl, ?_⟩
  have hB2 : ∀ (wx : World) o1 o2, Below wx.heap.size wx ((wx.alloc o1).alloc o2) := fun wx o1 o2 => (hBA wx o1).trans ((hBA _ o2).mono (by simp))
  have z := cB10.size
  have b12 := cB10.trans ((hB11.trans (hB12.mono hB11.size)).mono z)
  have b13 := b12.trans (((hB2 w12 _ _).trans (hB13.mono (by simp; omega))).mono b12.size)
  have b14 := b13.trans (((hB2 w13 _ _).trans (hB14.mono (by simp; omega))).mono b13.size)
  exact b14.trans (hB15.mono b14.size)

open Go.ChangeShapes Go.WideShapes in
theorem macKnown_answers {H : Type} {enc : TypeId × Value → H} (W : World) (base : Nat) (args : Array Value) (ds gs : List (DataW H)) (before : List MemPlace)
    (_ : ∀ (j : Nat) t v, Tryd.f11.params[j]? = some t → args[j]? = some v → Value.okWide Tryd.prog W .any base t v)
    (hW : DataW.Whole enc Tryd.prog Tryd.f11.params.toList Rows.macKnownSpec.vars false W args.toList ds gs before)
    (_ : (DataW.weightsEach Tryd.prog (Tryd.f11.params.toList ++ Rows.macKnownSpec.plain.varTypes Tryd.prog) (ds ++ gs)).all (· ≤ reachBytes) = true)
    (hL : laidMetH Tryd.prog Rows.macKnownRow.laid W) : Answers Tryd.prog 11 args W := by
  obtain ⟨p, q, hA, _, _, _, _⟩ := hW
  rw [Tryd.params11] at hA
  have hargs : args = #[] := by
    have h := (trodAll_nil hA).1
    cases args
    simpa using h
  subst hargs
  exact macKnown_calls W (ktab_of hL)

end Go.Proofs.YtngklnijmhlikaaDoor
