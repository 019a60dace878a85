/- MacBegins: fewer bytes are the beginning of more; a key filled with bytes 0 is the same key. -/
import Derived.Test.YtngklnijmhlikaaDoorMacKnown
namespace Go.Proofs.YtngklnijmhlikaaDoor
open Go.RowKit

theorem trodAll_four {H : Type} {enc : TypeId × Value → H} {P : Program} {w : World} {base : Nat} {spare : Nat → Bool} {held : Bool} {t0 t1 t2 t3 : TypeId} {args : Array Value} {ds : List (DataW H)} {ps : List MemPlace} (h : DataW.TrodAll enc P w base spare held [t0, t1, t2, t3] args.toList ds ps) :
    ∃ v0 v1 v2 v3 d0 d1 d2 d3 p0 p1 p2 p3, args = #[v0, v1, v2, v3] ∧ ds = [d0, d1, d2, d3] ∧ DataW.Trod enc P w base spare held t0 v0 d0 p0 ∧ DataW.Trod enc P w base spare held t1 v1 d1 p1 ∧ DataW.Trod enc P w base spare held t2 v2 d2 p2 ∧ DataW.Trod enc P w base spare held t3 v3 d3 p3 := by
  obtain ⟨v0, vs0, d0, ds0, p0, q0, e0, rfl, rfl, h0, r0⟩ := Go.ChangeShapes.trodAll_cons h
  obtain ⟨v1, vs1, d1, ds1, p1, q1, rfl, rfl, rfl, h1, r1⟩ := Go.ChangeShapes.trodAll_cons r0
  obtain ⟨v2, vs2, d2, ds2, p2, q2, rfl, rfl, rfl, h2, r2⟩ := Go.ChangeShapes.trodAll_cons r1
  obtain ⟨v3, vs3, d3, ds3, p3, q3, rfl, rfl, rfl, h3, r3⟩ := Go.ChangeShapes.trodAll_cons r2
  obtain ⟨rfl, rfl, rfl⟩ := Go.ChangeShapes.trodAll_nil r3
  refine ⟨v0, v1, v2, v3, d0, d1, d2, d3, p0, p1, p2, p3, ?_, rfl, h0, h1, h2, h3⟩
  exact Array.toList_inj.1 e0

theorem pieces_prefix (key info : List (BitVec 8)) (k : Nat) : ∀ j, (piecesTo key info (k + j)).take (32 * k) = piecesTo key info k
  | 0 => by
    rw [Nat.add_zero, List.take_of_length_le]
    rw [piecesTo_length]
    omega
  | j + 1 => by
    rw [show k + (j + 1) = (k + j) + 1 from rfl]
    simp only [piecesTo]
    rw [List.take_append_of_le_length (by rw [piecesTo_length]; omega)]
    exact pieces_prefix key info k j
theorem expand_begins (key info : List (BitVec 8)) (n m : Nat) : (expandOf key info (n + m)).take n = expandOf key info n := by
  unfold expandOf
  rw [List.take_take, Nat.min_eq_left (by omega)]
  obtain ⟨j, hj⟩ : ∃ j, (n + m + 31) / 32 = (n + 31) / 32 + j := ⟨(n + m + 31) / 32 - (n + 31) / 32, by omega⟩
  rw [hj, ← pieces_prefix key info ((n + 31) / 32) j, List.take_take, Nat.min_eq_left (by omega)]
theorem keyBlock_zero (key : List (BitVec 8)) (h : key.length + 1 ≤ 64) : keyBlock (key ++ [0#8]) = keyBlock key := by
  have h1 : keyOf (key ++ [0#8]) = key ++ [0#8] := if_neg (by simp; omega)
  have h2 : keyOf key = key := if_neg (by omega)
  unfold keyBlock
  rw [h1, h2, List.append_assoc]
  congr 1
  rw [List.length_append, List.length_singleton, show 64 - key.length = (64 - (key.length + 1)) + 1 from by omega, List.replicate_succ]
  rfl
theorem macCode_zero (key b : List (BitVec 8)) (h : key.length + 1 ≤ 64) : macCode (key ++ [0#8]) b = macCode key b := by
  unfold macCode
  rw [keyBlock_zero key h]

theorem pick_calls (w : World) (x : Int) (n : Nat) (h0 : 0 < n) (hn : n ≤ 1000000000) : Calls Tryd.prog 47 #[.int .i64 x, .int .i64 n] w fun e w' => ∃ k : Nat, e = .returned (.int .i64 k) ∧ k < n ∧ w = w' := by
  have i0 : ¬ (n : Int) < 1 := by omega
  have i1 : ¬ (n : Int) = 0 := by omega
  have a1 : x.tmod n < n := Int.tmod_lt_of_pos x (by omega)
  have a2 : -(n : Int) < x.tmod n := by
    have := Int.lt_tmod_of_pos x (b := (n : Int)) (by omega)
    omega
  obtain ⟨r, hr⟩ : ∃ r, x.tmod n = r := ⟨_, rfl⟩
  rw [hr] at a1 a2
  have s1 : IntKind.i64.wrap (x.tmod n) = r := by
    rw [hr]
    exact IntWalk.i64_in _ (by omega)
  have s2 : IntKind.i64.wrap r = r := IntWalk.i64_in _ (by omega)
  by_cases hneg : r < 0
  · have s3 : IntKind.i64.wrap (r + n) = r + n := IntWalk.i64_in _ (by omega)
    go_enter Tryd.func47, Tryd.ntmps47
    go_wp2
    go_ret
    refine ⟨(r + n).toNat, ?_, by omega, rfl⟩
    rw [Int.toNat_of_nonneg (by omega)]
    rfl
  · go_enter Tryd.func47, Tryd.ntmps47
    go_wp2
    go_ret
    refine ⟨r.toNat, ?_, by omega, rfl⟩
    rw [Int.toNat_of_nonneg (by omega)]
    rfl

set_option maxRecDepth 100000 in
set_option maxHeartbeats 2000000 in
theorem macBegins_walk (w : World) (v0 v1 : Value) (key info : List (BitVec 8)) (x y : Int) (hk : SliceIs w v0 key) (hi : SliceIs w v1 info) (hK : KTab w) :
    Calls Tryd.prog 12 #[v0, v1, .int .i64 x, .int .i64 y] w fun e w' => e = .returned (.bool true) ∧ Below w.heap.size w w' := by
  have hk0 := hk
  have hi0 := hi
  obtain ⟨kp, kc, rfl, _⟩ := hk.cells
  obtain ⟨ip, ic, rfl, _⟩ := hi.cells
  obtain ⟨L, hL⟩ : ∃ L, key.length = L := ⟨_, rfl⟩
  obtain ⟨M, hM⟩ : ∃ M, info.length = M := ⟨_, rfl⟩
  rw [hL] at hk0 ⊢
  rw [hM] at hi0 ⊢
  clear hk hi
  go_enter Tryd.func12, Tryd.ntmps12
  by_cases h1 : 2000 < L
  · have i1 : (2000 : Int) < (L : Int) := by omega
    go_wp2_with (first
      | (go_at_call 11; refine (macKnown_calls w hK).mono ?_; rintro e w1 ⟨rfl, hB1⟩)
      | fail)
    go_ret
    exact ⟨rfl, hB1⟩
  have i1 : ¬ (2000 : Int) < (L : Int) := by omega
  by_cases h2 : 2000 < M
  · have i2 : (2000 : Int) < (M : Int) := by omega
    go_wp2_with (first
      | (go_at_call 11; refine (macKnown_calls w hK).mono ?_; rintro e w1 ⟨rfl, hB1⟩)
      | fail)
    go_ret
    exact ⟨rfl, hB1⟩
  have i2 : ¬ (2000 : Int) < (M : Int) := by omega
  go_upto_region 6 with (first
    | (go_at_call 47; refine (pick_calls w2 y 400 (by omega) (by omega)).mono ?_; rintro e w3 ⟨m, rfl, hm, e3⟩)
    | (go_at_call 47; refine (pick_calls w1 x 400 (by omega) (by omega)).mono ?_; rintro e w2 ⟨n, rfl, hn, e2⟩)
    | (go_at_call 11; refine (macKnown_calls w hK).mono ?_; rintro e w1 ⟨rfl, hB1⟩)
    | fail)
  subst e2 e3
  have hK1 := hK.below hB1 hK.1
  have hk1 := hk0.low hB1
  have hi1 := hi0.low hB1
  obtain ⟨T, hT⟩ : ∃ T, n + m = T := ⟨_, rfl⟩
  have eT : (n : Int) + (m : Int) = (T : Int) := by omega
  have s1 : IntKind.i64.wrap ((n : Int) + (m : Int)) = (T : Int) := by rw [eT]; exact IntWalk.i64_in _ (by omega)
  have la : (expandOf key info n).length = n := expandOf_length _ _ _
  have lb : (expandOf key info T).length = T := expandOf_length _ _ _
  have hbeg : (expandOf key info T).take n = expandOf key info n := by rw [← hT]; exact expand_begins key info n m
  obtain ⟨X, hX⟩ : ∃ X, expandOf key info n = X := ⟨_, rfl⟩
  obtain ⟨Y, hY⟩ : ∃ Y, expandOf key info T = Y := ⟨_, rfl⟩
  rw [hX] at la hbeg
  rw [hY] at lb hbeg
  have CA := Lib.hid (fun (wx : World) (sk si : Value) (hk : SliceIs wx sk key) (hi : SliceIs wx si info) (hkt : KTab wx) => hX ▸ expand_calls wx sk si key info n hk hi hkt (by omega) (by omega) (by omega))
  have CB := Lib.hid (fun (wx : World) (sk si : Value) (hk : SliceIs wx sk key) (hi : SliceIs wx si info) (hkt : KTab wx) => hY ▸ expand_calls wx sk si key info T hk hi hkt (by omega) (by omega) (by omega))
  have hnT : n ≤ T := by omega
  clear hX hY eT hT
  go_upto_region 8 with (first
    | (go_at_call 41; refine (CB.out w4 _ _ (hk1.low hB4) (hi1.low hB4) (hK1.below hB4 hK1.1)).mono ?_; rintro e w5 ⟨b, rfl, hO5, hB5⟩)
    | (go_at_call 41; refine (CA.out w1 _ _ hk1 hi1 hK1).mono ?_; rintro e w4 ⟨a, rfl, hO4, hB4⟩)
    | fail)
  have hO4' := hO4.low hB5
  have cB5 := hB1.trans ((hB4.trans (hB5.mono hB4.size)).mono hB1.size)
  have hK5 := hK.below cB5 hK.1
  have hk5 := hk0.low cB5
  have hi5 := hi0.low cB5
  have hR5 := hO5.rest
  have hSa := hO4'.slice
  obtain ⟨ap, ac, rfl, _⟩ := hSa.cells
  obtain ⟨bp, bc, rfl, _⟩ := hO5.slice.cells
  rw [la] at hSa
  rw [la, lb]
  rw [lb] at hR5
  obtain ⟨ad1, c1, ad2, c2, x1, x2, R1, R2⟩ := rest_cut lb hR5 hnT
  rw [hbeg] at R1
  have hSb := R1.slice
  clear x2 R2 R1 hR5 hO4 hO5 hO4' hB4 hB5 hk1 hi1 hK1
  go_upto_region 10 with (first
    | (go_at_call 32; refine (same_calls _ _ _ X X hSa hSb).mono ?_; rintro e w6 ⟨rfl, e6⟩)
    | fail)
  subst e6
  have hBA : ∀ (wx : World) o, Below wx.heap.size wx (wx.alloc o) := fun wx o => (Below.refl _ _).alloc (Nat.le_refl _) o
  go_upto_region 11 with (first
    | (at_builtin; refine wpList_append_bytes (by rfl) (.tmp 74) (.tmp 75) (by rfl) w5.heap.size u6 key (by rfl) (hO6.low (hBA _ _)) _ [0#8] (by rfl) (bytesAt_u8 w6 _ [0#8] 1) (by simp; omega) (by simpa using Nat.le_succ_of_le hB6.size) ?_; intro v7 w7 hO7 hG7)
    | (go_at_call 27; refine (copy_calls w5 _ key hk5 (by omega)).mono ?_; rintro e w6 ⟨u6, rfl, hO6, hB6⟩)
    | fail)
  have hz6 := hB6.size
  have hB56 : Below w5.heap.size w5 (w6.alloc (.cells #[.int .u8 0] 5)) := hB6.trans ((hBA w6 _).mono hz6)
  have hB57 : Below w5.heap.size w5 w7 := hB56.grown hG7 hB56.size hO6.high
  have lf : (key ++ [0#8]).length = L + 1 := by simp [hL]
  have hS7 := hO7.slice
  obtain ⟨fp, fc, rfl, _⟩ := hS7.cells
  rw [lf] at hS7 ⊢
  have e1 : ((L + 1 : Nat) : Int) = (L : Int) + 1 := by omega
  have hK7 := hK5.below hB57 hK5.1
  have hk7 := hk5.low hB57
  have hi7 := hi5.low hB57
  have cB7 := cB5.trans (hB57.mono cB5.size)
  clear hB57 hB56 hB6 hO6 hG7 hO7 hSa hSb x1 hbeg CA CB
  by_cases h3 : 64 < L + 1
  · have i3 : (64 : Int) < ((L + 1 : Nat) : Int) := by omega
    go_wp2_with (fail)
    go_ret
    exact ⟨rfl, cB7⟩
  · have i3 : ¬ (64 : Int) < ((L + 1 : Nat) : Int) := by omega
    obtain ⟨C, hC⟩ : ∃ C, macCode key info = C := ⟨_, rfl⟩
    have lC : C.length = 32 := by rw [← hC]; exact macCode_length _ _
    have hC2 : macCode (key ++ [0#8]) info = C := by rw [← hC]; exact macCode_zero key info (by omega)
    have C1 := Lib.hid (hC2 ▸ code_calls w7 _ _ _ _ hS7 hi7 hK7 (by omega) (by omega))
    have C2 := Lib.hid (fun (wx : World) (hB : Below w7.heap.size w7 wx) => hC ▸ code_calls wx _ _ _ _ (hk7.low hB) (hi7.low hB) (hK7.below hB hK7.1) (by omega) (by omega))
    have heq := eql_digest C C lC lC
    clear hC hC2
    go_wp2_with (first
      | (go_at_call 28; refine (C2.out w8 hB8).mono ?_; rintro e w9 ⟨rfl, hB9⟩)
      | (go_at_call 28; refine C1.out.mono ?_; rintro e w8 ⟨rfl, hB8⟩)
      | fail)
    go_ret
    exact ⟨rfl, cB7.trans ((hB8.trans (hB9.mono hB8.size)).mono cB7.size)⟩

set_option maxRecDepth 100000 in
open Go.ChangeShapes Go.WideShapes in
theorem macBegins_answers {H : Type} {enc : TypeId × Value → H} (W : World) (base : Nat) (args : Array Value) (ds gs : List (DataW H)) (before : List MemPlace)
    (hval : ∀ (j : Nat) t v, Tryd.f12.params[j]? = some t → args[j]? = some v → Value.okWide Tryd.prog W .any base t v)
    (hW : DataW.Whole enc Tryd.prog Tryd.f12.params.toList Rows.macBeginsSpec.vars false W args.toList ds gs before)
    (_ : (DataW.weightsEach Tryd.prog (Tryd.f12.params.toList ++ Rows.macBeginsSpec.plain.varTypes Tryd.prog) (ds ++ gs)).all (· ≤ reachBytes) = true)
    (hL : laidMetH Tryd.prog Rows.macBeginsRow.laid W) : Answers Tryd.prog 12 args W := by
  obtain ⟨p, q, hA, _, _, _, _⟩ := hW
  rw [Tryd.params12] at hA hval
  obtain ⟨v0, v1, v2, v3, d0, d1, d2, d3, p0, p1, p2, p3, rfl, rfl, h0, h1, _, _⟩ := trodAll_four hA
  obtain ⟨key, hk, _⟩ := bytes_arg (hval 0 _ v0 rfl rfl) h0
  obtain ⟨info, hi, _⟩ := bytes_arg (hval 1 _ v1 rfl rfl) h1
  obtain ⟨x, rfl⟩ := okWide_int Tryd.underlying3 (hval 2 _ v2 rfl rfl)
  obtain ⟨y, rfl⟩ := okWide_int Tryd.underlying3 (hval 3 _ v3 rfl rfl)
  exact macBegins_walk W v0 v1 key info x y hk hi (ktab_of hL)

end Go.Proofs.YtngklnijmhlikaaDoor
