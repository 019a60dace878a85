/- QuotaKnown: the law's walk. -/
import Derived.Test.YtglcingpolpkdaaDoorChk
import Derived.Test.YtglcingpolpkdaaDoorTAdd
import Derived.Test.YtglcingpolpkdaaDoorTAt
import Derived.Test.YtglcingpolpkdaaDoorMTake
namespace Go.Proofs.YtglcingpolpkdaaDoor
open Go.RowKit

set_option maxHeartbeats 400000 in
theorem tnew_alone (w : World) : Calls Tryd.prog 8 #[] w fun e w' => e = .returned (.pointer (some ⟨w.heap.size, 0, none⟩)) ∧ w.alloc (.cells #[.slice none 0 0, .bool true] 60) = w' := by
  go_enter Tryd.func8, Tryd.ntmps8
  go_wp2
  go_ret
  exact ⟨rfl, rfl⟩
/-- The example's note. -/
def nk : Nt := ⟨1, ⟨#[97]⟩, ⟨#[]⟩, 0, ⟨#[]⟩, 0⟩
theorem nk_ok : nextOk nk = true := by kernel_rfl
theorem nk_cells : nk.cells = [.int .i64 1, .string ⟨#[97]⟩, .string ⟨#[]⟩, .int .i64 0, .string ⟨#[]⟩, .int .i64 0] := rfl
theorem nk_head : eqD (nextG zeroG nk) zeroG = false := by kernel_rfl
theorem zero_lit : zeroG.vs.toArray = #[.int .u8 0, .int .u8 0, .int .u8 0, .int .u8 0, .int .u8 0, .int .u8 0, .int .u8 0, .int .u8 0, .int .u8 0, .int .u8 0, .int .u8 0, .int .u8 0, .int .u8 0, .int .u8 0, .int .u8 0, .int .u8 0, .int .u8 0, .int .u8 0, .int .u8 0, .int .u8 0, .int .u8 0, .int .u8 0, .int .u8 0, .int .u8 0, .int .u8 0, .int .u8 0, .int .u8 0, .int .u8 0, .int .u8 0, .int .u8 0, .int .u8 0, .int .u8 0] := by kernel_rfl
theorem add_nk (W w : World) (tb : Nat) (h : TrP W w tb (.slice none 0 0) []) (hK : KTab w) :
    Calls Tryd.prog 9 #[.pointer (some ⟨tb, 0, none⟩), .agg nk.cells.toArray] w fun e w' => e = .returned (.tuple #[.agg (headG [nk]).vs.toArray, .int .i64 0]) ∧ ∃ p c, TrP W w' tb (.slice p 1 c) [nk] ∧ Only w w' fun i => i = tb := by
  refine (tadd_calls W w tb _ [] nk h hK (by decide)).mono ?_
  rintro e w' ⟨rfl, lv, h2, hO⟩
  have e1 : addP [] nk = [nk] := by unfold addP; rw [if_pos nk_ok]; rfl
  have e2 : nextE (headG []) nk = headG [nk] := by unfold nextE; rw [if_pos nk_ok]; rfl
  have e3 : nextC nk = 0 := by unfold nextC; rw [if_pos nk_ok]
  rw [e1] at h2
  rw [e2, e3]
  obtain ⟨p, c, rfl⟩ := h2.shape
  exact ⟨rfl, p, c, h2, hO.weak fun i _ hs => hs.elim id (fun e => by cases e)⟩
theorem at_5 (W w : World) (tb c : Nat) (p : Option Addr) (h : TrP W w tb (.slice p 1 c) [nk]) :
    Calls Tryd.prog 16 #[.pointer (some ⟨tb, 0, none⟩), .int .i64 5] w fun e w' => e = .returned (.tuple #[.agg #[.int .i64 0, .string ⟨#[]⟩, .string ⟨#[]⟩, .int .i64 0, .string ⟨#[]⟩, .int .i64 0], .agg (zeroNums .u8 32).toArray, .int .i64 2]) ∧ Below w.heap.size w w' :=
  tat_not W w tb c p 5 [nk] h (.inr (by decide))
theorem whole_two (w : World) (X : Obj) (cs : Array Value) (t : TypeId) : Whole ((w.alloc X).alloc (.cells cs t)) (w.heap.size + 1) t cs.toList := by
  have h := Whole.new (w.alloc X) t cs
  rw [World.size_alloc] at h
  exact h
structure QKn (W w : World) (r : Nat) (p : Option Addr) (c : Nat) (D : Dg) (DB NB : Nat) : Prop where
  tr : TrP W w r (.slice p 1 c) [nk]
  dg : Whole w DB 24 D.vs
  nt : Whole w NB 36 nk.cells
  tab : KTab w
theorem QKn.on {W w w' : World} {r c DB NB : Nat} {p : Option Addr} {D : Dg} (h : QKn W w r p c D DB NB) (hb : Below w.heap.size w w') : QKn W w' r p c D DB NB :=
  ⟨h.tr.on hb, h.dg.below hb h.dg.lt, h.nt.below hb h.nt.lt, h.tab.below hb h.tab.1⟩
theorem oper_buildSlice {P : Program} {o : Oper} {a : Act} {w : World} {K : Act → World → Prop} {Q : Exit → Act → World → Prop} (t : TypeId) (n : Nat) (x : Operand) (ho : o.op = .buildSlice t n #[(0, x)]) (V : Value) (hx : a.eval x = V) {v : Value} {w' : World}
    (hr : (Instr.buildSlice t n #[(0, V)]).run P w = .ok v w') (h : K (a.put o.dst v) w') : o.wp P a w K Q := by
  unfold Oper.wp execOp
  simp only [ho]
  simp [hx, hr]
  exact h
theorem slice_nk (w : World) : (Instr.buildSlice 22 1 #[(0, .agg nk.cells.toArray)]).run Tryd.prog w = .ok (.slice (some ⟨w.heap.size, 0, none⟩) 1 1) (w.alloc (.cells nk.cells.toArray 36)) := by kernel_rfl
theorem notes_nk (w : World) : NotesAt (w.alloc (.cells nk.cells.toArray 36)) (.slice (some ⟨w.heap.size, 0, none⟩) 1 1) [nk] := .inr ⟨w.heap.size, 0, 1, rfl, by simp, fun i a ha j u hj => by
  obtain rfl : i = 0 := by have := (List.getElem?_eq_some_iff.1 ha).1; simp at this; omega
  obtain rfl : nk = a := by simpa using ha
  have h := Whole.new w 36 nk.cells.toArray
  rw [Nat.zero_add]
  exact h.cell_of hj⟩
theorem check_yes (w : World) (v : Value) (D : Dg) (hD : headG [nk] = D) (hv : NotesAt w v [nk]) (hK : KTab w) : Calls Tryd.prog 19 #[.agg #[.int .u8 0, .int .u8 0, .int .u8 0, .int .u8 0, .int .u8 0, .int .u8 0, .int .u8 0, .int .u8 0, .int .u8 0, .int .u8 0, .int .u8 0, .int .u8 0, .int .u8 0, .int .u8 0, .int .u8 0, .int .u8 0, .int .u8 0, .int .u8 0, .int .u8 0, .int .u8 0, .int .u8 0, .int .u8 0, .int .u8 0, .int .u8 0, .int .u8 0, .int .u8 0, .int .u8 0, .int .u8 0, .int .u8 0, .int .u8 0, .int .u8 0, .int .u8 0], v, .agg D.vs.toArray] w fun e w' => e = .returned (.bool true) ∧ Below w.heap.size w w' := by
  rw [← zero_lit]
  refine (check_calls w zeroG D v [nk] hv hK (by decide)).mono ?_
  rintro e w' ⟨rfl, hb⟩
  refine ⟨?_, hb⟩
  have : checkT zeroG [nk] D = true := by
    unfold checkT
    rw [Bool.and_eq_true, List.all_eq_true, eqD_iff]
    exact ⟨fun x hx => by obtain rfl : x = nk := by simpa using hx
                          exact nk_ok, hD⟩
  rw [this]
theorem check_no (w : World) (v : Value) (hv : NotesAt w v [nk]) (hK : KTab w) : Calls Tryd.prog 19 #[.agg #[.int .u8 0, .int .u8 0, .int .u8 0, .int .u8 0, .int .u8 0, .int .u8 0, .int .u8 0, .int .u8 0, .int .u8 0, .int .u8 0, .int .u8 0, .int .u8 0, .int .u8 0, .int .u8 0, .int .u8 0, .int .u8 0, .int .u8 0, .int .u8 0, .int .u8 0, .int .u8 0, .int .u8 0, .int .u8 0, .int .u8 0, .int .u8 0, .int .u8 0, .int .u8 0, .int .u8 0, .int .u8 0, .int .u8 0, .int .u8 0, .int .u8 0, .int .u8 0], v, .agg #[.int .u8 0, .int .u8 0, .int .u8 0, .int .u8 0, .int .u8 0, .int .u8 0, .int .u8 0, .int .u8 0, .int .u8 0, .int .u8 0, .int .u8 0, .int .u8 0, .int .u8 0, .int .u8 0, .int .u8 0, .int .u8 0, .int .u8 0, .int .u8 0, .int .u8 0, .int .u8 0, .int .u8 0, .int .u8 0, .int .u8 0, .int .u8 0, .int .u8 0, .int .u8 0, .int .u8 0, .int .u8 0, .int .u8 0, .int .u8 0, .int .u8 0, .int .u8 0]] w fun e w' => e = .returned (.bool false) ∧ Below w.heap.size w w' := by
  rw [← zero_lit]
  refine (check_calls w zeroG zeroG v [nk] hv hK (by decide)).mono ?_
  rintro e w' ⟨rfl, hb⟩
  refine ⟨?_, hb⟩
  have : checkT zeroG [nk] zeroG = false := by
    unfold checkT
    have : [nk].foldl nextG zeroG = nextG zeroG nk := rfl
    rw [this, nk_head, Bool.and_false]
  rw [this]
theorem q_3 : IntKind.i64.wrap ((3 : Int).tdiv 10) = 0 := by kernel_rfl
theorem q_9 : IntKind.i64.wrap ((9 : Int).tdiv 10) = 0 := by kernel_rfl
theorem q_10 : IntKind.i64.wrap ((10 : Int).tdiv 10) = 1 := by kernel_rfl
theorem q_30 : IntKind.i64.wrap ((30 : Int).tdiv 10) = 3 := by kernel_rfl
theorem c_1 : IntKind.i64.wrap ((findI [] 0).getD 0 + 1) = 1 := by kernel_rfl
theorem c_2 : IntKind.i64.wrap ((findI [(0, 1)] 0).getD 0 + 1) = 2 := by kernel_rfl
theorem c_3 : IntKind.i64.wrap ((findI [(0, 2)] 1).getD 0 + 1) = 1 := by kernel_rfl
theorem l_1 : IntKind.i64.wrap (2 - (findI [(0, 2), (1, 1)] 1).getD 0) = 1 := by kernel_rfl
theorem l_2 : IntKind.i64.wrap (2 - (findI [(0, 2), (1, 1)] 3).getD 0) = 2 := by kernel_rfl

set_option maxRecDepth 100000 in
set_option maxHeartbeats 4000000 in
theorem quotaKnown_walk (W : World) (hK : KTab W) : Calls Tryd.prog 5 #[] W fun e w' => e = .returned (.bool true) ∧ Below W.heap.size W w' := by
  have H0 := Met0.start W
  go_enter Tryd.func5, Tryd.ntmps5
  go_upto_region 2 with (first
    | (go_at_call 8; refine (tnew_alone _).mono ?_; rintro e w2 ⟨rfl, hw2⟩; rw [← hw2]; clear hw2)
    | (go_at_call 24; refine (mnew_calls W).mono ?_; rintro e w1 ⟨rfl, hw1⟩; rw [hw1]; clear hw1)
    | fail)
  simp only [Nat.add_assoc, Nat.reduceAdd]
  have hr : W.heap.size ≤ W.heap.size + 2 := by omega
  generalize ((W.alloc (.map #[] 0)).alloc (.cells #[.map (some W.heap.size)] 56)).alloc (.cells #[.slice none 0 0, .bool true] 60) = w2 at H0 ⊢
  obtain ⟨b, hb⟩ : ∃ x, W.heap.size + 1 = x := ⟨_, rfl⟩
  obtain ⟨r, hr2⟩ : ∃ x, W.heap.size + 2 = x := ⟨_, rfl⟩
  obtain ⟨m, hm⟩ : ∃ x, W.heap.size = x := ⟨_, rfl⟩
  rw [hb, hr2, hm] at H0
  rw [hr2] at hr ⊢
  rw [hb]
  clear hb hr2 hm
  have K2 := Lib.hid H0
  clear H0
  have HR := Lib.hid hr
  clear hr
  have HK := Lib.hid hK
  clear hK
  go_upto_region 9 with (first
    | (go_at_call 22; refine (mset_bad _ b m 2 0 (.inr ⟨rfl, rfl⟩) (K12.out.box.cell 0) K12.out.box.lt).mono ?_; rintro e w13 ⟨rfl, hb13⟩; have K13 := Lib.hid (K12.out.on hb13); clear hb13)
    | (go_at_call 22; refine (mset_bad _ b m 0 10 (.inl ⟨rfl, rfl⟩) (K11.out.box.cell 0) K11.out.box.lt).mono ?_; rintro e w12 ⟨rfl, hb12⟩; have K12 := Lib.hid (K11.out.on hb12); clear hb12)
    | (go_at_call 23; refine (mtake_arg W _ b m d t r 1 [(0, 2), (1, 1)] K10.out 9 0 (by decide) (by decide) q_9 (by decide)).mono ?_; rintro e w11 ⟨rfl, h11⟩; have K11 := Lib.hid h11; clear h11)
    | (go_at_call 21; refine (mleft_not W _ b m d t r 1 [(0, 2), (1, 1)] K9.out 0 (by decide) (by decide)).mono ?_; rintro e w10 ⟨rfl, h10⟩; have K10 := Lib.hid h10; clear h10)
    | (go_at_call 21; refine (mleft_there W _ b m d t r 1 [(0, 2), (1, 1)] K8.out 30 3 2 (by decide) (by decide) q_30 l_2).mono ?_; rintro e w9 ⟨rfl, h9⟩; have K9 := Lib.hid h9; clear h9)
    | (go_at_call 21; refine (mleft_there W _ b m d t r 1 [(0, 2), (1, 1)] K7.out 10 1 1 (by decide) (by decide) q_10 l_1).mono ?_; rintro e w8 ⟨rfl, h8⟩; have K8 := Lib.hid h8; clear h8)
    | (go_at_call 23; refine (mtake_ok W _ b m d t r 0 [(0, 2)] K6.out 10 1 1 (by decide) (by decide) q_10 (by decide) (by decide) c_3).mono ?_; rintro e w7 ⟨rfl, h7⟩; have K7 := Lib.hid h7; clear h7)
    | (go_at_call 23; refine (mtake_full W _ b m d t r 0 [(0, 2)] K5.out 9 0 (by decide) (by decide) q_9 (by decide) (by decide)).mono ?_; rintro e w6 ⟨rfl, h6⟩; have K6 := Lib.hid h6; clear h6)
    | (go_at_call 23; refine (mtake_ok W _ b m d t r 0 [(0, 1)] K4.out 9 0 2 (by decide) (by decide) q_9 (by decide) (by decide) c_2).mono ?_; rintro e w5 ⟨rfl, h5⟩; have K5 := Lib.hid h5; clear h5)
    | (go_at_call 23; refine (mtake_ok W _ b m d t r 0 [] K3.out 3 0 1 (by decide) (by decide) q_3 (by decide) (by decide) c_1).mono ?_; rintro e w4 ⟨rfl, h4⟩; have K4 := Lib.hid h4; clear h4)
    | (go_at_call 22; refine (mset_new W _ b m r K2.out).mono ?_; rintro e w3 ⟨rfl, d, t, h3⟩; have K3 := Lib.hid h3; clear h3)
    | fail)
  have hT : TrP W w13 r (.slice none 0 0) [] := ⟨K13.out.tr, ⟨rfl, .inl ⟨rfl, rfl⟩⟩, HR.out, K13.out.below⟩
  have hK := HK.out.below hT.below HK.out.1
  clear K2 K3 K4 K5 K6 K7 K8 K9 K10 K11 K12 K13
  go_upto_region 10 with (fail)
  have hN := Whole.new w13 36 nk.cells.toArray
  have hA : Below w13.heap.size w13 (w13.alloc (.cells nk.cells.toArray 36)) := (Below.refl _ _).alloc (Nat.le_refl _) _
  replace hT := hT.on hA
  replace hK := hK.below hA hK.1
  change Code.wp _ _ _ _ (w13.alloc (.cells nk.cells.toArray 36))
  clear hA
  obtain ⟨NB, hNB⟩ : ∃ x, w13.heap.size = x := ⟨_, rfl⟩
  rw [hNB] at hN ⊢
  clear hNB
  generalize w13.alloc (.cells nk.cells.toArray 36) = w14 at hN hT hK ⊢
  have hb15 := Lib.hid (fun w' (h' : TrP W w' r (.slice none 0 0) []) => thead_calls W w' r _ [] h' (by decide))
  have hb14 := Lib.hid (fun w' (h' : TrP W w' r (.slice none 0 0) []) => tlen_calls W w' r _ [] h')
  have l3 := fun w => eql_dg w zeroG zeroG
  have l4 := fun w => eqlIn_dg w zeroG zeroG
  have lz : eqD zeroG zeroG = true := (eqD_iff _ _).2 rfl
  rw [lz] at l3 l4
  replace l4 : ∀ w, (Op.equalIn 10000 24 (.agg zeroG.vs.toArray) (.agg #[.int .u8 0, .int .u8 0, .int .u8 0, .int .u8 0, .int .u8 0, .int .u8 0, .int .u8 0, .int .u8 0, .int .u8 0, .int .u8 0, .int .u8 0, .int .u8 0, .int .u8 0, .int .u8 0, .int .u8 0, .int .u8 0, .int .u8 0, .int .u8 0, .int .u8 0, .int .u8 0, .int .u8 0, .int .u8 0, .int .u8 0, .int .u8 0, .int .u8 0, .int .u8 0, .int .u8 0, .int .u8 0, .int .u8 0, .int .u8 0, .int .u8 0, .int .u8 0])).run Tryd.prog w = .ok true w := zero_lit ▸ l4
  have hgd : Tryd.prog.eqGuardType Tryd.prog.depth 24 = false := by kernel_rfl
  have hz : headG [] = zeroG := rfl
  go_upto_region 11 with (first
    | (refine wpList_build_as (by rfl) 24 _ (by rfl) zeroG.vs.toArray (by kernel_rfl) ?_)
    | (go_at_call 14; refine (hb15.out _ hT).mono ?_; rw [hz]; rintro e w15 ⟨rfl, hb⟩; have hT15 := hT.on hb; have hK15 := hK.below hb hK.1; have hN15 := hN.below hb hN.lt)
    | (go_at_call 13; refine (hb14.out _ hT).mono ?_; rintro e w14' ⟨rfl, rfl⟩)
    | fail)
  clear l3 l4 lz hgd hz hT hK hN hb hb14 hb15
  obtain ⟨D, hD⟩ : ∃ x, headG [nk] = x := ⟨_, rfl⟩
  have HA := Lib.hid (add_nk W w15 r hT15 hK15)
  rw [hD] at HA
  have hNT := Tryd.underlying36
  have hDT := Tryd.underlying24
  go_upto_region 12 with (first
    | (refine wpList_store_row (by rfl) 24 _ _ (by rfl) w16.heap.size D.vs.toArray (by rfl) (by rfl) 24 _ h17 (by rw [size_d]; simp [Dg.vs_length]) (by simp [zeroNums, Dg.vs_length]) (Dg.all_one _) ?_; replace h17 := h17.row D.vs; have b18 : Below w16.heap.size w16 (w17.setRow w16.heap.size D.vs.toArray) := b17.grown (grown_row (World.grownBy.refl w17 (some w16.heap.size)) (.inl rfl) _) b17.size (fun k hk => by injection hk with hk; omega); generalize w17.setRow w16.heap.size D.vs.toArray = w18 at h17 b18 ⊢; obtain ⟨DB, hDB⟩ : ∃ x, w16.heap.size = x := ⟨_, rfl⟩; rw [hDB] at h17 ⊢; clear hDB)
    | (refine wpList_alloc_row (by rfl) 24 (by rfl) _ _ info_d ?_; have h17 := Whole.new w16 24 (zeroNums .u8 32).toArray; have b17 : Below w16.heap.size w16 (w16.alloc (.cells (zeroNums .u8 32).toArray 24)) := (Below.refl _ _).alloc (Nat.le_refl _) _; generalize w16.alloc (.cells (zeroNums .u8 32).toArray 24) = w17 at h17 b17 ⊢)
    | (go_at_call 9; refine HA.out.mono ?_; rintro e w16 ⟨rfl, p, c, hT16, hO16⟩)
    | (refine wpList_load_mid (by rfl) 36 _ (by rfl) NB 0 (by rfl) nk.cells _ (whole_rangeG hN15) hNT (by rfl) (by rw [size_n]; rfl) ?_)
    | fail)
  replace hT16 := hT16.on b18
  have hN18 := (hN15.only hO16 (whole_ne hN15 hT15.box (by decide))).below b18 ((Whole.lt (hN15.only hO16 (whole_ne hN15 hT15.box (by decide)))))
  have hK18 := HK.out.below hT16.below HK.out.1
  clear hT15 hK15 hN15 b17 b18 hO16 HA
  have H5 := Lib.hid (at_5 W w18 r c p hT16)
  go_upto_region 13 with (first
    | (refine wpList_store_row (by rfl) 24 _ _ (by rfl) (w19.heap.size + 1) (zeroNums .u8 32).toArray (by rfl) (by rfl) 24 _ (whole_two _ _ _ _) (by rw [size_d]; rfl) (by rfl) (all_zeros _ _) ?_)
    | (refine wpList_alloc_row (by rfl) 24 (by rfl) _ _ info_d ?_)
    | (go_at_call 16; refine H5.out.mono ?_; rintro e w19 ⟨rfl, hb19⟩; replace hT16 := hT16.on hb19; replace h17 := h17.below hb19 h17.lt; replace hN18 := hN18.below hb19 hN18.lt; replace hK18 := hK18.below hb19 hK18.1; clear H5)
    | fail)
  have hb21 : Below w19.heap.size w19 (((w19.alloc (.cells #[.int .i64 0, .string ⟨#[]⟩, .string ⟨#[]⟩, .int .i64 0, .string ⟨#[]⟩, .int .i64 0] 36)).alloc (.cells (zeroNums .u8 32).toArray 24)).setRow (w19.heap.size + 1) (zeroNums .u8 32).toArray) := (((Below.refl _ _).alloc (Nat.le_refl _) _).alloc (by simp) _).grown (grown_row (World.grownBy.refl _ (some (w19.heap.size + 1))) (.inl rfl) _) (by simp; omega) (fun k hk => by injection hk with hk; omega)
  clear hb19
  replace hT16 := hT16.on hb21
  replace h17 := h17.below hb21 h17.lt
  replace hN18 := hN18.below hb21 hN18.lt
  replace hK18 := hK18.below hb21 hK18.1
  clear hb21
  obtain ⟨x13, hx13⟩ : ∃ x, w19.heap.size + 1 = x := ⟨_, rfl⟩
  rw [hx13] at hT16 h17 hN18 hK18 ⊢
  clear hx13
  generalize ((w19.alloc (.cells #[.int .i64 0, .string ⟨#[]⟩, .string ⟨#[]⟩, .int .i64 0, .string ⟨#[]⟩, .int .i64 0] 36)).alloc (.cells (zeroNums .u8 32).toArray 24)).setRow x13 (zeroNums .u8 32).toArray = w21 at hT16 h17 hN18 hK18 ⊢
  have HH := Lib.hid (fun w' (h' : TrP W w' r (.slice p 1 c) [nk]) => thead_calls W w' r _ [nk] h' (by decide))
  rw [hD] at HH
  have l3 := fun w => eql_dg w D D
  have l4 := fun w => eqlIn_dg w D D
  have lz : eqD D D = true := (eqD_iff _ _).2 rfl
  rw [lz] at l3 l4
  have hgd : Tryd.prog.eqGuardType Tryd.prog.depth 24 = false := by kernel_rfl
  refine wp_region_noPanic ?_
  refine wp_region_held_drew (S := fun w' => QKn W w' r p c D DB NB) (by kernel_rfl) (QKn.on ⟨hT16, h17, hN18, hK18⟩ (Below.refl _ _).drew) (fun hhS => ?_)
  replace hhS : QKn W w21.drew r p c D DB NB := QKn.on ⟨hT16, h17, hN18, hK18⟩ (Below.refl _ _).drew
  clear hT16 h17 hN18 hK18
  generalize w21.drew = wd at hhS ⊢
  refine wpAnyH_take (i := 0) (oi := ⟨some 119, _, _, _, _, _⟩) (v := ?_) rfl (by kernel_rfl) (by kernel_rfl) (by kernel_rfl) (fun _ _ _ h => h) (Or.inl ⟨by rfl, ?_⟩) (by assumption) ?_
  rotate_left
  · intro w hSw
    (try dsimp only at hSw)
    go_simp
    all_goals (with_reducible rfl)
  try simp only [Act.put, List.setIfInBounds_toArray, List.set_cons_zero, List.set_cons_succ]
  refine wpAnyH_take (i := 1) (oi := ⟨some 120, _, _, _, _, _⟩) (v := ?_) rfl (by kernel_rfl) (by kernel_rfl) (by kernel_rfl) (fun _ _ _ h => h) (Or.inl ⟨by rfl, ?_⟩) (by assumption) ?_
  rotate_left
  · intro w hSw
    (try dsimp only at hSw)
    go_simp
    all_goals (with_reducible rfl)
  try simp only [Act.put, List.setIfInBounds_toArray, List.set_cons_zero, List.set_cons_succ]
  refine wpAnyH_take (i := 2) (oi := ⟨some 121, _, _, _, _, _⟩) (v := ?_) rfl (by kernel_rfl) (by kernel_rfl) (by kernel_rfl) (fun _ _ _ h => h) (Or.inl ⟨by rfl, ?_⟩) (by assumption) ?_
  rotate_left
  · intro w hSw
    (try dsimp only at hSw)
    go_simp
    all_goals (with_reducible rfl)
  try simp only [Act.put, List.setIfInBounds_toArray, List.set_cons_zero, List.set_cons_succ]
  refine wpAnyH_take (i := 3) (oi := ⟨some 122, _, _, _, _, _⟩) (v := ?_) rfl (by kernel_rfl) (by kernel_rfl) (by kernel_rfl) (fun _ _ _ h => h) (Or.inl ⟨by rfl, ?_⟩) (by assumption) ?_
  rotate_left
  · intro w hSw
    (try dsimp only at hSw)
    go_simp
    all_goals (with_reducible rfl)
  try simp only [Act.put, List.setIfInBounds_toArray, List.set_cons_zero, List.set_cons_succ]
  refine wpAnyH_take (i := 4) (oi := ⟨some 123, _, _, _, _, _⟩) (v := ?_) rfl (by kernel_rfl) (by kernel_rfl) (by kernel_rfl) (fun _ _ _ h => h) (Or.inl ⟨by rfl, ?_⟩) (by assumption) ?_
  rotate_left
  · intro w hSw
    (try dsimp only at hSw)
    go_simp
    all_goals (with_reducible rfl)
  try simp only [Act.put, List.setIfInBounds_toArray, List.set_cons_zero, List.set_cons_succ]
  refine wpAnyH_take (i := 5) (oi := ⟨some 124, _, _, _, _, _⟩) (v := ?_) rfl (by kernel_rfl) (by kernel_rfl) (by kernel_rfl) (fun _ _ _ h => h) (Or.inl ⟨by rfl, ?_⟩) (by assumption) ?_
  rotate_left
  · intro w hSw
    (try dsimp only at hSw)
    go_simp
    all_goals (with_reducible rfl)
  try simp only [Act.put, List.setIfInBounds_toArray, List.set_cons_zero, List.set_cons_succ]
  refine wpAnyH_take (i := 6) (oi := ⟨some 125, _, _, _, _, _⟩) (v := _) rfl (by kernel_rfl) (by kernel_rfl) (by kernel_rfl) (fun _ _ _ h => h) (yieldsIf_load_mid (by rfl) _ _ rfl DB 0 (by rfl) (D.vs) _ (fun w hSw => whole_rangeG hSw.dg) hDT rfl (by rw [size_d, Dg.vs_length])) (by assumption) ?_
  try simp only [Act.put, List.setIfInBounds_toArray, List.set_cons_zero, List.set_cons_succ]
  refine wpAnyH_take (i := 7) (oi := ⟨some 126, _, _, _, _, _⟩) (v := ?_) rfl (by kernel_rfl) (by kernel_rfl) (by kernel_rfl) (fun _ _ _ h => h) (Or.inl ⟨by rfl, ?_⟩) (by assumption) ?_
  rotate_left
  · intro w hSw
    (try dsimp only at hSw)
    go_simp
    all_goals (with_reducible rfl)
  try simp only [Act.put, List.setIfInBounds_toArray, List.set_cons_zero, List.set_cons_succ]
  refine wpAnyH_ready (rs := [8]) (by kernel_rfl) (by simp) ?_
  refine AllReadyH.cons (o := ⟨some 127, _, _, _, _, _⟩) rfl (fun K hK => ?_) AllReadyH.nil
  go_simp
  refine (HH.out _ hhS.tr).mono ?_
  rintro e w8 ⟨rfl, hb8⟩
  replace hhS := hhS.on hb8
  clear hb8
  refine hK.out _ _ (hhS) (fun _ => ?_)
  clear hK K
  try simp only [Act.put, List.setIfInBounds_toArray, List.set_cons_zero, List.set_cons_succ]
  refine wpAnyH_take (i := 9) (oi := ⟨some 128, _, _, _, _, _⟩) (v := .bool true) rfl (by kernel_rfl) (by kernel_rfl) (by kernel_rfl) (fun _ _ _ h => h) (Or.inl ⟨by rfl, ?_⟩) (by assumption) ?_
  · intro w hSw
    (try dsimp only at hSw)
    go_simp
    all_goals (first | done | simp)
  try simp only [Act.put, List.setIfInBounds_toArray, List.set_cons_zero, List.set_cons_succ]
  refine wpAnyH_take (i := 10) (oi := ⟨some 129, _, _, _, _, _⟩) (v := ?_) rfl (by kernel_rfl) (by kernel_rfl) (by kernel_rfl) (fun _ _ _ h => h) (Or.inl ⟨by rfl, ?_⟩) (by assumption) ?_
  rotate_left
  · intro w hSw
    (try dsimp only at hSw)
    go_simp
    all_goals (with_reducible rfl)
  try simp only [Act.put, List.setIfInBounds_toArray, List.set_cons_zero, List.set_cons_succ]
  refine wpAnyH_take (i := 11) (oi := ⟨some 130, _, _, _, _, _⟩) (v := ?_) rfl (by kernel_rfl) (by kernel_rfl) (by kernel_rfl) (fun _ _ _ h => h) (Or.inl ⟨by rfl, ?_⟩) (by assumption) ?_
  rotate_left
  · intro w hSw
    (try dsimp only at hSw)
    go_simp
    all_goals (with_reducible rfl)
  try simp only [Act.put, List.setIfInBounds_toArray, List.set_cons_zero, List.set_cons_succ]
  refine wpAnyH_take (i := 12) (oi := ⟨some 131, _, _, _, _, _⟩) (v := ?_) rfl (by kernel_rfl) (by kernel_rfl) (by kernel_rfl) (fun _ _ _ h => h) (Or.inl ⟨by rfl, ?_⟩) (by assumption) ?_
  rotate_left
  · intro w hSw
    (try dsimp only at hSw)
    go_simp
    all_goals (with_reducible rfl)
  try simp only [Act.put, List.setIfInBounds_toArray, List.set_cons_zero, List.set_cons_succ]
  refine wpAnyH_take (i := 13) (oi := ⟨some 132, _, _, _, _, _⟩) (v := _) rfl (by kernel_rfl) (by kernel_rfl) (by kernel_rfl) (fun _ _ _ h => h) (yieldsIf_load_mid (by rfl) _ _ rfl NB 0 (by rfl) (nk.cells) _ (fun w hSw => whole_rangeG hSw.nt) hNT rfl (by rw [size_n]; rfl)) (by assumption) ?_
  try simp only [Act.put, List.setIfInBounds_toArray, List.set_cons_zero, List.set_cons_succ]
  refine wpAnyH_take (i := 15) (oi := ⟨some 134, _, _, _, _, _⟩) (v := _) rfl (by kernel_rfl) (by kernel_rfl) (by kernel_rfl) (fun _ _ _ h => h) (yieldsIf_load_mid (by rfl) _ _ rfl DB 0 (by rfl) (D.vs) _ (fun w hSw => whole_rangeG hSw.dg) hDT rfl (by rw [size_d, Dg.vs_length])) (by assumption) ?_
  try simp only [Act.put, List.setIfInBounds_toArray, List.set_cons_zero, List.set_cons_succ]
  refine wpAnyH_ready (rs := [14]) (by kernel_rfl) (by simp) ?_
  refine AllReadyH.cons (o := ⟨some 133, _, _, _, _, _⟩) rfl (fun K hK => ?_) AllReadyH.nil
  rw [if_pos (by rfl)]
  refine oper_buildSlice _ _ _ (by rfl) (.agg nk.cells.toArray) (by rfl) (slice_nk w8) ?_
  have n14 := notes_nk w8
  have b14 : Below w8.heap.size w8 (w8.alloc (.cells nk.cells.toArray 36)) := (Below.refl _ _).alloc (Nat.le_refl _) _
  replace hhS := hhS.on b14
  clear b14
  generalize w8.alloc (.cells nk.cells.toArray 36) = w14 at n14 hhS ⊢
  obtain ⟨S14, hS14⟩ : ∃ x, w8.heap.size = x := ⟨_, rfl⟩
  rw [hS14] at n14 ⊢
  clear hS14
  refine hK.out _ _ (hhS) (fun _ => ?_)
  clear hK K
  try simp only [Act.put, List.setIfInBounds_toArray, List.set_cons_zero, List.set_cons_succ]
  refine wpAnyH_ready (rs := [16]) (by kernel_rfl) (by simp) ?_
  refine AllReadyH.cons (o := ⟨some 135, _, _, _, _, _⟩) rfl (fun K hK => ?_) AllReadyH.nil
  go_simp
  refine (check_yes _ _ D hD n14 hhS.tab).mono ?_
  rintro e w16 ⟨rfl, hb16⟩
  replace hhS := hhS.on hb16
  clear hb16 n14
  refine hK.out _ _ (hhS) (fun _ => ?_)
  clear hK K
  try simp only [Act.put, List.setIfInBounds_toArray, List.set_cons_zero, List.set_cons_succ]
  refine wpAnyH_take (i := 17) (oi := ⟨some 136, _, _, _, _, _⟩) (v := ?_) rfl (by kernel_rfl) (by kernel_rfl) (by kernel_rfl) (fun _ _ _ h => h) (Or.inl ⟨by rfl, ?_⟩) (by assumption) ?_
  rotate_left
  · intro w hSw
    (try dsimp only at hSw)
    go_simp
    all_goals (with_reducible rfl)
  try simp only [Act.put, List.setIfInBounds_toArray, List.set_cons_zero, List.set_cons_succ]
  refine wpAnyH_take (i := 18) (oi := ⟨some 137, _, _, _, _, _⟩) (v := ?_) rfl (by kernel_rfl) (by kernel_rfl) (by kernel_rfl) (fun _ _ _ h => h) (Or.inl ⟨by rfl, ?_⟩) (by assumption) ?_
  rotate_left
  · intro w hSw
    (try dsimp only at hSw)
    go_simp
    all_goals (with_reducible rfl)
  try simp only [Act.put, List.setIfInBounds_toArray, List.set_cons_zero, List.set_cons_succ]
  refine wpAnyH_take (i := 19) (oi := ⟨some 138, _, _, _, _, _⟩) (v := ?_) rfl (by kernel_rfl) (by kernel_rfl) (by kernel_rfl) (fun _ _ _ h => h) (Or.inl ⟨by rfl, ?_⟩) (by assumption) ?_
  rotate_left
  · intro w hSw
    (try dsimp only at hSw)
    go_simp
    all_goals (with_reducible rfl)
  try simp only [Act.put, List.setIfInBounds_toArray, List.set_cons_zero, List.set_cons_succ]
  refine wpAnyH_take (i := 20) (oi := ⟨some 139, _, _, _, _, _⟩) (v := _) rfl (by kernel_rfl) (by kernel_rfl) (by kernel_rfl) (fun _ _ _ h => h) (yieldsIf_load_mid (by rfl) _ _ rfl NB 0 (by rfl) (nk.cells) _ (fun w hSw => whole_rangeG hSw.nt) hNT rfl (by rw [size_n]; rfl)) (by assumption) ?_
  try simp only [Act.put, List.setIfInBounds_toArray, List.set_cons_zero, List.set_cons_succ]
  refine wpAnyH_take (i := 22) (oi := ⟨some 141, _, _, _, _, _⟩) (v := ?_) rfl (by kernel_rfl) (by kernel_rfl) (by kernel_rfl) (fun _ _ _ h => h) (Or.inl ⟨by rfl, ?_⟩) (by assumption) ?_
  rotate_left
  · intro w hSw
    (try dsimp only at hSw)
    go_simp
    all_goals (with_reducible rfl)
  try simp only [Act.put, List.setIfInBounds_toArray, List.set_cons_zero, List.set_cons_succ]
  refine wpAnyH_ready (rs := [21]) (by kernel_rfl) (by simp) ?_
  refine AllReadyH.cons (o := ⟨some 140, _, _, _, _, _⟩) rfl (fun K hK => ?_) AllReadyH.nil
  rw [if_pos (by rfl)]
  refine oper_buildSlice _ _ _ (by rfl) (.agg nk.cells.toArray) (by rfl) (slice_nk w16) ?_
  have n21 := notes_nk w16
  have b21 : Below w16.heap.size w16 (w16.alloc (.cells nk.cells.toArray 36)) := (Below.refl _ _).alloc (Nat.le_refl _) _
  replace hhS := hhS.on b21
  clear b21
  generalize w16.alloc (.cells nk.cells.toArray 36) = w21 at n21 hhS ⊢
  obtain ⟨S21, hS21⟩ : ∃ x, w16.heap.size = x := ⟨_, rfl⟩
  rw [hS21] at n21 ⊢
  clear hS21
  refine hK.out _ _ (hhS) (fun _ => ?_)
  clear hK K
  try simp only [Act.put, List.setIfInBounds_toArray, List.set_cons_zero, List.set_cons_succ]
  refine wpAnyH_ready (rs := [23]) (by kernel_rfl) (by simp) ?_
  refine AllReadyH.cons (o := ⟨some 142, _, _, _, _, _⟩) rfl (fun K hK => ?_) AllReadyH.nil
  go_simp
  refine (check_no _ _ n21 hhS.tab).mono ?_
  rintro e w23 ⟨rfl, hb23⟩
  replace hhS := hhS.on hb23
  clear hb23 n21
  refine hK.out _ _ (hhS) (fun _ => ?_)
  clear hK K
  try simp only [Act.put, List.setIfInBounds_toArray, List.set_cons_zero, List.set_cons_succ]
  refine wpAnyH_take (i := 24) (oi := ⟨some 143, _, _, _, _, _⟩) (v := ?_) rfl (by kernel_rfl) (by kernel_rfl) (by kernel_rfl) (fun _ _ _ h => h) (Or.inl ⟨by rfl, ?_⟩) (by assumption) ?_
  rotate_left
  · intro w hSw
    (try dsimp only at hSw)
    go_simp
    all_goals (with_reducible rfl)
  try simp only [Act.put, List.setIfInBounds_toArray, List.set_cons_zero, List.set_cons_succ]
  refine wpAnyH_take (i := 25) (oi := ⟨some 144, _, _, _, _, _⟩) (v := ?_) rfl (by kernel_rfl) (by kernel_rfl) (by kernel_rfl) (fun _ _ _ h => h) (Or.inl ⟨by rfl, ?_⟩) (by assumption) ?_
  rotate_left
  · intro w hSw
    (try dsimp only at hSw)
    go_simp
    all_goals (with_reducible rfl)
  try simp only [Act.put, List.setIfInBounds_toArray, List.set_cons_zero, List.set_cons_succ]
  refine wpAnyH_take (i := 26) (oi := ⟨some 145, _, _, _, _, _⟩) (v := ?_) rfl (by kernel_rfl) (by kernel_rfl) (by kernel_rfl) (fun _ _ _ h => h) (Or.inl ⟨by rfl, ?_⟩) (by assumption) ?_
  rotate_left
  · intro w hSw
    (try dsimp only at hSw)
    go_simp
    all_goals (with_reducible rfl)
  try simp only [Act.put, List.setIfInBounds_toArray, List.set_cons_zero, List.set_cons_succ]
  refine wpAnyH_take (i := 27) (oi := ⟨some 146, _, _, _, _, _⟩) (v := ?_) rfl (by kernel_rfl) (by kernel_rfl) (by kernel_rfl) (fun _ _ _ h => h) (Or.inl ⟨by rfl, ?_⟩) (by assumption) ?_
  rotate_left
  · intro w hSw
    (try dsimp only at hSw)
    go_simp
    all_goals (with_reducible rfl)
  try simp only [Act.put, List.setIfInBounds_toArray, List.set_cons_zero, List.set_cons_succ]
  refine wpAnyH_take (i := 28) (oi := ⟨some 147, _, _, _, _, _⟩) (v := ?_) rfl (by kernel_rfl) (by kernel_rfl) (by kernel_rfl) (fun _ _ _ h => h) (Or.inl ⟨by rfl, ?_⟩) (by assumption) ?_
  rotate_left
  · intro w hSw
    (try dsimp only at hSw)
    go_simp
    all_goals (with_reducible rfl)
  try simp only [Act.put, List.setIfInBounds_toArray, List.set_cons_zero, List.set_cons_succ]
  refine wpAnyH_take (i := 29) (oi := ⟨some 148, _, _, _, _, _⟩) (v := ?_) rfl (by kernel_rfl) (by kernel_rfl) (by kernel_rfl) (fun _ _ _ h => h) (Or.inl ⟨by rfl, ?_⟩) (by assumption) ?_
  rotate_left
  · intro w hSw
    (try dsimp only at hSw)
    go_simp
    all_goals (with_reducible rfl)
  try simp only [Act.put, List.setIfInBounds_toArray, List.set_cons_zero, List.set_cons_succ]
  refine wpAnyH_take (i := 30) (oi := ⟨some 0, _, _, _, _, _⟩) (v := ?_) rfl (by kernel_rfl) (by kernel_rfl) (by kernel_rfl) (fun _ _ _ h => h) (Or.inl ⟨by rfl, ?_⟩) (by assumption) ?_
  rotate_left
  · intro w hSw
    (try dsimp only at hSw)
    go_simp
    all_goals (with_reducible rfl)
  try simp only [Act.put, List.setIfInBounds_toArray, List.set_cons_zero]
  refine wpAnyH_done (by kernel_rfl) ?_ _
  refine NoPanic.normal ?_
  have HF := Lib.hid hhS.tr.below
  clear hhS
  go_wp2
  go_ret
  exact ⟨rfl, HF.out⟩


end Go.Proofs.YtglcingpolpkdaaDoor
