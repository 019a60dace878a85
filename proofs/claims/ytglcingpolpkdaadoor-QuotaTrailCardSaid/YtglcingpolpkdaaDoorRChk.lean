/- The reference's Check. -/
import Derived.Test.YtglcingpolpkdaaDoorChk
namespace Go.Proofs.YtglcingpolpkdaaDoor
open Go.RowKit

theorem cell_lt {w : World} {a : Addr} {v : Value} (h : w.cell? a = some v) : a.block < w.heap.size := by
  by_cases hb : a.block < w.heap.size
  · exact hb
  · simp [World.cell?, Array.getElem?_eq_none (Nat.le_of_not_lt hb)] at h
theorem range_low {w w' : World} {g o : Nat} {l : List Value} (h : w.rangeAt g o l) (hg : g < w.heap.size) (hb : Below w.heap.size w w') : w'.rangeAt g o l := fun j u hj => (hb.cell (p := ⟨g, o + j, none⟩) hg).trans (h j u hj)
theorem range_drew {w : World} {g o : Nat} {l : List Value} (h : w.rangeAt g o l) : w.drew.rangeAt g o l := h
theorem range_far {w : World} {g o k : Nat} {l : List Value} (h : w.rangeAt g o l) (hg : g ≠ k) (cs : Array Value) : (w.setRow k cs).rangeAt g o l := fun j u hj =>
  (World.cell?_of_block (a := ⟨g, o + j, none⟩) ((grown_row (World.grownBy.refl w (some k)) (.inl rfl) cs).block g (by
    have := h j u hj
    exact cell_lt this) (fun e => hg (by injection e)))).trans (h j u hj)
/-- What the reference's Check works on. -/
structure ChkIn (w0 w : World) (LB CB : Nat) (last : Dg) (vs : List Value) : Prop where
  last : Whole w LB 24 last.vs
  cur : Whole w CB 24 vs
  tab : KTab w
  below : Below w0.heap.size w0 w
  new : w0.heap.size ≤ CB
  ne : LB ≠ CB
  pos : 0 < w0.heap.size
theorem ChkIn.on {w0 w w' : World} {LB CB : Nat} {last : Dg} {vs : List Value} (h : ChkIn w0 w LB CB last vs) (hb : Below w.heap.size w w') : ChkIn w0 w' LB CB last vs :=
  ⟨h.last.below hb h.last.lt, h.cur.below hb h.cur.lt, h.tab.below hb h.tab.1, h.below.trans (hb.mono h.below.size), h.new, h.ne, h.pos⟩
theorem ChkIn.filled {w0 w : World} {LB CB : Nat} {last : Dg} {vs : List Value} (h : ChkIn w0 w LB CB last vs) (us : List Value) : ChkIn w0 (w.setRow CB us.toArray) LB CB last us := by
  have hG : w.grownBy (w.setRow CB us.toArray) (some CB) := grown_row (World.grownBy.refl _ _) (.inl rfl) _
  have h1 := h.new
  have h2 := h.pos
  exact ⟨h.last.grown hG (fun e => h.ne (by injection e)), h.cur.row us, h.tab.off hG (by omega), h.below.grown hG h.below.size (fun k hk => by injection hk with hk; omega), h.new, h.ne, h.pos⟩
theorem ChkIn.ne_of {w0 w : World} {LB CB g : Nat} {last : Dg} {vs : List Value} (h : ChkIn w0 w LB CB last vs) (hg : g < w0.heap.size) : g ≠ CB := by
  have := h.new
  omega

noncomputable def rchkStep : Code := subCode [1, 1, 0, 1, 2, 2, 1, 0, 2, 1, 0] ((Tryd.f20.body).getD .skip)

set_option maxRecDepth 100000 in
set_option maxHeartbeats 2000000 in
theorem rchk_step {z0 z2 z4 z6 z9 z10 z11 z12 z13 z14 z15 z16 z17 z18 z19 z20 z21 z22 z23 z24 z25 z26 z27 z28 z29 z30 : Value} {w wr : World} {g o k N c FB LB CB : Nat} {last : Dg} {vs : List Value} {n : Nt} {E : Dg} {C : Int} (hvs : vs.length = 32) (hA : ChkIn w wr LB CB last vs) (hrng : wr.rangeAt g (o + k * 6) n.cells) (hgq : g < w.heap.size) (i2 : 0 ≤ (k : Int) ∧ (k : Int) < (N : Int))
    (HN : Hid (∀ w', KTab w' → Calls Tryd.prog 12 #[.agg vs.toArray, .agg n.cells.toArray] w' fun e w'' => e = .returned (.tuple #[.agg E.vs.toArray, .int .i64 C]) ∧ Below w'.heap.size w' w'')) {Q : Exit → Act → World → Prop}
    (hq : ∀ (y17 y18 y19 y20 y21 y22 y23 y24 y25 : Value) (w' : World), ChkIn w w' LB CB last E.vs → Q .normal ⟨(z0 :: .slice (some ⟨g, o, none⟩) N c :: z2 :: .pointer (some ⟨FB, 0, none⟩) :: z4 :: .pointer (some ⟨LB, 0, none⟩) :: z6 :: .pointer (some ⟨CB, 0, none⟩) :: .int .i64 k :: .int .i64 C :: z10 :: z11 :: z12 :: z13 :: z14 :: z15 :: z16 :: y17 :: y18 :: y19 :: y20 :: y21 :: y22 :: y23 :: y24 :: y25 :: z26 :: z27 :: z28 :: z29 :: z30 :: []).toArray, []⟩ w') : Code.wp Tryd.prog rchkStep Q ⟨(z0 :: .slice (some ⟨g, o, none⟩) N c :: z2 :: .pointer (some ⟨FB, 0, none⟩) :: z4 :: .pointer (some ⟨LB, 0, none⟩) :: z6 :: .pointer (some ⟨CB, 0, none⟩) :: .int .i64 k :: z9 :: z10 :: z11 :: z12 :: z13 :: z14 :: z15 :: z16 :: z17 :: z18 :: z19 :: z20 :: z21 :: z22 :: z23 :: z24 :: z25 :: z26 :: z27 :: z28 :: z29 :: z30 :: []).toArray, []⟩ wr := by
  conv => arg 2; whnf
  have HQ := Lib.hid hq
  have HL := Lib.hid hvs
  have hgl := Nat.lt_of_lt_of_le hgq hA.below.size
  clear hq hvs
  refine wp_region_noPanic ?_
  refine wp_region_held_drew (S := fun w' => w'.rangeAt g (o + k * 6) n.cells) (by kernel_rfl) (range_drew hrng) (fun hhS => ?_)
  replace hA := hA.on ((Below.refl wr.heap.size wr).drew)
  replace hrng := range_drew hrng
  clear hhS
  generalize hwd : wr.drew = wd at hA hrng ⊢
  replace hgl : g < wd.heap.size := by rw [← hwd]; exact hgl
  clear hwd
  have hhS := hrng
  refine wpAnyH_take (i := 1) (oi := ⟨some 19, _, _, _, _, _⟩) (v := ?_) rfl (by kernel_rfl) (by kernel_rfl) (by kernel_rfl) (fun _ _ _ h => h) (Or.inl ⟨by rfl, ?_⟩) (by assumption) ?_
  rotate_left
  · intro w hSw
    (try dsimp only at hSw)
    go_simp
    all_goals (with_reducible rfl)
  try simp only [Act.put, List.setIfInBounds_toArray, List.set_cons_zero, List.set_cons_succ]
  refine wpAnyH_take (i := 2) (oi := ⟨some 20, _, _, _, _, _⟩) (v := ?_) rfl (by kernel_rfl) (by kernel_rfl) (by kernel_rfl) (fun _ _ _ h => h) (Or.inl ⟨by rfl, ?_⟩) (by assumption) ?_
  rotate_left
  · intro w hSw
    (try dsimp only at hSw)
    go_simp
    all_goals (with_reducible rfl)
  try simp only [Act.put, List.setIfInBounds_toArray, List.set_cons_zero, List.set_cons_succ]
  refine wpAnyH_take (i := 3) (oi := ⟨some 21, _, _, _, _, _⟩) (v := ?_) rfl (by kernel_rfl) (by kernel_rfl) (by kernel_rfl) (fun _ _ _ h => h) (Or.inl ⟨by rfl, ?_⟩) (by assumption) ?_
  rotate_left
  · intro w hSw
    (try dsimp only at hSw)
    go_simp
    all_goals (with_reducible rfl)
  try simp only [Act.put, List.setIfInBounds_toArray, List.set_cons_zero, List.set_cons_succ]
  refine wpAnyH_take (i := 4) (oi := ⟨some 22, _, _, _, _, _⟩) (v := _) rfl (by kernel_rfl) (by kernel_rfl) (by kernel_rfl) (fun _ _ _ h => h) (yieldsIf_load_mid (by rfl) _ _ rfl g (o + k * 6) (by rfl) (n.cells) _ (fun w hSw => hSw) Tryd.underlying36 rfl (by rw [size_n]; rfl)) (by assumption) ?_
  try simp only [Act.put, List.setIfInBounds_toArray, List.set_cons_zero, List.set_cons_succ]
  refine wpAnyH_ready (rs := [0]) (by kernel_rfl) (by simp) ?_
  refine AllReadyH.cons (o := ⟨some 18, _, _, _, _, _⟩) rfl (fun K hK => ?_) AllReadyH.nil
  rw [if_pos (by rfl)]
  refine wp_load_mid 24 _ (by rfl) CB 0 (by rfl) vs _ (whole_rangeG hA.cur) Tryd.underlying24 (by rfl) (by rw [size_d, HL.out]) ?_
  refine hK.out _ _ (hrng) (fun _ => ?_)
  clear hK K
  try simp only [Act.put, List.setIfInBounds_toArray, List.set_cons_zero, List.set_cons_succ]
  refine wpAnyH_ready (rs := [5]) (by kernel_rfl) (by simp) ?_
  refine AllReadyH.cons (o := ⟨some 23, _, _, _, _, _⟩) rfl (fun K hK => ?_) AllReadyH.nil
  go_simp
  refine (HN.out _ hA.tab).mono ?_
  rintro e w8 ⟨rfl, hb⟩
  replace hA := hA.on hb
  replace hrng := range_low hrng hgl hb
  replace hgl := Nat.lt_of_lt_of_le hgl hb.size
  clear hb
  refine hK.out _ _ (hrng) (fun _ => ?_)
  clear hK K
  try simp only [Act.put, List.setIfInBounds_toArray, List.set_cons_zero, List.set_cons_succ]
  refine wpAnyH_take (i := 6) (oi := ⟨some 17, _, _, _, _, _⟩) (v := ?_) rfl (by kernel_rfl) (by kernel_rfl) (by kernel_rfl) (fun _ _ _ h => h) (Or.inl ⟨by rfl, ?_⟩) (by assumption) ?_
  rotate_left
  · intro w hSw
    (try dsimp only at hSw)
    go_simp
    all_goals (with_reducible rfl)
  try simp only [Act.put, List.setIfInBounds_toArray, List.set_cons_zero, List.set_cons_succ]
  refine wpAnyH_take (i := 7) (oi := ⟨some 24, _, _, _, _, _⟩) (v := ?_) rfl (by kernel_rfl) (by kernel_rfl) (by kernel_rfl) (fun _ _ _ h => h) (Or.inl ⟨by rfl, ?_⟩) (by assumption) ?_
  rotate_left
  · intro w hSw
    (try dsimp only at hSw)
    go_simp
    all_goals (with_reducible rfl)
  try simp only [Act.put, List.setIfInBounds_toArray, List.set_cons_zero, List.set_cons_succ]
  refine wpAnyH_take (i := 8) (oi := ⟨some 25, _, _, _, _, _⟩) (v := ?_) rfl (by kernel_rfl) (by kernel_rfl) (by kernel_rfl) (fun _ _ _ h => h) (Or.inl ⟨by rfl, ?_⟩) (by assumption) ?_
  rotate_left
  · intro w hSw
    (try dsimp only at hSw)
    go_simp
    all_goals (with_reducible rfl)
  try simp only [Act.put, List.setIfInBounds_toArray, List.set_cons_zero, List.set_cons_succ]
  refine wpAnyH_ready (rs := [9]) (by kernel_rfl) (by simp) ?_
  refine AllReadyH.cons (o := ⟨none, _, _, _, _, _⟩) rfl (fun K hK => ?_) AllReadyH.nil
  rw [if_pos (by rfl)]
  refine wp_store_row 24 _ _ (by rfl) CB E.vs.toArray (by rfl) (by rfl) 24 _ hA.cur (by rw [size_d]; simp [Dg.vs_length]) (by simp [Dg.vs_length, HL.out]) (Dg.all_one _) ?_
  replace hrng := range_far hrng (hA.ne_of hgq) E.vs.toArray
  replace hA := hA.filled E.vs
  generalize World.setRow _ _ _ = wx at hA hrng ⊢
  refine hK.out _ _ (hrng) (fun _ => ?_)
  clear hK K
  try simp only [Act.put]
  refine wpAnyH_take (i := 10) (oi := ⟨some 9, _, _, _, _, _⟩) (v := ?_) rfl (by kernel_rfl) (by kernel_rfl) (by kernel_rfl) (fun _ _ _ h => h) (Or.inl ⟨by rfl, ?_⟩) (by assumption) ?_
  rotate_left
  · intro w hSw
    (try dsimp only at hSw)
    go_simp
    all_goals (with_reducible rfl)
  try simp only [Act.put, List.setIfInBounds_toArray, List.set_cons_zero, List.set_cons_succ]
  refine wpAnyH_done (by kernel_rfl) ?_ _
  refine NoPanic.normal ?_
  exact HQ.out _ _ _ _ _ _ _ _ _ _ hA

set_option maxRecDepth 100000 in
set_option maxHeartbeats 2000000 in
theorem refcheck_calls (w : World) (first last : Dg) (v : Value) (l : List Nt) (hv : NotesAt w v l) (hK : KTab w) (hlen : l.length ≤ 1000) :
    Calls Tryd.prog 20 #[.agg first.vs.toArray, v, .agg last.vs.toArray] w fun e w' => e = .returned (.bool (checkT first l last)) ∧ Below w.heap.size w w' := by
  obtain ⟨p, c, rfl⟩ := hv.len
  obtain ⟨N, hN⟩ : ∃ N, l.length = N := ⟨_, rfl⟩
  have b1 : Below w.heap.size w (w.alloc (.cells first.vs.toArray 24)) := (Below.refl _ _).alloc (Nat.le_refl _) _
  have h1 : Whole (w.alloc (.cells first.vs.toArray 24)) w.heap.size 24 first.vs := Whole.new w 24 first.vs.toArray
  have s1 : (w.alloc (.cells first.vs.toArray 24)).heap.size = w.heap.size + 1 := by simp
  have HN := Lib.hid hN
  have HV := Lib.hid hv
  rw [hN] at HV hlen
  rw [hN]
  go_enter Tryd.func20, Tryd.ntmps20
  go_upto_region 1 with (first
    | (refine wpList_box_cells (by rfl) 24 _ (by rfl) last.vs.toArray (by rfl) ?_)
    | (refine wpList_box_cells (by rfl) 24 _ (by rfl) first.vs.toArray (by rfl) ?_)
    | fail)
  generalize w.alloc (.cells first.vs.toArray 24) = w1 at b1 h1 s1 ⊢
  have b2 : Below w1.heap.size w1 (w1.alloc (.cells last.vs.toArray 24)) := (Below.refl _ _).alloc (Nat.le_refl _) _
  have h2 : Whole (w1.alloc (.cells last.vs.toArray 24)) w1.heap.size 24 last.vs := Whole.new w1 24 last.vs.toArray
  have s2 : (w1.alloc (.cells last.vs.toArray 24)).heap.size = w1.heap.size + 1 := by simp
  replace h1 := h1.below b2 h1.lt
  replace b1 := b1.trans (b2.mono b1.size)
  generalize w1.alloc (.cells last.vs.toArray 24) = w2 at b1 h1 h2 s2 ⊢
  rw [s1] at h2 s2
  try simp only [World.size_alloc]
  try rw [s1]
  clear b2
  go_upto_block 0 with (first
    | (refine wpList_alloc_row (by rfl) 24 (by rfl) _ _ info_d ?_)
    | (refine wpList_store_new (by rfl) 24 _ _ (by rfl) (zeroNums .u8 32).toArray first.vs.toArray 24 (by rfl) (by rfl) (by rw [size_d]; simp [Dg.vs_length]) (by simp [zeroNums, Dg.vs_length]) (Dg.all_one _) ?_)
    | (refine wpList_load_row (by rfl) 24 _ (by rfl) w.heap.size (by rfl) 24 first.vs.toArray (0, 0) _ h1 Tryd.underlying24 (by rfl) (by rw [size_d]; simp [Dg.vs_length]) ?_)
    | fail)
  have b3 : Below w2.heap.size w2 (w2.alloc (.cells first.vs.toArray 24)) := (Below.refl _ _).alloc (Nat.le_refl _) _
  have h3 : Whole (w2.alloc (.cells first.vs.toArray 24)) w2.heap.size 24 first.vs := Whole.new w2 24 first.vs.toArray
  rw [s2] at h3
  try rw [s2]
  have b13 := b1.trans (b3.mono b1.size)
  have hA : ChkIn w (w2.alloc (.cells first.vs.toArray 24)) (w.heap.size + 1) (w.heap.size + 1 + 1) last first.vs := ⟨h2.below b3 h2.lt, h3, hK.below b13 hK.1, b13, by omega, by omega, hK.1⟩
  clear b1 b3 b13 h1 h2 h3 s1 s2 hN hv hK
  generalize w2.alloc (.cells first.vs.toArray 24) = w3 at hA ⊢
  obtain ⟨FB, hFB⟩ : ∃ x, w.heap.size = x := ⟨_, rfl⟩
  obtain ⟨LB, hLB⟩ : ∃ x, FB + 1 = x := ⟨_, rfl⟩
  obtain ⟨CB, hCB⟩ : ∃ x, LB + 1 = x := ⟨_, rfl⟩
  rw [hFB] at hA ⊢
  rw [hLB] at hA ⊢
  rw [hCB] at hA ⊢
  clear hFB hLB hCB
  go_wp2
  go_loopw [8] (fun i wr => ∃ k : Nat, k ≤ N ∧ i = .int .i64 k ∧ (l.take k).all nextOk = true ∧ ChkIn w wr LB CB last ((l.take k).foldl nextG first).vs) (fun i _ => N - (intOf i).toNat)
  case atStart => exact ⟨0, by omega, rfl, by rw [List.take_zero]; rfl, by rw [List.take_zero]; exact hA⟩
  case round =>
    clear hA
    obtain ⟨k, hkN, rfl, hok, hA⟩ := hrel
    by_cases hlt : k < N
    · obtain ⟨n, hx⟩ : ∃ x, l[k]? = some x := ⟨_, List.getElem?_eq_getElem (by rw [HN.out]; exact hlt)⟩
      obtain ⟨g, o, rfl, hgl, hrng⟩ := HV.out.at hx
      replace hrng := range_low hrng hgl hA.below
      have i1 : (k : Int) < (N : Int) := by omega
      have i2 : 0 ≤ (k : Int) ∧ (k : Int) < (N : Int) := by omega
      have b2 : IntKind.i64.wrap ((k : Int) + 1) = (k : Int) + 1 := IntWalk.i64_in _ (by omega)
      have hNx := fun w' (hK' : KTab w') => refnext_dg w' ((l.take k).foldl nextG first) n hK'
      unfold nextE nextC at hNx
      have ht1 : (l.take (k + 1)).all nextOk = nextOk n := by rw [List.take_add_one, List.all_append, hok, hx]; simp
      have ht2 : (l.take (k + 1)).foldl nextG first = nextG ((l.take k).foldl nextG first) n := by rw [List.take_add_one, List.foldl_append, hx]; rfl
      by_cases hn : nextOk n = true
      · simp only [if_pos hn] at hNx
        rw [hn] at ht1
        rw [← ht2] at hNx
        have HT := Lib.hid ht1
        have HNx := Lib.hid hNx
        clear hx hok hNx ht1 ht2 hn
        have j0 : ((0 : Int) != 0) = false := rfl
        go_upto_region 6 with fail
        refine rchk_step (Dg.vs_length _) hA hrng hgl i2 HNx ?_
        intro _ _ _ _ _ _ _ _ _ wz hA2
        go_wp2
        go_roundw
        case rel => exact ⟨k + 1, by omega, by go_num, HT.out, hA2⟩
        case measure => simp [intOf]; omega
      · simp only [if_neg hn] at hNx
        have hno : l.all nextOk = false := by
          rw [← Bool.not_eq_true, List.all_eq_true]
          exact fun h => hn (h n (List.mem_of_getElem? hx))
        have HT := Lib.hid hno
        have HNx := Lib.hid hNx
        clear hx hok hNx ht1 ht2 hn hno
        have j0 : ((2 : Int) != 0) = true := rfl
        go_upto_region 6 with fail
        refine rchk_step (Dg.vs_length _) hA hrng hgl i2 HNx ?_
        intro _ _ _ _ _ _ _ _ _ wz hA2
        go_wp2
        go_ret
        refine ⟨?_, hA2.below⟩
        unfold checkT
        rw [HT.out]
        rfl
    · obtain rfl : k = N := by omega
      have i1 : ¬ (k : Int) < (k : Int) := by omega
      rw [List.take_of_length_le (Nat.le_of_eq HN.out)] at hok hA
      have HO := Lib.hid hok
      have l3 := fun w => eql_dg w (l.foldl nextG first) last
      have l4 := fun w => eqlIn_dg w (l.foldl nextG first) last
      have hgd : Tryd.prog.eqGuardType Tryd.prog.depth 24 = false := by kernel_rfl
      obtain ⟨X, hX⟩ : ∃ X, l.foldl nextG first = X := ⟨_, rfl⟩
      rw [hX] at l3 l4 hA
      have HX := Lib.hid hX
      clear hX hok
      go_wp2_with (first | (refine wpList_load_row (by rfl) 24 _ (by rfl) CB (by rfl) 24 X.vs.toArray (0, 0) _ hA.cur Tryd.underlying24 (by rfl) (by rw [size_d]; simp [Dg.vs_length]) ?_) | (refine wpList_load_row (by rfl) 24 _ (by rfl) LB (by rfl) 24 last.vs.toArray (0, 0) _ hA.last Tryd.underlying24 (by rfl) (by rw [size_d]; simp [Dg.vs_length]) ?_) | fail)
      go_ret
      refine ⟨?_, hA.below⟩
      unfold checkT
      rw [HO.out, HX.out]
      rfl

end Go.Proofs.YtglcingpolpkdaaDoor
