/- The document's disk: done and content. -/
import Derived.Test.YtmmlpbepaefamaaTxtX3
namespace Go.Proofs.Ytmmlpbepaefamaa
open Go.RowKit

theorem made_empty (w : World) : Own (w.alloc (.cells #[] 5)) w.heap.size (.slice (some ⟨w.heap.size, 0, none⟩) 0 0) [] := World.ownsRow_lit w #[] 0 (Nat.le_refl _) (by decide) (by simp)
/-- Some of the first bytes. -/
theorem SliceIs.take {w : World} {a : Option Addr} {k c n : Nat} {l : List (BitVec 8)} (h : SliceIs w (.slice a k c) l) (hn : n ≤ l.length) : SliceIs w (.slice a n c) (l.take n) := by
  have hl : (l.take n).length = n := by rw [List.length_take]; omega
  rcases h with ⟨rfl, h⟩ | ⟨b, o, c', he, hb, hy⟩
  · obtain rfl : n = 0 := by simpa using hn
    refine .inl ⟨rfl, ?_⟩
    rcases h with he | ⟨ad, c2, he⟩
    · injection he with e1 e2 e3
      subst e1 e3
      exact .inl rfl
    · injection he with e1 e2 e3
      subst e1
      exact .inr ⟨ad, c, rfl⟩
  · injection he with e1 e2 e3
    subst e1 e3
    exact .inr ⟨b, o, c, by rw [hl], hb, hy.take n⟩
theorem slice_len {w : World} {v : Value} {l : List (BitVec 8)} (h : SliceIs w v l) : ∃ a c, v = .slice a l.length c := by
  rcases h with ⟨rfl, rfl | ⟨ad, c, rfl⟩⟩ | ⟨_, _, _, rfl, _, _⟩ <;> exact ⟨_, _, rfl⟩
/-- A slice has room for what it holds. -/
def Roomy (v : Value) (n : Nat) : Prop := ∃ a c, v = .slice a n c ∧ n ≤ c
theorem Own.roomy {w : World} {B : Nat} {v : Value} {l : List (BitVec 8)} (h : Own w B v l) : Roomy v l.length := by
  obtain ⟨a, c, hv⟩ := slice_of_row h
  subst hv
  exact ⟨a, c, rfl, row_cap h⟩

set_option maxRecDepth 100000 in
set_option maxHeartbeats 2000000 in
theorem rdone_cut (w : World) (v : Value) (l : List (BitVec 8)) (n : Nat) (hv : SliceIs w v l) (hr : Roomy v l.length) (hl : l.length ≤ 2000000) :
    Calls Try.prog 83 #[v, .agg (opC (.cut n, .slice none 0 0)).toArray] w fun e w' => ∃ u, e = .returned u ∧ (∃ a n c, u = .slice a n c) ∧ Own w' w.heap.size u (l.take n) ∧ Below w.heap.size w w' := by
  obtain ⟨a, c, rfl, hc⟩ := hr
  obtain ⟨k, hk⟩ : ∃ k, min n l.length = k := ⟨_, rfl⟩
  have hkl : l.take n = l.take k := by
    rw [← hk]
    by_cases h : n ≤ l.length
    · rw [Nat.min_eq_left h]
    · rw [Nat.min_eq_right (by omega), List.take_of_length_le (by omega), List.take_of_length_le (Nat.le_refl _)]
  rw [hkl]
  have m1 : min (n : Int) (l.length : Int) = (k : Int) := by omega
  have j1 : (0 : Int) ≤ (k : Int) := by omega
  have j2 : (k : Int) ≤ (c : Int) := by omega
  have b1 : Below w.heap.size w (w.alloc (.cells (opC (.cut n, .slice none 0 0)).toArray 120)) := (Below.refl _ _).alloc (Nat.le_refl _) _
  have hX := Whole.new w 120 (opC (.cut n, .slice none 0 0)).toArray
  have x0 := hX.cell 0
  have x1 := hX.cell 1
  have hXl := hX.lt
  have S1 := (hv.low b1).take (n := k) (by omega)
  have HL := Lib.hid (show (l.take k).length ≤ 2000000 by rw [List.length_take]; omega)
  clear hX hv hkl hk
  show Calls Try.prog 83 #[.slice a l.length c, .agg #[.bool true, .int .i64 n, .slice none 0 0]] w _
  generalize hw : w.alloc (.cells (opC (.cut n, .slice none 0 0)).toArray 120) = w0 at b1 x0 x1 S1 hXl
  replace hw : w.alloc (.cells #[.bool true, .int .i64 n, .slice none 0 0] 120) = w0 := hw
  replace x0 : w0.cell? ⟨w.heap.size, 0, none⟩ = some (.bool true) := x0
  replace x1 : w0.cell? ⟨w.heap.size, 1, none⟩ = some (.int .i64 n) := x1
  have b2 : Below w0.heap.size w0 (w0.alloc (.cells #[] 5)) := (Below.refl _ _).alloc (Nat.le_refl _) _
  have x2 := (b2.cell (p := ⟨w.heap.size, 1, none⟩) hXl).trans x1
  have hE := made_empty w0
  replace S1 := S1.low b2
  go_enter Try.func83, Try.ntmps83
  go_wp2_with (first
    | (refine wpList_append_bytes (w := w0.alloc (.cells #[] 5)) (by rfl) _ _ (by rfl) w0.heap.size _ [] (by rfl) hE _ (l.take k) (by rfl) S1 (by have := HL.out; simp only [List.length_nil]; omega) b2.size ?_; intro v3 w3 O3 G3; obtain ⟨a3, n3, c3, e3⟩ := slice_any O3; subst e3)
    | fail)
  go_ret
  have B2 := b1.trans (b2.mono b1.size)
  refine ⟨_, rfl, ⟨_, _, _, rfl⟩, ?_, B2.grown G3 B2.size (fun i hi => by have h2 : w0.heap.size = i := Option.some.inj hi; have := b1.size; omega)⟩
  rw [List.nil_append] at O3
  exact own_down b1.size O3

set_option maxRecDepth 100000 in
set_option maxHeartbeats 2000000 in
theorem rdone_add (w : World) (v bv : Value) (l b : List (BitVec 8)) (hv : SliceIs w v l) (hb : SliceIs w bv b) (hl : l.length ≤ 2000000) (hl2 : b.length ≤ 2000000) :
    Calls Try.prog 83 #[v, .agg (opC (.add b, bv)).toArray] w fun e w' => ∃ u, e = .returned u ∧ (∃ a n c, u = .slice a n c) ∧ Own w' w.heap.size u (l ++ b) ∧ Below w.heap.size w w' := by
  obtain ⟨a, c, rfl⟩ := slice_len hv
  obtain ⟨ba, bc, rfl⟩ := slice_len hb
  have b1 : Below w.heap.size w (w.alloc (.cells (opC (.add b, .slice ba b.length bc)).toArray 120)) := (Below.refl _ _).alloc (Nat.le_refl _) _
  have hX := Whole.new w 120 (opC (.add b, .slice ba b.length bc)).toArray
  have x0 := hX.cell 0
  have S1 := hv.low b1
  have S2 := hb.low b1
  show Calls Try.prog 83 #[.slice a l.length c, .agg #[.bool false, .int .i64 0, .slice ba b.length bc]] w _
  generalize hw : w.alloc (.cells (opC (.add b, .slice ba b.length bc)).toArray 120) = w0 at b1 x0 S1 S2 hX
  replace hw : w.alloc (.cells #[.bool false, .int .i64 0, .slice ba b.length bc] 120) = w0 := hw
  replace x0 : w0.cell? ⟨w.heap.size, 0, none⟩ = some (.bool false) := x0
  have HX := Lib.hid hX
  clear hX hv hb
  go_enter Try.func83, Try.ntmps83
  go_wp2
  clear x0 hw
  refine wp_region_noPanic ?_
  refine wp_region_held_drew (S := fun w2 => w2.cell? ⟨w.heap.size, 2, none⟩ = some (.slice ba b.length bc)) (by kernel_rfl) (HX.out.cell 2) (fun hhS => ?_)
  have Bd := b1.trans (((Below.refl w0.heap.size w0).drew).mono b1.size)
  replace S1 := S1.low ((Below.refl w0.heap.size w0).drew)
  replace S2 := S2.low ((Below.refl w0.heap.size w0).drew)
  have hX := HX.out.below ((Below.refl w0.heap.size w0).drew) HX.out.lt
  clear b1
  generalize w0.drew = wd at Bd S1 S2 hX hhS ⊢
  refine wpAnyH_take (i := 1) (oi := ⟨some 17, _, _, _, _, _⟩) (v := ?_) rfl (by kernel_rfl) (by kernel_rfl) (by kernel_rfl) (fun _ _ _ h => h) (Or.inl ⟨by rfl, ?_⟩) (by assumption) ?_
  rotate_left
  · intro w hSw
    (try dsimp only at hSw)
    go_simp
    all_goals (with_reducible rfl)
  try simp only [Act.put, List.setIfInBounds_toArray, List.set_cons_zero, List.set_cons_succ]
  refine wpAnyH_take (i := 3) (oi := ⟨some 19, _, _, _, _, _⟩) (v := ?_) rfl (by kernel_rfl) (by kernel_rfl) (by kernel_rfl) (fun _ _ _ h => h) (Or.inl ⟨by rfl, ?_⟩) (by assumption) ?_
  rotate_left
  · intro w hSw
    (try dsimp only at hSw)
    go_simp
    all_goals (with_reducible rfl)
  try simp only [Act.put, List.setIfInBounds_toArray, List.set_cons_zero, List.set_cons_succ]
  refine wpAnyH_take (i := 4) (oi := ⟨some 20, _, _, _, _, _⟩) (v := ?_) rfl (by kernel_rfl) (by kernel_rfl) (by kernel_rfl) (fun _ _ _ h => h) (Or.inl ⟨by rfl, ?_⟩) (by assumption) ?_
  rotate_left
  · intro w hSw
    (try dsimp only at hSw)
    go_simp
    all_goals (with_reducible rfl)
  try simp only [Act.put, List.setIfInBounds_toArray, List.set_cons_zero, List.set_cons_succ]
  refine wpAnyH_ready (rs := [0]) (by kernel_rfl) (by simp) ?_
  refine AllReadyH.cons (o := ⟨some 16, _, _, _, _, _⟩) rfl (fun K hK => ?_) AllReadyH.nil
  go_simp
  have b2 : Below wd.heap.size wd (wd.alloc (.cells #[] 5)) := (Below.refl _ _).alloc (Nat.le_refl _) _
  have hE := made_empty wd
  have S3 := S1.low b2
  have hX3 := hX.below b2 hX.lt
  refine hK.out _ _ (hX3.cell 2) (fun _ => ?_)
  clear hK K
  try simp only [Act.put, List.setIfInBounds_toArray, List.set_cons_zero, List.set_cons_succ]
  refine wpAnyH_ready (rs := [2]) (by kernel_rfl) (by simp) ?_
  refine AllReadyH.cons (o := ⟨some 18, _, _, _, _, _⟩) rfl (fun K hK => ?_) AllReadyH.nil
  rw [if_pos (by rfl)]
  refine wp_append_bytesM _ _ (by rfl) wd.heap.size _ [] (by rfl) hE _ l (by rfl) S3 (by simp only [List.length_nil]; omega) b2.size ?_
  intro v4 w4 O4 G4 _
  obtain ⟨a4, n4, c4, h4⟩ := slice_any O4
  subst h4
  have B4 := b2.grown G4 b2.size (fun i hi => own_ge hE hi)
  have S4 := S2.low B4
  have hX4 := hX.below B4 hX.lt
  rw [List.nil_append] at O4
  refine hK.out _ _ (hX4.cell 2) (fun _ => ?_)
  clear hK K
  try simp only [Act.put, List.setIfInBounds_toArray, List.set_cons_zero, List.set_cons_succ]
  refine wpAnyH_ready (rs := [5]) (by kernel_rfl) (by simp) ?_
  refine AllReadyH.cons (o := ⟨some 21, _, _, _, _, _⟩) rfl (fun K hK => ?_) AllReadyH.nil
  rw [if_pos (by rfl)]
  refine wp_append_bytesM _ _ (by rfl) wd.heap.size _ l (by rfl) O4 _ b (by rfl) S4 (by omega) B4.size ?_
  intro v5 w5 O5 G5 _
  obtain ⟨a5, n5, c5, h5⟩ := slice_any O5
  subst h5
  have B5 := B4.grown G5 B4.size (fun i hi => own_ge O4 hi)
  have hX5 := hX.below B5 hX.lt
  refine hK.out _ _ (hX5.cell 2) (fun _ => ?_)
  clear hK K
  try simp only [Act.put, List.setIfInBounds_toArray, List.set_cons_zero, List.set_cons_succ]
  refine wpAnyH_take (i := 6) (oi := ⟨some 4, _, _, _, _, _⟩) (v := ?_) rfl (by kernel_rfl) (by kernel_rfl) (by kernel_rfl) (fun _ _ _ h => h) (Or.inl ⟨by rfl, ?_⟩) (by assumption) ?_
  rotate_left
  · intro w hSw
    (try dsimp only at hSw)
    go_simp
    all_goals (with_reducible rfl)
  try simp only [Act.put, List.setIfInBounds_toArray, List.set_cons_zero, List.set_cons_succ]
  refine wpAnyH_done (by kernel_rfl) ?_ _
  refine NoPanic.normal ?_
  go_wp2
  go_ret
  exact ⟨_, rfl, ⟨_, _, _, rfl⟩, own_down Bd.size O5, Bd.trans (B5.mono Bd.size)⟩
-- END rdone_add

set_option maxRecDepth 100000 in
set_option maxHeartbeats 2000000 in
theorem rcontent_calls (w : World) (B : Nat) (T : Nat → Prop) (x : Rx) (h : RxAt w B T x) (hlen : x.f.ops.length ≤ 100000) :
    Calls Try.prog 79 #[.agg x.cells.toArray] w fun e w' => ∃ u, e = .returned u ∧ (∃ a n c, u = .slice a n c) ∧ Own w' w.heap.size u x.f.content ∧ Below w.heap.size w w' := by
  obtain ⟨nm, sv, ov, l, f⟩ := x
  have hcnt : l.length = f.ops.length := by rw [← h.ops]; simp
  have hrow := h.row
  simp only [] at hrow hlen
  rw [hcnt] at hrow
  obtain ⟨sa, sc, hsv⟩ := slice_of_row h.safe
  obtain ⟨oa, oc, hov⟩ := slice_of_row hrow
  simp only [] at hsv
  subst hsv hov
  have b1 : Below w.heap.size w (w.alloc (.cells (Rx.cells ⟨nm, .slice sa f.safe.length sc, .slice oa f.ops.length oc, l, f⟩).toArray 116)) := (Below.refl _ _).alloc (Nat.le_refl _) _
  have hX := Whole.new w 116 (Rx.cells ⟨nm, .slice sa f.safe.length sc, .slice oa f.ops.length oc, l, f⟩).toArray
  have hR := h.low b1
  show Calls Try.prog 79 #[.agg #[.string nm, .slice sa f.safe.length sc, .slice oa f.ops.length oc, .bool (!f.fresh)]] w _
  generalize hw : w.alloc (.cells (Rx.cells ⟨nm, .slice sa f.safe.length sc, .slice oa f.ops.length oc, l, f⟩).toArray 116) = w0 at b1 hX hR
  replace hw : w.alloc (.cells #[.string nm, .slice sa f.safe.length sc, .slice oa f.ops.length oc, .bool (!f.fresh)] 116) = w0 := hw
  have x1 : w0.cell? ⟨w.heap.size, 1, none⟩ = some (.slice sa f.safe.length sc) := hX.cell 1
  have x2 : w0.cell? ⟨w.heap.size, 2, none⟩ = some (.slice oa f.ops.length oc) := hX.cell 2
  have HR := Lib.hid hR
  have HX := Lib.hid hX
  have HB := Lib.hid b1
  have b2 : Below w0.heap.size w0 (w0.alloc (.cells #[] 5)) := (Below.refl _ _).alloc (Nat.le_refl _) _
  have hE := made_empty w0
  have x1' := (b2.cell (p := ⟨w.heap.size, 1, none⟩) hX.lt).trans x1
  have S1 : SliceIs (w0.alloc (.cells #[] 5)) (.slice sa f.safe.length sc) f.safe := (Own.slice hR.safe).low b2
  have hs1 : f.safe.length ≤ 1048576 := h.okf.1
  obtain ⟨N, hN⟩ : ∃ n, f.ops.length = n := ⟨_, rfl⟩
  rw [hN] at hlen hcnt hrow x2 hw ⊢
  have HN := Lib.hid (And.intro hN hcnt)
  have HRW := Lib.hid hrow
  clear h hR hX hcnt hN hrow
  go_enter Try.func79, Try.ntmps79
  go_upto_region 2 with (first
    | (refine wpList_append_bytes (w := w0.alloc (.cells #[] 5)) (by rfl) _ _ (by rfl) w0.heap.size _ [] (by rfl) hE _ f.safe (by rfl) S1 (by simp only [List.length_nil]; omega) b2.size ?_; intro v3 w3 O3 G3; obtain ⟨a3, n3, c3, e3⟩ := slice_any O3; subst e3)
    | fail)
  rw [List.nil_append] at O3
  have b3 := b2.grown G3 b2.size (fun i hi => by have h2 : w0.heap.size = i := Option.some.inj hi; omega)
  have x3 := (b3.cell (p := ⟨w.heap.size, 2, none⟩) HX.out.lt).trans x2
  clear x1 x1' x2 S1 hE b2 hw G3
  have HX3 := Lib.hid (HX.out.below b3 HX.out.lt)
  go_wp2
  clear x3
  go_loopw [3, 4] (fun x i wr => ∃ (k : Nat) (ua : Option Addr) (un uc : Nat), k ≤ N ∧ i = .int .i64 k ∧ x = .slice ua un uc ∧ Own wr w0.heap.size (.slice ua un uc) (runOps f.safe (f.ops.take k)) ∧ Below w0.heap.size w0 wr) (fun _ i _ => N - (intOf i).toNat)
  case atStart => exact ⟨0, _, _, _, by omega, rfl, rfl, by rw [List.take_zero]; exact O3, b3⟩
  case round =>
    clear O3
    obtain ⟨k, ua, un, uc, hk, rfl, rfl, hO, hB⟩ := hrel
    have x2 : wr.cell? ⟨w.heap.size, 2, none⟩ = some (.slice oa N oc) := by
      have e1 := (HX.out.below hB HX.out.lt).cell 2
      rw [← HN.out.1]
      exact e1
    by_cases hlt : k < N
    · obtain ⟨p, hp⟩ : ∃ p, l[k]? = some p := ⟨_, List.getElem?_eq_getElem (by rw [HN.out.2]; exact hlt)⟩
      have hRw := HR.out.low hB
      obtain ⟨g, hg, hr⟩ := own_at opC_length hRw.row hp
      subst hg
      have ho := hRw.each p (List.mem_of_getElem? hp)
      have hok : f.ops[k]? = some p.1 := by
        have := HR.out.ops
        simp only [] at this
        rw [← this, List.getElem?_map, hp]
        rfl
      have i1 : (k : Int) < (N : Int) := by omega
      have i2 : 0 ≤ (k : Int) ∧ (k : Int) < (N : Int) := by omega
      have b2 : IntKind.i64.wrap ((k : Int) + 1) = (k : Int) + 1 := IntWalk.i64_in _ (by omega)
      have hst := runOps_step f.safe f.ops k _ hok
      have hmx := (okOps_at f.ops f.safe k _ HR.out.okf.2 hok)
      have hml := okOps_len _ _ HR.out.okf.1 (okOps_take f.ops f.safe k HR.out.okf.2)
      simp only [] at hml hmx
      obtain ⟨X, hX⟩ : ∃ x, runOps f.safe (f.ops.take k) = x := ⟨_, rfl⟩
      rw [hX] at hst hO hml
      have HST := Lib.hid (And.intro hst (And.intro hmx.2 hml))
      clear hX hp hok hst hmx hml
      have c0 := hr 0
      have c1 := hr 1
      have c2 := hr 2
      obtain ⟨o, bv⟩ := p
      cases o with
      | add b =>
        have hbo : SliceIs wr bv b := Own.slice (show Own wr B bv b from ho)
        obtain ⟨ba, bc, hbv⟩ := slice_of_row (show Own wr B bv b from ho)
        subst hbv
        have c0 := c0 _ rfl
        have c1 := c1 _ rfl
        have c2 := c2 _ rfl
        simp only [Nat.add_zero] at c0
        have HDN := Lib.hid (rdone_add wr _ _ X b hO.slice hbo (by have := HST.out.2.2; omega) (by have h1 := HST.out.2.1; rw [HST.out.1] at h1; simp [Dop.run] at h1; omega))
        have hge := hB.size
        clear hr ho hO hbo hRw
        go_wp2_with (first
          | (go_at_call 83; refine HDN.out.mono ?_; rintro e w4 ⟨_, rfl, ⟨a4, n4, c4, rfl⟩, O4, b4⟩)
          | fail)
        go_roundw
        case rel => exact ⟨k + 1, _, _, _, by omega, by go_num, rfl, by rw [HST.out.1]; exact own_down hge O4, hB.trans (b4.mono hge)⟩
        case measure => simp [intOf]; omega
      | cut n =>
        have hbv : bv = .slice Option.none 0 0 := ho
        subst hbv
        have c0 := c0 _ rfl
        have c1 := c1 _ rfl
        have c2 := c2 _ rfl
        simp only [Nat.add_zero] at c0
        have HDN := Lib.hid (rdone_cut wr _ X n hO.slice hO.roomy (by have := HST.out.2.2; omega))
        have hge := hB.size
        clear hr ho hO hRw
        go_wp2_with (first
          | (go_at_call 83; refine HDN.out.mono ?_; rintro e w4 ⟨_, rfl, ⟨a4, n4, c4, rfl⟩, O4, b4⟩)
          | fail)
        go_roundw
        case rel => exact ⟨k + 1, _, _, _, by omega, by go_num, rfl, by rw [HST.out.1]; exact own_down hge O4, hB.trans (b4.mono hge)⟩
        case measure => simp [intOf]; omega
    · obtain rfl : k = N := by omega
      have i1 : ¬ (k : Int) < (k : Int) := by omega
      rw [List.take_of_length_le (Nat.le_of_eq HN.out.1)] at hO
      go_wp2
      go_ret
      exact ⟨_, rfl, ⟨_, _, _, rfl⟩, own_down HB.out.size hO, HB.out.trans (hB.mono HB.out.size)⟩

end Go.Proofs.Ytmmlpbepaefamaa

/- The document's disk: laid and gone. -/
namespace Go.Proofs.Ytmmlpbepaefamaa
open Go.RowKit

/-- Does one name come before another? -/
def ltN (a b : ByteArray) : Bool := Op.bytesLess a.toList b.toList
/-- A file, put into its place. -/
def insX (x : Rx) : List Rx → List Rx
  | [] => [x]
  | y :: l => if ltN x.name y.name = true then x :: y :: l else y :: insX x l
def hitX (x : Rx) (l : List Rx) : Bool := l.any fun y => ltN x.name y.name
theorem insX_none (x : Rx) : ∀ (l m : List Rx), hitX x l = false → insX x (l ++ m) = l ++ insX x m
  | [], _, _ => rfl
  | y :: l, m, h => by
    unfold hitX at h
    rw [List.any_cons, Bool.or_eq_false_iff] at h
    show (if ltN x.name y.name = true then _ else y :: insX x (l ++ m)) = _
    rw [h.1, if_neg (by decide), insX_none x l m h.2]
    rfl
theorem insX_hit (x : Rx) : ∀ (l m : List Rx), hitX x l = true → insX x (l ++ m) = insX x l ++ m
  | [], _, h => by cases h
  | y :: l, m, h => by
    show (if ltN x.name y.name = true then x :: y :: (l ++ m) else y :: insX x (l ++ m)) = (if ltN x.name y.name = true then x :: y :: l else y :: insX x l) ++ m
    by_cases hy : ltN x.name y.name = true
    · rw [if_pos hy, if_pos hy]
      rfl
    · rw [if_neg hy, if_neg hy]
      have : hitX x l = true := by
        unfold hitX at h ⊢
        rw [List.any_cons, Bool.or_eq_true] at h
        exact h.elim (fun e => absurd e hy) id
      rw [insX_hit x l m this]
      rfl
/-- The list while it is gone through. -/
def outX (x : Rx) (l : List Rx) : List Rx := if hitX x l = true then insX x l else l
theorem outX_step (x y : Rx) (l : List Rx) : outX x (l ++ [y]) = if hitX x l = true then outX x l ++ [y] else if ltN x.name y.name = true then (outX x l ++ [x]) ++ [y] else outX x l ++ [y] := by
  unfold outX
  have hh : hitX x (l ++ [y]) = (hitX x l || ltN x.name y.name) := by
    unfold hitX
    rw [List.any_append]
    simp
  by_cases h : hitX x l = true
  · rw [if_pos h, if_pos h, hh, h, if_pos (by rfl), insX_hit x l [y] h]
  · have h2 : hitX x l = false := by simpa using h
    rw [if_neg h, if_neg h, hh, h2, Bool.false_or]
    by_cases hy : ltN x.name y.name = true
    · rw [if_pos hy, if_pos hy, insX_none x l [y] h2]
      show l ++ (if ltN x.name y.name = true then [x, y] else _) = _
      rw [if_pos hy, List.append_assoc]
      rfl
    · rw [if_neg hy, if_neg hy]
theorem insX_end (x : Rx) (l : List Rx) : insX x l = if hitX x l = true then outX x l else outX x l ++ [x] := by
  unfold outX
  by_cases h : hitX x l = true
  · rw [if_pos h, if_pos h]
  · have h2 : hitX x l = false := by simpa using h
    rw [if_neg h, if_neg h]
    have := insX_none x l [] h2
    rw [List.append_nil] at this
    exact this
theorem insX_mem (x : Rx) : ∀ (l : List Rx) (y : Rx), y ∈ insX x l → y = x ∨ y ∈ l
  | [], y, h => .inl (by simpa [insX] using h)
  | z :: l, y, h => by
    unfold insX at h
    split at h
    · exact (List.mem_cons.1 h).imp id id
    · rcases List.mem_cons.1 h with h | h
      · exact .inr (h ▸ List.mem_cons_self)
      · exact (insX_mem x l y h).imp id (List.mem_cons_of_mem _)
theorem insX_len (x : Rx) : ∀ l : List Rx, (insX x l).length = l.length + 1
  | [] => rfl
  | z :: l => by
    unfold insX
    split
    · rfl
    · rw [List.length_cons, insX_len x l, List.length_cons]
theorem outX_len (x : Rx) (l : List Rx) : (outX x l).length ≤ l.length + 1 := by
  unfold outX
  split
  · rw [insX_len]
    omega
  · omega

/-- T, and all that was laid since. -/
def TX (T : Nat → Prop) (a b : Nat) (i : Nat) : Prop := T i ∨ (a ≤ i ∧ i < b)
/-- The files' row is another one now. -/
theorem RD.files {w w1 : World} {B m n : Nat} {T : Nat → Prop} {fv rv fv' : Value} {l l' : List Rx} {rl : List Int} (h : RD w B m T fv rv l rl n) (hb : Below w.heap.size w w1) (hrow : w1.ownsRow w.heap.size 116 4 fv' l'.length (l'.flatMap Rx.cells)) (he : ∀ x ∈ l', RxAt w1 B (TX T w.heap.size w1.heap.size) x) :
    RD (w1.setCell ⟨m, 0, none⟩ fv') B m (TX T w.heap.size w1.heap.size) fv' rv l' rl n ∧ Only w (w1.setCell ⟨m, 0, none⟩ fv') fun i => i = m := by
  have h1 := h.low hb
  have ho := Only.set w1 ⟨m, 0, none⟩ fv'
  have hB := (h.old m h.tm).1
  have hBw : B ≤ w.heap.size := by have := (h.old m h.tm).2; omega
  refine ⟨⟨h1.box.put 0 fv', own_down hBw (row_only hrow ho (fun g hg e => row_ne_whole hrow h1.box (by decide) (hg.trans (congrArg some e)))), fun x hx => (he x hx).only ho (fun g _ e => h1.other g (.inl e)) (fun _ e => e), row_only h1.ref ho (fun g hg e => row_ne_whole h1.ref h1.box (by decide) (hg.trans (congrArg some e))), .inl h.tm, fun g hg => .inr ⟨own_ge hrow hg, row_lt hrow hg⟩, fun g hg => .inl (h.tv g hg), fun i hi => ?_⟩, ((Only.of_below hb (fun _ => False)).trans ho).weak fun _ _ e => e.elim False.elim id⟩
  rcases hi with hi | hi
  · exact ⟨(h.old i hi).1, by simpa using Nat.lt_of_lt_of_le (h.old i hi).2 hb.size⟩
  · exact ⟨Nat.le_trans hBw hi.1, by simpa using hi.2⟩
theorem info_file : ∃ i, Try.prog.info? 116 = some i ∧ i.zero = some (.agg #[.string ⟨#[]⟩, .slice none 0 0, .slice none 0 0, .bool false]) ∧ i.size = 4 ∧ i.bytes = 72 := info_of (by kernel_rfl)
theorem zero_file : (Try.prog.info? 116).map (fun i => (i.zero, i.size)) = some (some (.agg #[.string ⟨#[]⟩, .slice none 0 0, .slice none 0 0, .bool false]), 4) := by kernel_rfl
theorem size_file : (Try.prog.info? 116).map (·.size) = some 4 := by kernel_rfl
theorem RxAt.one {w : World} {B : Nat} {T : Nat → Prop} {x : Rx} (h : RxAt w B T x) : ∀ y ∈ x.cells, y.oneCell' = true := fun y hy => by
  obtain ⟨a, c, hv⟩ := slice_of_row h.safe
  obtain ⟨a2, c2, hv2⟩ := slice_of_row h.row
  unfold Rx.cells at hy
  rw [hv, hv2] at hy
  simp at hy
  rcases hy with rfl | rfl | rfl | rfl <;> rfl
theorem wpList_load_X {w : World} {ops : Array Oper} {rest : List Oper} {op : Oper} {a : Act} {Q : Exit → Act → World → Prop} (hgd : op.guard = none) (x : Operand) (ho : op.op = .load 116 x) (b o : Nat) (hx : a.eval x = .pointer (some ⟨b, o, none⟩)) (q : Rx) (hc : w.rangeAt b o q.cells)
    (h : wpList Try.prog ops Q rest (a.put op.dst (.agg q.cells.toArray)) w) : wpList Try.prog ops Q (op :: rest) a w := wpList_load_mid hgd 116 x ho b o hx q.cells _ hc Try.underlying116 (by rfl) size_file h

set_option maxRecDepth 100000 in
set_option maxHeartbeats 4000000 in
theorem rgone_calls (w : World) (B m n : Nat) (T : Nat → Prop) (fv rv : Value) (l : List Rx) (rl : List Int) (h : RD w B m T fv rv l rl n) (hl : l.length ≤ 1000) (s : ByteArray) :
    Calls Try.prog 82 #[.pointer (some ⟨m, 0, none⟩), .string s] w fun e w' => e = .returned (.tuple #[]) ∧ ∃ fv' hi, RD w' B m (TX T w.heap.size hi) fv' rv (l.filter fun x => !(x.name.toList == s.toList)) rl n ∧ hi = w'.heap.size ∧ Only w w' fun i => i = m := by
  have c0 := h.box.cell 0
  obtain ⟨fa, fc, hfv⟩ := slice_of_row h.row
  obtain ⟨N, hN⟩ : ∃ k, l.length = k := ⟨_, rfl⟩
  rw [hN] at hfv hl
  subst hfv
  have HN := Lib.hid hN
  have H := Lib.hid h
  clear h hN
  go_enter Try.func82, Try.ntmps82
  go_wp2
  clear c0
  go_loopw [4, 5] (fun x i wr => ∃ (k : Nat) (ua : Option Addr) (un uc : Nat), k ≤ N ∧ i = .int .i64 k ∧ x = .slice ua un uc ∧ wr.ownsRow w.heap.size 116 4 (.slice ua un uc) ((l.take k).filter fun x => !(x.name.toList == s.toList)).length (((l.take k).filter fun x => !(x.name.toList == s.toList)).flatMap Rx.cells) ∧ Below w.heap.size w wr) (fun _ i _ => N - (intOf i).toNat)
  case atStart => exact ⟨0, none, 0, 0, by omega, rfl, rfl, World.ownsRow_nil w _ _ _, Below.refl _ _⟩
  case round =>
    obtain ⟨k, ua, un, uc, hk, rfl, rfl, hO, hB⟩ := hrel
    have hR := H.out.low hB
    have c0 := hR.box.cell 0
    by_cases hlt : k < N
    · obtain ⟨x, hx⟩ : ∃ x, l[k]? = some x := ⟨_, List.getElem?_eq_getElem (by rw [HN.out]; exact hlt)⟩
      obtain ⟨g, rfl, hr⟩ := own_atX hR.row hx
      have c1 := hr 0 _ rfl
      simp only [Nat.add_zero] at c1
      have hxa := hR.each x (List.mem_of_getElem? hx)
      have i1 : (k : Int) < (N : Int) := by omega
      have i2 : 0 ≤ (k : Int) ∧ (k : Int) < (N : Int) := by omega
      have s2 : IntKind.i64.wrap ((k : Int) + 1) = (k : Int) + 1 := IntWalk.i64_in _ (by omega)
      obtain ⟨q, hq⟩ : ∃ q, (x.name.toList == s.toList) = q := ⟨_, rfl⟩
      have hst : (l.take (k + 1)).filter (fun x => !(x.name.toList == s.toList)) = (l.take k).filter (fun x => !(x.name.toList == s.toList)) ++ (if q = true then [] else [x]) := by
        rw [List.take_add_one, hx, List.filter_append]
        show _ ++ List.filter _ [x] = _
        rw [← hq]
        cases hxs : (x.name.toList == s.toList) <;> simp [hxs]
      have HST := Lib.hid hst
      have HR := Lib.hid hR
      have hlen : ((l.take k).filter fun x => !(x.name.toList == s.toList)).length ≤ 1000 := Nat.le_trans (List.length_filter_le _ _) (by rw [List.length_take]; omega)
      have HL := Lib.hid hlen
      clear hx hR hst hlen
      generalize hnx : x.name = nx at c1 hq
      clear hnx
      cases q
      · have hb2 : Below wr.heap.size wr (wr.alloc (.cells x.cells.toArray 116)) := (Below.refl _ _).alloc (Nat.le_refl _) _
        have s8 := src_new (f := Rx.cells) (n := 4) wr 116 x
        have hO2 := row_low hO hb2
        have HB := Lib.hid hB
        clear hO
        go_wp2_with (first
          | (refine wpList_append_gen (f := Rx.cells) (n := 4) (w := wr.alloc (.cells x.cells.toArray 116)) (by rfl) _ _ 97 116 (by rfl) _ 72 Try.underlying97 info_file rfl (by decide) (by decide) lenX w.heap.size _ _ ((l.take k).filter fun x => !(x.name.toList == s.toList)) [x] (by rfl) hO2 (by rfl) s8 (fun q hq => by (obtain rfl : q = _ := by simpa using hq); exact hxa.one) (by have := HL.out; simp only [List.length_cons, List.length_nil]; omega) (Nat.le_trans HB.out.size hb2.size) ?_; intro v9 w9 O9 G9 M9; obtain ⟨a9, n9, c9, he9⟩ := slice_any O9; subst he9)
          | (refine wpList_slice_one (by rfl) 97 116 _ (by rfl) x.cells.toArray (by rfl) Try.underlying97 zero_file (by decide) (by decide) (by rfl) ?_)
          | (refine wpList_load_X (by rfl) _ (by rfl) g (k * 4) (by rfl) x hr ?_)
          | fail)
        go_roundw
        case rel => exact ⟨k + 1, _, _, _, by omega, by go_num, rfl, by rw [HST.out]; exact O9, (HB.out.trans (hb2.mono HB.out.size)).grown G9 (Nat.le_trans HB.out.size hb2.size) (fun i hi => own_ge hO2 hi)⟩
        case measure => simp [intOf]; omega
      · rw [if_pos rfl, List.append_nil] at HST
        go_wp2
        go_roundw
        case rel => exact ⟨k + 1, _, _, _, by omega, by go_num, rfl, by rw [HST.out]; exact hO, hB⟩
        case measure => simp [intOf]; omega
    · obtain rfl : k = N := by omega
      have i1 : ¬ (k : Int) < (k : Int) := by omega
      rw [List.take_of_length_le (Nat.le_of_eq HN.out)] at hO
      have hF := H.out.files hB hO (fun x hx => (hR.each x (List.mem_filter.1 hx).1).only (Only.of_below (Below.refl _ _) (fun _ => False)) (fun _ _ e => e.elim) (fun g hg => .inl hg))
      have f0 := hR.box.free 0
      have HF := Lib.hid hF
      clear hF hR hO
      go_wp2
      go_end0
      exact ⟨rfl, _, _, HF.out.1, by simp, HF.out.2⟩

end Go.Proofs.Ytmmlpbepaefamaa
