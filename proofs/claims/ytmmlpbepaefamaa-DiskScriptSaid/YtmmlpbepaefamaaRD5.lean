/- The document's disk: laid. -/
import Derived.Test.YtmmlpbepaefamaaRD3X2
namespace Go.Proofs.Ytmmlpbepaefamaa
open Go.RowKit

theorem wpList_box_any {P : Program} {ops : Array Oper} {rest : List Oper} {o : Oper} {a : Act} {w : World} {Q : Exit → Act → World → Prop} (hg : o.guard = none) (t : TypeId) (x : Operand) (ho : o.op = .box t x)
    (cells : Array Value) (hx : a.eval x = .agg cells)
    (h : wpList P ops Q rest (a.put o.dst (.pointer (some ⟨w.heap.size, 0, none⟩))) (w.alloc (.cells cells t))) : wpList P ops Q (o :: rest) a w :=
  wpList_plain hg fun K hK => by
    unfold Oper.wp execOp
    simp only [ho, hx]
    simp [Instr.box, newVar, Value.cells, newRow]
    exact hK _ _ h
theorem Whole.range {w : World} {g : Nat} {t : TypeId} {l : List Value} (h : Whole w g t l) : w.rangeAt g 0 l := fun j u hj => by
  rw [Nat.zero_add, h.cell]
  exact hj
theorem RD.wide {w : World} {B m n : Nat} {T T' : Nat → Prop} {fv rv : Value} {l : List Rx} {rl : List Int} (h : RD w B m T fv rv l rl n) (hT : ∀ i, T i → T' i) (ho : ∀ i, T' i → B ≤ i ∧ i < w.heap.size) : RD w B m T' fv rv l rl n :=
  ⟨h.box, h.row, fun x hx => (h.each x hx).only (Only.of_below (Below.refl _ _) (fun _ => False)) (fun _ _ e => e.elim) hT, h.ref, hT m h.tm, fun g hg => hT g (h.tf g hg), fun g hg => hT g (h.tv g hg), ho⟩

theorem moved_ge {w : World} {v v' : Value} {b : Nat} (M : Moved w v v') (h : ∀ i, v.ownBlock = some i → b ≤ i) (hw : b ≤ w.heap.size) : ∀ i, v'.ownBlock = some i → b ≤ i := fun i hi => by
  rcases M with M | ⟨g, M, hg⟩
  · exact h i (M ▸ hi)
  · rw [M] at hi
    injection hi with hi
    omega
/-- A file more behind a row of files that the call owns. -/
def RowX (w : World) (B : Nat) (v : Value) (l : List Rx) : Prop := w.ownsRow B 116 4 v l.length (l.flatMap Rx.cells)

set_option maxRecDepth 100000 in
set_option maxHeartbeats 4000000 in
theorem rlaid_calls (w : World) (B m n : Nat) (T : Nat → Prop) (fv rv : Value) (l : List Rx) (rl : List Int) (h : RD w B m T fv rv l rl n) (hl : l.length ≤ 1000) (x : Rx) (hx0 : RxAt w B T x) :
    Calls Try.prog 80 #[.pointer (some ⟨m, 0, none⟩), .agg x.cells.toArray] w fun e w' => e = .returned (.tuple #[]) ∧ ∃ fv' hi, RD w' B m (TX T w.heap.size hi) fv' rv (insX x l) rl n ∧ hi = w'.heap.size ∧ Only w w' fun i => i = m := by
  obtain ⟨fa, fc, hfv⟩ := slice_of_row h.row
  obtain ⟨N, hN⟩ : ∃ k, l.length = k := ⟨_, rfl⟩
  rw [hN] at hfv hl
  subst hfv
  have HN := Lib.hid hN
  have H := Lib.hid h
  have b1 : Below w.heap.size w (w.alloc (.cells x.cells.toArray 116)) := (Below.refl _ _).alloc (Nat.le_refl _) _
  have hX := Whole.new w 116 x.cells.toArray
  have HXA := Lib.hid hx0
  have hone := hx0.one
  clear h hN hx0
  go_enter Try.func80, Try.ntmps80
  go_upto_region 1 with (first
    | (refine wpList_box_any (by rfl) 116 _ (by rfl) x.cells.toArray (by rfl) ?_)
    | fail)
  generalize w.alloc (.cells x.cells.toArray 116) = w1 at b1 hX ⊢
  obtain ⟨bx, hbx⟩ : ∃ b, w.heap.size = b := ⟨_, rfl⟩
  have HBX := Lib.hid hbx
  rw [hbx] at hX ⊢
  have HX := Lib.hid (show Whole w1 bx 116 x.cells from hX)
  have HB1 := Lib.hid b1
  clear hX b1 hbx
  go_wp2
  go_loopw [4, 5, 6] (fun v q i wr => ∃ (k : Nat) (ua : Option Addr) (un uc : Nat), k ≤ N ∧ i = .int .i64 k ∧ v = .slice ua un uc ∧ q = .bool (hitX x (l.take k)) ∧ RowX wr bx (.slice ua un uc) (outX x (l.take k)) ∧ Below w1.heap.size w1 wr ∧ (∀ i, (Value.slice ua un uc).ownBlock = some i → w1.heap.size ≤ i)) (fun _ _ i _ => N - (intOf i).toNat)
  case atStart => exact ⟨0, none, 0, 0, by omega, rfl, rfl, by rw [List.take_zero]; rfl, by rw [List.take_zero]; exact World.ownsRow_nil w1 _ _ _, Below.refl _ _, (fun i hi => by cases hi)⟩
  case round =>
    obtain ⟨k, ua, un, uc, hk, rfl, rfl, rfl, hO, hB, hge⟩ := hrel
    have hBW := HB1.out.trans (hB.mono HB1.out.size)
    have hR := H.out.low hBW
    have hXw := HX.out.below hB HX.out.lt
    have c0 := hR.box.cell 0
    have n0 : wr.cell? ⟨bx, 0, none⟩ = some (.string x.name) := hXw.cell 0
    have hbw : bx ≤ w1.heap.size := Nat.le_of_lt HX.out.lt
    by_cases hlt : k < N
    · obtain ⟨y, hy⟩ : ∃ y, l[k]? = some y := ⟨_, List.getElem?_eq_getElem (by rw [HN.out]; exact hlt)⟩
      obtain ⟨g, rfl, hr⟩ := own_atX hR.row hy
      have HR0 := Lib.hid (row_lt hR.row rfl)
      have c1 := hr 0 _ rfl
      simp only [Nat.add_zero] at c1
      have hya := hR.each y (List.mem_of_getElem? hy)
      have i1 : (k : Int) < (N : Int) := by omega
      have i2 : 0 ≤ (k : Int) ∧ (k : Int) < (N : Int) := by omega
      have s2 : IntKind.i64.wrap ((k : Int) + 1) = (k : Int) + 1 := IntWalk.i64_in _ (by omega)
      have hT1 : l.take (k + 1) = l.take k ++ [y] := by rw [List.take_add_one, hy]; rfl
      have hh : hitX x (l.take (k + 1)) = (hitX x (l.take k) || ltN x.name y.name) := by
        rw [hT1]
        unfold hitX
        rw [List.any_append]
        simp
      have hst := outX_step x y (l.take k)
      rw [← hT1] at hst
      have hol : (outX x (l.take k)).length ≤ 1001 := Nat.le_trans (outX_len x _) (by rw [List.length_take]; omega)
      obtain ⟨ht, hht⟩ : ∃ q, hitX x (l.take k) = q := ⟨_, rfl⟩
      obtain ⟨lt, hlt2⟩ : ∃ q, ltN x.name y.name = q := ⟨_, rfl⟩
      rw [hht, hlt2] at hh hst
      rw [hht]
      have hlx : Op.bytesLess x.name.toList y.name.toList = lt := hlt2
      have HST := Lib.hid (And.intro hst hh)
      have HL := Lib.hid hol
      have HYA := Lib.hid hya
      have HY := Lib.hid hy
      have HO := Lib.hid hO
      have HBB := Lib.hid (And.intro hB hbw)
      have HO1 := Lib.hid (show ∀ i, (Value.slice ua un uc).ownBlock = some i → w1.heap.size ≤ i from fun i hi => hge i hi)
      clear hy hR hst hh hT1 hol hht hlt2 hya hXw
      generalize x.name = nx at n0 hlx
      generalize y.name = ny at c1 hlx
-- MID
      cases ht
      · cases lt
        · simp only [Bool.false_eq_true, if_false, Bool.false_or] at HST
          go_wp2
          refine wp_region_noPanic ?_
          refine wp_region_held_drew (S := fun w2 => w2.cell? ⟨m, 0, none⟩ = some (.slice (some ⟨g, 0, none⟩) N fc) ∧ w2.cell? ⟨bx, 0, none⟩ = some (.string nx) ∧ w2.cell? ⟨g, k * 4, none⟩ = some (.string ny)) (by kernel_rfl) (⟨c0, n0, c1⟩) (fun hhS => ?_)
          have bd : Below wr.heap.size wr wr.drew := (Below.refl _ _).drew
          have hO2 := row_low HO.out bd
          have hr2 := rangeAt_low hr HR0.out bd
          have B2 := HBB.out.1.trans (bd.mono HBB.out.1.size)
          have hX2 := HX.out.below B2 HX.out.lt
          have hR2 := (H.out.low (HB1.out.trans (B2.mono HB1.out.size))).box.cell 0
          have hy2 := HYA.out.low bd
          clear hr bd c0 c1 n0
          generalize wr.drew = w2 at hO2 hr2 B2 hX2 hR2 hy2 hhS ⊢
          refine wpAnyH_take (i := 0) (oi := ⟨some 16, _, _, _, _, _⟩) (v := ?_) rfl (by kernel_rfl) (by kernel_rfl) (by kernel_rfl) (fun _ _ _ h => h) (Or.inl ⟨by rfl, ?_⟩) (by assumption) ?_
          rotate_left
          · intro w hSw
            (try dsimp only at hSw)
            go_simp
            all_goals (with_reducible rfl)
          try simp only [Act.put, List.setIfInBounds_toArray, List.set_cons_zero, List.set_cons_succ]
          refine wpAnyH_take (i := 1) (oi := ⟨some 17, _, _, _, _, _⟩) (v := ?_) rfl (by kernel_rfl) (by kernel_rfl) (by kernel_rfl) (fun _ _ _ h => h) (Or.inl ⟨by rfl, ?_⟩) (by assumption) ?_
          rotate_left
          · intro w hSw
            (try dsimp only at hSw)
            go_simp
            all_goals (with_reducible rfl)
          try simp only [Act.put, List.setIfInBounds_toArray, List.set_cons_zero, List.set_cons_succ]
          refine wpAnyH_take (i := 2) (oi := ⟨some 18, _, _, _, _, _⟩) (v := ?_) rfl (by kernel_rfl) (by kernel_rfl) (by kernel_rfl) (fun _ _ _ h => h) (Or.inl ⟨by rfl, ?_⟩) (by assumption) ?_
          rotate_left
          · intro w hSw
            (try dsimp only at hSw)
            go_simp
            all_goals (with_reducible rfl)
          try simp only [Act.put, List.setIfInBounds_toArray, List.set_cons_zero, List.set_cons_succ]
          refine wpAnyH_take (i := 3) (oi := ⟨some 19, _, _, _, _, _⟩) (v := ?_) rfl (by kernel_rfl) (by kernel_rfl) (by kernel_rfl) (fun _ _ _ h => h) (Or.inl ⟨by rfl, ?_⟩) (by assumption) ?_
          rotate_left
          · intro w hSw
            (try dsimp only at hSw)
            go_simp
            all_goals (with_reducible rfl)
          try simp only [Act.put, List.setIfInBounds_toArray, List.set_cons_zero, List.set_cons_succ]
          refine wpAnyH_take (i := 4) (oi := ⟨some 20, _, _, _, _, _⟩) (v := ?_) rfl (by kernel_rfl) (by kernel_rfl) (by kernel_rfl) (fun _ _ _ h => h) (Or.inl ⟨by rfl, ?_⟩) (by assumption) ?_
          rotate_left
          · intro w hSw
            (try dsimp only at hSw)
            obtain ⟨z1, z2, z3⟩ := hSw
            go_simp
            all_goals (with_reducible rfl)
          try simp only [Act.put, List.setIfInBounds_toArray, List.set_cons_zero, List.set_cons_succ]
          refine wpAnyH_take (i := 5) (oi := ⟨some 21, _, _, _, _, _⟩) (v := ?_) rfl (by kernel_rfl) (by kernel_rfl) (by kernel_rfl) (fun _ _ _ h => h) (Or.inl ⟨by rfl, ?_⟩) (by assumption) ?_
          rotate_left
          · intro w hSw
            (try dsimp only at hSw)
            go_simp
            all_goals (with_reducible rfl)
          try simp only [Act.put, List.setIfInBounds_toArray, List.set_cons_zero, List.set_cons_succ]
          refine wpAnyH_take (i := 6) (oi := ⟨some 22, _, _, _, _, _⟩) (v := ?_) rfl (by kernel_rfl) (by kernel_rfl) (by kernel_rfl) (fun _ _ _ h => h) (Or.inl ⟨by rfl, ?_⟩) (by assumption) ?_
          rotate_left
          · intro w hSw
            (try dsimp only at hSw)
            go_simp
            all_goals (with_reducible rfl)
          try simp only [Act.put, List.setIfInBounds_toArray, List.set_cons_zero, List.set_cons_succ]
          refine wpAnyH_take (i := 7) (oi := ⟨some 23, _, _, _, _, _⟩) (v := ?_) rfl (by kernel_rfl) (by kernel_rfl) (by kernel_rfl) (fun _ _ _ h => h) (Or.inl ⟨by rfl, ?_⟩) (by assumption) ?_
          rotate_left
          · intro w hSw
            (try dsimp only at hSw)
            go_simp
            all_goals (with_reducible rfl)
          try simp only [Act.put, List.setIfInBounds_toArray, List.set_cons_zero, List.set_cons_succ]
          refine wpAnyH_take (i := 8) (oi := ⟨some 24, _, _, _, _, _⟩) (v := ?_) rfl (by kernel_rfl) (by kernel_rfl) (by kernel_rfl) (fun _ _ _ h => h) (Or.inl ⟨by rfl, ?_⟩) (by assumption) ?_
          rotate_left
          · intro w hSw
            (try dsimp only at hSw)
            obtain ⟨z1, z2, z3⟩ := hSw
            go_simp
            all_goals (with_reducible rfl)
          try simp only [Act.put, List.setIfInBounds_toArray, List.set_cons_zero, List.set_cons_succ]
          refine wpAnyH_take (i := 9) (oi := ⟨some 25, _, _, _, _, _⟩) (v := ?_) rfl (by kernel_rfl) (by kernel_rfl) (by kernel_rfl) (fun _ _ _ h => h) (Or.inl ⟨by rfl, ?_⟩) (by assumption) ?_
          rotate_left
          · intro w hSw
            (try dsimp only at hSw)
            go_simp
            all_goals (with_reducible rfl)
          try simp only [Act.put, List.setIfInBounds_toArray, List.set_cons_zero, List.set_cons_succ]
          refine wpAnyH_take (i := 10) (oi := ⟨some 26, _, _, _, _, _⟩) (v := ?_) rfl (by kernel_rfl) (by kernel_rfl) (by kernel_rfl) (fun _ _ _ h => h) (Or.inl ⟨by rfl, ?_⟩) (by assumption) ?_
          rotate_left
          · intro w hSw
            (try dsimp only at hSw)
            go_simp
            all_goals (with_reducible rfl)
          try simp only [Act.put, List.setIfInBounds_toArray, List.set_cons_zero, List.set_cons_succ]
          refine wpAnyH_take (i := 11) (oi := ⟨some 27, _, _, _, _, _⟩) (v := ?_) rfl (by kernel_rfl) (by kernel_rfl) (by kernel_rfl) (fun _ _ _ h => h) (Or.inl ⟨by rfl, ?_⟩) (by assumption) ?_
          rotate_left
          · intro w hSw
            (try dsimp only at hSw)
            go_simp
            all_goals (with_reducible rfl)
          try simp only [Act.put, List.setIfInBounds_toArray, List.set_cons_zero, List.set_cons_succ]
          refine wpAnyH_take (i := 12) (oi := ⟨some 28, _, _, _, _, _⟩) (v := ?_) rfl (by kernel_rfl) (by kernel_rfl) (by kernel_rfl) (fun _ _ _ h => h) (Or.inl ⟨by rfl, ?_⟩) (by assumption) ?_
          rotate_left
          · intro w hSw
            (try dsimp only at hSw)
            obtain ⟨z1, z2, z3⟩ := hSw
            go_simp
            all_goals (with_reducible rfl)
          try simp only [Act.put, List.setIfInBounds_toArray, List.set_cons_zero, List.set_cons_succ]
          refine wpAnyH_take (i := 13) (oi := ⟨some 29, _, _, _, _, _⟩) (v := ?_) rfl (by kernel_rfl) (by kernel_rfl) (by kernel_rfl) (fun _ _ _ h => h) (Or.inl ⟨by rfl, ?_⟩) (by assumption) ?_
          rotate_left
          · intro w hSw
            (try dsimp only at hSw)
            go_simp
            all_goals (with_reducible rfl)
          try simp only [Act.put, List.setIfInBounds_toArray, List.set_cons_zero, List.set_cons_succ]
          refine wpAnyH_take (i := 14) (oi := ⟨some 30, _, _, _, _, _⟩) (v := ?_) rfl (by kernel_rfl) (by kernel_rfl) (by kernel_rfl) (fun _ _ _ h => h) (Or.inl ⟨by rfl, ?_⟩) (by assumption) ?_
          rotate_left
          · intro w hSw
            (try dsimp only at hSw)
            go_simp
            all_goals (with_reducible rfl)
          try simp only [Act.put, List.setIfInBounds_toArray, List.set_cons_zero, List.set_cons_succ]
          refine wpAnyH_done (by kernel_rfl) ?_ _
          refine NoPanic.normal ?_
          clear hhS
          have hb9 : Below w2.heap.size w2 (w2.alloc (.cells y.cells.toArray 116)) := (Below.refl _ _).alloc (Nat.le_refl _) _
          have s9 := src_new (f := Rx.cells) (n := 4) w2 116 y
          have hO9 := row_low hO2 hb9
          have hw2 : bx ≤ w2.heap.size := Nat.le_trans HBB.out.2 B2.size
          have BB9 := B2.trans (hb9.mono B2.size)
          have HGE := Lib.hid (show ∀ i, (Value.slice ua un uc).ownBlock = some i → w1.heap.size ≤ i from fun i hi => HO1.out i hi)
          go_wp2_with (first
            | (refine wpList_append_gen (f := Rx.cells) (n := 4) (w := w2.alloc (.cells y.cells.toArray 116)) (by rfl) _ _ 97 116 (by rfl) _ 72 Try.underlying97 info_file rfl (by decide) (by decide) lenX bx _ _ (outX x (l.take k)) [y] (by rfl) hO9 (by rfl) s9 (fun q hq => by (obtain rfl : q = _ := by simpa using hq); exact hy2.one) (by have := HL.out; simp only [List.length_cons, List.length_nil]; omega) (Nat.le_trans hw2 hb9.size) ?_; intro v9 w9 O9 G9 Mw9; obtain ⟨aw9, nw9, cw9, hew9⟩ := slice_any O9; subst hew9)
            | (refine wpList_slice_one (by rfl) 97 116 _ (by rfl) y.cells.toArray (by rfl) Try.underlying97 zero_file (by decide) (by decide) (by rfl) ?_)
            | (refine wpList_load_X (by rfl) _ (by rfl) g (k * 4) (by rfl) y hr2 ?_)
            | fail)
          have hge9 := moved_ge Mw9 HGE.out BB9.size
          go_roundw
          case rel => exact ⟨k + 1, _, _, _, by omega, by go_num, rfl, by first | rfl | (rw [HST.out.2] <;> rfl), by rw [HST.out.1]; exact O9, BB9.grown G9 BB9.size (fun i hi => HGE.out i hi), hge9⟩
          case measure => simp [intOf]; omega
        · simp only [Bool.false_eq_true, if_false, if_true, Bool.false_or] at HST
          go_wp2
          refine wp_region_noPanic ?_
          refine wp_region_held_drew (S := fun w2 => w2.cell? ⟨m, 0, none⟩ = some (.slice (some ⟨g, 0, none⟩) N fc) ∧ w2.cell? ⟨bx, 0, none⟩ = some (.string nx) ∧ w2.cell? ⟨g, k * 4, none⟩ = some (.string ny)) (by kernel_rfl) (⟨c0, n0, c1⟩) (fun hhS => ?_)
          have bd : Below wr.heap.size wr wr.drew := (Below.refl _ _).drew
          have hO2 := row_low HO.out bd
          have hr2 := rangeAt_low hr HR0.out bd
          have B2 := HBB.out.1.trans (bd.mono HBB.out.1.size)
          have hX2 := HX.out.below B2 HX.out.lt
          have hR2 := (H.out.low (HB1.out.trans (B2.mono HB1.out.size))).box.cell 0
          have hy2 := HYA.out.low bd
          clear hr bd c0 c1 n0
          generalize wr.drew = w2 at hO2 hr2 B2 hX2 hR2 hy2 hhS ⊢
          refine wpAnyH_take (i := 0) (oi := ⟨some 16, _, _, _, _, _⟩) (v := ?_) rfl (by kernel_rfl) (by kernel_rfl) (by kernel_rfl) (fun _ _ _ h => h) (Or.inl ⟨by rfl, ?_⟩) (by assumption) ?_
          rotate_left
          · intro w hSw
            (try dsimp only at hSw)
            go_simp
            all_goals (with_reducible rfl)
          try simp only [Act.put, List.setIfInBounds_toArray, List.set_cons_zero, List.set_cons_succ]
          refine wpAnyH_take (i := 1) (oi := ⟨some 17, _, _, _, _, _⟩) (v := ?_) rfl (by kernel_rfl) (by kernel_rfl) (by kernel_rfl) (fun _ _ _ h => h) (Or.inl ⟨by rfl, ?_⟩) (by assumption) ?_
          rotate_left
          · intro w hSw
            (try dsimp only at hSw)
            go_simp
            all_goals (with_reducible rfl)
          try simp only [Act.put, List.setIfInBounds_toArray, List.set_cons_zero, List.set_cons_succ]
          refine wpAnyH_take (i := 2) (oi := ⟨some 18, _, _, _, _, _⟩) (v := ?_) rfl (by kernel_rfl) (by kernel_rfl) (by kernel_rfl) (fun _ _ _ h => h) (Or.inl ⟨by rfl, ?_⟩) (by assumption) ?_
          rotate_left
          · intro w hSw
            (try dsimp only at hSw)
            go_simp
            all_goals (with_reducible rfl)
          try simp only [Act.put, List.setIfInBounds_toArray, List.set_cons_zero, List.set_cons_succ]
          refine wpAnyH_take (i := 3) (oi := ⟨some 19, _, _, _, _, _⟩) (v := ?_) rfl (by kernel_rfl) (by kernel_rfl) (by kernel_rfl) (fun _ _ _ h => h) (Or.inl ⟨by rfl, ?_⟩) (by assumption) ?_
          rotate_left
          · intro w hSw
            (try dsimp only at hSw)
            go_simp
            all_goals (with_reducible rfl)
          try simp only [Act.put, List.setIfInBounds_toArray, List.set_cons_zero, List.set_cons_succ]
          refine wpAnyH_take (i := 4) (oi := ⟨some 20, _, _, _, _, _⟩) (v := ?_) rfl (by kernel_rfl) (by kernel_rfl) (by kernel_rfl) (fun _ _ _ h => h) (Or.inl ⟨by rfl, ?_⟩) (by assumption) ?_
          rotate_left
          · intro w hSw
            (try dsimp only at hSw)
            obtain ⟨z1, z2, z3⟩ := hSw
            go_simp
            all_goals (with_reducible rfl)
          try simp only [Act.put, List.setIfInBounds_toArray, List.set_cons_zero, List.set_cons_succ]
          refine wpAnyH_take (i := 5) (oi := ⟨some 21, _, _, _, _, _⟩) (v := ?_) rfl (by kernel_rfl) (by kernel_rfl) (by kernel_rfl) (fun _ _ _ h => h) (Or.inl ⟨by rfl, ?_⟩) (by assumption) ?_
          rotate_left
          · intro w hSw
            (try dsimp only at hSw)
            go_simp
            all_goals (with_reducible rfl)
          try simp only [Act.put, List.setIfInBounds_toArray, List.set_cons_zero, List.set_cons_succ]
          refine wpAnyH_take (i := 6) (oi := ⟨some 22, _, _, _, _, _⟩) (v := ?_) rfl (by kernel_rfl) (by kernel_rfl) (by kernel_rfl) (fun _ _ _ h => h) (Or.inl ⟨by rfl, ?_⟩) (by assumption) ?_
          rotate_left
          · intro w hSw
            (try dsimp only at hSw)
            go_simp
            all_goals (with_reducible rfl)
          try simp only [Act.put, List.setIfInBounds_toArray, List.set_cons_zero, List.set_cons_succ]
          refine wpAnyH_take (i := 7) (oi := ⟨some 23, _, _, _, _, _⟩) (v := ?_) rfl (by kernel_rfl) (by kernel_rfl) (by kernel_rfl) (fun _ _ _ h => h) (Or.inl ⟨by rfl, ?_⟩) (by assumption) ?_
          rotate_left
          · intro w hSw
            (try dsimp only at hSw)
            go_simp
            all_goals (with_reducible rfl)
          try simp only [Act.put, List.setIfInBounds_toArray, List.set_cons_zero, List.set_cons_succ]
          refine wpAnyH_take (i := 8) (oi := ⟨some 24, _, _, _, _, _⟩) (v := ?_) rfl (by kernel_rfl) (by kernel_rfl) (by kernel_rfl) (fun _ _ _ h => h) (Or.inl ⟨by rfl, ?_⟩) (by assumption) ?_
          rotate_left
          · intro w hSw
            (try dsimp only at hSw)
            obtain ⟨z1, z2, z3⟩ := hSw
            go_simp
            all_goals (with_reducible rfl)
          try simp only [Act.put, List.setIfInBounds_toArray, List.set_cons_zero, List.set_cons_succ]
          refine wpAnyH_take (i := 9) (oi := ⟨some 25, _, _, _, _, _⟩) (v := ?_) rfl (by kernel_rfl) (by kernel_rfl) (by kernel_rfl) (fun _ _ _ h => h) (Or.inl ⟨by rfl, ?_⟩) (by assumption) ?_
          rotate_left
          · intro w hSw
            (try dsimp only at hSw)
            go_simp
            all_goals (with_reducible rfl)
          try simp only [Act.put, List.setIfInBounds_toArray, List.set_cons_zero, List.set_cons_succ]
          refine wpAnyH_take (i := 10) (oi := ⟨some 26, _, _, _, _, _⟩) (v := ?_) rfl (by kernel_rfl) (by kernel_rfl) (by kernel_rfl) (fun _ _ _ h => h) (Or.inl ⟨by rfl, ?_⟩) (by assumption) ?_
          rotate_left
          · intro w hSw
            (try dsimp only at hSw)
            go_simp
            all_goals (with_reducible rfl)
          try simp only [Act.put, List.setIfInBounds_toArray, List.set_cons_zero, List.set_cons_succ]
          refine wpAnyH_take (i := 11) (oi := ⟨some 27, _, _, _, _, _⟩) (v := ?_) rfl (by kernel_rfl) (by kernel_rfl) (by kernel_rfl) (fun _ _ _ h => h) (Or.inl ⟨by rfl, ?_⟩) (by assumption) ?_
          rotate_left
          · intro w hSw
            (try dsimp only at hSw)
            go_simp
            all_goals (with_reducible rfl)
          try simp only [Act.put, List.setIfInBounds_toArray, List.set_cons_zero, List.set_cons_succ]
          refine wpAnyH_take (i := 12) (oi := ⟨some 28, _, _, _, _, _⟩) (v := ?_) rfl (by kernel_rfl) (by kernel_rfl) (by kernel_rfl) (fun _ _ _ h => h) (Or.inl ⟨by rfl, ?_⟩) (by assumption) ?_
          rotate_left
          · intro w hSw
            (try dsimp only at hSw)
            obtain ⟨z1, z2, z3⟩ := hSw
            go_simp
            all_goals (with_reducible rfl)
          try simp only [Act.put, List.setIfInBounds_toArray, List.set_cons_zero, List.set_cons_succ]
          refine wpAnyH_take (i := 13) (oi := ⟨some 29, _, _, _, _, _⟩) (v := ?_) rfl (by kernel_rfl) (by kernel_rfl) (by kernel_rfl) (fun _ _ _ h => h) (Or.inl ⟨by rfl, ?_⟩) (by assumption) ?_
          rotate_left
          · intro w hSw
            (try dsimp only at hSw)
            go_simp
            all_goals (with_reducible rfl)
          try simp only [Act.put, List.setIfInBounds_toArray, List.set_cons_zero, List.set_cons_succ]
          refine wpAnyH_take (i := 14) (oi := ⟨some 30, _, _, _, _, _⟩) (v := ?_) rfl (by kernel_rfl) (by kernel_rfl) (by kernel_rfl) (fun _ _ _ h => h) (Or.inl ⟨by rfl, ?_⟩) (by assumption) ?_
          rotate_left
          · intro w hSw
            (try dsimp only at hSw)
            go_simp
            all_goals (with_reducible rfl)
          try simp only [Act.put, List.setIfInBounds_toArray, List.set_cons_zero, List.set_cons_succ]
          refine wpAnyH_done (by kernel_rfl) ?_ _
          refine NoPanic.normal ?_
          clear hhS
          have b3 : Below w2.heap.size w2 (w2.alloc (.cells x.cells.toArray 116)) := (Below.refl _ _).alloc (Nat.le_refl _) _
          have s3 := src_new (f := Rx.cells) (n := 4) w2 116 x
          have hO3 := row_low hO2 b3
          have hw2 : bx ≤ w2.heap.size := Nat.le_trans HBB.out.2 B2.size
          have BB3 := B2.trans (b3.mono B2.size)
          have hxr := hX2.range
          go_upto_region 9 with (first
            | (refine wpList_append_gen (f := Rx.cells) (n := 4) (w := w2.alloc (.cells x.cells.toArray 116)) (by rfl) _ _ 97 116 (by rfl) _ 72 Try.underlying97 info_file rfl (by decide) (by decide) lenX bx _ _ (outX x (l.take k)) [x] (by rfl) hO3 (by rfl) s3 (fun q hq => by (obtain rfl : q = _ := by simpa using hq); exact hone) (by have := HL.out; simp only [List.length_cons, List.length_nil]; omega) (Nat.le_trans hw2 b3.size) ?_; intro v5 w5 O5 G5 Mw5; obtain ⟨aw5, nw5, cw5, hew5⟩ := slice_any O5; subst hew5)
            | (refine wpList_slice_one (by rfl) 97 116 _ (by rfl) x.cells.toArray (by rfl) Try.underlying97 zero_file (by decide) (by decide) (by rfl) ?_)
            | (refine wpList_load_X (by rfl) _ (by rfl) bx (0) (by rfl) x hxr ?_)
            | fail)
          have BB5 := BB3.grown G5 BB3.size (fun i hi => HO1.out i hi)
          have hge5 := moved_ge Mw5 HO1.out BB3.size
          clear hr2 hy2 hR2 hX2 hO2 hO3 s3 hxr G5 Mw5 BB3 b3
          have hR5 := H.out.low (HB1.out.trans (BB5.mono HB1.out.size))
          have c5 := hR5.box.cell 0
          obtain ⟨g5, hg5, hr5⟩ := own_atX hR5.row HY.out
          obtain rfl : g = g5 := by injection hg5 with e; injection e
          have hy5 := hR5.each y (List.mem_of_getElem? HY.out)
          clear hg5 hR5
          have hb9 : Below w5.heap.size w5 (w5.alloc (.cells y.cells.toArray 116)) := (Below.refl _ _).alloc (Nat.le_refl _) _
          have s9 := src_new (f := Rx.cells) (n := 4) w5 116 y
          have hO9 := row_low O5 hb9
          have hw5 : bx ≤ w5.heap.size := Nat.le_trans HBB.out.2 BB5.size
          have BB9 := BB5.trans (hb9.mono BB5.size)
          have HGE := Lib.hid hge5
          go_wp2_with (first
            | (refine wpList_append_gen (f := Rx.cells) (n := 4) (w := w5.alloc (.cells y.cells.toArray 116)) (by rfl) _ _ 97 116 (by rfl) _ 72 Try.underlying97 info_file rfl (by decide) (by decide) lenX bx _ _ (outX x (l.take k) ++ [x]) [y] (by rfl) hO9 (by rfl) s9 (fun q hq => by (obtain rfl : q = _ := by simpa using hq); exact hy5.one) (by have := HL.out; rw [List.length_append]; simp only [List.length_cons, List.length_nil]; omega) (Nat.le_trans hw5 hb9.size) ?_; intro v9 w9 O9 G9 Mw9; obtain ⟨aw9, nw9, cw9, hew9⟩ := slice_any O9; subst hew9)
            | (refine wpList_slice_one (by rfl) 97 116 _ (by rfl) y.cells.toArray (by rfl) Try.underlying97 zero_file (by decide) (by decide) (by rfl) ?_)
            | (refine wpList_load_X (by rfl) _ (by rfl) g (k * 4) (by rfl) y hr5 ?_)
            | fail)
          have hge9 := moved_ge Mw9 HGE.out BB9.size
          go_roundw
          case rel => exact ⟨k + 1, _, _, _, by omega, by go_num, rfl, by first | rfl | (rw [HST.out.2] <;> rfl), by rw [HST.out.1]; exact O9, BB9.grown G9 BB9.size (fun i hi => HGE.out i hi), hge9⟩
          case measure => simp [intOf]; omega
      · simp only [if_true, Bool.true_or] at HST
        go_wp2
        refine wp_region_noPanic ?_
        refine wp_region_held_drew (S := fun w2 => w2.cell? ⟨m, 0, none⟩ = some (.slice (some ⟨g, 0, none⟩) N fc) ∧ w2.cell? ⟨bx, 0, none⟩ = some (.string nx) ∧ w2.cell? ⟨g, k * 4, none⟩ = some (.string ny)) (by kernel_rfl) (⟨c0, n0, c1⟩) (fun hhS => ?_)
        have bd : Below wr.heap.size wr wr.drew := (Below.refl _ _).drew
        have hO2 := row_low HO.out bd
        have hr2 := rangeAt_low hr HR0.out bd
        have B2 := HBB.out.1.trans (bd.mono HBB.out.1.size)
        have hX2 := HX.out.below B2 HX.out.lt
        have hR2 := (H.out.low (HB1.out.trans (B2.mono HB1.out.size))).box.cell 0
        have hy2 := HYA.out.low bd
        clear hr bd c0 c1 n0
        generalize wr.drew = w2 at hO2 hr2 B2 hX2 hR2 hy2 hhS ⊢
        refine wpAnyH_take (i := 0) (oi := ⟨some 16, _, _, _, _, _⟩) (v := ?_) rfl (by kernel_rfl) (by kernel_rfl) (by kernel_rfl) (fun _ _ _ h => h) (Or.inl ⟨by rfl, ?_⟩) (by assumption) ?_
        rotate_left
        · intro w hSw
          (try dsimp only at hSw)
          go_simp
          all_goals (with_reducible rfl)
        try simp only [Act.put, List.setIfInBounds_toArray, List.set_cons_zero, List.set_cons_succ]
        refine wpAnyH_take (i := 1) (oi := ⟨some 17, _, _, _, _, _⟩) (v := ?_) rfl (by kernel_rfl) (by kernel_rfl) (by kernel_rfl) (fun _ _ _ h => h) (Or.inl ⟨by rfl, ?_⟩) (by assumption) ?_
        rotate_left
        · intro w hSw
          (try dsimp only at hSw)
          go_simp
          all_goals (with_reducible rfl)
        try simp only [Act.put, List.setIfInBounds_toArray, List.set_cons_zero, List.set_cons_succ]
        refine wpAnyH_take (i := 2) (oi := ⟨some 18, _, _, _, _, _⟩) (v := ?_) rfl (by kernel_rfl) (by kernel_rfl) (by kernel_rfl) (fun _ _ _ h => h) (Or.inl ⟨by rfl, ?_⟩) (by assumption) ?_
        rotate_left
        · intro w hSw
          (try dsimp only at hSw)
          go_simp
          all_goals (with_reducible rfl)
        try simp only [Act.put, List.setIfInBounds_toArray, List.set_cons_zero, List.set_cons_succ]
        refine wpAnyH_take (i := 3) (oi := ⟨some 19, _, _, _, _, _⟩) (v := undef) rfl (by kernel_rfl) (by kernel_rfl) (by kernel_rfl) (fun _ _ _ h => h) (Or.inr ⟨by rfl, rfl⟩) (by assumption) ?_
        try simp only [Act.put, List.setIfInBounds_toArray, List.set_cons_zero, List.set_cons_succ]
        refine wpAnyH_take (i := 4) (oi := ⟨some 20, _, _, _, _, _⟩) (v := undef) rfl (by kernel_rfl) (by kernel_rfl) (by kernel_rfl) (fun _ _ _ h => h) (Or.inr ⟨by rfl, rfl⟩) (by assumption) ?_
        try simp only [Act.put, List.setIfInBounds_toArray, List.set_cons_zero, List.set_cons_succ]
        refine wpAnyH_take (i := 5) (oi := ⟨some 21, _, _, _, _, _⟩) (v := undef) rfl (by kernel_rfl) (by kernel_rfl) (by kernel_rfl) (fun _ _ _ h => h) (Or.inr ⟨by rfl, rfl⟩) (by assumption) ?_
        try simp only [Act.put, List.setIfInBounds_toArray, List.set_cons_zero, List.set_cons_succ]
        refine wpAnyH_take (i := 6) (oi := ⟨some 22, _, _, _, _, _⟩) (v := undef) rfl (by kernel_rfl) (by kernel_rfl) (by kernel_rfl) (fun _ _ _ h => h) (Or.inr ⟨by rfl, rfl⟩) (by assumption) ?_
        try simp only [Act.put, List.setIfInBounds_toArray, List.set_cons_zero, List.set_cons_succ]
        refine wpAnyH_take (i := 7) (oi := ⟨some 23, _, _, _, _, _⟩) (v := undef) rfl (by kernel_rfl) (by kernel_rfl) (by kernel_rfl) (fun _ _ _ h => h) (Or.inr ⟨by rfl, rfl⟩) (by assumption) ?_
        try simp only [Act.put, List.setIfInBounds_toArray, List.set_cons_zero, List.set_cons_succ]
        refine wpAnyH_take (i := 8) (oi := ⟨some 24, _, _, _, _, _⟩) (v := undef) rfl (by kernel_rfl) (by kernel_rfl) (by kernel_rfl) (fun _ _ _ h => h) (Or.inr ⟨by rfl, rfl⟩) (by assumption) ?_
        try simp only [Act.put, List.setIfInBounds_toArray, List.set_cons_zero, List.set_cons_succ]
        refine wpAnyH_take (i := 9) (oi := ⟨some 25, _, _, _, _, _⟩) (v := undef) rfl (by kernel_rfl) (by kernel_rfl) (by kernel_rfl) (fun _ _ _ h => h) (Or.inr ⟨by rfl, rfl⟩) (by assumption) ?_
        try simp only [Act.put, List.setIfInBounds_toArray, List.set_cons_zero, List.set_cons_succ]
        refine wpAnyH_take (i := 10) (oi := ⟨some 26, _, _, _, _, _⟩) (v := undef) rfl (by kernel_rfl) (by kernel_rfl) (by kernel_rfl) (fun _ _ _ h => h) (Or.inr ⟨by rfl, rfl⟩) (by assumption) ?_
        try simp only [Act.put, List.setIfInBounds_toArray, List.set_cons_zero, List.set_cons_succ]
        refine wpAnyH_take (i := 11) (oi := ⟨some 27, _, _, _, _, _⟩) (v := undef) rfl (by kernel_rfl) (by kernel_rfl) (by kernel_rfl) (fun _ _ _ h => h) (Or.inr ⟨by rfl, rfl⟩) (by assumption) ?_
        try simp only [Act.put, List.setIfInBounds_toArray, List.set_cons_zero, List.set_cons_succ]
        refine wpAnyH_take (i := 12) (oi := ⟨some 28, _, _, _, _, _⟩) (v := undef) rfl (by kernel_rfl) (by kernel_rfl) (by kernel_rfl) (fun _ _ _ h => h) (Or.inr ⟨by rfl, rfl⟩) (by assumption) ?_
        try simp only [Act.put, List.setIfInBounds_toArray, List.set_cons_zero, List.set_cons_succ]
        refine wpAnyH_take (i := 13) (oi := ⟨some 29, _, _, _, _, _⟩) (v := undef) rfl (by kernel_rfl) (by kernel_rfl) (by kernel_rfl) (fun _ _ _ h => h) (Or.inr ⟨by rfl, rfl⟩) (by assumption) ?_
        try simp only [Act.put, List.setIfInBounds_toArray, List.set_cons_zero, List.set_cons_succ]
        refine wpAnyH_take (i := 14) (oi := ⟨some 30, _, _, _, _, _⟩) (v := ?_) rfl (by kernel_rfl) (by kernel_rfl) (by kernel_rfl) (fun _ _ _ h => h) (Or.inl ⟨by rfl, ?_⟩) (by assumption) ?_
        rotate_left
        · intro w hSw
          (try dsimp only at hSw)
          go_simp
          all_goals (with_reducible rfl)
        try simp only [Act.put, List.setIfInBounds_toArray, List.set_cons_zero, List.set_cons_succ]
        refine wpAnyH_done (by kernel_rfl) ?_ _
        refine NoPanic.normal ?_
        clear hhS
        have hb9 : Below w2.heap.size w2 (w2.alloc (.cells y.cells.toArray 116)) := (Below.refl _ _).alloc (Nat.le_refl _) _
        have s9 := src_new (f := Rx.cells) (n := 4) w2 116 y
        have hO9 := row_low hO2 hb9
        have hw2 : bx ≤ w2.heap.size := Nat.le_trans HBB.out.2 B2.size
        have BB9 := B2.trans (hb9.mono B2.size)
        have HGE := Lib.hid (show ∀ i, (Value.slice ua un uc).ownBlock = some i → w1.heap.size ≤ i from fun i hi => HO1.out i hi)
        go_wp2_with (first
          | (refine wpList_append_gen (f := Rx.cells) (n := 4) (w := w2.alloc (.cells y.cells.toArray 116)) (by rfl) _ _ 97 116 (by rfl) _ 72 Try.underlying97 info_file rfl (by decide) (by decide) lenX bx _ _ (outX x (l.take k)) [y] (by rfl) hO9 (by rfl) s9 (fun q hq => by (obtain rfl : q = _ := by simpa using hq); exact hy2.one) (by have := HL.out; simp only [List.length_cons, List.length_nil]; omega) (Nat.le_trans hw2 hb9.size) ?_; intro v9 w9 O9 G9 Mw9; obtain ⟨aw9, nw9, cw9, hew9⟩ := slice_any O9; subst hew9)
          | (refine wpList_slice_one (by rfl) 97 116 _ (by rfl) y.cells.toArray (by rfl) Try.underlying97 zero_file (by decide) (by decide) (by rfl) ?_)
          | (refine wpList_load_X (by rfl) _ (by rfl) g (k * 4) (by rfl) y hr2 ?_)
          | fail)
        have hge9 := moved_ge Mw9 HGE.out BB9.size
        go_roundw
        case rel => exact ⟨k + 1, _, _, _, by omega, by go_num, rfl, by first | rfl | (rw [HST.out.2] <;> rfl), by rw [HST.out.1]; exact O9, BB9.grown G9 BB9.size (fun i hi => HGE.out i hi), hge9⟩
        case measure => simp [intOf]; omega
-- DIM
    · obtain rfl : k = N := by omega
      have i1 : ¬ (k : Int) < (k : Int) := by omega
      have he : l.take k = l := List.take_of_length_le (Nat.le_of_eq HN.out)
      rw [he] at hO ⊢
      have hend := insX_end x l
      have hmem : ∀ (w2 : World) (T' : Nat → Prop), Below wr.heap.size wr w2 → (∀ i, T i → T' i) → ∀ y ∈ insX x l, RxAt w2 B T' y := fun w2 T' hb hT y hy => by
        rcases insX_mem x l y hy with rfl | hy
        · exact (HXA.out.low (hBW.trans (hb.mono hBW.size))).only (Only.of_below (Below.refl _ _) (fun _ => False)) (fun _ _ e => e.elim) hT
        · exact ((hR.each y hy).low hb).only (Only.of_below (Below.refl _ _) (fun _ => False)) (fun _ _ e => e.elim) hT
      have HM := Lib.hid hmem
      have hol : (outX x l).length ≤ 1001 := Nat.le_trans (outX_len x l) (by rw [HN.out]; omega)
      obtain ⟨ht, hht⟩ : ∃ q, hitX x l = q := ⟨_, rfl⟩
      rw [hht] at hend ⊢
      have HE := Lib.hid hend
      have HL := Lib.hid hol
      clear hht hend hmem hol n0
      cases ht
      · simp only [Bool.false_eq_true, if_false] at HE
        have b3 : Below wr.heap.size wr (wr.alloc (.cells x.cells.toArray 116)) := (Below.refl _ _).alloc (Nat.le_refl _) _
        have s3 := src_new (f := Rx.cells) (n := 4) wr 116 x
        have hO3 := row_low hO b3
        have hxr := hXw.range
        have hw2 : bx ≤ wr.heap.size := Nat.le_trans hbw hB.size
        have HFX := Lib.hid (show ∀ (v5 : Value) (w5 : World), w5.ownsRow bx 116 4 v5 (outX x l ++ [x]).length ((outX x l ++ [x]).flatMap Rx.cells) → (wr.alloc (.cells x.cells.toArray 116)).grownBy w5 (Value.slice ua un uc).ownBlock → w5.frozen? ⟨m, 0, none⟩ = false ∧ w5.cell? ⟨m, 0, none⟩ = some (.slice fa k fc) ∧ RD (w5.setCell ⟨m, 0, none⟩ v5) B m (TX T w.heap.size w5.heap.size) v5 rv (insX x l) rl n ∧ Only w (w5.setCell ⟨m, 0, none⟩ v5) fun i => i = m from fun v5 w5 O5 G5 => by
          rw [← HE.out] at O5
          have b5 : Below w1.heap.size wr w5 := (b3.mono hB.size).grown G5 (Nat.le_trans hB.size b3.size) (fun i hi => hge i hi)
          have B5 : Below w.heap.size w w5 := hBW.trans (b5.mono HB1.out.size)
          have hR5 := H.out.low B5
          obtain ⟨r1, r2⟩ := H.out.files B5 (by rw [HBX.out]; exact O5) (fun y hy => by
            rcases insX_mem x l y hy with rfl | hy
            · exact (HXA.out.low B5).only (Only.of_below (Below.refl _ _) (fun _ => False)) (fun _ _ e => e.elim) (fun g hg => .inl hg)
            · exact (hR5.each y hy).only (Only.of_below (Below.refl _ _) (fun _ => False)) (fun _ _ e => e.elim) (fun g hg => .inl hg))
          exact ⟨hR5.box.free 0, hR5.box.cell 0, r1, r2⟩)
        clear hR
        go_wp2_with (first
          | (refine wpList_append_gen (f := Rx.cells) (n := 4) (w := wr.alloc (.cells x.cells.toArray 116)) (by rfl) _ _ 97 116 (by rfl) _ 72 Try.underlying97 info_file rfl (by decide) (by decide) lenX bx _ _ (outX x l) [x] (by rfl) hO3 (by rfl) s3 (fun q hq => by (obtain rfl : q = _ := by simpa using hq); exact hone) (by have := HL.out; simp only [List.length_cons, List.length_nil]; omega) (Nat.le_trans hw2 b3.size) ?_; intro v5 w5 O5 G5 _; obtain ⟨a5, n5, c5, he5⟩ := slice_any O5; subst he5; have HF := Lib.hid (HFX.out _ _ O5 G5); have f0 := HF.out.1; clear c0; have c0 := HF.out.2.1)
          | (refine wpList_slice_one (by rfl) 97 116 _ (by rfl) x.cells.toArray (by rfl) Try.underlying97 zero_file (by decide) (by decide) (by rfl) ?_)
          | (refine wpList_load_X (by rfl) _ (by rfl) bx (0) (by rfl) x hxr ?_)
          | fail)
        go_end0
        exact ⟨rfl, _, _, HF.out.2.2.1, by simp, HF.out.2.2.2⟩
      · simp only [if_true] at HE
        rw [← HE.out] at hO
        have f0 := hR.box.free 0
        have hF := H.out.files hBW (by rw [HBX.out]; exact hO) (HM.out wr _ (Below.refl _ _) (fun i hi => .inl hi))
        have HF := Lib.hid hF
        clear hF hR hO
        go_wp2
        go_end0
        exact ⟨rfl, _, _, HF.out.1, by simp, HF.out.2⟩

end Go.Proofs.Ytmmlpbepaefamaa
