/- The reference's head behind so many notes. -/
import Derived.Test.YtglcingpolpkdaaDoorTAdd
namespace Go.Proofs.YtglcingpolpkdaaDoor
open Go.RowKit

theorem TrR.ne {W w : World} {rb g : Nat} {rv : Value} {ns : List Nt} {t : TypeId} {l : List Value} (h : TrR W w rb rv ns) (hw : Whole w g t l) (h1 : 30 ≠ t) (h2 : 36 ≠ t) : rb ≠ g ∧ ∀ x, rv.ownBlock = some x → x ≠ g :=
  ⟨whole_ne h.box hw h1, fun _ hx e => row_ne_whole h.row hw h2 (e ▸ hx)⟩
theorem TrR.under {W w : World} {rb DB : Nat} {rv : Value} {ns : List Nt} {vs : List Value} (h : TrR W w rb rv ns) (hD : Whole w DB 24 vs) (hb : W.heap.size ≤ DB) (cs : Array Value) : TrR W (w.setRow DB cs) rb rv ns := by
  have hn := h.ne hD (by decide) (by decide)
  exact h.only (Only.of_grown (grown_row (World.grownBy.refl w (some DB)) (.inl rfl) cs)) (fun e => hn.1 (by injection e with e; exact e.symm)) (fun g hg e => hn.2 g hg (by injection e with e; exact e.symm)) (fun i _ e => by injection e with e; omega)
theorem TrR.note_at {W w : World} {rb g c k : Nat} {ns : List Nt} {n : Nt} (h : TrR W w rb (.slice (some ⟨g, 0, none⟩) ns.length c) ns) (hx : ns[k]? = some n) : w.rangeAt g (k * 6) n.cells := by
  obtain ⟨g', hg, hr⟩ := h.note hx
  obtain rfl : g = g' := by injection hg with hg; injection hg
  exact hr
theorem head_more {ns : List Nt} {k : Nat} {n : Nt} (hx : ns[k]? = some n) (hok : nextOk n = true) : headG (ns.take (k + 1)) = nextE (headG (ns.take k)) n := by
  have hk : k < ns.length := (List.getElem?_eq_some_iff.1 hx).1
  rw [List.take_succ_eq_append_getElem hk, (List.getElem?_eq_some_iff.1 hx).2, headG_add]
  unfold nextE
  rw [if_pos hok]
/-- What HeadAt works on. -/
structure HeadIn (W w0 w : World) (rb : Nat) (rv : Value) (ns : List Nt) (R1 R2 : Nat) (vs : List Value) : Prop where
  tr : TrR W w rb rv ns
  res : Whole w R1 24 (zeroNums .u8 32)
  cur : Whole w R2 24 vs
  tab : KTab w
  below : Below w0.heap.size w0 w
  new : w0.heap.size ≤ R1 ∧ w0.heap.size ≤ R2
  ne : R1 ≠ R2
  old : W.heap.size ≤ w0.heap.size ∧ 0 < w0.heap.size
theorem HeadIn.on {W w0 w w' : World} {rb : Nat} {rv : Value} {ns : List Nt} {R1 R2 : Nat} {vs : List Value} (h : HeadIn W w0 w rb rv ns R1 R2 vs) (hb : Below w.heap.size w w') : HeadIn W w0 w' rb rv ns R1 R2 vs :=
  ⟨h.tr.on hb, h.res.below hb h.res.lt, h.cur.below hb h.cur.lt, h.tab.below hb h.tab.1, h.below.trans (hb.mono h.below.size), h.new, h.ne, h.old⟩
theorem HeadIn.filled {W w0 w : World} {rb : Nat} {rv : Value} {ns : List Nt} {R1 R2 : Nat} {vs : List Value} (h : HeadIn W w0 w rb rv ns R1 R2 vs) (us : List Value) : HeadIn W w0 (w.setRow R2 us.toArray) rb rv ns R1 R2 us := by
  have hG : w.grownBy (w.setRow R2 us.toArray) (some R2) := grown_row (World.grownBy.refl _ _) (.inl rfl) _
  have h1 := h.new
  have h2 := h.old
  refine ⟨h.tr.under h.cur (by omega) _, h.res.grown hG (fun e => h.ne (by injection e)), h.cur.row us, h.tab.grown hG (fun e => by injection e with e; omega), h.below.grown hG h.below.size (fun k hk => ?_), h.new, h.ne, h.old⟩
  injection hk with hk
  omega
theorem HeadIn.start {W w : World} {rb : Nat} {rv : Value} {ns : List Nt} (h : TrR W w rb rv ns) (hK : KTab w) : HeadIn W w ((w.alloc (.cells (zeroNums .u8 32).toArray 24)).alloc (.cells (zeroNums .u8 32).toArray 24)) rb rv ns w.heap.size (w.heap.size + 1) (zeroNums .u8 32) := by
  have b1 : Below w.heap.size w (w.alloc (.cells (zeroNums .u8 32).toArray 24)) := (Below.refl _ _).alloc (Nat.le_refl _) _
  have h1 := Whole.new w 24 (zeroNums .u8 32).toArray
  have s1 : (w.alloc (.cells (zeroNums .u8 32).toArray 24)).heap.size = w.heap.size + 1 := by simp
  generalize w.alloc (.cells (zeroNums .u8 32).toArray 24) = w1 at b1 h1 s1 ⊢
  have b2 : Below w1.heap.size w1 (w1.alloc (.cells (zeroNums .u8 32).toArray 24)) := (Below.refl _ _).alloc (Nat.le_refl _) _
  have h2 := Whole.new w1 24 (zeroNums .u8 32).toArray
  rw [s1] at h2
  have b12 := b1.trans (b2.mono b1.size)
  exact ⟨h.on b12, by simpa using h1.below b2 h1.lt, by simpa using h2, hK.below b12 hK.1, b12, by omega, by omega, h.below.size, hK.1⟩

set_option maxRecDepth 100000 in
set_option maxHeartbeats 2000000 in
theorem refhead_calls (W w : World) (rb : Nat) (rv : Value) (ns : List Nt) (N : Nat) (h : TrR W w rb rv ns) (hK : KTab w) (hok : ∀ m ∈ ns, nextOk m = true) (hlen : ns.length ≤ 1000) (hN : N ≤ ns.length) :
    Calls Tryd.prog 15 #[.pointer (some ⟨rb, 0, none⟩), .int .i64 N] w fun e w' => e = .returned (.agg (headG (ns.take N)).vs.toArray) ∧ Below w.heap.size w w' := by
  have hA := HeadIn.start h hK
  obtain ⟨p, c, rfl⟩ := h.shape
  have HOK := Lib.hid hok
  clear h hK hok
  go_enter Tryd.func15, Tryd.ntmps15
  go_upto_region 2 with (first | (refine wpList_alloc_row (by rfl) 24 (by rfl) _ _ info_d ?_) | fail)
  generalize ((w.alloc (.cells (zeroNums .u8 32).toArray 24)).alloc (.cells (zeroNums .u8 32).toArray 24)) = w2 at hA ⊢
  try simp only [World.size_alloc]
  revert hA
  obtain ⟨R1, hR1⟩ : ∃ x, w.heap.size = x := ⟨_, rfl⟩
  obtain ⟨R2, hR2⟩ : ∃ x, R1 + 1 = x := ⟨_, rfl⟩
  rw [hR1, hR2]
  intro hA
  clear hR1 hR2
  go_wp2
  go_loopw [6] (fun i wr => ∃ k : Nat, k ≤ N ∧ i = .int .i64 k ∧ HeadIn W w wr rb (.slice p ns.length c) ns R1 R2 (headG (ns.take k)).vs) (fun i _ => N - (intOf i).toNat)
  case atStart => exact ⟨0, by omega, rfl, by rw [List.take_zero]; rw [← zeroG_vs] at hA; exact hA⟩
  case round =>
    clear hA
    obtain ⟨k, hk, rfl, hA⟩ := hrel
    by_cases hlt : k < N
    · have hx := List.getElem?_eq_getElem (show k < ns.length by omega)
      generalize ns[k] = n at hx
      have HX := Lib.hid (head_more hx (HOK.out _ (List.mem_of_getElem? hx)))
      have HN := Lib.hid (fun w' hK' => refnext_dg w' (headG (ns.take k)) n hK')
      generalize nextE (headG (ns.take k)) n = E at HX HN
      generalize nextC n = C at HN
      obtain ⟨g, rfl, _⟩ := hA.tr.note hx
      have i1 : (k : Int) < (N : Int) := by omega
      have i2 : 0 ≤ (k : Int) ∧ (k : Int) < (ns.length : Int) := by omega
      have b2 : IntKind.i64.wrap ((k : Int) + 1) = (k : Int) + 1 := IntWalk.i64_in _ (by omega)
      go_upto_region 5 with fail
      refine wp_region_noPanic ?_
      refine wp_region_held_drew (S := fun w' => TrR W w' rb (.slice (some ⟨g, 0, none⟩) ns.length c) ns) (by kernel_rfl) (hA.tr.on ((Below.refl _ _).drew)) (fun hhS => ?_)
      replace hA := hA.on ((Below.refl wr.heap.size wr).drew)
      clear hhS
      generalize wr.drew = wd at hA ⊢
      have hhS := hA.tr
      refine wpAnyH_take (i := 1) (oi := ⟨some 14, _, _, _, _, _⟩) (v := ?_) rfl (by kernel_rfl) (by kernel_rfl) (by kernel_rfl) (fun _ _ _ h => h) (Or.inl ⟨by rfl, ?_⟩) (by assumption) ?_
      rotate_left
      · intro w hSw
        (try dsimp only at hSw)
        go_simp
        all_goals (with_reducible rfl)
      try simp only [Act.put, List.setIfInBounds_toArray, List.set_cons_zero, List.set_cons_succ]
      refine wpAnyH_take (i := 2) (oi := ⟨some 15, _, _, _, _, _⟩) (v := ?_) rfl (by kernel_rfl) (by kernel_rfl) (by kernel_rfl) (fun _ _ _ h => h) (Or.inl ⟨by rfl, ?_⟩) (by assumption) ?_
      rotate_left
      · intro w hSw
        (try dsimp only at hSw)
        go_simp
        all_goals (with_reducible rfl)
      try simp only [Act.put, List.setIfInBounds_toArray, List.set_cons_zero, List.set_cons_succ]
      refine wpAnyH_take (i := 3) (oi := ⟨some 16, _, _, _, _, _⟩) (v := ?_) rfl (by kernel_rfl) (by kernel_rfl) (by kernel_rfl) (fun _ _ _ h => h) (Or.inl ⟨by rfl, ?_⟩) (by assumption) ?_
      rotate_left
      · intro w hSw
        (try dsimp only at hSw)
        go_simp
        all_goals (with_reducible rfl)
      try simp only [Act.put, List.setIfInBounds_toArray, List.set_cons_zero, List.set_cons_succ]
      refine wpAnyH_take (i := 4) (oi := ⟨some 17, _, _, _, _, _⟩) (v := ?_) rfl (by kernel_rfl) (by kernel_rfl) (by kernel_rfl) (fun _ _ _ h => h) (Or.inl ⟨by rfl, ?_⟩) (by assumption) ?_
      rotate_left
      · intro w hSw
        (try dsimp only at hSw)
        have x0 := hSw.box.cell 0
        go_simp
        all_goals (with_reducible rfl)
      try simp only [Act.put, List.setIfInBounds_toArray, List.set_cons_zero, List.set_cons_succ]
      refine wpAnyH_take (i := 5) (oi := ⟨some 18, _, _, _, _, _⟩) (v := ?_) rfl (by kernel_rfl) (by kernel_rfl) (by kernel_rfl) (fun _ _ _ h => h) (Or.inl ⟨by rfl, ?_⟩) (by assumption) ?_
      rotate_left
      · intro w hSw
        (try dsimp only at hSw)
        go_simp
        all_goals (with_reducible rfl)
      try simp only [Act.put, List.setIfInBounds_toArray, List.set_cons_zero, List.set_cons_succ]
      refine wpAnyH_take (i := 6) (oi := ⟨some 19, _, _, _, _, _⟩) (v := ?_) rfl (by kernel_rfl) (by kernel_rfl) (by kernel_rfl) (fun _ _ _ h => h) (Or.inl ⟨by rfl, ?_⟩) (by assumption) ?_
      rotate_left
      · intro w hSw
        (try dsimp only at hSw)
        go_simp
        all_goals (with_reducible rfl)
      try simp only [Act.put, List.setIfInBounds_toArray, List.set_cons_zero, List.set_cons_succ]
      refine wpAnyH_take (i := 7) (oi := ⟨some 20, _, _, _, _, _⟩) (v := _) rfl (by kernel_rfl) (by kernel_rfl) (by kernel_rfl) (fun _ _ _ h => h) (yieldsIf_load_mid (by rfl) _ _ rfl g (k * 6) (by rfl) (n.cells) _ (fun w hSw => hSw.note_at hx) Tryd.underlying36 rfl (by rw [size_n]; rfl)) (by assumption) ?_
      try simp only [Act.put, List.setIfInBounds_toArray, List.set_cons_zero, List.set_cons_succ]
      refine wpAnyH_ready (rs := [0]) (by kernel_rfl) (by simp) ?_
      refine AllReadyH.cons (o := ⟨some 13, _, _, _, _, _⟩) rfl (fun K hK => ?_) AllReadyH.nil
      rw [if_pos (by rfl)]
      refine wp_load_mid 24 _ (by rfl) R2 0 (by rfl) (headG (ns.take k)).vs _ (whole_rangeG hA.cur) Tryd.underlying24 (by rfl) (by rw [size_d, Dg.vs_length]) ?_
      refine hK.out _ _ (hA.tr) (fun _ => ?_)
      clear hK K
      try simp only [Act.put, List.setIfInBounds_toArray, List.set_cons_zero, List.set_cons_succ]
      refine wpAnyH_ready (rs := [8]) (by kernel_rfl) (by simp) ?_
      refine AllReadyH.cons (o := ⟨some 21, _, _, _, _, _⟩) rfl (fun K hK => ?_) AllReadyH.nil
      go_simp
      refine (HN.out _ hA.tab).mono ?_
      rintro e w8 ⟨rfl, hb⟩
      replace hA := hA.on hb
      clear hb
      refine hK.out _ _ (hA.tr) (fun _ => ?_)
      clear hK K
      try simp only [Act.put, List.setIfInBounds_toArray, List.set_cons_zero, List.set_cons_succ]
      refine wpAnyH_take (i := 9) (oi := ⟨some 12, _, _, _, _, _⟩) (v := ?_) rfl (by kernel_rfl) (by kernel_rfl) (by kernel_rfl) (fun _ _ _ h => h) (Or.inl ⟨by rfl, ?_⟩) (by assumption) ?_
      rotate_left
      · intro w hSw
        (try dsimp only at hSw)
        go_simp
        all_goals (with_reducible rfl)
      try simp only [Act.put, List.setIfInBounds_toArray, List.set_cons_zero, List.set_cons_succ]
      refine wpAnyH_take (i := 10) (oi := ⟨some 22, _, _, _, _, _⟩) (v := ?_) rfl (by kernel_rfl) (by kernel_rfl) (by kernel_rfl) (fun _ _ _ h => h) (Or.inl ⟨by rfl, ?_⟩) (by assumption) ?_
      rotate_left
      · intro w hSw
        (try dsimp only at hSw)
        go_simp
        all_goals (with_reducible rfl)
      try simp only [Act.put, List.setIfInBounds_toArray, List.set_cons_zero, List.set_cons_succ]
      refine wpAnyH_take (i := 11) (oi := ⟨some 23, _, _, _, _, _⟩) (v := ?_) rfl (by kernel_rfl) (by kernel_rfl) (by kernel_rfl) (fun _ _ _ h => h) (Or.inl ⟨by rfl, ?_⟩) (by assumption) ?_
      rotate_left
      · intro w hSw
        (try dsimp only at hSw)
        go_simp
        all_goals (with_reducible rfl)
      try simp only [Act.put, List.setIfInBounds_toArray, List.set_cons_zero, List.set_cons_succ]
      refine wpAnyH_ready (rs := [12]) (by kernel_rfl) (by simp) ?_
      refine AllReadyH.cons (o := ⟨none, _, _, _, _, _⟩) rfl (fun K hK => ?_) AllReadyH.nil
      rw [if_pos (by rfl)]
      refine wp_store_row 24 _ _ (by rfl) R2 E.vs.toArray (by rfl) (by rfl) 24 _ hA.cur (by rw [size_d]; simp [Dg.vs_length]) (by simp [Dg.vs_length]) (Dg.all_one _) ?_
      replace hA := hA.filled E.vs
      generalize World.setRow _ _ _ = wx at hA ⊢
      refine hK.out _ _ (hA.tr) (fun _ => ?_)
      clear hK K
      try simp only [Act.put]
      refine wpAnyH_done (by kernel_rfl) ?_ _
      refine NoPanic.normal ?_
      go_wp2
      go_roundw
      case rel => exact ⟨k + 1, by omega, by go_num, by rw [HX.out]; exact hA⟩
      case measure => simp [intOf]; omega
    · obtain rfl : k = N := by omega
      have i1 : ¬ (k : Int) < (k : Int) := by omega
      go_wp2_with (first | (refine wpList_load_row (by rfl) 24 _ (by rfl) R2 (by rfl) 24 (headG (ns.take k)).vs.toArray (0, 0) _ hA.cur Tryd.underlying24 (by rfl) (by rw [size_d]; simp [Dg.vs_length]) ?_) | (refine wpList_store_row (by rfl) 24 _ _ (by rfl) R1 (headG (ns.take k)).vs.toArray (by rfl) (by rfl) 24 _ hA.res (by rw [size_d]; simp [Dg.vs_length]) (by simp [zeroNums, Dg.vs_length]) (Dg.all_one _) ?_) | fail)
      refine bodyPost_ret (results_cell_row rfl _ _ R1 24 _ (0, 0) _ rfl (hA.res.row _) Tryd.underlying24 rfl (by rw [size_d]; simp [Dg.vs_length])) rfl ⟨rfl, ?_⟩
      exact hA.below.grown (grown_row (World.grownBy.refl _ (some R1)) (.inl rfl) _) hA.below.size (fun i hi => by injection hi with hi; have := hA.new; omega)

end Go.Proofs.YtglcingpolpkdaaDoor
