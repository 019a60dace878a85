/- A note of a trail, and the head behind it. -/
import Derived.Test.YtglcingpolpkdaaDoorRAdd
namespace Go.Proofs.YtglcingpolpkdaaDoor
open Go.RowKit

def zeroNt : Nt := ⟨0, ⟨#[]⟩, ⟨#[]⟩, 0, ⟨#[]⟩, 0⟩
theorem zeroNt_cells : zeroNt.cells = zeroNote := rfl
/-- What At answers. -/
def atT (ns : List Nt) (i : Int) : Nt × Dg × Int := if 0 ≤ i then (match ns[i.toNat]? with | some n => (n, headG (ns.take (i.toNat + 1)), 0) | none => (zeroNt, zeroG, 2)) else (zeroNt, zeroG, 2)
theorem info_of2 {t : TypeId} {z : Value} {n b : Nat} (h : ∃ i, Tryd.prog.info? t = some i ∧ i.zero = some z ∧ i.size = n ∧ i.bytes = b) : (Tryd.prog.info? t).map (fun i => (i.zero, i.size)) = some (some z, n) := by
  obtain ⟨i, h1, h2, h3, _⟩ := h
  rw [h1, ← h2, ← h3]
  rfl
theorem TrP.link_at {W w : World} {tb g c k : Nat} {ns : List Nt} {n : Nt} (h : TrP W w tb (.slice (some ⟨g, 0, none⟩) ns.length c) ns) (hx : ns[k]? = some n) : w.rangeAt g (k * 38) (n.cells ++ (headG (ns.take (k + 1))).vs) := by
  obtain ⟨g', hg, hr⟩ := h.link (links_at zeroG ns k n hx)
  obtain rfl : g = g' := by injection hg with hg; injection hg
  exact hr
theorem results_cells_three {P : Program} {fn : Func} {p p2 q : Tmp} {ty ty2 : TypeId} (h : fn.results = #[.cell p ty, .cell p2 ty2, .tmp q]) (tmps : Array Value) (w : World) (g g2 : Nat) (t t2 : TypeId) (cs cs2 : Array Value) (fr fr2 : Nat × Nat) (d d2 : TypeDesc)
    (hp : tmps.getD p undef = .pointer (some ⟨g, 0, none⟩)) (hg : w.heap[g]? = some (.cells cs t fr))
    (hu : P.underlying ty = some d) (hd : (match d with | .struct _ | .array _ _ => true | _ => false) = true) (hi : (P.info? ty).map (·.size) = some cs.size)
    (hp2 : tmps.getD p2 undef = .pointer (some ⟨g2, 0, none⟩)) (hg2 : w.heap[g2]? = some (.cells cs2 t2 fr2))
    (hu2 : P.underlying ty2 = some d2) (hd2 : (match d2 with | .struct _ | .array _ _ => true | _ => false) = true) (hi2 : (P.info? ty2).map (·.size) = some cs2.size) :
    (results fn tmps).run P w = .ok (.tuple #[.agg cs, .agg cs2, tmps.getD q undef]) w := by
  have hp' : tmps[p]?.getD undef = .pointer (some ⟨g, 0, none⟩) := by simpa using hp
  have hp2' : tmps[p2]?.getD undef = .pointer (some ⟨g2, 0, none⟩) := by simpa using hp2
  simp [results, h, hp', hp2', asAddr, run_loadVar_row w g t ty cs fr d hg hu hd hi, run_loadVar_row w g2 t2 ty2 cs2 fr2 d2 hg2 hu2 hd2 hi2]
/-- What At works on. -/
structure AtIn (W w0 w : World) (tb : Nat) (lv : Value) (ns : List Nt) (NB DB : Nat) (us vs : List Value) : Prop where
  tr : TrP W w tb lv ns
  note : Whole w NB 36 us
  head : Whole w DB 24 vs
  below : Below w0.heap.size w0 w
  new : w0.heap.size ≤ NB ∧ w0.heap.size ≤ DB
  ne : NB ≠ DB
  old : W.heap.size ≤ w0.heap.size
theorem AtIn.on {W w0 w w' : World} {tb : Nat} {lv : Value} {ns : List Nt} {NB DB : Nat} {us vs : List Value} (h : AtIn W w0 w tb lv ns NB DB us vs) (hb : Below w.heap.size w w') : AtIn W w0 w' tb lv ns NB DB us vs :=
  ⟨h.tr.on hb, h.note.below hb h.note.lt, h.head.below hb h.head.lt, h.below.trans (hb.mono h.below.size), h.new, h.ne, h.old⟩
theorem AtIn.note_in {W w0 w : World} {tb : Nat} {lv : Value} {ns : List Nt} {NB DB : Nat} {us vs : List Value} (h : AtIn W w0 w tb lv ns NB DB us vs) (xs : List Value) : AtIn W w0 (w.setRow NB xs.toArray) tb lv ns NB DB xs vs := by
  have hG : w.grownBy (w.setRow NB xs.toArray) (some NB) := grown_row (World.grownBy.refl _ _) (.inl rfl) _
  have hn := h.tr.ne h.note (by decide) (by decide)
  have h1 := h.new
  have h2 := h.old
  exact ⟨h.tr.on_row ⟨hn.1, hn.2, by omega⟩ _, h.note.row xs, h.head.grown hG (fun e => h.ne (by injection e with e; exact e.symm)), h.below.grown hG h.below.size (fun k hk => by injection hk with hk; omega), h.new, h.ne, h.old⟩
theorem AtIn.head_in {W w0 w : World} {tb : Nat} {lv : Value} {ns : List Nt} {NB DB : Nat} {us vs : List Value} (h : AtIn W w0 w tb lv ns NB DB us vs) (xs : List Value) : AtIn W w0 (w.setRow DB xs.toArray) tb lv ns NB DB us xs := by
  have hG : w.grownBy (w.setRow DB xs.toArray) (some DB) := grown_row (World.grownBy.refl _ _) (.inl rfl) _
  have hn := h.tr.ne h.head (by decide) (by decide)
  have h1 := h.new
  have h2 := h.old
  exact ⟨h.tr.on_row ⟨hn.1, hn.2, by omega⟩ _, h.note.grown hG (fun e => h.ne (by injection e)), h.head.row xs, h.below.grown hG h.below.size (fun k hk => by injection hk with hk; omega), h.new, h.ne, h.old⟩
theorem AtIn.start {W w : World} {tb : Nat} {lv : Value} {ns : List Nt} (h : TrP W w tb lv ns) : AtIn W w ((w.alloc (.cells zeroNote.toArray 36)).alloc (.cells (zeroNums .u8 32).toArray 24)) tb lv ns w.heap.size (w.heap.size + 1) zeroNote (zeroNums .u8 32) := by
  have b1 : Below w.heap.size w (w.alloc (.cells zeroNote.toArray 36)) := (Below.refl _ _).alloc (Nat.le_refl _) _
  have h1 := Whole.new w 36 zeroNote.toArray
  have s1 : (w.alloc (.cells zeroNote.toArray 36)).heap.size = w.heap.size + 1 := by simp
  generalize w.alloc (.cells zeroNote.toArray 36) = w1 at b1 h1 s1 ⊢
  have b2 : Below w1.heap.size w1 (w1.alloc (.cells (zeroNums .u8 32).toArray 24)) := (Below.refl _ _).alloc (Nat.le_refl _) _
  have h2 := Whole.new w1 24 (zeroNums .u8 32).toArray
  rw [s1] at h2
  have b12 := b1.trans (b2.mono b1.size)
  exact ⟨h.on b12, by simpa using h1.below b2 h1.lt, by simpa using h2, b12, by omega, by omega, h.below.size⟩

set_option maxRecDepth 100000 in
set_option maxHeartbeats 2000000 in
theorem tat_there (W w : World) (tb k c : Nat) (p : Option Addr) (ns : List Nt) (n : Nt) (h : TrP W w tb (.slice p ns.length c) ns) (hx : ns[k]? = some n) :
    Calls Tryd.prog 16 #[.pointer (some ⟨tb, 0, none⟩), .int .i64 k] w fun e w' => e = .returned (.tuple #[.agg n.cells.toArray, .agg (headG (ns.take (k + 1))).vs.toArray, .int .i64 0]) ∧ Below w.heap.size w w' := by
  have hA := AtIn.start h
  have HY := Lib.hid (fun w' (h' : TrP W w' tb (.slice p ns.length c) ns) => tnone_yes w' tb (h'.box.cell 1))
  obtain ⟨g, rfl, _⟩ := h.link (links_at zeroG ns k n hx)
  have hk : k < ns.length := (List.getElem?_eq_some_iff.1 hx).1
  clear h
  obtain ⟨E, hE⟩ : ∃ E, headG (ns.take (k + 1)) = E := ⟨_, rfl⟩
  rw [hE]
  have i0 : ¬ (k : Int) < 0 := by omega
  have i1 : ¬ (ns.length : Int) ≤ (k : Int) := by omega
  have i2 : 0 ≤ (k : Int) ∧ (k : Int) < (ns.length : Int) := by omega
  go_enter Tryd.func16, Tryd.ntmps16
  go_upto_region 1 with (first | (refine wpList_alloc_row (by rfl) 36 (by rfl) _ _ (info_of2 info_note) ?_) | (refine wpList_alloc_row (by rfl) 24 (by rfl) _ _ info_d ?_) | fail)
  generalize ((w.alloc (.cells zeroNote.toArray 36)).alloc (.cells (zeroNums .u8 32).toArray 24)) = w2 at hA ⊢
  try simp only [World.size_alloc]
  revert hA
  obtain ⟨NB, hNB⟩ : ∃ x, w.heap.size = x := ⟨_, rfl⟩
  obtain ⟨DB, hDB⟩ : ∃ x, NB + 1 = x := ⟨_, rfl⟩
  rw [hNB, hDB]
  intro hA
  clear hNB hDB
  have HX := Lib.hid (And.intro hx hE)
  clear hx hE
  go_upto_region 3 with (go_at_call 27; refine (HY.out _ hA.tr).mono ?_; rintro e w' ⟨rfl, rfl⟩)
  have c0 := hA.tr.box.cell 0
  go_upto_region 5 with fail
  clear c0
  refine wp_region_noPanic ?_
  refine wp_region_held_drew (S := fun w' => TrP W w' tb (.slice (some ⟨g, 0, none⟩) ns.length c) ns) (by kernel_rfl) (hA.tr.on ((Below.refl _ _).drew)) (fun hhS => ?_)
  replace hA := hA.on ((Below.refl w2.heap.size w2).drew)
  clear hhS
  generalize w2.drew = wd at hA ⊢
  have hhS := hA.tr
  refine wpAnyH_take (i := 0) (oi := ⟨some 24, _, _, _, _, _⟩) (v := ?_) rfl (by kernel_rfl) (by kernel_rfl) (by kernel_rfl) (fun _ _ _ h => h) (Or.inl ⟨by rfl, ?_⟩) (by assumption) ?_
  rotate_left
  · intro w hSw
    (try dsimp only at hSw)
    go_simp
    all_goals (with_reducible rfl)
  try simp only [Act.put, List.setIfInBounds_toArray, List.set_cons_zero, List.set_cons_succ]
  refine wpAnyH_take (i := 1) (oi := ⟨some 25, _, _, _, _, _⟩) (v := ?_) rfl (by kernel_rfl) (by kernel_rfl) (by kernel_rfl) (fun _ _ _ h => h) (Or.inl ⟨by rfl, ?_⟩) (by assumption) ?_
  rotate_left
  · intro w hSw
    (try dsimp only at hSw)
    go_simp
    all_goals (with_reducible rfl)
  try simp only [Act.put, List.setIfInBounds_toArray, List.set_cons_zero, List.set_cons_succ]
  refine wpAnyH_take (i := 2) (oi := ⟨some 26, _, _, _, _, _⟩) (v := ?_) rfl (by kernel_rfl) (by kernel_rfl) (by kernel_rfl) (fun _ _ _ h => h) (Or.inl ⟨by rfl, ?_⟩) (by assumption) ?_
  rotate_left
  · intro w hSw
    (try dsimp only at hSw)
    go_simp
    all_goals (with_reducible rfl)
  try simp only [Act.put, List.setIfInBounds_toArray, List.set_cons_zero, List.set_cons_succ]
  refine wpAnyH_take (i := 3) (oi := ⟨some 27, _, _, _, _, _⟩) (v := ?_) rfl (by kernel_rfl) (by kernel_rfl) (by kernel_rfl) (fun _ _ _ h => h) (Or.inl ⟨by rfl, ?_⟩) (by assumption) ?_
  rotate_left
  · intro w hSw
    (try dsimp only at hSw)
    have x0 := hSw.box.cell 0
    go_simp
    all_goals (with_reducible rfl)
  try simp only [Act.put, List.setIfInBounds_toArray, List.set_cons_zero, List.set_cons_succ]
  refine wpAnyH_take (i := 4) (oi := ⟨some 28, _, _, _, _, _⟩) (v := ?_) rfl (by kernel_rfl) (by kernel_rfl) (by kernel_rfl) (fun _ _ _ h => h) (Or.inl ⟨by rfl, ?_⟩) (by assumption) ?_
  rotate_left
  · intro w hSw
    (try dsimp only at hSw)
    go_simp
    all_goals (with_reducible rfl)
  try simp only [Act.put, List.setIfInBounds_toArray, List.set_cons_zero, List.set_cons_succ]
  refine wpAnyH_take (i := 5) (oi := ⟨some 29, _, _, _, _, _⟩) (v := ?_) rfl (by kernel_rfl) (by kernel_rfl) (by kernel_rfl) (fun _ _ _ h => h) (Or.inl ⟨by rfl, ?_⟩) (by assumption) ?_
  rotate_left
  · intro w hSw
    (try dsimp only at hSw)
    go_simp
    all_goals (with_reducible rfl)
  try simp only [Act.put, List.setIfInBounds_toArray, List.set_cons_zero, List.set_cons_succ]
  refine wpAnyH_take (i := 6) (oi := ⟨some 30, _, _, _, _, _⟩) (v := ?_) rfl (by kernel_rfl) (by kernel_rfl) (by kernel_rfl) (fun _ _ _ h => h) (Or.inl ⟨by rfl, ?_⟩) (by assumption) ?_
  rotate_left
  · intro w hSw
    (try dsimp only at hSw)
    go_simp
    all_goals (with_reducible rfl)
  try simp only [Act.put, List.setIfInBounds_toArray, List.set_cons_zero, List.set_cons_succ]
  refine wpAnyH_take (i := 7) (oi := ⟨some 31, _, _, _, _, _⟩) (v := _) rfl (by kernel_rfl) (by kernel_rfl) (by kernel_rfl) (fun _ _ _ h => h) (yieldsIf_load_mid (by rfl) _ _ rfl g (k * 38) (by rfl) (n.cells) _ (fun w hSw => range_front ((HX.out.2 ▸ hSw.link_at HX.out.1))) Tryd.underlying36 rfl (by rw [size_n]; rfl)) (by assumption) ?_
  try simp only [Act.put, List.setIfInBounds_toArray, List.set_cons_zero, List.set_cons_succ]
  refine wpAnyH_take (i := 8) (oi := ⟨some 32, _, _, _, _, _⟩) (v := ?_) rfl (by kernel_rfl) (by kernel_rfl) (by kernel_rfl) (fun _ _ _ h => h) (Or.inl ⟨by rfl, ?_⟩) (by assumption) ?_
  rotate_left
  · intro w hSw
    (try dsimp only at hSw)
    go_simp
    all_goals (with_reducible rfl)
  try simp only [Act.put, List.setIfInBounds_toArray, List.set_cons_zero, List.set_cons_succ]
  refine wpAnyH_take (i := 9) (oi := ⟨some 33, _, _, _, _, _⟩) (v := ?_) rfl (by kernel_rfl) (by kernel_rfl) (by kernel_rfl) (fun _ _ _ h => h) (Or.inl ⟨by rfl, ?_⟩) (by assumption) ?_
  rotate_left
  · intro w hSw
    (try dsimp only at hSw)
    go_simp
    all_goals (with_reducible rfl)
  try simp only [Act.put, List.setIfInBounds_toArray, List.set_cons_zero, List.set_cons_succ]
  refine wpAnyH_take (i := 10) (oi := ⟨some 34, _, _, _, _, _⟩) (v := ?_) rfl (by kernel_rfl) (by kernel_rfl) (by kernel_rfl) (fun _ _ _ h => h) (Or.inl ⟨by rfl, ?_⟩) (by assumption) ?_
  rotate_left
  · intro w hSw
    (try dsimp only at hSw)
    go_simp
    all_goals (with_reducible rfl)
  try simp only [Act.put, List.setIfInBounds_toArray, List.set_cons_zero, List.set_cons_succ]
  refine wpAnyH_take (i := 11) (oi := ⟨some 35, _, _, _, _, _⟩) (v := ?_) rfl (by kernel_rfl) (by kernel_rfl) (by kernel_rfl) (fun _ _ _ h => h) (Or.inl ⟨by rfl, ?_⟩) (by assumption) ?_
  rotate_left
  · intro w hSw
    (try dsimp only at hSw)
    have x0 := hSw.box.cell 0
    go_simp
    all_goals (with_reducible rfl)
  try simp only [Act.put, List.setIfInBounds_toArray, List.set_cons_zero, List.set_cons_succ]
  refine wpAnyH_take (i := 12) (oi := ⟨some 36, _, _, _, _, _⟩) (v := ?_) rfl (by kernel_rfl) (by kernel_rfl) (by kernel_rfl) (fun _ _ _ h => h) (Or.inl ⟨by rfl, ?_⟩) (by assumption) ?_
  rotate_left
  · intro w hSw
    (try dsimp only at hSw)
    go_simp
    all_goals (with_reducible rfl)
  try simp only [Act.put, List.setIfInBounds_toArray, List.set_cons_zero, List.set_cons_succ]
  refine wpAnyH_take (i := 13) (oi := ⟨some 37, _, _, _, _, _⟩) (v := ?_) rfl (by kernel_rfl) (by kernel_rfl) (by kernel_rfl) (fun _ _ _ h => h) (Or.inl ⟨by rfl, ?_⟩) (by assumption) ?_
  rotate_left
  · intro w hSw
    (try dsimp only at hSw)
    go_simp
    all_goals (with_reducible rfl)
  try simp only [Act.put, List.setIfInBounds_toArray, List.set_cons_zero, List.set_cons_succ]
  refine wpAnyH_take (i := 14) (oi := ⟨some 38, _, _, _, _, _⟩) (v := ?_) rfl (by kernel_rfl) (by kernel_rfl) (by kernel_rfl) (fun _ _ _ h => h) (Or.inl ⟨by rfl, ?_⟩) (by assumption) ?_
  rotate_left
  · intro w hSw
    (try dsimp only at hSw)
    go_simp
    all_goals (with_reducible rfl)
  try simp only [Act.put, List.setIfInBounds_toArray, List.set_cons_zero, List.set_cons_succ]
  refine wpAnyH_take (i := 15) (oi := ⟨some 39, _, _, _, _, _⟩) (v := _) rfl (by kernel_rfl) (by kernel_rfl) (by kernel_rfl) (fun _ _ _ h => h) (yieldsIf_load_mid (by rfl) _ _ rfl g (k * 38 + 6) (by rfl) (E.vs) _ (fun w hSw => range_behind ((HX.out.2 ▸ hSw.link_at HX.out.1))) Tryd.underlying24 rfl (by rw [size_d, Dg.vs_length])) (by assumption) ?_
  try simp only [Act.put, List.setIfInBounds_toArray, List.set_cons_zero, List.set_cons_succ]
  refine wpAnyH_ready (rs := [16]) (by kernel_rfl) (by simp) ?_
  refine AllReadyH.cons (o := ⟨none, _, _, _, _, _⟩) rfl (fun K hK => ?_) AllReadyH.nil
  rw [if_pos (by rfl)]
  refine wp_store_row 36 _ _ (by rfl) NB n.cells.toArray (by rfl) (by rfl) 36 _ hA.note (by rw [size_n]; rfl) rfl (Nt.all_one _) ?_
  replace hA := hA.note_in n.cells
  generalize World.setRow _ _ _ = w16 at hA ⊢
  refine hK.out _ _ (hA.tr) (fun _ => ?_)
  clear hK K
  try simp only [Act.put]
  refine wpAnyH_ready (rs := [17]) (by kernel_rfl) (by simp) ?_
  refine AllReadyH.cons (o := ⟨none, _, _, _, _, _⟩) rfl (fun K hK => ?_) AllReadyH.nil
  rw [if_pos (by rfl)]
  refine wp_store_row 24 _ _ (by rfl) DB E.vs.toArray (by rfl) (by rfl) 24 _ hA.head (by rw [size_d]; simp [Dg.vs_length]) (by simp [zeroNums, Dg.vs_length]) (Dg.all_one _) ?_
  replace hA := hA.head_in E.vs
  generalize World.setRow _ _ _ = w17 at hA ⊢
  refine hK.out _ _ (hA.tr) (fun _ => ?_)
  clear hK K
  try simp only [Act.put]
  refine wpAnyH_take (i := 18) (oi := ⟨some 6, _, _, _, _, _⟩) (v := ?_) rfl (by kernel_rfl) (by kernel_rfl) (by kernel_rfl) (fun _ _ _ h => h) (Or.inl ⟨by rfl, ?_⟩) (by assumption) ?_
  rotate_left
  · intro w hSw
    (try dsimp only at hSw)
    go_simp
    all_goals (with_reducible rfl)
  try simp only [Act.put, List.setIfInBounds_toArray, List.set_cons_zero, List.set_cons_succ]
  refine wpAnyH_done (by kernel_rfl) ?_ _
  refine NoPanic.normal ?_
  go_wp2
  refine bodyPost_ret (results_cells_three rfl _ _ NB DB 36 24 _ _ (0, 0) (0, 0) _ _ rfl hA.note Tryd.underlying36 rfl (by rw [size_n]; rfl) rfl hA.head Tryd.underlying24 rfl (by rw [size_d]; simp [Dg.vs_length])) rfl ⟨rfl, hA.below⟩

set_option maxRecDepth 100000 in
set_option maxHeartbeats 2000000 in
theorem tat_not (W w : World) (tb c : Nat) (p : Option Addr) (i : Int) (ns : List Nt) (h : TrP W w tb (.slice p ns.length c) ns) (hx : i < 0 ∨ (ns.length : Int) ≤ i) :
    Calls Tryd.prog 16 #[.pointer (some ⟨tb, 0, none⟩), .int .i64 i] w fun e w' => e = .returned (.tuple #[.agg zeroNote.toArray, .agg (zeroNums .u8 32).toArray, .int .i64 2]) ∧ Below w.heap.size w w' := by
  have hA := AtIn.start h
  have HY := Lib.hid (fun w' (h' : TrP W w' tb (.slice p ns.length c) ns) => tnone_yes w' tb (h'.box.cell 1))
  clear h
  go_enter Tryd.func16, Tryd.ntmps16
  go_upto_region 1 with (first | (refine wpList_alloc_row (by rfl) 36 (by rfl) _ _ (info_of2 info_note) ?_) | (refine wpList_alloc_row (by rfl) 24 (by rfl) _ _ info_d ?_) | fail)
  generalize ((w.alloc (.cells zeroNote.toArray 36)).alloc (.cells (zeroNums .u8 32).toArray 24)) = w2 at hA ⊢
  try simp only [World.size_alloc]
  revert hA
  obtain ⟨NB, hNB⟩ : ∃ x, w.heap.size = x := ⟨_, rfl⟩
  obtain ⟨DB, hDB⟩ : ∃ x, NB + 1 = x := ⟨_, rfl⟩
  rw [hNB, hDB]
  intro hA
  clear hNB hDB
  go_upto_region 3 with (go_at_call 27; refine (HY.out _ hA.tr).mono ?_; rintro e w' ⟨rfl, rfl⟩)
  have c0 := hA.tr.box.cell 0
  by_cases h0 : i < 0
  · clear hx
    go_wp2_with (first
      | (refine wpList_build_as (by rfl) 36 _ (by rfl) zeroNote.toArray (by kernel_rfl) ?_)
      | (refine wpList_build_as (by rfl) 24 _ (by rfl) (zeroNums .u8 32).toArray (by kernel_rfl) ?_)
      | (refine wpList_store_row (by rfl) 36 _ _ (by rfl) NB zeroNote.toArray (by rfl) (by rfl) 36 _ hA.note (by rw [size_n]; rfl) rfl (Nt.all_one zeroNt) ?_; replace hA := hA.note_in zeroNote; generalize World.setRow _ _ _ = w16 at hA ⊢)
      | (refine wpList_store_row (by rfl) 24 _ _ (by rfl) DB (zeroNums .u8 32).toArray (by rfl) (by rfl) 24 _ hA.head size_d rfl (all_zeros _ _) ?_; replace hA := hA.head_in (zeroNums .u8 32); generalize World.setRow _ _ _ = w17 at hA ⊢)
      | fail)
    refine bodyPost_ret (results_cells_three rfl _ _ NB DB 36 24 _ _ (0, 0) (0, 0) _ _ rfl hA.note Tryd.underlying36 rfl (by rw [size_n]; rfl) rfl hA.head Tryd.underlying24 rfl (by rw [size_d]; simp [zeroNums])) rfl ⟨rfl, hA.below⟩
  · have h1 : (ns.length : Int) ≤ i := hx.resolve_left h0
    clear hx
    go_wp2_with (first
      | (refine wpList_build_as (by rfl) 36 _ (by rfl) zeroNote.toArray (by kernel_rfl) ?_)
      | (refine wpList_build_as (by rfl) 24 _ (by rfl) (zeroNums .u8 32).toArray (by kernel_rfl) ?_)
      | (refine wpList_store_row (by rfl) 36 _ _ (by rfl) NB zeroNote.toArray (by rfl) (by rfl) 36 _ hA.note (by rw [size_n]; rfl) rfl (Nt.all_one zeroNt) ?_; replace hA := hA.note_in zeroNote; generalize World.setRow _ _ _ = w16 at hA ⊢)
      | (refine wpList_store_row (by rfl) 24 _ _ (by rfl) DB (zeroNums .u8 32).toArray (by rfl) (by rfl) 24 _ hA.head size_d rfl (all_zeros _ _) ?_; replace hA := hA.head_in (zeroNums .u8 32); generalize World.setRow _ _ _ = w17 at hA ⊢)
      | fail)
    refine bodyPost_ret (results_cells_three rfl _ _ NB DB 36 24 _ _ (0, 0) (0, 0) _ _ rfl hA.note Tryd.underlying36 rfl (by rw [size_n]; rfl) rfl hA.head Tryd.underlying24 rfl (by rw [size_d]; simp [zeroNums])) rfl ⟨rfl, hA.below⟩

theorem tat_calls (W w : World) (tb : Nat) (lv : Value) (i : Int) (ns : List Nt) (h : TrP W w tb lv ns) (_ : ns.length ≤ 1000) :
    Calls Tryd.prog 16 #[.pointer (some ⟨tb, 0, none⟩), .int .i64 i] w fun e w' => e = .returned (.tuple #[.agg (atT ns i).1.cells.toArray, .agg (atT ns i).2.1.vs.toArray, .int .i64 (atT ns i).2.2]) ∧ Below w.heap.size w w' := by
  obtain ⟨p, c, rfl⟩ := h.shape
  unfold atT
  by_cases h0 : 0 ≤ i
  · obtain ⟨k, rfl⟩ := Int.eq_ofNat_of_zero_le h0
    rw [if_pos h0, Int.toNat_natCast]
    cases hx : ns[k]? with
    | some n => exact tat_there W w tb k c p ns n h hx
    | none =>
      rw [List.getElem?_eq_none_iff] at hx
      have := tat_not W w tb c p k ns h (.inr (by omega))
      rw [← zeroG_vs] at this
      exact this
  · rw [if_neg h0]
    have := tat_not W w tb c p i ns h (.inl (by omega))
    rw [← zeroG_vs] at this
    exact this

end Go.Proofs.YtglcingpolpkdaaDoor
