/- The document's disk: an operation is under way. -/
import Derived.Test.YtmmlpbepaefamaaRD5
namespace Go.Proofs.Ytmmlpbepaefamaa
open Go.RowKit

/-- A cell of a row is written over. -/
theorem own_put {w : World} {B g n c k z j : Nat} {e : TypeId} {u : Value} {xs : List Value} (h : w.ownsRow B e z (.slice (some ⟨g, 0, none⟩) n c) k xs) (hj : j < xs.length) :
    (w.setCell ⟨g, j, none⟩ u).ownsRow B e z (.slice (some ⟨g, 0, none⟩) n c) k (xs.set j u) ∧ w.frozen? ⟨g, j, none⟩ = false ∧ w.cell? ⟨g, j, none⟩ = xs[j]? := by
  obtain ⟨h0, h1⟩ := h
  rcases h1 with ⟨he, _⟩ | ⟨g2, cap, cur, he, hb, hg, hle, hm, hsz, hcur⟩
  · cases he
  · injection he with h1 h2 h3
    injection h1 with h1
    injection h1 with h1
    subst h1 h2 h3
    have hW : Whole w g e cur.toList := by unfold Whole; simpa using hg
    have hl : cur.toList.length = c * z := by simpa using hsz
    have hxl : xs.length = n * z := h0
    have hci : cur.toList[j]? = xs[j]? := by
      rw [← hcur, List.getElem?_take, if_pos (by omega)]
    refine ⟨⟨by simpa using h0, .inr ⟨g, c, (cur.toList.set j u).toArray, rfl, hb, by simpa [Whole] using hW.put j u, hle, hm, by simpa using hsz, ?_⟩⟩, hW.free j, (hW.cell j).trans hci⟩
    simp only []
    rw [← hcur]
    apply List.ext_getElem?
    intro i
    simp only [List.getElem?_take, List.getElem?_set, List.length_take, hl]
    by_cases hi : i < n * z
    · rw [if_pos hi]
      by_cases hij : j = i
      · subst hij
        rw [if_pos rfl, if_pos rfl]
        have : n * z ≤ c * z := Nat.mul_le_mul_right z hle
        rw [if_pos (by omega), if_pos (by omega)]
      · rw [if_neg hij, if_neg hij, if_pos hi]
    · rw [if_neg hi]
      by_cases hij : j = i
      · omega
      · rw [if_neg hij, if_neg hi]
theorem flat_set {α : Type} {f : α → List Value} {n : Nat} (hf : ∀ a, (f a).length = n) : ∀ (l : List α) (k i : Nat) (a a' : α) (u : Value), l[k]? = some a → i < n → f a' = (f a).set i u → (l.flatMap f).set (k * n + i) u = (l.set k a').flatMap f
  | [], _, _, _, _, _, h, _, _ => by simp at h
  | b :: l, 0, i, a, a', u, h, hi, he => by
    obtain rfl : b = a := by simpa using h
    rw [List.flatMap_cons, Nat.zero_mul, Nat.zero_add, List.set_append_left _ _ (by rw [hf]; exact hi), List.set_cons_zero, List.flatMap_cons, he]
  | b :: l, k + 1, i, a, a', u, h, hi, he => by
    have ih := flat_set hf l k i a a' u (by simpa using h) hi he
    rw [List.flatMap_cons, List.set_append_right _ _ (by rw [hf, Nat.succ_mul]; omega), List.set_cons_succ, List.flatMap_cons, ← ih, hf]
    congr 2
    rw [Nat.succ_mul]
    omega
/-- One file of the document's disk is another one now. -/
theorem RD.poke {w w1 : World} {B m n g N fc k i : Nat} {T : Nat → Prop} {rv u : Value} {l : List Rx} {rl : List Int} {x x' : Rx} (h : RD w B m T (.slice (some ⟨g, 0, none⟩) N fc) rv l rl n) (hb : Below w.heap.size w w1) (hx : l[k]? = some x) (hi : i < 4) (hc : x'.cells = x.cells.set i u) (he : RxAt w1 B (TX T w.heap.size w1.heap.size) x') :
    w1.frozen? ⟨g, k * 4 + i, none⟩ = false ∧ w1.cell? ⟨g, k * 4 + i, none⟩ = x.cells[i]? ∧ RD (w1.setCell ⟨g, k * 4 + i, none⟩ u) B m (TX T w.heap.size w1.heap.size) (.slice (some ⟨g, 0, none⟩) N fc) rv (l.set k x') rl n ∧ Only w (w1.setCell ⟨g, k * 4 + i, none⟩ u) fun j => j = g := by
  have h1 := h.low hb
  have ho := Only.set w1 ⟨g, k * 4 + i, none⟩ u
  have hkl : k < l.length := (List.getElem?_eq_some_iff.1 hx).1
  have hj : k * 4 + i < (l.flatMap Rx.cells).length := by
    rw [flat_len lenX]
    have : (k + 1) * 4 ≤ l.length * 4 := Nat.mul_le_mul_right 4 hkl
    omega
  obtain ⟨p1, p2, p3⟩ := own_put (u := u) h1.row hj
  rw [flat_set lenX l k i x x' u hx hi hc] at p1
  have hlen : (l.set k x').length = l.length := List.length_set
  have hBw : B ≤ w.heap.size := by have := (h.old m h.tm).1; have := (h.old m h.tm).2; omega
  have hat : (l.flatMap Rx.cells)[k * 4 + i]? = x.cells[i]? := by
    have hi2 : i < x.cells.length := by rw [lenX]; exact hi
    rw [List.getElem?_eq_getElem hi2]
    exact flat_at lenX l k x i _ hx (List.getElem?_eq_getElem hi2)
  refine ⟨p2, p3.trans hat, ⟨h1.box.only ho (fun e => row_ne_whole h1.row h1.box (by decide) (congrArg some e.symm)), by rw [hlen]; exact p1, fun y hy => ?_, row_only h1.ref ho (fun j hj e => rows_apart h1.row h1.ref (by decide) (congrArg some e.symm) hj), .inl h.tm, fun j hj => .inl (h.tf j hj), fun j hj => .inl (h.tv j hj), fun j hj => ?_⟩, ((Only.of_below hb (fun _ => False)).trans ho).weak fun _ _ e => e.elim False.elim id⟩
  · have hoth : ∀ j, j = g → ∃ t cur, w1.heap[j]? = some (.cells cur t (0, 0)) ∧ t ≠ 5 ∧ t ≠ 120 := fun j e => h1.other j (.inr (congrArg some e.symm))
    rcases List.mem_or_eq_of_mem_set hy with hy | rfl
    · exact (h1.each y hy).only ho (fun j _ e => hoth j e) (fun _ e => .inl e)
    · exact he.only ho (fun j _ e => hoth j e) (fun _ e => e)
  · rcases hj with hj | hj
    · exact ⟨(h.old j hj).1, by simpa using Nat.lt_of_lt_of_le (h.old j hj).2 hb.size⟩
    · exact ⟨Nat.le_trans hBw hj.1, by simpa using hj.2⟩
theorem src_whole {α : Type} {f : α → List Value} {n : Nat} {w : World} {g : Nat} {e : TypeId} {a : α} (h : Whole w g e (f a)) : SrcG f n w (.slice (some ⟨g, 0, none⟩) 1 1) [a] := by
  refine .inr ⟨g, 1, rfl, h.lt, fun i b hb j u hj => ?_⟩
  have hi : i < 1 := (List.getElem?_eq_some_iff.1 hb).1
  obtain rfl : i = 0 := by omega
  obtain rfl : a = b := by simpa using hb
  rw [Nat.zero_mul, Nat.zero_add, h.cell]
  exact hj
theorem moved_ne {w : World} {v v' : Value} {b : Nat} (M : Moved w v v') (h : ∀ i, v.ownBlock = some i → b ≠ i) (hw : b < w.heap.size) : ∀ i, v'.ownBlock = some i → b ≠ i := fun i hi => by
  rcases M with M | ⟨g, M, hg⟩
  · exact h i (M ▸ hi)
  · rw [M] at hi
    injection hi with hi
    omega
theorem info_rop : ∃ i, Try.prog.info? 120 = some i ∧ i.zero = some (.agg #[.bool false, .int .i64 0, .slice none 0 0]) ∧ i.size = 3 ∧ i.bytes = 40 := info_of (by kernel_rfl)
theorem zero_rop : (Try.prog.info? 120).map (fun i => (i.zero, i.size)) = some (some (.agg #[.bool false, .int .i64 0, .slice none 0 0]), 3) := by kernel_rfl

set_option maxRecDepth 100000 in
set_option maxHeartbeats 8000000 in
theorem runder_calls (w : World) (B m n : Nat) (T : Nat → Prop) (fv rv : Value) (l : List Rx) (rl : List Int) (h : RD w B m T fv rv l rl n) (k : Nat) (x : Rx) (hx : l[k]? = some x) (p : Dop × Value) (hp : OpAt w B p) (hpt : ∀ g, p.2.ownBlock = some g → T g) (hol : x.ops.length ≤ 90000) (hok : okOps x.f.safe (x.f.ops ++ [p.1])) :
    Calls Try.prog 81 #[.pointer (some ⟨m, 0, none⟩), .int .i64 k, .agg (opC p).toArray] w fun e w' => e = .returned (.tuple #[]) ∧ ∃ v' hi, RD w' B m (TX T w.heap.size hi) fv rv (l.set k ⟨x.name, x.sv, v', x.ops ++ [p], ⟨x.f.safe, x.f.ops ++ [p.1], x.f.fresh⟩⟩) rl n ∧ hi = w'.heap.size ∧ Only w w' fun i => i = m ∨ fv.ownBlock = some i := by
  obtain ⟨fa, fc, hfv⟩ := slice_of_row h.row
  subst hfv
  obtain ⟨g, hg, hr⟩ := own_atX h.row hx
  subst hg
  have hxa := h.each x (List.mem_of_getElem? hx)
  obtain ⟨N, hN⟩ : ∃ j, l.length = j := ⟨_, rfl⟩
  have hkN : k < N := by rw [← hN]; exact (List.getElem?_eq_some_iff.1 hx).1
  rw [hN] at h ⊢
  have i2 : 0 ≤ (k : Int) ∧ (k : Int) < (N : Int) := by omega
  obtain ⟨q0, q1, q2, hq⟩ : ∃ q0 q1 q2, opC p = [q0, q1, q2] := by
    unfold opC
    split <;> exact ⟨_, _, _, rfl⟩
  have b1 : Below w.heap.size w (w.alloc (.cells (opC p).toArray 120)) := (Below.refl _ _).alloc (Nat.le_refl _) _
  have hX := Whole.new w 120 (opC p).toArray
  have HH := Lib.hid (And.intro h (And.intro hx hr))
  have HP := Lib.hid (And.intro hp (And.intro hpt hok))
  have HQ := Lib.hid hq
  have HXA := Lib.hid hxa
  have HONE := Lib.hid (show (∀ b ∈ x.ops, ∀ y ∈ opC b, y.oneCell' = true) ∧ (∀ b ∈ [p], ∀ y ∈ opC b, y.oneCell' = true) from ⟨fun b hb => (hxa.each b hb).one, fun b hb => by (obtain rfl : b = _ := by simpa using hb); exact hp.one⟩)
  have HLEN := Lib.hid hol
  have c0 := h.box.cell 0
  clear h hx hr hxa hp hpt hok hol hN hq
  go_enter Try.func81, Try.ntmps81
  go_upto_region 1 with (first
    | (refine wpList_box_any (by rfl) 120 _ (by rfl) (opC p).toArray (by rfl) ?_)
    | fail)
  generalize w.alloc (.cells (opC p).toArray 120) = w1 at b1 hX ⊢
  obtain ⟨bx, hbx⟩ : ∃ b, w.heap.size = b := ⟨_, rfl⟩
  have HBX := Lib.hid hbx
  rw [hbx] at hX ⊢
  replace b1 := b1.trans (((Below.refl w1.heap.size w1).drew).mono b1.size)
  replace hX := hX.below ((Below.refl w1.heap.size w1).drew) hX.lt
  obtain ⟨oa, on, oc, hov⟩ := slice_any HXA.out.row
  obtain ⟨xops, hxo⟩ : ∃ z, x.ops = z := ⟨_, rfl⟩
  have HXO := Lib.hid hxo
  rw [hxo] at HONE HLEN
  have hW : ∀ w2, Below w1.drew.heap.size w1.drew w2 → Below w.heap.size w w2 ∧ Whole w2 bx 120 (opC p) := fun w2 hb => ⟨b1.trans (hb.mono b1.size), hX.below hb hX.lt⟩
  have HW := Lib.hid hW
  clear hW b1 hX hbx hxo
  have HS := Lib.hid (show ∀ w2, Below w1.drew.heap.size w1.drew w2 → w2.cell? ⟨m, 0, none⟩ = some (.slice (some ⟨g, 0, none⟩) N fc) ∧ w2.cell? ⟨bx, 0, none⟩ = some q0 ∧ w2.cell? ⟨bx, 1, none⟩ = some q1 ∧ w2.cell? ⟨bx, 2, none⟩ = some q2 from fun w2 hb => by
    obtain ⟨a1, a2⟩ := HW.out w2 hb
    rw [HQ.out] at a2
    exact ⟨(HH.out.1.low a1).box.cell 0, a2.cell 0, a2.cell 1, a2.cell 2⟩)
  have HZ2 := Lib.hid (show ∀ w2, Below w1.drew.heap.size w1.drew w2 → w2.cell? ⟨g, k * 4 + 2, none⟩ = some (.slice oa on oc) from fun w2 hb => by
    obtain ⟨a1, _⟩ := HW.out w2 hb
    have e1 := HH.out.2.2 2 x.ov rfl
    rw [hov] at e1
    exact (a1.cell (p := ⟨g, k * 4 + 2, none⟩) (row_lt HH.out.1.row rfl)).trans e1)
  have HSRC := Lib.hid (show ∀ w2, Below w1.drew.heap.size w1.drew w2 → SrcG opC 3 w2 (.slice oa on oc) xops from fun w2 hb => by
    obtain ⟨a1, _⟩ := HW.out w2 hb
    have e1 := src_of_own opC_length (HXA.out.low a1).row
    rw [hov, HXO.out] at e1
    exact e1)
  have HFIN := Lib.hid (show ∀ (v17 : Value) (w17 : World), Below w1.drew.heap.size w1.drew w17 → w17.ownsRow B 120 3 v17 (xops ++ [p]).length ((xops ++ [p]).flatMap opC) → (∀ i, v17.ownBlock = some i → w1.drew.heap.size ≤ i) → w17.cell? ⟨g, k * 4 + 2, none⟩ = some (.slice oa on oc) ∧ w17.frozen? ⟨g, k * 4 + 2, none⟩ = false ∧ RD (w17.setCell ⟨g, k * 4 + 2, none⟩ v17) B m (TX T w.heap.size w17.heap.size) (.slice (some ⟨g, 0, none⟩) N fc) rv (l.set k ⟨x.name, x.sv, v17, x.ops ++ [p], ⟨x.f.safe, x.f.ops ++ [p.1], x.f.fresh⟩⟩) rl n ∧ Only w (w17.setCell ⟨g, k * 4 + 2, none⟩ v17) (fun i => i = m ∨ (Value.slice (some ⟨g, 0, none⟩) N fc).ownBlock = some i) ∧ ((w17.setCell ⟨g, k * 4 + 2, none⟩ v17).cell? ⟨m, 0, none⟩ = some (.slice (some ⟨g, 0, none⟩) N fc) ∧ (w17.setCell ⟨g, k * 4 + 2, none⟩ v17).cell? ⟨bx, 0, none⟩ = some q0 ∧ (w17.setCell ⟨g, k * 4 + 2, none⟩ v17).cell? ⟨bx, 1, none⟩ = some q1 ∧ (w17.setCell ⟨g, k * 4 + 2, none⟩ v17).cell? ⟨bx, 2, none⟩ = some q2) from fun v17 w17 hb hO hgv => by
    obtain ⟨a1, a2⟩ := HW.out w17 hb
    rw [← HXO.out] at hO
    have hxl := HXA.out.low a1
    have hwd : w.heap.size ≤ w1.drew.heap.size := (HW.out _ (Below.refl _ _)).1.size
    have hBw : B ≤ w.heap.size := by have := HH.out.1.old m HH.out.1.tm; omega
    have hnew : RxAt w17 B (TX T w.heap.size w17.heap.size) ⟨x.name, x.sv, v17, x.ops ++ [p], ⟨x.f.safe, x.f.ops ++ [p.1], x.f.fresh⟩⟩ := by
      refine ⟨hxl.safe, hO, fun q hq => ?_, by simp [hxl.ops], fun j hj => .inl (hxl.ts j hj), fun j hj => .inr ⟨Nat.le_trans hwd (hgv j hj), row_lt hO hj⟩, fun q hq j hj => ?_, ⟨hxl.okf.1, HP.out.2.2⟩⟩
      · rcases List.mem_append.1 hq with hq | hq
        · exact hxl.each q hq
        · obtain rfl : q = p := by simpa using hq
          exact HP.out.1.only (Only.of_below a1 (fun _ => False)) (fun _ _ e => e)
      · rcases List.mem_append.1 hq with hq | hq
        · exact .inl (hxl.te q hq j hj)
        · obtain rfl : q = p := by simpa using hq
          exact .inl (HP.out.2.1 j hj)
    obtain ⟨r1, r2, r3, r4⟩ := HH.out.1.poke a1 HH.out.2.1 (by decide : 2 < 4) (x' := ⟨x.name, x.sv, v17, x.ops ++ [p], ⟨x.f.safe, x.f.ops ++ [p.1], x.f.fresh⟩⟩) rfl hnew
    have hgb : g ≠ bx := fun e => by
      have := row_lt HH.out.1.row (g := g) rfl
      rw [← HBX.out] at e
      omega
    have a3 := a2.only (Only.set w17 ⟨g, k * 4 + 2, none⟩ v17) (fun e => hgb e.symm)
    rw [HQ.out] at a3
    refine ⟨r2.trans (by rw [← hov]; rfl), r1, r3, r4.weak fun i _ e => .inr (congrArg some e.symm), r3.box.cell 0, a3.cell 0, a3.cell 1, a3.cell 2⟩)
  have HB0 := Lib.hid (show B ≤ w1.drew.heap.size from Nat.le_trans (by have := HH.out.1.old m HH.out.1.tm; omega) (HW.out _ (Below.refl _ _)).1.size)
  have HQW := Lib.hid (show ∀ c : World, Whole (c.alloc (.cells #[q0, q1, q2] 120)) c.heap.size 120 (opC p) from fun c => by
    rw [HQ.out]
    exact Whole.new c 120 #[q0, q1, q2])
  clear HW
  refine wp_region_noPanic ?_
  refine wp_region_held_drew (S := fun w2 => w2.cell? ⟨m, 0, none⟩ = some (.slice (some ⟨g, 0, none⟩) N fc) ∧ w2.cell? ⟨bx, 0, none⟩ = some q0 ∧ w2.cell? ⟨bx, 1, none⟩ = some q1 ∧ w2.cell? ⟨bx, 2, none⟩ = some q2) (by kernel_rfl) (HS.out _ (Below.refl _ _)) (fun hhS => ?_)
  generalize w1.drew = wd at HS HZ2 HSRC HFIN HB0 hhS ⊢
  have Bwd : Below wd.heap.size wd wd := Below.refl _ _
  clear c0
  refine wpAnyH_take (i := 0) (oi := ⟨some 6, _, _, _, _, _⟩) (v := ?_) rfl (by kernel_rfl) (by kernel_rfl) (by kernel_rfl) (fun _ _ _ h => h) (Or.inl ⟨by rfl, ?_⟩) (by assumption) ?_
  rotate_left
  · intro w hSw
    (try dsimp only at hSw)
    go_simp
    all_goals (with_reducible rfl)
  try simp only [Act.put, List.setIfInBounds_toArray, List.set_cons_zero, List.set_cons_succ]
  refine wpAnyH_take (i := 1) (oi := ⟨some 7, _, _, _, _, _⟩) (v := ?_) rfl (by kernel_rfl) (by kernel_rfl) (by kernel_rfl) (fun _ _ _ h => h) (Or.inl ⟨by rfl, ?_⟩) (by assumption) ?_
  rotate_left
  · intro w hSw
    (try dsimp only at hSw)
    go_simp
    all_goals (with_reducible rfl)
  try simp only [Act.put, List.setIfInBounds_toArray, List.set_cons_zero, List.set_cons_succ]
  refine wpAnyH_take (i := 2) (oi := ⟨some 8, _, _, _, _, _⟩) (v := ?_) rfl (by kernel_rfl) (by kernel_rfl) (by kernel_rfl) (fun _ _ _ h => h) (Or.inl ⟨by rfl, ?_⟩) (by assumption) ?_
  rotate_left
  · intro w hSw
    (try dsimp only at hSw)
    go_simp
    all_goals (with_reducible rfl)
  try simp only [Act.put, List.setIfInBounds_toArray, List.set_cons_zero, List.set_cons_succ]
  refine wpAnyH_take (i := 3) (oi := ⟨some 9, _, _, _, _, _⟩) (v := ?_) rfl (by kernel_rfl) (by kernel_rfl) (by kernel_rfl) (fun _ _ _ h => h) (Or.inl ⟨by rfl, ?_⟩) (by assumption) ?_
  rotate_left
  · intro w hSw
    (try dsimp only at hSw)
    obtain ⟨z1, z3, z4, z5⟩ := hSw
    go_simp
    all_goals (with_reducible rfl)
  try simp only [Act.put, List.setIfInBounds_toArray, List.set_cons_zero, List.set_cons_succ]
  refine wpAnyH_take (i := 4) (oi := ⟨some 10, _, _, _, _, _⟩) (v := ?_) rfl (by kernel_rfl) (by kernel_rfl) (by kernel_rfl) (fun _ _ _ h => h) (Or.inl ⟨by rfl, ?_⟩) (by assumption) ?_
  rotate_left
  · intro w hSw
    (try dsimp only at hSw)
    go_simp
    all_goals (with_reducible rfl)
  try simp only [Act.put, List.setIfInBounds_toArray, List.set_cons_zero, List.set_cons_succ]
  refine wpAnyH_take (i := 6) (oi := ⟨some 12, _, _, _, _, _⟩) (v := ?_) rfl (by kernel_rfl) (by kernel_rfl) (by kernel_rfl) (fun _ _ _ h => h) (Or.inl ⟨by rfl, ?_⟩) (by assumption) ?_
  rotate_left
  · intro w hSw
    (try dsimp only at hSw)
    go_simp
    all_goals (with_reducible rfl)
  try simp only [Act.put, List.setIfInBounds_toArray, List.set_cons_zero, List.set_cons_succ]
  refine wpAnyH_take (i := 7) (oi := ⟨some 13, _, _, _, _, _⟩) (v := ?_) rfl (by kernel_rfl) (by kernel_rfl) (by kernel_rfl) (fun _ _ _ h => h) (Or.inl ⟨by rfl, ?_⟩) (by assumption) ?_
  rotate_left
  · intro w hSw
    (try dsimp only at hSw)
    go_simp
    all_goals (with_reducible rfl)
  try simp only [Act.put, List.setIfInBounds_toArray, List.set_cons_zero, List.set_cons_succ]
  refine wpAnyH_take (i := 8) (oi := ⟨some 14, _, _, _, _, _⟩) (v := ?_) rfl (by kernel_rfl) (by kernel_rfl) (by kernel_rfl) (fun _ _ _ h => h) (Or.inl ⟨by rfl, ?_⟩) (by assumption) ?_
  rotate_left
  · intro w hSw
    (try dsimp only at hSw)
    go_simp
    all_goals (with_reducible rfl)
  try simp only [Act.put, List.setIfInBounds_toArray, List.set_cons_zero, List.set_cons_succ]
  refine wpAnyH_take (i := 9) (oi := ⟨some 15, _, _, _, _, _⟩) (v := ?_) rfl (by kernel_rfl) (by kernel_rfl) (by kernel_rfl) (fun _ _ _ h => h) (Or.inl ⟨by rfl, ?_⟩) (by assumption) ?_
  rotate_left
  · intro w hSw
    (try dsimp only at hSw)
    obtain ⟨z1, z3, z4, z5⟩ := hSw
    go_simp
    all_goals (with_reducible rfl)
  try simp only [Act.put, List.setIfInBounds_toArray, List.set_cons_zero, List.set_cons_succ]
  refine wpAnyH_take (i := 10) (oi := ⟨some 16, _, _, _, _, _⟩) (v := ?_) rfl (by kernel_rfl) (by kernel_rfl) (by kernel_rfl) (fun _ _ _ h => h) (Or.inl ⟨by rfl, ?_⟩) (by assumption) ?_
  rotate_left
  · intro w hSw
    (try dsimp only at hSw)
    go_simp
    all_goals (with_reducible rfl)
  try simp only [Act.put, List.setIfInBounds_toArray, List.set_cons_zero, List.set_cons_succ]
  refine wpAnyH_take (i := 11) (oi := ⟨some 17, _, _, _, _, _⟩) (v := ?_) rfl (by kernel_rfl) (by kernel_rfl) (by kernel_rfl) (fun _ _ _ h => h) (Or.inl ⟨by rfl, ?_⟩) (by assumption) ?_
  rotate_left
  · intro w hSw
    (try dsimp only at hSw)
    go_simp
    all_goals (with_reducible rfl)
  try simp only [Act.put, List.setIfInBounds_toArray, List.set_cons_zero, List.set_cons_succ]
  refine wpAnyH_take (i := 12) (oi := ⟨some 18, _, _, _, _, _⟩) (v := ?_) rfl (by kernel_rfl) (by kernel_rfl) (by kernel_rfl) (fun _ _ _ h => h) (Or.inl ⟨by rfl, ?_⟩) (by assumption) ?_
  rotate_left
  · intro w hSw
    (try dsimp only at hSw)
    go_simp
    all_goals (with_reducible rfl)
  try simp only [Act.put, List.setIfInBounds_toArray, List.set_cons_zero, List.set_cons_succ]
  refine wpAnyH_take (i := 15) (oi := ⟨some 21, _, _, _, _, _⟩) (v := ?_) rfl (by kernel_rfl) (by kernel_rfl) (by kernel_rfl) (fun _ _ _ h => h) (Or.inl ⟨by rfl, ?_⟩) (by assumption) ?_
  rotate_left
  · intro w hSw
    (try dsimp only at hSw)
    obtain ⟨z1, z3, z4, z5⟩ := hSw
    go_simp
    all_goals (with_reducible rfl)
  try simp only [Act.put, List.setIfInBounds_toArray, List.set_cons_zero, List.set_cons_succ]
  refine wpAnyH_ready (rs := [5, 13, 16]) (by kernel_rfl) (by simp) ?_
  refine AllReadyH.cons (o := ⟨some 11, _, _, _, _, _⟩) rfl (fun K hK => ?_) ?_
  · go_simp
    have b5 : Below wd.heap.size wd (wd.alloc (.cells #[] 120)) := (Below.refl _ _).alloc (Nat.le_refl _) _
    have E5 : (wd.alloc (.cells #[] 120)).ownsRow B 120 3 (.slice (some ⟨wd.heap.size, 0, none⟩) 0 0) ([] : List (Dop × Value)).length (([] : List (Dop × Value)).flatMap opC) := World.ownsRow_lit wd #[] 0 (Nat.le_trans HB0.out Bwd.size) (by decide) (by simp)
    have Bw5 := Bwd.trans (b5.mono Bwd.size)
    have E5l := row_lt E5 (g := wd.heap.size) rfl
    obtain ⟨x5, hx5⟩ : ∃ x, wd.heap.size = x := ⟨_, rfl⟩
    have hx5w : wd.heap.size ≤ x5 := hx5 ▸ Bwd.size
    have hc5 : x5 = wd.heap.size := hx5.symm
    rw [hx5] at E5 E5l ⊢
    generalize wd.alloc (.cells #[] 120) = w5 at E5 E5l Bw5 b5 ⊢
    have HL5 := Lib.hid E5l
    have HC5 := Lib.hid hc5
    clear hx5 E5l hc5
    refine hK.out _ _ (HS.out _ Bw5) (fun _ => ?_)
    clear hK K
    try simp only [Act.put, List.setIfInBounds_toArray, List.set_cons_zero, List.set_cons_succ]
    refine wpAnyH_ready (rs := [13, 16]) (by kernel_rfl) (by simp) ?_
    refine AllReadyH.cons (o := ⟨some 19, _, _, _, _, _⟩) rfl (fun K hK => ?_) ?_
    · have y13 := HZ2.out _ Bw5
      go_simp
      refine hK.out _ _ (HS.out _ Bw5) (fun _ => ?_)
      clear hK K
      try simp only [Act.put, List.setIfInBounds_toArray, List.set_cons_zero, List.set_cons_succ]
      refine wpAnyH_ready (rs := [14, 16]) (by kernel_rfl) (by simp) ?_
      refine AllReadyH.cons (o := ⟨some 20, _, _, _, _, _⟩) rfl (fun K hK => ?_) ?_
      · rw [if_pos (by rfl)]
        refine wp_append_gen (f := opC) (n := 3) _ _ 114 120 (by rfl) _ 40 Try.underlying114 info_rop rfl (by decide) (by decide) opC_length B _ _ ([] : List (Dop × Value)) xops (by rfl) E5 (by rfl) (HSRC.out w5 Bw5) HONE.out.1 (by have := HLEN.out; simp only [List.length_nil]; omega) (Nat.le_trans HB0.out Bw5.size) ?_
        intro v14 w14 O14 G14 M14
        have Bw14 := Bw5.grown G14 Bw5.size (fun i hi => (Option.some.inj hi) ▸ hx5w)
        have hge14 := moved_ge M14 (b := wd.heap.size) (fun i hi => (Option.some.inj hi) ▸ hx5w) Bw5.size
        rw [List.nil_append] at O14
        obtain ⟨a14, n14, c14, e14⟩ := slice_any O14
        subst e14
        refine hK.out _ _ (HS.out _ Bw14) (fun _ => ?_)
        clear hK K
        try simp only [Act.put, List.setIfInBounds_toArray, List.set_cons_zero, List.set_cons_succ]
        refine wpAnyH_ready (rs := [16]) (by kernel_rfl) (by simp) ?_
        refine AllReadyH.cons (o := ⟨some 22, _, _, _, _, _⟩) rfl (fun K hK => ?_) AllReadyH.nil
        rw [if_pos (by rfl)]
        refine wp_slice_one 114 120 _ (by rfl) #[q0, q1, q2] (by rfl) Try.underlying114 zero_rop (by decide) (by decide) (by rfl) ?_
        have b16 : Below w14.heap.size w14 (w14.alloc (.cells #[q0, q1, q2] 120)) := (Below.refl _ _).alloc (Nat.le_refl _) _
        have W16 := HQW.out w14
        have Bw16 := Bw14.trans (b16.mono Bw14.size)
        have hne14 : ∀ i, (Value.slice a14 n14 c14).ownBlock = some i → w14.heap.size ≠ i := fun i hi => by have := row_lt O14 hi; omega
        replace O14 := row_low O14 b16
        obtain ⟨g16, hg16⟩ : ∃ x, w14.heap.size = x := ⟨_, rfl⟩
        have HG16 := Lib.hid hg16
        rw [hg16] at W16 hne14 ⊢
        generalize w14.alloc (.cells #[q0, q1, q2] 120) = w16 at W16 Bw16 b16 O14 ⊢
        have HL16 := Lib.hid W16.lt
        clear hg16
        refine hK.out _ _ (HS.out _ Bw16) (fun _ => ?_)
        clear hK K
        try simp only [Act.put, List.setIfInBounds_toArray, List.set_cons_zero, List.set_cons_succ]
        refine wpAnyH_ready (rs := [17]) (by kernel_rfl) (by simp) ?_
        refine AllReadyH.cons (o := ⟨some 23, _, _, _, _, _⟩) rfl (fun K hK => ?_) AllReadyH.nil
        rw [if_pos (by rfl)]
        refine wp_append_gen (f := opC) (n := 3) _ _ 114 120 (by rfl) _ 40 Try.underlying114 info_rop rfl (by decide) (by decide) opC_length B _ _ xops [p] (by rfl) O14 (by rfl) (src_whole W16) HONE.out.2 (by have := HLEN.out; simp only [List.length_cons, List.length_nil]; omega) (Nat.le_trans HB0.out Bw16.size) ?_
        intro v17 w17 O17 G17 M17
        have Bw17 := Bw16.grown G17 Bw16.size hge14
        have hge17 := moved_ge M17 hge14 Bw16.size
        obtain ⟨a17, n17, c17, e17⟩ := slice_any O17
        have HF := Lib.hid (HFIN.out _ _ Bw17 O17 hge17)
        have y1 := HF.out.1
        have y2 := HF.out.2.1
        subst e17
        refine hK.out _ _ (HS.out _ Bw17) (fun _ => ?_)
        clear hK K
        try simp only [Act.put, List.setIfInBounds_toArray, List.set_cons_zero, List.set_cons_succ]
        refine wpAnyH_take (i := 18) (oi := ⟨some 24, _, _, _, _, _⟩) (v := ?_) rfl (by kernel_rfl) (by kernel_rfl) (by kernel_rfl) (fun _ _ _ h => h) (Or.inl ⟨by rfl, ?_⟩) (by assumption) ?_
        rotate_left
        · intro w hSw
          (try dsimp only at hSw)
          go_simp
          all_goals (with_reducible rfl)
        try simp only [Act.put, List.setIfInBounds_toArray, List.set_cons_zero, List.set_cons_succ]
        refine wpAnyH_take (i := 19) (oi := ⟨some 25, _, _, _, _, _⟩) (v := ?_) rfl (by kernel_rfl) (by kernel_rfl) (by kernel_rfl) (fun _ _ _ h => h) (Or.inl ⟨by rfl, ?_⟩) (by assumption) ?_
        rotate_left
        · intro w hSw
          (try dsimp only at hSw)
          go_simp
          all_goals (with_reducible rfl)
        try simp only [Act.put, List.setIfInBounds_toArray, List.set_cons_zero, List.set_cons_succ]
        refine wpAnyH_ready (rs := [20]) (by kernel_rfl) (by simp) ?_
        refine AllReadyH.cons (o := ⟨none, _, _, _, _, _⟩) rfl (fun K hK => ?_) AllReadyH.nil
        go_simp
        refine hK.out _ _ (HF.out.2.2.2.2) (fun _ => ?_)
        clear hK K
        try simp only [Act.put]
        refine wpAnyH_done (by kernel_rfl) ?_ _
        refine NoPanic.normal ?_
        go_end0
        exact ⟨rfl, _, _, HF.out.2.2.1, by simp, HF.out.2.2.2.1⟩
      refine AllReadyH.cons (o := ⟨some 22, _, _, _, _, _⟩) rfl (fun K hK => ?_) AllReadyH.nil
      rw [if_pos (by rfl)]
      refine wp_slice_one 114 120 _ (by rfl) #[q0, q1, q2] (by rfl) Try.underlying114 zero_rop (by decide) (by decide) (by rfl) ?_
      have b16 : Below w5.heap.size w5 (w5.alloc (.cells #[q0, q1, q2] 120)) := (Below.refl _ _).alloc (Nat.le_refl _) _
      have W16 := HQW.out w5
      have Bw16 := Bw5.trans (b16.mono Bw5.size)
      replace E5 := row_low E5 b16
      have hne : w5.heap.size ≠ x5 := by have := HL5.out; omega
      obtain ⟨g16, hg16⟩ : ∃ x, w5.heap.size = x := ⟨_, rfl⟩
      have HG16 := Lib.hid hg16
      rw [hg16] at W16 hne ⊢
      generalize w5.alloc (.cells #[q0, q1, q2] 120) = w16 at W16 Bw16 b16 E5 ⊢
      have HL16 := Lib.hid W16.lt
      clear hg16
      refine hK.out _ _ (HS.out _ Bw16) (fun _ => ?_)
      clear hK K
      try simp only [Act.put, List.setIfInBounds_toArray, List.set_cons_zero, List.set_cons_succ]
      refine wpAnyH_ready (rs := [14]) (by kernel_rfl) (by simp) ?_
      refine AllReadyH.cons (o := ⟨some 20, _, _, _, _, _⟩) rfl (fun K hK => ?_) AllReadyH.nil
      rw [if_pos (by rfl)]
      refine wp_append_gen (f := opC) (n := 3) _ _ 114 120 (by rfl) _ 40 Try.underlying114 info_rop rfl (by decide) (by decide) opC_length B _ _ ([] : List (Dop × Value)) xops (by rfl) E5 (by rfl) (HSRC.out w16 Bw16) HONE.out.1 (by have := HLEN.out; simp only [List.length_nil]; omega) (Nat.le_trans HB0.out Bw16.size) ?_
      intro v14 w14 O14 G14 M14
      have Bw14 := Bw16.grown G14 Bw16.size (fun i hi => (Option.some.inj hi) ▸ hx5w)
      have hge14 := moved_ge M14 (b := wd.heap.size) (fun i hi => (Option.some.inj hi) ▸ hx5w) Bw16.size
      rw [List.nil_append] at O14
      replace W16 := W16.only (Only.of_grown G14) (fun e => hne (Option.some.inj e).symm)
      have hne14 := moved_ne M14 (b := g16) (fun i hi => (Option.some.inj hi) ▸ hne) HL16.out
      obtain ⟨a14, n14, c14, e14⟩ := slice_any O14
      subst e14
      refine hK.out _ _ (HS.out _ Bw14) (fun _ => ?_)
      clear hK K
      try simp only [Act.put, List.setIfInBounds_toArray, List.set_cons_zero, List.set_cons_succ]
      refine wpAnyH_ready (rs := [17]) (by kernel_rfl) (by simp) ?_
      refine AllReadyH.cons (o := ⟨some 23, _, _, _, _, _⟩) rfl (fun K hK => ?_) AllReadyH.nil
      rw [if_pos (by rfl)]
      refine wp_append_gen (f := opC) (n := 3) _ _ 114 120 (by rfl) _ 40 Try.underlying114 info_rop rfl (by decide) (by decide) opC_length B _ _ xops [p] (by rfl) O14 (by rfl) (src_whole W16) HONE.out.2 (by have := HLEN.out; simp only [List.length_cons, List.length_nil]; omega) (Nat.le_trans HB0.out Bw14.size) ?_
      intro v17 w17 O17 G17 M17
      have Bw17 := Bw14.grown G17 Bw14.size hge14
      have hge17 := moved_ge M17 hge14 Bw14.size
      obtain ⟨a17, n17, c17, e17⟩ := slice_any O17
      have HF := Lib.hid (HFIN.out _ _ Bw17 O17 hge17)
      have y1 := HF.out.1
      have y2 := HF.out.2.1
      subst e17
      refine hK.out _ _ (HS.out _ Bw17) (fun _ => ?_)
      clear hK K
      try simp only [Act.put, List.setIfInBounds_toArray, List.set_cons_zero, List.set_cons_succ]
      refine wpAnyH_take (i := 18) (oi := ⟨some 24, _, _, _, _, _⟩) (v := ?_) rfl (by kernel_rfl) (by kernel_rfl) (by kernel_rfl) (fun _ _ _ h => h) (Or.inl ⟨by rfl, ?_⟩) (by assumption) ?_
      rotate_left
      · intro w hSw
        (try dsimp only at hSw)
        go_simp
        all_goals (with_reducible rfl)
      try simp only [Act.put, List.setIfInBounds_toArray, List.set_cons_zero, List.set_cons_succ]
      refine wpAnyH_take (i := 19) (oi := ⟨some 25, _, _, _, _, _⟩) (v := ?_) rfl (by kernel_rfl) (by kernel_rfl) (by kernel_rfl) (fun _ _ _ h => h) (Or.inl ⟨by rfl, ?_⟩) (by assumption) ?_
      rotate_left
      · intro w hSw
        (try dsimp only at hSw)
        go_simp
        all_goals (with_reducible rfl)
      try simp only [Act.put, List.setIfInBounds_toArray, List.set_cons_zero, List.set_cons_succ]
      refine wpAnyH_ready (rs := [20]) (by kernel_rfl) (by simp) ?_
      refine AllReadyH.cons (o := ⟨none, _, _, _, _, _⟩) rfl (fun K hK => ?_) AllReadyH.nil
      go_simp
      refine hK.out _ _ (HF.out.2.2.2.2) (fun _ => ?_)
      clear hK K
      try simp only [Act.put]
      refine wpAnyH_done (by kernel_rfl) ?_ _
      refine NoPanic.normal ?_
      go_end0
      exact ⟨rfl, _, _, HF.out.2.2.1, by simp, HF.out.2.2.2.1⟩
    refine AllReadyH.cons (o := ⟨some 22, _, _, _, _, _⟩) rfl (fun K hK => ?_) AllReadyH.nil
    rw [if_pos (by rfl)]
    refine wp_slice_one 114 120 _ (by rfl) #[q0, q1, q2] (by rfl) Try.underlying114 zero_rop (by decide) (by decide) (by rfl) ?_
    have b16 : Below w5.heap.size w5 (w5.alloc (.cells #[q0, q1, q2] 120)) := (Below.refl _ _).alloc (Nat.le_refl _) _
    have W16 := HQW.out w5
    have Bw16 := Bw5.trans (b16.mono Bw5.size)
    replace E5 := row_low E5 b16
    have hne : w5.heap.size ≠ x5 := by have := HL5.out; omega
    obtain ⟨g16, hg16⟩ : ∃ x, w5.heap.size = x := ⟨_, rfl⟩
    have HG16 := Lib.hid hg16
    rw [hg16] at W16 hne ⊢
    generalize w5.alloc (.cells #[q0, q1, q2] 120) = w16 at W16 Bw16 b16 E5 ⊢
    have HL16 := Lib.hid W16.lt
    clear hg16
    refine hK.out _ _ (HS.out _ Bw16) (fun _ => ?_)
    clear hK K
    try simp only [Act.put, List.setIfInBounds_toArray, List.set_cons_zero, List.set_cons_succ]
    refine wpAnyH_ready (rs := [13]) (by kernel_rfl) (by simp) ?_
    refine AllReadyH.cons (o := ⟨some 19, _, _, _, _, _⟩) rfl (fun K hK => ?_) AllReadyH.nil
    have y13 := HZ2.out _ Bw16
    go_simp
    refine hK.out _ _ (HS.out _ Bw16) (fun _ => ?_)
    clear hK K
    try simp only [Act.put, List.setIfInBounds_toArray, List.set_cons_zero, List.set_cons_succ]
    refine wpAnyH_ready (rs := [14]) (by kernel_rfl) (by simp) ?_
    refine AllReadyH.cons (o := ⟨some 20, _, _, _, _, _⟩) rfl (fun K hK => ?_) AllReadyH.nil
    rw [if_pos (by rfl)]
    refine wp_append_gen (f := opC) (n := 3) _ _ 114 120 (by rfl) _ 40 Try.underlying114 info_rop rfl (by decide) (by decide) opC_length B _ _ ([] : List (Dop × Value)) xops (by rfl) E5 (by rfl) (HSRC.out w16 Bw16) HONE.out.1 (by have := HLEN.out; simp only [List.length_nil]; omega) (Nat.le_trans HB0.out Bw16.size) ?_
    intro v14 w14 O14 G14 M14
    have Bw14 := Bw16.grown G14 Bw16.size (fun i hi => (Option.some.inj hi) ▸ hx5w)
    have hge14 := moved_ge M14 (b := wd.heap.size) (fun i hi => (Option.some.inj hi) ▸ hx5w) Bw16.size
    rw [List.nil_append] at O14
    replace W16 := W16.only (Only.of_grown G14) (fun e => hne (Option.some.inj e).symm)
    have hne14 := moved_ne M14 (b := g16) (fun i hi => (Option.some.inj hi) ▸ hne) HL16.out
    obtain ⟨a14, n14, c14, e14⟩ := slice_any O14
    subst e14
    refine hK.out _ _ (HS.out _ Bw14) (fun _ => ?_)
    clear hK K
    try simp only [Act.put, List.setIfInBounds_toArray, List.set_cons_zero, List.set_cons_succ]
    refine wpAnyH_ready (rs := [17]) (by kernel_rfl) (by simp) ?_
    refine AllReadyH.cons (o := ⟨some 23, _, _, _, _, _⟩) rfl (fun K hK => ?_) AllReadyH.nil
    rw [if_pos (by rfl)]
    refine wp_append_gen (f := opC) (n := 3) _ _ 114 120 (by rfl) _ 40 Try.underlying114 info_rop rfl (by decide) (by decide) opC_length B _ _ xops [p] (by rfl) O14 (by rfl) (src_whole W16) HONE.out.2 (by have := HLEN.out; simp only [List.length_cons, List.length_nil]; omega) (Nat.le_trans HB0.out Bw14.size) ?_
    intro v17 w17 O17 G17 M17
    have Bw17 := Bw14.grown G17 Bw14.size hge14
    have hge17 := moved_ge M17 hge14 Bw14.size
    obtain ⟨a17, n17, c17, e17⟩ := slice_any O17
    have HF := Lib.hid (HFIN.out _ _ Bw17 O17 hge17)
    have y1 := HF.out.1
    have y2 := HF.out.2.1
    subst e17
    refine hK.out _ _ (HS.out _ Bw17) (fun _ => ?_)
    clear hK K
    try simp only [Act.put, List.setIfInBounds_toArray, List.set_cons_zero, List.set_cons_succ]
    refine wpAnyH_take (i := 18) (oi := ⟨some 24, _, _, _, _, _⟩) (v := ?_) rfl (by kernel_rfl) (by kernel_rfl) (by kernel_rfl) (fun _ _ _ h => h) (Or.inl ⟨by rfl, ?_⟩) (by assumption) ?_
    rotate_left
    · intro w hSw
      (try dsimp only at hSw)
      go_simp
      all_goals (with_reducible rfl)
    try simp only [Act.put, List.setIfInBounds_toArray, List.set_cons_zero, List.set_cons_succ]
    refine wpAnyH_take (i := 19) (oi := ⟨some 25, _, _, _, _, _⟩) (v := ?_) rfl (by kernel_rfl) (by kernel_rfl) (by kernel_rfl) (fun _ _ _ h => h) (Or.inl ⟨by rfl, ?_⟩) (by assumption) ?_
    rotate_left
    · intro w hSw
      (try dsimp only at hSw)
      go_simp
      all_goals (with_reducible rfl)
    try simp only [Act.put, List.setIfInBounds_toArray, List.set_cons_zero, List.set_cons_succ]
    refine wpAnyH_ready (rs := [20]) (by kernel_rfl) (by simp) ?_
    refine AllReadyH.cons (o := ⟨none, _, _, _, _, _⟩) rfl (fun K hK => ?_) AllReadyH.nil
    go_simp
    refine hK.out _ _ (HF.out.2.2.2.2) (fun _ => ?_)
    clear hK K
    try simp only [Act.put]
    refine wpAnyH_done (by kernel_rfl) ?_ _
    refine NoPanic.normal ?_
    go_end0
    exact ⟨rfl, _, _, HF.out.2.2.1, by simp, HF.out.2.2.2.1⟩
  refine AllReadyH.cons (o := ⟨some 19, _, _, _, _, _⟩) rfl (fun K hK => ?_) ?_
  · have y13 := HZ2.out _ Bwd
    go_simp
    refine hK.out _ _ (HS.out _ Bwd) (fun _ => ?_)
    clear hK K
    try simp only [Act.put, List.setIfInBounds_toArray, List.set_cons_zero, List.set_cons_succ]
    refine wpAnyH_ready (rs := [5, 16]) (by kernel_rfl) (by simp) ?_
    refine AllReadyH.cons (o := ⟨some 11, _, _, _, _, _⟩) rfl (fun K hK => ?_) ?_
    · go_simp
      have b5 : Below wd.heap.size wd (wd.alloc (.cells #[] 120)) := (Below.refl _ _).alloc (Nat.le_refl _) _
      have E5 : (wd.alloc (.cells #[] 120)).ownsRow B 120 3 (.slice (some ⟨wd.heap.size, 0, none⟩) 0 0) ([] : List (Dop × Value)).length (([] : List (Dop × Value)).flatMap opC) := World.ownsRow_lit wd #[] 0 (Nat.le_trans HB0.out Bwd.size) (by decide) (by simp)
      have Bw5 := Bwd.trans (b5.mono Bwd.size)
      have E5l := row_lt E5 (g := wd.heap.size) rfl
      obtain ⟨x5, hx5⟩ : ∃ x, wd.heap.size = x := ⟨_, rfl⟩
      have hx5w : wd.heap.size ≤ x5 := hx5 ▸ Bwd.size
      have hc5 : x5 = wd.heap.size := hx5.symm
      rw [hx5] at E5 E5l ⊢
      generalize wd.alloc (.cells #[] 120) = w5 at E5 E5l Bw5 b5 ⊢
      have HL5 := Lib.hid E5l
      have HC5 := Lib.hid hc5
      clear hx5 E5l hc5
      refine hK.out _ _ (HS.out _ Bw5) (fun _ => ?_)
      clear hK K
      try simp only [Act.put, List.setIfInBounds_toArray, List.set_cons_zero, List.set_cons_succ]
      refine wpAnyH_ready (rs := [14, 16]) (by kernel_rfl) (by simp) ?_
      refine AllReadyH.cons (o := ⟨some 20, _, _, _, _, _⟩) rfl (fun K hK => ?_) ?_
      · rw [if_pos (by rfl)]
        refine wp_append_gen (f := opC) (n := 3) _ _ 114 120 (by rfl) _ 40 Try.underlying114 info_rop rfl (by decide) (by decide) opC_length B _ _ ([] : List (Dop × Value)) xops (by rfl) E5 (by rfl) (HSRC.out w5 Bw5) HONE.out.1 (by have := HLEN.out; simp only [List.length_nil]; omega) (Nat.le_trans HB0.out Bw5.size) ?_
        intro v14 w14 O14 G14 M14
        have Bw14 := Bw5.grown G14 Bw5.size (fun i hi => (Option.some.inj hi) ▸ hx5w)
        have hge14 := moved_ge M14 (b := wd.heap.size) (fun i hi => (Option.some.inj hi) ▸ hx5w) Bw5.size
        rw [List.nil_append] at O14
        obtain ⟨a14, n14, c14, e14⟩ := slice_any O14
        subst e14
        refine hK.out _ _ (HS.out _ Bw14) (fun _ => ?_)
        clear hK K
        try simp only [Act.put, List.setIfInBounds_toArray, List.set_cons_zero, List.set_cons_succ]
        refine wpAnyH_ready (rs := [16]) (by kernel_rfl) (by simp) ?_
        refine AllReadyH.cons (o := ⟨some 22, _, _, _, _, _⟩) rfl (fun K hK => ?_) AllReadyH.nil
        rw [if_pos (by rfl)]
        refine wp_slice_one 114 120 _ (by rfl) #[q0, q1, q2] (by rfl) Try.underlying114 zero_rop (by decide) (by decide) (by rfl) ?_
        have b16 : Below w14.heap.size w14 (w14.alloc (.cells #[q0, q1, q2] 120)) := (Below.refl _ _).alloc (Nat.le_refl _) _
        have W16 := HQW.out w14
        have Bw16 := Bw14.trans (b16.mono Bw14.size)
        have hne14 : ∀ i, (Value.slice a14 n14 c14).ownBlock = some i → w14.heap.size ≠ i := fun i hi => by have := row_lt O14 hi; omega
        replace O14 := row_low O14 b16
        obtain ⟨g16, hg16⟩ : ∃ x, w14.heap.size = x := ⟨_, rfl⟩
        have HG16 := Lib.hid hg16
        rw [hg16] at W16 hne14 ⊢
        generalize w14.alloc (.cells #[q0, q1, q2] 120) = w16 at W16 Bw16 b16 O14 ⊢
        have HL16 := Lib.hid W16.lt
        clear hg16
        refine hK.out _ _ (HS.out _ Bw16) (fun _ => ?_)
        clear hK K
        try simp only [Act.put, List.setIfInBounds_toArray, List.set_cons_zero, List.set_cons_succ]
        refine wpAnyH_ready (rs := [17]) (by kernel_rfl) (by simp) ?_
        refine AllReadyH.cons (o := ⟨some 23, _, _, _, _, _⟩) rfl (fun K hK => ?_) AllReadyH.nil
        rw [if_pos (by rfl)]
        refine wp_append_gen (f := opC) (n := 3) _ _ 114 120 (by rfl) _ 40 Try.underlying114 info_rop rfl (by decide) (by decide) opC_length B _ _ xops [p] (by rfl) O14 (by rfl) (src_whole W16) HONE.out.2 (by have := HLEN.out; simp only [List.length_cons, List.length_nil]; omega) (Nat.le_trans HB0.out Bw16.size) ?_
        intro v17 w17 O17 G17 M17
        have Bw17 := Bw16.grown G17 Bw16.size hge14
        have hge17 := moved_ge M17 hge14 Bw16.size
        obtain ⟨a17, n17, c17, e17⟩ := slice_any O17
        have HF := Lib.hid (HFIN.out _ _ Bw17 O17 hge17)
        have y1 := HF.out.1
        have y2 := HF.out.2.1
        subst e17
        refine hK.out _ _ (HS.out _ Bw17) (fun _ => ?_)
        clear hK K
        try simp only [Act.put, List.setIfInBounds_toArray, List.set_cons_zero, List.set_cons_succ]
        refine wpAnyH_take (i := 18) (oi := ⟨some 24, _, _, _, _, _⟩) (v := ?_) rfl (by kernel_rfl) (by kernel_rfl) (by kernel_rfl) (fun _ _ _ h => h) (Or.inl ⟨by rfl, ?_⟩) (by assumption) ?_
        rotate_left
        · intro w hSw
          (try dsimp only at hSw)
          go_simp
          all_goals (with_reducible rfl)
        try simp only [Act.put, List.setIfInBounds_toArray, List.set_cons_zero, List.set_cons_succ]
        refine wpAnyH_take (i := 19) (oi := ⟨some 25, _, _, _, _, _⟩) (v := ?_) rfl (by kernel_rfl) (by kernel_rfl) (by kernel_rfl) (fun _ _ _ h => h) (Or.inl ⟨by rfl, ?_⟩) (by assumption) ?_
        rotate_left
        · intro w hSw
          (try dsimp only at hSw)
          go_simp
          all_goals (with_reducible rfl)
        try simp only [Act.put, List.setIfInBounds_toArray, List.set_cons_zero, List.set_cons_succ]
        refine wpAnyH_ready (rs := [20]) (by kernel_rfl) (by simp) ?_
        refine AllReadyH.cons (o := ⟨none, _, _, _, _, _⟩) rfl (fun K hK => ?_) AllReadyH.nil
        go_simp
        refine hK.out _ _ (HF.out.2.2.2.2) (fun _ => ?_)
        clear hK K
        try simp only [Act.put]
        refine wpAnyH_done (by kernel_rfl) ?_ _
        refine NoPanic.normal ?_
        go_end0
        exact ⟨rfl, _, _, HF.out.2.2.1, by simp, HF.out.2.2.2.1⟩
      refine AllReadyH.cons (o := ⟨some 22, _, _, _, _, _⟩) rfl (fun K hK => ?_) AllReadyH.nil
      rw [if_pos (by rfl)]
      refine wp_slice_one 114 120 _ (by rfl) #[q0, q1, q2] (by rfl) Try.underlying114 zero_rop (by decide) (by decide) (by rfl) ?_
      have b16 : Below w5.heap.size w5 (w5.alloc (.cells #[q0, q1, q2] 120)) := (Below.refl _ _).alloc (Nat.le_refl _) _
      have W16 := HQW.out w5
      have Bw16 := Bw5.trans (b16.mono Bw5.size)
      replace E5 := row_low E5 b16
      have hne : w5.heap.size ≠ x5 := by have := HL5.out; omega
      obtain ⟨g16, hg16⟩ : ∃ x, w5.heap.size = x := ⟨_, rfl⟩
      have HG16 := Lib.hid hg16
      rw [hg16] at W16 hne ⊢
      generalize w5.alloc (.cells #[q0, q1, q2] 120) = w16 at W16 Bw16 b16 E5 ⊢
      have HL16 := Lib.hid W16.lt
      clear hg16
      refine hK.out _ _ (HS.out _ Bw16) (fun _ => ?_)
      clear hK K
      try simp only [Act.put, List.setIfInBounds_toArray, List.set_cons_zero, List.set_cons_succ]
      refine wpAnyH_ready (rs := [14]) (by kernel_rfl) (by simp) ?_
      refine AllReadyH.cons (o := ⟨some 20, _, _, _, _, _⟩) rfl (fun K hK => ?_) AllReadyH.nil
      rw [if_pos (by rfl)]
      refine wp_append_gen (f := opC) (n := 3) _ _ 114 120 (by rfl) _ 40 Try.underlying114 info_rop rfl (by decide) (by decide) opC_length B _ _ ([] : List (Dop × Value)) xops (by rfl) E5 (by rfl) (HSRC.out w16 Bw16) HONE.out.1 (by have := HLEN.out; simp only [List.length_nil]; omega) (Nat.le_trans HB0.out Bw16.size) ?_
      intro v14 w14 O14 G14 M14
      have Bw14 := Bw16.grown G14 Bw16.size (fun i hi => (Option.some.inj hi) ▸ hx5w)
      have hge14 := moved_ge M14 (b := wd.heap.size) (fun i hi => (Option.some.inj hi) ▸ hx5w) Bw16.size
      rw [List.nil_append] at O14
      replace W16 := W16.only (Only.of_grown G14) (fun e => hne (Option.some.inj e).symm)
      have hne14 := moved_ne M14 (b := g16) (fun i hi => (Option.some.inj hi) ▸ hne) HL16.out
      obtain ⟨a14, n14, c14, e14⟩ := slice_any O14
      subst e14
      refine hK.out _ _ (HS.out _ Bw14) (fun _ => ?_)
      clear hK K
      try simp only [Act.put, List.setIfInBounds_toArray, List.set_cons_zero, List.set_cons_succ]
      refine wpAnyH_ready (rs := [17]) (by kernel_rfl) (by simp) ?_
      refine AllReadyH.cons (o := ⟨some 23, _, _, _, _, _⟩) rfl (fun K hK => ?_) AllReadyH.nil
      rw [if_pos (by rfl)]
      refine wp_append_gen (f := opC) (n := 3) _ _ 114 120 (by rfl) _ 40 Try.underlying114 info_rop rfl (by decide) (by decide) opC_length B _ _ xops [p] (by rfl) O14 (by rfl) (src_whole W16) HONE.out.2 (by have := HLEN.out; simp only [List.length_cons, List.length_nil]; omega) (Nat.le_trans HB0.out Bw14.size) ?_
      intro v17 w17 O17 G17 M17
      have Bw17 := Bw14.grown G17 Bw14.size hge14
      have hge17 := moved_ge M17 hge14 Bw14.size
      obtain ⟨a17, n17, c17, e17⟩ := slice_any O17
      have HF := Lib.hid (HFIN.out _ _ Bw17 O17 hge17)
      have y1 := HF.out.1
      have y2 := HF.out.2.1
      subst e17
      refine hK.out _ _ (HS.out _ Bw17) (fun _ => ?_)
      clear hK K
      try simp only [Act.put, List.setIfInBounds_toArray, List.set_cons_zero, List.set_cons_succ]
      refine wpAnyH_take (i := 18) (oi := ⟨some 24, _, _, _, _, _⟩) (v := ?_) rfl (by kernel_rfl) (by kernel_rfl) (by kernel_rfl) (fun _ _ _ h => h) (Or.inl ⟨by rfl, ?_⟩) (by assumption) ?_
      rotate_left
      · intro w hSw
        (try dsimp only at hSw)
        go_simp
        all_goals (with_reducible rfl)
      try simp only [Act.put, List.setIfInBounds_toArray, List.set_cons_zero, List.set_cons_succ]
      refine wpAnyH_take (i := 19) (oi := ⟨some 25, _, _, _, _, _⟩) (v := ?_) rfl (by kernel_rfl) (by kernel_rfl) (by kernel_rfl) (fun _ _ _ h => h) (Or.inl ⟨by rfl, ?_⟩) (by assumption) ?_
      rotate_left
      · intro w hSw
        (try dsimp only at hSw)
        go_simp
        all_goals (with_reducible rfl)
      try simp only [Act.put, List.setIfInBounds_toArray, List.set_cons_zero, List.set_cons_succ]
      refine wpAnyH_ready (rs := [20]) (by kernel_rfl) (by simp) ?_
      refine AllReadyH.cons (o := ⟨none, _, _, _, _, _⟩) rfl (fun K hK => ?_) AllReadyH.nil
      go_simp
      refine hK.out _ _ (HF.out.2.2.2.2) (fun _ => ?_)
      clear hK K
      try simp only [Act.put]
      refine wpAnyH_done (by kernel_rfl) ?_ _
      refine NoPanic.normal ?_
      go_end0
      exact ⟨rfl, _, _, HF.out.2.2.1, by simp, HF.out.2.2.2.1⟩
    refine AllReadyH.cons (o := ⟨some 22, _, _, _, _, _⟩) rfl (fun K hK => ?_) AllReadyH.nil
    rw [if_pos (by rfl)]
    refine wp_slice_one 114 120 _ (by rfl) #[q0, q1, q2] (by rfl) Try.underlying114 zero_rop (by decide) (by decide) (by rfl) ?_
    have b16 : Below wd.heap.size wd (wd.alloc (.cells #[q0, q1, q2] 120)) := (Below.refl _ _).alloc (Nat.le_refl _) _
    have W16 := HQW.out wd
    have Bw16 := Bwd.trans (b16.mono Bwd.size)
    obtain ⟨g16, hg16⟩ : ∃ x, wd.heap.size = x := ⟨_, rfl⟩
    have HG16 := Lib.hid hg16
    rw [hg16] at W16 ⊢
    generalize wd.alloc (.cells #[q0, q1, q2] 120) = w16 at W16 Bw16 b16 ⊢
    have HL16 := Lib.hid W16.lt
    clear hg16
    refine hK.out _ _ (HS.out _ Bw16) (fun _ => ?_)
    clear hK K
    try simp only [Act.put, List.setIfInBounds_toArray, List.set_cons_zero, List.set_cons_succ]
    refine wpAnyH_ready (rs := [5]) (by kernel_rfl) (by simp) ?_
    refine AllReadyH.cons (o := ⟨some 11, _, _, _, _, _⟩) rfl (fun K hK => ?_) AllReadyH.nil
    go_simp
    have b5 : Below w16.heap.size w16 (w16.alloc (.cells #[] 120)) := (Below.refl _ _).alloc (Nat.le_refl _) _
    have E5 : (w16.alloc (.cells #[] 120)).ownsRow B 120 3 (.slice (some ⟨w16.heap.size, 0, none⟩) 0 0) ([] : List (Dop × Value)).length (([] : List (Dop × Value)).flatMap opC) := World.ownsRow_lit w16 #[] 0 (Nat.le_trans HB0.out Bw16.size) (by decide) (by simp)
    have Bw5 := Bw16.trans (b5.mono Bw16.size)
    replace W16 := W16.below b5 W16.lt
    have hne : g16 ≠ w16.heap.size := by have := HL16.out; omega
    have E5l := row_lt E5 (g := w16.heap.size) rfl
    obtain ⟨x5, hx5⟩ : ∃ x, w16.heap.size = x := ⟨_, rfl⟩
    have hx5w : wd.heap.size ≤ x5 := hx5 ▸ Bw16.size
    have hc5 : x5 = w16.heap.size := hx5.symm
    rw [hx5] at E5 E5l hne ⊢
    generalize w16.alloc (.cells #[] 120) = w5 at E5 E5l Bw5 b5 W16 ⊢
    have HL5 := Lib.hid E5l
    have HC5 := Lib.hid hc5
    clear hx5 E5l hc5
    refine hK.out _ _ (HS.out _ Bw5) (fun _ => ?_)
    clear hK K
    try simp only [Act.put, List.setIfInBounds_toArray, List.set_cons_zero, List.set_cons_succ]
    refine wpAnyH_ready (rs := [14]) (by kernel_rfl) (by simp) ?_
    refine AllReadyH.cons (o := ⟨some 20, _, _, _, _, _⟩) rfl (fun K hK => ?_) AllReadyH.nil
    rw [if_pos (by rfl)]
    refine wp_append_gen (f := opC) (n := 3) _ _ 114 120 (by rfl) _ 40 Try.underlying114 info_rop rfl (by decide) (by decide) opC_length B _ _ ([] : List (Dop × Value)) xops (by rfl) E5 (by rfl) (HSRC.out w5 Bw5) HONE.out.1 (by have := HLEN.out; simp only [List.length_nil]; omega) (Nat.le_trans HB0.out Bw5.size) ?_
    intro v14 w14 O14 G14 M14
    have Bw14 := Bw5.grown G14 Bw5.size (fun i hi => (Option.some.inj hi) ▸ hx5w)
    have hge14 := moved_ge M14 (b := wd.heap.size) (fun i hi => (Option.some.inj hi) ▸ hx5w) Bw5.size
    rw [List.nil_append] at O14
    replace W16 := W16.only (Only.of_grown G14) (fun e => hne (Option.some.inj e).symm)
    have hne14 := moved_ne M14 (b := g16) (fun i hi => (Option.some.inj hi) ▸ hne) (Nat.lt_of_lt_of_le HL16.out b5.size)
    obtain ⟨a14, n14, c14, e14⟩ := slice_any O14
    subst e14
    refine hK.out _ _ (HS.out _ Bw14) (fun _ => ?_)
    clear hK K
    try simp only [Act.put, List.setIfInBounds_toArray, List.set_cons_zero, List.set_cons_succ]
    refine wpAnyH_ready (rs := [17]) (by kernel_rfl) (by simp) ?_
    refine AllReadyH.cons (o := ⟨some 23, _, _, _, _, _⟩) rfl (fun K hK => ?_) AllReadyH.nil
    rw [if_pos (by rfl)]
    refine wp_append_gen (f := opC) (n := 3) _ _ 114 120 (by rfl) _ 40 Try.underlying114 info_rop rfl (by decide) (by decide) opC_length B _ _ xops [p] (by rfl) O14 (by rfl) (src_whole W16) HONE.out.2 (by have := HLEN.out; simp only [List.length_cons, List.length_nil]; omega) (Nat.le_trans HB0.out Bw14.size) ?_
    intro v17 w17 O17 G17 M17
    have Bw17 := Bw14.grown G17 Bw14.size hge14
    have hge17 := moved_ge M17 hge14 Bw14.size
    obtain ⟨a17, n17, c17, e17⟩ := slice_any O17
    have HF := Lib.hid (HFIN.out _ _ Bw17 O17 hge17)
    have y1 := HF.out.1
    have y2 := HF.out.2.1
    subst e17
    refine hK.out _ _ (HS.out _ Bw17) (fun _ => ?_)
    clear hK K
    try simp only [Act.put, List.setIfInBounds_toArray, List.set_cons_zero, List.set_cons_succ]
    refine wpAnyH_take (i := 18) (oi := ⟨some 24, _, _, _, _, _⟩) (v := ?_) rfl (by kernel_rfl) (by kernel_rfl) (by kernel_rfl) (fun _ _ _ h => h) (Or.inl ⟨by rfl, ?_⟩) (by assumption) ?_
    rotate_left
    · intro w hSw
      (try dsimp only at hSw)
      go_simp
      all_goals (with_reducible rfl)
    try simp only [Act.put, List.setIfInBounds_toArray, List.set_cons_zero, List.set_cons_succ]
    refine wpAnyH_take (i := 19) (oi := ⟨some 25, _, _, _, _, _⟩) (v := ?_) rfl (by kernel_rfl) (by kernel_rfl) (by kernel_rfl) (fun _ _ _ h => h) (Or.inl ⟨by rfl, ?_⟩) (by assumption) ?_
    rotate_left
    · intro w hSw
      (try dsimp only at hSw)
      go_simp
      all_goals (with_reducible rfl)
    try simp only [Act.put, List.setIfInBounds_toArray, List.set_cons_zero, List.set_cons_succ]
    refine wpAnyH_ready (rs := [20]) (by kernel_rfl) (by simp) ?_
    refine AllReadyH.cons (o := ⟨none, _, _, _, _, _⟩) rfl (fun K hK => ?_) AllReadyH.nil
    go_simp
    refine hK.out _ _ (HF.out.2.2.2.2) (fun _ => ?_)
    clear hK K
    try simp only [Act.put]
    refine wpAnyH_done (by kernel_rfl) ?_ _
    refine NoPanic.normal ?_
    go_end0
    exact ⟨rfl, _, _, HF.out.2.2.1, by simp, HF.out.2.2.2.1⟩
  refine AllReadyH.cons (o := ⟨some 22, _, _, _, _, _⟩) rfl (fun K hK => ?_) AllReadyH.nil
  rw [if_pos (by rfl)]
  refine wp_slice_one 114 120 _ (by rfl) #[q0, q1, q2] (by rfl) Try.underlying114 zero_rop (by decide) (by decide) (by rfl) ?_
  have b16 : Below wd.heap.size wd (wd.alloc (.cells #[q0, q1, q2] 120)) := (Below.refl _ _).alloc (Nat.le_refl _) _
  have W16 := HQW.out wd
  have Bw16 := Bwd.trans (b16.mono Bwd.size)
  obtain ⟨g16, hg16⟩ : ∃ x, wd.heap.size = x := ⟨_, rfl⟩
  have HG16 := Lib.hid hg16
  rw [hg16] at W16 ⊢
  generalize wd.alloc (.cells #[q0, q1, q2] 120) = w16 at W16 Bw16 b16 ⊢
  have HL16 := Lib.hid W16.lt
  clear hg16
  refine hK.out _ _ (HS.out _ Bw16) (fun _ => ?_)
  clear hK K
  try simp only [Act.put, List.setIfInBounds_toArray, List.set_cons_zero, List.set_cons_succ]
  refine wpAnyH_ready (rs := [5, 13]) (by kernel_rfl) (by simp) ?_
  refine AllReadyH.cons (o := ⟨some 11, _, _, _, _, _⟩) rfl (fun K hK => ?_) ?_
  · go_simp
    have b5 : Below w16.heap.size w16 (w16.alloc (.cells #[] 120)) := (Below.refl _ _).alloc (Nat.le_refl _) _
    have E5 : (w16.alloc (.cells #[] 120)).ownsRow B 120 3 (.slice (some ⟨w16.heap.size, 0, none⟩) 0 0) ([] : List (Dop × Value)).length (([] : List (Dop × Value)).flatMap opC) := World.ownsRow_lit w16 #[] 0 (Nat.le_trans HB0.out Bw16.size) (by decide) (by simp)
    have Bw5 := Bw16.trans (b5.mono Bw16.size)
    replace W16 := W16.below b5 W16.lt
    have hne : g16 ≠ w16.heap.size := by have := HL16.out; omega
    have E5l := row_lt E5 (g := w16.heap.size) rfl
    obtain ⟨x5, hx5⟩ : ∃ x, w16.heap.size = x := ⟨_, rfl⟩
    have hx5w : wd.heap.size ≤ x5 := hx5 ▸ Bw16.size
    have hc5 : x5 = w16.heap.size := hx5.symm
    rw [hx5] at E5 E5l hne ⊢
    generalize w16.alloc (.cells #[] 120) = w5 at E5 E5l Bw5 b5 W16 ⊢
    have HL5 := Lib.hid E5l
    have HC5 := Lib.hid hc5
    clear hx5 E5l hc5
    refine hK.out _ _ (HS.out _ Bw5) (fun _ => ?_)
    clear hK K
    try simp only [Act.put, List.setIfInBounds_toArray, List.set_cons_zero, List.set_cons_succ]
    refine wpAnyH_ready (rs := [13]) (by kernel_rfl) (by simp) ?_
    refine AllReadyH.cons (o := ⟨some 19, _, _, _, _, _⟩) rfl (fun K hK => ?_) AllReadyH.nil
    have y13 := HZ2.out _ Bw5
    go_simp
    refine hK.out _ _ (HS.out _ Bw5) (fun _ => ?_)
    clear hK K
    try simp only [Act.put, List.setIfInBounds_toArray, List.set_cons_zero, List.set_cons_succ]
    refine wpAnyH_ready (rs := [14]) (by kernel_rfl) (by simp) ?_
    refine AllReadyH.cons (o := ⟨some 20, _, _, _, _, _⟩) rfl (fun K hK => ?_) AllReadyH.nil
    rw [if_pos (by rfl)]
    refine wp_append_gen (f := opC) (n := 3) _ _ 114 120 (by rfl) _ 40 Try.underlying114 info_rop rfl (by decide) (by decide) opC_length B _ _ ([] : List (Dop × Value)) xops (by rfl) E5 (by rfl) (HSRC.out w5 Bw5) HONE.out.1 (by have := HLEN.out; simp only [List.length_nil]; omega) (Nat.le_trans HB0.out Bw5.size) ?_
    intro v14 w14 O14 G14 M14
    have Bw14 := Bw5.grown G14 Bw5.size (fun i hi => (Option.some.inj hi) ▸ hx5w)
    have hge14 := moved_ge M14 (b := wd.heap.size) (fun i hi => (Option.some.inj hi) ▸ hx5w) Bw5.size
    rw [List.nil_append] at O14
    replace W16 := W16.only (Only.of_grown G14) (fun e => hne (Option.some.inj e).symm)
    have hne14 := moved_ne M14 (b := g16) (fun i hi => (Option.some.inj hi) ▸ hne) (Nat.lt_of_lt_of_le HL16.out b5.size)
    obtain ⟨a14, n14, c14, e14⟩ := slice_any O14
    subst e14
    refine hK.out _ _ (HS.out _ Bw14) (fun _ => ?_)
    clear hK K
    try simp only [Act.put, List.setIfInBounds_toArray, List.set_cons_zero, List.set_cons_succ]
    refine wpAnyH_ready (rs := [17]) (by kernel_rfl) (by simp) ?_
    refine AllReadyH.cons (o := ⟨some 23, _, _, _, _, _⟩) rfl (fun K hK => ?_) AllReadyH.nil
    rw [if_pos (by rfl)]
    refine wp_append_gen (f := opC) (n := 3) _ _ 114 120 (by rfl) _ 40 Try.underlying114 info_rop rfl (by decide) (by decide) opC_length B _ _ xops [p] (by rfl) O14 (by rfl) (src_whole W16) HONE.out.2 (by have := HLEN.out; simp only [List.length_cons, List.length_nil]; omega) (Nat.le_trans HB0.out Bw14.size) ?_
    intro v17 w17 O17 G17 M17
    have Bw17 := Bw14.grown G17 Bw14.size hge14
    have hge17 := moved_ge M17 hge14 Bw14.size
    obtain ⟨a17, n17, c17, e17⟩ := slice_any O17
    have HF := Lib.hid (HFIN.out _ _ Bw17 O17 hge17)
    have y1 := HF.out.1
    have y2 := HF.out.2.1
    subst e17
    refine hK.out _ _ (HS.out _ Bw17) (fun _ => ?_)
    clear hK K
    try simp only [Act.put, List.setIfInBounds_toArray, List.set_cons_zero, List.set_cons_succ]
    refine wpAnyH_take (i := 18) (oi := ⟨some 24, _, _, _, _, _⟩) (v := ?_) rfl (by kernel_rfl) (by kernel_rfl) (by kernel_rfl) (fun _ _ _ h => h) (Or.inl ⟨by rfl, ?_⟩) (by assumption) ?_
    rotate_left
    · intro w hSw
      (try dsimp only at hSw)
      go_simp
      all_goals (with_reducible rfl)
    try simp only [Act.put, List.setIfInBounds_toArray, List.set_cons_zero, List.set_cons_succ]
    refine wpAnyH_take (i := 19) (oi := ⟨some 25, _, _, _, _, _⟩) (v := ?_) rfl (by kernel_rfl) (by kernel_rfl) (by kernel_rfl) (fun _ _ _ h => h) (Or.inl ⟨by rfl, ?_⟩) (by assumption) ?_
    rotate_left
    · intro w hSw
      (try dsimp only at hSw)
      go_simp
      all_goals (with_reducible rfl)
    try simp only [Act.put, List.setIfInBounds_toArray, List.set_cons_zero, List.set_cons_succ]
    refine wpAnyH_ready (rs := [20]) (by kernel_rfl) (by simp) ?_
    refine AllReadyH.cons (o := ⟨none, _, _, _, _, _⟩) rfl (fun K hK => ?_) AllReadyH.nil
    go_simp
    refine hK.out _ _ (HF.out.2.2.2.2) (fun _ => ?_)
    clear hK K
    try simp only [Act.put]
    refine wpAnyH_done (by kernel_rfl) ?_ _
    refine NoPanic.normal ?_
    go_end0
    exact ⟨rfl, _, _, HF.out.2.2.1, by simp, HF.out.2.2.2.1⟩
  refine AllReadyH.cons (o := ⟨some 19, _, _, _, _, _⟩) rfl (fun K hK => ?_) AllReadyH.nil
  have y13 := HZ2.out _ Bw16
  go_simp
  refine hK.out _ _ (HS.out _ Bw16) (fun _ => ?_)
  clear hK K
  try simp only [Act.put, List.setIfInBounds_toArray, List.set_cons_zero, List.set_cons_succ]
  refine wpAnyH_ready (rs := [5]) (by kernel_rfl) (by simp) ?_
  refine AllReadyH.cons (o := ⟨some 11, _, _, _, _, _⟩) rfl (fun K hK => ?_) AllReadyH.nil
  go_simp
  have b5 : Below w16.heap.size w16 (w16.alloc (.cells #[] 120)) := (Below.refl _ _).alloc (Nat.le_refl _) _
  have E5 : (w16.alloc (.cells #[] 120)).ownsRow B 120 3 (.slice (some ⟨w16.heap.size, 0, none⟩) 0 0) ([] : List (Dop × Value)).length (([] : List (Dop × Value)).flatMap opC) := World.ownsRow_lit w16 #[] 0 (Nat.le_trans HB0.out Bw16.size) (by decide) (by simp)
  have Bw5 := Bw16.trans (b5.mono Bw16.size)
  replace W16 := W16.below b5 W16.lt
  have hne : g16 ≠ w16.heap.size := by have := HL16.out; omega
  have E5l := row_lt E5 (g := w16.heap.size) rfl
  obtain ⟨x5, hx5⟩ : ∃ x, w16.heap.size = x := ⟨_, rfl⟩
  have hx5w : wd.heap.size ≤ x5 := hx5 ▸ Bw16.size
  have hc5 : x5 = w16.heap.size := hx5.symm
  rw [hx5] at E5 E5l hne ⊢
  generalize w16.alloc (.cells #[] 120) = w5 at E5 E5l Bw5 b5 W16 ⊢
  have HL5 := Lib.hid E5l
  have HC5 := Lib.hid hc5
  clear hx5 E5l hc5
  refine hK.out _ _ (HS.out _ Bw5) (fun _ => ?_)
  clear hK K
  try simp only [Act.put, List.setIfInBounds_toArray, List.set_cons_zero, List.set_cons_succ]
  refine wpAnyH_ready (rs := [14]) (by kernel_rfl) (by simp) ?_
  refine AllReadyH.cons (o := ⟨some 20, _, _, _, _, _⟩) rfl (fun K hK => ?_) AllReadyH.nil
  rw [if_pos (by rfl)]
  refine wp_append_gen (f := opC) (n := 3) _ _ 114 120 (by rfl) _ 40 Try.underlying114 info_rop rfl (by decide) (by decide) opC_length B _ _ ([] : List (Dop × Value)) xops (by rfl) E5 (by rfl) (HSRC.out w5 Bw5) HONE.out.1 (by have := HLEN.out; simp only [List.length_nil]; omega) (Nat.le_trans HB0.out Bw5.size) ?_
  intro v14 w14 O14 G14 M14
  have Bw14 := Bw5.grown G14 Bw5.size (fun i hi => (Option.some.inj hi) ▸ hx5w)
  have hge14 := moved_ge M14 (b := wd.heap.size) (fun i hi => (Option.some.inj hi) ▸ hx5w) Bw5.size
  rw [List.nil_append] at O14
  replace W16 := W16.only (Only.of_grown G14) (fun e => hne (Option.some.inj e).symm)
  have hne14 := moved_ne M14 (b := g16) (fun i hi => (Option.some.inj hi) ▸ hne) (Nat.lt_of_lt_of_le HL16.out b5.size)
  obtain ⟨a14, n14, c14, e14⟩ := slice_any O14
  subst e14
  refine hK.out _ _ (HS.out _ Bw14) (fun _ => ?_)
  clear hK K
  try simp only [Act.put, List.setIfInBounds_toArray, List.set_cons_zero, List.set_cons_succ]
  refine wpAnyH_ready (rs := [17]) (by kernel_rfl) (by simp) ?_
  refine AllReadyH.cons (o := ⟨some 23, _, _, _, _, _⟩) rfl (fun K hK => ?_) AllReadyH.nil
  rw [if_pos (by rfl)]
  refine wp_append_gen (f := opC) (n := 3) _ _ 114 120 (by rfl) _ 40 Try.underlying114 info_rop rfl (by decide) (by decide) opC_length B _ _ xops [p] (by rfl) O14 (by rfl) (src_whole W16) HONE.out.2 (by have := HLEN.out; simp only [List.length_cons, List.length_nil]; omega) (Nat.le_trans HB0.out Bw14.size) ?_
  intro v17 w17 O17 G17 M17
  have Bw17 := Bw14.grown G17 Bw14.size hge14
  have hge17 := moved_ge M17 hge14 Bw14.size
  obtain ⟨a17, n17, c17, e17⟩ := slice_any O17
  have HF := Lib.hid (HFIN.out _ _ Bw17 O17 hge17)
  have y1 := HF.out.1
  have y2 := HF.out.2.1
  subst e17
  refine hK.out _ _ (HS.out _ Bw17) (fun _ => ?_)
  clear hK K
  try simp only [Act.put, List.setIfInBounds_toArray, List.set_cons_zero, List.set_cons_succ]
  refine wpAnyH_take (i := 18) (oi := ⟨some 24, _, _, _, _, _⟩) (v := ?_) rfl (by kernel_rfl) (by kernel_rfl) (by kernel_rfl) (fun _ _ _ h => h) (Or.inl ⟨by rfl, ?_⟩) (by assumption) ?_
  rotate_left
  · intro w hSw
    (try dsimp only at hSw)
    go_simp
    all_goals (with_reducible rfl)
  try simp only [Act.put, List.setIfInBounds_toArray, List.set_cons_zero, List.set_cons_succ]
  refine wpAnyH_take (i := 19) (oi := ⟨some 25, _, _, _, _, _⟩) (v := ?_) rfl (by kernel_rfl) (by kernel_rfl) (by kernel_rfl) (fun _ _ _ h => h) (Or.inl ⟨by rfl, ?_⟩) (by assumption) ?_
  rotate_left
  · intro w hSw
    (try dsimp only at hSw)
    go_simp
    all_goals (with_reducible rfl)
  try simp only [Act.put, List.setIfInBounds_toArray, List.set_cons_zero, List.set_cons_succ]
  refine wpAnyH_ready (rs := [20]) (by kernel_rfl) (by simp) ?_
  refine AllReadyH.cons (o := ⟨none, _, _, _, _, _⟩) rfl (fun K hK => ?_) AllReadyH.nil
  go_simp
  refine hK.out _ _ (HF.out.2.2.2.2) (fun _ => ?_)
  clear hK K
  try simp only [Act.put]
  refine wpAnyH_done (by kernel_rfl) ?_ _
  refine NoPanic.normal ?_
  go_end0
  exact ⟨rfl, _, _, HF.out.2.2.1, by simp, HF.out.2.2.2.1⟩

end Go.Proofs.Ytmmlpbepaefamaa
