/- One list of a tenant of the reference's book is turned; append of a slice's part. -/
import Derived.Test.YtglcingpolpkdaaRTell
namespace Go.Proofs.Ytglcingpolpkdaa
open Go.RowKit

/-- What a call of the reference leaves: only its book and its list of tenants are written; rows of rules are old ones, or new. -/
def RStep (W w w' : World) (m : Nat) (lv : Value) (xs : List (ByteArray × Value × Value)) (ts' : List Tn) : Prop :=
  ∃ lv' xs', RefBook W w' m lv' xs' ts' ∧ Only w w' (fun k => k = m ∨ lv.ownBlock = some k) ∧ ∀ x ∈ xs', ∀ k, x.2.2.ownBlock = some k → (∃ y ∈ xs, y.2.2.ownBlock = some k) ∨ w.heap.size ≤ k
theorem RStep.same {W w w' : World} {m : Nat} {lv : Value} {xs : List (ByteArray × Value × Value)} {ts : List Tn} (h : RefBook W w m lv xs ts) (hb : Below w.heap.size w w') : RStep W w w' m lv xs ts :=
  ⟨lv, xs, h.on hb, Only.of_below hb _, fun x hx _ hk => .inl ⟨x, hx, hk⟩⟩

/-- A new row put into a tenant: its members (d = 1) or its rules (d = 2). -/
theorem RefBook.turn {W w w' : World} {m g i d c : Nat} {p : Option Addr} {n : Nat} {xs : List (ByteArray × Value × Value)} {ts : List Tn} {x x' : ByteArray × Value × Value} {t t' : Tn} {u : Value} (h : RefBook W w m (.slice p n c) xs ts) (hp : p = some ⟨g, 0, none⟩) (hx : xs[i]? = some x) (ht : ts[i]? = some t) (hb : Below w.heap.size w w')
    (hd : (d = 1 ∧ x' = (x.1, u, x.2.2)) ∨ (d = 2 ∧ x' = (x.1, x.2.1, u))) (hn : t'.name = t.name)
    (hm : OwnN w' W.heap.size x'.2.1 t'.ms) (hr : OwnR w' W.heap.size x'.2.2 t'.rules) (hfresh : ∀ k, u.ownBlock = some k → w.heap.size ≤ k) :
    RStep W w (w'.setCell ⟨g, i * 3 + d, none⟩ u) m (.slice p n c) xs (ts.set i t') := by
  subst hp
  have h' := h.on hb
  have o := Only.set w' ⟨g, i * 3 + d, none⟩ u
  have hi : i < xs.length := (List.getElem?_eq_some_iff.1 hx).1
  have hit : i < ts.length := (List.getElem?_eq_some_iff.1 ht).1
  have hd3 : d < 3 := by rcases hd with ⟨h, _⟩ | ⟨h, _⟩ <;> omega
  obtain ⟨cap, cur, hv, hg, hW, hle, hmax, hcl⟩ := own_full h'.row rfl
  have hrow := own_rowG lenT (show w'.ownsRow W.heap.size 141 3 (.slice (some ⟨g, 0, none⟩) n c) xs.length (xs.flatMap tenCells) from h'.row)
  have hn2 : n = xs.length := by
    injection hv
  have hc2 : c = cap := by
    injection hv
  subst hn2 hc2
  have hsome : (w'.cell? ⟨g, i * 3 + d, none⟩).isSome = true := ((hrow i x hx).2 d hd3).1
  obtain ⟨old, hold⟩ := Option.isSome_iff_exists.1 hsome
  have hnew : RowG tenCells 3 (w'.setCell ⟨g, i * 3 + d, none⟩ u) g (xs.set i x') := fun j y hy => by
    have hj : j < xs.length := by
      have := (List.getElem?_eq_some_iff.1 hy).1
      simpa using this
    have keep : ∀ r, r < 3 → (j ≠ i ∨ r ≠ d) → (w'.setCell ⟨g, i * 3 + d, none⟩ u).cell? ⟨g, j * 3 + r, none⟩ = w'.cell? ⟨g, j * 3 + r, none⟩ := fun r hr hne => World.cell?_setCell_other _ _ _ _ (by
      intro e
      injection e with _ e _
      omega)
    obtain ⟨h1, h2⟩ := hrow j _ (List.getElem?_eq_getElem hj)
    refine ⟨?_, fun r hr => ⟨World.isSome_setCells g [u] (i * 3 + d) w' _ (h2 r hr).1, by rw [World.frozen?_setCell]; exact (h2 r hr).2⟩⟩
    by_cases hji : j = i
    · subst hji
      rw [List.getElem?_set_self hi] at hy
      have hy := Option.some.inj hy
      have hxe : xs[j] = x := (List.getElem?_eq_some_iff.1 hx).2
      rw [hxe] at h1
      subst hy
      intro r v hv
      have hr : r < 3 := by
        have := (List.getElem?_eq_some_iff.1 hv).1
        rwa [lenT] at this
      by_cases hrd : r = d
      · subst hrd
        rw [World.cell?_setCell_same _ _ _ hold, ← hv]
        rcases hd with ⟨rfl, rfl⟩ | ⟨rfl, rfl⟩ <;> rfl
      · rw [keep r hr (.inr hrd)]
        refine h1 r v ?_
        rw [← hv]
        rcases hd with ⟨rfl, rfl⟩ | ⟨rfl, rfl⟩
        · rcases (show r = 0 ∨ r = 2 by omega) with rfl | rfl <;> rfl
        · rcases (show r = 0 ∨ r = 1 by omega) with rfl | rfl <;> rfl
    · rw [List.getElem?_set_ne (Ne.symm hji), List.getElem?_eq_getElem hj] at hy
      have hy := Option.some.inj hy
      subst hy
      intro r v hv
      rw [keep r (by have := (List.getElem?_eq_some_iff.1 hv).1; rwa [lenT] at this) (.inl hji)]
      exact h1 r v hv
  have hown := own_of (B := W.heap.size) lenT (hW.put (i * 3 + d) u) (by simpa using hcl) hg (by simpa using hle) hmax hnew
  have ne : ∀ {B n k : Nat} {e : TypeId} {v : Value} {ys : List Value}, w'.ownsRow B e n v k ys → e ≠ 141 → ∀ k, v.ownBlock = some k → ¬ k = g := fun hr he k hk e2 => by
    subst e2
    exact row_ne_whole hr hW he hk
  have hmg : m ≠ g := fun e => by
    have hb := h'.book
    subst e
    unfold Whole at hb hW
    rw [hb] at hW
    injection hW with hW
    injection hW with _ hW _
    exact absurd hW (by decide)
  rw [List.length_set] at hown
  refine ⟨_, _, ⟨h'.book.only o hmg, by unfold OwnT; rw [List.length_set]; exact hown, by simp [h.len], fun j y s hy hs => ?_, h.gem, h'.below.trans (o.below h'.below.size fun k _ e => by rw [e]; exact hg)⟩, ((Only.of_below hb fun _ => False).trans o).weak fun k _ e => e.elim False.elim fun e => .inr (by rw [e]; rfl), fun y hy k hk => ?_⟩
  · by_cases hji : j = i
    · subst hji
      rw [List.getElem?_set_self hi] at hy
      rw [List.getElem?_set_self hit] at hs
      have hy := Option.some.inj hy
      have hs := Option.some.inj hs
      subst hy hs
      refine ⟨?_, row_only hm o (ne hm (by decide)), row_only hr o (ne hr (by decide))⟩
      rw [hn, ← (h.each j x t hx ht).1]
      rcases hd with ⟨_, rfl⟩ | ⟨_, rfl⟩ <;> rfl
    · rw [List.getElem?_set_ne (Ne.symm hji)] at hy hs
      obtain ⟨a1, a2, a3⟩ := h'.each j y s hy hs
      exact ⟨a1, row_only a2 o (ne a2 (by decide)), row_only a3 o (ne a3 (by decide))⟩
  · rcases List.mem_or_eq_of_mem_set hy with hy | rfl
    · exact .inl ⟨y, hy, hk⟩
    · rcases hd with ⟨_, rfl⟩ | ⟨_, rfl⟩
      · exact .inl ⟨x, List.mem_of_getElem? hx, hk⟩
      · exact .inr (hfresh k hk)

section
variable {α : Type} {f : α → List Value} {n : Nat}
/-- Elements in the middle of a block. -/
def SrcO (f : α → List Value) (n : Nat) (w : World) (v : Value) (l : List α) : Prop :=
  ∃ g off c, v = .slice (some ⟨g, off, none⟩) l.length c ∧ g < w.heap.size ∧ ∀ i a, l[i]? = some a → w.rangeAt g (off + i * n) (f a)
theorem wp_append_off {P : Program} {w : World} {o : Oper} {a : Act} {K : Act → World → Prop} {Q : Exit → Act → World → Prop} (s x : Operand) (t e : TypeId)
    (ho : o.op = .call { callee := .builtin .append, args := #[s, x], argTypes := #[t, t] })
    (z : Value) (bytes : Nat) (ht : P.underlying t = some (.slice e)) (hi : ∃ i, P.info? e = some i ∧ i.zero = some z ∧ i.size = n ∧ i.bytes = bytes) (hzs : z.cells.size = n) (hn : 0 < n) (hby : bytes ≤ 1000) (hf : ∀ a, (f a).length = n)
    (B : Nat) (v u : Value) (l m : List α) (hs : a.eval s = v) (hown : w.ownsRow B e n v l.length (l.flatMap f)) (hx : a.eval x = u) (hu : SrcO f n w u m) (hone : ∀ b ∈ m, ∀ y ∈ f b, y.oneCell' = true) (hlen : l.length + m.length ≤ 100000) (hbase : B ≤ w.heap.size)
    (h : ∀ v' w', w'.ownsRow B e n v' (l ++ m).length ((l ++ m).flatMap f) → w.grownBy w' v.ownBlock → Moved w v v' → K (a.put o.dst v') w') :
    o.wp P a w K Q := by
  obtain ⟨i, hi, hz, hsz, hbys⟩ := hi
  obtain ⟨g, off, c, rfl, hg, hc⟩ := hu
  refine wp_append_at w s x t ho B e i z n bytes ht hi hz hsz hbys hzs hn v l.length (l.flatMap f) hs hown ⟨g, off, none⟩ m.length c (m.flatMap f) hx (flat_len hf m) (fun j y hj => ?_) (fun y hy => ?_) (by simp only [maxLen]; omega) (Nat.le_trans (Nat.mul_le_mul hlen hby) (by decide)) hbase fun v' w' h1 h2 h4 => h v' w' ?_ h2 h4
  · obtain ⟨k, r, b, rfl, hb, hr⟩ := flat_inv hf m j y hj
    have := hc k b hb r y hr
    rwa [Addr.add_mid, ← Nat.add_assoc]
  · obtain ⟨b, hb1, hb⟩ := List.mem_flatMap.1 hy
    exact hone b hb1 y hb
  · rw [List.length_append, List.flatMap_append]
    exact h1
end

end Go.Proofs.Ytglcingpolpkdaa

/- The reference's Open: the answer, what it leaves. -/
namespace Go.Proofs.Ytglcingpolpkdaa
open Go.RowKit

theorem RefBook.moreS {W w w' : World} {m : Nat} {lv lv' : Value} {xs : List (ByteArray × Value × Value)} {ts : List Tn} {name : ByteArray} (h : RefBook W w m lv xs ts) (hb : Below w.heap.size w w') (hO : OwnT w' w.heap.size lv' (xs ++ [(name, .slice none 0 0, .slice none 0 0)])) :
    RStep W w (w'.setCell ⟨m, 0, none⟩ lv') m lv xs (ts ++ [⟨name, [], []⟩]) := by
  have h' := h.on hb
  have o := Only.set w' ⟨m, 0, none⟩ lv'
  have hz : W.heap.size ≤ w.heap.size := h.below.size
  have hO2 : OwnT w' W.heap.size lv' (xs ++ [(name, .slice none 0 0, .slice none 0 0)]) := by
    obtain ⟨h1, h2⟩ := hO
    refine ⟨h1, h2.imp id ?_⟩
    rintro ⟨g, cap, cur, e, hb, r⟩
    exact ⟨g, cap, cur, e, Nat.le_trans hz hb, r⟩
  have ne : ∀ {B n k : Nat} {e : TypeId} {v : Value} {ys : List Value}, w'.ownsRow B e n v k ys → e ≠ 56 → ∀ g, v.ownBlock = some g → ¬ g = m := fun hr he g hg e2 => by
    subst e2
    exact row_ne_whole hr h'.book he hg
  refine ⟨lv', _, ⟨h'.book.put 0 lv', row_only hO2 o (ne hO2 (by decide)), by simp [h.len], fun i x t hx ht => ?_, h.gem, h'.below.trans (o.below h'.below.size fun i _ e => by rw [e]; exact h.gem)⟩, ((Only.of_below hb fun _ => False).trans o).weak fun k _ e => .inl (e.elim False.elim id), fun y hy k hk => ?_⟩
  rotate_left
  · rcases List.mem_append.1 hy with hy | hy
    · exact .inl ⟨y, hy, hk⟩
    · rw [List.mem_singleton.1 hy] at hk
      cases hk
  by_cases hi : i < xs.length
  · rw [List.getElem?_append_left hi] at hx
    rw [List.getElem?_append_left (by rw [← h.len]; exact hi)] at ht
    obtain ⟨h1, h2, h3⟩ := h'.each i x t hx ht
    exact ⟨h1, row_only h2 o (ne h2 (by decide)), row_only h3 o (ne h3 (by decide))⟩
  · have hil : i = xs.length := by
      have := (List.getElem?_eq_some_iff.1 hx).1
      simp at this
      omega
    subst hil
    rw [List.getElem?_append_right (Nat.le_refl _)] at hx
    rw [h.len, List.getElem?_append_right (Nat.le_refl _)] at ht
    have e1 : (name, Value.slice none 0 0, Value.slice none 0 0) = x := by simpa using hx
    have e2 : (⟨name, [], []⟩ : Tn) = t := by simpa using ht
    subst e1 e2
    exact ⟨rfl, World.ownsRow_nil _ _ _ _, World.ownsRow_nil _ _ _ _⟩

set_option maxRecDepth 100000 in
set_option maxHeartbeats 2000000 in
theorem refopen_step (W w : World) (m : Nat) (lv : Value) (xs : List (ByteArray × Value × Value)) (ts : List Tn) (n : ByteArray) (h : RefBook W w m lv xs ts) (hl : ts.length ≤ 1000) : Calls Try.prog 58 #[.pointer (some ⟨m, 0, none⟩), .string n] w fun e w' => e = .returned (.int .i64 (openF ts n).1) ∧ RStep W w w' m lv xs (openF ts n).2 := by
  have HAT := Lib.hid (refat_calls W w m ts n ⟨_, _, h⟩ hl)
  unfold openF
  obtain ⟨x, hx⟩ : ∃ x, nameB n = x := ⟨_, rfl⟩
  have HNM := Lib.hid (hx ▸ refname_calls w n)
  rw [hx]
  cases x
  · rw [if_pos rfl]
    have HB := Lib.hid h
    clear h hx
    go_enter Try.func58, Try.ntmps58
    go_wp2_with (go_at_call 92; refine HNM.out.mono ?_; rintro e w' ⟨rfl, hw⟩; rw [hw]; clear hw)
    go_ret
    exact ⟨rfl, RStep.same HB.out (Below.refl _ _)⟩
  · rw [if_neg (by simp)]
    unfold atT at HAT
    cases hg : getT ts n with
    | some q =>
      obtain ⟨i, t⟩ := q
      rw [hg] at HAT
      have i1 : (0 : Int) ≤ (i : Int) := by omega
      have HB := Lib.hid h
      clear h hx hg
      go_enter Try.func58, Try.ntmps58
      go_wp2_with (first
        | (go_at_call 92; refine HNM.out.mono ?_; rintro e w' ⟨rfl, hw⟩; rw [hw]; clear hw)
        | (go_at_call 93; refine HAT.out.mono ?_; rintro e w' ⟨rfl, hw⟩; rw [hw]; clear hw))
      go_ret
      exact ⟨rfl, RStep.same HB.out (Below.refl _ _)⟩
    | none =>
      rw [hg] at HAT
      obtain ⟨N, hN⟩ : ∃ N, ts.length = N := ⟨_, rfl⟩
      obtain ⟨p, c, hv⟩ := slice_of_row h.row
      rw [h.len, hN] at hv
      subst hv
      rw [hN] at hl ⊢
      have c0 := h.book.cell 0
      by_cases h64 : 64 ≤ N
      · rw [if_pos h64]
        have i1 : (64 : Int) ≤ (N : Int) := by omega
        have HB := Lib.hid h
        clear h hx hg
        go_enter Try.func58, Try.ntmps58
        go_wp2_with (first
          | (go_at_call 92; refine HNM.out.mono ?_; rintro e w' ⟨rfl, hw⟩; rw [hw]; clear hw)
          | (go_at_call 93; refine HAT.out.mono ?_; rintro e w' ⟨rfl, hw⟩; rw [hw]; clear hw))
        go_ret
        exact ⟨rfl, RStep.same HB.out (Below.refl _ _)⟩
      · rw [if_neg h64]
        have i1 : ¬ (64 : Int) ≤ (N : Int) := by omega
        have HB := Lib.hid h
        have HN := Lib.hid hN
        have hsrc : SrcG tenCells 3 w (.slice p N c) xs := src_of_own lenT h.row
        have hA1 : Below w.heap.size w (w.alloc (.cells #[] 141)) := (Below.refl _ _).alloc (Nat.le_refl _) _
        have c1 := (h.book.below hA1 h.book.lt).cell 0
        clear h hx hg
        go_enter Try.func58, Try.ntmps58
        go_wp2_with (first
          | (refine wpList_append_gen (f := tenCells) (n := 3) (by rfl) _ _ _ 141 (by rfl) _ 64 Try.underlying54 info_ten rfl (by decide) (by decide) lenT w.heap.size _ _ xs [(n, .slice none 0 0, .slice none 0 0)] (by rfl) (row_low hO5 ((Below.refl _ _).alloc (Nat.le_refl _) _)) (by rfl) (src_new (f := tenCells) (n := 3) w5 141 (n, .slice none 0 0, .slice none 0 0)) (fun b hb y hy => by simp at hb; subst hb; simp [tenCells] at hy; rcases hy with rfl | rfl | rfl <;> rfl) (by simp; have := HB.out.len; have := HN.out; omega) (Nat.le_trans hB5.size (by simp)) ?_; intro v6 w6 hO6 hG6 hM6; have hB6 := hB5.trans (((Below.refl w5.heap.size w5).alloc (Nat.le_refl _) (.cells (tenCells (n, .slice none 0 0, .slice none 0 0)).toArray 141)).mono hB5.size) |>.trans ((Only.of_grown hG6).below (Nat.le_trans hB5.size (by simp)) fun _ _ e => own_ge hO5 e); have c6 := (HB.out.book.below hB6 HB.out.book.lt).cell 0; have c7 := (HB.out.book.below hB6 HB.out.book.lt).free 0; obtain ⟨x7, k7, y7, he7⟩ := slice_any hO6; subst he7)
          | (refine wpList_append_gen (f := tenCells) (n := 3) (by rfl) _ _ _ 141 (by rfl) _ 64 Try.underlying54 info_ten rfl (by decide) (by decide) lenT w.heap.size _ _ [] xs (by rfl) (own_empty w _) (by rfl) (hsrc.low hA1) HB.out.one (by simp; have := HB.out.len; have := HN.out; omega) (by simp) ?_; intro v5 w5 hO5 hG5 hM5; have hB5 : Below w.heap.size w w5 := hA1.trans ((Only.of_grown hG5).below (by simp) fun _ _ e => own_ge (own_empty (f := tenCells) (n := 3) w 141) e); obtain ⟨x5, k5, y5, he5⟩ := slice_any hO5; subst he5)
          | (go_at_call 92; refine HNM.out.mono ?_; rintro e w' ⟨rfl, hw⟩; rw [hw]; clear hw)
          | (go_at_call 93; refine HAT.out.mono ?_; rintro e w' ⟨rfl, hw⟩; rw [hw]; clear hw))
        go_ret
        exact ⟨rfl, HB.out.moreS hB6 hO6⟩

end Go.Proofs.Ytglcingpolpkdaa
