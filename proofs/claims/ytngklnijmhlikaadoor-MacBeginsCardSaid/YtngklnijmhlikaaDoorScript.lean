/- DigestScript: what the walk leans on: the script's list, two values in a row, and where the script stands. -/
import Derived.Test.YtngklnijmhlikaaDoorSums
import Derived.Deep.SlicePairs
namespace Go.Proofs.YtngklnijmhlikaaDoor
open Go.RowKit

section
variable {w w' : World} {s : Value} {ys : List (BitVec 8)} {X X' : Nat → Prop}

theorem HashIs.low {h : Nat} {m : List (BitVec 8)} (hh : HashIs w h m) (hb : Below w.heap.size w w') : HashIs w' h m := hh.below hb hh.lt

/-- A slice of bytes that lies in none of the blocks X. -/
def SliceOff (w : World) (s : Value) (ys : List (BitVec 8)) (X : Nat → Prop) : Prop := SliceIs w s ys ∧ ∀ b o c, s = .slice (some ⟨b, o, none⟩) ys.length c → ys ≠ [] → ¬ X b
theorem SliceIs.grown {row : Option Nat} (h : SliceIs w s ys) (hg : w.grownBy w' row) (hr : ∀ b o c, s = .slice (some ⟨b, o, none⟩) ys.length c → ys ≠ [] → some b ≠ row) : SliceIs w' s ys := by
  rcases h with h | ⟨b, o, c, rfl, hl, hy⟩
  · exact .inl h
  · by_cases he : ys = []
    · subst he
      exact .inl ⟨rfl, .inr ⟨_, c, rfl⟩⟩
    · exact .inr ⟨b, o, c, rfl, Nat.lt_of_lt_of_le hl hg.size, hy.grown hg hl (hr b o c rfl he)⟩
theorem SliceIs.lt (h : SliceIs w s ys) : ∀ b o c, s = .slice (some ⟨b, o, none⟩) ys.length c → ys ≠ [] → b < w.heap.size := by
  intro b o c e hne
  rcases h with ⟨h, _⟩ | ⟨b', o', c', rfl, hl, _⟩
  · exact absurd h hne
  · cases e
    exact hl
theorem SliceOff.grown {row : Option Nat} (h : SliceOff w s ys X) (hg : w.grownBy w' row) (hr : ∀ k, row = some k → X k) : SliceOff w' s ys X :=
  ⟨h.1.grown hg fun b o c e hne hb => h.2 b o c e hne (hr b hb.symm), h.2⟩
theorem SliceOff.low (h : SliceOff w s ys X) (hb : Below w.heap.size w w') : SliceOff w' s ys X := ⟨h.1.low hb, h.2⟩
theorem SliceOff.more (h : SliceOff w s ys X) (hX : ∀ b, b < w.heap.size → X' b → X b) : SliceOff w s ys X' :=
  ⟨h.1, fun b o c e hne hb => h.2 b o c e hne (hX b (h.1.lt b o c e hne) hb)⟩
theorem SliceOff.nil (w : World) (X : Nat → Prop) : SliceOff w (.slice none 0 0) [] X := ⟨.inl ⟨rfl, .inl rfl⟩, fun _ _ _ _ h => absurd rfl h⟩
theorem Own.off {B : Nat} (h : Own w B s ys) (hX : ∀ b, X b → b < B) : SliceOff w s ys X := ⟨h.slice, fun b o c e _ hb => by
  have := h.high b (by rw [e]; rfl)
  have := hX b hb
  omega⟩
end

/-- 'append(s, x...)' at a step of a region that draws its order, x wherever it lies. -/
theorem step_append_slice {w : World} {ops : Array Oper} {o : Oper} {a : Act} {K : Act → World → Prop} {Q : Exit → Act → World → Prop} {E : Prop} (hgd : o.guard = none) (s x : Operand)
    (ho : o.op = .call { callee := .builtin .append, args := #[s, x], argTypes := #[22, 22] })
    (B : Nat) (v : Value) (xs : List (BitVec 8)) (hs : a.eval s = v) (hown : Own w B v xs) (sl : Value) (ys : List (BitVec 8)) (hx : a.eval x = sl) (hy : SliceIs w sl ys)
    (hlen : xs.length + ys.length ≤ 140737488355328) (hbase : B ≤ w.heap.size)
    (h : ∀ v' w', Own w' B v' (xs ++ ys) → w.grownBy w' v.ownBlock → K (a.put o.dst v') w') :
    if Region.wanted o (yielded ops a.tmps) = true then Oper.wp Tryd.prog o a w K Q else E := by
  obtain ⟨sp, c, rfl, hc⟩ := hy.cells
  have hw : Region.wanted o (yielded ops a.tmps) = true := by simp [Region.wanted, hgd]
  rw [if_pos hw]
  obtain ⟨i, hi, hz, hsz, hby⟩ := info_u8
  have use : ∀ ad, sp = some ad → (∀ j u, (ys.map vu8)[j]? = some u → w.cell? (ad.add j) = some u) → Oper.wp Tryd.prog o a w K Q := fun ad e hcells =>
    wp_append_own w s x _ ho B _ i _ 1 1 Tryd.underlying22 hi hz hsz hby rfl (by decide) v xs.length (xs.map vu8) hs hown ad ys.length c (ys.map vu8) (by rw [hx, e]) (by simp) hcells (one_u8 ys)
      (by simp only [maxLen]; omega) (by omega) hbase fun v' w' h1 h2 _ => h v' w' (by
        unfold Own
        rw [List.length_append, List.map_append]
        exact h1) h2
  by_cases hpos : 0 < ys.length
  · obtain ⟨ad, e, hcells⟩ := hc hpos
    exact use ad e hcells
  · obtain rfl : ys = [] := List.eq_nil_of_length_eq_zero (by omega)
    cases sp with
    | some ad => exact use ad rfl (fun j u hu => by simp at hu)
    | none =>
      rcases hy with ⟨_, hy | ⟨ad, c', hy⟩⟩ | ⟨b, o', c', hy, _⟩
      · obtain rfl : c = 0 := by cases hy; rfl
        have hrun := run_append_owned_none (P := Tryd.prog) (w := w) B 22 o.type 5 i 1 Tryd.underlying22 hi v xs.length (xs.map vu8) hown
        unfold Oper.wp execOp
        simp only [ho, resolve, invoke, builtin, Sem.run_bind, Sem.run_pure, Result.andThen_ok, List.map_toArray, List.map_cons, List.map_nil, hs, hx]
        have hrun' := hrun
        rw [show ([] : List (BitVec 8)).length = 0 from rfl, hrun']
        exact h v w (by rw [List.append_nil]; exact hown) (World.grownBy.refl _ _)
      · cases hy
      · cases hy

/-- Two values in a row, that at n first. -/
def pairRow (n : Nat) (a b : Value) : List Value := if n = 0 then [a, b] else [b, a]
section
variable {n o : Nat} {a b x : Value}
theorem pairRow_at (h : n + o = 1) : (pairRow n a b)[n]? = some a := by
  obtain rfl | rfl : n = 0 ∨ n = 1 := by omega
  all_goals rfl
theorem pairRow_other (h : n + o = 1) : (pairRow n a b)[o]? = some b := by
  obtain ⟨rfl, rfl⟩ | ⟨rfl, rfl⟩ : (n = 0 ∧ o = 1) ∨ (n = 1 ∧ o = 0) := by omega
  all_goals rfl
theorem pairRow_set (h : n + o = 1) : (pairRow n a b).set n x = pairRow n x b := by
  obtain rfl | rfl : n = 0 ∨ n = 1 := by omega
  all_goals rfl
theorem pairRow_set_other (h : n + o = 1) : (pairRow n a b).set o x = pairRow n a x := by
  obtain ⟨rfl, rfl⟩ | ⟨rfl, rfl⟩ : (n = 0 ∧ o = 1) ∨ (n = 1 ∧ o = 0) := by omega
  all_goals rfl
theorem pairRow_swap (h : n + o = 1) : pairRow n a b = pairRow o b a := by
  obtain ⟨rfl, rfl⟩ | ⟨rfl, rfl⟩ : (n = 0 ∧ o = 1) ∨ (n = 1 ∧ o = 0) := by omega
  all_goals rfl
end

def hashPtr (h : Nat) : Value := .pointer (some ⟨h, 0, none⟩)

/-- The blocks that a script writes to. -/
def Turned (HB MB h h' : Nat) (b : Nat) : Prop := b = HB ∨ b = MB ∨ b = h ∨ b = h'

/-- Where a script stands: two hashes, of which that at n goes on; what was written into each (m, m'), and what is kept of it (q, q'). -/
structure ScriptIn (w0 w : World) (HB MB n h h' : Nat) (s s' : Value) (m m' q q' : List (BitVec 8)) : Prop where
  below : Below w0.heap.size w0 w
  old : w0.heap.size ≤ HB ∧ w0.heap.size ≤ MB ∧ w0.heap.size ≤ h ∧ w0.heap.size ≤ h'
  apart : HB ≠ MB ∧ h ≠ h' ∧ h ≠ HB ∧ h ≠ MB ∧ h' ≠ HB ∧ h' ≠ MB
  rowH : Whole w HB 29 (pairRow n (hashPtr h) (hashPtr h'))
  rowM : Whole w MB 22 (pairRow n s s')
  one : HashIs w h m
  two : HashIs w h' m'
  kept : SliceOff w s q (Turned HB MB h h')
  kept' : SliceOff w s' q' (Turned HB MB h h')

section
variable {w0 w w' : World} {HB MB n o h h' : Nat} {s s' : Value} {m m' q q' : List (BitVec 8)}
theorem ScriptIn.low (hI : ScriptIn w0 w HB MB n h h' s s' m m' q q') (hb : Below w.heap.size w w') : ScriptIn w0 w' HB MB n h h' s s' m m' q q' :=
  ⟨hI.below.trans (hb.mono hI.below.size), hI.old, hI.apart, hI.rowH.below hb hI.rowH.lt, hI.rowM.below hb hI.rowM.lt, hI.one.below hb hI.one.lt, hI.two.below hb hI.two.lt, hI.kept.low hb, hI.kept'.low hb⟩
theorem ScriptIn.write {m2 : List (BitVec 8)} (hI : ScriptIn w0 w HB MB n h h' s s' m m' q q') (hg : w.grownBy w' (some h)) (hh : HashIs w' h m2) : ScriptIn w0 w' HB MB n h h' s s' m2 m' q q' := by
  obtain ⟨a1, a2, a3, a4, a5, a6⟩ := hI.apart
  have hX : ∀ k, some h = some k → Turned HB MB h h' k := fun k e => by cases e; exact .inr (.inr (.inl rfl))
  refine ⟨hI.below.grown hg hI.below.size fun k e => by cases e; exact hI.old.2.2.1, hI.old, hI.apart, hI.rowH.grown hg (fun e => a3 (by cases e; rfl)), hI.rowM.grown hg (fun e => a4 (by cases e; rfl)), hh, hI.two.grown hg (fun e => a2 (by cases e; rfl)), hI.kept.grown hg hX, hI.kept'.grown hg hX⟩
theorem ScriptIn.over {row : Option Nat} (hI : ScriptIn w0 w HB MB n h h' s s' m m' q q') (hg : w.grownBy w' row) (hr : ∀ k, row = some k → w0.heap.size ≤ k ∧ ¬ Turned HB MB h h' k)
    (hs : ∀ b o c, s = .slice (some ⟨b, o, none⟩) q.length c → q ≠ [] → some b ≠ row) (hs' : ∀ b o c, s' = .slice (some ⟨b, o, none⟩) q'.length c → q' ≠ [] → some b ≠ row) : ScriptIn w0 w' HB MB n h h' s s' m m' q q' := by
  have hne : ∀ k, Turned HB MB h h' k → some k ≠ row := fun k hk e => (hr k e.symm).2 hk
  exact ⟨hI.below.grown hg hI.below.size fun k e => (hr k e).1, hI.old, hI.apart, hI.rowH.grown hg (hne _ (.inl rfl)), hI.rowM.grown hg (hne _ (.inr (.inl rfl))), hI.one.grown hg (hne _ (.inr (.inr (.inl rfl)))), hI.two.grown hg (hne _ (.inr (.inr (.inr rfl)))),
    ⟨hI.kept.1.grown hg hs, hI.kept.2⟩, ⟨hI.kept'.1.grown hg hs', hI.kept'.2⟩⟩
theorem ScriptIn.swap (hI : ScriptIn w0 w HB MB n h h' s s' m m' q q') (hn : n + o = 1) : ScriptIn w0 w HB MB o h' h s' s m' m q' q := by
  obtain ⟨a1, a2, a3, a4, a5, a6⟩ := hI.apart
  have hX : ∀ b, b < w.heap.size → Turned HB MB h' h b → Turned HB MB h h' b := fun b _ e => by
    rcases e with e | e | e | e
    · exact .inl e
    · exact .inr (.inl e)
    · exact .inr (.inr (.inr e))
    · exact .inr (.inr (.inl e))
  refine ⟨hI.below, ⟨hI.old.1, hI.old.2.1, hI.old.2.2.2, hI.old.2.2.1⟩, ⟨a1, Ne.symm a2, a5, a6, a3, a4⟩, ?_, ?_, hI.two, hI.one, hI.kept'.more hX, hI.kept.more hX⟩
  · rw [← pairRow_swap hn]; exact hI.rowH
  · rw [← pairRow_swap hn]; exact hI.rowM
theorem ScriptIn.keep {v : Value} {q2 : List (BitVec 8)} (hI : ScriptIn w0 w HB MB n h h' s s' m m' q q') (hn : n + o = 1) (hv : SliceOff w v q2 (Turned HB MB h h')) : ScriptIn w0 (w.setCell ⟨MB, n, none⟩ v) HB MB n h h' v s' m m' q2 q' := by
  obtain ⟨a1, a2, a3, a4, a5, a6⟩ := hI.apart
  have hg : w.grownBy (w.setCell ⟨MB, n, none⟩ v) (some MB) := grown_set (World.grownBy.refl _ _) (.inl rfl) v
  have hX : ∀ k, some MB = some k → Turned HB MB h h' k := fun k e => by cases e; exact .inr (.inl rfl)
  refine ⟨hI.below.grown hg hI.below.size fun k e => by cases e; exact hI.old.2.1, hI.old, hI.apart, hI.rowH.grown hg (fun e => a1 (by cases e; rfl)), ?_, hI.one.grown hg (fun e => a4 (by cases e; rfl)), hI.two.grown hg (fun e => a6 (by cases e; rfl)), hv.grown hg hX, hI.kept'.grown hg hX⟩
  rw [← pairRow_set hn (a := s)]
  exact hI.rowM.put n v
/-- A clone is laid in the other's place. -/
theorem ScriptIn.clone {c : Nat} (hI : ScriptIn w0 w HB MB n h h' s s' m m' q q') (hn : n + o = 1) (hb : Below w.heap.size w w') (hc : w.heap.size ≤ c) (hh : HashIs w' c m) :
    ScriptIn w0 (w'.setCell ⟨HB, o, none⟩ (hashPtr c)) HB MB n h c s s' m m q q' := by
  have hJ := hI.low hb
  obtain ⟨a1, a2, a3, a4, a5, a6⟩ := hI.apart
  have l1 := hI.rowH.lt
  have l2 := hI.rowM.lt
  have l3 := hI.one.lt
  have l4 := hI.two.lt
  have hg : w'.grownBy (w'.setCell ⟨HB, o, none⟩ (hashPtr c)) (some HB) := grown_set (World.grownBy.refl _ _) (.inl rfl) _
  have hX : ∀ k, some HB = some k → Turned HB MB h c k := fun k e => by cases e; exact .inl rfl
  have hm : ∀ b, b < w.heap.size → Turned HB MB h c b → Turned HB MB h h' b := fun b hl e => by
    rcases e with e | e | e | e
    · exact .inl e
    · exact .inr (.inl e)
    · exact .inr (.inr (.inl e))
    · omega
  refine ⟨hJ.below.grown hg hJ.below.size fun k e => by cases e; exact hI.old.1, ⟨hI.old.1, hI.old.2.1, hI.old.2.2.1, by have := hI.below.size; omega⟩, ⟨a1, by omega, a3, a4, by omega, by omega⟩, ?_, hJ.rowM.grown hg (fun e => a1 (by cases e; rfl)), hJ.one.grown hg (fun e => a3 (by cases e; rfl)), hh.grown hg (fun e => by cases e; omega), ((hI.kept.more hm).low hb).grown hg hX, ((hI.kept'.more hm).low hb).grown hg hX⟩
  rw [← pairRow_set_other hn (b := hashPtr h')]
  exact hJ.rowH.put o _
/-- What is kept of the one is kept of the other. -/
theorem ScriptIn.share (hI : ScriptIn w0 w HB MB n h h' s s' m m' q q') (hn : n + o = 1) : ScriptIn w0 (w.setCell ⟨MB, o, none⟩ s) HB MB n h h' s s m m' q q := by
  have := ((hI.swap hn).keep (o := n) (by omega) (hI.kept.more fun b _ e => by
    rcases e with e | e | e | e
    · exact .inl e
    · exact .inr (.inl e)
    · exact .inr (.inr (.inr e))
    · exact .inr (.inr (.inl e)))).swap (o := n) (by omega)
  exact this
end

/-- A script that came in: calls with their kinds and their bytes. -/
def ActsAt (w : World) (sl : Value) (acts : List (BitVec 8 × Value × List (BitVec 8))) : Prop :=
  ∃ ao c, sl = .slice ao acts.length c ∧ (acts ≠ [] → ∃ b o, ao = some ⟨b, o, none⟩ ∧ b < w.heap.size ∧ ∀ i k v bs, acts[i]? = some (k, v, bs) → w.cell? ⟨b, o + i * 2, none⟩ = some (vu8 k) ∧ w.cell? ⟨b, o + i * 2 + 1, none⟩ = some v ∧ SliceIs w v bs)

open Go.ChangeShapes Go.WideShapes in
theorem bytes_of_trod {H : Type} {enc : TypeId × Value → H} {w : World} {base : Nat} {sp : Nat → Bool} {held : Bool} {fuel : Nat} {v : Value} {x : DataW H × List MemPlace}
    (h : DataW.trod enc Tryd.prog w base sp held fuel 22 [v] = some x) : ∃ bs, SliceIs w v bs := by
  rcases open_ints Tryd.underlying22 Tryd.underlying5 cells_u8 h with ⟨hcs, _⟩ | ⟨a, len', cap', zs, hcs, _, hl, hm, hz, _, hcell, hwz⟩
  · cases hcs
    exact ⟨[], .inl ⟨rfl, .inl rfl⟩⟩
  · cases hcs
    have hle : len' ≤ zs.length := by rw [hz]; split <;> omega
    by_cases h0 : len' = 0
    · subst h0
      exact ⟨[], .inl ⟨rfl, .inr ⟨a, cap', rfl⟩⟩⟩
    · obtain ⟨b, off, rfl, hc⟩ := ints_at hcell (by omega)
      have hb := bytes_of_ints hc hwz len'
      have hlen : ((zs.take len').map (BitVec.ofInt 8)).length = len' := by simp; omega
      exact ⟨(zs.take len').map (BitVec.ofInt 8), .inr ⟨b, off, cap', by rw [hlen], block_lt (hc 0 (by omega)), hb⟩⟩

set_option maxRecDepth 100000 in
open Go.ChangeShapes Go.WideShapes Go.Deep in
theorem acts_arg {H : Type} {enc : TypeId × Value → H} {w : World} {base b0 : Nat} {sp : Nat → Bool} {held : Bool} {r : Reach} {v : Value} {d : DataW H} {ps : List MemPlace}
    (hv : Value.okWide Tryd.prog w r b0 42 v) (h : DataW.Trod enc Tryd.prog w base sp held 42 v d ps) : ∃ acts, ActsAt w v acts := by
  obtain ⟨ao, len, cap, rfl⟩ := okWide_slice Tryd.underlying42 hv
  obtain ⟨fuel, h⟩ := h
  rcases open_slice_pairs Tryd.underlying42 Tryd.underlying45 (by kernel_rfl) rfl rfl (by kernel_rfl) (by kernel_rfl) h with ⟨hcs, _⟩ | ⟨a, len', cap', m, n, V0, V1, D0, D1, P0, P1, hcs, _, hl, hm, hmm, _, hx⟩
  · simp [Value.cells] at hcs
    obtain ⟨rfl, rfl, rfl⟩ := hcs
    exact ⟨[], none, 0, rfl, fun h => absurd rfl h⟩
  · simp [Value.cells] at hcs
    obtain ⟨rfl, rfl, rfl⟩ := hcs
    have hle : len ≤ m := by rw [hmm]; split <;> omega
    have each : ∀ i, i < m → ∃ q : BitVec 8 × List (BitVec 8), V0 i = vu8 q.1 ∧ SliceIs w (V1 i) q.2 := fun i hi => by
      obtain ⟨_, _, h0, h1⟩ := hx i hi
      obtain ⟨bs, hbs⟩ := bytes_of_trod h1
      obtain ⟨z, hz, _, hw⟩ := DataW.trod_int Tryd.underlying5 h0
      have hb := bounds_u8 hw
      exact ⟨(BitVec.ofInt 8 z, bs), by
        have e : V0 i = .int .u8 z := by simpa using hz
        rw [e]
        exact lit_u8 z hb.1 (by omega), hbs⟩
    obtain ⟨q, hq⟩ := choose_lt each
    refine ⟨(List.range len).map fun i => ((q i).1, V1 i, (q i).2), some a, cap, by simp, fun hne => ?_⟩
    have hpos : 0 < len := by
      rcases Nat.eq_zero_or_pos len with rfl | h
      · exact absurd rfl hne
      · exact h
    obtain ⟨b, off, spot⟩ := a
    have h00 := (hx 0 (by omega)).1
    have hspot : spot = none := by simpa [Addr.add] using World.cell?_spot h00
    subst hspot
    refine ⟨b, off, rfl, by simpa [Go.WideShapes.add_plain] using block_lt h00, fun i k v bs hi => ?_⟩
    have hil : i < len := by
      have := (List.getElem?_eq_some_iff.1 hi).1
      simpa using this
    simp [hil] at hi
    obtain ⟨rfl, rfl, rfl⟩ := hi
    obtain ⟨c0, c1, _, _⟩ := hx i (by omega)
    rw [Go.WideShapes.add_plain] at c0 c1
    exact ⟨by rw [c0, (hq i (by omega)).1], by simpa [Nat.add_assoc] using c1, (hq i (by omega)).2⟩

end Go.Proofs.YtngklnijmhlikaaDoor
