/- The log's bytes, read by a table. -/
import Derived.Test.YtmmlpbepaefamaaGreatDoorCrcX3
import Derived.Test.YtmmlpbepaefamaaGreatDoorMemX6
namespace Go.Proofs.YtmmlpbepaefamaaGreatDoor
open Go.RowKit

/-- Which records are read of bytes, and of how many; none: they are broken. -/
def readC (l : List (BitVec 8)) : Option (List (List (BitVec 8)) × Nat) :=
  if h : l.length < 8 then some ([], 0)
  else if (checkC (l.take 4) != numC (l.drop 4)) = true ∨ 65536 < (numC l).toNat then none
  else if l.length < (numC l).toNat + 12 then some ([], 0)
  else if (checkC ((l.drop 8).take (numC l).toNat) != numC (l.drop (8 + (numC l).toNat))) = true then none
  else (readC (l.drop (12 + (numC l).toNat))).map fun r => ((l.drop 8).take (numC l).toNat :: r.1, 12 + (numC l).toNat + r.2)
termination_by l.length
decreasing_by simp; omega

/-- What is read when so much was read already. -/
def readOn (bs : List (List (BitVec 8))) (pos : Nat) (r : Option (List (List (BitVec 8)) × Nat)) : Option (List (List (BitVec 8)) × Nat) := r.map fun x => (bs ++ x.1, pos + x.2)

/-- Bytes in a slice with as much room as they need. -/
def SliceR (w : World) (v : Value) (l : List (BitVec 8)) : Prop := SliceIs w v l ∧ ∃ a c, v = .slice a l.length c ∧ l.length ≤ c
theorem SliceR.low {w w' : World} {v : Value} {l : List (BitVec 8)} (h : SliceR w v l) (hb : Below w.heap.size w w') : SliceR w' v l := ⟨h.1.low hb, h.2⟩
theorem Own.room {w : World} {B : Nat} {v : Value} {l : List (BitVec 8)} (h : Own w B v l) : SliceR w v l := by
  refine ⟨h.slice, ?_⟩
  rcases h.shape with ⟨rfl, rfl⟩ | ⟨g, cap, rfl, _, _, _, hc, _⟩
  · exact ⟨_, _, rfl, Nat.le_refl _⟩
  · exact ⟨_, _, rfl, hc⟩
theorem SliceIs.part {w : World} {p : Option Addr} {c a b : Nat} {l : List (BitVec 8)} (h : SliceIs w (.slice p l.length c) l) (ha : a ≤ b) (hb : b ≤ l.length) (hc : l.length ≤ c) :
    SliceR w (.slice (if c = a then p else Option.map (fun x => x.add a) p) (b - a) (c - a)) ((l.drop a).take (b - a)) := by
  have hl : ((l.drop a).take (b - a)).length = b - a := by
    rw [List.length_take, List.length_drop]
    omega
  refine ⟨?_, _, _, by rw [hl], by rw [hl]; omega⟩
  by_cases hz : b - a = 0
  · rw [hz, List.take_zero]
    refine .inl ⟨rfl, ?_⟩
    rcases h with ⟨_, h | ⟨ad, c', h⟩⟩ | ⟨g, o, c', h, _⟩
    · injection h with h1 h2 h3
      subst h1 h3
      left
      simp
    · injection h with h1 h2 h3
      subst h1 h3
      right
      split <;> exact ⟨_, _, rfl⟩
    · injection h with h1 h2 h3
      subst h1 h3
      right
      split <;> exact ⟨_, _, rfl⟩
  · rw [if_neg (by omega)]
    rcases h with ⟨rfl, _⟩ | ⟨g, o, c', he, hg, hy⟩
    · simp at hb
      omega
    · injection he with h1 h2 h3
      subst h1 h3
      refine .inr ⟨g, o + a, c - a, by rw [hl]; simp [Go.WideShapes.add_plain], hg, ?_⟩
      exact (hy.drop a).take (b - a)
theorem SliceR.front {w : World} {p : Option Addr} {c b : Nat} {l : List (BitVec 8)} (h : SliceR w (.slice p l.length c) l) (hb : b ≤ l.length) : SliceR w (.slice p b c) (l.take b) := by
  have hl : (l.take b).length = b := by rw [List.length_take]; omega
  obtain ⟨h, _, _, he, hc⟩ := h
  injection he with he1 he2 he3
  subst he3
  refine ⟨?_, _, _, by rw [hl], by rw [hl]; omega⟩
  by_cases hz : b = 0
  · subst hz
    rw [List.take_zero]
    refine .inl ⟨rfl, ?_⟩
    rcases h with ⟨_, h | ⟨ad, c', h⟩⟩ | ⟨g, o, c', h, _⟩
    · injection h with h1 h2 h3
      subst h1 h3
      exact .inl rfl
    · injection h with h1 h2 h3
      subst h1 h3
      exact .inr ⟨_, _, rfl⟩
    · injection h with h1 h2 h3
      subst h1 h3
      exact .inr ⟨_, _, rfl⟩
  · rcases h with ⟨rfl, _⟩ | ⟨g, o, c', he, hg, hy⟩
    · simp at hb
      omega
    · injection he with h1 h2 h3
      subst h1 h3
      exact .inr ⟨g, o, _, by rw [hl], hg, hy.take b⟩
theorem SliceR.mid {w : World} {p : Option Addr} {c a b : Nat} {l : List (BitVec 8)} (h : SliceR w (.slice p l.length c) l) (ha : a ≤ b) (hb : b ≤ l.length) :
    SliceR w (.slice (if c = a then p else Option.map (fun x => x.add a) p) (b - a) (c - a)) ((l.drop a).take (b - a)) := by
  obtain ⟨h, _, _, he, hc⟩ := h
  injection he with he1 he2 he3
  subst he3
  exact h.part ha hb hc
theorem SliceR.back {w : World} {p : Option Addr} {c a : Nat} {l : List (BitVec 8)} (h : SliceR w (.slice p l.length c) l) (ha : a ≤ l.length) :
    SliceR w (.slice (if c = a then p else Option.map (fun x => x.add a) p) (l.length - a) (c - a)) (l.drop a) := by
  have := h.mid ha (Nat.le_refl _)
  rwa [List.take_of_length_le (by rw [List.length_drop]; exact Nat.le_refl _)] at this
/-- Lists of bytes: a row of slices of the call's own, each of which holds its bytes. -/
structure ListsOwn (w : World) (B : Nat) (v : Value) (bs : List (List (BitVec 8))) : Prop where
  row : ∃ vs : List Value, vs.length = bs.length ∧ w.ownsRow B 30 1 v vs.length (vs.flatMap fun x => [x]) ∧ ∀ (i : Nat) (x : List (BitVec 8)), bs[i]? = some x → ∃ u : Value, vs[i]? = some u ∧ Own w B u x
theorem info_bytes : ∃ i, Tryz.prog.info? 30 = some i ∧ i.zero = some (.slice none 0 0) ∧ i.size = 1 ∧ i.bytes = 24 := info_of (by kernel_rfl)

theorem ListsOwn.low {w w' : World} {B : Nat} {v : Value} {bs : List (List (BitVec 8))} (h : ListsOwn w B v bs) (hb : Below w.heap.size w w') : ListsOwn w' B v bs := by
  obtain ⟨vs, h1, h2, h3⟩ := h.row
  refine ⟨vs, h1, row_low h2 hb, fun i x hx => ?_⟩
  obtain ⟨u, hu, ho⟩ := h3 i x hx
  exact ⟨u, hu, row_low ho hb⟩
structure RB (w : World) (T O b0 o0 : Nat) (r : List (BitVec 8)) : Prop where
  tab : TabAt w T O
  bytes : BytesAt w b0 o0 r
  lt : b0 < w.heap.size
theorem RB.on {w w' : World} {T O b0 o0 : Nat} {r : List (BitVec 8)} (h : RB w T O b0 o0 r) (hb : Below w.heap.size w w') : RB w' T O b0 o0 r :=
  ⟨h.tab.low hb, h.bytes.below hb h.lt, Nat.lt_of_lt_of_le h.lt hb.size⟩
theorem ListsOwn.added {w7 w11 w12 : World} {B : Nat} {v u v12 : Value} {vs : List Value} {bs : List (List (BitVec 8))} {x : List (BitVec 8)} (hvs : vs.length = bs.length) (hbod : ∀ (i : Nat) (x : List (BitVec 8)), bs[i]? = some x → ∃ u : Value, vs[i]? = some u ∧ Own w7 B u x)
    (hlow : Below w7.heap.size w7 w11) (hrow : w11.ownsRow B 30 1 v vs.length (vs.flatMap fun x => [x])) (hO : Own w11 B u x) (hG : w11.grownBy w12 v.ownBlock)
    (hO12 : w12.ownsRow B 30 1 v12 (vs ++ [u]).length ((vs ++ [u]).flatMap fun x => [x])) : ListsOwn w12 B v12 (bs ++ [x]) := by
  have keep : ∀ {u : Value} {x : List (BitVec 8)}, Own w11 B u x → Own w12 B u x := fun {u x} h => row_only h (Only.of_grown hG) fun g hg e => by
    obtain ⟨cur, hc⟩ := row_type h hg
    obtain ⟨cur', hc'⟩ := row_type hrow e
    rw [hc] at hc'
    injection hc' with hc'
    injection hc' with _ hc' _
    exact absurd hc' (by decide)
  refine ⟨vs ++ [u], by simp [hvs], hO12, fun i y hy => ?_⟩
  rw [List.getElem?_append] at hy ⊢
  by_cases hi : i < bs.length
  · rw [if_pos hi] at hy
    rw [if_pos (by omega)]
    obtain ⟨u', hu', ho'⟩ := hbod i y hy
    exact ⟨u', hu', keep (row_low ho' hlow)⟩
  · rw [if_neg hi] at hy
    rw [if_neg (by omega)]
    have h0 : i - bs.length = 0 := by
      have := (List.getElem?_eq_some_iff.1 hy).1
      simp at this
      omega
    rw [h0] at hy
    obtain rfl : x = y := by simpa using hy
    exact ⟨u, by rw [hvs, h0]; rfl, keep hO⟩
theorem zero_bytes_sl : (Tryz.prog.info? 30).map (fun i => (i.zero, i.size)) = some (some (.slice none 0 0), 1) := by kernel_rfl
theorem readC_def (l : List (BitVec 8)) (h : ¬ l.length < 8) : readC l = if (checkC (l.take 4) != numC (l.drop 4)) = true ∨ 65536 < (numC l).toNat then none
  else if l.length < (numC l).toNat + 12 then some ([], 0)
  else if (checkC ((l.drop 8).take (numC l).toNat) != numC (l.drop (8 + (numC l).toNat))) = true then none
  else (readC (l.drop (12 + (numC l).toNat))).map fun r => ((l.drop 8).take (numC l).toNat :: r.1, 12 + (numC l).toNat + r.2) := by
  rw [readC, dif_neg h]

set_option maxRecDepth 100000 in
set_option maxHeartbeats 4000000 in
theorem read_calls (w : World) (T O : Nat) (v : Value) (l : List (BitVec 8)) (hT : TabAt w T O) (hv : SliceR w v l) (hlen : l.length ≤ 1100000) :
    Calls Tryz.prog 57 #[.pointer (some ⟨T, O, none⟩), v] w fun e w' => Below w.heap.size w w' ∧ ((readC l = none ∧ e = .returned (.tuple #[.slice none 0 0, .int .i64 0, .int .i64 14])) ∨
      ∃ u bs n, readC l = some (bs, n) ∧ e = .returned (.tuple #[u, .int .i64 n, .int .i64 0]) ∧ ListsOwn w' w.heap.size u bs) := by
  obtain ⟨hv, pa, ca, rfl, hca⟩ := hv
  obtain ⟨N, hN⟩ : ∃ n, l.length = n := ⟨_, rfl⟩
  have HT := Lib.hid hT
  have HN := Lib.hid hN
  have HL := Lib.hid hlen
  rw [hN] at hv hca ⊢
  have HV0 := Lib.hid (And.intro hv hca)
  clear hT hN hlen hv hca
  go_enter Tryz.func57, Tryz.ntmps57
  go_wp2
  go_loopw [7, 8] (fun o x wr => ∃ (pos M : Nat) (bs : List (List (BitVec 8))) (p q : Option Addr) (c k d : Nat), pos + M = N ∧ 12 * bs.length ≤ pos ∧ x = .slice p M c ∧ o = .slice q k d ∧ SliceR w (.slice p M c) (l.drop pos) ∧ ListsOwn wr w.heap.size (.slice q k d) bs ∧ Below w.heap.size w wr ∧ readC l = readOn bs pos (readC (l.drop pos))) (fun _ x _ => match x with | .slice _ n _ => n | _ => 0)
  case atStart =>
    refine ⟨0, N, [], pa, none, ca, 0, 0, by omega, by simp, rfl, rfl, ⟨by rw [List.drop_zero]; exact HV0.out.1, pa, ca, by rw [List.drop_zero, HN.out], by rw [List.drop_zero, HN.out]; exact HV0.out.2⟩, ⟨[], rfl, World.ownsRow_nil w _ _ _, fun i x hx => by simp at hx⟩, Below.refl _ _, ?_⟩
    simp [readOn]
  case round =>
    obtain ⟨pos, M, bs, p, q, c, k, d, hpos, hbl, rfl, rfl, hR, hO, hB, hC⟩ := hrel
    have HBL := Lib.hid hbl
    clear hbl
    obtain ⟨r, hr⟩ : ∃ r, l.drop pos = r := ⟨_, rfl⟩
    rw [hr] at hR hC
    have hrl : r.length = M := by rw [← hr, List.length_drop, HN.out]; omega
    have HC := Lib.hid hC
    have HO := Lib.hid hO
    have HR := Lib.hid (And.intro hr hrl)
    clear hr hrl hC hO
    have hcM : M ≤ c := by
      obtain ⟨_, _, he, hc⟩ := hR.2
      injection he with _ h2 h3
      omega
    by_cases h8 : 8 ≤ M
    · have i8 : (8 : Int) ≤ (M : Int) := by omega
      obtain ⟨n, hn⟩ : ∃ n, (numC r).toNat = n := ⟨_, rfl⟩
      obtain ⟨b0, o0, rfl, hbl, hby⟩ : ∃ b0 o0, p = some ⟨b0, o0, none⟩ ∧ b0 < w.heap.size ∧ BytesAt w b0 o0 r := by
        rcases hR.1 with ⟨rfl, _⟩ | ⟨b0, o0, c', he, hl, hy⟩
        · have := HR.out.2
          simp at this
          omega
        · injection he with h1 h2 h3
          exact ⟨b0, o0, h1, hl, hy⟩
      have hS : RB wr T O b0 o0 r := ⟨HT.out.low hB, hby.below hB hbl, Nat.lt_of_lt_of_le hbl hB.size⟩
      have HNR := Lib.hid (number_calls wr (.slice (some ⟨b0, o0, none⟩) M c) r (.inr ⟨b0, o0, c, by rw [HR.out.2], hS.lt, hS.bytes⟩) (by rw [HR.out.2]; omega))
      clear hbl hby
      have c1 : ¬ c = 4 := by omega
      have c2 : (4 : Int) ≤ (c : Int) := by omega
      have c3 : (4 : Int) ≤ (M : Int) := by omega
      go_upto_region 5 with (first
        | (go_at_call 81; refine HNR.out.mono ?_; rintro e w2 ⟨rfl, b2⟩; replace hS := hS.on b2)
        | fail)
      have B2 : Below w.heap.size w w2 := hB.trans (b2.mono hB.size)
      replace HO := Lib.hid (ListsOwn.low HO.out b2)
      clear hB b2
      have HC1 := Lib.hid (fun w' (h : RB w' T O b0 o0 r) => check_calls w' T O (.slice (some ⟨b0, o0, none⟩) 4 c) (r.take 4) h.tab (.inr ⟨b0, o0, c, by rw [List.length_take, HR.out.2, Nat.min_eq_left (by omega)], h.lt, h.bytes.take 4⟩) (by rw [List.length_take]; omega))
      have HN1 := Lib.hid (fun w' (h : RB w' T O b0 o0 r) => number_calls w' (.slice (some ⟨b0, o0 + 4, none⟩) (M - 4) (c - 4)) (r.drop 4) (.inr ⟨b0, o0 + 4, c - 4, by rw [List.length_drop, HR.out.2], h.lt, h.bytes.drop 4⟩) (by rw [List.length_drop, HR.out.2]; omega))
      have HRD := Lib.hid (readC_def r (by rw [HR.out.2]; omega))
      obtain ⟨C1, hC1⟩ : ∃ x, checkC (r.take 4) = x := ⟨_, rfl⟩
      obtain ⟨K1, hK1⟩ : ∃ x, numC (r.drop 4) = x := ⟨_, rfl⟩
      rw [hC1] at HC1
      rw [hK1] at HN1
      rw [hC1, hK1, hn, HR.out.2] at HRD
      clear hC1 hK1 hn
      cases h1 : (C1 != K1)
      · rw [h1] at HRD
        refine wp_region_noPanic ?_
        refine wp_region_held_drew (S := fun w' => RB w' T O b0 o0 r) (by kernel_rfl) (hS.on ((Below.refl _ _).drew)) (fun hhS => ?_)
        replace hhS := hS.on ((Below.refl w2.heap.size w2).drew)
        have hb : Below w2.heap.size w2 w2.drew := (Below.refl _ _).drew
        clear hS
        generalize w2.drew = wd at hhS hb ⊢
        refine wpAnyH_take (i := 0) (oi := ⟨some 18, _, _, _, _, _⟩) (v := ?_) rfl (by kernel_rfl) (by kernel_rfl) (by kernel_rfl) (fun _ _ _ h => h) (Or.inl ⟨by rfl, ?_⟩) (by assumption) ?_
        rotate_left
        · intro w hSw
          (try dsimp only at hSw)
          go_simp
          all_goals (with_reducible rfl)
        try simp only [Act.put, List.setIfInBounds_toArray, List.set_cons_zero, List.set_cons_succ]
        refine wpAnyH_take (i := 1) (oi := ⟨some 19, _, _, _, _, _⟩) (v := ?_) rfl (by kernel_rfl) (by kernel_rfl) (by kernel_rfl) (fun _ _ _ h => h) (Or.inl ⟨by rfl, ?_⟩) (by assumption) ?_
        rotate_left
        · intro w hSw
          (try dsimp only at hSw)
          go_simp
          all_goals (with_reducible rfl)
        try simp only [Act.put, List.setIfInBounds_toArray, List.set_cons_zero, List.set_cons_succ]
        refine wpAnyH_take (i := 2) (oi := ⟨some 20, _, _, _, _, _⟩) (v := ?_) rfl (by kernel_rfl) (by kernel_rfl) (by kernel_rfl) (fun _ _ _ h => h) (Or.inl ⟨by rfl, ?_⟩) (by assumption) ?_
        rotate_left
        · intro w hSw
          (try dsimp only at hSw)
          go_simp
          all_goals (with_reducible rfl)
        try simp only [Act.put, List.setIfInBounds_toArray, List.set_cons_zero, List.set_cons_succ]
        refine wpAnyH_take (i := 4) (oi := ⟨some 22, _, _, _, _, _⟩) (v := ?_) rfl (by kernel_rfl) (by kernel_rfl) (by kernel_rfl) (fun _ _ _ h => h) (Or.inl ⟨by rfl, ?_⟩) (by assumption) ?_
        rotate_left
        · intro w hSw
          (try dsimp only at hSw)
          go_simp
          all_goals (with_reducible rfl)
        try simp only [Act.put, List.setIfInBounds_toArray, List.set_cons_zero, List.set_cons_succ]
        refine wpAnyH_take (i := 5) (oi := ⟨some 23, _, _, _, _, _⟩) (v := ?_) rfl (by kernel_rfl) (by kernel_rfl) (by kernel_rfl) (fun _ _ _ h => h) (Or.inl ⟨by rfl, ?_⟩) (by assumption) ?_
        rotate_left
        · intro w hSw
          (try dsimp only at hSw)
          go_simp
          all_goals (with_reducible rfl)
        try simp only [Act.put, List.setIfInBounds_toArray, List.set_cons_zero, List.set_cons_succ]
        refine wpAnyH_ready (rs := [3]) (by kernel_rfl) (by simp) ?_
        refine AllReadyH.cons (o := ⟨some 21, _, _, _, _, _⟩) rfl (fun K hK => ?_) AllReadyH.nil
        go_simp
        refine (HC1.out _ hhS).mono ?_
        rintro e w3 ⟨rfl, hw3⟩
        rw [← hw3]
        clear hw3
        refine hK.out _ _ (hhS) (fun _ => ?_)
        clear hK K
        try simp only [Act.put, List.setIfInBounds_toArray, List.set_cons_zero, List.set_cons_succ]
        refine wpAnyH_ready (rs := [6]) (by kernel_rfl) (by simp) ?_
        refine AllReadyH.cons (o := ⟨some 24, _, _, _, _, _⟩) rfl (fun K hK => ?_) AllReadyH.nil
        go_simp
        refine (HN1.out _ hhS).mono ?_
        rintro e w6 ⟨rfl, hb6⟩
        replace hhS := hhS.on hb6
        replace hb := hb.trans (hb6.mono hb.size)
        clear hb6
        refine hK.out _ _ (hhS) (fun _ => ?_)
        clear hK K
        try simp only [Act.put, List.setIfInBounds_toArray, List.set_cons_zero, List.set_cons_succ]
        refine wpAnyH_take (i := 7) (oi := ⟨some 25, _, _, _, _, _⟩) (v := .bool false) rfl (by kernel_rfl) (by kernel_rfl) (by kernel_rfl) (fun _ _ _ h => h) (Or.inl ⟨by rfl, ?_⟩) (by assumption) ?_
        · intro w hSw
          (try dsimp only at hSw)
          go_simp
          all_goals (first | done | simp)
        try simp only [Act.put, List.setIfInBounds_toArray, List.set_cons_zero, List.set_cons_succ]
        refine wpAnyH_take (i := 8) (oi := ⟨some 26, _, _, _, _, _⟩) (v := ?_) rfl (by kernel_rfl) (by kernel_rfl) (by kernel_rfl) (fun _ _ _ h => h) (Or.inl ⟨by rfl, ?_⟩) (by assumption) ?_
        rotate_left
        · intro w hSw
          (try dsimp only at hSw)
          go_simp
          all_goals (with_reducible rfl)
        try simp only [Act.put, List.setIfInBounds_toArray, List.set_cons_zero, List.set_cons_succ]
        refine wpAnyH_take (i := 9) (oi := ⟨some 27, _, _, _, _, _⟩) (v := ?_) rfl (by kernel_rfl) (by kernel_rfl) (by kernel_rfl) (fun _ _ _ h => h) (Or.inl ⟨by rfl, ?_⟩) (by assumption) ?_
        rotate_left
        · intro w hSw
          (try dsimp only at hSw)
          go_simp
          all_goals (with_reducible rfl)
        try simp only [Act.put, List.setIfInBounds_toArray, List.set_cons_zero, List.set_cons_succ]
        refine wpAnyH_take (i := 10) (oi := ⟨some 28, _, _, _, _, _⟩) (v := ?_) rfl (by kernel_rfl) (by kernel_rfl) (by kernel_rfl) (fun _ _ _ h => h) (Or.inl ⟨by rfl, ?_⟩) (by assumption) ?_
        rotate_left
        · intro w hSw
          (try dsimp only at hSw)
          go_simp
          all_goals (with_reducible rfl)
        try simp only [Act.put, List.setIfInBounds_toArray, List.set_cons_zero, List.set_cons_succ]
        refine wpAnyH_take (i := 11) (oi := ⟨some 29, _, _, _, _, _⟩) (v := ?_) rfl (by kernel_rfl) (by kernel_rfl) (by kernel_rfl) (fun _ _ _ h => h) (Or.inl ⟨by rfl, ?_⟩) (by assumption) ?_
        rotate_left
        · intro w hSw
          (try dsimp only at hSw)
          go_simp
          all_goals (with_reducible rfl)
        try simp only [Act.put, List.setIfInBounds_toArray, List.set_cons_zero, List.set_cons_succ]
        refine wpAnyH_done (by kernel_rfl) ?_ _
        refine NoPanic.normal ?_
        replace B2 := B2.trans (hb.mono B2.size)
        replace HO := Lib.hid (HO.out.low hb)
        clear hb
        by_cases hbig : 65536 < n
        · have i5 : (65536 : Int) < (n : Int) := by omega
          have HF := Lib.hid (show readC l = none by rw [HC.out, HRD.out, if_pos (.inr hbig)]; rfl)
          clear HO hhS HRD HC
          go_wp2
          go_ret3
          exact ⟨B2, .inl ⟨HF.out, rfl⟩⟩
        · have i5 : ¬ (65536 : Int) < (n : Int) := by omega
          have b1 : IntKind.i64.wrap ((n : Int) + 12) = (n : Int) + 12 := IntWalk.i64_in _ (by omega)
          rw [if_neg (by simp [hbig])] at HRD
          by_cases hsh : M < n + 12
          · have i6 : (M : Int) < (n : Int) + 12 := by omega
            rw [if_pos hsh] at HRD
            have b3 : IntKind.i64.wrap ((N : Int) - (M : Int)) = (pos : Int) := by rw [IntWalk.i64_in _ (by have := HL.out; have := HN.out; omega)]; omega
            have HF := Lib.hid (show readC l = some (bs, pos) by rw [HC.out, HRD.out]; simp [readOn])
            clear hhS HRD HC
            go_wp2
            go_ret3
            exact ⟨B2, .inr ⟨_, bs, pos, HF.out, rfl, HO.out⟩⟩
          · have i6 : ¬ (M : Int) < (n : Int) + 12 := by omega
            rw [if_neg hsh] at HRD
            have b4 : IntKind.i64.wrap (8 + (n : Int)) = 8 + (n : Int) := IntWalk.i64_in _ (by omega)
            have d1 : ¬ c = 8 := by omega
            have d2 : (8 : Int) ≤ 8 + (n : Int) := by omega
            have d3 : 8 + (n : Int) ≤ (c : Int) := by omega
            have d4 : ¬ c = 8 + n := by omega
            have e6 : (0 : Int) ≤ 8 + (n : Int) := by omega
            have e7 : (8 + (n : Int)).toNat = 8 + n := by omega
            have d5 : (8 : Int) + (n : Int) ≤ (M : Int) := by omega
            go_upto_region 9 with fail
            try rw [show 8 + n - 8 = n by omega]
            have HC2 := Lib.hid (fun w' (h : RB w' T O b0 o0 r) => check_calls w' T O (.slice (some ⟨b0, o0 + 8, none⟩) n (c - 8)) ((r.drop 8).take n) h.tab (.inr ⟨b0, o0 + 8, c - 8, by rw [List.length_take, List.length_drop, HR.out.2, Nat.min_eq_left (by omega)], h.lt, (h.bytes.drop 8).take n⟩) (by rw [List.length_take]; omega))
            have HN2 := Lib.hid (fun w' (h : RB w' T O b0 o0 r) => number_calls w' (.slice (some ⟨b0, o0 + (8 + n), none⟩) (M - (8 + n)) (c - (8 + n))) (r.drop (8 + n)) (.inr ⟨b0, o0 + (8 + n), c - (8 + n), by rw [List.length_drop, HR.out.2], h.lt, h.bytes.drop (8 + n)⟩) (by rw [List.length_drop, HR.out.2]; omega))
            obtain ⟨C2, hC2⟩ : ∃ x, checkC ((r.drop 8).take n) = x := ⟨_, rfl⟩
            obtain ⟨K2, hK2⟩ : ∃ x, numC (r.drop (8 + n)) = x := ⟨_, rfl⟩
            rw [hC2] at HC2 HRD
            rw [hK2] at HN2 HRD
            clear hC2 hK2
            have hS := hhS
            clear hhS
            cases h2 : (C2 != K2)
            · rw [h2] at HRD
              refine wp_region_noPanic ?_
              refine wp_region_held_drew (S := fun w' => RB w' T O b0 o0 r) (by kernel_rfl) (hS.on ((Below.refl _ _).drew)) (fun hhS => ?_)
              replace hhS := hS.on ((Below.refl w6.heap.size w6).drew)
              have hb : Below w6.heap.size w6 w6.drew := (Below.refl _ _).drew
              clear hS
              generalize w6.drew = wd at hhS hb ⊢
              refine wpAnyH_take (i := 0) (oi := ⟨some 39, _, _, _, _, _⟩) (v := ?_) rfl (by kernel_rfl) (by kernel_rfl) (by kernel_rfl) (fun _ _ _ h => h) (Or.inl ⟨by rfl, ?_⟩) (by assumption) ?_
              rotate_left
              · intro w hSw
                (try dsimp only at hSw)
                go_simp
                all_goals (with_reducible rfl)
              try simp only [Act.put, List.setIfInBounds_toArray, List.set_cons_zero, List.set_cons_succ]
              refine wpAnyH_take (i := 1) (oi := ⟨some 40, _, _, _, _, _⟩) (v := ?_) rfl (by kernel_rfl) (by kernel_rfl) (by kernel_rfl) (fun _ _ _ h => h) (Or.inl ⟨by rfl, ?_⟩) (by assumption) ?_
              rotate_left
              · intro w hSw
                (try dsimp only at hSw)
                go_simp
                all_goals (with_reducible rfl)
              try simp only [Act.put, List.setIfInBounds_toArray, List.set_cons_zero, List.set_cons_succ]
              refine wpAnyH_take (i := 3) (oi := ⟨some 42, _, _, _, _, _⟩) (v := ?_) rfl (by kernel_rfl) (by kernel_rfl) (by kernel_rfl) (fun _ _ _ h => h) (Or.inl ⟨by rfl, ?_⟩) (by assumption) ?_
              rotate_left
              · intro w hSw
                (try dsimp only at hSw)
                go_simp
                all_goals (with_reducible rfl)
              try simp only [Act.put, List.setIfInBounds_toArray, List.set_cons_zero, List.set_cons_succ]
              refine wpAnyH_take (i := 4) (oi := ⟨some 43, _, _, _, _, _⟩) (v := ?_) rfl (by kernel_rfl) (by kernel_rfl) (by kernel_rfl) (fun _ _ _ h => h) (Or.inl ⟨by rfl, ?_⟩) (by assumption) ?_
              rotate_left
              · intro w hSw
                (try dsimp only at hSw)
                go_simp
                all_goals (with_reducible rfl)
              try simp only [Act.put, List.setIfInBounds_toArray, List.set_cons_zero, List.set_cons_succ]
              refine wpAnyH_take (i := 5) (oi := ⟨some 44, _, _, _, _, _⟩) (v := ?_) rfl (by kernel_rfl) (by kernel_rfl) (by kernel_rfl) (fun _ _ _ h => h) (Or.inl ⟨by rfl, ?_⟩) (by assumption) ?_
              rotate_left
              · intro w hSw
                (try dsimp only at hSw)
                go_simp
                all_goals (with_reducible rfl)
              try simp only [Act.put, List.setIfInBounds_toArray, List.set_cons_zero, List.set_cons_succ]
              refine wpAnyH_take (i := 6) (oi := ⟨some 45, _, _, _, _, _⟩) (v := ?_) rfl (by kernel_rfl) (by kernel_rfl) (by kernel_rfl) (fun _ _ _ h => h) (Or.inl ⟨by rfl, ?_⟩) (by assumption) ?_
              rotate_left
              · intro w hSw
                (try dsimp only at hSw)
                go_simp
                all_goals (with_reducible rfl)
              try simp only [Act.put, List.setIfInBounds_toArray, List.set_cons_zero, List.set_cons_succ]
              refine wpAnyH_ready (rs := [2]) (by kernel_rfl) (by simp) ?_
              refine AllReadyH.cons (o := ⟨some 41, _, _, _, _, _⟩) rfl (fun K hK => ?_) AllReadyH.nil
              go_simp
              refine (HC2.out _ hhS).mono ?_
              rintro e w3 ⟨rfl, hw3⟩
              rw [← hw3]
              clear hw3
              refine hK.out _ _ (hhS) (fun _ => ?_)
              clear hK K
              try simp only [Act.put, List.setIfInBounds_toArray, List.set_cons_zero, List.set_cons_succ]
              refine wpAnyH_ready (rs := [7]) (by kernel_rfl) (by simp) ?_
              refine AllReadyH.cons (o := ⟨some 46, _, _, _, _, _⟩) rfl (fun K hK => ?_) AllReadyH.nil
              go_simp
              refine (HN2.out _ hhS).mono ?_
              rintro e w7 ⟨rfl, hb7⟩
              replace hhS := hhS.on hb7
              replace hb := hb.trans (hb7.mono hb.size)
              clear hb7
              refine hK.out _ _ (hhS) (fun _ => ?_)
              clear hK K
              try simp only [Act.put, List.setIfInBounds_toArray, List.set_cons_zero, List.set_cons_succ]
              refine wpAnyH_take (i := 8) (oi := ⟨some 47, _, _, _, _, _⟩) (v := .bool false) rfl (by kernel_rfl) (by kernel_rfl) (by kernel_rfl) (fun _ _ _ h => h) (Or.inl ⟨by rfl, ?_⟩) (by assumption) ?_
              · intro w hSw
                (try dsimp only at hSw)
                go_simp
                all_goals (first | done | simp)
              try simp only [Act.put, List.setIfInBounds_toArray, List.set_cons_zero, List.set_cons_succ]
              refine wpAnyH_done (by kernel_rfl) ?_ _
              refine NoPanic.normal ?_
              replace B2 := B2.trans (hb.mono B2.size)
              replace HO := Lib.hid (HO.out.low hb)
              rw [if_neg (by decide)] at HRD
              have hys : SliceIs w7 (.slice (some ⟨b0, o0 + 8, none⟩) n (c - 8)) ((r.drop 8).take n) := .inr ⟨b0, o0 + 8, c - 8, by rw [List.length_take, List.length_drop, HR.out.2, Nat.min_eq_left (by omega)], hhS.lt, (hhS.bytes.drop 8).take n⟩
              clear hb
              obtain ⟨vs, hvs, hrow, hbod⟩ := HO.out.row
              have HRW := Lib.hid (And.intro hvs hrow)
              clear hvs hrow
              go_upto_region 12 with (first
                | (refine wpList_append_gen (f := fun x : Value => [x]) (n := 1) (w := w11) (by rfl) _ _ 69 30 (by rfl) _ 24 Tryz.underlying69 info_bytes rfl (by decide) (by decide) (fun _ => rfl) w.heap.size _ _ vs [.slice a10 k10 c10] (by rfl) hrow11 (by rfl) hu11 (fun b hb y hy => by (obtain rfl : b = Value.slice a10 k10 c10 := by simpa using hb); (obtain rfl : y = Value.slice a10 k10 c10 := by simpa using hy); rfl) (by have := HBL.out; have := HRW.out.1; have := HL.out; have := HN.out; simp; omega) B11.size ?_; intro v12 w12 O12 G12 _; obtain ⟨a12, k12, c12, h12⟩ := slice_any O12; subst h12)
                | (refine wpList_slice_cell (by rfl) 69 30 _ (by rfl) (.slice a10 k10 c10) (by rfl) rfl Tryz.underlying69 zero_bytes_sl ?_; have hu11 := src_new (f := fun x : Value => [x]) (n := 1) w10 30 (.slice a10 k10 c10); have b11 := (Below.refl w10.heap.size w10).alloc (Nat.le_refl _) (.cells #[.slice a10 k10 c10] 30); have hrow11 := row_low hrow10 b11; have O11 := row_low O10 b11; have B11 := B10.trans (b11.mono B10.size); have hlow11 := b10.trans (b11.mono b10.size); simp only [List.toArray] at hu11; generalize w10.alloc (.cells #[.slice a10 k10 c10] 30) = w11 at hu11 b11 hrow11 O11 B11 hlow11 ⊢)
                | (refine wpList_append_bytes (w := w7) (by rfl) _ _ (by rfl) w.heap.size (.slice none 0 0) [] (by rfl) (Own.nil _ _) _ ((r.drop 8).take n) (by rfl) hys (by simp; omega) B2.size ?_; intro v10 w10 O10 G10; rw [List.nil_append] at O10; obtain ⟨a10, k10, c10, h10⟩ := slice_any O10; subst h10; have b10 : Below w7.heap.size w7 w10 := grown_below G10; have B10 := B2.trans (b10.mono B2.size); have hrow10 := row_low HRW.out.2 b10)
                | fail)
              have hLO := ListsOwn.added HRW.out.1 hbod hlow11 hrow11 O11 G12 O12
              have HLO := Lib.hid hLO
              have B12 := B11.grown G12 B11.size (fun i hi => own_ge hrow11 hi)
              have g1 : IntKind.i64.wrap (12 + (n : Int)) = 12 + (n : Int) := IntWalk.i64_in _ (by omega)
              have g2 : (0 : Int) ≤ 12 + (n : Int) := by omega
              have g3 : (12 + (n : Int)).toNat = 12 + n := by omega
              have g4 : (12 : Int) + (n : Int) ≤ (M : Int) := by omega
              have hnb : 12 * (bs ++ [(r.drop 8).take n]).length ≤ pos + (12 + n) := by have := HBL.out; simp; omega
              have hnc : readC l = readOn (bs ++ [(r.drop 8).take n]) (pos + (12 + n)) (readC (l.drop (pos + (12 + n)))) := by
                have e1 : l.drop (pos + (12 + n)) = r.drop (12 + n) := by rw [← HR.out.1, List.drop_drop]
                rw [HC.out, HRD.out, e1]
                unfold readOn
                cases readC (r.drop (12 + n)) with
                | none => rfl
                | some x => simp [Nat.add_assoc]
              have hsr : SliceR w (.slice (if c = 12 + n then some ⟨b0, o0, none⟩ else some ⟨b0, o0 + (12 + n), none⟩) (M - (12 + n)) (c - (12 + n))) (l.drop (pos + (12 + n))) := by
                have h := SliceR.back (a := 12 + n) (HR.out.2.symm ▸ hR) (by rw [HR.out.2]; omega)
                rw [HR.out.2, ← HR.out.1, List.drop_drop] at h
                simpa [Go.WideShapes.add_plain] using h
              have HF := Lib.hid (And.intro hnb (And.intro hnc hsr))
              clear hnb hnc hsr hLO O12 G12 hrow11 hu11 O11 hrow10 O10 hys hhS hbod HC HRD HO hR
              by_cases hc12 : c = 12 + n
              · go_wp2
                go_roundw
                case rel => exact ⟨pos + (12 + n), M - (12 + n), _, _, _, _, _, _, by omega, HF.out.1, rfl, rfl, by have h := HF.out.2.2; rw [if_pos hc12, show c - (12 + n) = 0 by omega] at h; exact h, HLO.out, B12, HF.out.2.1⟩
                case measure => simp; omega
              · go_wp2
                go_roundw
                case rel => exact ⟨pos + (12 + n), M - (12 + n), _, _, _, _, _, _, by omega, HF.out.1, rfl, rfl, by have h := HF.out.2.2; rw [if_neg hc12] at h; exact h, HLO.out, B12, HF.out.2.1⟩
                case measure => simp; omega
            · rw [h2] at HRD
              refine wp_region_noPanic ?_
              refine wp_region_held_drew (S := fun w' => RB w' T O b0 o0 r) (by kernel_rfl) (hS.on ((Below.refl _ _).drew)) (fun hhS => ?_)
              replace hhS := hS.on ((Below.refl w6.heap.size w6).drew)
              have hb : Below w6.heap.size w6 w6.drew := (Below.refl _ _).drew
              clear hS
              generalize w6.drew = wd at hhS hb ⊢
              refine wpAnyH_take (i := 0) (oi := ⟨some 39, _, _, _, _, _⟩) (v := ?_) rfl (by kernel_rfl) (by kernel_rfl) (by kernel_rfl) (fun _ _ _ h => h) (Or.inl ⟨by rfl, ?_⟩) (by assumption) ?_
              rotate_left
              · intro w hSw
                (try dsimp only at hSw)
                go_simp
                all_goals (with_reducible rfl)
              try simp only [Act.put, List.setIfInBounds_toArray, List.set_cons_zero, List.set_cons_succ]
              refine wpAnyH_take (i := 1) (oi := ⟨some 40, _, _, _, _, _⟩) (v := ?_) rfl (by kernel_rfl) (by kernel_rfl) (by kernel_rfl) (fun _ _ _ h => h) (Or.inl ⟨by rfl, ?_⟩) (by assumption) ?_
              rotate_left
              · intro w hSw
                (try dsimp only at hSw)
                go_simp
                all_goals (with_reducible rfl)
              try simp only [Act.put, List.setIfInBounds_toArray, List.set_cons_zero, List.set_cons_succ]
              refine wpAnyH_take (i := 3) (oi := ⟨some 42, _, _, _, _, _⟩) (v := ?_) rfl (by kernel_rfl) (by kernel_rfl) (by kernel_rfl) (fun _ _ _ h => h) (Or.inl ⟨by rfl, ?_⟩) (by assumption) ?_
              rotate_left
              · intro w hSw
                (try dsimp only at hSw)
                go_simp
                all_goals (with_reducible rfl)
              try simp only [Act.put, List.setIfInBounds_toArray, List.set_cons_zero, List.set_cons_succ]
              refine wpAnyH_take (i := 4) (oi := ⟨some 43, _, _, _, _, _⟩) (v := ?_) rfl (by kernel_rfl) (by kernel_rfl) (by kernel_rfl) (fun _ _ _ h => h) (Or.inl ⟨by rfl, ?_⟩) (by assumption) ?_
              rotate_left
              · intro w hSw
                (try dsimp only at hSw)
                go_simp
                all_goals (with_reducible rfl)
              try simp only [Act.put, List.setIfInBounds_toArray, List.set_cons_zero, List.set_cons_succ]
              refine wpAnyH_take (i := 5) (oi := ⟨some 44, _, _, _, _, _⟩) (v := ?_) rfl (by kernel_rfl) (by kernel_rfl) (by kernel_rfl) (fun _ _ _ h => h) (Or.inl ⟨by rfl, ?_⟩) (by assumption) ?_
              rotate_left
              · intro w hSw
                (try dsimp only at hSw)
                go_simp
                all_goals (with_reducible rfl)
              try simp only [Act.put, List.setIfInBounds_toArray, List.set_cons_zero, List.set_cons_succ]
              refine wpAnyH_take (i := 6) (oi := ⟨some 45, _, _, _, _, _⟩) (v := ?_) rfl (by kernel_rfl) (by kernel_rfl) (by kernel_rfl) (fun _ _ _ h => h) (Or.inl ⟨by rfl, ?_⟩) (by assumption) ?_
              rotate_left
              · intro w hSw
                (try dsimp only at hSw)
                go_simp
                all_goals (with_reducible rfl)
              try simp only [Act.put, List.setIfInBounds_toArray, List.set_cons_zero, List.set_cons_succ]
              refine wpAnyH_ready (rs := [2]) (by kernel_rfl) (by simp) ?_
              refine AllReadyH.cons (o := ⟨some 41, _, _, _, _, _⟩) rfl (fun K hK => ?_) AllReadyH.nil
              go_simp
              refine (HC2.out _ hhS).mono ?_
              rintro e w3 ⟨rfl, hw3⟩
              rw [← hw3]
              clear hw3
              refine hK.out _ _ (hhS) (fun _ => ?_)
              clear hK K
              try simp only [Act.put, List.setIfInBounds_toArray, List.set_cons_zero, List.set_cons_succ]
              refine wpAnyH_ready (rs := [7]) (by kernel_rfl) (by simp) ?_
              refine AllReadyH.cons (o := ⟨some 46, _, _, _, _, _⟩) rfl (fun K hK => ?_) AllReadyH.nil
              go_simp
              refine (HN2.out _ hhS).mono ?_
              rintro e w7 ⟨rfl, hb7⟩
              replace hhS := hhS.on hb7
              replace hb := hb.trans (hb7.mono hb.size)
              clear hb7
              refine hK.out _ _ (hhS) (fun _ => ?_)
              clear hK K
              try simp only [Act.put, List.setIfInBounds_toArray, List.set_cons_zero, List.set_cons_succ]
              refine wpAnyH_take (i := 8) (oi := ⟨some 47, _, _, _, _, _⟩) (v := .bool true) rfl (by kernel_rfl) (by kernel_rfl) (by kernel_rfl) (fun _ _ _ h => h) (Or.inl ⟨by rfl, ?_⟩) (by assumption) ?_
              · intro w hSw
                (try dsimp only at hSw)
                go_simp
                all_goals (first | done | simp)
              try simp only [Act.put, List.setIfInBounds_toArray, List.set_cons_zero, List.set_cons_succ]
              refine wpAnyH_done (by kernel_rfl) ?_ _
              refine NoPanic.normal ?_
              have HF := Lib.hid (show readC l = none by rw [HC.out, HRD.out, if_pos rfl]; rfl)
              replace B2 := B2.trans (hb.mono B2.size)
              clear HO hhS HRD HC hb
              go_wp2
              go_ret3
              exact ⟨B2, .inl ⟨HF.out, rfl⟩⟩
      · rw [h1] at HRD
        refine wp_region_noPanic ?_
        refine wp_region_held_drew (S := fun w' => RB w' T O b0 o0 r) (by kernel_rfl) (hS.on ((Below.refl _ _).drew)) (fun hhS => ?_)
        replace hhS := hS.on ((Below.refl w2.heap.size w2).drew)
        have hb : Below w2.heap.size w2 w2.drew := (Below.refl _ _).drew
        clear hS
        generalize w2.drew = wd at hhS hb ⊢
        refine wpAnyH_take (i := 0) (oi := ⟨some 18, _, _, _, _, _⟩) (v := ?_) rfl (by kernel_rfl) (by kernel_rfl) (by kernel_rfl) (fun _ _ _ h => h) (Or.inl ⟨by rfl, ?_⟩) (by assumption) ?_
        rotate_left
        · intro w hSw
          (try dsimp only at hSw)
          go_simp
          all_goals (with_reducible rfl)
        try simp only [Act.put, List.setIfInBounds_toArray, List.set_cons_zero, List.set_cons_succ]
        refine wpAnyH_take (i := 1) (oi := ⟨some 19, _, _, _, _, _⟩) (v := ?_) rfl (by kernel_rfl) (by kernel_rfl) (by kernel_rfl) (fun _ _ _ h => h) (Or.inl ⟨by rfl, ?_⟩) (by assumption) ?_
        rotate_left
        · intro w hSw
          (try dsimp only at hSw)
          go_simp
          all_goals (with_reducible rfl)
        try simp only [Act.put, List.setIfInBounds_toArray, List.set_cons_zero, List.set_cons_succ]
        refine wpAnyH_take (i := 2) (oi := ⟨some 20, _, _, _, _, _⟩) (v := ?_) rfl (by kernel_rfl) (by kernel_rfl) (by kernel_rfl) (fun _ _ _ h => h) (Or.inl ⟨by rfl, ?_⟩) (by assumption) ?_
        rotate_left
        · intro w hSw
          (try dsimp only at hSw)
          go_simp
          all_goals (with_reducible rfl)
        try simp only [Act.put, List.setIfInBounds_toArray, List.set_cons_zero, List.set_cons_succ]
        refine wpAnyH_take (i := 4) (oi := ⟨some 22, _, _, _, _, _⟩) (v := ?_) rfl (by kernel_rfl) (by kernel_rfl) (by kernel_rfl) (fun _ _ _ h => h) (Or.inl ⟨by rfl, ?_⟩) (by assumption) ?_
        rotate_left
        · intro w hSw
          (try dsimp only at hSw)
          go_simp
          all_goals (with_reducible rfl)
        try simp only [Act.put, List.setIfInBounds_toArray, List.set_cons_zero, List.set_cons_succ]
        refine wpAnyH_take (i := 5) (oi := ⟨some 23, _, _, _, _, _⟩) (v := ?_) rfl (by kernel_rfl) (by kernel_rfl) (by kernel_rfl) (fun _ _ _ h => h) (Or.inl ⟨by rfl, ?_⟩) (by assumption) ?_
        rotate_left
        · intro w hSw
          (try dsimp only at hSw)
          go_simp
          all_goals (with_reducible rfl)
        try simp only [Act.put, List.setIfInBounds_toArray, List.set_cons_zero, List.set_cons_succ]
        refine wpAnyH_ready (rs := [3]) (by kernel_rfl) (by simp) ?_
        refine AllReadyH.cons (o := ⟨some 21, _, _, _, _, _⟩) rfl (fun K hK => ?_) AllReadyH.nil
        go_simp
        refine (HC1.out _ hhS).mono ?_
        rintro e w3 ⟨rfl, hw3⟩
        rw [← hw3]
        clear hw3
        refine hK.out _ _ (hhS) (fun _ => ?_)
        clear hK K
        try simp only [Act.put, List.setIfInBounds_toArray, List.set_cons_zero, List.set_cons_succ]
        refine wpAnyH_ready (rs := [6]) (by kernel_rfl) (by simp) ?_
        refine AllReadyH.cons (o := ⟨some 24, _, _, _, _, _⟩) rfl (fun K hK => ?_) AllReadyH.nil
        go_simp
        refine (HN1.out _ hhS).mono ?_
        rintro e w6 ⟨rfl, hb6⟩
        replace hhS := hhS.on hb6
        replace hb := hb.trans (hb6.mono hb.size)
        clear hb6
        refine hK.out _ _ (hhS) (fun _ => ?_)
        clear hK K
        try simp only [Act.put, List.setIfInBounds_toArray, List.set_cons_zero, List.set_cons_succ]
        refine wpAnyH_take (i := 7) (oi := ⟨some 25, _, _, _, _, _⟩) (v := .bool true) rfl (by kernel_rfl) (by kernel_rfl) (by kernel_rfl) (fun _ _ _ h => h) (Or.inl ⟨by rfl, ?_⟩) (by assumption) ?_
        · intro w hSw
          (try dsimp only at hSw)
          go_simp
          all_goals (first | done | simp)
        try simp only [Act.put, List.setIfInBounds_toArray, List.set_cons_zero, List.set_cons_succ]
        refine wpAnyH_take (i := 8) (oi := ⟨some 26, _, _, _, _, _⟩) (v := ?_) rfl (by kernel_rfl) (by kernel_rfl) (by kernel_rfl) (fun _ _ _ h => h) (Or.inl ⟨by rfl, ?_⟩) (by assumption) ?_
        rotate_left
        · intro w hSw
          (try dsimp only at hSw)
          go_simp
          all_goals (with_reducible rfl)
        try simp only [Act.put, List.setIfInBounds_toArray, List.set_cons_zero, List.set_cons_succ]
        refine wpAnyH_take (i := 9) (oi := ⟨some 27, _, _, _, _, _⟩) (v := undef) rfl (by kernel_rfl) (by kernel_rfl) (by kernel_rfl) (fun _ _ _ h => h) (Or.inr ⟨by rfl, rfl⟩) (by assumption) ?_
        try simp only [Act.put, List.setIfInBounds_toArray, List.set_cons_zero, List.set_cons_succ]
        refine wpAnyH_take (i := 10) (oi := ⟨some 28, _, _, _, _, _⟩) (v := undef) rfl (by kernel_rfl) (by kernel_rfl) (by kernel_rfl) (fun _ _ _ h => h) (Or.inr ⟨by rfl, rfl⟩) (by assumption) ?_
        try simp only [Act.put, List.setIfInBounds_toArray, List.set_cons_zero, List.set_cons_succ]
        refine wpAnyH_take (i := 11) (oi := ⟨some 29, _, _, _, _, _⟩) (v := ?_) rfl (by kernel_rfl) (by kernel_rfl) (by kernel_rfl) (fun _ _ _ h => h) (Or.inl ⟨by rfl, ?_⟩) (by assumption) ?_
        rotate_left
        · intro w hSw
          (try dsimp only at hSw)
          go_simp
          all_goals (with_reducible rfl)
        try simp only [Act.put, List.setIfInBounds_toArray, List.set_cons_zero, List.set_cons_succ]
        refine wpAnyH_done (by kernel_rfl) ?_ _
        refine NoPanic.normal ?_
        have HF := Lib.hid (show readC l = none by rw [HC.out, HRD.out, if_pos (.inl rfl)]; rfl)
        replace B2 := B2.trans (hb.mono B2.size)
        clear HO hhS HRD HC hb
        go_wp2
        go_ret3
        exact ⟨B2, .inl ⟨HF.out, rfl⟩⟩
    · have i8 : ¬ (8 : Int) ≤ (M : Int) := by omega
      have b3 : IntKind.i64.wrap ((N : Int) - (M : Int)) = (pos : Int) := by rw [IntWalk.i64_in _ (by have := HL.out; have := HN.out; omega)]; omega
      have HF := Lib.hid (show readC l = some (bs, pos) by rw [HC.out, readC, dif_pos (by rw [HR.out.2]; omega)]; simp [readOn])
      clear HC hR
      go_wp2
      go_ret3
      exact ⟨hB, .inr ⟨_, bs, pos, HF.out, rfl, HO.out⟩⟩

end Go.Proofs.YtmmlpbepaefamaaGreatDoor
