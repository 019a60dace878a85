/- The store in memory; a batch as a record; Commit. -/
import Derived.Test.YtmmlpbepaefamaaGreatDoorSBase
import Derived.Test.YtmmlpbepaefamaaGreatDoorSMapX2
namespace Go.Proofs.YtmmlpbepaefamaaGreatDoor
open Go.RowKit Go.MapKept

def kindV (gone : Bool) : BitVec 8 := if gone = true then 1#8 else 0#8
/-- A batch's fields, and its record. -/
def recF (c : Chg) : List (List (BitVec 8)) := [[kindV c.gone], bytesB c.key, c.val]
def recL (L : List Chg) : List (List (BitVec 8)) := L.flatMap recF
def recB (L : List Chg) : List (BitVec 8) := fieldsB (recL L)
theorem recL_len (L : List Chg) : (recL L).length = 3 * L.length := by
  unfold recL
  induction L with
  | nil => rfl
  | cons c L ih =>
    rw [List.flatMap_cons, List.length_append, ih]
    simp [recF]
    omega
theorem recL_next {L : List Chg} {k : Nat} {c : Chg} (h : L[k]? = some c) : recL (L.take (k + 1)) = recL (L.take k) ++ recF c := by
  unfold recL
  rw [List.take_add_one, h, List.flatMap_append]
  simp

/-- A store in memory. -/
structure ST (w : World) (lo : Nat) (S : Nat → Prop) (d s : Nat) (base : ByteArray) (g jb mb : Nat) (M : List Ent) : Prop where
  box : Whole w s 64 (storC d base g (.pointer (some ⟨jb, 0, none⟩)) mb)
  jour : Jour w jb d (logN base g)
  map : VM w lo S mb M
  offs : ¬ S s
  offj : ¬ S jb
  offm : ¬ S mb
  ges : lo ≤ s
  gej : lo ≤ jb
theorem ST.low {w w' : World} {lo d s g jb mb : Nat} {S : Nat → Prop} {base : ByteArray} {M : List Ent} (h : ST w lo S d s base g jb mb M) (hb : Below w.heap.size w w') : ST w' lo S d s base g jb mb M :=
  ⟨h.box.below hb h.box.lt, h.jour.low hb, h.map.low hb, h.offs, h.offj, h.offm, h.ges, h.gej⟩
/-- Blocks of the disk change. -/
theorem ST.disk {w w' : World} {lo d s g jb mb : Nat} {S S' : Nat → Prop} {base : ByteArray} {M : List Ent} (h : ST w lo S d s base g jb mb M) (ho : Only w w' S) (hs : ∀ i, i < w.heap.size → S' i → S i) : ST w' lo S' d s base g jb mb M :=
  ⟨h.box.only ho h.offs, h.jour.only ho h.offj, h.map.only ho h.offm (fun x hx g hg => (h.map.vals x hx).2 g hg) hs, fun e => h.offs (hs s h.box.lt e), fun e => h.offj (hs jb h.jour.lt e), fun e => h.offm (hs mb h.map.map.lt e), h.ges, h.gej⟩

/-- A slice's bytes: they lie in the older world w0, or in a block of bytes. -/
def FB (w0 w : World) (v : Value) (x : List (BitVec 8)) : Prop := SliceIs w v x ∧ ∀ g o n c, v = .slice (some ⟨g, o, none⟩) n c → n ≠ 0 → g < w0.heap.size ∨ ∃ cur fr, w.heap[g]? = some (.cells cur 5 fr)
theorem FB.only {w0 w w' : World} {Z : Nat → Prop} {v : Value} {x : List (BitVec 8)} (h : FB w0 w v x) (ho : Only w w' Z) (hz : ∀ i, i < w.heap.size → Z i → w0.heap.size ≤ i ∧ ∃ cur, w.heap[i]? = some (.cells cur 30 (0, 0))) : FB w0 w' v x := by
  obtain ⟨h1, h2⟩ := h
  by_cases hx : x = []
  · subst hx
    rcases h1 with ⟨_, h | ⟨ad, c, h⟩⟩ | ⟨g, o, c, h, hg, hy⟩
    · subst h
      exact ⟨.inl ⟨rfl, .inl rfl⟩, fun g o n c e hn => by cases e⟩
    · subst h
      exact ⟨.inl ⟨rfl, .inr ⟨_, _, rfl⟩⟩, fun g o n c e hn => by injection e with e1 e2; exact absurd e2.symm hn⟩
    · subst h
      exact ⟨.inl ⟨rfl, .inr ⟨_, _, rfl⟩⟩, fun g o n c e hn => by injection e with e1 e2; exact absurd e2.symm hn⟩
  · rcases h1 with ⟨h0, _⟩ | ⟨g, o, c, rfl, hg, hy⟩
    · exact absurd h0 hx
    · have hn : x.length ≠ 0 := fun e => hx (List.eq_nil_of_length_eq_zero e)
      have hzg : ¬ Z g := fun e => by
        obtain ⟨hge, cur, hc⟩ := hz g hg e
        rcases h2 g o _ c rfl hn with hlt | ⟨cur2, fr, hc2⟩
        · omega
        · rw [hc] at hc2
          injection hc2 with hc2
          injection hc2 with _ hc2 _
          exact absurd hc2 (by decide)
      have hblk := ho.block g hg hzg
      refine ⟨.inr ⟨g, o, c, rfl, Nat.lt_of_lt_of_le hg ho.size, fun j y hj => ?_⟩, fun g' o' n' c' e hn' => ?_⟩
      · have := hy j y hj
        simpa [World.cell?, hblk] using this
      · injection e with e1 e2 e3
        injection e1 with e1
        injection e1 with e4 e5
        subst e4
        rw [hblk]
        exact h2 g o _ c rfl hn
theorem FB.low {w0 w w' : World} {v : Value} {x : List (BitVec 8)} (h : FB w0 w v x) (hb : Below w.heap.size w w') : FB w0 w' v x := h.only (Only.of_below hb fun _ => False) fun _ _ e => e.elim
theorem FB.old {w0 : World} {v : Value} {x : List (BitVec 8)} (h : SliceIs w0 v x) : FB w0 w0 v x := ⟨h, fun g o n c e hn => .inl (by
  rcases h with ⟨rfl, h | ⟨ad, c, h⟩⟩ | ⟨g2, o2, c2, h, hg, hy⟩
  · rw [h] at e; cases e
  · rw [h] at e; injection e with e1 e2; exact absurd e2.symm hn
  · rw [h] at e
    injection e with e1 e2
    injection e1 with e1
    injection e1 with e1 e3
    subst e1
    exact hg)⟩
theorem FB.own {w0 w : World} {B : Nat} {v : Value} {x : List (BitVec 8)} (h : Own w B v x) : FB w0 w v x := ⟨h.slice, fun g o n c e hn => .inr (by
  obtain ⟨cur, hc⟩ := row_type h (g := g) (by
    rcases h.shape with ⟨rfl, _⟩ | ⟨g2, cap, rfl, _⟩
    · cases e
    · injection e with e1 e2
      injection e1 with e1
      injection e1 with e1 e3
      subst e1
      rfl)
  exact ⟨cur, _, hc⟩)⟩
/-- A row of slices of the call's own. -/
def LF (w0 w : World) (u : Value) (bs : List (List (BitVec 8))) : Prop := ∃ vs : List Value, vs.length = bs.length ∧ w.ownsRow w0.heap.size 30 1 u vs.length (vs.flatMap fun x => [x]) ∧ ∀ (i : Nat) (x : List (BitVec 8)), bs[i]? = some x → ∃ v, vs[i]? = some v ∧ FB w0 w v x
theorem LF.none (w0 w : World) : LF w0 w (.slice Option.none 0 0) [] := ⟨[], rfl, World.ownsRow_nil _ _ _ _, fun i x h => by simp at h⟩
theorem LF.low {w0 w w' : World} {u : Value} {bs : List (List (BitVec 8))} (h : LF w0 w u bs) (hb : Below w.heap.size w w') : LF w0 w' u bs := by
  obtain ⟨vs, h1, h2, h3⟩ := h
  refine ⟨vs, h1, row_low h2 hb, fun i x hx => ?_⟩
  obtain ⟨v, h4, h5⟩ := h3 i x hx
  exact ⟨v, h4, h5.low hb⟩
theorem LF.lists {w0 w : World} {u : Value} {bs : List (List (BitVec 8))} (h : LF w0 w u bs) : ListsAt w u bs := by
  obtain ⟨vs, h1, h2, h3⟩ := h
  rcases row_shape h2 with ⟨rfl, h0⟩ | ⟨g, cap, rfl, _, hg, hc⟩
  · have : bs = [] := List.eq_nil_of_length_eq_zero (by omega)
    subst this
    exact ⟨_, _, rfl, Nat.le_refl _, fun e => absurd rfl e⟩
  · have hle : vs.length ≤ cap := by
      rcases h2.2 with ⟨e, _⟩ | ⟨g', cap', cur, e, _, _, hle, _⟩
      · cases e
      · injection e with _ _ e3
        omega
    refine ⟨_, cap, by rw [h1], by omega, fun _ => ⟨g, 0, rfl, hg, fun i x hx => ?_⟩⟩
    obtain ⟨v, h4, h5⟩ := h3 i x hx
    refine ⟨v, ?_, h5.1⟩
    rw [Nat.zero_add]
    refine hc i v ?_
    have := flat_at (f := fun x : Value => [x]) (n := 1) (fun _ => rfl) vs i v 0 v h4 rfl
    simpa using this
/-- Three more. -/
theorem LF.added {w0 w w' : World} {u u' : Value} {vs : List Value} {bs : List (List (BitVec 8))} {v1 v2 v3 : Value} {x1 x2 x3 : List (BitVec 8)} (h1 : vs.length = bs.length) (h2 : w.ownsRow w0.heap.size 30 1 u vs.length (vs.flatMap fun x => [x])) (h3 : ∀ (i : Nat) (x : List (BitVec 8)), bs[i]? = some x → ∃ v, vs[i]? = some v ∧ FB w0 w v x)
    (f1 : FB w0 w v1 x1) (f2 : FB w0 w v2 x2) (f3 : FB w0 w v3 x3) (hG : w.grownBy w' u.ownBlock) (hO : w'.ownsRow w0.heap.size 30 1 u' (vs ++ [v1, v2, v3]).length ((vs ++ [v1, v2, v3]).flatMap fun x => [x])) : LF w0 w' u' (bs ++ [x1, x2, x3]) := by
  have keep : ∀ {v : Value} {x : List (BitVec 8)}, FB w0 w v x → FB w0 w' v x := fun {v x} h => h.only (Only.of_grown hG) fun i hi e => ⟨own_ge h2 e, row_type h2 e⟩
  refine ⟨vs ++ [v1, v2, v3], by simp [h1], hO, fun i x hx => ?_⟩
  rw [List.getElem?_append] at hx ⊢
  by_cases hi : i < bs.length
  · rw [if_pos hi] at hx
    rw [if_pos (by omega)]
    obtain ⟨v, h4, h5⟩ := h3 i x hx
    exact ⟨v, h4, keep h5⟩
  · rw [if_neg hi] at hx
    rw [if_neg (by omega), h1]
    match i - bs.length, hx with
    | 0, hx => obtain rfl : x1 = x := by simpa using hx
               exact ⟨v1, rfl, keep f1⟩
    | 1, hx => obtain rfl : x2 = x := by simpa using hx
               exact ⟨v2, rfl, keep f2⟩
    | 2, hx => obtain rfl : x3 = x := by simpa using hx
               exact ⟨v3, rfl, keep f3⟩
    | j + 3, hx => simp at hx

end Go.Proofs.YtmmlpbepaefamaaGreatDoor

/- Commit. -/
namespace Go.Proofs.YtmmlpbepaefamaaGreatDoor
open Go.RowKit Go.MapKept

theorem wpList_conv_FB {w : World} {ops : Array Oper} {rest : List Oper} {o : Oper} {a : Act} {Q : Exit → Act → World → Prop} (hgd : o.guard = none) (s : Operand) (ho : o.op = .convert 9 30 s) (c : ByteArray) (hs : a.eval s = .string c) (w0 : World)
    (h : ∀ v w', (∃ a k c, v = .slice a k c) → FB w0 w' v (bytesB c) → Below w.heap.size w w' → wpList Tryz.prog ops Q rest (a.put o.dst v) w') : wpList Tryz.prog ops Q (o :: rest) a w := by
  refine wpList_plain hgd fun K hK => ?_
  have hr := run_bytes_of_string (P := Tryz.prog) w 9 30 5 c Tryz.underlying9 Tryz.underlying30 Tryz.underlying5
  unfold Oper.wp execOp
  simp only [ho, hs, Sem.run_bind, hr, Result.andThen_ok, Sem.run_pure]
  refine hK _ _ (h _ _ ⟨_, _, _, rfl⟩ ⟨conv_slice w c _ _, fun g o n c' e hn => .inr ?_⟩ ((Below.refl _ _).drew.alloc (Nat.le_refl _) _))
  injection e with e1 e2 e3
  injection e1 with e1
  injection e1 with e1 e4
  subst e1
  exact ⟨_, _, heap_alloc_new w.drew _⟩
theorem FB.whole {w0 w : World} {K : Nat} {y : BitVec 8} (h : Whole w K 5 [vu8 y]) : FB w0 w (.slice (some ⟨K, 0, none⟩) 1 1) [y] := ⟨.inr ⟨K, 0, 1, rfl, h.lt, fun j z hj => by
  have hj0 : j = 0 := by
    have := (List.getElem?_eq_some_iff.1 hj).1
    simpa using this
  subst hj0
  obtain rfl : y = z := by simpa using hj
  exact h.cell 0⟩, fun g o n c e hn => .inr (by
  injection e with e1 e2 e3
  injection e1 with e1
  injection e1 with e1 e4
  subst e1
  exact ⟨_, _, h⟩)⟩

theorem wpList_slice_three {P : Program} {ops : Array Oper} {rest : List Oper} {o : Oper} {a : Act} {w : World} {Q : Exit → Act → World → Prop} (hg : o.guard = none) (t e : TypeId) (x y z : Operand) (ho : o.op = .buildSlice t 3 #[(0, x), (1, y), (2, z)]) (u1 u2 u3 : Value) (hx : a.eval x = u1) (hy : a.eval y = u2) (hz' : a.eval z = u3) (h1 : u1.cells = #[u1]) (h2 : u2.cells = #[u2]) (h3 : u3.cells = #[u3]) {zv : Value}
    (ht : P.underlying t = some (.slice e)) (hz : (P.info? e).map (fun i => (i.zero, i.size)) = some (some zv, 1))
    (h : wpList P ops Q rest (a.put o.dst (.slice (some ⟨w.heap.size, 0, none⟩) 3 3)) (w.alloc (.cells #[u1, u2, u3] e))) : wpList P ops Q (o :: rest) a w :=
  wpList_plain hg fun K hK => by
    obtain ⟨hzero, hsz⟩ := zero_of_info hz
    obtain ⟨i, hi, hin⟩ := Option.map_eq_some_iff.1 hsz
    have hs : (sizeOf e).run P w = .ok 1 w := by
      rw [run_sizeOf w hi]
      simp [Program.cellsOf, hi, hin]
    have hf : Instr.fill (fun i => some (i * 1, 1)) ((Array.range (3 * 1)).map (zv.cells[· % zv.cells.size]!)) [(0, u1), (1, u2), (2, u3)] = some #[u1, u2, u3] := by
      have hr3 : Array.range 3 = #[0, 1, 2] := by decide
      simp [Instr.fill, h1, h2, h3, hr3]
    have hr : (Instr.buildSlice t 3 #[(0, u1), (1, u2), (2, u3)]).run P w = .ok (.slice (some ⟨w.heap.size, 0, none⟩) 3 3) (w.alloc (.cells #[u1, u2, u3] e)) := by
      have hn3 : ¬ 3 * 1 > 2 ^ 24 := by decide
      have hn4 : ¬ 3 * 1 = 0 := by decide
      unfold Instr.buildSlice
      simp only [Sem.run_bind, run_underlying ht, Result.andThen_ok, hs, if_neg hn3, if_neg hn4, hzero, Sem.run_pure, hf]
      simp [newRow]
    unfold Oper.wp execOp
    simp only [ho]
    simp [hx, hy, hz', hr]
    exact hK _ _ h
theorem src_three {w : World} {e : TypeId} (u1 u2 u3 : Value) : SrcG (fun x : Value => [x]) 1 (w.alloc (.cells #[u1, u2, u3] e)) (.slice (some ⟨w.heap.size, 0, none⟩) 3 3) [u1, u2, u3] := by
  refine .inr ⟨_, 3, rfl, by simp, fun i a ha j u hj => ?_⟩
  have hj0 : j = 0 := by
    have := (List.getElem?_eq_some_iff.1 hj).1
    simpa using this
  subst hj0
  obtain rfl : a = u := by simpa using hj
  rw [Nat.mul_one, Nat.add_zero, (Whole.new w e #[u1, u2, u3]).cell]
  exact ha

theorem VM.cells {w : World} {lo j mb : Nat} {S : Nat → Prop} {M : List Ent} {t : TypeId} {y : List Value} (h : VM w lo S mb M) (k : Whole w j t y) (ht : t ≠ 5) : mb ≠ j ∧ ∀ x ∈ M, ∀ g, x.2.1.ownBlock = some g → g ≠ j := by
  refine ⟨?_, fun x hx g hg => ?_⟩
  · rintro rfl
    obtain ⟨ents, c, hmb, _⟩ := h.map
    have k' : w.heap[mb]? = _ := k
    rw [hmb] at k'
    injection k' with k'
    cases k'
  · rintro rfl
    obtain ⟨cur, hc⟩ := row_type (h.vals x hx).1 hg
    have k' : w.heap[g]? = _ := k
    rw [hc] at k'
    injection k' with k'
    injection k' with _ k' _
    exact ht k'.symm
theorem VM.jx {w w' : World} {lo d jb mb : Nat} {s : ByteArray} {S S' : Nat → Prop} {M : List Ent} (h : VM w lo S mb M) (hm : ¬ S mb) (hj : Jour w jb d s) (ho : Only w w' fun i => S i ∨ i = jb) (hs : ∀ i, i < w.heap.size → S' i → S i) : VM w' lo S' mb M := by
  obtain ⟨jn, jz, hj⟩ := hj
  obtain ⟨h1, h2⟩ := h.cells hj (by decide)
  exact h.only ho (fun e => e.elim hm h1) (fun x hx g hg e => e.elim ((h.vals x hx).2 g hg) (h2 x hx g hg)) hs
/-- A call of the log. -/
theorem ST.jx {w w' : World} {lo d s g jb mb : Nat} {S S' : Nat → Prop} {base : ByteArray} {M : List Ent} (h : ST w lo S d s base g jb mb M) (hJ : Jour w' jb d (logN base g)) (ho : Only w w' fun i => S i ∨ i = jb) (hs : ∀ i, i < w.heap.size → S' i → S i) : ST w' lo S' d s base g jb mb M := by
  have hne : s ≠ jb := by
    obtain ⟨_, _, hj⟩ := h.jour
    exact whole_ne h.box hj (by decide)
  exact ⟨h.box.only ho (fun e => e.elim h.offs hne), hJ, h.map.jx h.offm h.jour ho hs, fun e => h.offs (hs _ h.box.lt e), fun e => h.offj (hs _ h.jour.lt e), fun e => h.offm (hs _ h.map.map.lt e), h.ges, h.gej⟩
/-- The map is put in its place. -/
theorem ST.setmap {w : World} {lo d s g jb mb mb' : Nat} {S : Nat → Prop} {base : ByteArray} {M M' : List Ent} (h : ST w lo S d s base g jb mb M) (hV : VM w lo S mb' M') (hm : ¬ S mb') : ST (w.setCell ⟨s, 4, none⟩ (.map (some mb'))) lo S d s base g jb mb' M' := by
  have ho := Only.set w ⟨s, 4, none⟩ (.map (some mb'))
  have hne : jb ≠ s := by
    obtain ⟨_, _, hj⟩ := h.jour
    exact whole_ne hj h.box (by decide)
  obtain ⟨h1, h2⟩ := hV.cells h.box (by decide)
  exact ⟨h.box.put 4 (.map (some mb')), h.jour.only ho hne, hV.only ho h1 (fun x hx g hg => h2 x hx g hg) (fun _ _ e => e), h.offs, h.offj, hm, h.ges, h.gej⟩
theorem logN_size (base : ByteArray) (g : Nat) (hg : g < 100) : (logN base g).size ≤ base.size + 7 := by
  have h1 := itoaB_size g hg
  have h2 : (⟨#[46, 108, 111, 103, 46]⟩ : ByteArray).size = 5 := rfl
  unfold logN
  rw [ByteArray.size_append, ByteArray.size_append]
  omega

/-- What a call of the store leaves. -/
def SX (W w w' : World) (d s jb : Nat) (S : Nat → Prop) (base : ByteArray) (g : Nat) (A : Fs) (ks : List Int) (n : Nat) (F : ByteArray → Option (List (BitVec 8))) (c : Nat) : Prop :=
  ∃ S' jb' mb' M', KD W w' d S' A ks n ∧ ST w' W.heap.size S' d s base g jb' mb' M' ∧ (∀ k, getM M' k = F k) ∧ M'.length ≤ c ∧ (Only w w' fun i => S i ∨ i = s ∨ i = jb) ∧ (∀ i, i < w.heap.size → S' i → S i) ∧ (jb' = jb ∨ w.heap.size ≤ jb')

set_option maxRecDepth 100000 in
set_option maxHeartbeats 8000000 in
theorem commit_wrong (w : World) (lo : Nat) (S : Nat → Prop) (d s : Nat) (base : ByteArray) (g jb mb : Nat) (M : List Ent) (hT : ST w lo S d s base g jb mb M) (v : Value) (L : List Chg) (hL : ChgsAt w v L) (hl : L.length ≤ 9223372036854775807) (hb : ∀ c ∈ L, c.val.length ≤ 9223372036854775807 ∧ c.key.size ≤ 9223372036854775807) (hw : wrongE L ≠ 0) :
    Calls Tryz.prog 7 #[.pointer (some ⟨s, 0, none⟩), v] w fun r w' => r = .returned (.int .i64 (wrongE L)) ∧ Below w.heap.size w w' := by
  have HN := Lib.hid (snone_calls w s d mb jb base g hT.box)
  have HW := Lib.hid (wrong_calls w v L hL hl hb)
  obtain ⟨e, he⟩ : ∃ e, wrongE L = e := ⟨_, rfl⟩
  rw [he] at HW hw ⊢
  have g1 : (e == 0) = false := by simpa using hw
  clear hL hT hb he
  go_enter Tryz.func7, Tryz.ntmps7
  go_wp2_with (first
    | (go_at_call 29; refine HW.out.mono ?_; rintro r w2 ⟨rfl, hb2⟩)
    | (go_at_call 28; refine HN.out.mono ?_; rintro r w1 ⟨rfl, rfl⟩)
    | fail)
  go_ret
  exact ⟨rfl, hb2⟩

set_option maxRecDepth 100000 in
set_option maxHeartbeats 8000000 in
theorem commit_calls (W w : World) (d n s g jb mb : Nat) (S : Nat → Prop) (A A' : Fs) (ks : List Int) (base : ByteArray) (M : List Ent) (h : KD W w d S A ks n) (hA : okA A) (hn : n ≤ 1000000) (hT : ST w W.heap.size S d s base g jb mb M) (hg : g < 100) (hbs : base.size ≤ 900) (v : Value) (L : List Chg) (hL : ChgsAt w v L) (hw : wrongE L = 0) (hM : M.length + L.length ≤ 4096) (hz : sizeF (recL L) ≤ 65536) (e : Int) (hr : appR A (refB ks n) (logN base g) (frameC (recB L)) = (e, A')) :
    Calls Tryz.prog 7 #[.pointer (some ⟨s, 0, none⟩), v] w fun r w' => r = .returned (.int .i64 e) ∧ SX W w w' d s jb S base g A' ks (n + 1) (if e = 0 then applyB (getM M) L else getM M) (M.length + L.length) := by
  obtain ⟨hl64, hce⟩ := wrongE_zero hw
  have hHN := Lib.hid (snone_calls w s d mb jb base g hT.box)
  have HW := Lib.hid (wrong_calls w v L hL (by omega) (fun c hc => by have := chgE_zero (hce c hc); omega))
  rw [hw] at HW
  have hSlt : ∀ i, S i → i < w.heap.size := fun i hi => (h.old hi).1
  have HAF := Lib.hid (fun w' (hb : Below w.heap.size w w') => after_calls w' W.heap.size mb S M v L (hT.map.low hb) (hL.low hb) (Nat.le_trans h.below.size hb.size) (fun i hi => Nat.lt_of_lt_of_le (hSlt i hi) hb.size) (by omega) (fun c hc => by have := chgE_zero (hce c hc); omega))
  obtain ⟨N, hN⟩ : ∃ N, L.length = N := ⟨_, rfl⟩
  obtain ⟨p, c, hv⟩ := hL.len
  rw [hN] at hv hl64 hM
  subst hv
  have HD := Lib.hid h
  have HT := Lib.hid hT
  have HL := Lib.hid hL
  have HN := Lib.hid hN
  have HZ := Lib.hid hz
  have HCE := Lib.hid hce
  have HR := Lib.hid hr
  have c4 : w.cell? ⟨s, 4, none⟩ = some (.map (some mb)) := hT.box.cell 4
  clear h hT hL hN hz hce hr hSlt
  go_enter Tryz.func7, Tryz.ntmps7
  go_upto_region 7 with (first
    | (go_at_call 27; refine (HAF.out w2 hb2).mono ?_; rintro r w3 ⟨mb', M', rfl, hmb, hV, hF, hML, hb3⟩; rw [show decide ((M'.length : Int) ≤ 4096) = true from decide_eq_true (by have := HN.out; omega)])
    | (go_at_call 29; refine HW.out.mono ?_; rintro r w2 ⟨rfl, hb2⟩; have c4 : w2.cell? ⟨s, 4, none⟩ = some (.map (some mb)) := (HT.out.low hb2).box.cell 4)
    | (go_at_call 28; refine hHN.out.mono ?_; rintro r w1 ⟨rfl, rfl⟩)
    | fail)
  have i7 : (M'.length : Int) ≤ 4096 := by have := HN.out; omega
  have hb03 : Below w.heap.size w w3 := hb2.trans (hb3.mono hb2.size)
  have HV := Lib.hid hV
  have HF := Lib.hid hF
  have HB03 := Lib.hid hb03
  have HSZ := Lib.hid (show w.heap.size ≤ mb' from Nat.le_trans hb2.size hmb)
  clear hV hF hb2 hb3 c4
  go_upto_block 0 with fail
  go_wp2
  go_loopw [8, 35] (fun u i wr => ∃ (k : Nat) (a : Option Addr) (q c : Nat), k ≤ N ∧ i = .int .i64 k ∧ u = .slice a q c ∧ LF w3 wr (.slice a q c) (recL (L.take k)) ∧ Below w3.heap.size w3 wr) (fun _ i _ => N - (intOf i).toNat)
  case atStart => exact ⟨0, _, _, _, by omega, rfl, rfl, LF.none _ _, Below.refl _ _⟩
  case round =>
    obtain ⟨k, a, q, c', hk, rfl, rfl, hLF, hB⟩ := hrel
    by_cases hlt : k < N
    · have i1 : (k : Int) < (N : Int) := by omega
      have i2 : 0 ≤ (k : Int) ∧ (k : Int) < (N : Int) := by omega
      have s2 : IntKind.i64.wrap ((k : Int) + 1) = (k : Int) + 1 := IntWalk.i64_in _ (by omega)
      obtain ⟨x, hx⟩ : ∃ x, L[k]? = some x := ⟨_, List.getElem?_eq_getElem (by rw [HN.out]; exact hlt)⟩
      obtain ⟨gb, o, rfl, hgb, hr0, hsl⟩ := (HL.out.low HB03.out).get hx
      have hr := rangeAt_low hr0 hgb hB
      have hnx := recL_next hx
      obtain ⟨key, qv, val, gone⟩ := x
      obtain ⟨va, vc, hve⟩ := bytes_len hsl
      dsimp only at hve hsl
      subst hve
      obtain ⟨vn, hvn⟩ : ∃ vn, val.length = vn := ⟨_, rfl⟩
      rw [hvn] at hr hsl
      have hX := Whole.new wr 32 #[.string key, .slice va vn vc, .bool gone]
      have hbX : Below wr.heap.size wr (wr.alloc (.cells #[.string key, .slice va vn vc, .bool gone] 32)) := (Below.refl _ _).alloc (Nat.le_refl _) _
      have HBX := Lib.hid (hB.trans (hbX.mono hB.size))
      have HLF := Lib.hid (hLF.low hbX)
      have HSL := Lib.hid (FB.old hsl)
      have HNX := Lib.hid hnx
      clear hx hsl hnx hvn hbX hLF hr0
      replace hr : wr.rangeAt gb (o + k * 3) [.string key, .slice va vn vc, .bool gone] := hr
      generalize hw4 : wr.alloc (.cells #[.string key, .slice va vn vc, .bool gone] 32) = w4 at hX HBX HLF
      obtain ⟨X, hXe⟩ : ∃ X, wr.heap.size = X := ⟨_, rfl⟩
      rw [hXe] at hX
      replace hX : Whole w4 X 32 [.string key, .slice va vn vc, .bool gone] := hX
      go_upto_region 13 with (first
        | (refine wpList_load_mid (by rfl) 32 _ (by rfl) gb (o + k * 3) (by rfl) [.string key, .slice va vn vc, .bool gone] _ hr Tryz.underlying32 (by rfl) size_chg ?_)
        | (refine wpList_alloc_row (by rfl) 32 (by rfl) #[.string ⟨#[]⟩, .slice none 0 0, .bool false] 3 zero_chg ?_)
        | (refine wpList_store_new (by rfl) 32 _ _ (by rfl) #[.string ⟨#[]⟩, .slice none 0 0, .bool false] #[.string key, .slice va vn vc, .bool gone] 32 (by rfl) (by rfl) size_chg (by rfl) (by rfl) ?_; rw [hw4]; clear hw4)
        | fail)
      clear hr
      go_upto_region 14 with fail
      have hK := Whole.new w4 5 #[.int .u8 0]
      have hbK : Below w4.heap.size w4 (w4.alloc (.cells #[.int .u8 0] 5)) := (Below.refl _ _).alloc (Nat.le_refl _) _
      have hX5 := hX.below hbK hX.lt
      have HLF5 := Lib.hid (HLF.out.low hbK)
      have HB5 := Lib.hid (HBX.out.trans (hbK.mono HBX.out.size))
      have hXK : ¬ X = w4.heap.size := Nat.ne_of_lt hX.lt
      have hKge := Lib.hid HBX.out.size
      have HBK := Lib.hid hbK
      have HB4 := Lib.hid HBX.out
      clear hX hbK
      generalize w4.alloc (.cells #[.int .u8 0] 5) = w5 at hK hX5 HLF5 HB5 HBK
      obtain ⟨K, hKe⟩ : ∃ K, w4.heap.size = K := ⟨_, rfl⟩
      rw [hKe] at hK hXK hKge
      simp only [hKe]
      replace hK : Whole w5 K 5 [.int .u8 0] := hK
      have x2 := hX5.cell 2
      have k0 := hK.cell 0
      have kf := hK.free 0
      by_cases hgo : gone = true
      · subst hgo
        go_upto_region 16 with fail
        have hX6 := hX5.far (p := ⟨K, 0, none⟩) hXK (.int .u8 1)
        have hK6 : Whole (w5.setCell ⟨K, 0, none⟩ (.int .u8 1)) K 5 [vu8 (kindV true)] := hK.put 0 (.int .u8 1)
        have hb6 : Below w4.heap.size w4 (w5.setCell ⟨K, 0, none⟩ (.int .u8 1)) := HBK.out.setCell (Nat.le_of_eq hKe) _
        generalize w5.setCell ⟨K, 0, none⟩ (.int .u8 1) = w6 at hX6 hK6 hb6
        have HLF6 := Lib.hid (HLF.out.low hb6)
        have HB36 := Lib.hid (HB4.out.trans (hb6.mono HB4.out.size))
        have HNX2 := Lib.hid HNX.out
        have HSL2 := Lib.hid HSL.out
        clear hb6 HLF HLF5 HB5 HBK HB4 HBX hK hX5 x2 k0 kf
        have x0 := hX6.cell 0
        go_wp2_with (first
          | (refine wpList_conv_FB (by rfl) _ (by rfl) key (by rfl) w3 ?_; rintro v7 w7 ⟨a7, k7, c7, rfl⟩ hF7 hb67; have x1 := (hX6.below hb67 hX6.lt).cell 1)
          | (refine wpList_slice_three (by rfl) 69 30 _ _ _ (by rfl) (.slice (some ⟨K, 0, none⟩) 1 1) (.slice a7 k7 c7) (.slice va vn vc) (by rfl) (by rfl) (by rfl) (by rfl) (by rfl) (by rfl) Tryz.underlying69 zero_bytes_sl ?_
             have hsrc := src_three (w := w7) (e := 30) (.slice (some ⟨K, 0, none⟩) 1 1) (.slice a7 k7 c7) (.slice va vn vc)
             have hb78 : Below w7.heap.size w7 (w7.alloc (.cells #[.slice (some ⟨K, 0, none⟩) 1 1, .slice a7 k7 c7, .slice va vn vc] 30)) := (Below.refl _ _).alloc (Nat.le_refl _) _
             generalize w7.alloc (.cells #[.slice (some ⟨K, 0, none⟩) 1 1, .slice a7 k7 c7, .slice va vn vc] 30) = w8 at hsrc hb78
             generalize w7.heap.size = Y at hsrc
             have hb68 := hb67.trans (hb78.mono hb67.size)
             have f1 : FB w3 w8 _ _ := (FB.whole (w0 := w3) hK6).low hb68
             have f2 : FB w3 w8 _ _ := hF7.low hb78
             have f3 : FB w3 w8 _ _ := (HSL2.out.low HB36.out).low hb68
             have hLF8 := HLF6.out.low hb68
             have HB38 := Lib.hid (HB36.out.trans (hb68.mono HB36.out.size))
             clear hF7 hb78 hb68 hX6 x0 x1 hb67
             obtain ⟨vs, hvs1, hvs2, hvs3⟩ := hLF8)
          | (refine wpList_append_gen (f := fun x : Value => [x]) (n := 1) (w := w8) (by rfl) _ _ 69 30 (by rfl) _ 24 Tryz.underlying69 info_bytes rfl (by decide) (by decide) (fun _ => rfl) w3.heap.size _ _ vs [.slice (some ⟨K, 0, none⟩) 1 1, .slice a7 k7 c7, .slice va vn vc] (by rfl) hvs2 (by rfl) hsrc (fun b hb y hy => by (obtain rfl : y = b := by simpa using hy); (simp only [List.mem_cons, List.not_mem_nil, or_false] at hb); (rcases hb with rfl | rfl | rfl <;> rfl)) (by (have := recL_len (L.take k)); (rw [List.length_take] at this); simp only [List.length_cons, List.length_nil]; omega) HB38.out.size ?_
             intro v9 w9 O9 G9 _
             obtain ⟨a9, k9, c9, h9⟩ := slice_any O9
             subst h9
             have HL9 := Lib.hid (LF.added hvs1 hvs2 hvs3 f1 f2 f3 G9 O9)
             have HB9 := Lib.hid (HB38.out.trans ((Only.of_grown G9).below HB38.out.size fun i _ e => own_ge hvs2 e))
             clear O9 G9 hvs2 hvs3 f1 f2 f3 hsrc)
          | fail)
        go_roundw
        case rel =>
          refine ⟨k + 1, a9, k9, c9, by omega, by go_num, rfl, ?_, HB9.out⟩
          rw [HNX2.out]
          exact HL9.out
        case measure => simp [intOf]; omega
      · obtain rfl : gone = false := by simpa using hgo
        have hb6 := HBK.out
        have hX6 := hX5
        have hK6 : Whole w5 K 5 [vu8 (kindV false)] := hK
        generalize hw6 : w5 = w6 at hX6 hK6 hb6 hK hX5 x2 k0 kf HLF5 HB5 HBK
        go_upto_region 16 with fail
        have HLF6 := Lib.hid (HLF.out.low hb6)
        have HB36 := Lib.hid (HB4.out.trans (hb6.mono HB4.out.size))
        have HNX2 := Lib.hid HNX.out
        have HSL2 := Lib.hid HSL.out
        clear hb6 HLF HLF5 HB5 HBK HB4 HBX hK hX5 x2 k0 kf
        have x0 := hX6.cell 0
        go_wp2_with (first
          | (refine wpList_conv_FB (by rfl) _ (by rfl) key (by rfl) w3 ?_; rintro v7 w7 ⟨a7, k7, c7, rfl⟩ hF7 hb67; have x1 := (hX6.below hb67 hX6.lt).cell 1)
          | (refine wpList_slice_three (by rfl) 69 30 _ _ _ (by rfl) (.slice (some ⟨K, 0, none⟩) 1 1) (.slice a7 k7 c7) (.slice va vn vc) (by rfl) (by rfl) (by rfl) (by rfl) (by rfl) (by rfl) Tryz.underlying69 zero_bytes_sl ?_
             have hsrc := src_three (w := w7) (e := 30) (.slice (some ⟨K, 0, none⟩) 1 1) (.slice a7 k7 c7) (.slice va vn vc)
             have hb78 : Below w7.heap.size w7 (w7.alloc (.cells #[.slice (some ⟨K, 0, none⟩) 1 1, .slice a7 k7 c7, .slice va vn vc] 30)) := (Below.refl _ _).alloc (Nat.le_refl _) _
             generalize w7.alloc (.cells #[.slice (some ⟨K, 0, none⟩) 1 1, .slice a7 k7 c7, .slice va vn vc] 30) = w8 at hsrc hb78
             generalize w7.heap.size = Y at hsrc
             have hb68 := hb67.trans (hb78.mono hb67.size)
             have f1 : FB w3 w8 _ _ := (FB.whole (w0 := w3) hK6).low hb68
             have f2 : FB w3 w8 _ _ := hF7.low hb78
             have f3 : FB w3 w8 _ _ := (HSL2.out.low HB36.out).low hb68
             have hLF8 := HLF6.out.low hb68
             have HB38 := Lib.hid (HB36.out.trans (hb68.mono HB36.out.size))
             clear hF7 hb78 hb68 hX6 x0 x1 hb67
             obtain ⟨vs, hvs1, hvs2, hvs3⟩ := hLF8)
          | (refine wpList_append_gen (f := fun x : Value => [x]) (n := 1) (w := w8) (by rfl) _ _ 69 30 (by rfl) _ 24 Tryz.underlying69 info_bytes rfl (by decide) (by decide) (fun _ => rfl) w3.heap.size _ _ vs [.slice (some ⟨K, 0, none⟩) 1 1, .slice a7 k7 c7, .slice va vn vc] (by rfl) hvs2 (by rfl) hsrc (fun b hb y hy => by (obtain rfl : y = b := by simpa using hy); (simp only [List.mem_cons, List.not_mem_nil, or_false] at hb); (rcases hb with rfl | rfl | rfl <;> rfl)) (by (have := recL_len (L.take k)); (rw [List.length_take] at this); simp only [List.length_cons, List.length_nil]; omega) HB38.out.size ?_
             intro v9 w9 O9 G9 _
             obtain ⟨a9, k9, c9, h9⟩ := slice_any O9
             subst h9
             have HL9 := Lib.hid (LF.added hvs1 hvs2 hvs3 f1 f2 f3 G9 O9)
             have HB9 := Lib.hid (HB38.out.trans ((Only.of_grown G9).below HB38.out.size fun i _ e => own_ge hvs2 e))
             clear O9 G9 hvs2 hvs3 f1 f2 f3 hsrc)
          | fail)
        go_roundw
        case rel =>
          refine ⟨k + 1, a9, k9, c9, by omega, by go_num, rfl, ?_, HB9.out⟩
          rw [HNX2.out]
          exact HL9.out
        case measure => simp [intOf]; omega
    · obtain rfl : k = N := by omega
      have i1 : ¬ (k : Int) < (k : Int) := by omega
      have hls := hLF.lists
      rw [List.take_of_length_le (Nat.le_of_eq HN.out)] at hls
      have HB0r := Lib.hid (HB03.out.trans (hB.mono HB03.out.size))
      have HB3r := Lib.hid hB
      have HFI := Lib.hid (fields_calls wr _ (recL L) hls (by have := recL_len L; have := HN.out; omega) (by have := HZ.out; omega))
      clear hls hLF hB
      go_upto_region 21 with (first
        | (go_at_call 30; refine HFI.out.mono ?_; rintro r w10 ⟨_, rfl, ⟨a10, k10, c10, rfl⟩, hO10, hb10⟩)
        | fail)
      have hB10 := HB0r.out.trans (hb10.mono HB0r.out.size)
      have HT10 := Lib.hid (HT.out.low hB10)
      have HV10 := Lib.hid (HV.out.low (HB3r.out.trans (hb10.mono HB3r.out.size)))
      have c3 : w10.cell? ⟨s, 3, none⟩ = some (.pointer (some ⟨jb, 0, none⟩)) := HT10.out.box.cell 3
      have HAP := Lib.hid (sj_append W w10 d n jb S A A' ks (logN base g) e (HD.out.low hB10) hA hn HT10.out.jour HT10.out.offj HT10.out.gej (by have := logN_size base g hg; omega) _ (recB L) hO10.slice (by unfold recB; rw [fieldsB_length]; exact HZ.out) HR.out)
      have HB10 := Lib.hid hB10
      have HM' := Lib.hid (show ¬ S mb' from fun e => by have := (HD.out.old e).1; have := HSZ.out; omega)
      clear hO10 hb10 hB10
      by_cases he : e = 0
      · subst he
        go_wp2_with (first
          | (go_at_call 31; refine HAP.out.mono ?_; rintro r w11 ⟨rfl, hJ11, S', hD11, ho11, hs11⟩; have HT11 := Lib.hid (HT10.out.jx hJ11 ho11 hs11); have HV11 := Lib.hid (HV10.out.jx HM'.out HT10.out.jour ho11 hs11); have HS11 := Lib.hid hs11; have HO11 := Lib.hid ho11; have HD11 := Lib.hid hD11; have y4 : w11.cell? ⟨s, 4, none⟩ = some (.map (some mb)) := HT11.out.box.cell 4; have y4f := HT11.out.box.free 4; clear hJ11 ho11 hs11 hD11)
          | fail)
        go_ret
        have hm11 : ¬ S' mb' := fun e => HM'.out (HS11.out mb' HV10.out.map.lt e)
        refine ⟨rfl, S', jb, mb', M', ?_, HT11.out.setmap HV11.out hm11, HF.out, hML, ?_, fun i hi e => HS11.out i (Nat.lt_of_lt_of_le hi HB10.out.size) e, .inl rfl⟩
        · exact HD11.out.only (Only.set _ _ _) (fun i _ e => e ▸ HT11.out.offs) (fun i _ e => e ▸ HT11.out.ges)
        · exact (((Only.of_below HB10.out fun i => S i ∨ i = jb).trans HO11.out).trans (Only.set _ _ _)).weak fun i _ e => by
            rcases e with (e | e) | e
            · exact e.elim .inl (fun e => .inr (.inr e))
            · exact e.elim .inl (fun e => .inr (.inr e))
            · exact .inr (.inl e)
      · have g1 : (e == 0) = false := by simpa using he
        go_wp2_with (first
          | (go_at_call 31; refine HAP.out.mono ?_; rintro r w11 ⟨rfl, hJ11, S', hD11, ho11, hs11⟩; have HT11 := Lib.hid (HT10.out.jx hJ11 ho11 hs11); have HS11 := Lib.hid hs11; have HO11 := Lib.hid ho11; have HD11 := Lib.hid hD11; clear hJ11 ho11 hs11 hD11)
          | fail)
        go_ret
        refine ⟨rfl, S', jb, mb, M, HD11.out, HT11.out, fun k => rfl, by omega, ?_, fun i hi e => HS11.out i (Nat.lt_of_lt_of_le hi HB10.out.size) e, .inl rfl⟩
        exact ((Only.of_below HB10.out fun i => S i ∨ i = jb).trans HO11.out).weak fun i _ e => by
          rcases e with e | e
          · exact e.elim .inl (fun e => .inr (.inr e))
          · exact e.elim .inl (fun e => .inr (.inr e))

end Go.Proofs.YtmmlpbepaefamaaGreatDoor
