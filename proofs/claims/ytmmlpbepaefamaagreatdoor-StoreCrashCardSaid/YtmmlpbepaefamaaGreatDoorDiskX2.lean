/- The disk in memory; none and count. -/
import Derived.Test.YtmmlpbepaefamaaGreatDoorDBaseX5
import Derived.Test.YtmmlpbepaefamaaGreatDoorMapNX2
namespace Go.Proofs.YtmmlpbepaefamaaGreatDoor
open Go.RowKit Go.MapKept

/-- Block m is a set of numbers. -/
def MapB (w : World) (m : Nat) (ks : List Int) : Prop := ∃ ents c, w.heap[m]? = some (.map ents c) ∧ ents.toList.map (fun e => (e.key, e.val)) = ks.map fun k => (Value.int .i64 k, Value.bool true)
theorem MapB.lt {w : World} {m : Nat} {ks : List Int} (h : MapB w m ks) : m < w.heap.size := by
  obtain ⟨_, _, h, _⟩ := h
  exact (Array.getElem?_eq_some_iff.1 h).1
theorem MapB.only {w w' : World} {S : Nat → Prop} {m : Nat} {ks : List Int} (h : MapB w m ks) (ho : Only w w' S) (hs : ¬ S m) : MapB w' m ks := by
  obtain ⟨e, c, hm, hl⟩ := h
  exact ⟨e, c, (ho.block m (Array.getElem?_eq_some_iff.1 hm).1 hs).trans hm, hl⟩
theorem MapN.only {w w' : World} {S : Nat → Prop} {m : Nat} {l : List (ByteArray × Value)} (h : MapN w m l) (ho : Only w w' S) (hs : ¬ S m) : MapN w' m l := by
  obtain ⟨e, c, hm, hl⟩ := h
  exact ⟨e, c, (ho.block m (Array.getElem?_eq_some_iff.1 hm).1 hs).trans hm, hl⟩
theorem findNow_B (k : Int) : ∀ (es : List MapEntry) (ks : List Int) (i : Nat), es.map (fun e => (e.key, e.val)) = ks.map (fun k => (Value.int .i64 k, Value.bool true)) →
    ∃ r, Instr.findNow (.int .i64) (.int .i64 k) es i = some r ∧ r.map Prod.snd = if k ∈ ks then some (Value.bool true) else none
  | [], [], _, _ => ⟨none, rfl, rfl⟩
  | [], _ :: _, _, h => by simp at h
  | _ :: _, [], _, h => by simp at h
  | e :: es, p :: ks, i, h => by
    simp only [List.map_cons, List.cons.injEq, Prod.mk.injEq] at h
    obtain ⟨⟨h1, h2⟩, h3⟩ := h
    have hs : Instr.sameNow (.int .i64) (.int .i64 k) e.key = some (k == p) := by rw [h1]; simp [Instr.sameNow]
    by_cases hk : k = p
    · have hb : (k == p) = true := by simpa using hk
      exact ⟨some (i, e.val), by simp [Instr.findNow, hs, hb], by simp [hk, h2]⟩
    · have hb : (k == p) = false := by simpa using hk
      obtain ⟨r, hr, he⟩ := findNow_B k es ks (i + 1) h3
      exact ⟨r, by simp [Instr.findNow, hs, hb, hr], by rw [he]; simp [hk]⟩
theorem look_B {P : Program} {w : World} {T K E : TypeId} {m : Nat} {ks : List Int} (hT : P.underlying T = some (.map K E)) (hK : P.underlying K = some (.int .i64)) (h : MapB w m ks) (k : Int) (hz : (zeroValue E).run P w = .ok (.bool false) w) :
    (Instr.lookup T (.map (some m)) (.int .i64 k) false).run P w = .ok (.bool (decide (k ∈ ks))) w := by
  obtain ⟨ents, c, hm, hl⟩ := h
  obtain ⟨r, hr, he⟩ := findNow_B k ents.toList ks 0 hl
  have hk : IsKey (.int .i64) (.int .i64 k) := by simp [IsKey]
  unfold Instr.lookup
  simp only [Sem.run_bind, run_underlying hT, Result.andThen_ok, MapKept.run_getObj_map hm, Sem.run_pure, MapKept.run_checkKey hK hk, MapKept.run_findKey hK hr]
  by_cases hin : k ∈ ks
  · rw [if_pos hin] at he
    cases r with
    | none => cases he
    | some p =>
      simp at he
      simp [he, hin]
  · rw [if_neg hin] at he
    cases r with
    | none => simp [hz, hin]
    | some p => cases he

/-- The disk: its files (a name, a block, what it holds), the operations that are refused, how many there were. -/
structure DiskAt (W w : World) (d fm rm : Nat) (own : Nat → Option Nat) (L : List (ByteArray × Nat × Dfile)) (ks : List Int) (n : Nat) : Prop where
  box : Whole w d 60 [.map (some fm), .map (some rm), .int .i64 n]
  all : MapN w fm (L.map fun x => (x.1, .pointer (some ⟨x.2.1, 0, none⟩)))
  ref : MapB w rm ks
  each : ∀ x ∈ L, ∃ sv ov l, FileAt w W.heap.size own x.2.1 x.2.2 sv ov l
  nod : (L.map (·.2.1)).Nodup
  keys : (L.map (·.1)).Nodup
  noD : own d = none
  noF : own fm = none
  noR : own rm = none
  fr : fm ≠ rm
  ged : W.heap.size ≤ d
  gef : W.heap.size ≤ fm
  ger : W.heap.size ≤ rm
  below : Below W.heap.size W w
  old : ∀ i fb, own i = some fb → W.heap.size ≤ i ∧ i < w.heap.size
theorem DiskAt.low {W w w' : World} {d fm rm n : Nat} {own : Nat → Option Nat} {L : List (ByteArray × Nat × Dfile)} {ks : List Int} (h : DiskAt W w d fm rm own L ks n) (hb : Below w.heap.size w w') : DiskAt W w' d fm rm own L ks n := by
  have ho := Only.of_below hb (fun _ => False)
  exact ⟨h.box.only ho id, h.all.only ho id, h.ref.only ho id, fun x hx => by obtain ⟨sv, ov, l, hf⟩ := h.each x hx; exact ⟨sv, ov, l, hf.low hb⟩, h.nod, h.keys, h.noD, h.noF, h.noR, h.fr, h.ged, h.gef, h.ger, h.below.trans (hb.mono h.below.size), fun i fb e => ⟨(h.old i fb e).1, Nat.lt_of_lt_of_le (h.old i fb e).2 hb.size⟩⟩
theorem DiskAt.dm {W w : World} {d fm rm n : Nat} {own : Nat → Option Nat} {L : List (ByteArray × Nat × Dfile)} {ks : List Int} (h : DiskAt W w d fm rm own L ks n) : d ≠ fm ∧ d ≠ rm := by
  obtain ⟨e, c, hm, _⟩ := h.all
  obtain ⟨e2, c2, hm2, _⟩ := h.ref
  exact ⟨whole_ne_map h.box hm, whole_ne_map h.box hm2⟩

set_option maxRecDepth 100000 in
theorem dnone_calls (w : World) (d fm : Nat) (h : w.cell? ⟨d, 0, none⟩ = some (.map (some fm))) : Calls Tryz.prog 35 #[.pointer (some ⟨d, 0, none⟩)] w fun e w' => e = .returned (.bool false) ∧ w = w' := by
  have q : (binOp .eql 57 (.map (some fm)) (.map none)).run Tryz.prog w = .ok (.bool false) w := run_eql_map_nil w _ _ _ _ Tryz.underlying57
  go_enter Tryz.func35, Tryz.ntmps35
  go_wp2
  go_ret
  exact ⟨rfl, rfl⟩

set_option maxRecDepth 100000 in
set_option maxHeartbeats 1000000 in
theorem count_calls (W w : World) (d fm rm n : Nat) (own : Nat → Option Nat) (L : List (ByteArray × Nat × Dfile)) (ks : List Int) (h : DiskAt W w d fm rm own L ks n) (hn : n ≤ 1000000000) (q : Bool) (hq : decide (((n : Int) + 1) ∈ ks) = q) :
    Calls Tryz.prog 74 #[.pointer (some ⟨d, 0, none⟩)] w fun e w' => e = .returned (.int .i64 (if q = true then 13 else 0)) ∧ DiskAt W w' d fm rm own L ks (n + 1) ∧ Only w w' fun i => i = d := by
  have HN := Lib.hid (dnone_calls w d fm (h.box.cell 0))
  have c2 := h.box.cell 2
  have f2 := h.box.free 2
  have b1 : IntKind.i64.wrap ((n : Int) + 1) = (n : Int) + 1 := IntWalk.i64_in _ (by omega)
  go_enter Tryz.func74, Tryz.ntmps74
  go_upto_region 4 with (first
    | (go_at_call 35; refine HN.out.mono ?_; rintro e w' ⟨rfl, rfl⟩)
    | fail)
  have ho := Only.set w ⟨d, 2, none⟩ (.int .i64 ((n : Int) + 1))
  have hs : DiskAt W (w.setCell ⟨d, 2, none⟩ (.int .i64 ((n : Int) + 1))) d fm rm own L ks (n + 1) :=
    ⟨h.box.put 2 _, h.all.only ho (fun e => h.dm.1 e.symm), h.ref.only ho (fun e => h.dm.2 e.symm), fun x hx => by
      obtain ⟨sv, ov, l, hf⟩ := h.each x hx
      exact ⟨sv, ov, l, hf.only ho (fun i hi (e : i = d) => by rw [e, h.noD] at hi; cases hi) (fun _ _ => rfl)⟩, h.nod, h.keys, h.noD, h.noF, h.noR, h.fr, h.ged, h.gef, h.ger, h.below.setCell h.ged _, fun i fb e => ⟨(h.old i fb e).1, by simpa using (h.old i fb e).2⟩⟩
  clear h c2 f2 HN
  generalize w.setCell ⟨d, 2, none⟩ (.int .i64 ((n : Int) + 1)) = w2 at hs ho ⊢
  have c1 := hs.box.cell 1
  have c2 : w2.cell? ⟨d, 2, none⟩ = some (.int .i64 ((n : Int) + 1)) := hs.box.cell 2
  have hz : ∀ w : World, (zeroValue 4).run Tryz.prog w = .ok (.bool false) w := fun w => by kernel_rfl
  have hlk := look_B (P := Tryz.prog) (w := w2.drew) Tryz.underlying58 Tryz.underlying3 (hs.ref.only (Only.of_below ((Below.refl _ _).drew) (fun _ => False)) id) ((n : Int) + 1) (hz _)
  rw [hq] at hlk
  go_still (by kernel_rfl)
  change Exit.then _ _ Exit.normal _ w2.drew
  replace hs := hs.low (Below.refl w2.heap.size w2).drew
  clear c1 c2 hlk
  replace ho := (ho.trans (Only.of_below ((Below.refl w2.heap.size w2).drew) (fun _ => False))).weak (fun _ _ e => e.elim id False.elim)
  generalize w2.drew = w3 at hs ho ⊢
  cases q
  · go_wp2
    go_ret
    exact ⟨rfl, hs, ho⟩
  · go_wp2
    go_ret
    exact ⟨rfl, hs, ho⟩

end Go.Proofs.YtmmlpbepaefamaaGreatDoor

/- The disk's files by name; Read and Pending. -/
namespace Go.Proofs.YtmmlpbepaefamaaGreatDoor
open Go.RowKit Go.MapKept

/-- Where a file lies, and what it holds. -/
def getL : List (ByteArray × Nat × Dfile) → ByteArray → Option (Nat × Dfile)
  | [], _ => none
  | x :: L, s => if x.1 = s then some x.2 else getL L s
/-- A file that holds something else now. -/
def setL : List (ByteArray × Nat × Dfile) → ByteArray → Dfile → List (ByteArray × Nat × Dfile)
  | [], _, _ => []
  | x :: L, s, f => if x.1 = s then (x.1, x.2.1, f) :: L else x :: setL L s f
theorem getL_find : ∀ (L : List (ByteArray × Nat × Dfile)) (s : ByteArray), findN (L.map fun x => (x.1, Value.pointer (some ⟨x.2.1, 0, Option.none⟩))) s = (getL L s).map fun p => Value.pointer (some ⟨p.1, 0, Option.none⟩)
  | [], _ => rfl
  | x :: L, s => by
    rw [List.map_cons]
    unfold findN getL
    split
    · rfl
    · exact getL_find L s
theorem getL_mem : ∀ (L : List (ByteArray × Nat × Dfile)) (s : ByteArray) (p : Nat × Dfile), getL L s = some p → (s, p) ∈ L
  | [], _, _, h => by cases h
  | x :: L, s, p, h => by
    unfold getL at h
    split at h
    · rename_i hx
      injection h with h
      obtain ⟨a, b⟩ := x
      obtain rfl : a = s := hx
      obtain rfl : b = p := h
      exact List.mem_cons_self
    · exact List.mem_cons_of_mem _ (getL_mem L s p h)
theorem setL_keys : ∀ (L : List (ByteArray × Nat × Dfile)) (s : ByteArray) (f : Dfile), (setL L s f).map (fun x => (x.1, Value.pointer (some ⟨x.2.1, 0, Option.none⟩))) = L.map fun x => (x.1, Value.pointer (some ⟨x.2.1, 0, Option.none⟩))
  | [], _, _ => rfl
  | x :: L, s, f => by
    unfold setL
    split
    · rfl
    · rw [List.map_cons, List.map_cons, setL_keys L s f]
theorem setL_boxes : ∀ (L : List (ByteArray × Nat × Dfile)) (s : ByteArray) (f : Dfile), (setL L s f).map (·.2.1) = L.map (·.2.1)
  | [], _, _ => rfl
  | x :: L, s, f => by
    unfold setL
    split
    · rfl
    · rw [List.map_cons, List.map_cons, setL_boxes L s f]
theorem setL_names : ∀ (L : List (ByteArray × Nat × Dfile)) (s : ByteArray) (f : Dfile), (setL L s f).map (·.1) = L.map (·.1)
  | [], _, _ => rfl
  | x :: L, s, f => by
    unfold setL
    split
    · rfl
    · rw [List.map_cons, List.map_cons, setL_names L s f]
/-- Each file of the list is an older one of another block, or the new one. -/
theorem setL_each : ∀ (L : List (ByteArray × Nat × Dfile)) (s : ByteArray) (f : Dfile) (p : Nat × Dfile), getL L s = some p → (L.map (·.2.1)).Nodup → ∀ y ∈ setL L s f, y = (s, p.1, f) ∨ (y ∈ L ∧ y.2.1 ≠ p.1)
  | [], _, _, _, h, _, _, _ => by cases h
  | x :: L, s, f, p, h, hn, y, hy => by
    rw [List.map_cons, List.nodup_cons] at hn
    unfold getL at h
    unfold setL at hy
    split at h
    · rename_i hx
      rw [if_pos hx] at hy
      injection h with h
      rcases List.mem_cons.1 hy with rfl | hy
      · left
        rw [← h, ← hx]
      · refine .inr ⟨List.mem_cons_of_mem _ hy, fun e => hn.1 ?_⟩
        rw [h, ← e]
        exact List.mem_map_of_mem hy
    · rename_i hx
      rw [if_neg hx] at hy
      rcases List.mem_cons.1 hy with rfl | hy
      · refine .inr ⟨List.mem_cons_self, fun e => hn.1 ?_⟩
        rw [e]
        exact List.mem_map_of_mem (f := (·.2.1)) (getL_mem L s p h)
      · rcases setL_each L s f p h hn.2 y hy with h1 | ⟨h1, h2⟩
        · exact .inl h1
        · exact .inr ⟨List.mem_cons_of_mem _ h1, h2⟩
theorem getL_set : ∀ (L : List (ByteArray × Nat × Dfile)) (s : ByteArray) (f : Dfile) (p : Nat × Dfile), getL L s = some p → getL (setL L s f) s = some (p.1, f)
  | [], _, _, _, h => by cases h
  | x :: L, s, f, p, h => by
    unfold getL at h
    unfold setL
    split at h
    · rename_i hx
      injection h with h
      rw [if_pos hx]
      unfold getL
      rw [if_pos hx, h]
    · rename_i hx
      rw [if_neg hx]
      unfold getL
      rw [if_neg hx]
      exact getL_set L s f p h
theorem DiskAt.get {W w : World} {d fm rm n : Nat} {own : Nat → Option Nat} {L : List (ByteArray × Nat × Dfile)} {ks : List Int} (h : DiskAt W w d fm rm own L ks n) {s : ByteArray} {fb : Nat} {f : Dfile} (hg : getL L s = some (fb, f)) : ∃ sv ov l, FileAt w W.heap.size own fb f sv ov l := h.each _ (getL_mem L s _ hg)
/-- The blocks from a up to b are of a file. -/
def ownG (own : Nat → Option Nat) (a b fb : Nat) (i : Nat) : Option Nat := if a ≤ i ∧ i < b then some fb else own i
theorem ownG_old (own : Nat → Option Nat) (a b fb : Nat) {i : Nat} (h : i < a) : ownG own a b fb i = own i := if_neg (by omega)
theorem ownG_new (own : Nat → Option Nat) (a b fb : Nat) {i : Nat} (h1 : a ≤ i) (h2 : i < b) : ownG own a b fb i = some fb := if_pos ⟨h1, h2⟩
/-- One file is another one now. -/
theorem DiskAt.file {W w w' : World} {d fm rm n : Nat} {own : Nat → Option Nat} {L : List (ByteArray × Nat × Dfile)} {ks : List Int} (h : DiskAt W w d fm rm own L ks n) {s : ByteArray} {fb : Nat} {f f' : Dfile} {sv ov : Value} {l : List (Dop × Value)}
    (hg : getL L s = some (fb, f)) (ho : Only w w' fun i => own i = some fb) (hf : FileAt w' W.heap.size (ownG own w.heap.size w'.heap.size fb) fb f' sv ov l) : DiskAt W w' d fm rm (ownG own w.heap.size w'.heap.size fb) (setL L s f') ks n := by
  have he : ∀ i, i < w.heap.size → ownG own w.heap.size w'.heap.size fb i = own i := fun i hi => ownG_old _ _ _ _ hi
  obtain ⟨sv0, ov0, l0, hf0⟩ := h.get hg
  have no : ∀ {b : Nat}, own b = none → ¬ own b = some fb := fun e e2 => by rw [e] at e2; cases e2
  have hd := h.box.lt
  have hm := h.all.lt
  have hr := h.ref.lt
  refine ⟨h.box.only ho (no h.noD), by rw [setL_keys]; exact h.all.only ho (no h.noF), h.ref.only ho (no h.noR), fun y hy => ?_, by rw [setL_boxes]; exact h.nod, by rw [setL_names]; exact h.keys, by rw [he _ hd]; exact h.noD, by rw [he _ hm]; exact h.noF, by rw [he _ hr]; exact h.noR, h.fr, h.ged, h.gef, h.ger, h.below.trans (ho.below h.below.size fun i hi hs => (h.old i fb hs).1), fun i fb2 e => ?_⟩
  · rcases setL_each L s f' _ hg h.nod y hy with rfl | ⟨h1, h2⟩
    · exact ⟨sv, ov, l, hf⟩
    · obtain ⟨sv1, ov1, l1, hf1⟩ := h.each y h1
      exact ⟨sv1, ov1, l1, hf1.only ho (fun i hi hs => h2 (Option.some.inj (hi.symm.trans hs))) he⟩
  · unfold ownG at e
    split at e
    · rename_i hh
      exact ⟨Nat.le_trans h.below.size hh.1, hh.2⟩
    · exact ⟨(h.old i fb2 e).1, Nat.lt_of_lt_of_le (h.old i fb2 e).2 ho.size⟩

/-- A cell of another block is written over. -/
theorem DiskAt.far {W w : World} {d fm rm n x : Nat} {own : Nat → Option Nat} {L : List (ByteArray × Nat × Dfile)} {ks : List Int} (h : DiskAt W w d fm rm own L ks n) (h1 : own x = none) (h2 : x ≠ d) (h3 : x ≠ fm) (h4 : W.heap.size ≤ x) (h5 : x ≠ rm) (i : Nat) (u : Value) : DiskAt W (w.setCell ⟨x, i, Option.none⟩ u) d fm rm own L ks n := by
  have ho := Only.set w ⟨x, i, Option.none⟩ u
  exact ⟨h.box.only ho (fun e => h2 e.symm), h.all.only ho (fun e => h3 e.symm), h.ref.only ho (fun e => h5 e.symm), fun y hy => by
    obtain ⟨sv, ov, l, hf⟩ := h.each y hy
    exact ⟨sv, ov, l, hf.only ho (fun j hj (e : j = x) => by rw [e, h1] at hj; cases hj) (fun _ _ => rfl)⟩, h.nod, h.keys, h.noD, h.noF, h.noR, h.fr, h.ged, h.gef, h.ger, h.below.setCell h4 _, fun j fb e => ⟨(h.old j fb e).1, by simpa using (h.old j fb e).2⟩⟩

set_option maxRecDepth 100000 in
set_option maxHeartbeats 1000000 in
theorem dread_missing (W w : World) (d fm rm n : Nat) (own : Nat → Option Nat) (L : List (ByteArray × Nat × Dfile)) (ks : List Int) (h : DiskAt W w d fm rm own L ks n) (s : ByteArray) (hg : getL L s = none) :
    Calls Tryz.prog 20 #[.pointer (some ⟨d, 0, none⟩), .string s] w fun e w' => e = .returned (.tuple #[.slice none 0 0, .int .i64 6]) ∧ w = w' := by
  have HN := Lib.hid (dnone_calls w d fm (h.box.cell 0))
  have c0 := h.box.cell 0
  have hz : ∀ w : World, (zeroValue 84).run Tryz.prog w = .ok (.pointer none) w := fun w => by kernel_rfl
  have hlk := look_N (P := Tryz.prog) Tryz.underlying57 Tryz.underlying9 h.all s (hz _)
  rw [getL_find, hg] at hlk
  go_enter Tryz.func20, Tryz.ntmps20
  go_wp2_with (first
    | (go_at_call 35; refine HN.out.mono ?_; rintro e w' ⟨rfl, rfl⟩)
    | fail)
  go_ret2
  exact ⟨rfl, rfl⟩

set_option maxRecDepth 100000 in
set_option maxHeartbeats 1000000 in
theorem dread_there (W w : World) (d fm rm n : Nat) (own : Nat → Option Nat) (L : List (ByteArray × Nat × Dfile)) (ks : List Int) (h : DiskAt W w d fm rm own L ks n) (s : ByteArray) (fb : Nat) (f : Dfile) (hg : getL L s = some (fb, f)) (hlen : f.ops.length ≤ 100000) :
    Calls Tryz.prog 20 #[.pointer (some ⟨d, 0, none⟩), .string s] w fun e w' => ∃ u, e = .returned (.tuple #[u, .int .i64 0]) ∧ Own w' w.heap.size u f.content ∧ Below w.heap.size w w' := by
  have HN := Lib.hid (dnone_calls w d fm (h.box.cell 0))
  have c0 := h.box.cell 0
  have hz : ∀ w : World, (zeroValue 84).run Tryz.prog w = .ok (.pointer none) w := fun w => by kernel_rfl
  have hlk := look_N (P := Tryz.prog) Tryz.underlying57 Tryz.underlying9 h.all s (hz _)
  rw [getL_find, hg] at hlk
  obtain ⟨sv, ov, l, hf⟩ := h.get hg
  have HC := Lib.hid (content_calls w W.heap.size fb own f sv ov l hf hlen)
  clear hf
  go_enter Tryz.func20, Tryz.ntmps20
  go_wp2_with (first
    | (go_at_call 50; refine HC.out.mono ?_; rintro e w2 ⟨u, rfl, O2, b2⟩; obtain ⟨ua, un, uc, rfl⟩ := slice_any O2)
    | (go_at_call 35; refine HN.out.mono ?_; rintro e w' ⟨rfl, rfl⟩)
    | fail)
  go_ret2
  exact ⟨_, rfl, O2, b2⟩

set_option maxRecDepth 100000 in
set_option maxHeartbeats 1000000 in
theorem dpend_missing (W w : World) (d fm rm n : Nat) (own : Nat → Option Nat) (L : List (ByteArray × Nat × Dfile)) (ks : List Int) (h : DiskAt W w d fm rm own L ks n) (s : ByteArray) (hg : getL L s = none) :
    Calls Tryz.prog 70 #[.pointer (some ⟨d, 0, none⟩), .string s] w fun e w' => e = .returned (.int .i64 0) ∧ w = w' := by
  have HN := Lib.hid (dnone_calls w d fm (h.box.cell 0))
  have c0 := h.box.cell 0
  have hz : ∀ w : World, (zeroValue 84).run Tryz.prog w = .ok (.pointer none) w := fun w => by kernel_rfl
  have hlk := look_N (P := Tryz.prog) Tryz.underlying57 Tryz.underlying9 h.all s (hz _)
  rw [getL_find, hg] at hlk
  go_enter Tryz.func70, Tryz.ntmps70
  go_wp2_with (first
    | (go_at_call 35; refine HN.out.mono ?_; rintro e w' ⟨rfl, rfl⟩)
    | fail)
  go_ret
  exact ⟨rfl, rfl⟩

set_option maxRecDepth 100000 in
set_option maxHeartbeats 1000000 in
theorem dpend_there (W w : World) (d fm rm n : Nat) (own : Nat → Option Nat) (L : List (ByteArray × Nat × Dfile)) (ks : List Int) (h : DiskAt W w d fm rm own L ks n) (s : ByteArray) (fb : Nat) (f : Dfile) (hg : getL L s = some (fb, f)) :
    Calls Tryz.prog 70 #[.pointer (some ⟨d, 0, none⟩), .string s] w fun e w' => e = .returned (.int .i64 f.ops.length) ∧ w = w' := by
  have HN := Lib.hid (dnone_calls w d fm (h.box.cell 0))
  have c0 := h.box.cell 0
  have hz : ∀ w : World, (zeroValue 84).run Tryz.prog w = .ok (.pointer none) w := fun w => by kernel_rfl
  have hlk := look_N (P := Tryz.prog) Tryz.underlying57 Tryz.underlying9 h.all s (hz _)
  rw [getL_find, hg] at hlk
  obtain ⟨sv, ov, l, hf⟩ := h.get hg
  obtain ⟨oa, oc, rfl⟩ := hf.slice
  have c1 := hf.box.cell 1
  clear hf
  go_enter Tryz.func70, Tryz.ntmps70
  go_wp2_with (first
    | (go_at_call 35; refine HN.out.mono ?_; rintro e w' ⟨rfl, rfl⟩)
    | fail)
  go_ret
  exact ⟨rfl, rfl⟩

end Go.Proofs.YtmmlpbepaefamaaGreatDoor
