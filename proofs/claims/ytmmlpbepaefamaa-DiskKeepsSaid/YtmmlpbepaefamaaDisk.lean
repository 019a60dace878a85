/- The disk in memory; none and count. -/
import Derived.Test.YtmmlpbepaefamaaDFile
import Derived.Test.YtmmlpbepaefamaaMapN
namespace Go.Proofs.Ytmmlpbepaefamaa
open Go.RowKit Go.MapKept

/-- Block m is a set of numbers. -/
def MapB (w : World) (m : Nat) (ks : List Int) : Prop := ∃ ents c, w.heap[m]? = some (.map ents c) ∧ ents.toList.map (fun e => (e.key, e.val)) = ks.map fun k => (Value.int .i64 k, Value.bool true)
theorem MapB.lt {w : World} {m : Nat} {ks : List Int} (h : MapB w m ks) : m < w.heap.size := by
  obtain ⟨_, _, h, _⟩ := h
  exact (Array.getElem?_eq_some_iff.1 h).1
theorem MapB.only {w w' : World} {S : Nat → Prop} {m : Nat} {ks : List Int} (h : MapB w m ks) (ho : Only w w' S) (hs : ¬ S m) : MapB w' m ks := by
  obtain ⟨e, c, hm, hl⟩ := h
  exact ⟨e, c, (ho.block m (Array.getElem?_eq_some_iff.1 hm).1 hs).trans hm, hl⟩
theorem MapN.only {w w' : World} {S : Nat → Prop} {m : Nat} {l : List (ByteArray × Value)} (h : MapN w m l) (ho : Only w w' S) (hs : ¬ S m) : MapN w' m l := by
  obtain ⟨e, c, hm, hl⟩ := h
  exact ⟨e, c, (ho.block m (Array.getElem?_eq_some_iff.1 hm).1 hs).trans hm, hl⟩
theorem findNow_B (k : Int) : ∀ (es : List MapEntry) (ks : List Int) (i : Nat), es.map (fun e => (e.key, e.val)) = ks.map (fun k => (Value.int .i64 k, Value.bool true)) →
    ∃ r, Instr.findNow (.int .i64) (.int .i64 k) es i = some r ∧ r.map Prod.snd = if k ∈ ks then some (Value.bool true) else none
  | [], [], _, _ => ⟨none, rfl, rfl⟩
  | [], _ :: _, _, h => by simp at h
  | _ :: _, [], _, h => by simp at h
  | e :: es, p :: ks, i, h => by
    simp only [List.map_cons, List.cons.injEq, Prod.mk.injEq] at h
    obtain ⟨⟨h1, h2⟩, h3⟩ := h
    have hs : Instr.sameNow (.int .i64) (.int .i64 k) e.key = some (k == p) := by rw [h1]; simp [Instr.sameNow]
    by_cases hk : k = p
    · have hb : (k == p) = true := by simpa using hk
      exact ⟨some (i, e.val), by simp [Instr.findNow, hs, hb], by simp [hk, h2]⟩
    · have hb : (k == p) = false := by simpa using hk
      obtain ⟨r, hr, he⟩ := findNow_B k es ks (i + 1) h3
      exact ⟨r, by simp [Instr.findNow, hs, hb, hr], by rw [he]; simp [hk]⟩
theorem look_B {P : Program} {w : World} {T K E : TypeId} {m : Nat} {ks : List Int} (hT : P.underlying T = some (.map K E)) (hK : P.underlying K = some (.int .i64)) (h : MapB w m ks) (k : Int) (hz : (zeroValue E).run P w = .ok (.bool false) w) :
    (Instr.lookup T (.map (some m)) (.int .i64 k) false).run P w = .ok (.bool (decide (k ∈ ks))) w := by
  obtain ⟨ents, c, hm, hl⟩ := h
  obtain ⟨r, hr, he⟩ := findNow_B k ents.toList ks 0 hl
  have hk : IsKey (.int .i64) (.int .i64 k) := by simp [IsKey]
  unfold Instr.lookup
  simp only [Sem.run_bind, run_underlying hT, Result.andThen_ok, MapKept.run_getObj_map hm, Sem.run_pure, MapKept.run_checkKey hK hk, MapKept.run_findKey hK hr]
  by_cases hin : k ∈ ks
  · rw [if_pos hin] at he
    cases r with
    | none => cases he
    | some p =>
      simp at he
      simp [he, hin]
  · rw [if_neg hin] at he
    cases r with
    | none => simp [hz, hin]
    | some p => cases he

/-- The disk: its files (a name, a block, what it holds), the operations that are refused, how many there were. -/
structure DiskAt (W w : World) (d fm rm : Nat) (own : Nat → Option Nat) (L : List (ByteArray × Nat × Dfile)) (ks : List Int) (n : Nat) : Prop where
  box : Whole w d 74 [.map (some fm), .map (some rm), .int .i64 n]
  all : MapN w fm (L.map fun x => (x.1, .pointer (some ⟨x.2.1, 0, none⟩)))
  ref : MapB w rm ks
  each : ∀ x ∈ L, ∃ sv ov l, FileAt w W.heap.size own x.2.1 x.2.2 sv ov l
  nod : (L.map (·.2.1)).Nodup
  keys : (L.map (·.1)).Nodup
  noD : own d = none
  noF : own fm = none
  noR : own rm = none
  fr : fm ≠ rm
  ged : W.heap.size ≤ d
  gef : W.heap.size ≤ fm
  ger : W.heap.size ≤ rm
  below : Below W.heap.size W w
  old : ∀ i fb, own i = some fb → W.heap.size ≤ i ∧ i < w.heap.size
theorem DiskAt.low {W w w' : World} {d fm rm n : Nat} {own : Nat → Option Nat} {L : List (ByteArray × Nat × Dfile)} {ks : List Int} (h : DiskAt W w d fm rm own L ks n) (hb : Below w.heap.size w w') : DiskAt W w' d fm rm own L ks n := by
  have ho := Only.of_below hb (fun _ => False)
  exact ⟨h.box.only ho id, h.all.only ho id, h.ref.only ho id, fun x hx => by obtain ⟨sv, ov, l, hf⟩ := h.each x hx; exact ⟨sv, ov, l, hf.low hb⟩, h.nod, h.keys, h.noD, h.noF, h.noR, h.fr, h.ged, h.gef, h.ger, h.below.trans (hb.mono h.below.size), fun i fb e => ⟨(h.old i fb e).1, Nat.lt_of_lt_of_le (h.old i fb e).2 hb.size⟩⟩
theorem DiskAt.dm {W w : World} {d fm rm n : Nat} {own : Nat → Option Nat} {L : List (ByteArray × Nat × Dfile)} {ks : List Int} (h : DiskAt W w d fm rm own L ks n) : d ≠ fm ∧ d ≠ rm := by
  obtain ⟨e, c, hm, _⟩ := h.all
  obtain ⟨e2, c2, hm2, _⟩ := h.ref
  exact ⟨whole_ne_map h.box hm, whole_ne_map h.box hm2⟩

set_option maxRecDepth 100000 in
theorem dnone_calls (w : World) (d fm : Nat) (h : w.cell? ⟨d, 0, none⟩ = some (.map (some fm))) : Calls Try.prog 40 #[.pointer (some ⟨d, 0, none⟩)] w fun e w' => e = .returned (.bool false) ∧ w = w' := by
  have q : (binOp .eql 71 (.map (some fm)) (.map none)).run Try.prog w = .ok (.bool false) w := run_eql_map_nil w _ _ _ _ Try.underlying71
  go_enter Try.func40, Try.ntmps40
  go_wp2
  go_ret
  exact ⟨rfl, rfl⟩

set_option maxRecDepth 100000 in
set_option maxHeartbeats 1000000 in
theorem count_calls (W w : World) (d fm rm n : Nat) (own : Nat → Option Nat) (L : List (ByteArray × Nat × Dfile)) (ks : List Int) (h : DiskAt W w d fm rm own L ks n) (hn : n ≤ 1000000000) (q : Bool) (hq : decide (((n : Int) + 1) ∈ ks) = q) :
    Calls Try.prog 43 #[.pointer (some ⟨d, 0, none⟩)] w fun e w' => e = .returned (.int .i64 (if q = true then 13 else 0)) ∧ DiskAt W w' d fm rm own L ks (n + 1) ∧ Only w w' fun i => i = d := by
  have HN := Lib.hid (dnone_calls w d fm (h.box.cell 0))
  have c2 := h.box.cell 2
  have f2 := h.box.free 2
  have b1 : IntKind.i64.wrap ((n : Int) + 1) = (n : Int) + 1 := IntWalk.i64_in _ (by omega)
  go_enter Try.func43, Try.ntmps43
  go_upto_region 4 with (first
    | (go_at_call 40; refine HN.out.mono ?_; rintro e w' ⟨rfl, rfl⟩)
    | fail)
  have ho := Only.set w ⟨d, 2, none⟩ (.int .i64 ((n : Int) + 1))
  have hs : DiskAt W (w.setCell ⟨d, 2, none⟩ (.int .i64 ((n : Int) + 1))) d fm rm own L ks (n + 1) :=
    ⟨h.box.put 2 _, h.all.only ho (fun e => h.dm.1 e.symm), h.ref.only ho (fun e => h.dm.2 e.symm), fun x hx => by
      obtain ⟨sv, ov, l, hf⟩ := h.each x hx
      exact ⟨sv, ov, l, hf.only ho (fun i hi (e : i = d) => by rw [e, h.noD] at hi; cases hi) (fun _ _ => rfl)⟩, h.nod, h.keys, h.noD, h.noF, h.noR, h.fr, h.ged, h.gef, h.ger, h.below.setCell h.ged _, fun i fb e => ⟨(h.old i fb e).1, by simpa using (h.old i fb e).2⟩⟩
  clear h c2 f2 HN
  generalize w.setCell ⟨d, 2, none⟩ (.int .i64 ((n : Int) + 1)) = w2 at hs ho ⊢
  have c1 := hs.box.cell 1
  have c2 : w2.cell? ⟨d, 2, none⟩ = some (.int .i64 ((n : Int) + 1)) := hs.box.cell 2
  have hz : ∀ w : World, (zeroValue 4).run Try.prog w = .ok (.bool false) w := fun w => by kernel_rfl
  have hlk := look_B (P := Try.prog) (w := w2.drew) Try.underlying72 Try.underlying3 (hs.ref.only (Only.of_below ((Below.refl _ _).drew) (fun _ => False)) id) ((n : Int) + 1) (hz _)
  rw [hq] at hlk
  go_still (by kernel_rfl)
  change Exit.then _ _ Exit.normal _ w2.drew
  replace hs := hs.low (Below.refl w2.heap.size w2).drew
  clear c1 c2 hlk
  replace ho := (ho.trans (Only.of_below ((Below.refl w2.heap.size w2).drew) (fun _ => False))).weak (fun _ _ e => e.elim id False.elim)
  generalize w2.drew = w3 at hs ho ⊢
  cases q
  · go_wp2
    go_ret
    exact ⟨rfl, hs, ho⟩
  · go_wp2
    go_ret
    exact ⟨rfl, hs, ho⟩

end Go.Proofs.Ytmmlpbepaefamaa
