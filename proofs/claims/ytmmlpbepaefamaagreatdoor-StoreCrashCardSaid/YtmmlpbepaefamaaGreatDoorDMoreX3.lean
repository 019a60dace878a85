/- Disk.Remove, Disk.Rename, and New of a list of numbers. -/
import Derived.Test.YtmmlpbepaefamaaGreatDoorDCrX2
import Derived.Test.YtmmlpbepaefamaaGreatDoorDErr
import Derived.Test.YtmmlpbepaefamaaGreatDoorDNew
namespace Go.Proofs.YtmmlpbepaefamaaGreatDoor
open Go.RowKit Go.MapKept

theorem getL_drop : ∀ (L : List (ByteArray × Nat × Dfile)) (s : ByteArray), getL (dropL L s) s = none
  | [], _ => rfl
  | x :: L, s => by
    unfold dropL
    by_cases h : x.1 = s
    · rw [List.filter_cons_of_neg (by simp [h])]
      exact getL_drop L s
    · rw [List.filter_cons_of_pos (by simp [h])]
      unfold getL
      rw [if_neg h]
      exact getL_drop L s
theorem getL_dropNe : ∀ (L : List (ByteArray × Nat × Dfile)) (s t : ByteArray), s ≠ t → getL (dropL L s) t = getL L t
  | [], _, _, _ => rfl
  | x :: L, s, t, hst => by
    have ih := getL_dropNe L s t hst
    unfold dropL at ih ⊢
    by_cases h : x.1 = s
    · rw [List.filter_cons_of_neg (by simp [h]), ih]
      conv => rhs; unfold getL
      rw [if_neg (fun e => hst (h.symm.trans e))]
    · rw [List.filter_cons_of_pos (by simp [h])]
      unfold getL
      split
      · rfl
      · exact ih
/-- A file under a name. -/
def putL (L : List (ByteArray × Nat × Dfile)) (t : ByteArray) (fb : Nat) (f : Dfile) : List (ByteArray × Nat × Dfile) := if getL L t = none then L ++ [(t, fb, f)] else L.map fun x => if x.1 = t then (t, fb, f) else x
theorem mem_setN {L : List (ByteArray × Nat × Dfile)} {t : ByteArray} {fb : Nat} {f : Dfile} {y : ByteArray × Nat × Dfile} (h : y ∈ putL L t fb f) : y = (t, fb, f) ∨ y ∈ L ∧ y.1 ≠ t := by
  unfold putL at h
  split at h
  · rename_i hg
    rcases List.mem_append.1 h with h | h
    · exact .inr ⟨h, getL_none L t hg y h⟩
    · exact .inl (by simpa using h)
  · obtain ⟨x, hx, rfl⟩ := List.mem_map.1 h
    by_cases e : x.1 = t
    · rw [if_pos e]
      exact .inl rfl
    · rw [if_neg e]
      exact .inr ⟨hx, e⟩
theorem over_boxes {t : ByteArray} {fb : Nat} {f : Dfile} : ∀ {L : List (ByteArray × Nat × Dfile)}, (L.map (·.2.1)).Nodup → (L.map (·.1)).Nodup → fb ∉ L.map (·.2.1) → ((L.map fun x => if x.1 = t then (t, fb, f) else x).map (·.2.1)).Nodup
  | [], _, _, _ => by simp
  | x :: L, hn, hk, hfb => by
    rw [List.map_cons, List.nodup_cons] at hn hk
    rw [List.map_cons, List.mem_cons, not_or] at hfb
    rw [List.map_cons, List.map_cons, List.nodup_cons]
    refine ⟨fun hm => ?_, over_boxes hn.2 hk.2 hfb.2⟩
    obtain ⟨y, hy, he⟩ := List.mem_map.1 hm
    obtain ⟨z, hz, rfl⟩ := List.mem_map.1 hy
    by_cases h1 : x.1 = t
    · have h2 : z.1 ≠ t := fun e => hk.1 (by rw [h1, ← e]; exact List.mem_map_of_mem hz)
      rw [if_pos h1, if_neg h2] at he
      exact hfb.2 (List.mem_map.2 ⟨z, hz, he⟩)
    · rw [if_neg h1] at he
      by_cases h2 : z.1 = t
      · rw [if_pos h2] at he
        exact hfb.1 he
      · rw [if_neg h2] at he
        exact hn.1 (he ▸ List.mem_map_of_mem hz)
theorem put_boxes {L : List (ByteArray × Nat × Dfile)} {t : ByteArray} {fb : Nat} {f : Dfile} (hn : (L.map (·.2.1)).Nodup) (hk : (L.map (·.1)).Nodup) (hfb : fb ∉ L.map (·.2.1)) : ((putL L t fb f).map (·.2.1)).Nodup := by
  unfold putL
  split
  · rw [List.map_append, List.nodup_append]
    refine ⟨hn, by simp, fun a ha b hb e => hfb ?_⟩
    have : b = fb := by simpa using hb
    rw [← this, ← e]
    exact ha
  · exact over_boxes hn hk hfb
theorem put_names {L : List (ByteArray × Nat × Dfile)} {t : ByteArray} {fb : Nat} {f : Dfile} (hk : (L.map (·.1)).Nodup) : ((putL L t fb f).map (·.1)).Nodup := by
  unfold putL
  split
  · rename_i hg
    rw [List.map_append, List.nodup_append]
    refine ⟨hk, by simp, fun a ha b hb e => ?_⟩
    have : b = t := by simpa using hb
    obtain ⟨x, hx, hxa⟩ := List.mem_map.1 ha
    exact getL_none L t hg x hx (by rw [hxa, e, this])
  · rw [List.map_map]
    have : (L.map ((fun x : ByteArray × Nat × Dfile => x.1) ∘ fun x => if x.1 = t then (t, fb, f) else x)) = L.map (·.1) := List.map_congr_left fun x _ => by
      show (if x.1 = t then (t, fb, f) else x).1 = x.1
      split
      · rename_i e
        exact e.symm
      · rfl
    rw [this]
    exact hk
/-- A file is put under a name. -/
theorem DiskAt.put {W w w' : World} {d fm rm n fb : Nat} {own : Nat → Option Nat} {L : List (ByteArray × Nat × Dfile)} {ks : List Int} {t : ByteArray} {f : Dfile} {sv ov : Value} {l : List (Dop × Value)} (h : DiskAt W w d fm rm own L ks n) (hfb : fb ∉ L.map (·.2.1)) (hf : FileAt w W.heap.size own fb f sv ov l)
    (hm : MapN w' fm ((putL L t fb f).map fun x => (x.1, Value.pointer (some ⟨x.2.1, 0, Option.none⟩)))) (ho : Only w w' fun i => i = fm) : DiskAt W w' d fm rm own (putL L t fb f) ks n := by
  refine ⟨h.box.only ho h.dm.1, hm, h.ref.only ho (fun e => h.fr e.symm), fun y hy => ?_, put_boxes h.nod h.keys hfb, put_names h.keys, h.noD, h.noF, h.noR, h.fr, h.ged, h.gef, h.ger, h.below.trans (ho.below h.below.size fun i _ e => e ▸ h.gef), fun i fb e => ⟨(h.old i fb e).1, Nat.lt_of_lt_of_le (h.old i fb e).2 ho.size⟩⟩
  have no : ∀ {fb2 i}, own i = some fb2 → ¬ i = fm := fun hi e => by rw [e, h.noF] at hi; cases hi
  rcases mem_setN hy with rfl | ⟨hy, _⟩
  · exact ⟨sv, ov, l, hf.only ho (fun i hi => no hi) (fun _ _ => rfl)⟩
  · obtain ⟨sv1, ov1, l1, hf1⟩ := h.each y hy
    exact ⟨sv1, ov1, l1, hf1.only ho (fun i hi => no hi) (fun _ _ => rfl)⟩
theorem box_one {s : ByteArray} {fb : Nat} {f : Dfile} : ∀ {L : List (ByteArray × Nat × Dfile)} {y : ByteArray × Nat × Dfile}, (L.map (·.2.1)).Nodup → y ∈ L → (s, fb, f) ∈ L → y.2.1 = fb → y = (s, fb, f)
  | z :: L, y, hn, hy, hx, he => by
    rw [List.map_cons, List.nodup_cons] at hn
    rcases List.mem_cons.1 hy with h1 | h1
    · rcases List.mem_cons.1 hx with h2 | h2
      · rw [h1, h2]
      · exact absurd (by rw [← h1, he]; exact List.mem_map_of_mem (f := fun x : ByteArray × Nat × Dfile => x.2.1) h2) hn.1
    · rcases List.mem_cons.1 hx with h2 | h2
      · exact absurd (by rw [← h2]; show fb ∈ _; rw [← he]; exact List.mem_map_of_mem (f := fun x : ByteArray × Nat × Dfile => x.2.1) h1) hn.1
      · exact box_one hn.2 h1 h2 he
theorem drop_boxes {L : List (ByteArray × Nat × Dfile)} {s : ByteArray} {fb : Nat} {f : Dfile} (hn : (L.map (·.2.1)).Nodup) (hg : getL L s = some (fb, f)) : fb ∉ (dropL L s).map (·.2.1) := fun hm => by
  obtain ⟨y, hy, he⟩ := List.mem_map.1 hm
  unfold dropL at hy
  obtain ⟨hy, hne⟩ := List.mem_filter.1 hy
  have hx := getL_mem L s _ hg
  have := box_one hn hy hx he
  rw [this] at hne
  simp at hne
theorem put_keys (L : List (ByteArray × Nat × Dfile)) (t : ByteArray) (fb : Nat) (f : Dfile) (h : getL L t ≠ none) : overN (L.map fun x => (x.1, Value.pointer (some ⟨x.2.1, 0, Option.none⟩))) t (.pointer (some ⟨fb, 0, none⟩)) = (putL L t fb f).map fun x => (x.1, Value.pointer (some ⟨x.2.1, 0, Option.none⟩)) := by
  unfold overN putL
  rw [if_neg h, List.map_map, List.map_map]
  refine List.map_congr_left fun x _ => ?_
  show (if x.1 = t then (t, _) else _) = _
  by_cases e : x.1 = t
  · rw [if_pos e, Function.comp_apply, if_pos e]
  · rw [if_neg e, Function.comp_apply, if_neg e]
theorem put_new (L : List (ByteArray × Nat × Dfile)) (t : ByteArray) (fb : Nat) (f : Dfile) (h : getL L t = none) : (L.map fun x => (x.1, Value.pointer (some ⟨x.2.1, 0, Option.none⟩))) ++ [(t, .pointer (some ⟨fb, 0, none⟩))] = (putL L t fb f).map fun x => (x.1, Value.pointer (some ⟨x.2.1, 0, Option.none⟩)) := by
  unfold putL
  rw [if_pos h, List.map_append]
  rfl
set_option maxRecDepth 100000 in
theorem run_put (L : List (ByteArray × Nat × Dfile)) (w : World) (fm fb : Nat) (t : ByteArray) (f : Dfile) (hm : MapN w fm (L.map fun x => (x.1, Value.pointer (some ⟨x.2.1, 0, Option.none⟩)))) :
    ∃ w', (Instr.mapUpdate 57 (.map (some fm)) (.string t) (.pointer (some ⟨fb, 0, none⟩))).run Tryz.prog w = .ok () w' ∧ MapN w' fm ((putL L t fb f).map fun x => (x.1, Value.pointer (some ⟨x.2.1, 0, Option.none⟩))) ∧ Only w w' fun i => i = fm := by
  by_cases hg : getL L t = none
  · obtain ⟨w', h1, h2, h3, _⟩ := put_N (P := Tryz.prog) Tryz.underlying57 Tryz.underlying9 hm t (.pointer (some ⟨fb, 0, none⟩)) (by rw [getL_find, hg]; rfl)
    rw [put_new L t fb f hg] at h2
    exact ⟨w', h1, h2, (Only.of_grown h3).weak fun i _ e => by injection e with e; exact e.symm⟩
  · obtain ⟨w', h1, h2, h3, _⟩ := over_N (P := Tryz.prog) Tryz.underlying57 Tryz.underlying9 hm t (.pointer (some ⟨fb, 0, none⟩)) (by rw [getL_find]; intro e; cases e2 : getL L t with | none => exact hg e2 | some p => rw [e2] at e; cases e)
    rw [put_keys L t fb f hg] at h2
    exact ⟨w', h1, h2, h3⟩

set_option maxRecDepth 100000 in
set_option maxHeartbeats 4000000 in
theorem drem_there (W w : World) (d fm rm n : Nat) (own : Nat → Option Nat) (L : List (ByteArray × Nat × Dfile)) (ks : List Int) (h : DiskAt W w d fm rm own L ks n) (hn : n ≤ 1000000000) (hq : ((n : Int) + 1) ∉ ks) (s : ByteArray) (fb : Nat) (f : Dfile) (hg : getL L s = some (fb, f)) :
    Calls Tryz.prog 73 #[.pointer (some ⟨d, 0, none⟩), .string s] w fun e w' => e = .returned (.int .i64 0) ∧ DiskAt W w' d fm rm own (dropL L s) ks (n + 1) ∧ Only w w' fun i => i = d ∨ i = fm := by
  have HN := Lib.hid (count_calls W w d fm rm n own L ks h hn false (decide_eq_false hq))
  clear h
  have hz : ∀ w : World, (zeroValue 84).run Tryz.prog w = .ok (.pointer none) w := fun w => by kernel_rfl
  go_enter Tryz.func73, Tryz.ntmps73
  go_upto_region 4 with (first
    | (go_at_call 74; refine HN.out.mono ?_; rintro e wc ⟨rfl, h, hO⟩)
    | fail)
  have c0 := h.box.cell 0
  have hlk := look_N (P := Tryz.prog) Tryz.underlying57 Tryz.underlying9 h.all s (hz _)
  rw [getL_find, hg] at hlk
  go_wp2_with (first
    | (refine wpList_del_N (by rfl) _ _ _ _ (by rfl) _ Tryz.underlying57 Tryz.underlying9 fm _ (by rfl) h.all s (by rfl) ?_; intro w5 R5 O5 _; rw [drop_keys] at R5; have D5 := h.drop s R5 O5; clear c0 hlk)
    | fail)
  go_ret
  exact ⟨rfl, D5, (hO.trans O5)⟩

set_option maxRecDepth 100000 in
set_option maxHeartbeats 4000000 in
theorem dren_there (W w : World) (d fm rm n : Nat) (own : Nat → Option Nat) (L : List (ByteArray × Nat × Dfile)) (ks : List Int) (h : DiskAt W w d fm rm own L ks n) (hn : n ≤ 1000000000) (hq : ((n : Int) + 1) ∉ ks) (s t : ByteArray) (hnm : nameN t = true) (hs : t.size ≤ 9223372036854775806) (fb : Nat) (f : Dfile) (hg : getL L s = some (fb, f)) (he : f.ops = []) :
    Calls Tryz.prog 48 #[.pointer (some ⟨d, 0, none⟩), .string s, .string t] w fun e w' => e = .returned (.int .i64 0) ∧ DiskAt W w' d fm rm own (putL (dropL L s) t fb f) ks (n + 1) ∧ Only w w' fun i => i = d ∨ i = fm := by
  have HN := Lib.hid (count_calls W w d fm rm n own L ks h hn false (decide_eq_false hq))
  have HNM := Lib.hid (fun w => hnm ▸ named_calls w t hs)
  clear h
  have hz : ∀ w : World, (zeroValue 84).run Tryz.prog w = .ok (.pointer none) w := fun w => by kernel_rfl
  go_enter Tryz.func48, Tryz.ntmps48
  go_upto_region 4 with (first
    | (go_at_call 74; refine HN.out.mono ?_; rintro e wc ⟨rfl, h, hO⟩)
    | fail)
  have c0 := h.box.cell 0
  have hlk := look_N (P := Tryz.prog) Tryz.underlying57 Tryz.underlying9 h.all s (hz _)
  rw [getL_find, hg] at hlk
  go_upto_region 5 with fail
  clear hlk c0
  go_upto_region 7 with (first
    | (go_at_call 75; refine (HNM.out _).mono ?_; rintro e wn ⟨rfl, bn⟩; replace h := h.low bn; replace hO := (hO.trans (Only.of_below bn (fun _ => False))).weak fun _ _ e => e.elim id False.elim)
    | fail)
  obtain ⟨sv, ov, l, hf⟩ := h.get hg
  obtain ⟨oa, oc, rfl⟩ := hf.slice
  have g1 : ¬ (0 : Int) < (f.ops.length : Int) := by rw [he]; decide
  have c1 := hf.box.cell 1
  have c0 := h.box.cell 0
  have HF := Lib.hid hf
  have HG := Lib.hid hg
  clear hf he hg bn
  go_upto_region 11 with fail
  go_upto_region 12 with (first
    | (refine wpList_del_N (by rfl) _ _ _ _ (by rfl) _ Tryz.underlying57 Tryz.underlying9 fm _ (by rfl) h.all s (by rfl) ?_; intro w5 R5 O5 _; rw [drop_keys] at R5)
    | fail)
  have D5 := h.drop s R5 O5
  have hf5 := HF.out.only O5 (fun i hi e => by rw [e, h.noF] at hi; cases hi) (fun _ _ => rfl)
  have hb5 := drop_boxes h.nod HG.out
  clear c0 c1 g1
  have c5 := D5.box.cell 0
  obtain ⟨w6, hr6, M6, O6⟩ := run_put (dropL L s) w5 fm fb t f R5
  have D6 := D5.put hb5 hf5 M6 O6
  go_wp2
  go_ret
  exact ⟨rfl, D6, ((hO.trans O5).trans O6).weak fun i _ e => e.elim id .inr⟩

/-- A set of numbers gets one more. -/
def addB (ks : List Int) (k : Int) : List Int := if k ∈ ks then ks else ks ++ [k]
theorem mem_addB (ks : List Int) (k j : Int) : j ∈ addB ks k ↔ j ∈ ks ∨ j = k := by
  unfold addB
  split
  · rename_i h
    exact ⟨.inl, fun e => e.elim id fun e => e ▸ h⟩
  · simp
theorem findNow_B2 (k : Int) : ∀ (es : List MapEntry) (ks : List Int) (i : Nat), es.map (fun e => (e.key, e.val)) = ks.map (fun k => (Value.int .i64 k, Value.bool true)) →
    (Instr.findNow (.int .i64) (.int .i64 k) es i = some none ∧ k ∉ ks) ∨ ∃ j e, Instr.findNow (.int .i64) (.int .i64 k) es i = some (some (i + j, e.val)) ∧ es[j]? = some e ∧ e.key = .int .i64 k ∧ e.val = .bool true ∧ k ∈ ks
  | [], [], _, _ => .inl ⟨rfl, List.not_mem_nil⟩
  | [], _ :: _, _, h => by simp at h
  | _ :: _, [], _, h => by simp at h
  | e :: es, p :: ks, i, h => by
    simp only [List.map_cons, List.cons.injEq, Prod.mk.injEq] at h
    obtain ⟨⟨h1, h2⟩, h3⟩ := h
    have hs : Instr.sameNow (.int .i64) (.int .i64 k) e.key = some (k == p) := by rw [h1]; simp [Instr.sameNow]
    by_cases hk : k = p
    · have hb : (k == p) = true := by simpa using hk
      exact .inr ⟨0, e, by simp [Instr.findNow, hs, hb], rfl, by rw [h1, hk], h2, by simp [hk]⟩
    · have hb : (k == p) = false := by simpa using hk
      rcases findNow_B2 k es ks (i + 1) h3 with ⟨hr, hn⟩ | ⟨j, e', hr, he, hk', hv, hin⟩
      · exact .inl ⟨by simp [Instr.findNow, hs, hb, hr], by simp [hk, hn]⟩
      · refine .inr ⟨j + 1, e', ?_, by simpa using he, hk', hv, List.mem_cons_of_mem _ hin⟩
        have e1 : i + 1 + j = i + (j + 1) := by omega
        simp [Instr.findNow, hs, hb, hr, e1]
theorem put_B {P : Program} {w : World} {T K E : TypeId} {m : Nat} {ks : List Int} (hT : P.underlying T = some (.map K E)) (hK : P.underlying K = some (.int .i64)) (h : MapB w m ks) (k : Int) :
    ∃ w', (Instr.mapUpdate T (.map (some m)) (.int .i64 k) (.bool true)).run P w = .ok () w' ∧ MapB w' m (addB ks k) ∧ Only w w' (fun i => i = m) ∧ w'.heap.size = w.heap.size := by
  obtain ⟨ents, c, hm, hl⟩ := h
  have hk : IsKey (.int .i64) (.int .i64 k) := by simp [IsKey]
  rcases findNow_B2 k ents.toList ks 0 hl with ⟨hr, hn⟩ | ⟨j, e, hr, he, hek, hev, hin⟩
  · obtain ⟨s1, s2, s3⟩ := only_setBlock (o' := .map (ents.push { key := .int .i64 k, val := .bool true, born := c }) (c + 1)) hm
    refine ⟨_, ?_, ⟨_, _, s3, ?_⟩, s1, s2⟩
    · unfold Instr.mapUpdate
      simp only [Sem.run_bind, run_underlying hT, Result.andThen_ok, MapKept.run_getObj_map hm, MapKept.run_checkKey hK hk, MapKept.run_findKey hK hr, MapKept.run_setObj_map _ hm]
      rfl
    · unfold addB
      rw [if_neg hn]
      simp [hl]
  · rw [Nat.zero_add] at hr
    have hj2 : j < ents.size := by
      have := (List.getElem?_eq_some_iff.1 he).1
      simpa using this
    have hee : ents[j] = e := by
      rw [Array.getElem?_toList, Array.getElem?_eq_getElem hj2] at he
      exact Option.some.inj he
    have hke : (ents[j]).key = .int .i64 k := by rw [hee]; exact hek
    obtain ⟨s1, s2, s3⟩ := only_setBlock (o' := .map (ents.modify j fun e => { e with key := .int .i64 k, val := .bool true }) c) hm
    refine ⟨_, ?_, ⟨_, _, s3, ?_⟩, s1, s2⟩
    · unfold Instr.mapUpdate
      simp only [Sem.run_bind, run_underlying hT, Result.andThen_ok, MapKept.run_getObj_map hm, MapKept.run_checkKey hK hk, MapKept.run_findKey hK hr]
      rw [Array.getElem?_eq_getElem hj2]
      simp only [Option.map_some, Option.getD_some, hke, MapKept.run_keyThatStays hk, Result.andThen_ok, MapKept.run_setObj_map _ hm]
      rfl
    · unfold addB
      rw [if_pos hin, ← hl]
      apply List.ext_getElem?
      intro t
      simp only [List.getElem?_map, Array.getElem?_toList, Array.getElem?_modify]
      by_cases ht : j = t
      · subst ht
        rw [if_pos rfl, Array.getElem?_eq_getElem hj2, hee]
        simp [hek, hev]
      · rw [if_neg ht]

end Go.Proofs.YtmmlpbepaefamaaGreatDoor

/- disk.New of a list of numbers. -/
namespace Go.Proofs.YtmmlpbepaefamaaGreatDoor
open Go.RowKit Go.MapKept

/-- Numbers lie in a slice. -/
def NumsAt (w : World) (v : Value) (l : List Int) : Prop :=
  (∃ a c, v = .slice a 0 c ∧ l = []) ∨ ∃ b off c, v = .slice (some ⟨b, off, none⟩) l.length c ∧ b < w.heap.size ∧ ∀ j z, l[j]? = some z → w.cell? ⟨b, off + j, none⟩ = some (.int .i64 z)
theorem NumsAt.at {w : World} {p : Option Addr} {n c i : Nat} {l : List Int} {z : Int} (h : NumsAt w (.slice p n c) l) (hz : l[i]? = some z) : ∃ b off, p = some ⟨b, off, none⟩ ∧ b < w.heap.size ∧ w.cell? ⟨b, off + i, none⟩ = some (.int .i64 z) := by
  rcases h with ⟨_, _, _, rfl⟩ | ⟨b, off, c', he, hl, hc⟩
  · simp at hz
  · injection he with he
    exact ⟨b, off, he, hl, hc i z hz⟩
theorem NumsAt.low {w w' : World} {v : Value} {l : List Int} (h : NumsAt w v l) (hb : Below w.heap.size w w') : NumsAt w' v l := by
  rcases h with h | ⟨b, off, c, rfl, hl, hc⟩
  · exact .inl h
  · exact .inr ⟨b, off, c, rfl, Nat.lt_of_lt_of_le hl hb.size, fun j z hz => (hb.cell (p := ⟨b, off + j, none⟩) hl).trans (hc j z hz)⟩
theorem NumsAt.len {w : World} {v : Value} {l : List Int} (h : NumsAt w v l) : ∃ a c, v = .slice a l.length c := by
  rcases h with ⟨a, c, rfl, rfl⟩ | ⟨b, off, c, rfl, _, _⟩
  · exact ⟨a, c, rfl⟩
  · exact ⟨_, c, rfl⟩
theorem mem_adds : ∀ (l ks : List Int) (j : Int), j ∈ l.foldl addB ks ↔ j ∈ ks ∨ j ∈ l
  | [], ks, j => by simp
  | k :: l, ks, j => by
    rw [List.foldl_cons, mem_adds l, mem_addB, List.mem_cons, or_assoc]
theorem adds_step (l : List Int) (k : Nat) (z : Int) (h : l[k]? = some z) : (l.take (k + 1)).foldl addB [] = addB ((l.take k).foldl addB []) z := by
  rw [List.take_add_one, h, List.foldl_append]
  rfl
theorem DiskAt.refs {W w w' : World} {d fm rm n : Nat} {own : Nat → Option Nat} {L : List (ByteArray × Nat × Dfile)} {ks ks' : List Int} (h : DiskAt W w d fm rm own L ks n) (hm : MapB w' rm ks') (ho : Only w w' fun i => i = rm) : DiskAt W w' d fm rm own L ks' n := by
  refine ⟨h.box.only ho h.dm.2, h.all.only ho h.fr, hm, fun y hy => ?_, h.nod, h.keys, h.noD, h.noF, h.noR, h.fr, h.ged, h.gef, h.ger, h.below.trans (ho.below h.below.size fun i _ e => e ▸ h.ger), fun i fb e => ⟨(h.old i fb e).1, Nat.lt_of_lt_of_le (h.old i fb e).2 ho.size⟩⟩
  obtain ⟨sv, ov, l, hf⟩ := h.each y hy
  exact ⟨sv, ov, l, hf.only ho (fun i hi e => by rw [e, h.noR] at hi; cases hi) (fun _ _ => rfl)⟩

set_option maxRecDepth 100000 in
theorem dnewl_long (w : World) (a : Option Addr) (c : Nat) (l : List Int) (hl : 4096 < l.length) : Calls Tryz.prog 5 #[.slice a l.length c] w fun e w' => e = .returned (.tuple #[.pointer none, .int .i64 3]) ∧ w = w' := by
  have g1 : (4096 : Int) < (l.length : Int) := by omega
  go_enter Tryz.func5, Tryz.ntmps5
  go_wp2
  go_ret2
  exact ⟨rfl, rfl⟩

set_option maxRecDepth 100000 in
set_option maxHeartbeats 4000000 in
theorem dnewl_calls (w : World) (v : Value) (l : List Int) (hv : NumsAt w v l) (hl : l.length ≤ 4096) : Calls Tryz.prog 5 #[v] w fun e w' => ∃ d, e = .returned (.tuple #[.pointer (some ⟨d, 0, none⟩), .int .i64 0]) ∧ ∃ fm rm own, DiskAt w w' d fm rm own [] (l.foldl addB []) 0 ∧ (∀ i, own i = none) := by
  obtain ⟨p, c, rfl⟩ := hv.len
  have h1 : ∀ w : World, (Instr.makeMap 57 none).run Tryz.prog w = .ok (.map (some w.heap.size)) (w.alloc (.map #[] 0)) := fun w => run_makeMap _ w
  have h2 : ∀ w : World, (Instr.makeMap 58 none).run Tryz.prog w = .ok (.map (some w.heap.size)) (w.alloc (.map #[] 0)) := fun w => run_makeMap _ w
  have hD := DiskAt.start w
  have HV := Lib.hid hv
  obtain ⟨N, hN⟩ : ∃ n, l.length = n := ⟨_, rfl⟩
  rw [hN] at hl HV ⊢
  have HN := Lib.hid hN
  clear hv hN
  have g1 : ¬ (4096 : Int) < (N : Int) := by omega
  go_enter Tryz.func5, Tryz.ntmps5
  go_wp2
  try simp only [Nat.add_assoc, Nat.reduceAdd]
  generalize ((w.alloc (.map #[] 0)).alloc (.map #[] 0)).alloc (.cells #[.map (some w.heap.size), .map (some (w.heap.size + 1)), .int .i64 0] 60) = w3 at hD ⊢
  obtain ⟨b, hb⟩ : ∃ x, w.heap.size + 2 = x := ⟨_, rfl⟩
  obtain ⟨fm, hfm⟩ : ∃ x, w.heap.size = x := ⟨_, rfl⟩
  have hD2 : DiskAt w w3 b fm (fm + 1) (fun _ => none) [] [] 0 := by rw [← hb, ← hfm]; exact hD
  have HD := Lib.hid hD2
  rw [hb]
  clear hD hD2 hb g1
  go_loopw [6, 16] (fun _ i wr => ∃ k : Nat, k ≤ N ∧ i = .int .i64 k ∧ DiskAt w wr b fm (fm + 1) (fun _ => none) [] ((l.take k).foldl addB []) 0) (fun _ i _ => N - (intOf i).toNat)
  case atStart => exact ⟨0, by omega, rfl, by rw [List.take_zero]; exact HD.out⟩
  case round =>
    obtain ⟨k, hkN, rfl, hD⟩ := hrel
    by_cases hlt : k < N
    · obtain ⟨z, hz⟩ : ∃ z, l[k]? = some z := ⟨_, List.getElem?_eq_getElem (by rw [HN.out]; exact hlt)⟩
      obtain ⟨g, off, rfl, hg, hc⟩ := (HV.out.low hD.below).at hz
      have i1 : (k : Int) < (N : Int) := by omega
      have i2 : 0 ≤ (k : Int) ∧ (k : Int) < (N : Int) := by omega
      have b2 : IntKind.i64.wrap ((k : Int) + 1) = (k : Int) + 1 := IntWalk.i64_in _ (by omega)
      have c1 := hD.box.cell 1
      have c3 := hD.box.cell 0
      obtain ⟨w4, hr4, M4, O4, _⟩ := put_B (P := Tryz.prog) Tryz.underlying58 Tryz.underlying3 hD.ref z
      have D4 := hD.refs M4 O4
      have HZ := Lib.hid (adds_step l k z hz)
      clear hz hg
      go_wp2
      go_roundw
      case rel => exact ⟨k + 1, by omega, by go_num, by rw [HZ.out]; exact D4⟩
      case measure => simp [intOf]; omega
    · obtain rfl : k = N := by omega
      have i1 : ¬ (k : Int) < (k : Int) := by omega
      have HE := Lib.hid (show l.take k = l from List.take_of_length_le (Nat.le_of_eq HN.out))
      go_wp2
      go_ret2
      exact ⟨_, rfl, fm, fm + 1, _, by rw [HE.out] at hD; exact hD, fun _ => rfl⟩

end Go.Proofs.YtmmlpbepaefamaaGreatDoor

/- Numbers put into bytes: append of bytes to bytes of a named type; laid.put. -/
namespace Go.Proofs.YtmmlpbepaefamaaGreatDoor
open Go.RowKit

theorem run_append_ty {P : Program} {w : World} {t t2 e e2 ty : TypeId} (ht : P.underlying t = some (.slice e)) (ht2 : P.underlying t2 = some (.slice e2)) (a : Option Addr) (n c : Nat) (x : Value) :
    (Builtin.append_ #[t, t2] ty #[.slice a n c, x]).run P w = (Builtin.append_ #[t, t] ty #[.slice a n c, x]).run P w := by
  unfold Builtin.append_
  simp [run_underlying ht, run_underlying ht2, Result.andThen]

theorem wpList_append_laid {w : World} {ops : Array Oper} {rest : List Oper} {o : Oper} {a : Act} {Q : Exit → Act → World → Prop} (hgd : o.guard = none) (s x : Operand) (t t2 : TypeId)
    (ht : Tryz.prog.underlying t = some (.slice 5)) (ht2 : Tryz.prog.underlying t2 = some (.slice 5))
    (ho : o.op = .call { callee := .builtin .append, args := #[s, x], argTypes := #[t, t2] })
    (B : Nat) (v : Value) (xs : List (BitVec 8)) (hs : a.eval s = v) (hown : Own w B v xs)
    (sl : Value) (ys : List (BitVec 8)) (hx : a.eval x = sl) (hy : SliceIs w sl ys)
    (hlen : xs.length + ys.length ≤ 1000000000) (hbase : B ≤ w.heap.size)
    (h : ∀ v' w', Own w' B v' (xs ++ ys) → w.grownBy w' v.ownBlock → Moved w v v' → wpList Tryz.prog ops Q rest (a.put o.dst v') w') : wpList Tryz.prog ops Q (o :: rest) a w := by
  refine wpList_plain hgd fun K hK => ?_
  obtain ⟨i, hi, hz, hsz, hby⟩ := info_u8
  obtain ⟨pv, nv, cv, rfl⟩ := slice_any hown
  have use : ∀ ad c, sl = .slice (some ad) ys.length c → (∀ j u, (ys.map vu8)[j]? = some u → w.cell? (ad.add j) = some u) → o.wp Tryz.prog a w K Q := fun ad c hsl hcells => by
    obtain ⟨v', w', hr, h2, h3, _, h5⟩ := run_append_own_at (P := Tryz.prog) w B t o.type 5 i _ 1 1 ht hi hz hsz hby rfl (by decide) (.slice pv nv cv) xs.length (xs.map vu8) hown ad ys.length c (ys.map vu8) (by simp) hcells (one_u8 ys) (by simp only [maxLen]; omega) (by omega) hbase
    have hr2 := (run_append_ty (P := Tryz.prog) (w := w) (t := t) (t2 := t2) (e := 5) (e2 := 5) (ty := o.type) ht ht2 pv nv cv (.slice (some ad) ys.length c)).trans hr
    unfold Oper.wp execOp
    simp only [ho, resolve, invoke, builtin, Sem.run_bind, Sem.run_pure, Result.andThen_ok, List.map_toArray, List.map_cons, List.map_nil, hs, hx, hsl, hr2]
    refine hK _ _ (h v' w' ?_ h3 (h5.imp id fun h => ⟨_, h, Nat.le_refl _⟩))
    unfold Own
    rw [List.length_append, List.map_append]
    exact h2
  rcases hy with ⟨rfl, rfl | ⟨ad, c, rfl⟩⟩ | ⟨b, of, c, rfl, _, hb⟩
  · have hr := run_append_owned_none (P := Tryz.prog) (w := w) B t o.type 5 i 1 ht hi (.slice pv nv cv) xs.length (xs.map vu8) hown
    have hr2 := (run_append_ty (P := Tryz.prog) (w := w) (t := t) (t2 := t2) (e := 5) (e2 := 5) (ty := o.type) ht ht2 pv nv cv (.slice none 0 0)).trans hr
    unfold Oper.wp execOp
    simp only [ho, resolve, invoke, builtin, Sem.run_bind, Sem.run_pure, Result.andThen_ok, List.map_toArray, List.map_cons, List.map_nil, hs, hx, hr2]
    refine hK _ _ (h (.slice pv nv cv) w ?_ (World.grownBy.refl _ _) (.inl rfl))
    rw [List.append_nil]
    exact hown
  · exact use ad c rfl fun j u hu => by simp at hu
  · refine use ⟨b, of, none⟩ c rfl fun j u hu => ?_
    rw [List.getElem?_map] at hu
    rw [Addr.add_lit]
    cases hj : ys[j]? with
    | none => simp [hj] at hu
    | some y =>
      simp [hj] at hu
      rw [← hu]
      exact hb j y hj

/-- The i-th byte of a number, from the lowest on. -/
def byteN (n : Int) (i : Nat) : BitVec 8 := ((BitVec.ofInt 64 n) >>> (8 * i)).setWidth 8
/-- A number's bytes, the highest first. -/
def putN (size : Nat) (n : Int) : List (BitVec 8) := (List.range size).map fun j => byteN n (size - 1 - j)
theorem putN_length (size : Nat) (n : Int) : (putN size n).length = size := by simp [putN]
theorem putN_next (size : Nat) (n : Int) (j : Nat) (hj : j < size) : (putN size n).take (j + 1) = (putN size n).take j ++ [byteN n (size - 1 - j)] := by
  rw [List.take_add_one]
  congr 1
  simp [putN, hj]

set_option maxRecDepth 100000 in
set_option maxHeartbeats 2000000 in
/-- laid.put of one number. -/
theorem put_calls (w : World) (B : Nat) (v v1 : Value) (xs : List (BitVec 8)) (size : Nat) (n : Int) (h : Own w B v xs) (hv : NumsAt w v1 [n]) (hs : size ≤ 8) (hl : xs.length ≤ 900000000) (hB : B ≤ w.heap.size) :
    Calls Tryz.prog 61 #[v, .int .i64 size, v1] w fun e w' => ∃ v', e = .returned v' ∧ (∃ a k c, v' = .slice a k c) ∧ After w w' B v v' (xs ++ putN size n) := by
  obtain ⟨p1, c1, rfl⟩ := hv.len
  obtain ⟨b1, o1, rfl, hb1, hc1⟩ := hv.at (i := 0) rfl
  obtain ⟨a0, k0, c0, rfl⟩ := slice_any h
  have c1' : w.cell? ⟨b1, o1, none⟩ = some (.int .i64 n) := hc1
  obtain ⟨V0, hV0⟩ : ∃ V, Value.slice a0 k0 c0 = V := ⟨_, rfl⟩
  have H := Lib.hid (show Own w B V0 xs from hV0 ▸ h)
  have s1 : IntKind.i64.wrap ((size : Int) - 1) = (size : Int) - 1 := IntWalk.i64_in _ (by omega)
  clear hv hc1 h
  go_enter Tryz.func61, Tryz.ntmps61
  go_wp2
  rw [hV0]
  go_loopw [0, 12] (fun u i wr => (i = .int .i64 0 ∧ u = V0 ∧ w = wr) ∨ (i = .int .i64 1 ∧ (∃ a k c, u = .slice a k c) ∧ After w wr B V0 u (xs ++ putN size n))) (fun _ i _ => 1 - (intOf i).toNat)
  case atStart => exact .inl ⟨rfl, rfl, rfl⟩
  case round =>
    rcases hrel with ⟨rfl, rfl, rfl⟩ | ⟨rfl, ⟨a, k, c, rfl⟩, hA⟩
    · subst hV0
      go_wp2
      go_loopw [0, 9] (fun u i wr => ∃ (j : Nat) (a : Option Addr) (k c : Nat), j ≤ size ∧ i = .int .i64 ((size : Int) - 1 - j) ∧ u = .slice a k c ∧ After w wr B (.slice a0 k0 c0) (.slice a k c) (xs ++ (putN size n).take j)) (fun _ i _ => (intOf i + 1).toNat)
      case atStart => exact ⟨0, _, _, _, Nat.zero_le _, by simp, rfl, by rw [List.take_zero, List.append_nil]; exact ⟨H.out, Only.of_below (Below.refl _ _) _, fun g hg => .inl hg⟩⟩
      case round =>
        obtain ⟨j, a, k, c, hj, rfl, rfl, hA⟩ := hrel
        by_cases hlt : j < size
        · obtain ⟨i, hi⟩ : ∃ i : Nat, size - 1 - j = i := ⟨_, rfl⟩
          have ei : (size : Int) - 1 - (j : Int) = (i : Int) := by omega
          rw [ei]
          have g0 : (0 : Int) ≤ (i : Int) := by omega
          have s2 : IntKind.i64.wrap ((i : Int) - 1) = (i : Int) - 1 := IntWalk.i64_in _ (by omega)
          have s3 : IntKind.i64.wrap (8 * (i : Int)) = 8 * (i : Int) := IntWalk.i64_in _ (by omega)
          have g8 : (0 : Int) ≤ 8 * (i : Int) := by omega
          have e8 : (8 * (i : Int)).toNat = 8 * i := by omega
          have hN := putN_next size n j hlt
          rw [hi] at hN
          have HN := Lib.hid hN
          have HA := Lib.hid hA
          have hb3 : Below wr.heap.size wr (wr.alloc (.cells #[vu8 (byteN n i)] 5)) := (Below.refl _ _).alloc (Nat.le_refl _) _
          have hlen := putN_length size n
          clear hN hA
          go_wp2_with (first
            | (refine wpList_append_laid (w := wr.alloc (.cells #[vu8 (byteN n i)] 5)) (by rfl) _ _ 111 111 Tryz.underlying111 Tryz.underlying111 (by rfl) B _ (xs ++ (putN size n).take j) (by rfl) (HA.out.1.alloc _) _ [byteN n i] (by rfl) (SliceIs.one wr _ _ (byteN n i) rfl) (by simp; omega) (Nat.le_trans hB (Nat.le_trans HA.out.2.1.size hb3.size)) ?_; intro v5 w5 O5 G5 M5; obtain ⟨a5, k5, c5, he5⟩ := slice_any O5; subst he5)
            | fail)
          go_roundw
          case rel =>
            refine ⟨j + 1, a5, k5, c5, by omega, by go_num, rfl, ?_⟩
            rw [HN.out, ← List.append_assoc]
            refine ⟨O5, ((HA.out.2.1.trans (Only.of_below hb3 fun i => (Value.slice a0 k0 c0).ownBlock = some i)).trans (Only.of_grown G5)).weak fun g hg e => ?_, fun g hg => ?_⟩
            · rcases e with (e | e) | e
              · exact e
              · exact e
              · rcases HA.out.2.2 g e with e2 | e2
                · exact e2
                · omega
            · rcases M5 with e | ⟨g', e, hge⟩
              · rcases HA.out.2.2 g (e ▸ hg) with e2 | e2
                · exact .inl e2
                · exact .inr e2
              · rw [e] at hg
                obtain rfl := Option.some.inj hg
                exact .inr (Nat.le_trans HA.out.2.1.size (Nat.le_trans hb3.size hge))
          case measure => simp [intOf] <;> omega
        · obtain rfl : j = size := by omega
          have g0 : ¬ (0 : Int) ≤ (j : Int) - 1 - (j : Int) := by omega
          rw [List.take_of_length_le (Nat.le_of_eq (putN_length j n))] at hA
          have HA := Lib.hid hA
          clear hA
          go_wp2
          go_roundw
          case rel => exact .inr ⟨by go_num, ⟨_, _, _, rfl⟩, HA.out⟩
          case measure => simp [intOf]
    · have HA := Lib.hid hA
      clear hA
      go_wp2
      go_ret
      exact ⟨_, rfl, ⟨_, _, _, rfl⟩, by rw [hV0]; exact HA.out⟩

end Go.Proofs.YtmmlpbepaefamaaGreatDoor
