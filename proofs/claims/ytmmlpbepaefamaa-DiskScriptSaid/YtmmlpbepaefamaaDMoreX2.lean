/- Disk.Remove, Disk.Rename, and New of a list of numbers. -/
import Derived.Test.YtmmlpbepaefamaaDCrX2
import Derived.Test.YtmmlpbepaefamaaDErr
import Derived.Test.YtmmlpbepaefamaaDNew
namespace Go.Proofs.Ytmmlpbepaefamaa
open Go.RowKit Go.MapKept

theorem getL_drop : ∀ (L : List (ByteArray × Nat × Dfile)) (s : ByteArray), getL (dropL L s) s = none
  | [], _ => rfl
  | x :: L, s => by
    unfold dropL
    by_cases h : x.1 = s
    · rw [List.filter_cons_of_neg (by simp [h])]
      exact getL_drop L s
    · rw [List.filter_cons_of_pos (by simp [h])]
      unfold getL
      rw [if_neg h]
      exact getL_drop L s
theorem getL_dropNe : ∀ (L : List (ByteArray × Nat × Dfile)) (s t : ByteArray), s ≠ t → getL (dropL L s) t = getL L t
  | [], _, _, _ => rfl
  | x :: L, s, t, hst => by
    have ih := getL_dropNe L s t hst
    unfold dropL at ih ⊢
    by_cases h : x.1 = s
    · rw [List.filter_cons_of_neg (by simp [h]), ih]
      conv => rhs; unfold getL
      rw [if_neg (fun e => hst (h.symm.trans e))]
    · rw [List.filter_cons_of_pos (by simp [h])]
      unfold getL
      split
      · rfl
      · exact ih
/-- A file under a name. -/
def putL (L : List (ByteArray × Nat × Dfile)) (t : ByteArray) (fb : Nat) (f : Dfile) : List (ByteArray × Nat × Dfile) := if getL L t = none then L ++ [(t, fb, f)] else L.map fun x => if x.1 = t then (t, fb, f) else x
theorem mem_setN {L : List (ByteArray × Nat × Dfile)} {t : ByteArray} {fb : Nat} {f : Dfile} {y : ByteArray × Nat × Dfile} (h : y ∈ putL L t fb f) : y = (t, fb, f) ∨ y ∈ L ∧ y.1 ≠ t := by
  unfold putL at h
  split at h
  · rename_i hg
    rcases List.mem_append.1 h with h | h
    · exact .inr ⟨h, getL_none L t hg y h⟩
    · exact .inl (by simpa using h)
  · obtain ⟨x, hx, rfl⟩ := List.mem_map.1 h
    by_cases e : x.1 = t
    · rw [if_pos e]
      exact .inl rfl
    · rw [if_neg e]
      exact .inr ⟨hx, e⟩
theorem over_boxes {t : ByteArray} {fb : Nat} {f : Dfile} : ∀ {L : List (ByteArray × Nat × Dfile)}, (L.map (·.2.1)).Nodup → (L.map (·.1)).Nodup → fb ∉ L.map (·.2.1) → ((L.map fun x => if x.1 = t then (t, fb, f) else x).map (·.2.1)).Nodup
  | [], _, _, _ => by simp
  | x :: L, hn, hk, hfb => by
    rw [List.map_cons, List.nodup_cons] at hn hk
    rw [List.map_cons, List.mem_cons, not_or] at hfb
    rw [List.map_cons, List.map_cons, List.nodup_cons]
    refine ⟨fun hm => ?_, over_boxes hn.2 hk.2 hfb.2⟩
    obtain ⟨y, hy, he⟩ := List.mem_map.1 hm
    obtain ⟨z, hz, rfl⟩ := List.mem_map.1 hy
    by_cases h1 : x.1 = t
    · have h2 : z.1 ≠ t := fun e => hk.1 (by rw [h1, ← e]; exact List.mem_map_of_mem hz)
      rw [if_pos h1, if_neg h2] at he
      exact hfb.2 (List.mem_map.2 ⟨z, hz, he⟩)
    · rw [if_neg h1] at he
      by_cases h2 : z.1 = t
      · rw [if_pos h2] at he
        exact hfb.1 he
      · rw [if_neg h2] at he
        exact hn.1 (he ▸ List.mem_map_of_mem hz)
theorem put_boxes {L : List (ByteArray × Nat × Dfile)} {t : ByteArray} {fb : Nat} {f : Dfile} (hn : (L.map (·.2.1)).Nodup) (hk : (L.map (·.1)).Nodup) (hfb : fb ∉ L.map (·.2.1)) : ((putL L t fb f).map (·.2.1)).Nodup := by
  unfold putL
  split
  · rw [List.map_append, List.nodup_append]
    refine ⟨hn, by simp, fun a ha b hb e => hfb ?_⟩
    have : b = fb := by simpa using hb
    rw [← this, ← e]
    exact ha
  · exact over_boxes hn hk hfb
theorem put_names {L : List (ByteArray × Nat × Dfile)} {t : ByteArray} {fb : Nat} {f : Dfile} (hk : (L.map (·.1)).Nodup) : ((putL L t fb f).map (·.1)).Nodup := by
  unfold putL
  split
  · rename_i hg
    rw [List.map_append, List.nodup_append]
    refine ⟨hk, by simp, fun a ha b hb e => ?_⟩
    have : b = t := by simpa using hb
    obtain ⟨x, hx, hxa⟩ := List.mem_map.1 ha
    exact getL_none L t hg x hx (by rw [hxa, e, this])
  · rw [List.map_map]
    have : (L.map ((fun x : ByteArray × Nat × Dfile => x.1) ∘ fun x => if x.1 = t then (t, fb, f) else x)) = L.map (·.1) := List.map_congr_left fun x _ => by
      show (if x.1 = t then (t, fb, f) else x).1 = x.1
      split
      · rename_i e
        exact e.symm
      · rfl
    rw [this]
    exact hk
/-- A file is put under a name. -/
theorem DiskAt.put {W w w' : World} {d fm rm n fb : Nat} {own : Nat → Option Nat} {L : List (ByteArray × Nat × Dfile)} {ks : List Int} {t : ByteArray} {f : Dfile} {sv ov : Value} {l : List (Dop × Value)} (h : DiskAt W w d fm rm own L ks n) (hfb : fb ∉ L.map (·.2.1)) (hf : FileAt w W.heap.size own fb f sv ov l)
    (hm : MapN w' fm ((putL L t fb f).map fun x => (x.1, Value.pointer (some ⟨x.2.1, 0, Option.none⟩)))) (ho : Only w w' fun i => i = fm) : DiskAt W w' d fm rm own (putL L t fb f) ks n := by
  refine ⟨h.box.only ho h.dm.1, hm, h.ref.only ho (fun e => h.fr e.symm), fun y hy => ?_, put_boxes h.nod h.keys hfb, put_names h.keys, h.noD, h.noF, h.noR, h.fr, h.ged, h.gef, h.ger, h.below.trans (ho.below h.below.size fun i _ e => e ▸ h.gef), fun i fb e => ⟨(h.old i fb e).1, Nat.lt_of_lt_of_le (h.old i fb e).2 ho.size⟩⟩
  have no : ∀ {fb2 i}, own i = some fb2 → ¬ i = fm := fun hi e => by rw [e, h.noF] at hi; cases hi
  rcases mem_setN hy with rfl | ⟨hy, _⟩
  · exact ⟨sv, ov, l, hf.only ho (fun i hi => no hi) (fun _ _ => rfl)⟩
  · obtain ⟨sv1, ov1, l1, hf1⟩ := h.each y hy
    exact ⟨sv1, ov1, l1, hf1.only ho (fun i hi => no hi) (fun _ _ => rfl)⟩
theorem box_one {s : ByteArray} {fb : Nat} {f : Dfile} : ∀ {L : List (ByteArray × Nat × Dfile)} {y : ByteArray × Nat × Dfile}, (L.map (·.2.1)).Nodup → y ∈ L → (s, fb, f) ∈ L → y.2.1 = fb → y = (s, fb, f)
  | z :: L, y, hn, hy, hx, he => by
    rw [List.map_cons, List.nodup_cons] at hn
    rcases List.mem_cons.1 hy with h1 | h1
    · rcases List.mem_cons.1 hx with h2 | h2
      · rw [h1, h2]
      · exact absurd (by rw [← h1, he]; exact List.mem_map_of_mem (f := fun x : ByteArray × Nat × Dfile => x.2.1) h2) hn.1
    · rcases List.mem_cons.1 hx with h2 | h2
      · exact absurd (by rw [← h2]; show fb ∈ _; rw [← he]; exact List.mem_map_of_mem (f := fun x : ByteArray × Nat × Dfile => x.2.1) h1) hn.1
      · exact box_one hn.2 h1 h2 he
theorem drop_boxes {L : List (ByteArray × Nat × Dfile)} {s : ByteArray} {fb : Nat} {f : Dfile} (hn : (L.map (·.2.1)).Nodup) (hg : getL L s = some (fb, f)) : fb ∉ (dropL L s).map (·.2.1) := fun hm => by
  obtain ⟨y, hy, he⟩ := List.mem_map.1 hm
  unfold dropL at hy
  obtain ⟨hy, hne⟩ := List.mem_filter.1 hy
  have hx := getL_mem L s _ hg
  have := box_one hn hy hx he
  rw [this] at hne
  simp at hne
theorem put_keys (L : List (ByteArray × Nat × Dfile)) (t : ByteArray) (fb : Nat) (f : Dfile) (h : getL L t ≠ none) : overN (L.map fun x => (x.1, Value.pointer (some ⟨x.2.1, 0, Option.none⟩))) t (.pointer (some ⟨fb, 0, none⟩)) = (putL L t fb f).map fun x => (x.1, Value.pointer (some ⟨x.2.1, 0, Option.none⟩)) := by
  unfold overN putL
  rw [if_neg h, List.map_map, List.map_map]
  refine List.map_congr_left fun x _ => ?_
  show (if x.1 = t then (t, _) else _) = _
  by_cases e : x.1 = t
  · rw [if_pos e, Function.comp_apply, if_pos e]
  · rw [if_neg e, Function.comp_apply, if_neg e]
theorem put_new (L : List (ByteArray × Nat × Dfile)) (t : ByteArray) (fb : Nat) (f : Dfile) (h : getL L t = none) : (L.map fun x => (x.1, Value.pointer (some ⟨x.2.1, 0, Option.none⟩))) ++ [(t, .pointer (some ⟨fb, 0, none⟩))] = (putL L t fb f).map fun x => (x.1, Value.pointer (some ⟨x.2.1, 0, Option.none⟩)) := by
  unfold putL
  rw [if_pos h, List.map_append]
  rfl
set_option maxRecDepth 100000 in
theorem run_put (L : List (ByteArray × Nat × Dfile)) (w : World) (fm fb : Nat) (t : ByteArray) (f : Dfile) (hm : MapN w fm (L.map fun x => (x.1, Value.pointer (some ⟨x.2.1, 0, Option.none⟩)))) :
    ∃ w', (Instr.mapUpdate 71 (.map (some fm)) (.string t) (.pointer (some ⟨fb, 0, none⟩))).run Try.prog w = .ok () w' ∧ MapN w' fm ((putL L t fb f).map fun x => (x.1, Value.pointer (some ⟨x.2.1, 0, Option.none⟩))) ∧ Only w w' fun i => i = fm := by
  by_cases hg : getL L t = none
  · obtain ⟨w', h1, h2, h3, _⟩ := put_N (P := Try.prog) Try.underlying71 Try.underlying9 hm t (.pointer (some ⟨fb, 0, none⟩)) (by rw [getL_find, hg]; rfl)
    rw [put_new L t fb f hg] at h2
    exact ⟨w', h1, h2, (Only.of_grown h3).weak fun i _ e => by injection e with e; exact e.symm⟩
  · obtain ⟨w', h1, h2, h3, _⟩ := over_N (P := Try.prog) Try.underlying71 Try.underlying9 hm t (.pointer (some ⟨fb, 0, none⟩)) (by rw [getL_find]; intro e; cases e2 : getL L t with | none => exact hg e2 | some p => rw [e2] at e; cases e)
    rw [put_keys L t fb f hg] at h2
    exact ⟨w', h1, h2, h3⟩

set_option maxRecDepth 100000 in
set_option maxHeartbeats 4000000 in
theorem drem_there (W w : World) (d fm rm n : Nat) (own : Nat → Option Nat) (L : List (ByteArray × Nat × Dfile)) (ks : List Int) (h : DiskAt W w d fm rm own L ks n) (hn : n ≤ 1000000000) (hq : ((n : Int) + 1) ∉ ks) (s : ByteArray) (fb : Nat) (f : Dfile) (hg : getL L s = some (fb, f)) :
    Calls Try.prog 58 #[.pointer (some ⟨d, 0, none⟩), .string s] w fun e w' => e = .returned (.int .i64 0) ∧ DiskAt W w' d fm rm own (dropL L s) ks (n + 1) ∧ Only w w' fun i => i = d ∨ i = fm := by
  have HN := Lib.hid (count_calls W w d fm rm n own L ks h hn false (decide_eq_false hq))
  clear h
  have hz : ∀ w : World, (zeroValue 83).run Try.prog w = .ok (.pointer none) w := fun w => by kernel_rfl
  go_enter Try.func58, Try.ntmps58
  go_upto_region 4 with (first
    | (go_at_call 43; refine HN.out.mono ?_; rintro e wc ⟨rfl, h, hO⟩)
    | fail)
  have c0 := h.box.cell 0
  have hlk := look_N (P := Try.prog) Try.underlying71 Try.underlying9 h.all s (hz _)
  rw [getL_find, hg] at hlk
  go_wp2_with (first
    | (refine wpList_del_N (by rfl) _ _ _ _ (by rfl) _ Try.underlying71 Try.underlying9 fm _ (by rfl) h.all s (by rfl) ?_; intro w5 R5 O5 _; rw [drop_keys] at R5; have D5 := h.drop s R5 O5; clear c0 hlk)
    | fail)
  go_ret
  exact ⟨rfl, D5, (hO.trans O5)⟩

set_option maxRecDepth 100000 in
set_option maxHeartbeats 4000000 in
theorem dren_there (W w : World) (d fm rm n : Nat) (own : Nat → Option Nat) (L : List (ByteArray × Nat × Dfile)) (ks : List Int) (h : DiskAt W w d fm rm own L ks n) (hn : n ≤ 1000000000) (hq : ((n : Int) + 1) ∉ ks) (s t : ByteArray) (hnm : nameN t = true) (hs : t.size ≤ 9223372036854775806) (fb : Nat) (f : Dfile) (hg : getL L s = some (fb, f)) (he : f.ops = []) :
    Calls Try.prog 23 #[.pointer (some ⟨d, 0, none⟩), .string s, .string t] w fun e w' => e = .returned (.int .i64 0) ∧ DiskAt W w' d fm rm own (putL (dropL L s) t fb f) ks (n + 1) ∧ Only w w' fun i => i = d ∨ i = fm := by
  have HN := Lib.hid (count_calls W w d fm rm n own L ks h hn false (decide_eq_false hq))
  have HNM := Lib.hid (fun w => hnm ▸ named_calls w t hs)
  clear h
  have hz : ∀ w : World, (zeroValue 83).run Try.prog w = .ok (.pointer none) w := fun w => by kernel_rfl
  go_enter Try.func23, Try.ntmps23
  go_upto_region 4 with (first
    | (go_at_call 43; refine HN.out.mono ?_; rintro e wc ⟨rfl, h, hO⟩)
    | fail)
  have c0 := h.box.cell 0
  have hlk := look_N (P := Try.prog) Try.underlying71 Try.underlying9 h.all s (hz _)
  rw [getL_find, hg] at hlk
  go_upto_region 5 with fail
  clear hlk c0
  go_upto_region 7 with (first
    | (go_at_call 44; refine (HNM.out _).mono ?_; rintro e wn ⟨rfl, bn⟩; replace h := h.low bn; replace hO := (hO.trans (Only.of_below bn (fun _ => False))).weak fun _ _ e => e.elim id False.elim)
    | fail)
  obtain ⟨sv, ov, l, hf⟩ := h.get hg
  obtain ⟨oa, oc, rfl⟩ := hf.slice
  have g1 : ¬ (0 : Int) < (f.ops.length : Int) := by rw [he]; decide
  have c1 := hf.box.cell 1
  have c0 := h.box.cell 0
  have HF := Lib.hid hf
  have HG := Lib.hid hg
  clear hf he hg bn
  go_upto_region 11 with fail
  go_upto_region 12 with (first
    | (refine wpList_del_N (by rfl) _ _ _ _ (by rfl) _ Try.underlying71 Try.underlying9 fm _ (by rfl) h.all s (by rfl) ?_; intro w5 R5 O5 _; rw [drop_keys] at R5)
    | fail)
  have D5 := h.drop s R5 O5
  have hf5 := HF.out.only O5 (fun i hi e => by rw [e, h.noF] at hi; cases hi) (fun _ _ => rfl)
  have hb5 := drop_boxes h.nod HG.out
  clear c0 c1 g1
  have c5 := D5.box.cell 0
  obtain ⟨w6, hr6, M6, O6⟩ := run_put (dropL L s) w5 fm fb t f R5
  have D6 := D5.put hb5 hf5 M6 O6
  go_wp2
  go_ret
  exact ⟨rfl, D6, ((hO.trans O5).trans O6).weak fun i _ e => e.elim id .inr⟩

/-- A set of numbers gets one more. -/
def addB (ks : List Int) (k : Int) : List Int := if k ∈ ks then ks else ks ++ [k]
theorem mem_addB (ks : List Int) (k j : Int) : j ∈ addB ks k ↔ j ∈ ks ∨ j = k := by
  unfold addB
  split
  · rename_i h
    exact ⟨.inl, fun e => e.elim id fun e => e ▸ h⟩
  · simp
theorem findNow_B2 (k : Int) : ∀ (es : List MapEntry) (ks : List Int) (i : Nat), es.map (fun e => (e.key, e.val)) = ks.map (fun k => (Value.int .i64 k, Value.bool true)) →
    (Instr.findNow (.int .i64) (.int .i64 k) es i = some none ∧ k ∉ ks) ∨ ∃ j e, Instr.findNow (.int .i64) (.int .i64 k) es i = some (some (i + j, e.val)) ∧ es[j]? = some e ∧ e.key = .int .i64 k ∧ e.val = .bool true ∧ k ∈ ks
  | [], [], _, _ => .inl ⟨rfl, List.not_mem_nil⟩
  | [], _ :: _, _, h => by simp at h
  | _ :: _, [], _, h => by simp at h
  | e :: es, p :: ks, i, h => by
    simp only [List.map_cons, List.cons.injEq, Prod.mk.injEq] at h
    obtain ⟨⟨h1, h2⟩, h3⟩ := h
    have hs : Instr.sameNow (.int .i64) (.int .i64 k) e.key = some (k == p) := by rw [h1]; simp [Instr.sameNow]
    by_cases hk : k = p
    · have hb : (k == p) = true := by simpa using hk
      exact .inr ⟨0, e, by simp [Instr.findNow, hs, hb], rfl, by rw [h1, hk], h2, by simp [hk]⟩
    · have hb : (k == p) = false := by simpa using hk
      rcases findNow_B2 k es ks (i + 1) h3 with ⟨hr, hn⟩ | ⟨j, e', hr, he, hk', hv, hin⟩
      · exact .inl ⟨by simp [Instr.findNow, hs, hb, hr], by simp [hk, hn]⟩
      · refine .inr ⟨j + 1, e', ?_, by simpa using he, hk', hv, List.mem_cons_of_mem _ hin⟩
        have e1 : i + 1 + j = i + (j + 1) := by omega
        simp [Instr.findNow, hs, hb, hr, e1]
theorem put_B {P : Program} {w : World} {T K E : TypeId} {m : Nat} {ks : List Int} (hT : P.underlying T = some (.map K E)) (hK : P.underlying K = some (.int .i64)) (h : MapB w m ks) (k : Int) :
    ∃ w', (Instr.mapUpdate T (.map (some m)) (.int .i64 k) (.bool true)).run P w = .ok () w' ∧ MapB w' m (addB ks k) ∧ Only w w' (fun i => i = m) ∧ w'.heap.size = w.heap.size := by
  obtain ⟨ents, c, hm, hl⟩ := h
  have hk : IsKey (.int .i64) (.int .i64 k) := by simp [IsKey]
  rcases findNow_B2 k ents.toList ks 0 hl with ⟨hr, hn⟩ | ⟨j, e, hr, he, hek, hev, hin⟩
  · obtain ⟨s1, s2, s3⟩ := only_setBlock (o' := .map (ents.push { key := .int .i64 k, val := .bool true, born := c }) (c + 1)) hm
    refine ⟨_, ?_, ⟨_, _, s3, ?_⟩, s1, s2⟩
    · unfold Instr.mapUpdate
      simp only [Sem.run_bind, run_underlying hT, Result.andThen_ok, MapKept.run_getObj_map hm, MapKept.run_checkKey hK hk, MapKept.run_findKey hK hr, MapKept.run_setObj_map _ hm]
      rfl
    · unfold addB
      rw [if_neg hn]
      simp [hl]
  · rw [Nat.zero_add] at hr
    have hj2 : j < ents.size := by
      have := (List.getElem?_eq_some_iff.1 he).1
      simpa using this
    have hee : ents[j] = e := by
      rw [Array.getElem?_toList, Array.getElem?_eq_getElem hj2] at he
      exact Option.some.inj he
    have hke : (ents[j]).key = .int .i64 k := by rw [hee]; exact hek
    obtain ⟨s1, s2, s3⟩ := only_setBlock (o' := .map (ents.modify j fun e => { e with key := .int .i64 k, val := .bool true }) c) hm
    refine ⟨_, ?_, ⟨_, _, s3, ?_⟩, s1, s2⟩
    · unfold Instr.mapUpdate
      simp only [Sem.run_bind, run_underlying hT, Result.andThen_ok, MapKept.run_getObj_map hm, MapKept.run_checkKey hK hk, MapKept.run_findKey hK hr]
      rw [Array.getElem?_eq_getElem hj2]
      simp only [Option.map_some, Option.getD_some, hke, MapKept.run_keyThatStays hk, Result.andThen_ok, MapKept.run_setObj_map _ hm]
      rfl
    · unfold addB
      rw [if_pos hin, ← hl]
      apply List.ext_getElem?
      intro t
      simp only [List.getElem?_map, Array.getElem?_toList, Array.getElem?_modify]
      by_cases ht : j = t
      · subst ht
        rw [if_pos rfl, Array.getElem?_eq_getElem hj2, hee]
        simp [hek, hev]
      · rw [if_neg ht]

end Go.Proofs.Ytmmlpbepaefamaa

/- disk.New of a list of numbers. -/
namespace Go.Proofs.Ytmmlpbepaefamaa
open Go.RowKit Go.MapKept

/-- Numbers lie in a slice. -/
def NumsAt (w : World) (v : Value) (l : List Int) : Prop :=
  (∃ a c, v = .slice a 0 c ∧ l = []) ∨ ∃ b off c, v = .slice (some ⟨b, off, none⟩) l.length c ∧ b < w.heap.size ∧ ∀ j z, l[j]? = some z → w.cell? ⟨b, off + j, none⟩ = some (.int .i64 z)
theorem NumsAt.at {w : World} {p : Option Addr} {n c i : Nat} {l : List Int} {z : Int} (h : NumsAt w (.slice p n c) l) (hz : l[i]? = some z) : ∃ b off, p = some ⟨b, off, none⟩ ∧ b < w.heap.size ∧ w.cell? ⟨b, off + i, none⟩ = some (.int .i64 z) := by
  rcases h with ⟨_, _, _, rfl⟩ | ⟨b, off, c', he, hl, hc⟩
  · simp at hz
  · injection he with he
    exact ⟨b, off, he, hl, hc i z hz⟩
theorem NumsAt.low {w w' : World} {v : Value} {l : List Int} (h : NumsAt w v l) (hb : Below w.heap.size w w') : NumsAt w' v l := by
  rcases h with h | ⟨b, off, c, rfl, hl, hc⟩
  · exact .inl h
  · exact .inr ⟨b, off, c, rfl, Nat.lt_of_lt_of_le hl hb.size, fun j z hz => (hb.cell (p := ⟨b, off + j, none⟩) hl).trans (hc j z hz)⟩
theorem NumsAt.len {w : World} {v : Value} {l : List Int} (h : NumsAt w v l) : ∃ a c, v = .slice a l.length c := by
  rcases h with ⟨a, c, rfl, rfl⟩ | ⟨b, off, c, rfl, _, _⟩
  · exact ⟨a, c, rfl⟩
  · exact ⟨_, c, rfl⟩
theorem mem_adds : ∀ (l ks : List Int) (j : Int), j ∈ l.foldl addB ks ↔ j ∈ ks ∨ j ∈ l
  | [], ks, j => by simp
  | k :: l, ks, j => by
    rw [List.foldl_cons, mem_adds l, mem_addB, List.mem_cons, or_assoc]
theorem adds_step (l : List Int) (k : Nat) (z : Int) (h : l[k]? = some z) : (l.take (k + 1)).foldl addB [] = addB ((l.take k).foldl addB []) z := by
  rw [List.take_add_one, h, List.foldl_append]
  rfl
theorem DiskAt.refs {W w w' : World} {d fm rm n : Nat} {own : Nat → Option Nat} {L : List (ByteArray × Nat × Dfile)} {ks ks' : List Int} (h : DiskAt W w d fm rm own L ks n) (hm : MapB w' rm ks') (ho : Only w w' fun i => i = rm) : DiskAt W w' d fm rm own L ks' n := by
  refine ⟨h.box.only ho h.dm.2, h.all.only ho h.fr, hm, fun y hy => ?_, h.nod, h.keys, h.noD, h.noF, h.noR, h.fr, h.ged, h.gef, h.ger, h.below.trans (ho.below h.below.size fun i _ e => e ▸ h.ger), fun i fb e => ⟨(h.old i fb e).1, Nat.lt_of_lt_of_le (h.old i fb e).2 ho.size⟩⟩
  obtain ⟨sv, ov, l, hf⟩ := h.each y hy
  exact ⟨sv, ov, l, hf.only ho (fun i hi e => by rw [e, h.noR] at hi; cases hi) (fun _ _ => rfl)⟩

set_option maxRecDepth 100000 in
theorem dnewl_long (w : World) (a : Option Addr) (c : Nat) (l : List Int) (hl : 4096 < l.length) : Calls Try.prog 9 #[.slice a l.length c] w fun e w' => e = .returned (.tuple #[.pointer none, .int .i64 3]) ∧ w = w' := by
  have g1 : (4096 : Int) < (l.length : Int) := by omega
  go_enter Try.func9, Try.ntmps9
  go_wp2
  go_ret2
  exact ⟨rfl, rfl⟩

set_option maxRecDepth 100000 in
set_option maxHeartbeats 4000000 in
theorem dnewl_calls (w : World) (v : Value) (l : List Int) (hv : NumsAt w v l) (hl : l.length ≤ 4096) : Calls Try.prog 9 #[v] w fun e w' => ∃ d, e = .returned (.tuple #[.pointer (some ⟨d, 0, none⟩), .int .i64 0]) ∧ ∃ fm rm own, DiskAt w w' d fm rm own [] (l.foldl addB []) 0 ∧ (∀ i, own i = none) := by
  obtain ⟨p, c, rfl⟩ := hv.len
  have h1 : ∀ w : World, (Instr.makeMap 71 none).run Try.prog w = .ok (.map (some w.heap.size)) (w.alloc (.map #[] 0)) := fun w => run_makeMap _ w
  have h2 : ∀ w : World, (Instr.makeMap 72 none).run Try.prog w = .ok (.map (some w.heap.size)) (w.alloc (.map #[] 0)) := fun w => run_makeMap _ w
  have hD := DiskAt.start w
  have HV := Lib.hid hv
  obtain ⟨N, hN⟩ : ∃ n, l.length = n := ⟨_, rfl⟩
  rw [hN] at hl HV ⊢
  have HN := Lib.hid hN
  clear hv hN
  have g1 : ¬ (4096 : Int) < (N : Int) := by omega
  go_enter Try.func9, Try.ntmps9
  go_wp2
  try simp only [Nat.add_assoc, Nat.reduceAdd]
  generalize ((w.alloc (.map #[] 0)).alloc (.map #[] 0)).alloc (.cells #[.map (some w.heap.size), .map (some (w.heap.size + 1)), .int .i64 0] 74) = w3 at hD ⊢
  obtain ⟨b, hb⟩ : ∃ x, w.heap.size + 2 = x := ⟨_, rfl⟩
  obtain ⟨fm, hfm⟩ : ∃ x, w.heap.size = x := ⟨_, rfl⟩
  have hD2 : DiskAt w w3 b fm (fm + 1) (fun _ => none) [] [] 0 := by rw [← hb, ← hfm]; exact hD
  have HD := Lib.hid hD2
  rw [hb]
  clear hD hD2 hb g1
  go_loopw [6, 16] (fun _ i wr => ∃ k : Nat, k ≤ N ∧ i = .int .i64 k ∧ DiskAt w wr b fm (fm + 1) (fun _ => none) [] ((l.take k).foldl addB []) 0) (fun _ i _ => N - (intOf i).toNat)
  case atStart => exact ⟨0, by omega, rfl, by rw [List.take_zero]; exact HD.out⟩
  case round =>
    obtain ⟨k, hkN, rfl, hD⟩ := hrel
    by_cases hlt : k < N
    · obtain ⟨z, hz⟩ : ∃ z, l[k]? = some z := ⟨_, List.getElem?_eq_getElem (by rw [HN.out]; exact hlt)⟩
      obtain ⟨g, off, rfl, hg, hc⟩ := (HV.out.low hD.below).at hz
      have i1 : (k : Int) < (N : Int) := by omega
      have i2 : 0 ≤ (k : Int) ∧ (k : Int) < (N : Int) := by omega
      have b2 : IntKind.i64.wrap ((k : Int) + 1) = (k : Int) + 1 := IntWalk.i64_in _ (by omega)
      have c1 := hD.box.cell 1
      have c3 := hD.box.cell 0
      obtain ⟨w4, hr4, M4, O4, _⟩ := put_B (P := Try.prog) Try.underlying72 Try.underlying3 hD.ref z
      have D4 := hD.refs M4 O4
      have HZ := Lib.hid (adds_step l k z hz)
      clear hz hg
      go_wp2
      go_roundw
      case rel => exact ⟨k + 1, by omega, by go_num, by rw [HZ.out]; exact D4⟩
      case measure => simp [intOf]; omega
    · obtain rfl : k = N := by omega
      have i1 : ¬ (k : Int) < (k : Int) := by omega
      have HE := Lib.hid (show l.take k = l from List.take_of_length_le (Nat.le_of_eq HN.out))
      go_wp2
      go_ret2
      exact ⟨_, rfl, fm, fm + 1, _, by rw [HE.out] at hD; exact hD, fun _ => rfl⟩

end Go.Proofs.Ytmmlpbepaefamaa
