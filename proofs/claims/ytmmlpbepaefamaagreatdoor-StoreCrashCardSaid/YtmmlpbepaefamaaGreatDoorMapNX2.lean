/- Maps with texts as keys: what is looked up in them, and a new entry. -/
import Derived.MapKept
import Derived.Maps.RangeWalk
import Derived.Test.YtmmlpbepaefamaaGreatDoorGRowX3
import Derived.Test.YtmmlpbepaefamaaGreatDoorMemX6
namespace Go.Proofs.YtmmlpbepaefamaaGreatDoor
open Go.RowKit Go.MapKept

/-- Block m is a map with these entries, in the order in which they came. -/
def MapN (w : World) (m : Nat) (l : List (ByteArray × Value)) : Prop :=
  ∃ ents c, w.heap[m]? = some (.map ents c) ∧ Stamped ents c ∧ ents.toList.map (fun e => (e.key, e.val)) = l.map fun p => (Value.string p.1, p.2)
/-- What stands at a text. -/
def findN : List (ByteArray × Value) → ByteArray → Option Value
  | [], _ => none
  | p :: l, k => if p.1 = k then some p.2 else findN l k

theorem MapN.lt {w : World} {m : Nat} {l : List (ByteArray × Value)} (h : MapN w m l) : m < w.heap.size := by
  obtain ⟨_, _, h, _⟩ := h
  exact (Array.getElem?_eq_some_iff.1 h).1
theorem MapN.low {w w' : World} {B m : Nat} {l : List (ByteArray × Value)} (h : MapN w m l) (hb : Below B w w') (hm : m < B) : MapN w' m l := by
  obtain ⟨e, c, h, hl⟩ := h
  exact ⟨e, c, (hb.block m hm).trans h, hl⟩
theorem MapN.new (w : World) : MapN (w.alloc (.map #[] 0)) w.heap.size [] := ⟨#[], 0, heap_alloc_new w _, stamped_empty 0, rfl⟩

theorem findNow_N (k : ByteArray) : ∀ (es : List MapEntry) (l : List (ByteArray × Value)) (i : Nat), es.map (fun e => (e.key, e.val)) = l.map (fun p => (Value.string p.1, p.2)) →
    ∃ r, Instr.findNow .string (.string k) es i = some r ∧ r.map Prod.snd = findN l k
  | [], [], _, _ => ⟨none, rfl, rfl⟩
  | [], _ :: _, _, h => by simp at h
  | _ :: _, [], _, h => by simp at h
  | e :: es, p :: l, i, h => by
    simp only [List.map_cons, List.cons.injEq, Prod.mk.injEq] at h
    obtain ⟨⟨h1, h2⟩, h3⟩ := h
    have hs : Instr.sameNow .string (.string k) e.key = some (k == p.1) := by rw [h1]; rfl
    by_cases hk : p.1 = k
    · have hb : (k == p.1) = true := (bytes_beq _ _).2 hk.symm
      exact ⟨some (i, e.val), by simp [Instr.findNow, hs, hb], by simp [findN, hk, h2]⟩
    · have hb : (k == p.1) = false := by
        rw [← Bool.not_eq_true, bytes_beq]
        exact fun h => hk h.symm
      obtain ⟨r, hr, he⟩ := findNow_N k es l (i + 1) h3
      exact ⟨r, by simp [Instr.findNow, hs, hb, hr], by rw [he]; simp [findN, hk]⟩

theorem findN_mem : ∀ {l : List (ByteArray × Value)} {k : ByteArray}, findN l k = none → ∀ p ∈ l, p.1 ≠ k
  | [], _, _, _, hp => by cases hp
  | q :: l, k, h, p, hp => by
    unfold findN at h
    split at h
    · cases h
    · rename_i hq
      rcases List.mem_cons.1 hp with rfl | hp
      · exact hq
      · exact findN_mem h p hp
theorem findN_not {es : List MapEntry} {l : List (ByteArray × Value)} {k : ByteArray} (hl : es.map (fun e => (e.key, e.val)) = l.map fun p => (Value.string p.1, p.2)) (hn : findN l k = none) : ∀ x ∈ es, x.key ≠ .string k := fun x hx e => by
  have h1 : (x.key, x.val) ∈ l.map fun p => (Value.string p.1, p.2) := hl ▸ List.mem_map_of_mem (f := fun e : MapEntry => (e.key, e.val)) hx
  obtain ⟨p, hp, he⟩ := List.mem_map.1 h1
  injection he with he _
  rw [e] at he
  injection he with he
  exact findN_mem hn p hp he
section
variable {P : Program} {w : World} {T K E : TypeId} {m : Nat} {l : List (ByteArray × Value)}
theorem look_N (hT : P.underlying T = some (.map K E)) (hK : P.underlying K = some .string) (h : MapN w m l) (k : ByteArray) {z : Value} (hz : (zeroValue E).run P w = .ok z w) :
    (Instr.lookup T (.map (some m)) (.string k) false).run P w = .ok ((findN l k).getD z) w := by
  obtain ⟨ents, c, hm, _, hl⟩ := h
  obtain ⟨r, hr, he⟩ := findNow_N k ents.toList l 0 hl
  have hk : IsKey .string (.string k) := by simp [IsKey]
  unfold Instr.lookup
  simp only [Sem.run_bind, run_underlying hT, Result.andThen_ok, MapKept.run_getObj_map hm, Sem.run_pure, MapKept.run_checkKey hK hk, MapKept.run_findKey hK hr]
  rw [← he]
  cases r with
  | none => simp [hz]
  | some p => simp

/-- A new entry. -/
theorem put_N (hT : P.underlying T = some (.map K E)) (hK : P.underlying K = some .string) (h : MapN w m l) (k : ByteArray) (v : Value) (hn : findN l k = none) :
    ∃ w', (Instr.mapUpdate T (.map (some m)) (.string k) v).run P w = .ok () w' ∧ MapN w' m (l ++ [(k, v)]) ∧ w.grownBy w' (some m) ∧ w'.heap.size = w.heap.size := by
  obtain ⟨ents, c, hm, hst, hl⟩ := h
  obtain ⟨r, hr, he⟩ := findNow_N k ents.toList l 0 hl
  have hk : IsKey .string (.string k) := by simp [IsKey]
  rw [hn] at he
  obtain rfl : r = none := by cases r <;> simp_all
  have hlt : m < w.heap.size := (Array.getElem?_eq_some_iff.1 hm).1
  refine ⟨{ w with heap := w.heap.setIfInBounds m (.map (ents.push { key := .string k, val := v, born := c }) (c + 1)) }, ?_, ⟨ents.push { key := .string k, val := v, born := c }, c + 1, ?_, stamped_push hst (findN_not hl hn), ?_⟩, ⟨rfl, rfl, rfl, by simp, fun i hi hne => ?_⟩, by simp⟩
  · unfold Instr.mapUpdate
    simp only [Sem.run_bind, run_underlying hT, Result.andThen_ok, MapKept.run_getObj_map hm, MapKept.run_checkKey hK hk, MapKept.run_findKey hK hr, MapKept.run_setObj_map _ hm]
  · simp [hlt]
  · simp [hl]
  · have : m ≠ i := fun h => hne (by rw [h])
    simp [this]
end

theorem findN_put (l : List (ByteArray × Value)) (k : ByteArray) (v : Value) (hn : findN l k = none) : findN (l ++ [(k, v)]) k = some v := by
  induction l with
  | nil => simp [findN]
  | cons p l ih =>
    unfold findN at hn
    split at hn
    · cases hn
    · rename_i hp
      rw [List.cons_append]
      unfold findN
      rw [if_neg hp]
      exact ih hn

end Go.Proofs.YtmmlpbepaefamaaGreatDoor

/- Maps with texts as keys: ranged over, an entry struck, an entry written over. -/
namespace Go.Proofs.YtmmlpbepaefamaaGreatDoor
open Go.RowKit Go.MapKept

/-- Block r is an iterator over the map in block m, into which nothing was laid since; left: which texts are still to come. -/
def RangeN (w : World) (m r : Nat) (l : List (ByteArray × Value)) (left : ByteArray → Bool) (cnt : Nat) : Prop :=
  ∃ ents clock since seen c0, w.heap[m]? = some (.map ents clock) ∧ Stamped ents clock ∧ ents.toList.map (fun e => (e.key, e.val)) = l.map (fun p => (Value.string p.1, p.2)) ∧ w.heap[r]? = some (.mapIter (some m) since seen c0) ∧
    (∀ x ∈ ents.toList, x.born < since) ∧ (∀ x ∈ ents.toList, ∀ k, x.key = .string k → left k = !seen.contains x.born) ∧ since ≤ c0 ∧ since ≤ clock ∧ (leftOf ents seen).size = cnt
theorem RangeN.map {w : World} {m r cnt : Nat} {l : List (ByteArray × Value)} {left : ByteArray → Bool} (h : RangeN w m r l left cnt) : MapN w m l := by
  obtain ⟨ents, clock, _, _, _, h1, h2, h3, _⟩ := h
  exact ⟨ents, clock, h1, h2, h3⟩
theorem RangeN.lt {w : World} {m r cnt : Nat} {l : List (ByteArray × Value)} {left : ByteArray → Bool} (h : RangeN w m r l left cnt) : r < w.heap.size := by
  obtain ⟨_, _, _, _, _, _, _, _, h, _⟩ := h
  exact (Array.getElem?_eq_some_iff.1 h).1
theorem RangeN.only {w w' : World} {S : Nat → Prop} {m r cnt : Nat} {l : List (ByteArray × Value)} {left : ByteArray → Bool} (h : RangeN w m r l left cnt) (ho : Only w w' S) (hm : ¬ S m) (hr : ¬ S r) : RangeN w' m r l left cnt := by
  have h1 := h.map.lt
  have h2 := h.lt
  obtain ⟨ents, clock, since, seen, c0, a1, a2, a3, a4, a5⟩ := h
  exact ⟨ents, clock, since, seen, c0, (ho.block m h1 hm).trans a1, a2, a3, (ho.block r h2 hr).trans a4, a5⟩
theorem RangeN.left_eq {w : World} {m r cnt : Nat} {l : List (ByteArray × Value)} {left : ByteArray → Bool} (h : RangeN w m r l left cnt) : w.rangeLeft m r = cnt := by
  obtain ⟨ents, clock, since, seen, c0, a1, _, _, a4, _, _, _, _, a9⟩ := h
  simp only [World.rangeLeft, a1, a4]
  exact a9
theorem map_of_mem {es : List MapEntry} {l : List (ByteArray × Value)} (hl : es.map (fun e => (e.key, e.val)) = l.map fun p => (Value.string p.1, p.2)) {x : MapEntry} (hx : x ∈ es) : ∃ p ∈ l, x.key = .string p.1 ∧ x.val = p.2 := by
  have h1 : (x.key, x.val) ∈ l.map fun p => (Value.string p.1, p.2) := hl ▸ List.mem_map_of_mem (f := fun e : MapEntry => (e.key, e.val)) hx
  obtain ⟨p, hp, he⟩ := List.mem_map.1 h1
  injection he with h2 h3
  exact ⟨p, hp, h2.symm, h3.symm⟩
theorem mem_of_map {es : List MapEntry} {l : List (ByteArray × Value)} (hl : es.map (fun e => (e.key, e.val)) = l.map fun p => (Value.string p.1, p.2)) {p : ByteArray × Value} (hp : p ∈ l) : ∃ x ∈ es, x.key = .string p.1 ∧ x.val = p.2 := by
  have h1 : (Value.string p.1, p.2) ∈ es.map fun e => (e.key, e.val) := hl ▸ List.mem_map_of_mem (f := fun p : ByteArray × Value => (Value.string p.1, p.2)) hp
  obtain ⟨x, hx, he⟩ := List.mem_map.1 h1
  injection he with h2 h3
  exact ⟨x, hx, h2, h3⟩

section
variable {P : Program} {w : World} {m r cnt : Nat} {l : List (ByteArray × Value)} {left : ByteArray → Bool}
/-- 'range m'. -/
theorem range_N {T K E : TypeId} (hT : P.underlying T = some (.map K E)) (h : MapN w m l) :
    ∃ w' cnt, (Instr.range T (.map (some m))).run P w = .ok (.pointer (some ⟨w.heap.size, 0, none⟩)) w' ∧ RangeN w' m w.heap.size l (fun _ => true) cnt ∧ Below w.heap.size w w' ∧ w'.heap.size = w.heap.size + 1 := by
  have hlt := h.lt
  obtain ⟨ents, clock, hm, hst, hl⟩ := h
  refine ⟨_, _, run_range_map w T K E m ents clock hT hm, ⟨ents, clock, clock, #[], clock, (Below.heap_alloc w _ m hlt).trans hm, hst, hl, heap_alloc_new w _, hst.1, fun x _ k _ => ?_, Nat.le_refl _, Nat.le_refl _, rfl⟩, (Below.refl _ _).alloc (Nat.le_refl _) _, by simp⟩
  simp
/-- The step. -/
theorem next_N (h : RangeN w m r l left cnt) (ty : TypeId) :
    ((∀ p ∈ l, left p.1 = false) ∧ (Instr.next (.pointer (some ⟨r, 0, none⟩)) false ty).run P w = .ok (.tuple #[.bool false]) w) ∨
    ∃ p ∈ l, left p.1 = true ∧ ∃ w' cnt', (Instr.next (.pointer (some ⟨r, 0, none⟩)) false ty).run P w = .ok (.tuple #[.bool true, .string p.1, p.2]) w' ∧ RangeN w' m r l (fun k => left k && !decide (k = p.1)) cnt' ∧ cnt' < cnt ∧
      Only w w' (fun i => i = r) ∧ w'.heap.size = w.heap.size ∧ (Instr.entry (.pointer (some ⟨r, 0, none⟩))).run P w' = .ok (.tuple #[.string p.1, p.2]) w' := by
  obtain ⟨ents, clock, since, seen, c0, a1, a2, a3, a4, a5, a6, a7, a8, a9⟩ := h
  have hne : m ≠ r := fun e => by rw [e, a4] at a1; cases a1
  rcases run_next_at (P := P) w ty r m since c0 seen ents clock a4 a1 a5 a7 with ⟨h0, hrun⟩ | ⟨e, he, w1, hal, hrun⟩
  · refine .inl ⟨fun p hp => ?_, hrun⟩
    obtain ⟨x, hx, hk, _⟩ := mem_of_map a3 hp
    rw [a6 x hx _ hk, all_seen ents seen h0 x hx]
    rfl
  · obtain ⟨hem, hes⟩ := mem_left he
    obtain ⟨p, hp, hk, hv⟩ := map_of_mem a3 hem
    have hr1 : w1.heap[r]? = some (.mapIter (some m) since seen c0) := by rcases hal with rfl | rfl <;> exact a4
    have hb1 : w1.heap[m]? = some (.map ents clock) := by rcases hal with rfl | rfl <;> exact a1
    have hset := heap_set (o' := .mapIter (some m) since (seen.push e.born) clock) hr1
    have hb' : (ChangeMaps.setBlock w1 r (.mapIter (some m) since (seen.push e.born) clock)).heap[m]? = some (.map ents clock) := (hset.2 m hne).trans hb1
    refine .inr ⟨p, hp, by rw [a6 e hem _ hk, hes]; rfl, _, _, by rw [← hk, ← hv]; exact hrun, ⟨ents, clock, since, seen.push e.born, clock, hb', a2, a3, hset.1, a5, fun x hx k hxk => ?_, a8, a8, rfl⟩, a9 ▸ left_shrinks ents seen e he, ?_, ?_, ?_⟩
    · show (left k && !decide (k = p.1)) = _
      rw [a6 x hx k hxk, contains_push]
      have hxe : decide (k = p.1) = (x.born == e.born) := by
        rw [Bool.eq_iff_iff, decide_eq_true_eq, beq_iff_eq]
        constructor
        · intro hkp
          have : x = e := entry_eq_of_key ((stamped_iff ents clock).1 a2).2.2 hx hem (by rw [hxk, hk, hkp])
          rw [this]
        · intro hb
          have := born_inj ((stamped_iff ents clock).1 a2).2.1 hx hem hb
          rw [this, hk] at hxk
          injection hxk with hxk
          exact hxk.symm
      rw [hxe]
      cases seen.contains x.born <;> cases (x.born == e.born) <;> rfl
    · rcases hal with rfl | rfl <;> exact ⟨rfl, rfl, rfl, by simp [ChangeMaps.setBlock], fun i _ hi => hset.2 i hi⟩
    · rcases hal with rfl | rfl <;> simp [ChangeMaps.setBlock]
    · rw [← hk, ← hv]
      exact run_entry_at _ r m since seen ents clock e hset.1 hb' hem ((stamped_iff ents clock).1 a2).2.1
end

theorem findNow_at (k : ByteArray) : ∀ (es : List MapEntry) (l : List (ByteArray × Value)) (i : Nat), es.map (fun e => (e.key, e.val)) = l.map (fun p => (Value.string p.1, p.2)) →
    (Instr.findNow .string (.string k) es i = some none ∧ findN l k = none) ∨ ∃ j e, Instr.findNow .string (.string k) es i = some (some (i + j, e.val)) ∧ es[j]? = some e ∧ e.key = .string k ∧ findN l k = some e.val
  | [], [], _, _ => .inl ⟨rfl, rfl⟩
  | [], _ :: _, _, h => by simp at h
  | _ :: _, [], _, h => by simp at h
  | e :: es, p :: l, i, h => by
    simp only [List.map_cons, List.cons.injEq, Prod.mk.injEq] at h
    obtain ⟨⟨h1, h2⟩, h3⟩ := h
    have hs : Instr.sameNow .string (.string k) e.key = some (k == p.1) := by rw [h1]; rfl
    by_cases hk : p.1 = k
    · have hb : (k == p.1) = true := (bytes_beq _ _).2 hk.symm
      exact .inr ⟨0, e, by simp [Instr.findNow, hs, hb], rfl, by rw [h1, hk], by simp [findN, hk, h2]⟩
    · have hb : (k == p.1) = false := by
        rw [← Bool.not_eq_true, bytes_beq]
        exact fun h => hk h.symm
      rcases findNow_at k es l (i + 1) h3 with ⟨hr, hn⟩ | ⟨j, e', hr, he, hk', hf⟩
      · exact .inl ⟨by simp [Instr.findNow, hs, hb, hr], by simp [findN, hk, hn]⟩
      · refine .inr ⟨j + 1, e', ?_, by simpa using he, hk', by simp [findN, hk, hf]⟩
        have e1 : i + 1 + j = i + (j + 1) := by omega
        simp [Instr.findNow, hs, hb, hr, e1]

/-- The entries at other texts. -/
def dropN (l : List (ByteArray × Value)) (k : ByteArray) : List (ByteArray × Value) := l.filter fun p => !decide (p.1 = k)
/-- An entry that is there holds something else now. -/
def overN (l : List (ByteArray × Value)) (k : ByteArray) (v : Value) : List (ByteArray × Value) := l.map fun p => if p.1 = k then (k, v) else p

theorem keys_apart {es : List MapEntry} {l : List (ByteArray × Value)} (hl : es.map (fun e => (e.key, e.val)) = l.map fun p => (Value.string p.1, p.2)) (hn : (es.map (·.key)).Nodup) : (l.map (·.1)).Nodup := by
  have h1 : es.map (·.key) = l.map fun p => Value.string p.1 := by
    have := congrArg (List.map Prod.fst) hl
    rw [List.map_map, List.map_map] at this
    exact this
  rw [h1] at hn
  have h2 : (l.map fun p => Value.string p.1) = (l.map (·.1)).map Value.string := by simp [List.map_map]
  rw [h2] at hn
  exact List.Pairwise.of_map Value.string (fun a b hab e => hab (by rw [e])) hn
theorem erase_drop (k : ByteArray) : ∀ (es : List MapEntry) (l : List (ByteArray × Value)) (j : Nat) (e : MapEntry), es.map (fun e => (e.key, e.val)) = l.map (fun p => (Value.string p.1, p.2)) → es[j]? = some e → e.key = .string k → (l.map (·.1)).Nodup →
    (es.eraseIdx j).map (fun e => (e.key, e.val)) = (dropN l k).map (fun p => (Value.string p.1, p.2))
  | [], _, _, _, _, h, _, _ => by simp at h
  | _ :: _, [], _, _, h, _, _, _ => by simp at h
  | x :: es, p :: l, 0, e, h, he, hk, hn => by
    obtain rfl : x = e := by simpa using he
    simp only [List.map_cons, List.cons.injEq, Prod.mk.injEq] at h
    obtain ⟨⟨h1, h2⟩, h3⟩ := h
    rw [h1] at hk
    injection hk with hk
    rw [List.map_cons, List.nodup_cons] at hn
    have hd : dropN (p :: l) k = l := by
      unfold dropN
      rw [List.filter_cons_of_neg (by simp [hk])]
      refine List.filter_eq_self.2 fun q hq => ?_
      simp only [Bool.not_eq_true', decide_eq_false_iff_not]
      intro e2
      exact hn.1 (by rw [hk, ← e2]; exact List.mem_map_of_mem hq)
    rw [hd]
    exact h3
  | x :: es, p :: l, j + 1, e, h, he, hk, hn => by
    simp only [List.map_cons, List.cons.injEq, Prod.mk.injEq] at h
    obtain ⟨⟨h1, h2⟩, h3⟩ := h
    rw [List.map_cons, List.nodup_cons] at hn
    have he' : es[j]? = some e := by simpa using he
    have hne : p.1 ≠ k := fun e2 => hn.1 (by
      obtain ⟨q, hq, hqk, _⟩ := map_of_mem h3 (List.mem_of_getElem? he')
      rw [hk] at hqk
      injection hqk with hqk
      rw [e2, hqk]
      exact List.mem_map_of_mem hq)
    have hd : dropN (p :: l) k = p :: dropN l k := by
      unfold dropN
      rw [List.filter_cons_of_pos (by simp [hne])]
    rw [hd, List.eraseIdx_cons_succ, List.map_cons, List.map_cons, erase_drop k es l j e h3 he' hk hn.2, h1, h2]
theorem drop_none {l : List (ByteArray × Value)} {k : ByteArray} (h : findN l k = none) : dropN l k = l :=
  List.filter_eq_self.2 fun p hp => by simpa using findN_mem h p hp

section
variable {P : Program} {w : World} {T K E : TypeId} {m r cnt : Nat} {l : List (ByteArray × Value)} {left : ByteArray → Bool}
/-- 'delete(m, k)' on the block. -/
theorem run_drop (hT : P.underlying T = some (.map K E)) (hK : P.underlying K = some .string) {ents : Array MapEntry} {c : Nat} (hm : w.heap[m]? = some (.map ents c)) (hst : Stamped ents c) (hl : ents.toList.map (fun e => (e.key, e.val)) = l.map fun p => (Value.string p.1, p.2)) (k : ByteArray) (ty : TypeId) :
    ∃ ents', (Builtin.delete_ #[T, K] ty #[.map (some m), .string k]).run P w = .ok (.tuple #[]) (ChangeMaps.setBlock w m (.map ents' c)) ∧ Stamped ents' c ∧ ents'.toList.map (fun e => (e.key, e.val)) = (dropN l k).map (fun p => (Value.string p.1, p.2)) ∧ ents'.toList.Sublist ents.toList := by
  have hk : IsKey .string (.string k) := by simp [IsKey]
  rcases findNow_at k ents.toList l 0 hl with ⟨hr, hn⟩ | ⟨j, e, hr, he, hek, _⟩
  · refine ⟨ents, ?_, hst, by rw [drop_none hn]; exact hl, List.Sublist.refl _⟩
    simp [Builtin.delete_, run_underlying hT, MapKept.run_getObj_map hm, MapKept.run_checkKey hK hk, MapKept.run_findKey hK hr, MapKept.run_setObj_map _ hm, Result.andThen, ChangeMaps.setBlock]
  · have hjs : j < ents.size := by
      have := (List.getElem?_eq_some_iff.1 he).1
      simpa using this
    have hsub : (ents.eraseIdxIfInBounds j).toList = ents.toList.eraseIdx j := by
      unfold Array.eraseIdxIfInBounds
      rw [dif_pos hjs]
      simp
    rw [Nat.zero_add] at hr
    refine ⟨ents.eraseIdxIfInBounds j, ?_, stamped_erase hst j, ?_, by rw [hsub]; exact List.eraseIdx_sublist _ _⟩
    · simp [Builtin.delete_, run_underlying hT, MapKept.run_getObj_map hm, MapKept.run_checkKey hK hk, MapKept.run_findKey hK hr, MapKept.run_setObj_map _ hm, Result.andThen, ChangeMaps.setBlock]
    · rw [hsub]
      exact erase_drop k ents.toList l j e hl he hek (keys_apart hl hst.2.2)
theorem only_setBlock {w : World} {m : Nat} {o o' : Obj} (hm : w.heap[m]? = some o) : Only w (ChangeMaps.setBlock w m o') (fun i => i = m) ∧ (ChangeMaps.setBlock w m o').heap.size = w.heap.size ∧ (ChangeMaps.setBlock w m o').heap[m]? = some o' := by
  have hset := heap_set (o' := o') hm
  exact ⟨⟨rfl, rfl, rfl, by simp [ChangeMaps.setBlock], fun i _ hi => hset.2 i hi⟩, by simp [ChangeMaps.setBlock], hset.1⟩
theorem del_N (hT : P.underlying T = some (.map K E)) (hK : P.underlying K = some .string) (h : MapN w m l) (k : ByteArray) (ty : TypeId) :
    ∃ w', (Builtin.delete_ #[T, K] ty #[.map (some m), .string k]).run P w = .ok (.tuple #[]) w' ∧ MapN w' m (dropN l k) ∧ Only w w' (fun i => i = m) ∧ w'.heap.size = w.heap.size := by
  obtain ⟨ents, c, hm, hst, hl⟩ := h
  obtain ⟨ents', hrun, h1, h2, _⟩ := run_drop (ty := ty) hT hK hm hst hl k
  obtain ⟨s1, s2, s3⟩ := only_setBlock (o' := .map ents' c) hm
  exact ⟨_, hrun, ⟨ents', c, s3, h1, h2⟩, s1, s2⟩
/-- 'delete(m, k)' in the round. -/
theorem drop_N (hT : P.underlying T = some (.map K E)) (hK : P.underlying K = some .string) (h : RangeN w m r l left cnt) (k : ByteArray) (ty : TypeId) :
    ∃ w' cnt', (Builtin.delete_ #[T, K] ty #[.map (some m), .string k]).run P w = .ok (.tuple #[]) w' ∧ RangeN w' m r (dropN l k) left cnt' ∧ cnt' ≤ cnt ∧ Only w w' (fun i => i = m) ∧ w'.heap.size = w.heap.size := by
  obtain ⟨ents, clock, since, seen, c0, a1, a2, a3, a4, a5, a6, a7, a8, a9⟩ := h
  have hne : r ≠ m := fun e => by rw [e, a1] at a4; cases a4
  obtain ⟨ents', hrun, h1, h2, hsub⟩ := run_drop (ty := ty) hT hK a1 a2 a3 k
  obtain ⟨s1, s2, s3⟩ := only_setBlock (o' := .map ents' clock) a1
  refine ⟨_, _, hrun, ⟨ents', clock, since, seen, c0, s3, h1, h2, (s1.block r (Array.getElem?_eq_some_iff.1 a4).1 hne).trans a4, fun x hx => a5 x (hsub.subset hx), fun x hx => a6 x (hsub.subset hx), a7, a8, rfl⟩, ?_, s1, s2⟩
  rw [← a9]
  have e1 : ∀ a : Array MapEntry, (leftOf a seen).size = (a.toList.filter fun e => !seen.contains e.born).length := fun a => by
    unfold leftOf
    rw [← Array.toList_filter, Array.length_toList]
  rw [e1, e1]
  exact (hsub.filter _).length_le
theorem over_at (k : ByteArray) (v : Value) (f : MapEntry → MapEntry) (hf : ∀ e, f e = { e with key := .string k, val := v }) : ∀ (es : List MapEntry) (l : List (ByteArray × Value)) (j : Nat) (e : MapEntry), es.map (fun e => (e.key, e.val)) = l.map (fun p => (Value.string p.1, p.2)) → es[j]? = some e → e.key = .string k → (l.map (·.1)).Nodup →
    (es.modify j f).map (fun e => (e.key, e.val)) = (overN l k v).map (fun p => (Value.string p.1, p.2))
  | [], _, _, _, _, h, _, _ => by simp at h
  | _ :: _, [], _, _, h, _, _, _ => by simp at h
  | x :: es, p :: l, 0, e, h, he, hk, hn => by
    obtain rfl : x = e := by simpa using he
    simp only [List.map_cons, List.cons.injEq, Prod.mk.injEq] at h
    obtain ⟨⟨h1, h2⟩, h3⟩ := h
    have hk1 := hk
    rw [h1] at hk
    injection hk with hk
    rw [List.map_cons, List.nodup_cons] at hn
    have hd : overN (p :: l) k v = (k, v) :: l := by
      unfold overN
      rw [List.map_cons, if_pos hk]
      congr 1
      refine (List.map_congr_left fun q hq => if_neg fun e2 => hn.1 ?_).trans (List.map_id l)
      rw [hk, ← e2]
      exact List.mem_map_of_mem hq
    rw [hd, List.modify_zero_cons, List.map_cons, List.map_cons, h3, hf]
  | x :: es, p :: l, j + 1, e, h, he, hk, hn => by
    simp only [List.map_cons, List.cons.injEq, Prod.mk.injEq] at h
    obtain ⟨⟨h1, h2⟩, h3⟩ := h
    rw [List.map_cons, List.nodup_cons] at hn
    have he' : es[j]? = some e := by simpa using he
    have hne : p.1 ≠ k := fun e2 => hn.1 (by
      obtain ⟨q, hq, hqk, _⟩ := map_of_mem h3 (List.mem_of_getElem? he')
      rw [hk] at hqk
      injection hqk with hqk
      rw [e2, hqk]
      exact List.mem_map_of_mem hq)
    have hd : overN (p :: l) k v = p :: overN l k v := by
      unfold overN
      rw [List.map_cons, if_neg hne]
    rw [hd, List.modify_succ_cons, List.map_cons, List.map_cons, over_at k v f hf es l j e h3 he' hk hn.2, h1, h2]
/-- An entry that is there is written over. -/
theorem over_N (hT : P.underlying T = some (.map K E)) (hK : P.underlying K = some .string) (h : MapN w m l) (k : ByteArray) (v : Value) (hn : findN l k ≠ none) :
    ∃ w', (Instr.mapUpdate T (.map (some m)) (.string k) v).run P w = .ok () w' ∧ MapN w' m (overN l k v) ∧ Only w w' (fun i => i = m) ∧ w'.heap.size = w.heap.size := by
  obtain ⟨ents, c, hm, hst, hl⟩ := h
  have hk : IsKey .string (.string k) := by simp [IsKey]
  rcases findNow_at k ents.toList l 0 hl with ⟨hr, hn2⟩ | ⟨j, e, hr, he, hek, _⟩
  · exact absurd hn2 hn
  · rw [Nat.zero_add] at hr
    have hj2 : j < ents.size := by
      have := (List.getElem?_eq_some_iff.1 he).1
      simpa using this
    have hke : (ents[j]).key = .string k := by
      rw [Array.getElem?_toList, Array.getElem?_eq_getElem hj2] at he
      rw [Option.some.inj he]
      exact hek
    obtain ⟨s1, s2, s3⟩ := only_setBlock (o' := .map (ents.modify j fun e => { e with key := .string k, val := v }) c) hm
    refine ⟨_, ?_, ⟨ents.modify j fun e => { e with key := .string k, val := v }, c, s3, stamped_modify hst j _ (fun _ _ => rfl) (fun e2 _ h2 => ?_), ?_⟩, s1, s2⟩
    · unfold Instr.mapUpdate
      simp only [Sem.run_bind, run_underlying hT, Result.andThen_ok, MapKept.run_getObj_map hm, MapKept.run_checkKey hK hk, MapKept.run_findKey hK hr]
      rw [Array.getElem?_eq_getElem hj2]
      simp only [Option.map_some, Option.getD_some, hke, MapKept.run_keyThatStays hk, Result.andThen_ok, MapKept.run_setObj_map _ hm]
      rfl
    · rw [Array.getElem?_eq_getElem hj2] at h2
      rw [← Option.some.inj h2]
      exact hke.symm
    · rw [Array.toList_modify]
      exact over_at k v _ (fun _ => rfl) ents.toList l j e hl he hek (keys_apart hl hst.2.2)
end

section
variable {P : Program} {w : World} {ops : Array Oper} {rest : List Oper} {o : Oper} {a : Act} {Q : Exit → Act → World → Prop}
theorem wpList_range_N (hg : o.guard = none) (m : Operand) (t : TypeId) (hop : o.op = Op.range t m) (k e : TypeId) (ht : P.underlying t = some (.map k e)) (b : Nat) (l : List (ByteArray × Value)) (hm : a.eval m = .map (some b)) (h : MapN w b l)
    (hK : ∀ w' cnt, RangeN w' b w.heap.size l (fun _ => true) cnt → Below w.heap.size w w' → w'.heap.size = w.heap.size + 1 → wpList P ops Q rest (a.put o.dst (.pointer (some ⟨w.heap.size, 0, none⟩))) w') : wpList P ops Q (o :: rest) a w := by
  refine wpList_plain hg fun K' hK' => ?_
  obtain ⟨w', cnt, hrun, r1, r2, r3⟩ := range_N (P := P) ht h
  unfold Oper.wp
  simp [execOp, hop, hm, hrun, Result.andThen]
  exact hK' _ _ (hK w' cnt r1 r2 r3)
theorem wpList_next_N (hg : o.guard = none) (it : Operand) (hop : o.op = Op.next it false) (m r cnt : Nat) (l : List (ByteArray × Value)) (left : ByteArray → Bool) (hit : a.eval it = .pointer (some ⟨r, 0, none⟩)) (h : RangeN w m r l left cnt)
    (hDone : (∀ p ∈ l, left p.1 = false) → wpList P ops Q rest (a.put o.dst (.tuple #[.bool false])) w)
    (hMore : ∀ p ∈ l, left p.1 = true → ∀ w' cnt', RangeN w' m r l (fun k => left k && !decide (k = p.1)) cnt' → cnt' < cnt → Only w w' (fun i => i = r) → w'.heap.size = w.heap.size →
      (Instr.entry (.pointer (some ⟨r, 0, none⟩))).run P w' = .ok (.tuple #[.string p.1, p.2]) w' → wpList P ops Q rest (a.put o.dst (.tuple #[.bool true, .string p.1, p.2])) w') : wpList P ops Q (o :: rest) a w := by
  refine wpList_plain hg fun K' hK' => ?_
  unfold Oper.wp
  rcases next_N (P := P) h o.type with ⟨h0, hrun⟩ | ⟨p, hp, hl, w', cnt', hrun, hrg, hlt, hO, hs, hen⟩
  · simp [execOp, hop, hit, hrun, Result.andThen]
    exact hK' _ _ (hDone h0)
  · simp [execOp, hop, hit, hrun, Result.andThen]
    exact hK' _ _ (hMore p hp hl w' cnt' hrg hlt hO hs hen)
theorem wpList_drop_N (hg : o.guard = none) (mo x : Operand) (t k : TypeId) (hop : o.op = Op.call { callee := Callee.builtin Builtin.delete, args := #[mo, x], argTypes := #[t, k] }) (e : TypeId) (ht : P.underlying t = some (.map k e)) (hk : P.underlying k = some .string)
    (m r cnt : Nat) (l : List (ByteArray × Value)) (left : ByteArray → Bool) (hm : a.eval mo = .map (some m)) (h : RangeN w m r l left cnt) (s : ByteArray) (hx : a.eval x = .string s)
    (hK : ∀ w' cnt', RangeN w' m r (dropN l s) left cnt' → cnt' ≤ cnt → Only w w' (fun i => i = m) → w'.heap.size = w.heap.size → wpList P ops Q rest (a.put o.dst (.tuple #[])) w') : wpList P ops Q (o :: rest) a w := by
  refine wpList_plain hg fun K' hK' => ?_
  obtain ⟨w', cnt', hrun, r1, r2, r3, r4⟩ := drop_N (P := P) ht hk h s o.type
  unfold Oper.wp
  simp [execOp, hop, resolve, invoke, builtin, hm, hx, hrun, Result.andThen]
  exact hK' _ _ (hK w' cnt' r1 r2 r3 r4)
theorem wpList_del_N (hg : o.guard = none) (mo x : Operand) (t k : TypeId) (hop : o.op = Op.call { callee := Callee.builtin Builtin.delete, args := #[mo, x], argTypes := #[t, k] }) (e : TypeId) (ht : P.underlying t = some (.map k e)) (hk : P.underlying k = some .string)
    (m : Nat) (l : List (ByteArray × Value)) (hm : a.eval mo = .map (some m)) (h : MapN w m l) (s : ByteArray) (hx : a.eval x = .string s)
    (hK : ∀ w', MapN w' m (dropN l s) → Only w w' (fun i => i = m) → w'.heap.size = w.heap.size → wpList P ops Q rest (a.put o.dst (.tuple #[])) w') : wpList P ops Q (o :: rest) a w := by
  refine wpList_plain hg fun K' hK' => ?_
  obtain ⟨w', hrun, r1, r2, r3⟩ := del_N (P := P) ht hk h s o.type
  unfold Oper.wp
  simp [execOp, hop, resolve, invoke, builtin, hm, hx, hrun, Result.andThen]
  exact hK' _ _ (hK w' r1 r2 r3)
end

end Go.Proofs.YtmmlpbepaefamaaGreatDoor
