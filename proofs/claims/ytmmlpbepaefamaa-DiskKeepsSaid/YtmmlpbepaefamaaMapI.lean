/- Maps with numbers as keys, and the map of the budgets. -/
import Derived.Test.YtmmlpbepaefamaaProg
import Derived.Test.YtmmlpbepaefamaaMem
import Derived.MapKept
namespace Go.Proofs.Ytmmlpbepaefamaa
open Go.RowKit Go.MapKept

theorem whole_ne_map {w : World} {g m : Nat} {t : TypeId} {l : List Value} {ents : Array MapEntry} {c : Nat} (h : Whole w g t l) (hm : w.heap[m]? = some (.map ents c)) : g ≠ m := fun e => by
  subst e
  unfold Whole at h
  rw [hm] at h
  cases h
theorem whole_ne_whole {w : World} {g k : Nat} {t : TypeId} {l : List Value} {t' : TypeId} {l' : List Value} (h : Whole w g t l) (h' : Whole w k t' l') (hl : l.length ≠ l'.length) : g ≠ k := fun e => by
  subst e
  unfold Whole at h h'
  rw [h] at h'
  injection h' with h'
  injection h' with h' _ _
  have := congrArg Array.size h'
  simp at this
  exact hl this

/-- Block m is a map with these entries. -/
def MapI (w : World) (m : Nat) (l : List (Int × Int)) : Prop :=
  ∃ ents c, w.heap[m]? = some (.map ents c) ∧ ents.toList.map (fun e => (e.key, e.val)) = l.map fun p => (Value.int .i64 p.1, Value.int .i64 p.2)
def findI : List (Int × Int) → Int → Option Int
  | [], _ => Option.none
  | p :: l, k => if k = p.1 then some p.2 else findI l k
def setI : List (Int × Int) → Int → Int → List (Int × Int)
  | [], k, v => [(k, v)]
  | p :: l, k, v => if k = p.1 then (k, v) :: l else p :: setI l k v
theorem MapI.lt {w : World} {m : Nat} {l : List (Int × Int)} (h : MapI w m l) : m < w.heap.size := by
  obtain ⟨_, _, h, _⟩ := h
  exact (Array.getElem?_eq_some_iff.1 h).1
theorem MapI.of_block {w w' : World} {m : Nat} {l : List (Int × Int)} (h : MapI w m l) (hb : w'.heap[m]? = w.heap[m]?) : MapI w' m l := by
  obtain ⟨e, c, h, hl⟩ := h
  exact ⟨e, c, hb.trans h, hl⟩
theorem MapI.new (w : World) : MapI (w.alloc (.map #[] 0)) w.heap.size [] := ⟨#[], 0, heap_alloc_new w _, rfl⟩

theorem whole_ne_mapI {w : World} {g m : Nat} {t : TypeId} {l : List Value} {l' : List (Int × Int)} (h : Whole w g t l) (hm : MapI w m l') : g ≠ m := by
  obtain ⟨e, c, hm, _⟩ := hm
  exact whole_ne_map h hm

theorem findNow_I (k : Int) : ∀ (es : List MapEntry) (l : List (Int × Int)) (i : Nat), es.map (fun e => (e.key, e.val)) = l.map (fun p => (Value.int .i64 p.1, Value.int .i64 p.2)) →
    (Instr.findNow (.int .i64) (.int .i64 k) es i = some Option.none ∧ findI l k = Option.none ∧ ∀ v, setI l k v = l ++ [(k, v)]) ∨
    ∃ j v, Instr.findNow (.int .i64) (.int .i64 k) es i = some (some (i + j, .int .i64 v)) ∧ findI l k = some v ∧ (∃ e, es[j]? = some e ∧ e.key = .int .i64 k) ∧ ∀ v', setI l k v' = l.set j (k, v')
  | [], [], _, _ => .inl ⟨rfl, rfl, fun _ => rfl⟩
  | [], _ :: _, _, h => by simp at h
  | _ :: _, [], _, h => by simp at h
  | e :: es, p :: l, i, h => by
    simp only [List.map_cons, List.cons.injEq, Prod.mk.injEq] at h
    obtain ⟨⟨h1, h2⟩, h3⟩ := h
    have hs : Instr.sameNow (.int .i64) (.int .i64 k) e.key = some (k == p.1) := by rw [h1]; simp [Instr.sameNow]
    by_cases hk : k = p.1
    · have hb : (k == p.1) = true := by simpa using hk
      refine .inr ⟨0, p.2, ?_, ?_, ⟨e, rfl, by rw [h1, hk]⟩, fun v' => ?_⟩
      · simp only [Instr.findNow, hs, hb, h2, Nat.add_zero]
      · simp only [findI, if_pos hk]
      · simp only [setI, if_pos hk, List.set_cons_zero]
    · have hb : (k == p.1) = false := by simpa using hk
      rcases findNow_I k es l (i + 1) h3 with ⟨a1, a2, a3⟩ | ⟨j, v, a1, a2, a3, a4⟩
      · refine .inl ⟨?_, ?_, fun v => ?_⟩
        · simp only [Instr.findNow, hs, hb, a1]
        · simp only [findI, if_neg hk, a2]
        · simp only [setI, if_neg hk, a3, List.cons_append]
      · refine .inr ⟨j + 1, v, ?_, ?_, a3, fun v' => ?_⟩
        · simp only [Instr.findNow, hs, hb, a1]
          rw [show i + 1 + j = i + (j + 1) by omega]
        · simp only [findI, if_neg hk, a2]
        · simp only [setI, if_neg hk, a4, List.set_cons_succ]

section
variable {P : Program} {w : World} {T K E : TypeId} {m : Nat} {l : List (Int × Int)}
theorem look_I (hT : P.underlying T = some (.map K E)) (hK : P.underlying K = some (.int .i64)) (h : MapI w m l) (k : Int) (hz : (zeroValue E).run P w = .ok (.int .i64 0) w) :
    (Instr.lookup T (.map (some m)) (.int .i64 k) false).run P w = .ok (.int .i64 ((findI l k).getD 0)) w := by
  obtain ⟨ents, c, hm, hl⟩ := h
  have hk : IsKey (.int .i64) (.int .i64 k) := by simp [IsKey]
  unfold Instr.lookup
  rcases findNow_I k ents.toList l 0 hl with ⟨hr, he, _⟩ | ⟨j, v, hr, he, _, _⟩
  · simp only [Sem.run_bind, run_underlying hT, Result.andThen_ok, MapKept.run_getObj_map hm, Sem.run_pure, MapKept.run_checkKey hK hk, MapKept.run_findKey hK hr]
    rw [he]
    simp [hz]
  · simp only [Sem.run_bind, run_underlying hT, Result.andThen_ok, MapKept.run_getObj_map hm, Sem.run_pure, MapKept.run_checkKey hK hk, MapKept.run_findKey hK hr]
    rw [he]
    simp
theorem put_I (hT : P.underlying T = some (.map K E)) (hK : P.underlying K = some (.int .i64)) (h : MapI w m l) (k v : Int) :
    ∃ w', (Instr.mapUpdate T (.map (some m)) (.int .i64 k) (.int .i64 v)).run P w = .ok () w' ∧ MapI w' m (setI l k v) ∧ w.grownBy w' (some m) := by
  obtain ⟨ents, c, hm, hl⟩ := h
  have hk : IsKey (.int .i64) (.int .i64 k) := by simp [IsKey]
  have hlt : m < w.heap.size := (Array.getElem?_eq_some_iff.1 hm).1
  have hgr : ∀ o, w.grownBy { w with heap := w.heap.setIfInBounds m o } (some m) := fun o => ⟨rfl, rfl, rfl, by simp, fun i hi hne => by
    have : m ≠ i := fun h => hne (by rw [h])
    simp [this]⟩
  rcases findNow_I k ents.toList l 0 hl with ⟨hr, he, hs⟩ | ⟨j, v0, hr, he, hj, hs⟩
  · refine ⟨{ w with heap := w.heap.setIfInBounds m (.map (ents.push { key := .int .i64 k, val := .int .i64 v, born := c }) (c + 1)) }, ?_, ⟨ents.push { key := .int .i64 k, val := .int .i64 v, born := c }, c + 1, ?_, ?_⟩, hgr _⟩
    · unfold Instr.mapUpdate
      simp only [Sem.run_bind, run_underlying hT, Result.andThen_ok, MapKept.run_getObj_map hm, MapKept.run_checkKey hK hk, MapKept.run_findKey hK hr, MapKept.run_setObj_map _ hm]
    · simp [hlt]
    · rw [hs]
      simp [hl]
  · obtain ⟨e0, he0, hkey⟩ := hj
    have hj2 : j < ents.size := by
      have := (List.getElem?_eq_some_iff.1 he0).1
      simpa using this
    have hkey : (ents[j]).key = .int .i64 k := by
      rw [Array.getElem?_toList, Array.getElem?_eq_getElem hj2] at he0
      rw [Option.some.inj he0]
      exact hkey
    refine ⟨{ w with heap := w.heap.setIfInBounds m (.map (ents.modify j fun e => { e with key := .int .i64 k, val := .int .i64 v }) c) }, ?_, ⟨ents.modify j fun e => { e with key := .int .i64 k, val := .int .i64 v }, c, by simp [hlt], ?_⟩, hgr _⟩
    · unfold Instr.mapUpdate
      rw [Nat.zero_add] at hr
      simp only [Sem.run_bind, run_underlying hT, Result.andThen_ok, MapKept.run_getObj_map hm, MapKept.run_checkKey hK hk, MapKept.run_findKey hK hr]
      rw [Array.getElem?_eq_getElem hj2]
      simp only [Option.map_some, Option.getD_some, hkey, MapKept.run_keyThatStays hk, Result.andThen_ok, MapKept.run_setObj_map _ hm]
    · rw [hs]
      apply List.ext_getElem?
      intro t
      have e1 : (ents.toList.map fun e => (e.key, e.val))[t]? = (l.map fun p => (Value.int .i64 p.1, Value.int .i64 p.2))[t]? := by rw [hl]
      simp only [List.getElem?_map, Array.getElem?_toList, Array.getElem?_modify, List.getElem?_set] at e1 ⊢
      by_cases ht : j = t
      · subst ht
        have hjl : j < l.length := by
          have := congrArg List.length hl
          simp at this
          omega
        simp [hj2, hjl]
      · simp only [if_neg ht]
        exact e1
end

end Go.Proofs.Ytmmlpbepaefamaa
