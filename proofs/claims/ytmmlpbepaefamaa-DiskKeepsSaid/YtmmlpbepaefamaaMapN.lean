/- Maps with texts as keys: what is looked up in them, and a new entry. -/
import Derived.Test.YtmmlpbepaefamaaOwn
import Derived.Test.YtmmlpbepaefamaaGRow
import Derived.MapKept
namespace Go.Proofs.Ytmmlpbepaefamaa
open Go.RowKit Go.MapKept

/-- Block m is a map with these entries, in the order in which they came. -/
def MapN (w : World) (m : Nat) (l : List (ByteArray × Value)) : Prop :=
  ∃ ents c, w.heap[m]? = some (.map ents c) ∧ Stamped ents c ∧ ents.toList.map (fun e => (e.key, e.val)) = l.map fun p => (Value.string p.1, p.2)
/-- What stands at a text. -/
def findN : List (ByteArray × Value) → ByteArray → Option Value
  | [], _ => none
  | p :: l, k => if p.1 = k then some p.2 else findN l k

theorem MapN.lt {w : World} {m : Nat} {l : List (ByteArray × Value)} (h : MapN w m l) : m < w.heap.size := by
  obtain ⟨_, _, h, _⟩ := h
  exact (Array.getElem?_eq_some_iff.1 h).1
theorem MapN.low {w w' : World} {B m : Nat} {l : List (ByteArray × Value)} (h : MapN w m l) (hb : Below B w w') (hm : m < B) : MapN w' m l := by
  obtain ⟨e, c, h, hl⟩ := h
  exact ⟨e, c, (hb.block m hm).trans h, hl⟩
theorem MapN.new (w : World) : MapN (w.alloc (.map #[] 0)) w.heap.size [] := ⟨#[], 0, heap_alloc_new w _, stamped_empty 0, rfl⟩

theorem findNow_N (k : ByteArray) : ∀ (es : List MapEntry) (l : List (ByteArray × Value)) (i : Nat), es.map (fun e => (e.key, e.val)) = l.map (fun p => (Value.string p.1, p.2)) →
    ∃ r, Instr.findNow .string (.string k) es i = some r ∧ r.map Prod.snd = findN l k
  | [], [], _, _ => ⟨none, rfl, rfl⟩
  | [], _ :: _, _, h => by simp at h
  | _ :: _, [], _, h => by simp at h
  | e :: es, p :: l, i, h => by
    simp only [List.map_cons, List.cons.injEq, Prod.mk.injEq] at h
    obtain ⟨⟨h1, h2⟩, h3⟩ := h
    have hs : Instr.sameNow .string (.string k) e.key = some (k == p.1) := by rw [h1]; rfl
    by_cases hk : p.1 = k
    · have hb : (k == p.1) = true := (bytes_beq _ _).2 hk.symm
      exact ⟨some (i, e.val), by simp [Instr.findNow, hs, hb], by simp [findN, hk, h2]⟩
    · have hb : (k == p.1) = false := by
        rw [← Bool.not_eq_true, bytes_beq]
        exact fun h => hk h.symm
      obtain ⟨r, hr, he⟩ := findNow_N k es l (i + 1) h3
      exact ⟨r, by simp [Instr.findNow, hs, hb, hr], by rw [he]; simp [findN, hk]⟩

theorem findN_mem : ∀ {l : List (ByteArray × Value)} {k : ByteArray}, findN l k = none → ∀ p ∈ l, p.1 ≠ k
  | [], _, _, _, hp => by cases hp
  | q :: l, k, h, p, hp => by
    unfold findN at h
    split at h
    · cases h
    · rename_i hq
      rcases List.mem_cons.1 hp with rfl | hp
      · exact hq
      · exact findN_mem h p hp
theorem findN_not {es : List MapEntry} {l : List (ByteArray × Value)} {k : ByteArray} (hl : es.map (fun e => (e.key, e.val)) = l.map fun p => (Value.string p.1, p.2)) (hn : findN l k = none) : ∀ x ∈ es, x.key ≠ .string k := fun x hx e => by
  have h1 : (x.key, x.val) ∈ l.map fun p => (Value.string p.1, p.2) := hl ▸ List.mem_map_of_mem (f := fun e : MapEntry => (e.key, e.val)) hx
  obtain ⟨p, hp, he⟩ := List.mem_map.1 h1
  injection he with he _
  rw [e] at he
  injection he with he
  exact findN_mem hn p hp he
section
variable {P : Program} {w : World} {T K E : TypeId} {m : Nat} {l : List (ByteArray × Value)}
theorem look_N (hT : P.underlying T = some (.map K E)) (hK : P.underlying K = some .string) (h : MapN w m l) (k : ByteArray) {z : Value} (hz : (zeroValue E).run P w = .ok z w) :
    (Instr.lookup T (.map (some m)) (.string k) false).run P w = .ok ((findN l k).getD z) w := by
  obtain ⟨ents, c, hm, _, hl⟩ := h
  obtain ⟨r, hr, he⟩ := findNow_N k ents.toList l 0 hl
  have hk : IsKey .string (.string k) := by simp [IsKey]
  unfold Instr.lookup
  simp only [Sem.run_bind, run_underlying hT, Result.andThen_ok, MapKept.run_getObj_map hm, Sem.run_pure, MapKept.run_checkKey hK hk, MapKept.run_findKey hK hr]
  rw [← he]
  cases r with
  | none => simp [hz]
  | some p => simp

/-- A new entry. -/
theorem put_N (hT : P.underlying T = some (.map K E)) (hK : P.underlying K = some .string) (h : MapN w m l) (k : ByteArray) (v : Value) (hn : findN l k = none) :
    ∃ w', (Instr.mapUpdate T (.map (some m)) (.string k) v).run P w = .ok () w' ∧ MapN w' m (l ++ [(k, v)]) ∧ w.grownBy w' (some m) ∧ w'.heap.size = w.heap.size := by
  obtain ⟨ents, c, hm, hst, hl⟩ := h
  obtain ⟨r, hr, he⟩ := findNow_N k ents.toList l 0 hl
  have hk : IsKey .string (.string k) := by simp [IsKey]
  rw [hn] at he
  obtain rfl : r = none := by cases r <;> simp_all
  have hlt : m < w.heap.size := (Array.getElem?_eq_some_iff.1 hm).1
  refine ⟨{ w with heap := w.heap.setIfInBounds m (.map (ents.push { key := .string k, val := v, born := c }) (c + 1)) }, ?_, ⟨ents.push { key := .string k, val := v, born := c }, c + 1, ?_, stamped_push hst (findN_not hl hn), ?_⟩, ⟨rfl, rfl, rfl, by simp, fun i hi hne => ?_⟩, by simp⟩
  · unfold Instr.mapUpdate
    simp only [Sem.run_bind, run_underlying hT, Result.andThen_ok, MapKept.run_getObj_map hm, MapKept.run_checkKey hK hk, MapKept.run_findKey hK hr, MapKept.run_setObj_map _ hm]
  · simp [hlt]
  · simp [hl]
  · have : m ≠ i := fun h => hne (by rw [h])
    simp [this]
end

theorem findN_put (l : List (ByteArray × Value)) (k : ByteArray) (v : Value) (hn : findN l k = none) : findN (l ++ [(k, v)]) k = some v := by
  induction l with
  | nil => simp [findN]
  | cons p l ih =>
    unfold findN at hn
    split at hn
    · cases hn
    · rename_i hp
      rw [List.cons_append]
      unfold findN
      rw [if_neg hp]
      exact ih hn

end Go.Proofs.Ytmmlpbepaefamaa
