/- The set of a tenant's members: what is looked up in it, and a new member. -/
import Derived.Test.YtglcingpolpkdaaAGranted
import Derived.WideKeyRuns
namespace Go.Proofs.Ytglcingpolpkdaa
open Go.RowKit Go.MapKept

def eqM (p q : ByteArray × ByteArray) : Bool := (p.1.toList == q.1.toList) && (p.2.toList == q.2.toList)
def hasM (ms : List (ByteArray × ByteArray)) (p : ByteArray × ByteArray) : Bool := ms.any fun q => eqM p q

set_option maxRecDepth 100000 in
theorem eql_mem (w : World) (a b c d : ByteArray) : (Op.equal 106 (.agg #[.string a, .string b]) (.agg #[.string c, .string d])).run Try.prog w = .ok (eqM (a, b) (c, d)) w := by
  show (Op.equalIn 10000 106 (.agg #[.string a, .string b]) (.agg #[.string c, .string d])).run Try.prog w = _
  go_simp
  unfold eqM
  by_cases h1 : a.toList = c.toList <;> by_cases h2 : b.toList = d.toList <;> simp [h1, h2]

set_option maxRecDepth 100000 in
theorem check_mem (w : World) (e : Bool) (a b : ByteArray) : (Instr.checkKey e 10000 106 (.agg #[.string a, .string b])).run Try.prog w = .ok () w := by
  unfold Instr.checkKey
  go_simp
  have h : ∀ s : ByteArray, (Instr.checkKey e 9999 9 (.string s)).run Try.prog w = .ok () w := fun s => MapKept.run_checkKey Try.underlying9 (by simp [IsKey]) e 9998
  rw [h, Result.andThen_ok, h]

theorem ask_M (w : World) (a b : ByteArray) : ∀ (es : List MapEntry) (ms : List (ByteArray × ByteArray)) (i : Nat), es.map (fun e => (e.key, e.val)) = ms.map (fun p => (Value.agg #[.string p.1, .string p.2], Value.bool true)) →
    ∃ r, (Instr.findAsking 106 (.agg #[.string a, .string b]) es i).run Try.prog w = .ok r w ∧ r.map Prod.snd = if hasM ms (a, b) = true then some (.bool true) else none
  | [], [], _, _ => ⟨none, by simp [Instr.findAsking], by simp [hasM]⟩
  | [], _ :: _, _, h => by simp at h
  | _ :: _, [], _, h => by simp at h
  | e :: es, p :: ms, i, h => by
    simp only [List.map_cons, List.cons.injEq, Prod.mk.injEq] at h
    obtain ⟨⟨h1, h2⟩, h3⟩ := h
    have he := eql_mem w a b p.1 p.2
    rw [← h1] at he
    by_cases hk : eqM (a, b) p = true
    · have hk' : eqM (a, b) (p.1, p.2) = true := hk
      refine ⟨some (i, e.val), ?_, ?_⟩
      · simp [Instr.findAsking, he, hk']
      · simp [hasM, hk, h2]
    · have hk' : eqM (a, b) (p.1, p.2) = false := by simpa using hk
      obtain ⟨r, hr, hx⟩ := ask_M w a b es ms (i + 1) h3
      refine ⟨r, ?_, ?_⟩
      · simp [Instr.findAsking, he, hk', hr]
      · have h0 : eqM (a, b) p = false := hk'
        rw [hx]
        unfold hasM
        rw [List.any_cons, h0, Bool.false_or]


theorem wide_mem : (match Try.prog.underlying 106 with | some (.array _ _) | some (.struct _) => true | _ => false) = true := by kernel_rfl
set_option maxRecDepth 100000 in
theorem find_mem (w : World) (x : Value) (es : List MapEntry) : (Instr.findKey 106 x es).run Try.prog w = (Instr.findAsking 106 x es).run Try.prog w := run_findKey_eq w wide_mem x es
theorem zero_bool (w : World) : (zeroValue 4).run Try.prog w = .ok (.bool false) w := by kernel_rfl

set_option maxRecDepth 100000 in
theorem look_M {w : World} {m : Nat} {ms : List (ByteArray × ByteArray)} (h : MapM w m ms) (a b : ByteArray) :
    (Instr.lookup 98 (.map (some m)) (.agg #[.string a, .string b]) false).run Try.prog w = .ok (.bool (hasM ms (a, b))) w := by
  obtain ⟨ents, c, hm, hl⟩ := h
  obtain ⟨r, hr, hx⟩ := ask_M w a b ents.toList ms 0 hl
  unfold Instr.lookup
  simp only [Sem.run_bind, run_underlying Try.underlying98, Result.andThen_ok, MapKept.run_getObj_map hm, Sem.run_pure, check_mem, find_mem, hr]
  by_cases hh : hasM ms (a, b) = true
  · rw [if_pos hh] at hx
    cases r with
    | none => cases hx
    | some p =>
      have hp : p.2 = .bool true := by simpa using hx
      simp [hh, hp]
  · rw [if_neg hh] at hx
    cases r with
    | none => simp [hh]
    | some p => cases hx

set_option maxRecDepth 100000 in
theorem put_M {w : World} {m : Nat} {ms : List (ByteArray × ByteArray)} (h : MapM w m ms) (a b : ByteArray) (hn : hasM ms (a, b) = false) :
    ∃ w', (Instr.mapUpdate 98 (.map (some m)) (.agg #[.string a, .string b]) (.bool true)).run Try.prog w = .ok () w' ∧ MapM w' m (ms ++ [(a, b)]) ∧ w.grownBy w' (some m) ∧ w'.heap.size = w.heap.size := by
  obtain ⟨ents, c, hm, hl⟩ := h
  obtain ⟨r, hr, hx⟩ := ask_M w a b ents.toList ms 0 hl
  rw [hn, if_neg (by simp)] at hx
  obtain rfl : r = none := by cases r <;> simp_all
  have hlt : m < w.heap.size := (Array.getElem?_eq_some_iff.1 hm).1
  refine ⟨{ w with heap := w.heap.setIfInBounds m (.map (ents.push { key := .agg #[.string a, .string b], val := .bool true, born := c }) (c + 1)) }, ?_, ⟨ents.push { key := .agg #[.string a, .string b], val := .bool true, born := c }, c + 1, ?_, ?_⟩, ⟨rfl, rfl, rfl, by simp, fun i hi hne => ?_⟩, by simp⟩
  · unfold Instr.mapUpdate
    simp only [Sem.run_bind, run_underlying Try.underlying98, Result.andThen_ok, MapKept.run_getObj_map hm, check_mem, find_mem, hr, MapKept.run_setObj_map _ hm]
  · simp [hlt]
  · simp [hl]
  · have : m ≠ i := fun h => hne (by rw [h])
    simp [this]

end Go.Proofs.Ytglcingpolpkdaa
