/- Texts turned into bytes. -/
import Derived.Laws.IdiomStrings
import Derived.Test.YtmmlpbepaefamaaGreatDoorGRowX2
import Derived.Test.YtmmlpbepaefamaaGreatDoorOwn
namespace Go.Proofs.YtmmlpbepaefamaaGreatDoor
open Go.RowKit

def bytesB (s : ByteArray) : List (BitVec 8) := s.data.toList.map UInt8.toBitVec
theorem bytesB_length (s : ByteArray) : (bytesB s).length = s.size := by
  unfold bytesB
  rw [List.length_map, Array.length_toList]
  rfl
theorem bytes_cell (s : ByteArray) (c k : Nat) (hk : k < s.size) : ∃ n : Nat, n < 256 ∧ (bytesRow s c)[k]? = some (.int .u8 (n : Int)) ∧ ∃ b, s.data.toList[k]? = some b ∧ b.toNat = n := by
  have hk' : k < s.data.size := hk
  refine ⟨(s.data[k]).toNat, UInt8.toNat_lt _, ?_, s.data[k], by simp, rfl⟩
  unfold bytesRow
  rw [Array.getElem?_append_left (by simpa using hk'), Array.getElem?_map, Array.getElem?_eq_getElem hk']
  rfl
theorem conv_slice (w : World) (s : ByteArray) (cap : Nat) (fr : Nat × Nat) : SliceIs (w.drew.alloc (.cells (bytesRow s cap) 5 fr)) (.slice (some ⟨w.heap.size, 0, none⟩) s.size cap) (bytesB s) := by
  refine .inr ⟨w.heap.size, 0, cap, by rw [bytesB_length], by simp, fun j y hj => ?_⟩
  have hjl : j < s.size := by
    have := (List.getElem?_eq_some_iff.1 hj).1
    rwa [bytesB_length] at this
  obtain ⟨n, _, h2, b, h3, h4⟩ := bytes_cell s cap j hjl
  unfold bytesB at hj
  rw [List.getElem?_map, h3] at hj
  have hy : b.toBitVec = y := by simpa using hj
  rw [Nat.zero_add, cell_of_row _ w.heap.size j _ 5 _ (heap_alloc_new w.drew _), h2, ← hy, ← h4]
  rfl
/-- '[]byte(s)'. -/
theorem wp_conv_text {w : World} {o : Oper} {a : Act} {K : Act → World → Prop} {Q : Exit → Act → World → Prop} (s : Operand) (ho : o.op = .convert 9 30 s) (c : ByteArray) (hs : a.eval s = .string c)
    (h : ∀ g k w', SliceIs w' (.slice (some ⟨g, 0, none⟩) c.size k) (bytesB c) → Below w.heap.size w w' → K (a.put o.dst (.slice (some ⟨g, 0, none⟩) c.size k)) w') : o.wp Tryz.prog a w K Q := by
  have hr := run_bytes_of_string (P := Tryz.prog) w 9 30 5 c Tryz.underlying9 Tryz.underlying30 Tryz.underlying5
  unfold Oper.wp execOp
  simp only [ho, hs, Sem.run_bind, hr, Result.andThen_ok, Sem.run_pure]
  exact h _ _ _ (conv_slice w c _ _) ((Below.refl _ _).drew.alloc (Nat.le_refl _) _)


theorem wpList_conv_text {w : World} {ops : Array Oper} {rest : List Oper} {o : Oper} {a : Act} {Q : Exit → Act → World → Prop} (hgd : o.guard = none) (s : Operand) (ho : o.op = .convert 9 30 s) (c : ByteArray) (hs : a.eval s = .string c)
    (h : ∀ g k w', SliceIs w' (.slice (some ⟨g, 0, none⟩) c.size k) (bytesB c) → Below w.heap.size w w' → wpList Tryz.prog ops Q rest (a.put o.dst (.slice (some ⟨g, 0, none⟩) c.size k)) w') : wpList Tryz.prog ops Q (o :: rest) a w :=
  wpList_plain hgd fun _ hK => wp_conv_text s ho c hs fun g k w' h1 h2 => hK _ _ (h g k w' h1 h2)

end Go.Proofs.YtmmlpbepaefamaaGreatDoor
