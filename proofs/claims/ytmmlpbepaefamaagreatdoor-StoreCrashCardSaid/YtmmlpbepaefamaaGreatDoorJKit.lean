/- The kit's little functions on bytes. -/
import Derived.Laws.IdiomStrings
import Derived.Laws.BytesArg
import Derived.Test.YtmmlpbepaefamaaGreatDoorGRowX3
import Derived.Test.YtmmlpbepaefamaaGreatDoorMemX6
namespace Go.Proofs.YtmmlpbepaefamaaGreatDoor
open Go.RowKit

theorem SliceIs.cells {w : World} {sl : Value} {ys : List (BitVec 8)} (h : SliceIs w sl ys) : ∃ sp c, sl = .slice sp ys.length c ∧ (0 < ys.length → ∃ ad, sp = some ad ∧ ∀ j v, (ys.map vu8)[j]? = some v → w.cell? (ad.add j) = some v) := by
  rcases h with ⟨rfl, rfl | ⟨ad, c, rfl⟩⟩ | ⟨b, o, c, rfl, _, hb⟩
  · exact ⟨none, 0, rfl, fun h => by simp at h⟩
  · exact ⟨some ad, c, rfl, fun h => by simp at h⟩
  · refine ⟨_, c, rfl, fun _ => ⟨_, rfl, fun j v hv => ?_⟩⟩
    rw [List.getElem?_map] at hv
    rw [Addr.add_lit]
    cases hj : ys[j]? with
    | none => simp [hj] at hv
    | some y =>
      simp [hj] at hv
      rw [← hv]
      exact hb j y hj

/-- A text out of bytes. -/
def textOf (ys : List (BitVec 8)) : ByteArray := ⟨(ys.map UInt8.ofBitVec).toArray⟩
theorem textOf_toList (ys : List (BitVec 8)) : (textOf ys).data.toList = ys.map UInt8.ofBitVec := by simp [textOf]
theorem textOf_eq (xs ys : List (BitVec 8)) : ((textOf xs).toList == (textOf ys).toList) = decide (xs = ys) := by
  rw [Bool.eq_iff_iff]
  simp only [beq_iff_eq, decide_eq_true_eq]
  constructor
  · intro h
    have h2 : (textOf xs).data.toList = (textOf ys).data.toList := by
      rw [ByteArray.toList_eq, ByteArray.toList_eq] at h
      exact h
    rw [textOf_toList, textOf_toList] at h2
    exact (List.map_inj_right (fun a b h => by cases h; rfl)).1 h2
  · rintro rfl
    rfl

theorem run_convert_slice (w : World) (sl : Value) (ys : List (BitVec 8)) (h : SliceIs w sl ys) : (convert 30 9 sl).run Tryz.prog w = .ok (.string (textOf ys)) w := by
  have hs : Tryz.prog.underlying 30 = some (.slice 5) := Tryz.underlying30
  have he : Tryz.prog.underlying 5 = some (.int .u8) := Tryz.underlying5
  have hd : Tryz.prog.underlying 9 = some .string := Tryz.underlying9
  have hback : ∀ ad c, (∀ j v, (ys.map vu8)[j]? = some v → w.cell? (ad.add j) = some v) → (convert 30 9 (.slice (some ad) ys.length c)).run Tryz.prog w = .ok (.string (textOf ys)) w := fun ad c hc => by
    have := run_convert_bytes_back (P := Tryz.prog) w _ _ _ ad c (ys.map UInt8.ofBitVec) hs he hd (fun j hj => by
      simp at hj
      rw [hc j (vu8 ys[j]) (by simp [hj])]
      simp [vu8])
    simpa [textOf] using this
  rcases h with ⟨rfl, rfl | ⟨ad, c, rfl⟩⟩ | ⟨b, o, c, rfl, hl, hb⟩
  · rw [run_convert_bytes_nil w _ _ hs he _ _ _ hd]
    rfl
  · exact hback ad c (fun j v hv => by simp at hv)
  · refine hback _ c fun j v hv => ?_
    obtain ⟨sp, c', he, hc⟩ := SliceIs.cells (.inr ⟨b, o, c, rfl, hl, hb⟩ : SliceIs w (.slice (some ⟨b, o, none⟩) ys.length c) ys)
    cases he
    obtain ⟨ad, e, hc⟩ := hc (by
      have := (List.getElem?_eq_some_iff.1 hv).1
      simp at this
      omega)
    cases e
    exact hc j v hv

theorem same_calls (w : World) (s t : Value) (xs ys : List (BitVec 8)) (hs : SliceIs w s xs) (ht : SliceIs w t ys) :
    Calls Tryz.prog 10 #[s, t] w fun e w' => e = .returned (.bool (decide (xs = ys))) ∧ w = w' := by
  have h1 := run_convert_slice w s xs hs
  have h2 := run_convert_slice w t ys ht
  go_enter Tryz.func10, Tryz.ntmps10
  go_wp2
  go_ret
  simp [textOf_eq]

/-- A byte of a row is written over. -/
theorem Own.poke {w : World} {B g c n i : Nat} {l : List (BitVec 8)} (h : Own w B (.slice (some ⟨g, 0, none⟩) n c) l) (hi : i < l.length) (y : BitVec 8) :
    w.cell? ⟨g, i, none⟩ = some (vu8 (l.getD i 0)) ∧ w.frozen? ⟨g, i, none⟩ = false ∧ Own (w.setCell ⟨g, i, none⟩ (vu8 y)) B (.slice (some ⟨g, 0, none⟩) n c) (l.set i y) := by
  obtain ⟨h0, h1⟩ := h
  rcases h1 with ⟨he, _⟩ | ⟨g2, cap, cur, he, hb, hg, hle, hm, hsz, hcur⟩
  · cases he
  · injection he with h1 h2 h3
    injection h1 with h1
    injection h1 with h1
    subst h1 h2 h3
    rw [Nat.mul_one] at hcur hsz
    have hW : Whole w g 5 cur.toList := by unfold Whole; simpa using hg
    have hl : cur.toList.length = c := by simpa using hsz
    have hci : cur.toList[i]? = some (vu8 (l.getD i 0)) := by
      have : (cur.toList.take l.length)[i]? = some (vu8 (l.getD i 0)) := by rw [hcur]; simp [List.getElem?_eq_getElem hi]
      rw [List.getElem?_take, if_pos hi] at this
      exact this
    refine ⟨hW.cell_of hci, hW.free i, by simp, .inr ⟨g, c, (cur.toList.set i (vu8 y)).toArray, by simp, hb, by simpa [Whole] using hW.put i (vu8 y), by simpa using hle, hm, by simpa using hsz, ?_⟩⟩
    simp only [List.length_set, Nat.mul_one, List.map_set]
    rw [← hcur]
    apply List.ext_getElem?
    intro j
    simp only [List.getElem?_take, List.getElem?_set, List.length_take, hl]
    by_cases hj : j < l.length
    · by_cases hij : i = j
      · subst hij
        rw [if_pos hj, if_pos rfl, if_pos rfl, if_pos (by omega), if_pos (by omega)]
      · rw [if_pos hj, if_neg hij, if_neg hij, if_pos hj]
    · rw [if_neg hj]
      by_cases hij : i = j
      · subst hij
        omega
      · rw [if_neg hij, if_neg hj]

end Go.Proofs.YtmmlpbepaefamaaGreatDoor
