/- Records and their frames, with no program in sight. -/
import Derived.Test.YtmmlpbepaefamaaGreatDoorJRead
namespace Go.Proofs.YtmmlpbepaefamaaGreatDoor

theorem numC_four (n : BitVec 32) (l : List (BitVec 8)) : numC (fourC n ++ l) = n := by
  have e : numC (fourC n ++ l) = (((n >>> 24).setWidth 8).setWidth 32 <<< 24 ||| ((n >>> 16).setWidth 8).setWidth 32 <<< 16) ||| ((n >>> 8).setWidth 8).setWidth 32 <<< 8 ||| (n.setWidth 8).setWidth 32 := rfl
  rw [e]
  apply BitVec.eq_of_getLsbD_eq
  intro i hi
  simp only [BitVec.getLsbD_or, BitVec.getLsbD_shiftLeft, BitVec.getLsbD_setWidth, BitVec.getLsbD_ushiftRight]
  by_cases h1 : i < 8
  · simp [h1, hi, show i < 16 by omega, show i < 24 by omega]
  · by_cases h2 : i < 16
    · simp [h1, hi, h2, show i < 24 by omega, show i - 8 < 8 by omega, show i - 8 < 32 by omega, show 8 + (i - 8) = i by omega]
    · by_cases h3 : i < 24
      · simp [h1, hi, h2, h3, show ¬ i - 8 < 8 by omega, show i - 16 < 8 by omega, show i - 16 < 32 by omega, show 16 + (i - 16) = i by omega]
      · simp [h1, hi, h2, h3, show ¬ i - 8 < 8 by omega, show ¬ i - 16 < 8 by omega, show i - 24 < 8 by omega, show i - 24 < 32 by omega, show 24 + (i - 24) = i by omega]
theorem fourC_length (n : BitVec 32) : (fourC n).length = 4 := rfl
theorem lenC_toNat (l : List (BitVec 8)) (h : l.length ≤ 65536) : (lenC l).toNat = l.length := by
  unfold lenC
  rw [BitVec.toNat_ofNat]
  omega
theorem frame_shape (x rest : List (BitVec 8)) : frameC x ++ rest = fourC (lenC x) ++ (fourC (checkC (fourC (lenC x))) ++ (x ++ (fourC (checkC x) ++ rest))) := by simp [frameC]

/-- A frame is read as its record. -/
theorem readC_frame (x rest : List (BitVec 8)) (hx : x.length ≤ 65536) : readC (frameC x ++ rest) = (readC rest).map fun r => (x :: r.1, 12 + x.length + r.2) := by
  have hl : (frameC x ++ rest).length = x.length + 12 + rest.length := by rw [List.length_append, frameC_length]
  rw [readC_def _ (by omega), hl]
  have e1 : (frameC x ++ rest).take 4 = fourC (lenC x) := by rw [frame_shape, List.take_append_of_le_length (by simp [fourC]), List.take_of_length_le (by simp [fourC])]
  have e2 : (frameC x ++ rest).drop 4 = fourC (checkC (fourC (lenC x))) ++ (x ++ (fourC (checkC x) ++ rest)) := by rw [frame_shape]; rfl
  have e3 : numC (frameC x ++ rest) = lenC x := by rw [frame_shape, numC_four]
  have e4 : (frameC x ++ rest).drop 8 = x ++ (fourC (checkC x) ++ rest) := by rw [frame_shape]; rfl
  have e5 : (frameC x ++ rest).drop (8 + x.length) = fourC (checkC x) ++ rest := by rw [← List.drop_drop, e4, List.drop_left]
  have e6 : (frameC x ++ rest).drop (12 + x.length) = rest := by rw [show 12 + x.length = (8 + x.length) + 4 by omega, ← List.drop_drop, e5]; rfl
  rw [e1, e2, e3, e4, numC_four, lenC_toNat x hx, e5, e6, numC_four, List.take_left]
  rw [if_neg (by simp; omega), if_neg (by omega), if_neg (by simp)]
/-- Frames are read as their records, what is behind them as what it is. -/
theorem readC_frames : ∀ (xs : List (List (BitVec 8))) (rest : List (BitVec 8)), (∀ x ∈ xs, x.length ≤ 65536) → readC (xs.flatMap frameC ++ rest) = (readC rest).map fun r => (xs ++ r.1, (xs.flatMap frameC).length + r.2)
  | [], rest, _ => by simp
  | x :: xs, rest, h => by
    rw [List.flatMap_cons, List.append_assoc, readC_frame x _ (h x List.mem_cons_self), readC_frames xs rest (fun y hy => h y (List.mem_cons_of_mem _ hy)), Option.map_map]
    congr 1
    funext r
    simp [frameC_length]
    omega
/-- A torn frame is not read. -/
theorem readC_torn (x : List (BitVec 8)) (k : Nat) (hk : k < x.length + 12) (hx : x.length ≤ 65536) : readC ((frameC x).take k) = some ([], 0) := by
  have hl : (frameC x).length = x.length + 12 := frameC_length x
  have hlk : ((frameC x).take k).length = k := by rw [List.length_take]; omega
  by_cases h8 : k < 8
  · rw [readC, dif_pos (by omega)]
  · rw [readC_def _ (by omega), hlk]
    have hs : (frameC x).take k = fourC (lenC x) ++ (fourC (checkC (fourC (lenC x))) ++ (x ++ fourC (checkC x)).take (k - 8)) := by
      have := frame_shape x []
      simp only [List.append_nil] at this
      rw [this, List.take_append, List.take_of_length_le (by simp [fourC]; omega), List.take_append, List.take_of_length_le (by simp [fourC]; omega)]
      simp [fourC_length, Nat.sub_sub]
    have e1 : ((frameC x).take k).take 4 = fourC (lenC x) := by rw [hs, List.take_append_of_le_length (by simp [fourC]), List.take_of_length_le (by simp [fourC])]
    have e2 : ((frameC x).take k).drop 4 = fourC (checkC (fourC (lenC x))) ++ (x ++ fourC (checkC x)).take (k - 8) := by rw [hs]; rfl
    have e3 : numC ((frameC x).take k) = lenC x := by rw [hs, numC_four]
    rw [e1, e2, e3, numC_four, lenC_toNat x hx]
    rw [if_neg (by simp; omega), if_pos (by omega)]

end Go.Proofs.YtmmlpbepaefamaaGreatDoor
