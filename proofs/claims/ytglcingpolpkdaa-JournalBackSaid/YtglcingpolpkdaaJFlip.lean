/- A byte that is written over in a frame is told. -/
import Derived.Test.YtglcingpolpkdaaJPlain
namespace Go.Proofs.Ytglcingpolpkdaa

/-- Which number has a table's entry with this upper byte. -/
def invT : List Nat := [0, 65, 195, 130, 134, 199, 69, 4, 77, 12, 142, 207, 203, 138, 8, 73, 154, 219, 89, 24, 28, 93, 223, 158, 215, 150, 20, 85, 81, 16, 146, 211, 117, 52, 182, 247, 243, 178, 48, 113, 56, 121, 251, 186, 190, 255, 125, 60, 239, 174, 44, 109, 105, 40, 170, 235, 162, 227, 97, 32, 36, 101, 231, 166, 234, 171, 41, 104, 108, 45, 175, 238, 167, 230, 100, 37, 33, 96, 226, 163, 112, 49, 179, 242, 246, 183, 53, 116, 61, 124, 254, 191, 187, 250, 120, 57, 159, 222, 92, 29, 25, 88, 218, 155, 210, 147, 17, 80, 84, 21, 151, 214, 5, 68, 198, 135, 131, 194, 64, 1, 72, 9, 139, 202, 206, 143, 13, 76, 149, 212, 86, 23, 19, 82, 208, 145, 216, 153, 27, 90, 94, 31, 157, 220, 15, 78, 204, 141, 137, 200, 74, 11, 66, 3, 129, 192, 196, 133, 7, 70, 224, 161, 35, 98, 102, 39, 165, 228, 173, 236, 110, 47, 43, 106, 232, 169, 122, 59, 185, 248, 252, 189, 63, 126, 55, 118, 244, 181, 177, 240, 114, 51, 127, 62, 188, 253, 249, 184, 58, 123, 50, 115, 241, 176, 180, 245, 119, 54, 229, 164, 38, 103, 99, 34, 160, 225, 168, 233, 107, 42, 46, 111, 237, 172, 10, 75, 201, 136, 140, 205, 79, 14, 71, 6, 132, 197, 193, 128, 2, 67, 144, 209, 83, 18, 22, 87, 213, 148, 221, 156, 30, 95, 91, 26, 152, 217]
theorem invT_all : ((List.range 256).all fun i => invT.getD ((tabC i >>> 24).toNat) 0 == i) = true := by kernel_rfl
theorem tab_inj (a b : Nat) (ha : a < 256) (hb : b < 256) (h : tabC a >>> 24 = tabC b >>> 24) : a = b := by
  have h1 := List.all_eq_true.1 invT_all a (List.mem_range.2 ha)
  have h2 := List.all_eq_true.1 invT_all b (List.mem_range.2 hb)
  simp only [beq_iff_eq] at h1 h2
  rw [h] at h1
  exact h1.symm.trans h2
theorem byteC_top (s : BitVec 32) (c : BitVec 8) : byteC s c >>> 24 = tabC (s.setWidth 8 ^^^ c).toNat >>> 24 := by
  unfold byteC
  apply BitVec.eq_of_getLsbD_eq
  intro i hi
  simp only [BitVec.getLsbD_ushiftRight, BitVec.getLsbD_xor]
  rw [BitVec.getLsbD_of_ge s _ (by omega), Bool.false_xor]
theorem byteC_state {s s' : BitVec 32} {c : BitVec 8} (h : byteC s c = byteC s' c) : s = s' := by
  have ht : tabC (s.setWidth 8 ^^^ c).toNat >>> 24 = tabC (s'.setWidth 8 ^^^ c).toNat >>> 24 := by rw [← byteC_top, ← byteC_top, h]
  have hn := tab_inj _ _ (s.setWidth 8 ^^^ c).isLt (s'.setWidth 8 ^^^ c).isLt ht
  have he : s.setWidth 8 ^^^ c = s'.setWidth 8 ^^^ c := BitVec.eq_of_toNat_eq hn
  have hs : s >>> 8 = s' >>> 8 := by
    unfold byteC at h
    rw [he] at h
    exact (BitVec.xor_left_inj _).1 h
  have hl : s.setWidth 8 = s'.setWidth 8 := (BitVec.xor_left_inj _).1 he
  apply BitVec.eq_of_getLsbD_eq
  intro i hi
  by_cases h8 : i < 8
  · have := congrArg (fun x => x.getLsbD i) hl
    simpa [h8] using this
  · have := congrArg (fun x => x.getLsbD (i - 8)) hs
    simp only [BitVec.getLsbD_ushiftRight] at this
    rwa [show 8 + (i - 8) = i by omega] at this
theorem byteC_byte {s : BitVec 32} {c d : BitVec 8} (h : byteC s c = byteC s d) : c = d := by
  have ht : tabC (s.setWidth 8 ^^^ c).toNat >>> 24 = tabC (s.setWidth 8 ^^^ d).toNat >>> 24 := by rw [← byteC_top, ← byteC_top, h]
  have hn := tab_inj _ _ (s.setWidth 8 ^^^ c).isLt (s.setWidth 8 ^^^ d).isLt ht
  exact (BitVec.xor_right_inj _).1 (BitVec.eq_of_toNat_eq hn)
theorem crcC_state : ∀ (l : List (BitVec 8)) {s s' : BitVec 32}, crcC s l = crcC s' l → s = s'
  | [], _, _, h => h
  | c :: l, s, s', h => byteC_state (crcC_state l (s := byteC s c) (s' := byteC s' c) h)
theorem crcC_set : ∀ (l : List (BitVec 8)) (s : BitVec 32) (i : Nat) (y : BitVec 8), crcC s (l.set i y) = crcC s l → i < l.length → l.getD i 0 = y
  | [], _, _, _, _, h => by simp at h
  | c :: l, s, 0, y, h, _ => (byteC_byte (crcC_state l (s := byteC s y) (s' := byteC s c) h)).symm
  | c :: l, s, i + 1, y, h, hi => by
    have := crcC_set l (byteC s c) i y h (by simpa using hi)
    simpa using this
theorem checkC_set {l : List (BitVec 8)} {i : Nat} {y : BitVec 8} (hi : i < l.length) (hy : l.getD i 0 ≠ y) : checkC (l.set i y) ≠ checkC l := fun h => hy (crcC_set l _ i y (BitVec.not_inj.1 h) hi)

theorem four_num (a b c d : BitVec 8) (l : List (BitVec 8)) : fourC (numC (a :: b :: c :: d :: l)) = [a, b, c, d] := by
  have e : numC (a :: b :: c :: d :: l) = (a.setWidth 32 <<< 24 ||| b.setWidth 32 <<< 16) ||| c.setWidth 32 <<< 8 ||| d.setWidth 32 := rfl
  rw [e]
  unfold fourC
  have bits : ∀ (x y : BitVec 8), (∀ i, i < 8 → x.getLsbD i = y.getLsbD i) → x = y := fun x y h => BitVec.eq_of_getLsbD_eq h
  refine List.cons_eq_cons.2 ⟨bits _ _ fun i hi => ?_, List.cons_eq_cons.2 ⟨bits _ _ fun i hi => ?_, List.cons_eq_cons.2 ⟨bits _ _ fun i hi => ?_, List.cons_eq_cons.2 ⟨bits _ _ fun i hi => ?_, rfl⟩⟩⟩⟩
  · simp only [BitVec.getLsbD_or, BitVec.getLsbD_shiftLeft, BitVec.getLsbD_setWidth, BitVec.getLsbD_ushiftRight]
    simp [hi, show i < 32 by omega, show 24 + i < 32 by omega, show ¬ 24 + i < 16 by omega, show ¬ 24 + i < 8 by omega, show ¬ 24 + i < 24 by omega, show 24 + i - 24 = i by omega, BitVec.getLsbD_of_ge b (24 + i - 16) (by omega), BitVec.getLsbD_of_ge c (24 + i - 8) (by omega), BitVec.getLsbD_of_ge d (24 + i) (by omega)]
  · simp only [BitVec.getLsbD_or, BitVec.getLsbD_shiftLeft, BitVec.getLsbD_setWidth, BitVec.getLsbD_ushiftRight]
    simp [hi, show i < 32 by omega, show 16 + i < 32 by omega, show ¬ 16 + i < 16 by omega, show ¬ 16 + i < 8 by omega, show 16 + i < 24 by omega, show 16 + i - 16 = i by omega, BitVec.getLsbD_of_ge c (16 + i - 8) (by omega), BitVec.getLsbD_of_ge d (16 + i) (by omega)]
  · simp only [BitVec.getLsbD_or, BitVec.getLsbD_shiftLeft, BitVec.getLsbD_setWidth, BitVec.getLsbD_ushiftRight]
    simp [hi, show i < 32 by omega, show 8 + i < 32 by omega, show 8 + i < 16 by omega, show ¬ 8 + i < 8 by omega, show 8 + i < 24 by omega, show 8 + i - 8 = i by omega]
  · simp only [BitVec.getLsbD_or, BitVec.getLsbD_shiftLeft, BitVec.getLsbD_setWidth]
    simp [hi, show i < 32 by omega, show i < 16 by omega, show i < 24 by omega]
theorem numC_set (n : BitVec 32) (l : List (BitVec 8)) (j : Nat) (y : BitVec 8) (hj : j < 4) (hy : (fourC n).getD j 0 ≠ y) : numC ((fourC n).set j y ++ l) ≠ n := fun h => by
  have hl : ((fourC n).set j y).length = 4 := by rw [List.length_set]; rfl
  obtain ⟨a, b, c, d, he⟩ : ∃ a b c d, (fourC n).set j y = [a, b, c, d] := by
    match h2 : (fourC n).set j y, hl with
    | [a, b, c, d], _ => exact ⟨a, b, c, d, rfl⟩
  rw [he] at h
  have h3 := four_num a b c d l
  have h4 : [a, b, c, d] ++ l = a :: b :: c :: d :: l := rfl
  rw [h4] at h
  rw [h, ← he] at h3
  apply hy
  have h5 : (fourC n)[j]? = ((fourC n).set j y)[j]? := congrArg (fun l : List (BitVec 8) => l[j]?) h3
  rw [List.getElem?_set_self (by show j < 4; exact hj)] at h5
  simp [h5]

theorem set_left {a b : List (BitVec 8)} {i : Nat} {y : BitVec 8} (h : i < a.length) : (a ++ b).set i y = a.set i y ++ b := by rw [List.set_append_left _ _ h]
theorem set_right {a b : List (BitVec 8)} {i : Nat} {y : BitVec 8} (h : a.length ≤ i) : (a ++ b).set i y = a ++ b.set (i - a.length) y := by rw [List.set_append_right _ _ h]
theorem getD_left {a b : List (BitVec 8)} {i : Nat} (h : i < a.length) : (a ++ b).getD i 0 = a.getD i 0 := by simp [List.getElem?_append_left h]
theorem getD_right {a b : List (BitVec 8)} {i : Nat} (h : a.length ≤ i) : (a ++ b).getD i 0 = b.getD (i - a.length) 0 := by simp [List.getElem?_append_right h]

/-- One byte of a frame is another one: it is told. -/
theorem readC_flip (x rest : List (BitVec 8)) (hx : x.length ≤ 65536) (i : Nat) (y : BitVec 8) (hi : i < x.length + 12) (hy : (frameC x).getD i 0 ≠ y) : readC ((frameC x).set i y ++ rest) = none := by
  have hl : ((frameC x).set i y ++ rest).length = x.length + 12 + rest.length := by rw [List.length_append, List.length_set, frameC_length]
  have hsh : frameC x = fourC (lenC x) ++ (fourC (checkC (fourC (lenC x))) ++ (x ++ fourC (checkC x))) := by simp [frameC]
  rw [readC_def _ (by omega)]
  generalize hA : fourC (lenC x) = A at hsh
  have hAl : A.length = 4 := by rw [← hA]; rfl
  have hAn : ∀ l, numC (A ++ l) = lenC x := fun l => by rw [← hA, numC_four]
  generalize hB : fourC (checkC A) = B at hsh
  have hBl : B.length = 4 := by rw [← hB]; rfl
  have hBn : ∀ l, numC (B ++ l) = checkC A := fun l => by rw [← hB, numC_four]
  generalize hC : fourC (checkC x) = C at hsh
  have hCl : C.length = 4 := by rw [← hC]; rfl
  have hCn : ∀ l, numC (C ++ l) = checkC x := fun l => by rw [← hC, numC_four]
  rw [hsh] at hy ⊢
  have tk : ∀ (a b : List (BitVec 8)), a.length = 4 → (a ++ b).take 4 = a := fun a b h => by rw [← h, List.take_left]
  have dr : ∀ (a b : List (BitVec 8)), a.length = 4 → (a ++ b).drop 4 = b := fun a b h => by rw [← h, List.drop_left]
  by_cases h4 : i < 4
  · rw [set_left (by omega), List.append_assoc, tk _ _ (by simpa using hAl), dr _ _ (by simpa using hAl), List.append_assoc, hBn]
    rw [getD_left (by omega)] at hy
    exact if_pos (.inl (bne_iff_ne.2 (checkC_set (by omega) hy)))
  · rw [set_right (by omega), List.append_assoc, tk _ _ hAl, dr _ _ hAl, hAn, lenC_toNat x hx, hAl]
    rw [getD_right (by omega), hAl] at hy
    by_cases h8 : i < 8
    · rw [set_left (by omega), List.append_assoc]
      rw [getD_left (by omega), ← hB] at hy
      have := numC_set (checkC A) (x ++ C ++ rest) (i - 4) y (by omega) hy
      rw [hB] at this
      exact if_pos (.inl (bne_iff_ne.2 fun e => this e.symm))
    · rw [set_right (by omega), List.append_assoc, hBn, hBl]
      rw [getD_right (by omega), hBl] at hy
      rw [if_neg (by simp; omega), if_neg (by simp [hAl, hBl, hCl]; omega)]
      have d8 : ∀ (l : List (BitVec 8)), (A ++ (B ++ l)).drop 8 = l := fun l => by (have e : (A ++ (B ++ l)).drop (4 + 4) = l := by rw [← List.drop_drop, dr _ _ hAl, dr _ _ hBl]); exact e
      have d8x : ∀ (l : List (BitVec 8)), (A ++ (B ++ l)).drop (8 + x.length) = l.drop x.length := fun l => by rw [← List.drop_drop, d8]
      rw [d8, d8x]
      by_cases h12 : i < 8 + x.length
      · rw [set_left (by omega), List.append_assoc, List.take_left' (by simp), List.drop_left' (by simp), hCn]
        rw [getD_left (by omega)] at hy
        exact if_pos (bne_iff_ne.2 (checkC_set (by omega) hy))
      · rw [set_right (by omega), List.append_assoc, List.take_left, List.drop_left]
        rw [getD_right (by omega), ← hC] at hy
        have := numC_set (checkC x) rest (i - 4 - 4 - x.length) y (by omega) hy
        rw [hC] at this
        exact if_pos (bne_iff_ne.2 fun e => this e.symm)
/-- One byte of frames is another one: it is told. -/
theorem readC_flips : ∀ (xs : List (List (BitVec 8))) (rest : List (BitVec 8)) (i : Nat) (y : BitVec 8), (∀ x ∈ xs, x.length ≤ 65536) → i < (xs.flatMap frameC).length → (xs.flatMap frameC).getD i 0 ≠ y → readC ((xs.flatMap frameC).set i y ++ rest) = none
  | [], _, _, _, _, h, _ => by simp at h
  | x :: xs, rest, i, y, hx, hi, hy => by
    rw [List.flatMap_cons] at hi hy ⊢
    have hl := frameC_length x
    by_cases h : i < (frameC x).length
    · rw [set_left h, List.append_assoc]
      rw [getD_left h] at hy
      exact readC_flip x _ (hx x List.mem_cons_self) i y (by omega) hy
    · rw [set_right (by omega), List.append_assoc, readC_frame x _ (hx x List.mem_cons_self)]
      rw [getD_right (by omega)] at hy
      rw [List.length_append] at hi
      rw [readC_flips xs rest _ y (fun z hz => hx z (List.mem_cons_of_mem _ hz)) (by omega) hy]
      rfl

end Go.Proofs.Ytglcingpolpkdaa
