/- The digest of bytes, in plain words on lists: the blocks one by one, what is laid behind a message, and the 32 bytes. -/
import Derived.Test.YtglcingpolpkdaaDoorSha
namespace Go.Proofs.YtglcingpolpkdaaDoor

/-- The eight numbers behind n blocks of l. -/
def absorb : Nat → Eight → List (BitVec 8) → Eight
  | 0, s, _ => s
  | n + 1, s, l => absorb n (compress s (l.take 64)) (l.drop 64)

theorem absorb_add (n : Nat) : ∀ (m : Nat) (s : Eight) (l : List (BitVec 8)), absorb (m + n) s l = absorb n (absorb m s l) (l.drop (64 * m))
  | 0, s, l => by simp [absorb]
  | m + 1, s, l => by
    rw [show m + 1 + n = (m + n) + 1 from by omega]
    simp only [absorb]
    rw [absorb_add n m, List.drop_drop]
    congr 2
    omega
theorem absorb_succ (n : Nat) (s : Eight) (l : List (BitVec 8)) : absorb (n + 1) s l = compress (absorb n s l) ((l.drop (64 * n)).take 64) := absorb_add 1 n s l
theorem absorb_append (x : List (BitVec 8)) : ∀ (n : Nat) (s : Eight) (l : List (BitVec 8)), 64 * n ≤ l.length → absorb n s (l ++ x) = absorb n s l
  | 0, _, _, _ => rfl
  | n + 1, s, l, h => by
    simp only [absorb]
    rw [List.take_append_of_le_length (by omega), List.drop_append_of_le_length (by omega), absorb_append x n _ _ (by simp; omega)]

/-- The eight numbers behind the whole blocks of m. -/
def stateOf (m : List (BitVec 8)) : Eight := absorb (m.length / 64) shaBegin m
/-- The bytes of m that fill no block. -/
def restOf (m : List (BitVec 8)) : List (BitVec 8) := m.drop (64 * (m.length / 64))
theorem restOf_length (m : List (BitVec 8)) : (restOf m).length = m.length % 64 := by
  simp [restOf]; omega

/-- The first bytes of what waits are those that fill no block. -/
def WaitOk (wait m : List (BitVec 8)) : Prop := wait.length = 64 ∧ wait.take (m.length % 64) = restOf m

theorem waitOk_nil : WaitOk (List.replicate 64 0#8) [] := ⟨by simp, by simp [restOf]⟩
theorem stateOf_nil : stateOf [] = shaBegin := rfl

section
variable {wait m : List (BitVec 8)} {c : BitVec 8}
theorem WaitOk.step (h : WaitOk wait m) : (wait.set (m.length % 64) c).take (m.length % 64 + 1) = restOf m ++ [c] := by
  have hl := h.1
  have hlt : m.length % 64 < wait.length := by omega
  rw [← h.2, List.take_set, List.take_succ_eq_append_getElem hlt, List.set_append_right _ _ (by simp; omega)]
  simp [show min (m.length % 64) wait.length = m.length % 64 from by omega]
theorem WaitOk.more (h : WaitOk wait m) (hm : (m.length + 1) % 64 ≠ 0) : WaitOk (wait.set (m.length % 64) c) (m ++ [c]) ∧ stateOf (m ++ [c]) = stateOf m := by
  have hq : (m.length + 1) / 64 = m.length / 64 := by omega
  have hr : (m.length + 1) % 64 = m.length % 64 + 1 := by omega
  have h64 : 64 * (m.length / 64) ≤ m.length := by omega
  refine ⟨⟨by simpa using h.1, ?_⟩, ?_⟩
  · rw [List.length_append, List.length_singleton, hr, h.step]
    simp only [restOf, List.length_append, List.length_singleton, hq]
    rw [List.drop_append_of_le_length h64]
  · simp only [stateOf, List.length_append, List.length_singleton, hq]
    exact absorb_append _ _ _ _ h64
theorem WaitOk.full (h : WaitOk wait m) (hm : (m.length + 1) % 64 = 0) : WaitOk (wait.set (m.length % 64) c) (m ++ [c]) ∧ stateOf (m ++ [c]) = compress (stateOf m) (wait.set (m.length % 64) c) := by
  have hq : (m.length + 1) / 64 = m.length / 64 + 1 := by omega
  have h63 : m.length % 64 + 1 = 64 := by omega
  have h64 : 64 * (m.length / 64) ≤ m.length := by omega
  have hw : wait.set (m.length % 64) c = restOf m ++ [c] := by
    have := h.step (c := c)
    rw [h63, List.take_of_length_le (by simp [h.1])] at this
    exact this
  refine ⟨⟨by simpa using h.1, ?_⟩, ?_⟩
  · rw [List.length_append, List.length_singleton, hm]
    simp only [restOf, List.length_append, List.length_singleton, hq, List.take_zero]
    rw [List.drop_eq_nil_of_le (by simp; omega)]
  · simp only [stateOf, List.length_append, List.length_singleton, hq]
    rw [absorb_succ, absorb_append _ _ _ _ h64, hw, List.drop_append_of_le_length h64]
    rw [List.take_of_length_le (by simp; omega)]
    rfl
end

/-- A number's eight bytes, the highest first. -/
def eightBytes (n : BitVec 64) : List (BitVec 8) := (List.range 8).map fun i => (n >>> (56 - 8 * i)).setWidth 8
theorem eightBytes_length (n : BitVec 64) : (eightBytes n).length = 8 := by simp [eightBytes]
theorem eightBytes_take (n : BitVec 64) (j : Nat) (hj : j < 8) : (eightBytes n).take (j + 1) = (eightBytes n).take j ++ [(n >>> (56 - 8 * j)).setWidth 8] := by
  rw [List.take_succ_eq_append_getElem (by rw [eightBytes_length]; exact hj)]
  simp [eightBytes]
theorem shl_three (x : BitVec 64) : x <<< 3 = 8 * x := by
  apply BitVec.eq_of_toNat_eq
  simp [BitVec.toNat_shiftLeft, BitVec.toNat_mul, Nat.shiftLeft_eq, Nat.mul_comm]
/-- How many zeros are laid behind. -/
def padZ (n : Nat) : Nat := (119 - n % 64) % 64
/-- What is laid behind a message. -/
def padTail (n : Nat) : List (BitVec 8) := [128#8] ++ List.replicate (padZ n) 0 ++ eightBytes (8 * BitVec.ofNat 64 n)
theorem padTail_length (n : Nat) : (n + (padTail n).length) % 64 = 0 ∧ (padTail n).length ≤ 72 := by
  simp [padTail, eightBytes_length, padZ]; omega
def pad (m : List (BitVec 8)) : List (BitVec 8) := m ++ padTail m.length

/-- The 32 bytes of eight numbers. -/
def digestBytes (s : Eight) : List (BitVec 8) := (List.range 32).map fun i => ((s.list.getD (i / 4) 0) >>> (24 - 8 * (i % 4))).setWidth 8
theorem digestBytes_length (s : Eight) : (digestBytes s).length = 32 := by simp [digestBytes]

/-- The digest of bytes. -/
def sha (m : List (BitVec 8)) : List (BitVec 8) := digestBytes (absorb ((pad m).length / 64) shaBegin (pad m))
theorem sha_length (m : List (BitVec 8)) : (sha m).length = 32 := digestBytes_length _

theorem pad_drop (m : List (BitVec 8)) : (pad m).drop (64 * (m.length / 64)) = restOf m ++ padTail m.length := by
  unfold pad restOf
  rw [List.drop_append_of_le_length (by omega)]
theorem sha_rest (m : List (BitVec 8)) : sha m = digestBytes (absorb ((restOf m ++ padTail m.length).length / 64) (stateOf m) (restOf m ++ padTail m.length)) := by
  have hp : (pad m).length / 64 = m.length / 64 + (restOf m ++ padTail m.length).length / 64 := by
    have := padTail_length m.length
    simp only [pad, List.length_append, restOf_length]
    omega
  unfold sha
  rw [hp, absorb_add, pad_drop]
  unfold stateOf
  rw [show absorb (m.length / 64) shaBegin (pad m) = absorb (m.length / 64) shaBegin m from absorb_append _ _ _ _ (by omega)]

end Go.Proofs.YtglcingpolpkdaaDoor
