/- access.letters and access.Name: what they compute. -/
import Derived.Test.YtglcingpolpkdaaShelf
import Derived.Test.YtglcingpolpkdaaShape
import Derived.OwnWalk
import Derived.WalkMore
import Derived.Laws.IdiomStrings
namespace Go.Proofs.Ytglcingpolpkdaa
open Go.RowKit

/-- May a byte be in a name? -/
def letterB (n : Nat) : Bool := (decide (97 ≤ n) && decide (n ≤ 122)) || (decide (48 ≤ n) && decide (n ≤ 57)) || n == 45 || n == 95
def lettersB (s : ByteArray) : Bool := s.data.toList.all fun c => letterB c.toNat
def nameB (s : ByteArray) : Bool := decide (1 ≤ s.size) && decide (s.size ≤ 64) && lettersB s

/-- The first k bytes may be. -/
def LetK (s : ByteArray) (k : Nat) : Prop := ∀ j c, j < k → s.data.toList[j]? = some c → letterB c.toNat = true
theorem letters_next {s : ByteArray} {k n : Nat} (h : LetK s k) (hn : ∃ c, s.data.toList[k]? = some c ∧ c.toNat = n) (hb : letterB n = true) : LetK s (k + 1) := fun j c hj hc => by
  obtain ⟨d, hd, rfl⟩ := hn
  by_cases hjk : j = k
  · subst hjk
    rw [hd] at hc
    cases hc
    exact hb
  · exact h j c (by omega) hc
theorem letters_bad {s : ByteArray} {k n : Nat} (hn : ∃ c, s.data.toList[k]? = some c ∧ c.toNat = n) (hb : letterB n = false) : lettersB s = false := by
  obtain ⟨d, hd, rfl⟩ := hn
  unfold lettersB
  rw [List.all_eq_false]
  exact ⟨d, List.mem_of_getElem? hd, by simp [hb]⟩
theorem letters_all {s : ByteArray} {k : Nat} (h : LetK s k) (hk : k = s.size) : lettersB s = true := by
  unfold lettersB
  rw [List.all_eq_true]
  intro c hc
  obtain ⟨j, hj, rfl⟩ := List.getElem_of_mem hc
  exact h j _ (by rw [hk]; simpa using hj) (List.getElem?_eq_getElem hj)

theorem bytes_cell (s : ByteArray) (c k : Nat) (hk : k < s.size) : ∃ n : Nat, n < 256 ∧ (bytesRow s c)[k]? = some (.int .u8 (n : Int)) ∧ ∃ b, s.data.toList[k]? = some b ∧ b.toNat = n := by
  have hk' : k < s.data.size := hk
  refine ⟨(s.data[k]).toNat, UInt8.toNat_lt _, ?_, s.data[k], by simp, rfl⟩
  unfold bytesRow
  rw [Array.getElem?_append_left (by simpa using hk'), Array.getElem?_map, Array.getElem?_eq_getElem hk']
  rfl

set_option maxRecDepth 100000 in
set_option maxHeartbeats 1000000 in
theorem letters_calls (w : World) (s : ByteArray) (hs : s.size ≤ 4611686018427387904) : Calls Try.prog 84 #[.string s] w fun e w' => e = .returned (.bool (lettersB s)) ∧ Below w.heap.size w w' := by
  obtain ⟨N, hN⟩ : ∃ N, s.size = N := ⟨_, rfl⟩
  have hcv := run_bytes_of_string w 9 58 5 s Try.underlying9 Try.underlying58 Try.underlying5
  rw [hN] at hcv
  have hcell : ∀ k, k < N → ∃ n : Nat, n < 256 ∧ (w.drew.alloc (.cells (bytesRow s (grownCap w N 0 5)) 5 ((bytesRow s (grownCap w N 0 5)).size, (bytesRow s (grownCap w N 0 5)).size + 1))).cell? ⟨w.heap.size, k, none⟩ = some (.int .u8 (n : Int)) ∧ ∃ b, s.data.toList[k]? = some b ∧ b.toNat = n := fun k hk => by
    obtain ⟨n, h1, h2, h3⟩ := bytes_cell s (grownCap w N 0 5) k (by omega)
    refine ⟨n, h1, ?_, h3⟩
    rw [cell_of_row _ w.heap.size k _ 5 _ (heap_alloc_new w.drew _)]
    exact h2
  have hB : Below w.heap.size w (w.drew.alloc (.cells (bytesRow s (grownCap w N 0 5)) 5 ((bytesRow s (grownCap w N 0 5)).size, (bytesRow s (grownCap w N 0 5)).size + 1))) := (Below.refl _ _).drew.alloc (Nat.le_refl _) _
  generalize (w.drew.alloc (.cells (bytesRow s (grownCap w N 0 5)) 5 ((bytesRow s (grownCap w N 0 5)).size, (bytesRow s (grownCap w N 0 5)).size + 1))) = w2 at hcv hcell hB
  generalize grownCap w N 0 5 = cap at hcv
  have HC := Lib.hid hcell
  have HN := Lib.hid hN
  clear hcell
  rw [hN] at hs
  clear hN
  go_enter Try.func84, Try.ntmps84
  go_wp2
  clear hcv
  go_loopw [8] (fun i wr => ∃ k : Nat, k ≤ N ∧ i = .int .i64 k ∧ LetK s k ∧ wr = w2) (fun i _ => N - (intOf i).toNat)
  case atStart => exact ⟨0, by omega, rfl, fun j c hj => by omega, rfl⟩
  case round =>
    obtain ⟨k, hk, rfl, hok, hwr⟩ := hrel
    subst hwr
    by_cases hlt : k < N
    · have i1 : (k : Int) < (N : Int) := by omega
      have i2 : 0 ≤ (k : Int) ∧ (k : Int) < (N : Int) := by omega
      have s2 : IntKind.i64.wrap ((k : Int) + 1) = (k : Int) + 1 := IntWalk.i64_in _ (by omega)
      obtain ⟨n, hn256, hc, hn⟩ := HC.out k hlt
      have hp : (¬ (n : Int) < 97 ∧ ¬ 122 < (n : Int)) ∨ ((n : Int) < 97 ∧ ¬ (n : Int) < 48 ∧ ¬ 57 < (n : Int)) ∨ ((n : Int) < 97 ∧ (n : Int) < 48 ∧ (n : Int) = 45) ∨ ((n : Int) < 97 ∧ (n : Int) < 48 ∧ ¬ (n : Int) = 45 ∧ ¬ (n : Int) = 95) ∨ ((n : Int) < 97 ∧ ¬ (n : Int) < 48 ∧ 57 < (n : Int) ∧ ¬ (n : Int) = 45 ∧ (n : Int) = 95) ∨ ((n : Int) < 97 ∧ ¬ (n : Int) < 48 ∧ 57 < (n : Int) ∧ ¬ (n : Int) = 45 ∧ ¬ (n : Int) = 95) ∨ (¬ (n : Int) < 97 ∧ 122 < (n : Int) ∧ ¬ (n : Int) < 48 ∧ 57 < (n : Int) ∧ ¬ (n : Int) = 45 ∧ ¬ (n : Int) = 95) := by omega
      rcases hp with hp | hp | hp | hp | hp | hp | hp
      · obtain ⟨f0, f1⟩ := hp
        have hb : letterB n = true := by
          simp only [letterB, Bool.or_eq_true, Bool.and_eq_true, decide_eq_true_eq, beq_iff_eq]
          omega
        go_wp2
        go_roundw
        case rel => exact ⟨k + 1, by omega, by go_num, letters_next hok hn hb, trivial⟩
        case measure => simp [intOf]; omega
      · obtain ⟨f0, f1, f2⟩ := hp
        have hb : letterB n = true := by
          simp only [letterB, Bool.or_eq_true, Bool.and_eq_true, decide_eq_true_eq, beq_iff_eq]
          omega
        go_wp2
        go_roundw
        case rel => exact ⟨k + 1, by omega, by go_num, letters_next hok hn hb, trivial⟩
        case measure => simp [intOf]; omega
      · obtain ⟨f0, f1, f2⟩ := hp
        have hb : letterB n = true := by
          simp only [letterB, Bool.or_eq_true, Bool.and_eq_true, decide_eq_true_eq, beq_iff_eq]
          omega
        have e45 : ((n : Int) != 45) = false := by simp [f2]
        clear f2
        go_wp2
        go_roundw
        case rel => exact ⟨k + 1, by omega, by go_num, letters_next hok hn hb, trivial⟩
        case measure => simp [intOf]; omega
      · obtain ⟨f0, f1, f2, f3⟩ := hp
        have hb : letterB n = false := by
          simp only [letterB, Bool.or_eq_false_iff, Bool.and_eq_false_iff, decide_eq_false_iff_not, beq_eq_false_iff_ne, ne_eq]
          omega
        have e45 : ((n : Int) != 45) = true := by simp [f2]
        clear f2
        have e95 : ((n : Int) != 95) = true := by simp [f3]
        clear f3
        go_wp2
        go_ret
        exact ⟨by rw [letters_bad hn hb]; rfl, hB⟩
      · obtain ⟨f0, f1, f2, f3, f4⟩ := hp
        have hb : letterB n = true := by
          simp only [letterB, Bool.or_eq_true, Bool.and_eq_true, decide_eq_true_eq, beq_iff_eq]
          omega
        have e45 : ((n : Int) != 45) = true := by simp [f3]
        clear f3
        have e95 : ((n : Int) != 95) = false := by simp [f4]
        clear f4
        go_wp2
        go_roundw
        case rel => exact ⟨k + 1, by omega, by go_num, letters_next hok hn hb, trivial⟩
        case measure => simp [intOf]; omega
      · obtain ⟨f0, f1, f2, f3, f4⟩ := hp
        have hb : letterB n = false := by
          simp only [letterB, Bool.or_eq_false_iff, Bool.and_eq_false_iff, decide_eq_false_iff_not, beq_eq_false_iff_ne, ne_eq]
          omega
        have e45 : ((n : Int) != 45) = true := by simp [f3]
        clear f3
        have e95 : ((n : Int) != 95) = true := by simp [f4]
        clear f4
        go_wp2
        go_ret
        exact ⟨by rw [letters_bad hn hb]; rfl, hB⟩
      · obtain ⟨f0, f1, f2, f3, f4, f5⟩ := hp
        have hb : letterB n = false := by
          simp only [letterB, Bool.or_eq_false_iff, Bool.and_eq_false_iff, decide_eq_false_iff_not, beq_eq_false_iff_ne, ne_eq]
          omega
        have e45 : ((n : Int) != 45) = true := by simp [f4]
        clear f4
        have e95 : ((n : Int) != 95) = true := by simp [f5]
        clear f5
        go_wp2
        go_ret
        exact ⟨by rw [letters_bad hn hb]; rfl, hB⟩
    · obtain rfl : k = N := by omega
      have hx := letters_all hok HN.out.symm
      go_wp2
      go_ret
      exact ⟨by rw [hx]; rfl, hB⟩

set_option maxHeartbeats 400000 in
theorem name_calls (w : World) (s : ByteArray) : Calls Try.prog 43 #[.string s] w fun e w' => e = .returned (.bool (nameB s)) ∧ Below w.heap.size w w' := by
  by_cases h1 : 1 ≤ s.size
  · by_cases h2 : s.size ≤ 64
    · have i1 : (1 : Int) ≤ (s.size : Int) := by omega
      have i2 : (s.size : Int) ≤ 64 := by omega
      have hr : nameB s = lettersB s := by simp [nameB, h1, h2]
      rw [hr]
      have hs : s.size ≤ 4611686018427387904 := by omega
      clear hr h1 h2
      go_enter Try.func43, Try.ntmps43
      go_wp2_with (go_at_call 84; refine (letters_calls _ _ hs).mono ?_; rintro e w1 ⟨rfl, hB1⟩)
      go_ret
      exact ⟨rfl, hB1⟩
    · have i1 : (1 : Int) ≤ (s.size : Int) := by omega
      have i2 : ¬ (s.size : Int) ≤ 64 := by omega
      have hr : nameB s = false := by simp [nameB, h2]
      rw [hr]
      clear hr h1 h2
      go_enter Try.func43, Try.ntmps43
      go_wp2
      go_ret
      exact ⟨rfl, Below.refl _ _⟩
  · have i1 : ¬ (1 : Int) ≤ (s.size : Int) := by omega
    have hr : nameB s = false := by simp [nameB, h1]
    rw [hr]
    clear hr h1
    go_enter Try.func43, Try.ntmps43
    go_wp2
    go_ret
    exact ⟨rfl, Below.refl _ _⟩

end Go.Proofs.Ytglcingpolpkdaa
