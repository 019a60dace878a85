/- access.letters and access.Name: what they compute. -/
import Derived.OwnWalk
import Derived.WalkMore
import Derived.Laws.IdiomStrings
import Derived.Test.YtglcingpolpkdaaMemX2
import Derived.Test.YtglcingpolpkdaaShelf
namespace Go.Proofs.Ytglcingpolpkdaa
open Go.RowKit

/-- May a byte be in a name? -/
def letterB (n : Nat) : Bool := (decide (97 ≤ n) && decide (n ≤ 122)) || (decide (48 ≤ n) && decide (n ≤ 57)) || n == 45 || n == 95
def lettersB (s : ByteArray) : Bool := s.data.toList.all fun c => letterB c.toNat
def nameB (s : ByteArray) : Bool := decide (1 ≤ s.size) && decide (s.size ≤ 64) && lettersB s

/-- The first k bytes may be. -/
def LetK (s : ByteArray) (k : Nat) : Prop := ∀ j c, j < k → s.data.toList[j]? = some c → letterB c.toNat = true
theorem letters_next {s : ByteArray} {k n : Nat} (h : LetK s k) (hn : ∃ c, s.data.toList[k]? = some c ∧ c.toNat = n) (hb : letterB n = true) : LetK s (k + 1) := fun j c hj hc => by
  obtain ⟨d, hd, rfl⟩ := hn
  by_cases hjk : j = k
  · subst hjk
    rw [hd] at hc
    cases hc
    exact hb
  · exact h j c (by omega) hc
theorem letters_bad {s : ByteArray} {k n : Nat} (hn : ∃ c, s.data.toList[k]? = some c ∧ c.toNat = n) (hb : letterB n = false) : lettersB s = false := by
  obtain ⟨d, hd, rfl⟩ := hn
  unfold lettersB
  rw [List.all_eq_false]
  exact ⟨d, List.mem_of_getElem? hd, by simp [hb]⟩
theorem letters_all {s : ByteArray} {k : Nat} (h : LetK s k) (hk : k = s.size) : lettersB s = true := by
  unfold lettersB
  rw [List.all_eq_true]
  intro c hc
  obtain ⟨j, hj, rfl⟩ := List.getElem_of_mem hc
  exact h j _ (by rw [hk]; simpa using hj) (List.getElem?_eq_getElem hj)

theorem bytes_cell (s : ByteArray) (c k : Nat) (hk : k < s.size) : ∃ n : Nat, n < 256 ∧ (bytesRow s c)[k]? = some (.int .u8 (n : Int)) ∧ ∃ b, s.data.toList[k]? = some b ∧ b.toNat = n := by
  have hk' : k < s.data.size := hk
  refine ⟨(s.data[k]).toNat, UInt8.toNat_lt _, ?_, s.data[k], by simp, rfl⟩
  unfold bytesRow
  rw [Array.getElem?_append_left (by simpa using hk'), Array.getElem?_map, Array.getElem?_eq_getElem hk']
  rfl

set_option maxRecDepth 100000 in
set_option maxHeartbeats 1000000 in
theorem letters_calls (w : World) (s : ByteArray) (hs : s.size ≤ 4611686018427387904) : Calls Try.prog 84 #[.string s] w fun e w' => e = .returned (.bool (lettersB s)) ∧ Below w.heap.size w w' := by
  obtain ⟨N, hN⟩ : ∃ N, s.size = N := ⟨_, rfl⟩
  have hcv := run_bytes_of_string w 9 58 5 s Try.underlying9 Try.underlying58 Try.underlying5
  rw [hN] at hcv
  have hcell : ∀ k, k < N → ∃ n : Nat, n < 256 ∧ (w.drew.alloc (.cells (bytesRow s (grownCap w N 0 5)) 5 ((bytesRow s (grownCap w N 0 5)).size, (bytesRow s (grownCap w N 0 5)).size + 1))).cell? ⟨w.heap.size, k, none⟩ = some (.int .u8 (n : Int)) ∧ ∃ b, s.data.toList[k]? = some b ∧ b.toNat = n := fun k hk => by
    obtain ⟨n, h1, h2, h3⟩ := bytes_cell s (grownCap w N 0 5) k (by omega)
    refine ⟨n, h1, ?_, h3⟩
    rw [cell_of_row _ w.heap.size k _ 5 _ (heap_alloc_new w.drew _)]
    exact h2
  have hB : Below w.heap.size w (w.drew.alloc (.cells (bytesRow s (grownCap w N 0 5)) 5 ((bytesRow s (grownCap w N 0 5)).size, (bytesRow s (grownCap w N 0 5)).size + 1))) := (Below.refl _ _).drew.alloc (Nat.le_refl _) _
  generalize (w.drew.alloc (.cells (bytesRow s (grownCap w N 0 5)) 5 ((bytesRow s (grownCap w N 0 5)).size, (bytesRow s (grownCap w N 0 5)).size + 1))) = w2 at hcv hcell hB
  generalize grownCap w N 0 5 = cap at hcv
  have HC := Lib.hid hcell
  have HN := Lib.hid hN
  clear hcell
  rw [hN] at hs
  clear hN
  go_enter Try.func84, Try.ntmps84
  go_wp2
  clear hcv
  go_loopw [8] (fun i wr => ∃ k : Nat, k ≤ N ∧ i = .int .i64 k ∧ LetK s k ∧ wr = w2) (fun i _ => N - (intOf i).toNat)
  case atStart => exact ⟨0, by omega, rfl, fun j c hj => by omega, rfl⟩
  case round =>
    obtain ⟨k, hk, rfl, hok, hwr⟩ := hrel
    subst hwr
    by_cases hlt : k < N
    · have i1 : (k : Int) < (N : Int) := by omega
      have i2 : 0 ≤ (k : Int) ∧ (k : Int) < (N : Int) := by omega
      have s2 : IntKind.i64.wrap ((k : Int) + 1) = (k : Int) + 1 := IntWalk.i64_in _ (by omega)
      obtain ⟨n, hn256, hc, hn⟩ := HC.out k hlt
      have hp : (¬ (n : Int) < 97 ∧ ¬ 122 < (n : Int)) ∨ ((n : Int) < 97 ∧ ¬ (n : Int) < 48 ∧ ¬ 57 < (n : Int)) ∨ ((n : Int) < 97 ∧ (n : Int) < 48 ∧ (n : Int) = 45) ∨ ((n : Int) < 97 ∧ (n : Int) < 48 ∧ ¬ (n : Int) = 45 ∧ ¬ (n : Int) = 95) ∨ ((n : Int) < 97 ∧ ¬ (n : Int) < 48 ∧ 57 < (n : Int) ∧ ¬ (n : Int) = 45 ∧ (n : Int) = 95) ∨ ((n : Int) < 97 ∧ ¬ (n : Int) < 48 ∧ 57 < (n : Int) ∧ ¬ (n : Int) = 45 ∧ ¬ (n : Int) = 95) ∨ (¬ (n : Int) < 97 ∧ 122 < (n : Int) ∧ ¬ (n : Int) < 48 ∧ 57 < (n : Int) ∧ ¬ (n : Int) = 45 ∧ ¬ (n : Int) = 95) := by omega
      rcases hp with hp | hp | hp | hp | hp | hp | hp
      · obtain ⟨f0, f1⟩ := hp
        have hb : letterB n = true := by
          simp only [letterB, Bool.or_eq_true, Bool.and_eq_true, decide_eq_true_eq, beq_iff_eq]
          omega
        go_wp2
        go_roundw
        case rel => exact ⟨k + 1, by omega, by go_num, letters_next hok hn hb, trivial⟩
        case measure => simp [intOf]; omega
      · obtain ⟨f0, f1, f2⟩ := hp
        have hb : letterB n = true := by
          simp only [letterB, Bool.or_eq_true, Bool.and_eq_true, decide_eq_true_eq, beq_iff_eq]
          omega
        go_wp2
        go_roundw
        case rel => exact ⟨k + 1, by omega, by go_num, letters_next hok hn hb, trivial⟩
        case measure => simp [intOf]; omega
      · obtain ⟨f0, f1, f2⟩ := hp
        have hb : letterB n = true := by
          simp only [letterB, Bool.or_eq_true, Bool.and_eq_true, decide_eq_true_eq, beq_iff_eq]
          omega
        have e45 : ((n : Int) != 45) = false := by simp [f2]
        clear f2
        go_wp2
        go_roundw
        case rel => exact ⟨k + 1, by omega, by go_num, letters_next hok hn hb, trivial⟩
        case measure => simp [intOf]; omega
      · obtain ⟨f0, f1, f2, f3⟩ := hp
        have hb : letterB n = false := by
          simp only [letterB, Bool.or_eq_false_iff, Bool.and_eq_false_iff, decide_eq_false_iff_not, beq_eq_false_iff_ne, ne_eq]
          omega
        have e45 : ((n : Int) != 45) = true := by simp [f2]
        clear f2
        have e95 : ((n : Int) != 95) = true := by simp [f3]
        clear f3
        go_wp2
        go_ret
        exact ⟨by rw [letters_bad hn hb]; rfl, hB⟩
      · obtain ⟨f0, f1, f2, f3, f4⟩ := hp
        have hb : letterB n = true := by
          simp only [letterB, Bool.or_eq_true, Bool.and_eq_true, decide_eq_true_eq, beq_iff_eq]
          omega
        have e45 : ((n : Int) != 45) = true := by simp [f3]
        clear f3
        have e95 : ((n : Int) != 95) = false := by simp [f4]
        clear f4
        go_wp2
        go_roundw
        case rel => exact ⟨k + 1, by omega, by go_num, letters_next hok hn hb, trivial⟩
        case measure => simp [intOf]; omega
      · obtain ⟨f0, f1, f2, f3, f4⟩ := hp
        have hb : letterB n = false := by
          simp only [letterB, Bool.or_eq_false_iff, Bool.and_eq_false_iff, decide_eq_false_iff_not, beq_eq_false_iff_ne, ne_eq]
          omega
        have e45 : ((n : Int) != 45) = true := by simp [f3]
        clear f3
        have e95 : ((n : Int) != 95) = true := by simp [f4]
        clear f4
        go_wp2
        go_ret
        exact ⟨by rw [letters_bad hn hb]; rfl, hB⟩
      · obtain ⟨f0, f1, f2, f3, f4, f5⟩ := hp
        have hb : letterB n = false := by
          simp only [letterB, Bool.or_eq_false_iff, Bool.and_eq_false_iff, decide_eq_false_iff_not, beq_eq_false_iff_ne, ne_eq]
          omega
        have e45 : ((n : Int) != 45) = true := by simp [f4]
        clear f4
        have e95 : ((n : Int) != 95) = true := by simp [f5]
        clear f5
        go_wp2
        go_ret
        exact ⟨by rw [letters_bad hn hb]; rfl, hB⟩
    · obtain rfl : k = N := by omega
      have hx := letters_all hok HN.out.symm
      go_wp2
      go_ret
      exact ⟨by rw [hx]; rfl, hB⟩

set_option maxHeartbeats 400000 in
theorem name_calls (w : World) (s : ByteArray) : Calls Try.prog 43 #[.string s] w fun e w' => e = .returned (.bool (nameB s)) ∧ Below w.heap.size w w' := by
  by_cases h1 : 1 ≤ s.size
  · by_cases h2 : s.size ≤ 64
    · have i1 : (1 : Int) ≤ (s.size : Int) := by omega
      have i2 : (s.size : Int) ≤ 64 := by omega
      have hr : nameB s = lettersB s := by simp [nameB, h1, h2]
      rw [hr]
      have hs : s.size ≤ 4611686018427387904 := by omega
      clear hr h1 h2
      go_enter Try.func43, Try.ntmps43
      go_wp2_with (go_at_call 84; refine (letters_calls _ _ hs).mono ?_; rintro e w1 ⟨rfl, hB1⟩)
      go_ret
      exact ⟨rfl, hB1⟩
    · have i1 : (1 : Int) ≤ (s.size : Int) := by omega
      have i2 : ¬ (s.size : Int) ≤ 64 := by omega
      have hr : nameB s = false := by simp [nameB, h2]
      rw [hr]
      clear hr h1 h2
      go_enter Try.func43, Try.ntmps43
      go_wp2
      go_ret
      exact ⟨rfl, Below.refl _ _⟩
  · have i1 : ¬ (1 : Int) ≤ (s.size : Int) := by omega
    have hr : nameB s = false := by simp [nameB, h1]
    rw [hr]
    clear hr h1
    go_enter Try.func43, Try.ntmps43
    go_wp2
    go_ret
    exact ⟨rfl, Below.refl _ _⟩

end Go.Proofs.Ytglcingpolpkdaa

/- access.may and access.About: what they compute. -/
namespace Go.Proofs.Ytglcingpolpkdaa
open Go.RowKit

/-- A rule. -/
structure Rl where
  who : ByteArray
  what : Int
  key : ByteArray
  deny : Bool
def Rl.cells (r : Rl) : List Value := [.string r.who, .int .i64 r.what, .string r.key, .bool r.deny]
def Rl.val (r : Rl) : Value := .agg #[.string r.who, .int .i64 r.what, .string r.key, .bool r.deny]
/-- Are two texts the same? -/
def eqB (a b : ByteArray) : Bool := a.toList == b.toList
def tStar : ByteArray := ⟨#[42]⟩
def tAt : ByteArray := ⟨#[64]⟩
def behind (s p : ByteArray) : ByteArray := ⟨(Lib.trimPrefix s.data.toList p.data.toList).toArray⟩
def front (s p : ByteArray) : ByteArray := ⟨(Lib.trimSuffix s.data.toList p.data.toList).toArray⟩
def hasP (s p : ByteArray) : Bool := Lib.hasPrefix s.data.toList p.data.toList
def hasS (s p : ByteArray) : Bool := Lib.hasSuffix s.data.toList p.data.toList
def mayB (r : Rl) : Bool :=
  (eqB r.who tStar || (nameB r.who || (hasP r.who tAt && nameB (behind r.who tAt)))) && ((nameB r.key || (hasS r.key tStar && decide (r.key.size ≤ 64) && lettersB (front r.key tStar))) && (decide (0 ≤ r.what) && decide (r.what ≤ 7)))

/-- A rule lies in block B. -/
structure RuleAt (W w : World) (B : Nat) (who : ByteArray) (what : Int) (key : ByteArray) (deny : Bool) : Prop where
  cells : Whole w B 29 [.string who, .int .i64 what, .string key, .bool deny]
  below : Below W.heap.size W w
theorem RuleAt.on {W w w' : World} {B : Nat} {who key : ByteArray} {what : Int} {deny : Bool} (h : RuleAt W w B who what key deny) (hb : Below w.heap.size w w') : RuleAt W w' B who what key deny :=
  ⟨h.cells.below hb h.cells.lt, h.below.trans (hb.mono h.below.size)⟩
theorem RuleAt.three {W w : World} {B : Nat} {who key : ByteArray} {what : Int} {deny : Bool} (h : RuleAt W w B who what key deny) :
    w.cell? ⟨B, 0, none⟩ = some (.string who) ∧ w.cell? ⟨B, 1, none⟩ = some (.int .i64 what) ∧ w.cell? ⟨B, 2, none⟩ = some (.string key) := ⟨h.cells.cell 0, h.cells.cell 1, h.cells.cell 2⟩

theorem front_size (s p : ByteArray) (hs : s.size ≤ 64) : (front s p).size ≤ 4611686018427387904 := by
  have h1 : (front s p).size ≤ s.size := by
    unfold front Lib.trimSuffix
    split
    · show (List.take _ _).toArray.size ≤ s.data.size
      simp
    · show s.data.toList.toArray.size ≤ s.data.size
      simp
  omega

theorem star_list : tStar.toList = [42] := by kernel_rfl
theorem eqB_star (s : ByteArray) : eqB s tStar = decide (s.toList = [42]) := by
  unfold eqB
  rw [star_list, Bool.eq_iff_iff]
  simp

set_option maxRecDepth 100000 in
set_option maxHeartbeats 4000000 in
theorem may_calls (w : World) (who key : ByteArray) (what : Int) (deny : Bool) (hsz : key.size ≤ 9223372036854775807) : Calls Try.prog 44 #[.agg #[.string who, .int .i64 what, .string key, .bool deny]] w
    fun e w' => e = .returned (.bool (mayB ⟨who, what, key, deny⟩)) ∧ Below w.heap.size w w' := by
  have hR : RuleAt w (w.alloc (.cells #[.string who, .int .i64 what, .string key, .bool deny] 29)) w.heap.size who what key deny :=
    ⟨Whole.new w 29 #[.string who, .int .i64 what, .string key, .bool deny], (Below.refl _ _).alloc (Nat.le_refl _) _⟩
  have c1 := Lib.hid (fun w : World => strings_CutPrefix who tAt w)
  have c2 := Lib.hid (fun w : World => strings_CutSuffix key tStar w hsz)
  obtain ⟨p, hp⟩ : ∃ p, hasP who tAt = p := ⟨_, rfl⟩
  obtain ⟨q, hq⟩ : ∃ q, hasS key tStar = q := ⟨_, rfl⟩
  obtain ⟨role, hrole⟩ : ∃ s, behind who tAt = s := ⟨_, rfl⟩
  obtain ⟨fr, hfr⟩ : ∃ s, front key tStar = s := ⟨_, rfl⟩
  have hfs : key.size ≤ 64 → fr.size ≤ 4611686018427387904 := fun h => by rw [← hfr]; exact front_size _ _ h
  have C1 := Lib.hid (fun w : World => (show Calls Try.prog 47 #[.string who, .string ⟨#[64]⟩] w fun e w' => e = .returned (.tuple #[.string role, .bool p]) ∧ w' = w from by rw [← hp, ← hrole]; exact c1.out w))
  have C2 := Lib.hid (fun w : World => (show Calls Try.prog 48 #[.string key, .string ⟨#[42]⟩] w fun e w' => e = .returned (.tuple #[.string fr, .bool q]) ∧ w' = w from by rw [← hq, ← hfr]; exact c2.out w))
  have hm : mayB ⟨who, what, key, deny⟩ = ((eqB who tStar || (nameB who || (p && nameB role))) && ((nameB key || (q && decide (key.size ≤ 64) && lettersB fr)) && (decide (0 ≤ what) && decide (what ≤ 7)))) := by
    unfold mayB
    rw [← hp, ← hq, ← hrole, ← hfr]
  rw [hm, eqB_star]
  have HF := Lib.hid hfs
  clear c1 c2 hm hp hq hrole hfr hfs
  obtain ⟨r0, r1, r2⟩ := hR.three
  go_enter Try.func44, Try.ntmps44
  go_wp2_with (first
    | (refine wpList_box_cells (by rfl) 29 _ (by rfl) #[.string who, .int .i64 what, .string key, .bool deny] (by rfl) ?_; generalize (w.alloc (.cells #[.string who, .int .i64 what, .string key, .bool deny] 29)) = w0 at *)
    | (go_at_call 47; refine (C1.out _).mono ?_; rintro e w' ⟨rfl, rfl⟩)
    | (go_at_call 48; refine (C2.out _).mono ?_; rintro e w' ⟨rfl, rfl⟩)
    | (go_at_call 43; refine (name_calls _ _).mono ?_; rintro e w1 ⟨rfl, hB1⟩; have hR1 := RuleAt.on (by assumption) hB1; obtain ⟨r0, r1, r2⟩ := hR1.three)
    | (go_at_call 84; refine (letters_calls _ _ (HF.out (by omega))).mono ?_; rintro e w1 ⟨rfl, hB1⟩; have hR1 := RuleAt.on (by assumption) hB1; obtain ⟨r0, r1, r2⟩ := hR1.three))
  all_goals
    go_ret
    refine ⟨?_, RuleAt.below (by assumption)⟩
    show Ending.returned (.bool _) = Ending.returned (.bool _)
    clear C1 C2 HF
    first
      | (simp [*]; done)
      | (simp [*]; omega)

end Go.Proofs.Ytglcingpolpkdaa
