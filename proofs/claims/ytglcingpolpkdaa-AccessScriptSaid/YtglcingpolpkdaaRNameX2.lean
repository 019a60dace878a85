/- The reference's letters and names, and texts in a list. -/
import Derived.Test.YtglcingpolpkdaaABookMore
namespace Go.Proofs.Ytglcingpolpkdaa
open Go.RowKit

theorem idx_s {s : ByteArray} {k n : Nat} {c : UInt8} (h : s.data.toList[k]? = some c) (hn : c.toNat = n) (w : World) : (Instr.index 9 (.string s) (.int .i64 k)).run Try.prog w = .ok (.int .u8 (n : Int)) w := by
  have hk : k < s.data.toList.length := (List.getElem?_eq_some_iff.1 h).1
  have hk' : k < s.size := by simpa using hk
  rw [run_index_string (P := Try.prog) w 9 s .i64 _ Try.underlying9, dif_pos (by omega)]
  have : (s[((k : Int)).toNat]'(by simpa using hk')) = c := by
    have hv := (List.getElem?_eq_some_iff.1 h).2
    rw [← hv]
    show s.data[k]'_ = _
    simp
  rw [this, hn]

set_option maxRecDepth 100000 in
set_option maxHeartbeats 1000000 in
theorem refletter_calls (w : World) (n : Nat) (hn : n < 256) : Calls Try.prog 111 #[.int .u8 n] w fun e w' => e = .returned (.bool (letterB n)) ∧ w' = w := by
  have hp : (97 ≤ n ∧ n ≤ 122) ∨ (97 ≤ n ∧ ¬ n ≤ 122) ∨ (¬ 97 ≤ n ∧ 48 ≤ n ∧ n ≤ 57) ∨ (¬ 97 ≤ n ∧ 48 ≤ n ∧ ¬ n ≤ 57 ∧ n = 95) ∨ (¬ 97 ≤ n ∧ 48 ≤ n ∧ ¬ n ≤ 57 ∧ n ≠ 95) ∨ (¬ 97 ≤ n ∧ ¬ 48 ≤ n ∧ n = 45) ∨ (¬ 97 ≤ n ∧ ¬ 48 ≤ n ∧ n ≠ 45) := by omega
  rcases hp with ⟨h1, h2⟩ | ⟨h1, h2⟩ | ⟨h1, h2, h3⟩ | ⟨h1, h2, h3, h4⟩ | ⟨h1, h2, h3, h4⟩ | ⟨h1, h2, h4⟩ | ⟨h1, h2, h4⟩
  · have hb : letterB n = true := by
      simp only [letterB, Bool.or_eq_true, Bool.and_eq_true, decide_eq_true_eq, beq_iff_eq]
      omega
    have f1 : (97 : Int) ≤ (n : Int) := by omega
    have f2 : (n : Int) ≤ 122 := by omega
    go_enter Try.func111, Try.ntmps111
    go_wp2
    go_ret
    exact ⟨by first | rfl | (rw [hb]; rfl), rfl⟩
  · have hb : letterB n = false := by
      simp only [letterB, Bool.or_eq_false_iff, Bool.and_eq_false_iff, decide_eq_false_iff_not, beq_eq_false_iff_ne, ne_eq]
      omega
    have f1 : (97 : Int) ≤ (n : Int) := by omega
    have f2 : ¬ (n : Int) ≤ 122 := by omega
    have f3 : (48 : Int) ≤ (n : Int) := by omega
    have f4 : ¬ (n : Int) ≤ 57 := by omega
    have f5 : ((n : Int) == 45) = false := by simp; omega
    have f6 : ((n : Int) == 95) = false := by simp; omega
    go_enter Try.func111, Try.ntmps111
    go_wp2
    go_ret
    exact ⟨by first | rfl | (rw [hb]; rfl), rfl⟩
  · have hb : letterB n = true := by
      simp only [letterB, Bool.or_eq_true, Bool.and_eq_true, decide_eq_true_eq, beq_iff_eq]
      omega
    have f1 : ¬ (97 : Int) ≤ (n : Int) := by omega
    have f3 : (48 : Int) ≤ (n : Int) := by omega
    have f4 : (n : Int) ≤ 57 := by omega
    go_enter Try.func111, Try.ntmps111
    go_wp2
    go_ret
    exact ⟨by first | rfl | (rw [hb]; rfl), rfl⟩
  · subst h4
    have hb : letterB 95 = true := rfl
    go_enter Try.func111, Try.ntmps111
    go_wp2
    go_ret
    exact ⟨by first | rfl | (rw [hb]; rfl), rfl⟩
  · have hb : letterB n = false := by
      simp only [letterB, Bool.or_eq_false_iff, Bool.and_eq_false_iff, decide_eq_false_iff_not, beq_eq_false_iff_ne, ne_eq]
      omega
    have f1 : ¬ (97 : Int) ≤ (n : Int) := by omega
    have f3 : (48 : Int) ≤ (n : Int) := by omega
    have f4 : ¬ (n : Int) ≤ 57 := by omega
    have f5 : ((n : Int) == 45) = false := by simp; omega
    have f6 : ((n : Int) == 95) = false := by simp; omega
    go_enter Try.func111, Try.ntmps111
    go_wp2
    go_ret
    exact ⟨by first | rfl | (rw [hb]; rfl), rfl⟩
  · subst h4
    have hb : letterB 45 = true := rfl
    go_enter Try.func111, Try.ntmps111
    go_wp2
    go_ret
    exact ⟨by first | rfl | (rw [hb]; rfl), rfl⟩
  · have hb : letterB n = false := by
      simp only [letterB, Bool.or_eq_false_iff, Bool.and_eq_false_iff, decide_eq_false_iff_not, beq_eq_false_iff_ne, ne_eq]
      omega
    have f1 : ¬ (97 : Int) ≤ (n : Int) := by omega
    have f3 : ¬ (48 : Int) ≤ (n : Int) := by omega
    have f5 : ((n : Int) == 45) = false := by simp; omega
    have f6 : ((n : Int) == 95) = false := by simp; omega
    go_enter Try.func111, Try.ntmps111
    go_wp2
    go_ret
    exact ⟨by first | rfl | (rw [hb]; rfl), rfl⟩

set_option maxRecDepth 100000 in
set_option maxHeartbeats 1000000 in
theorem refletters_calls (w : World) (s : ByteArray) (hs : s.size ≤ 4611686018427387904) : Calls Try.prog 109 #[.string s] w fun e w' => e = .returned (.bool (lettersB s)) ∧ w' = w := by
  obtain ⟨N, hN⟩ : ∃ N, s.size = N := ⟨_, rfl⟩
  have HN := Lib.hid hN
  rw [hN] at hs
  go_enter Try.func109, Try.ntmps109
  go_wp2
  go_loopw [3] (fun i wr => ∃ k : Nat, k ≤ N ∧ i = .int .i64 k ∧ LetK s k ∧ wr = w) (fun i _ => N - (intOf i).toNat)
  case atStart => exact ⟨0, by omega, rfl, fun j c hj => by omega, rfl⟩
  case round =>
    obtain ⟨k, hk, rfl, hok, hwr⟩ := hrel
    subst hwr
    by_cases hlt : k < N
    · have hk2 : k < s.data.toList.length := by rw [← HN.out] at hlt; simpa using hlt
      obtain ⟨c, hc⟩ : ∃ c, s.data.toList[k]? = some c := ⟨_, List.getElem?_eq_getElem hk2⟩
      obtain ⟨n, hn⟩ : ∃ n, c.toNat = n := ⟨_, rfl⟩
      have hn256 : n < 256 := hn ▸ UInt8.toNat_lt c
      have x1 := idx_s hc hn
      have i1 : (k : Int) < (N : Int) := by omega
      have s2 : IntKind.i64.wrap ((k : Int) + 1) = (k : Int) + 1 := IntWalk.i64_in _ (by omega)
      obtain ⟨b, hb⟩ : ∃ b, letterB n = b := ⟨_, rfl⟩
      have HL := Lib.hid (hb ▸ refletter_calls wr n hn256)
      have HB := Lib.hid hb
      have HC := Lib.hid (show ∃ c, s.data.toList[k]? = some c ∧ c.toNat = n from ⟨c, hc, hn⟩)
      clear hb hc hn
      cases b
      · go_wp2_with (go_at_call 111; refine HL.out.mono ?_; rintro e w' ⟨rfl, hw⟩; rw [hw]; clear hw)
        go_ret
        exact ⟨by rw [letters_bad HC.out HB.out]; rfl, rfl⟩
      · go_wp2_with (go_at_call 111; refine HL.out.mono ?_; rintro e w' ⟨rfl, hw⟩; rw [hw]; clear hw)
        go_roundw
        case rel => exact ⟨k + 1, by omega, by go_num, letters_next hok HC.out HB.out, trivial⟩
        case measure => simp [intOf]; omega
    · obtain rfl : k = N := by omega
      have i1 : ¬ (k : Int) < (k : Int) := by omega
      have ha := letters_all hok HN.out.symm
      go_wp2
      go_ret
      exact ⟨by first | rfl | (rw [ha]; rfl), rfl⟩

set_option maxRecDepth 100000 in
set_option maxHeartbeats 1000000 in
theorem refname_calls (w : World) (s : ByteArray) : Calls Try.prog 92 #[.string s] w fun e w' => e = .returned (.bool (nameB s)) ∧ w' = w := by
  unfold nameB
  by_cases h1 : 1 ≤ s.size
  · have i1 : (1 : Int) ≤ (s.size : Int) := by omega
    by_cases h2 : s.size ≤ 64
    · have i2 : (s.size : Int) ≤ 64 := by omega
      have HL := Lib.hid (refletters_calls w s (by omega))
      go_enter Try.func92, Try.ntmps92
      go_wp2_with (go_at_call 109; refine HL.out.mono ?_; rintro e w' ⟨rfl, hw⟩; rw [hw]; clear hw)
      go_ret
      refine ⟨?_, rfl⟩
      show Ending.returned (.bool _) = _
      simp [*]
    · have i2 : ¬ (s.size : Int) ≤ 64 := by omega
      go_enter Try.func92, Try.ntmps92
      go_wp2
      go_ret
      refine ⟨?_, rfl⟩
      show Ending.returned (.bool _) = _
      simp [*]
  · have i1 : ¬ (1 : Int) ≤ (s.size : Int) := by omega
    go_enter Try.func92, Try.ntmps92
    go_wp2
    go_ret
    refine ⟨?_, rfl⟩
    show Ending.returned (.bool _) = _
    simp [*]

theorem contains_take {l : List ByteArray} {k : Nat} {x y : ByteArray} (hp : l[k]? = some y) (h : ∀ j z, j < k → l[j]? = some z → ¬ z = x) (hne : ¬ y = x) : ∀ j z, j < k + 1 → l[j]? = some z → ¬ z = x := fun j z hj hz => by
  by_cases hjk : j = k
  · subst hjk
    rw [hp] at hz
    injection hz with hz
    exact hz ▸ hne
  · exact h j z (by omega) hz

set_option maxRecDepth 100000 in
set_option maxHeartbeats 1000000 in
theorem refin_calls (w : World) (v : Value) (l : List ByteArray) (x : ByteArray) (h : TextsAt w v l) (hl : l.length ≤ 1000) : Calls Try.prog 110 #[v, .string x] w fun e w' => e = .returned (.bool (Lib.containsS l x)) ∧ w' = w := by
  obtain ⟨N, hN⟩ : ∃ N, l.length = N := ⟨_, rfl⟩
  obtain ⟨p, c, hv⟩ : ∃ p c, v = .slice p N c := by
    rcases h with ⟨a, c, rfl, rfl⟩ | ⟨b, off, c, rfl, _, _⟩
    · exact ⟨a, c, by rw [← hN]; rfl⟩
    · exact ⟨_, c, by rw [hN]⟩
  subst hv
  rw [hN] at hl
  have HN := Lib.hid hN
  have HT := Lib.hid h
  clear hN h
  go_enter Try.func110, Try.ntmps110
  go_wp2
  go_loopw [5] (fun i wr => ∃ k : Nat, k ≤ N ∧ i = .int .i64 k ∧ (∀ (j : Nat) z, j < k → l[j]? = some z → ¬ z = x) ∧ wr = w) (fun i _ => N - (intOf i).toNat)
  case atStart => exact ⟨0, by omega, rfl, fun j z hj => absurd hj (Nat.not_lt_zero _), rfl⟩
  case round =>
    obtain ⟨k, hk, rfl, hno, hwr⟩ := hrel
    subst hwr
    by_cases hlt : k < N
    · obtain ⟨y, hy⟩ : ∃ y, l[k]? = some y := ⟨_, List.getElem?_eq_getElem (by rw [HN.out]; exact hlt)⟩
      obtain ⟨b, off, rfl, c0⟩ : ∃ b off, p = some ⟨b, off, none⟩ ∧ wr.cell? ⟨b, off + k, none⟩ = some (.string y) := by
        rcases HT.out with ⟨a, c, he, rfl⟩ | ⟨b, off, c, he, _, hc⟩
        · simp at hy
        · injection he with he _ _
          refine ⟨b, off, he, ?_⟩
          rw [hc k (by rw [HN.out]; exact hlt), List.getD_eq_getElem?_getD, hy]
          rfl
      have i1 : (k : Int) < (N : Int) := by omega
      have i2 : 0 ≤ (k : Int) ∧ (k : Int) < (N : Int) := by omega
      have s2 : IntKind.i64.wrap ((k : Int) + 1) = (k : Int) + 1 := IntWalk.i64_in _ (by omega)
      by_cases he : y.toList = x.toList
      · have hin : Lib.containsS l x = true := (Lib.containsS_iff l x).2 (ba_eq he ▸ List.mem_of_getElem? hy)
        have he2 : (y.toList == x.toList) = true := by simpa using he
        clear he
        go_wp2
        go_ret
        exact ⟨by first | rfl | (rw [hin]; rfl), rfl⟩
      · have HX := Lib.hid (contains_take hy hno (fun e => he (by rw [e])))
        have he2 : (y.toList == x.toList) = false := by simpa using he
        clear he
        go_wp2
        go_roundw
        case rel => exact ⟨k + 1, by omega, by go_num, HX.out, trivial⟩
        case measure => simp [intOf]; omega
    · obtain rfl : k = N := by omega
      have i1 : ¬ (k : Int) < (k : Int) := by omega
      have hin : Lib.containsS l x = false := by
        cases hq : Lib.containsS l x with
        | false => rfl
        | true =>
          obtain ⟨j, hj⟩ := List.mem_iff_getElem?.1 ((Lib.containsS_iff l x).1 hq)
          exact absurd rfl (hno j x (by have := (List.getElem?_eq_some_iff.1 hj).1; rw [HN.out] at this; exact this) hj)
      go_wp2
      go_ret
      exact ⟨by first | rfl | (rw [hin]; rfl), rfl⟩

end Go.Proofs.Ytglcingpolpkdaa

/- The reference's book in memory; at, member, rule. -/
namespace Go.Proofs.Ytglcingpolpkdaa
open Go.RowKit

/-- A tenant of the reference: its name, its members' row, its rules' row. -/
def tenCells (x : ByteArray × Value × Value) : List Value := [.string x.1, x.2.1, x.2.2]
def OwnN (w : World) (B : Nat) (v : Value) (l : List (ByteArray × ByteArray)) : Prop := w.ownsRow B 144 2 v l.length (l.flatMap memCells)
def OwnT (w : World) (B : Nat) (v : Value) (xs : List (ByteArray × Value × Value)) : Prop := w.ownsRow B 141 3 v xs.length (xs.flatMap tenCells)
/-- The reference's book: its list of tenants, and each tenant's two lists. -/
structure RefBook (W w : World) (m : Nat) (lv : Value) (xs : List (ByteArray × Value × Value)) (ts : List Tn) : Prop where
  book : Whole w m 56 [lv]
  row : OwnT w W.heap.size lv xs
  len : xs.length = ts.length
  each : ∀ (i : Nat) x t, xs[i]? = some x → ts[i]? = some t → x.1 = t.name ∧ OwnN w W.heap.size x.2.1 t.ms ∧ OwnR w W.heap.size x.2.2 t.rules
  gem : W.heap.size ≤ m
  below : Below W.heap.size W w
def RefIs (W w : World) (m : Nat) (ts : List Tn) : Prop := ∃ lv xs, RefBook W w m lv xs ts
theorem RefBook.on {W w w' : World} {m : Nat} {lv : Value} {xs : List (ByteArray × Value × Value)} {ts : List Tn} (h : RefBook W w m lv xs ts) (hb : Below w.heap.size w w') : RefBook W w' m lv xs ts :=
  ⟨h.book.below hb h.book.lt, row_low h.row hb, h.len, fun i x t hx ht => by
    obtain ⟨h1, h2, h3⟩ := h.each i x t hx ht
    exact ⟨h1, row_low h2 hb, row_low h3 hb⟩, h.gem, h.below.trans (hb.mono h.below.size)⟩
theorem RefIs.on {W w w' : World} {m : Nat} {ts : List Tn} (h : RefIs W w m ts) (hb : Below w.heap.size w w') : RefIs W w' m ts := by
  obtain ⟨lv, xs, h⟩ := h
  exact ⟨lv, xs, h.on hb⟩
theorem lenT (x : ByteArray × Value × Value) : (tenCells x).length = 3 := rfl

/-- The place of a tenant; -1: there is none. -/
def atT (ts : List Tn) (n : ByteArray) : Int := match getT ts n with | none => -1 | some (i, _) => i
theorem at_here : ∀ {ts : List Tn} {n : ByteArray} {k : Nat} {t : Tn}, ts[k]? = some t → t.name = n → (∀ j u, j < k → ts[j]? = some u → ¬ u.name = n) → getT ts n = some (k, t)
  | [], _, _, _, h, _, _ => by simp at h
  | s :: ts, n, 0, t, h, hn, _ => by
    have : s = t := by simpa using h
    subst this
    unfold getT
    rw [if_pos hn]
  | s :: ts, n, k + 1, t, h, hn, hno => by
    have ih := at_here (ts := ts) (k := k) (by simpa using h) hn (fun j u hj hu => hno (j + 1) u (by omega) (by simpa using hu))
    unfold getT
    rw [if_neg (hno 0 s (by omega) rfl), ih]
    rfl
theorem at_none : ∀ {ts : List Tn} {n : ByteArray}, (∀ j u, j < ts.length → ts[j]? = some u → ¬ u.name = n) → getT ts n = none
  | [], _, _ => rfl
  | s :: ts, n, h => by
    have ih := at_none (ts := ts) (n := n) (fun j u hj hu => h (j + 1) u (by simp; omega) (by simpa using hu))
    unfold getT
    rw [if_neg (h 0 s (by simp) rfl), ih]
    rfl

set_option maxRecDepth 100000 in
set_option maxHeartbeats 1000000 in
theorem refat_calls (W w : World) (m : Nat) (ts : List Tn) (n : ByteArray) (h : RefIs W w m ts) (hl : ts.length ≤ 1000) : Calls Try.prog 93 #[.pointer (some ⟨m, 0, none⟩), .string n] w fun e w' => e = .returned (.int .i64 (atT ts n)) ∧ w' = w := by
  obtain ⟨lv, xs, h⟩ := h
  obtain ⟨N, hN⟩ : ∃ N, ts.length = N := ⟨_, rfl⟩
  obtain ⟨p, c, hv⟩ := slice_of_row h.row
  rw [h.len, hN] at hv
  subst hv
  rw [hN] at hl
  have c0 := h.book.cell 0
  have HN := Lib.hid hN
  have HB := Lib.hid h
  clear hN h
  go_enter Try.func93, Try.ntmps93
  go_wp2
  go_loopw [5] (fun i wr => ∃ k : Nat, k ≤ N ∧ i = .int .i64 k ∧ (∀ j u, j < k → ts[j]? = some u → ¬ u.name = n) ∧ wr = w) (fun i _ => N - (intOf i).toNat)
  case atStart => exact ⟨0, by omega, rfl, fun j u hj => absurd hj (Nat.not_lt_zero _), rfl⟩
  case round =>
    obtain ⟨k, hk, rfl, hno, hwr⟩ := hrel
    subst hwr
    by_cases hlt : k < N
    · obtain ⟨t, ht⟩ : ∃ t, ts[k]? = some t := ⟨_, List.getElem?_eq_getElem (by rw [HN.out]; exact hlt)⟩
      obtain ⟨x, hx⟩ : ∃ x, xs[k]? = some x := ⟨_, List.getElem?_eq_getElem (by rw [HB.out.len, HN.out]; exact hlt)⟩
      obtain ⟨g, rfl, hrng⟩ := own_at (p := p) (k := N) (c := c) lenT (by have := HB.out.row; rwa [OwnT] at this) hx
      have hname := (HB.out.each k x t hx ht).1
      have d0 : wr.cell? ⟨g, k * 3, none⟩ = some (.string x.1) := hrng 0 _ rfl
      rw [hname] at d0
      have i1 : (k : Int) < (N : Int) := by omega
      have i2 : 0 ≤ (k : Int) ∧ (k : Int) < (N : Int) := by omega
      have s2 : IntKind.i64.wrap ((k : Int) + 1) = (k : Int) + 1 := IntWalk.i64_in _ (by omega)
      clear hx hname hrng
      by_cases he : t.name = n
      · have hat : atT ts n = k := by
          unfold atT
          rw [at_here ht he hno]
        have he2 : (t.name.toList == n.toList) = true := by rw [he]; simp
        clear he
        go_wp2
        go_ret
        exact ⟨by first | rfl | (rw [hat]; rfl), rfl⟩
      · have he2 : (t.name.toList == n.toList) = false := by
          rw [beq_eq_false_iff_ne]
          exact fun e => he (ba_eq e)
        have HNX := Lib.hid (show ∀ j u, j < k + 1 → ts[j]? = some u → ¬ u.name = n from fun j u hj hu => by
          by_cases hjk : j = k
          · subst hjk
            rw [ht] at hu
            injection hu with hu
            exact hu ▸ he
          · exact hno j u (by omega) hu)
        clear he hno
        go_wp2
        go_roundw
        case rel => exact ⟨k + 1, by omega, by go_num, HNX.out, trivial⟩
        case measure => simp [intOf]; omega
    · obtain rfl : k = N := by omega
      have i1 : ¬ (k : Int) < (k : Int) := by omega
      have hat : atT ts n = -1 := by
        unfold atT
        rw [at_none (fun j u hj hu => hno j u (by rw [HN.out] at hj; exact hj) hu)]
      go_wp2
      go_ret
      exact ⟨by first | rfl | (rw [hat]; rfl), rfl⟩

end Go.Proofs.Ytglcingpolpkdaa
