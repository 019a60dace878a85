/- The kit's little functions on bytes. -/
import Derived.Laws.IdiomStrings
import Derived.Laws.BytesArg
import Derived.Laws.CopyOwn
import Derived.Deep.OwnRows
import Derived.Deep.RegionHeld3
import Derived.Deep.DeepCutAuto
import Derived.Deep.CutBlock
import Derived.Test.YtmmlpbepaefamaaGRowX2
import Derived.Test.YtmmlpbepaefamaaMemX6
namespace Go.Proofs.Ytmmlpbepaefamaa
open Go.RowKit

theorem SliceIs.cells {w : World} {sl : Value} {ys : List (BitVec 8)} (h : SliceIs w sl ys) : ∃ sp c, sl = .slice sp ys.length c ∧ (0 < ys.length → ∃ ad, sp = some ad ∧ ∀ j v, (ys.map vu8)[j]? = some v → w.cell? (ad.add j) = some v) := by
  rcases h with ⟨rfl, rfl | ⟨ad, c, rfl⟩⟩ | ⟨b, o, c, rfl, _, hb⟩
  · exact ⟨none, 0, rfl, fun h => by simp at h⟩
  · exact ⟨some ad, c, rfl, fun h => by simp at h⟩
  · refine ⟨_, c, rfl, fun _ => ⟨_, rfl, fun j v hv => ?_⟩⟩
    rw [List.getElem?_map] at hv
    rw [Addr.add_lit]
    cases hj : ys[j]? with
    | none => simp [hj] at hv
    | some y =>
      simp [hj] at hv
      rw [← hv]
      exact hb j y hj

/-- A text out of bytes. -/
def textOf (ys : List (BitVec 8)) : ByteArray := ⟨(ys.map UInt8.ofBitVec).toArray⟩
theorem textOf_toList (ys : List (BitVec 8)) : (textOf ys).data.toList = ys.map UInt8.ofBitVec := by simp [textOf]
theorem textOf_eq (xs ys : List (BitVec 8)) : ((textOf xs).toList == (textOf ys).toList) = decide (xs = ys) := by
  rw [Bool.eq_iff_iff]
  simp only [beq_iff_eq, decide_eq_true_eq]
  constructor
  · intro h
    have h2 : (textOf xs).data.toList = (textOf ys).data.toList := by
      rw [ByteArray.toList_eq, ByteArray.toList_eq] at h
      exact h
    rw [textOf_toList, textOf_toList] at h2
    exact (List.map_inj_right (fun a b h => by cases h; rfl)).1 h2
  · rintro rfl
    rfl

theorem run_convert_slice (w : World) (sl : Value) (ys : List (BitVec 8)) (h : SliceIs w sl ys) : (convert 34 9 sl).run Try.prog w = .ok (.string (textOf ys)) w := by
  have hs : Try.prog.underlying 34 = some (.slice 5) := Try.underlying34
  have he : Try.prog.underlying 5 = some (.int .u8) := Try.underlying5
  have hd : Try.prog.underlying 9 = some .string := Try.underlying9
  have hback : ∀ ad c, (∀ j v, (ys.map vu8)[j]? = some v → w.cell? (ad.add j) = some v) → (convert 34 9 (.slice (some ad) ys.length c)).run Try.prog w = .ok (.string (textOf ys)) w := fun ad c hc => by
    have := run_convert_bytes_back (P := Try.prog) w _ _ _ ad c (ys.map UInt8.ofBitVec) hs he hd (fun j hj => by
      simp at hj
      rw [hc j (vu8 ys[j]) (by simp [hj])]
      simp [vu8])
    simpa [textOf] using this
  rcases h with ⟨rfl, rfl | ⟨ad, c, rfl⟩⟩ | ⟨b, o, c, rfl, hl, hb⟩
  · rw [run_convert_bytes_nil w _ _ hs he _ _ _ hd]
    rfl
  · exact hback ad c (fun j v hv => by simp at hv)
  · refine hback _ c fun j v hv => ?_
    obtain ⟨sp, c', he, hc⟩ := SliceIs.cells (.inr ⟨b, o, c, rfl, hl, hb⟩ : SliceIs w (.slice (some ⟨b, o, none⟩) ys.length c) ys)
    cases he
    obtain ⟨ad, e, hc⟩ := hc (by
      have := (List.getElem?_eq_some_iff.1 hv).1
      simp at this
      omega)
    cases e
    exact hc j v hv

theorem same_calls (w : World) (s t : Value) (xs ys : List (BitVec 8)) (hs : SliceIs w s xs) (ht : SliceIs w t ys) :
    Calls Try.prog 24 #[s, t] w fun e w' => e = .returned (.bool (decide (xs = ys))) ∧ w = w' := by
  have h1 := run_convert_slice w s xs hs
  have h2 := run_convert_slice w t ys ht
  go_enter Try.func24, Try.ntmps24
  go_wp2
  go_ret
  simp [textOf_eq]

theorem copy_calls (w : World) (sl : Value) (bs : List (BitVec 8)) (hs : SliceIs w sl bs) (hsz : bs.length ≤ 1099511627776) :
    Calls Try.prog 33 #[sl] w fun e w' => ∃ v, e = .returned v ∧ Own w' w.heap.size v bs ∧ Below w.heap.size w w' := by
  have hm : Own (w.alloc (.cells #[] 5)) w.heap.size (.slice (some ⟨w.heap.size, 0, none⟩) 0 0) [] := World.ownsRow_made w #[] 0 (Nat.le_refl _) (by simp [maxLen]) (by simp)
  have hs1 : SliceIs (w.alloc (.cells #[] 5)) sl bs := hs.low ((Below.refl _ _).alloc (Nat.le_refl _) _)
  have hB1 : Below w.heap.size w (w.alloc (.cells #[] 5)) := (Below.refl _ _).alloc (Nat.le_refl _) _
  go_enter Try.func33, Try.ntmps33
  go_wp2_with (first | (refine wpList_append_bytes (by rfl) (.tmp 3) (.tmp 4) (by rfl) w.heap.size _ [] (by rfl) hm _ bs (by rfl) hs1 (by simp; omega) (by simp) ?_; intro v2 w2 hO2 hG2) | fail)
  go_ret
  exact ⟨_, rfl, by simpa using hO2, hB1.grown hG2 hB1.size hm.high⟩

/-- A byte of a row is written over. -/
theorem Own.poke {w : World} {B g c n i : Nat} {l : List (BitVec 8)} (h : Own w B (.slice (some ⟨g, 0, none⟩) n c) l) (hi : i < l.length) (y : BitVec 8) :
    w.cell? ⟨g, i, none⟩ = some (vu8 (l.getD i 0)) ∧ w.frozen? ⟨g, i, none⟩ = false ∧ Own (w.setCell ⟨g, i, none⟩ (vu8 y)) B (.slice (some ⟨g, 0, none⟩) n c) (l.set i y) := by
  obtain ⟨h0, h1⟩ := h
  rcases h1 with ⟨he, _⟩ | ⟨g2, cap, cur, he, hb, hg, hle, hm, hsz, hcur⟩
  · cases he
  · injection he with h1 h2 h3
    injection h1 with h1
    injection h1 with h1
    subst h1 h2 h3
    rw [Nat.mul_one] at hcur hsz
    have hW : Whole w g 5 cur.toList := by unfold Whole; simpa using hg
    have hl : cur.toList.length = c := by simpa using hsz
    have hci : cur.toList[i]? = some (vu8 (l.getD i 0)) := by
      have : (cur.toList.take l.length)[i]? = some (vu8 (l.getD i 0)) := by rw [hcur]; simp [List.getElem?_eq_getElem hi]
      rw [List.getElem?_take, if_pos hi] at this
      exact this
    refine ⟨hW.cell_of hci, hW.free i, by simp, .inr ⟨g, c, (cur.toList.set i (vu8 y)).toArray, by simp, hb, by simpa [Whole] using hW.put i (vu8 y), by simpa using hle, hm, by simpa using hsz, ?_⟩⟩
    simp only [List.length_set, Nat.mul_one, List.map_set]
    rw [← hcur]
    apply List.ext_getElem?
    intro j
    simp only [List.getElem?_take, List.getElem?_set, List.length_take, hl]
    by_cases hj : j < l.length
    · by_cases hij : i = j
      · subst hij
        rw [if_pos hj, if_pos rfl, if_pos rfl, if_pos (by omega), if_pos (by omega)]
      · rw [if_pos hj, if_neg hij, if_neg hij, if_pos hj]
    · rw [if_neg hj]
      by_cases hij : i = j
      · subst hij
        omega
      · rw [if_neg hij, if_neg hj]

end Go.Proofs.Ytmmlpbepaefamaa

/- Bytes that are lent, kept, written over. -/
namespace Go.Proofs.Ytmmlpbepaefamaa
open Go.RowKit

/-- The bytes that lie behind lent ones. -/
def lentTail (n : Nat) : List (BitVec 8) := (List.range 3).map fun j => BitVec.ofInt 8 (160 + ((n + j) % 90 : Nat))
theorem lentTail_length (n : Nat) : (lentTail n).length = 3 := by simp [lentTail]

/-- Lent bytes: they lie at the head of a block of their own, three more behind them. -/
def LentAt (w : World) (g : Nat) (bs : List (BitVec 8)) : Prop := Whole w g 5 ((bs ++ lentTail bs.length).map vu8)
section
variable {w w' : World} {g : Nat} {bs : List (BitVec 8)}
theorem LentAt.lt (h : LentAt w g bs) : g < w.heap.size := Whole.lt h
theorem LentAt.low (h : LentAt w g bs) (hb : Below w.heap.size w w') : LentAt w' g bs := Whole.below h hb h.lt
theorem LentAt.grown {row : Option Nat} (h : LentAt w g bs) (hg : w.grownBy w' row) (hr : some g ≠ row) : LentAt w' g bs := Whole.grown h hg hr
theorem LentAt.bytes (h : LentAt w g bs) : BytesAt w g 0 (bs ++ lentTail bs.length) :=
  BytesAt.of_whole (pre := []) (post := []) (by simpa [LentAt] using h) rfl
theorem LentAt.slice (h : LentAt w g bs) : SliceIs w ((.slice (some ⟨g, 0, none⟩) bs.length (bs.length + 3))) bs := .inr ⟨g, 0, _, rfl, h.lt, by
  have := h.bytes.take bs.length
  simpa using this⟩
theorem LentAt.all (h : LentAt w g bs) : SliceIs w (.slice (some ⟨g, 0, none⟩) (bs.length + 3) (bs.length + 3)) (bs ++ lentTail bs.length) := .inr ⟨g, 0, bs.length + 3, by simp [lentTail_length], h.lt, h.bytes⟩
end

theorem zeroNums_succ (k : IntKind) (n : Nat) : zeroNums k (n + 1) = .int k 0 :: zeroNums k n := rfl

/-- The row while bytes are being lent: j of the three behind are there. -/
def lentRow (bs : List (BitVec 8)) (j : Nat) : List Value := (bs ++ (lentTail bs.length).take j).map vu8 ++ zeroNums .u8 (3 - j)
theorem lentRow_length (bs : List (BitVec 8)) (j : Nat) (hj : j ≤ 3) : (lentRow bs j).length = bs.length + 3 := by
  simp [lentRow, lentTail_length, zeroNums]; omega
theorem lentRow_next (bs : List (BitVec 8)) (j m : Nat) (hj : j < 3) (hm : (bs.length + j) % 90 = m) : (lentRow bs j).set (bs.length + j) (vu8 (BitVec.ofInt 8 (160 + m))) = lentRow bs (j + 1) := by
  subst hm
  have hl : (lentTail bs.length).length = 3 := lentTail_length _
  unfold lentRow
  rw [List.take_succ_eq_append_getElem (by omega), List.set_append_right _ _ (by simp; omega), ← List.append_assoc, List.map_append (l₂ := [_]), List.append_assoc]
  congr 1
  rw [List.length_map, List.length_append, List.length_take, show bs.length + j - (bs.length + min j (lentTail bs.length).length) = 0 from by omega, show 3 - j = (3 - (j + 1)) + 1 from by omega]
  rw [zeroNums_succ, List.set_cons_zero]
  simp [lentTail]
theorem lentRow_all (bs : List (BitVec 8)) : lentRow bs 3 = (bs ++ lentTail bs.length).map vu8 := by
  simp [lentRow, zeroNums, List.take_of_length_le, lentTail_length]
theorem lentRow_first (bs : List (BitVec 8)) : splice (zeroNums .u8 (bs.length + 3)) 0 (bs.map vu8) = lentRow bs 0 := by
  simp [splice, lentRow, zeroNums]

theorem all_one_u8 (l : List (BitVec 8)) : ∀ v ∈ l.map vu8, v.oneCell' = true := one_u8 l

set_option maxRecDepth 100000 in
set_option maxHeartbeats 1000000 in
theorem lent_calls (w : World) (sl : Value) (bs : List (BitVec 8)) (hs : SliceIs w sl bs) (hsz : bs.length ≤ 1099511627776) :
    Calls Try.prog 51 #[sl] w fun e w' => ∃ g, e = .returned ((.slice (some ⟨g, 0, none⟩) bs.length (bs.length + 3))) ∧ w.heap.size ≤ g ∧ LentAt w' g bs ∧ Below w.heap.size w w' := by
  obtain ⟨sp, c, rfl, hcs⟩ := hs.cells
  obtain ⟨i0, hi, hz0, hz1, hz2⟩ := info_u8
  have w0 : IntKind.i64.wrap ((bs.length : Int) + 3) = (bs.length : Int) + 3 := IntWalk.i64_in _ (by omega)
  have hzr : (madeCells #[.int .u8 0] (bs.length + 3)) = (zeroNums .u8 (bs.length + 3)).toArray := by
    apply Array.toList_inj.1
    rw [toList_madeCells_one]
    simp [zeroNums]
  go_enter Try.func51, Try.ntmps51
  go_upto_region 2 with (refine wpList_make_row _ (by rfl) _ _ _ (by rfl) 5 i0 (.int .u8 0) Try.underlying34 hi hz0 hz1 (by rfl) .i64 .i64 (bs.length + 3) (by rfl) (by rfl) (by rw [hz2]; omega) (by omega) ?_)
  have hr1 := Whole.new w 5 (zeroNums .u8 (bs.length + 3)).toArray
  have hB1 : Below w.heap.size w (w.alloc (.cells (zeroNums .u8 (bs.length + 3)).toArray 5)) := (Below.refl _ _).alloc (Nat.le_refl _) _
  have hs1 := hs.low hB1
  obtain ⟨sp', c', he', hcs1⟩ := hs1.cells
  cases he'
  have hzz : w.heap.size < (w.alloc (.cells (zeroNums .u8 (bs.length + 3)).toArray 5)).heap.size := by simp
  generalize (w.alloc (.cells (zeroNums .u8 (bs.length + 3)).toArray 5)) = w2 at *
  clear hzr hs hcs
  obtain ⟨H, hH⟩ : ∃ H, w.heap.size = H := ⟨_, rfl⟩
  rw [hH] at hr1 hzz hB1 ⊢
  obtain ⟨n, hn⟩ : ∃ n, bs.length = n := ⟨_, rfl⟩
  have hcl : (bs.map vu8).length = n := by simp [hn]
  have hfirst := lentRow_first bs
  rw [hn] at hr1 hcs1 hsz w0 hfirst ⊢
  have hn' := Lib.hid hn
  have hH' := Lib.hid hH
  clear hH hn hs1
  generalize hX : bs.map vu8 = X at *
  have hX1 : ∀ v ∈ X, v.oneCell' = true := by rw [← hX]; exact one_u8 bs
  clear hX
  go_upto_region 3 with (refine wpList_copy_splice (o := ⟨some 11, _, _, _, _, _⟩) (by rfl) (.tmp 9) (.tmp 10) 34 34 (by rfl) 5 Try.underlying34 (by rw [hi]; simp [hz1]) _ _ _ _ _ _ (by rfl) (by rfl) H 0 (zeroNums .u8 (n + 3)) 5 hr1 X (by rw [hcl]; exact (Nat.min_eq_left (by omega)).symm) (fun h => ⟨rfl, hcs1 (by omega)⟩) (by simp [zeroNums, hcl]) hX1 H w hB1 (Nat.le_refl _) ?_; intro w3 hg3 hB3)
  have hg3' : Whole w3 H 5 (lentRow bs 0) := by
    have := hg3.out
    rw [hfirst] at this
    exact this
  clear hg3 hfirst hr1 hcs1 hB1 hX1 hcl
  go_wp2
  go_loopw [4] (fun i wr => ∃ j t : Nat, j ≤ 3 ∧ t = n + j ∧ i = .int .i64 t ∧ Whole wr H 5 (lentRow bs j) ∧ Below H w wr) (fun i _ => n + 3 - (intOf i).toNat)
  case atStart => exact ⟨0, n, by omega, rfl, rfl, hg3', hB3⟩
  case round =>
    obtain ⟨j, t, hj, ht, rfl, hR, hB⟩ := hrel
    by_cases hlt : j < 3
    · obtain ⟨m, hm⟩ : ∃ m, t % 90 = m := ⟨_, rfl⟩
      have i1 : (t : Int) < (n : Int) + 3 := by omega
      have i2 : 0 ≤ (t : Int) ∧ (t : Int) < (n : Int) + 3 := by omega
      have d1 : Int.tmod (t : Int) 90 = (m : Int) := by rw [Int.tmod_eq_emod_of_nonneg (by omega)]; omega
      have b0 : IntKind.i64.wrap (m : Int) = (m : Int) := IntWalk.i64_in _ (by omega)
      have b1 : IntKind.i64.wrap (160 + (m : Int)) = 160 + (m : Int) := IntWalk.i64_in _ (by omega)
      have b2 : IntKind.i64.wrap ((t : Int) + 1) = (t : Int) + 1 := IntWalk.i64_in _ (by omega)
      have hnx := lentRow_next bs j m hlt (by rw [hn'.out, ← ht]; exact hm)
      have hl := lentRow_length bs j hj
      have hfree := hR.free t
      have c0 := hR.cell_of (List.getElem?_eq_getElem (show t < (lentRow bs j).length by rw [hl, hn'.out]; omega))
      generalize (lentRow bs j)[t]'_ = d at c0
      have HR := Lib.hid hR
      have HN := Lib.hid hnx
      have HT := Lib.hid ht
      clear hR hnx hl ht hm
      go_wp2
      go_roundw
      case rel =>
        have hR := HR.out.put t (vu8 (BitVec.ofInt 8 (160 + (m : Int))))
        have ht := HT.out
        have hnx := HN.out
        rw [hn'.out, ← ht] at hnx
        rw [hnx] at hR
        exact ⟨j + 1, t + 1, by omega, by omega, by go_num, hR, hB.setCell (Nat.le_refl H) _⟩
      case measure => simp [intOf]; omega
    · obtain rfl : j = 3 := by omega
      rw [lentRow_all] at hR
      go_wp2
      go_ret
      refine ⟨H, by simp [hn'.out], by rw [hH'.out]; exact Nat.le_refl _, hR, by rw [hH'.out]; exact hB⟩

set_option maxRecDepth 100000 in
set_option maxHeartbeats 1000000 in
theorem kept_calls (w : World) (g : Nat) (sl : Value) (bs : List (BitVec 8)) (hl : LentAt w g bs) (hs : SliceIs w sl bs) (hsz : bs.length ≤ 1099511627776) :
    Calls Try.prog 53 #[(.slice (some ⟨g, 0, none⟩) bs.length (bs.length + 3)), sl] w fun e w' => e = .returned (.bool true) ∧ Below w.heap.size w w' := by
  obtain ⟨sp, c, rfl, hcs⟩ := hs.cells
  go_enter Try.func53, Try.ntmps53
  have e1 : (bs.length : Int) + 3 = ((bs.length + 3 : Nat) : Int) := by omega
  obtain ⟨n, hn⟩ : ∃ n, bs.length = n := ⟨_, rfl⟩
  have hall := hl.all
  rw [hn] at hall hsz ⊢
  have w0 : IntKind.i64.wrap ((n : Int) + 3) = (n : Int) + 3 := IntWalk.i64_in _ (by omega)
  have b0 : (0 : Int) ≤ (n : Int) + 3 := by omega
  have b1 : ((n : Int) + 3).toNat = n + 3 := by omega
  have hn' := Lib.hid hn
  have hc' := Lib.hid hs
  clear hs hn hcs e1
  go_upto_region 1 with (fail)
  go_region_held3 (fun _ => True) (trivial) (first
    | ((go_at_call 51; refine (lent_calls _ _ bs (by have h := hc'.out; rw [hn'.out] at h; exact h) (by rw [hn'.out]; exact hsz)).mono ?_; rintro e w1 ⟨g1, rfl, hg1, hl1, hB1⟩; rw [hn'.out]))
    | ((go_at_call 24; refine (same_calls _ _ _ _ _ ((show SliceIs w.drew _ _ from hall).low hB1) (by have h := hl1.all; rw [hn'.out] at h; exact h)).mono ?_; rintro e w2 ⟨rfl, rfl⟩)))
  all_goals
    go_wp2
    go_ret
    exact ⟨rfl, (show Below w.heap.size w w.drew from (Below.refl _ _).drew).trans hB1⟩

/-- A block that is being written over. -/
def overRow (ys : List (BitVec 8)) (j : Nat) : List (BitVec 8) := (ys.take j).map (· ^^^ 90#8) ++ ys.drop j
theorem overRow_length (ys : List (BitVec 8)) (j : Nat) : (overRow ys j).length = ys.length := by
  simp [overRow]; omega
theorem overRow_at (ys : List (BitVec 8)) (j : Nat) (hj : j < ys.length) : (overRow ys j)[j]? = some ys[j] := by
  unfold overRow
  rw [List.getElem?_append_right (by simp; omega)]
  simp [show min j ys.length = j from by omega, List.getElem?_eq_getElem hj]
theorem overRow_next (ys : List (BitVec 8)) (j : Nat) (hj : j < ys.length) : (overRow ys j).set j (ys[j] ^^^ 90#8) = overRow ys (j + 1) := by
  unfold overRow
  rw [List.take_succ_eq_append_getElem hj, List.set_append_right _ _ (by simp; omega), List.map_append, List.append_assoc]
  congr 1
  rw [show j - (List.map (· ^^^ 90#8) (ys.take j)).length = 0 from by simp; omega, List.drop_eq_getElem_cons hj]
  rfl

set_option maxRecDepth 100000 in
set_option maxHeartbeats 1000000 in
theorem over_calls (w : World) (g n c : Nat) (ys : List (BitVec 8)) (hW : Whole w g 5 (ys.map vu8)) (hn : n ≤ c) (hc : ys.length = c) (hsz : c ≤ 1099511627776) :
    Calls Try.prog 54 #[.slice (some ⟨g, 0, none⟩) n c] w fun e w' => e = .returned (.tuple #[]) ∧ Whole w' g 5 ((ys.map (· ^^^ 90#8)).map vu8) ∧ w.grownBy w' (some g) := by
  have hc' := Lib.hid hc
  clear hc
  go_enter Try.func54, Try.ntmps54
  go_wp2
  go_loopw [3] (fun i wr => ∃ j : Nat, j ≤ c ∧ i = .int .i64 j ∧ Whole wr g 5 ((overRow ys j).map vu8) ∧ w.grownBy wr (some g)) (fun i _ => c - (intOf i).toNat)
  case atStart => exact ⟨0, by omega, rfl, by simpa [overRow] using hW, World.grownBy.refl _ _⟩
  case round =>
    obtain ⟨j, hj, rfl, hR, hG⟩ := hrel
    by_cases hlt : j < c
    · have hjy : j < ys.length := by rw [hc'.out]; exact hlt
      have i1 : (j : Int) < (c : Int) := by omega
      have i2 : 0 ≤ (j : Int) ∧ (j : Int) < (c : Int) := by omega
      have b2 : IntKind.i64.wrap ((j : Int) + 1) = (j : Int) + 1 := IntWalk.i64_in _ (by omega)
      obtain ⟨y, hy⟩ : ∃ y, ys[j] = y := ⟨_, rfl⟩
      have c0 : wr.cell? ⟨g, j, none⟩ = some (vu8 y) := hR.cell_of (by rw [List.getElem?_map, overRow_at ys j hjy, hy]; rfl)
      have hfree := hR.free j
      have hnx := overRow_next ys j hjy
      rw [hy] at hnx
      have HN := Lib.hid hnx
      have HR := Lib.hid hR
      clear hnx hR hy hjy
      go_wp2
      go_roundw
      case rel =>
        have hR := HR.out.put j (vu8 (y ^^^ 90#8))
        rw [← List.map_set, HN.out] at hR
        exact ⟨j + 1, by omega, by go_num, hR, grown_set hG (.inl rfl) _⟩
      case measure => simp [intOf]; omega
    · obtain rfl : j = c := by omega
      have : overRow ys j = ys.map (· ^^^ 90#8) := by
        unfold overRow
        rw [List.take_of_length_le (by rw [hc'.out]; omega), List.drop_eq_nil_of_le (by rw [hc'.out]; omega)]
        simp
      rw [this] at hR
      go_wp2
      go_end0
      exact ⟨rfl, hR, hG⟩

end Go.Proofs.Ytmmlpbepaefamaa

