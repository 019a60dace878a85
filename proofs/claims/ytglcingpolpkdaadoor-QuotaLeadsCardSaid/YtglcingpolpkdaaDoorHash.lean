/- A hash: what New, Write, Len and Clone do. -/
import Derived.Test.YtglcingpolpkdaaDoorBlk
import Derived.Test.YtglcingpolpkdaaDoorNil
import Derived.Test.YtglcingpolpkdaaDoorOwn
import Derived.Test.YtglcingpolpkdaaDoorPad
namespace Go.Proofs.YtglcingpolpkdaaDoor
open Go.RowKit

/-- The cells of a hash. -/
def hashCells (s : Eight) (wait : List (BitVec 8)) (n : Nat) : List Value := s.list.map vu32 ++ wait.map vu8 ++ [.int .i64 n, .bool true]
theorem hashCells_length (s : Eight) (wait : List (BitVec 8)) (n : Nat) (h : wait.length = 64) : (hashCells s wait n).length = 74 := by simp [hashCells, Eight.list, h]
theorem hashCells_n (s : Eight) (wait : List (BitVec 8)) (n : Nat) (h : wait.length = 64) : (hashCells s wait n)[72]? = some (.int .i64 n) := by simp [hashCells, Eight.list, h]
theorem hashCells_made (s : Eight) (wait : List (BitVec 8)) (n : Nat) (h : wait.length = 64) : (hashCells s wait n)[73]? = some (.bool true) := by simp [hashCells, Eight.list, h]
theorem hashCells_set_n (s : Eight) (wait : List (BitVec 8)) (n k : Nat) (h : wait.length = 64) : (hashCells s wait n).set 72 (.int .i64 k) = hashCells s wait k := by
  unfold hashCells
  rw [List.set_append_right _ _ (by simp [Eight.list, h])]
  simp [Eight.list, h]
theorem hashCells_wait (s : Eight) (wait : List (BitVec 8)) (n i : Nat) (h : wait.length = 64) (hi : i < 64) : (hashCells s wait n)[8 + i]? = some (vu8 (wait.getD i 0)) := by
  unfold hashCells
  rw [List.getElem?_append_left (by simp [Eight.list, h]; omega), List.getElem?_append_right (by simp [Eight.list])]
  simp [Eight.list, List.getElem?_eq_getElem (show i < wait.length by omega)]
theorem hashCells_set_wait (s : Eight) (wait : List (BitVec 8)) (n i : Nat) (c : BitVec 8) (h : wait.length = 64) (hi : i < 64) : (hashCells s wait n).set (8 + i) (vu8 c) = hashCells s (wait.set i c) n := by
  unfold hashCells
  rw [List.set_append_left _ _ (by simp [Eight.list, h]; omega), List.set_append_right _ _ (by simp [Eight.list])]
  simp [Eight.list, List.map_set]

/-- Block h is a hash to which the bytes m have been written. -/
def HashIs (w : World) (h : Nat) (m : List (BitVec 8)) : Prop := ∃ wait, WaitOk wait m ∧ Whole w h 109 (hashCells (stateOf m) wait m.length)
section
variable {w w' : World} {h : Nat} {m : List (BitVec 8)}
theorem HashIs.drew (hh : HashIs w h m) : HashIs w.drew h m := hh
theorem HashIs.lt (hh : HashIs w h m) : h < w.heap.size := by
  obtain ⟨_, _, hw⟩ := hh
  exact hw.lt
theorem HashIs.grown {row : Option Nat} (hh : HashIs w h m) (hg : w.grownBy w' row) (hne : some h ≠ row) : HashIs w' h m := by
  obtain ⟨wait, hm, hw⟩ := hh
  exact ⟨wait, hm, hw.grown hg hne⟩
theorem HashIs.below {B : Nat} (hh : HashIs w h m) (hb : Below B w w') (hlt : h < B) : HashIs w' h m := by
  obtain ⟨wait, hm, hw⟩ := hh
  exact ⟨wait, hm, hw.below hb hlt⟩
theorem HashIs.made (hh : HashIs w h m) : w.cell? ⟨h, 73, none⟩ = some (.bool true) := by
  obtain ⟨wait, hm, hw⟩ := hh
  exact hw.cell_of (hashCells_made _ _ _ hm.1)
theorem HashIs.count (hh : HashIs w h m) : w.cell? ⟨h, 72, none⟩ = some (.int .i64 m.length) := by
  obtain ⟨wait, hm, hw⟩ := hh
  exact hw.cell_of (hashCells_n _ _ _ hm.1)
end

theorem begin_hash (w : World) : Calls Tryd.prog 44 #[] w fun e w' => e = .returned (.agg (shaBegin.list.map vu32).toArray) ∧ Below w.heap.size w w' := by
  go_enter Tryd.func44, Tryd.ntmps44
  go_upto_region 1 with (refine wpList_alloc_row (by rfl) 105 (by rfl) _ _ info_s ?_)
  have hr := Whole.new w 105 (zeroNums .u32 8).toArray
  have hB : Below w.heap.size w (w.alloc (.cells (zeroNums .u32 8).toArray 105)) := (Below.refl _ _).alloc (Nat.le_refl _) _
  generalize w.alloc (.cells (zeroNums .u32 8).toArray 105) = w2 at *
  apply wp_region_lit
  refine wpList_build_as (by rfl) _ _ (by rfl) (shaBegin.list.map vu32).toArray (by kernel_rfl) ?_
  refine wpList_store_row (by rfl) 105 _ _ (by rfl) w.heap.size (shaBegin.list.map vu32).toArray (by rfl) (by rfl) 105 _ hr size_s (by simp [zeroNums, Eight.list]) (all_u32 _) ?_
  go_wp2
  exact bodyPost_ret (results_cell_row rfl _ _ w.heap.size 105 _ (0, 0) _ rfl (hr.row _) Tryd.underlying105 rfl size_s) rfl ⟨rfl, hB.grown (grown_row (World.grownBy.refl _ (some w.heap.size)) (.inl rfl) _) hB.size (fun k hk => by simp at hk; omega)⟩

/-- '&T{..}': the cells of what is built, in a new block. -/
theorem wpList_box_row {P : Program} {ops : Array Oper} {rest : List Oper} {o : Oper} {a : Act} {w : World} {Q : Exit → Act → World → Prop} (hg : o.guard = none) (t : TypeId) (x : Operand) (ho : o.op = .box t x)
    (cells : Array Value) (hx : a.eval x = .agg cells)
    (h : wpList P ops Q rest (a.put o.dst (.pointer (some ⟨w.heap.size, 0, none⟩))) (w.alloc (.cells cells t))) : wpList P ops Q (o :: rest) a w :=
  wpList_plain hg fun K hK => by
    unfold Oper.wp execOp
    simp only [ho, hx]
    simp [Instr.box, newVar, Value.cells, newRow]
    exact hK _ _ h

theorem new_hash (w : World) : Calls Tryd.prog 37 #[] w fun e w' => ∃ h, e = .returned (.pointer (some ⟨h, 0, none⟩)) ∧ w.heap.size ≤ h ∧ HashIs w' h [] ∧ Below w.heap.size w w' := by
  go_enter Tryd.func37, Tryd.ntmps37
  go_wp2_with (first
    | (go_at_call 44; refine (begin_hash _).mono ?_; rintro e w1 ⟨rfl, hB⟩)
    | (refine wpList_build_as (by rfl) _ _ (by rfl) (hashCells shaBegin (List.replicate 64 0#8) 0).toArray (by kernel_rfl) ?_)
    | (refine wpList_box_row (by rfl) 109 _ (by rfl) (hashCells shaBegin (List.replicate 64 0#8) 0).toArray (by rfl) ?_))
  go_ret
  exact ⟨w1.heap.size, rfl, hB.size, ⟨List.replicate 64 0#8, waitOk_nil, Whole.new _ _ _⟩, hB.alloc hB.size _⟩

theorem size_hash : (Tryd.prog.info? 109).map (·.size) = some 74 := by kernel_rfl
theorem all_hash (s : Eight) (wait : List (BitVec 8)) (n : Nat) : (hashCells s wait n).toArray.all (·.oneCell') = true := all_one fun v hv => by
  simp only [hashCells, List.mem_append, List.mem_map, List.mem_cons, List.not_mem_nil, or_false] at hv
  rcases hv with (⟨x, _, rfl⟩ | ⟨x, _, rfl⟩) | rfl | rfl <;> rfl

theorem block_hash (w : World) (h : Nat) (s : Eight) (wait : List (BitVec 8)) (n : Nat) (hW : Whole w h 109 (hashCells s wait n)) (hl : wait.length = 64) (hK : KTab w) :
    Calls Tryd.prog 46 #[.pointer (some ⟨h, 0, none⟩), .slice (some ⟨h, 8, none⟩) 64 64] w fun e w' => e = .returned (.tuple #[]) ∧ Whole w' h 109 (hashCells (compress s wait) wait n) ∧ w.grownBy w' (some h) := by
  have hb : BytesAt w h 8 wait := BytesAt.of_whole (pre := s.list.map vu32) (post := [.int .i64 n, .bool true]) hW (by simp [Eight.list])
  have hW2 : Whole w h 109 ([] ++ s.list.map vu32 ++ (wait.map vu8 ++ [.int .i64 n, .bool true])) := by
    rw [List.nil_append, ← List.append_assoc]
    exact hW
  refine (block_calls w h 0 h 8 64 wait hb hl hW.lt hK s 109 [] _ hW2 rfl).mono ?_
  rintro e w' ⟨rfl, h2, h3⟩
  rw [List.nil_append, ← List.append_assoc] at h2
  exact ⟨rfl, h2, h3⟩

set_option maxRecDepth 100000 in
set_option maxHeartbeats 4000000 in
theorem write_hash (w : World) (h : Nat) (m bs : List (BitVec 8)) (hh : HashIs w h m) (hK : KTab w) (h0 : h ≠ 0) (hsz : m.length + bs.length ≤ 4611686018427387904) (b o cap : Nat) (hbh : b ≠ h) (hbl : b < w.heap.size) (hb : BytesAt w b o bs) :
    Calls Tryd.prog 38 #[.pointer (some ⟨h, 0, none⟩), .slice (some ⟨b, o, none⟩) bs.length cap] w fun e w' => e = .returned (.int .i64 0) ∧ HashIs w' h (m ++ bs) ∧ w.grownBy w' (some h) := by
  have hm := hh.made
  go_enter Tryd.func38, Tryd.ntmps38
  go_wp2_with (go_at_call 45; refine (none_made _ _ _ hm).mono ?_; rintro e w' ⟨rfl, rfl⟩)
  go_loopw [11] (fun i wr => ∃ k : Nat, k ≤ bs.length ∧ i = .int .i64 k ∧ HashIs wr h (m ++ bs.take k) ∧ w.grownBy wr (some h)) (fun i _ => bs.length - (intOf i).toNat)
  case atStart => exact ⟨0, by omega, rfl, by simpa using hh, World.grownBy.refl _ _⟩
  case round =>
    obtain ⟨k, hk, rfl, hH, hG⟩ := hrel
    by_cases hlt : k < bs.length
    · have hK2 := hK.grown hG (by simpa using h0)
      have hb2 := hb.grown hG hbl (by simpa using hbh)
      have c0 := hb2.at_ hlt
      have i1 : (k : Int) < (bs.length : Int) := by omega
      obtain ⟨wait, hwt, hW⟩ := hH
      have hl2 : (m ++ bs.take k).length = m.length + k := by simp; omega
      have hnext : m ++ bs.take (k + 1) = (m ++ bs.take k) ++ [bs.getD k 0] := by
        rw [List.take_succ_eq_append_getElem hlt, List.append_assoc]
        simp [List.getElem?_eq_getElem hlt]
      generalize hmk : m ++ bs.take k = mk at *
      generalize hx : bs.getD k 0 = x at *
      have hLb : mk.length < 4611686018427387904 := by omega
      clear hl2
      go_upto_region 6 with (fail)
      have cn := hW.cell_of (hashCells_n (stateOf mk) wait mk.length hwt.1)
      have t0 : Int.tmod (mk.length : Int) 64 = (mk.length : Int) % 64 := Int.tmod_eq_emod_of_nonneg (by omega)
      have t1 : 0 ≤ (mk.length : Int) % 64 := by omega
      have t2 : (mk.length : Int) % 64 < 64 := by omega
      have t3 : mk.length % 64 < 64 := by omega
      have t4 : ((mk.length : Int) % 64).toNat = mk.length % 64 := by omega
      have t9 : IntKind.i64.wrap ((mk.length : Int) % 64) = (mk.length : Int) % 64 := IntWalk.i64_in _ (by omega)
      have fw := hW.free (8 + mk.length % 64)
      have cw := hW.cell_of (hashCells_wait (stateOf mk) wait mk.length _ hwt.1 t3)
      go_still_tail 10, (by kernel_rfl)
      change wpList _ _ _ _ _ wr.drew
      go_upto_region 7 with (fail)
      have hW7 : Whole ((wr.setCell ⟨h, 8 + mk.length % 64, none⟩ (vu8 x)).drew) h 109 (hashCells (stateOf mk) (wait.set (mk.length % 64) x) mk.length) := by
        have := (hW.put (8 + mk.length % 64) (vu8 x)).drew
        rwa [hashCells_set_wait _ _ _ _ _ hwt.1 t3] at this
      have hG7 : w.grownBy ((wr.setCell ⟨h, 8 + mk.length % 64, none⟩ (vu8 x)).drew) (some h) := grown_drew (grown_set hG (.inl rfl) _)
      have hl7 : (wait.set (mk.length % 64) x).length = 64 := by simpa using hwt.1
      clear cn c0 fw cw hW hb2 hG hK2
      generalize (wr.setCell ⟨h, 8 + mk.length % 64, none⟩ (vu8 x)).drew = w7 at *
      have cn7 := hW7.cell_of (hashCells_n _ _ mk.length hl7)
      have f7 := hW7.free 72
      have t5 : IntKind.i64.wrap ((mk.length : Int) + 1) = (mk.length : Int) + 1 := IntWalk.i64_in _ (by omega)
      go_upto_region 8 with (fail)
      have hW8 : Whole (w7.setCell ⟨h, 72, none⟩ (.int .i64 ((mk.length : Int) + 1))) h 109 (hashCells (stateOf mk) (wait.set (mk.length % 64) x) (mk.length + 1)) := by
        have := hW7.put 72 (.int .i64 ((mk.length + 1 : Nat) : Int))
        rwa [hashCells_set_n _ _ _ _ hl7] at this
      have hG8 : w.grownBy (w7.setCell ⟨h, 72, none⟩ (.int .i64 ((mk.length : Int) + 1))) (some h) := grown_set hG7 (.inl rfl) _
      clear cn7 f7 hW7 hG7
      generalize (w7.setCell ⟨h, 72, none⟩ (.int .i64 ((mk.length : Int) + 1))) = w8 at *
      have cn8 : w8.cell? ⟨h, 72, none⟩ = some (.int .i64 ((mk.length : Int) + 1)) := hW8.cell_of (hashCells_n _ _ (mk.length + 1) hl7)
      have t10 : Int.tmod ((mk.length : Int) + 1) 64 = ((mk.length : Int) + 1) % 64 := Int.tmod_eq_emod_of_nonneg (by omega)
      have hK8 := hK.grown hG8 (by simpa using h0)
      by_cases hfull : (mk.length + 1) % 64 = 0
      · have hok := hwt.full (c := x) hfull
        have t6 : ((mk.length : Int) + 1) % 64 = 0 := by omega
        have hd : decide (((mk.length : Int) + 1) % 64 = 0) = true := decide_eq_true t6
        go_upto_region 9 with (fail)
        clear hd
        go_still_tail 7, (by kernel_rfl)
        change wpList _ _ _ _ _ w8.drew
        go_wp2_with (go_at_call 46; refine (block_hash w8.drew h _ _ _ hW8.drew hl7 hK8).mono ?_; rintro e w9 ⟨rfl, hW9, hG9⟩)
        go_roundw
        case rel =>
          refine ⟨k + 1, by omega, by go_num, ⟨_, by rw [hnext]; exact hok.1, ?_⟩, grown_trans (grown_drew hG8) hG9⟩
          rw [hnext, hok.2, List.length_append]
          exact hW9
        case measure => simp [intOf]; omega
      · have hok := hwt.more (c := x) hfull
        have t6 : ¬ ((mk.length : Int) + 1) % 64 = 0 := by omega
        go_wp2
        go_roundw
        case rel =>
          refine ⟨k + 1, by omega, by go_num, ⟨_, by rw [hnext]; exact hok.1, ?_⟩, hG8⟩
          rw [hnext, hok.2, List.length_append]
          exact hW8
        case measure => simp [intOf]; omega
    · obtain rfl : k = bs.length := by omega
      go_wp2
      go_ret
      rw [List.take_length] at hH
      exact ⟨rfl, hH, hG⟩

end Go.Proofs.YtglcingpolpkdaaDoor
