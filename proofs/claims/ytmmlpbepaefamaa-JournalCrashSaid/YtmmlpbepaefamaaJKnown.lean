/- JournalKnown: the chapter's examples. -/
import Derived.Test.YtmmlpbepaefamaaJOps
import Derived.Test.YtmmlpbepaefamaaJKit
import Derived.Test.YtmmlpbepaefamaaJPlain
import Derived.Lib.SlBytesConst
import Derived.Laws.OwnMore
import Derived.Deep.OwnRows
namespace Go.Proofs.Ytmmlpbepaefamaa
open Go.RowKit

/-- The empty record's frame. -/
def F12 : List (BitVec 8) := [0#8, 0#8, 0#8, 0#8, 33#8, 68#8, 223#8, 28#8, 0#8, 0#8, 0#8, 0#8]
def L9 : List (BitVec 8) := [49#8, 50#8, 51#8, 52#8, 53#8, 54#8, 55#8, 56#8, 57#8]
theorem frame_nil : frameC [] = F12 := by kernel_rfl
theorem check_nine : checkC L9 = 3421780262#32 := by kernel_rfl
theorem check_nil : checkC [] = 0#32 := by kernel_rfl
theorem read_torn7 : readC (F12.take 7) = some ([], 0) := by rw [readC, dif_pos (by decide)]
theorem read_three : readC [0#8, 0#8, 0#8] = some ([], 0) := by rw [readC, dif_pos (by decide)]
theorem read_f12 : readC (F12 ++ [0#8, 0#8, 0#8]) = some ([[]], 12) := by
  rw [← frame_nil, readC_frame [] _ (by simp), read_three]
  rfl
theorem read_bad : readC (F12.set 0 128#8) = none := by
  rw [readC_def _ (by decide), if_pos (.inl (by kernel_rfl))]

theorem jk_frame (w : World) : Calls Try.prog 30 #[.slice none 0 0] w fun e w' => (∃ a c, e = .returned (.tuple #[.slice a 12 c, .int .i64 0]) ∧ Own w' w.heap.size (.slice a 12 c) F12 ∧ 12 ≤ c) ∧ Below w.heap.size w w' := by
  refine (topframe_calls w _ [] (.inl ⟨rfl, .inl rfl⟩) (by simp)).mono ?_
  rintro e w' ⟨u, rfl, hO, hb⟩
  rw [frame_nil] at hO
  refine ⟨?_, hb⟩
  obtain ⟨g, cap, rfl, _, _, _, hc, _⟩ := Own.full hO (by decide)
  exact ⟨_, _, rfl, hO, hc⟩
theorem lit_slice (w : World) (l : List (BitVec 8)) (cs : Array Value) (hc : (l.map vu8).toArray = cs) (hl : l.length ≤ 1000) : SliceIs (w.alloc (.cells cs 5)) (.slice (some ⟨w.heap.size, 0, none⟩) l.length l.length) l := hc ▸ (own_new (Nat.le_refl _) l hl).slice
def C12 : Array Value := #[.int .u8 0, .int .u8 0, .int .u8 0, .int .u8 0, .int .u8 33, .int .u8 68, .int .u8 223, .int .u8 28, .int .u8 0, .int .u8 0, .int .u8 0, .int .u8 0]
def C9 : Array Value := #[.int .u8 49, .int .u8 50, .int .u8 51, .int .u8 52, .int .u8 53, .int .u8 54, .int .u8 55, .int .u8 56, .int .u8 57]
theorem lit_12 : (F12.map vu8).toArray = C12 := by kernel_rfl
theorem lit_9 : (L9.map vu8).toArray = C9 := by kernel_rfl
theorem lit_3 : (([0#8, 0#8, 0#8] : List (BitVec 8)).map vu8).toArray = #[.int .u8 0, .int .u8 0, .int .u8 0] := by kernel_rfl
theorem lit_2 : (([1#8, 2#8] : List (BitVec 8)).map vu8).toArray = #[.int .u8 1, .int .u8 2] := by kernel_rfl
theorem slice_12 (w : World) : SliceIs (w.alloc (.cells C12 5)) (.slice (some ⟨w.heap.size, 0, none⟩) 12 12) F12 := lit_slice w F12 _ lit_12 (by decide)
theorem slice_9 (w : World) : SliceIs (w.alloc (.cells C9 5 (9, 10))) (.slice (some ⟨w.heap.size, 0, none⟩) 9 9) L9 := by
  refine .inr ⟨w.heap.size, 0, 9, rfl, by simp, fun j y hj => ?_⟩
  rw [Nat.zero_add, cell_of_row _ w.heap.size j _ 5 _ (heap_alloc_new w _), ← lit_9]
  simp [hj]
theorem jk_nine (w : World) (v : Value) (hv : SliceIs w v L9) : Calls Try.prog 31 #[v] w fun e w' => e = .returned (.int .u32 3421780262) ∧ Below w.heap.size w w' := by
  refine (topcheck_calls w v L9 hv (by decide)).mono ?_
  rintro e w' ⟨rfl, hb⟩
  rw [check_nine]
  exact ⟨rfl, hb⟩
theorem jk_zero (w : World) : Calls Try.prog 31 #[.slice none 0 0] w fun e w' => e = .returned (.int .u32 0) ∧ Below w.heap.size w w' := by
  refine (topcheck_calls w _ [] (.inl ⟨rfl, .inl rfl⟩) (by decide)).mono ?_
  rintro e w' ⟨rfl, hb⟩
  rw [check_nil]
  exact ⟨rfl, hb⟩
theorem jk_same (w : World) (s t : Value) (l : List (BitVec 8)) (hs : SliceIs w s l) (ht : SliceIs w t l) : Calls Try.prog 24 #[s, t] w fun e w' => e = .returned (.bool true) ∧ w = w' := by
  refine (same_calls w s t l l hs ht).mono ?_
  rintro e w' ⟨rfl, rfl⟩
  simp
/-- The list of one empty record. -/
theorem ListsOwn.single {w : World} {B : Nat} {v : Value} (h : ListsOwn w B v [[]]) : ∃ g c p k, v = .slice (some ⟨g, 0, none⟩) 1 c ∧ w.cell? ⟨g, 0, none⟩ = some (.slice p 0 k) ∧ g < w.heap.size := by
  obtain ⟨vs, h1, h2, h3⟩ := h.row
  obtain ⟨u, hu, ho⟩ := h3 0 [] rfl
  obtain ⟨p, k, hp⟩ := slice_of_row ho
  have hl : vs.length = 1 := h1
  rcases row_shape h2 with ⟨_, h0⟩ | ⟨g, cap, he, _, hg, hc⟩
  · omega
  · rw [hl] at he
    refine ⟨g, cap, p, k, he, ?_, hg⟩
    have := hc 0 u (by rw [show vs.flatMap (fun x => [x]) = vs by simp]; exact hu)
    rw [this, hp]
    rfl
theorem make_zeros (w : World) (n : Nat) (hn : n ≤ 1000000) : ∃ w', (Instr.makeSlice 34 (.int .i64 (n : Int)) (.int .i64 (n : Int))).run Try.prog w = .ok (.slice (some ⟨w.heap.size, 0, none⟩) n n) w' ∧ SliceIs w' (.slice (some ⟨w.heap.size, 0, none⟩) n n) (List.replicate n 0#8) ∧ Below w.heap.size w w' := by
  obtain ⟨i0, hi, hz0, hz1, hz2⟩ := info_u8
  obtain ⟨w', h1, h2, h3⟩ := run_makeSlice_full (P := Try.prog) w w.heap.size 34 5 i0 (.int .u8 0) 1 Try.underlying34 hi hz0 hz1 .i64 .i64 n (by omega) (by rw [hz2]; omega) (by simp only [maxLen]; omega) (Nat.le_refl _)
  have e : (madeCells (Value.int .u8 0).cells (n * 1)).toList = (List.replicate n 0#8).map vu8 := by
    rw [Nat.mul_one, List.map_replicate]
    exact toList_madeCells_one _ _
  rw [e] at h2
  have hO : Own w' w.heap.size (.slice (some ⟨w.heap.size, 0, none⟩) n n) (List.replicate n 0#8) := by
    unfold Own
    rw [List.length_replicate]
    exact h2
  exact ⟨w', h1, hO.slice, grown_below h3⟩

set_option maxRecDepth 100000 in
set_option maxHeartbeats 4000000 in
theorem journalKnown_walk (W : World) : Calls Try.prog 7 #[] W fun e w' => e = .returned (.bool true) ∧ Below W.heap.size W w' := by
  go_enter Try.func7, Try.ntmps7
  go_upto_region 2 with (first
    | (go_at_call 30; refine (jk_frame W).mono ?_; rintro e w1 ⟨⟨a1, c1, rfl, O1, hc1⟩, B1⟩)
    | fail)
  have b2 : Below w1.heap.size w1 (w1.alloc (.cells C12 5)) := (Below.refl _ _).alloc (Nat.le_refl _) _
  have HS2 := Lib.hid (jk_same _ _ _ F12 (O1.slice.low b2) (slice_12 w1))
  replace O1 := row_low O1 b2
  replace B1 := B1.trans (b2.mono B1.size)
  clear b2
  generalize hw2 : w1.alloc (.cells C12 5) = w2 at O1 B1 HS2
  unfold C12 at hw2
  have kc := Lib.run_convert_bytes_const w2 34 5 C9 9 9 Try.underlying34 Try.underlying5
  change (convert 34 34 (.slice (some ⟨w2.heap.size, 0, none⟩) 9 9)).run Try.prog (w2.alloc (.cells C9 5)) = .ok (.slice (some ⟨w2.heap.size, 0, none⟩) 9 9) (w2.alloc (.cells C9 5 (9, 10))) at kc
  have b3 : Below w2.heap.size w2 (w2.alloc (.cells C9 5 (9, 10))) := (Below.refl _ _).alloc (Nat.le_refl _) _
  have HC3 := Lib.hid (jk_nine _ _ (slice_9 w2))
  replace O1 := row_low O1 b3
  replace B1 := B1.trans (b3.mono B1.size)
  clear b3
  generalize w2.alloc (.cells C9 5 (9, 10)) = w3 at O1 B1 HC3 kc
  unfold C9 at kc
  go_upto_region 4 with (first
    | (go_at_call 31; refine (jk_zero w4).mono ?_; rintro e w5 ⟨rfl, b5⟩; replace O1 := row_low O1 b5; replace B1 := B1.trans (b5.mono B1.size); clear b5)
    | (go_at_call 31; refine HC3.out.mono ?_; rintro e w4 ⟨rfl, b4⟩; replace O1 := row_low O1 b4; replace B1 := B1.trans (b4.mono B1.size); clear b4)
    | (go_at_call 24; refine HS2.out.mono ?_; rintro e w2' ⟨rfl, hw2'⟩; subst hw2')
    | fail)
  clear HS2 HC3 hw2 kc
  have hlow : ∀ w' : World, Below w5.heap.size w5 w' → Own w' W.heap.size (.slice a1 12 c1) F12 ∧ Below W.heap.size W w' := fun w' hb => ⟨row_low O1 hb, B1.trans (hb.mono B1.size)⟩
  have HL := Lib.hid hlow
  clear hlow O1 B1
  go_upto_region 5 with (first
    | (go_at_call 32; refine (topread_some w8 _ (F12 ++ [0#8, 0#8, 0#8]) (Own.room O8) (by decide) read_f12).mono ?_; rintro e w9 ⟨b9, _, rfl, ⟨la, lc, rfl⟩, hU9⟩; have b9 := B8.trans (b9.mono B8.size); replace hU9 := hU9.down B8.size)
    | (refine wpList_append_bytes (w := w7) (by rfl) _ _ (by rfl) w5.heap.size _ F12 (by rfl) O7 _ [0#8, 0#8, 0#8] (by rfl) S7 (by decide) B7.size ?_; intro v8 w8 O8 G8; have B8 := B7.grown G8 B7.size (fun i hi => own_ge O7 hi); obtain ⟨a8, k8, c8, h8⟩ := slice_any O8; subst h8)
    | (go_at_call 33; refine (copy_calls w5 _ F12 (HL.out _ (Below.refl _ _)).1.slice (by decide)).mono ?_; rintro e w6 ⟨_, rfl, O6, b6⟩; obtain ⟨a6, k6, c6, h6⟩ := slice_any O6; subst h6; have b7 : Below w6.heap.size w6 (w6.alloc (.cells #[.int .u8 0, .int .u8 0, .int .u8 0] 5)) := (Below.refl _ _).alloc (Nat.le_refl _) _; have S7 := lit_slice w6 _ _ lit_3 (by decide); have O7 := row_low O6 b7; have B7 := b6.trans (b7.mono b6.size); generalize hw7 : w6.alloc (.cells #[.int .u8 0, .int .u8 0, .int .u8 0] 5) = w7 at S7 O7 B7)
    | fail)
  clear O7 O8 G8 S7 hw7 B8 B7 b7
  obtain ⟨lg, lcc, lp, lk, hle, hlcell, hlg⟩ := hU9.single
  injection hle with hl1 hl2 hl3
  subst hl1 hl3
  have HM := Lib.hid (show ∀ w' : World, Below w9.heap.size w9 w' → Own w' W.heap.size (.slice a1 12 c1) F12 ∧ Below W.heap.size W w' ∧ w'.cell? ⟨lg, 0, none⟩ = some (.slice lp 0 lk) ∧ lg < w'.heap.size from fun w' hb => ⟨(HL.out w' (b9.trans (hb.mono b9.size))).1, (HL.out w' (b9.trans (hb.mono b9.size))).2, (hb.cell (p := ⟨lg, 0, none⟩) hlg).trans hlcell, Nat.lt_of_lt_of_le hlg hb.size⟩)
  clear hU9 hlcell hlg HL b9 b6 O6
  go_upto_region 6 with (first
    | (go_at_call 33; refine (copy_calls w9 _ F12 (HM.out _ (Below.refl _ _)).1.slice (by decide)).mono ?_; rintro e w10 ⟨_, rfl, O10, B10⟩; obtain ⟨g10, c10, rfl, hg10, _, _, hc10, _⟩ := Own.full O10 (by decide))
    | fail)
  obtain ⟨p1, p2, p3⟩ := O10.poke (i := 0) (by decide) 128#8
  have B11 : Below w9.heap.size w9 (w10.setCell ⟨g10, 0, none⟩ (vu8 128#8)) := B10.setCell hg10 _
  have hF12 : F12.length = 12 := rfl
  rw [hF12] at hc10 p3
  have e128 : vu8 128#8 = .int .u8 128 := by kernel_rfl
  rw [e128] at p3 B11
  have i12 : 0 < F12.length := by decide
  go_upto_region 7 with fail
  clear p1 p2 O10 B10 e128
  generalize w10.setCell ⟨g10, 0, none⟩ (.int .u8 128) = w11 at p3 B11 ⊢
  have HR11 : SliceR w11 (.slice (some ⟨g10, 0, none⟩) 12 c10) (F12.set 0 128#8) := Own.room p3
  go_upto_region 8 with (first
    | (go_at_call 32; refine (topread_none w11 _ _ HR11 (by decide) read_bad).mono ?_; rintro e w12 ⟨b12, rfl⟩; have B12 := B11.trans (b12.mono B11.size))
    | fail)
  clear p3 HR11 B11 b12
  have j0 : (0 : Int) ≤ 7 := by decide
  have j1 : (7 : Int) ≤ (c1 : Int) := by omega
  have HR12 : SliceR w12 (.slice a1 7 c1) (F12.take 7) := SliceR.front (b := 7) (Own.room (HM.out _ B12).1) (by decide)
  go_upto_region 9 with (first
    | (go_at_call 32; refine (topread_some w12 _ _ HR12 (by decide) read_torn7).mono ?_; rintro e w13 ⟨b13, _, rfl, ⟨ma, mc, rfl⟩, _⟩; have B13 := B12.trans (b13.mono B12.size))
    | fail)
  clear HR12 B12 b13 j0 j1
  go_upto_region 10 with (first
    | (go_at_call 9; refine (dnew_calls w13).mono ?_; rintro e w14 ⟨d, rfl, fm, rm, own, hD, hown⟩)
    | fail)
  have hnm : nameN ⟨#[97]⟩ = true := by kernel_rfl
  go_upto_region 13 with (first
    | (go_at_call 10; refine (jopen_missing w13 w14 d fm rm 0 own [] [] hD ⟨#[97]⟩ hnm (by decide) rfl).mono ?_; rintro e w15 ⟨jb, ⟨oa, oc, rfl⟩, hJ, hjb, b15⟩)
    | fail)
  have b16 : Below w15.heap.size w15 (w15.alloc (.cells #[.int .u8 1, .int .u8 2] 5)) := (Below.refl _ _).alloc (Nat.le_refl _) _
  have S16 := lit_slice w15 _ _ lit_2 (by decide)
  replace hJ := hJ.low b16
  generalize hw16 : w15.alloc (.cells #[.int .u8 1, .int .u8 2] 5) = w16 at S16 hJ b16
  have HFR := Lib.hid (show (frameC [1#8, 2#8]).length = 14 from frameC_length _)
  clear b16 b15 hD hjb
  go_upto_region 14 with (first
    | (go_at_call 13; refine (jsync_there w13 w17 jb d fm rm 1 own2 _ [] ⟨#[97]⟩ 1 14 h17 (getL_add [] ⟨#[97]⟩ (fb, _) rfl) (by simp) (by simp) (by decide) (by simp)).mono ?_; rintro e w18 ⟨rfl, own3, h18, _, _⟩)
    | (go_at_call 12; refine (japp_new w13 w16 jb d fm rm 0 own [] [] ⟨#[97]⟩ 0 0 hJ (by decide) (by decide) (by decide) (by simp) hnm (by decide) _ [1#8, 2#8] S16 (by decide) rfl (by decide)).mono ?_; rintro e w17 ⟨rfl, own2, fb, h17, _, _, _⟩)
    | fail)
  clear hJ S16 hw16
  have B18 := HM.out w18 (B13.trans (h18.disk.below.mono B13.size))
  have hj18 := h18.jour
  clear h17 h18
  obtain ⟨w19, hmk, S19, b19⟩ := make_zeros w18 65537 (by decide)
  replace hmk : (Instr.makeSlice 34 (.int .i64 65537) (.int .i64 65537)).run Try.prog w18 = .ok (.slice (some ⟨w18.heap.size, 0, none⟩) 65537 65537) w19 := hmk
  have hj19 := hj18.below b19 hj18.lt
  have B19 := B18.2.1.trans (b19.mono B18.2.1.size)
  have C19 := (b19.cell (p := ⟨lg, 0, none⟩) B18.2.2.2).trans B18.2.2.1
  have HL19 := Lib.hid (topframe_long w19 _ _ S19 (by rw [List.length_replicate]; decide))
  clear S19 hj18 B18 b19
  go_upto_region 15 with (first
    | (go_at_call 30; refine HL19.out.mono ?_; rintro e w20 ⟨rfl, hw20⟩; subst hw20)
    | fail)
  clear hmk HL19
  have HN := Lib.hid (jlen_calls w19 jb d ⟨#[97]⟩ 1 14 hj19)
  have HZ := Lib.hid (jsize_calls w19 jb d ⟨#[97]⟩ 1 14 hj19)
  clear hj19
  go_wp2_with (first
    | (go_at_call 15; refine HN.out.mono ?_; rintro e w21 ⟨rfl, hw21⟩; subst hw21)
    | (go_at_call 34; refine HZ.out.mono ?_; rintro e w22 ⟨rfl, hw22⟩; subst hw22)
    | fail)
  go_ret
  exact ⟨rfl, B19⟩

end Go.Proofs.Ytmmlpbepaefamaa
