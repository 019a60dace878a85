/- Check and Frame: with a table of their own. -/
import Derived.Test.YtmmlpbepaefamaaJFrame
namespace Go.Proofs.Ytmmlpbepaefamaa
open Go.RowKit

set_option maxRecDepth 100000 in
set_option maxHeartbeats 4000000 in
theorem topcheck_calls (w : World) (v : Value) (l : List (BitVec 8)) (hv : SliceIs w v l) (hlen : l.length ≤ 9223372036854775806) :
    Calls Try.prog 31 #[v] w fun e w' => e = .returned (vu32 (checkC l)) ∧ Below w.heap.size w w' := by
  obtain ⟨pa, ca, rfl⟩ := hv.len
  have HCH := Lib.hid (fun w' T (hb : Below w.heap.size w w') (ht : TabAt w' T 0) => check_calls w' T 0 _ l ht (hv.low hb) hlen)
  have HT := Lib.hid (table_calls w)
  clear hv hlen
  go_enter Try.func31, Try.ntmps31
  go_wp2_with (first
    | (go_at_call 68; refine (HCH.out w3 _ B3 t3).mono ?_; rintro e w' ⟨rfl, rfl⟩)
    | (refine wpList_store_row (by rfl) 76 _ _ (by rfl) w1.heap.size (tabRow 256).toArray (by rfl) (by rfl) 76 _ h2 (by rw [size_tab]; simp [tabRow_length]) (by simp [zeroNums, tabRow_length]) (tabRow_one _) ?_; have t3 := TabAt.of_whole (h2.row (tabRow 256)); have B3 := b1.trans ((b2.grown (grown_row (World.grownBy.refl w2 (some w1.heap.size)) (.inl rfl) (tabRow 256).toArray) b2.size (fun i hi => by injection hi with hi; omega)).mono b1.size); generalize w2.setRow w1.heap.size (tabRow 256).toArray = w3 at t3 B3 ⊢)
    | (refine wpList_alloc_row (by rfl) 76 (by rfl) _ _ info_tab ?_; have h2 := Whole.new w1 76 (zeroNums .u32 256).toArray; have b2 : Below w1.heap.size w1 (w1.alloc (.cells (zeroNums .u32 256).toArray 76)) := (Below.refl _ _).alloc (Nat.le_refl _) _; generalize w1.alloc (.cells (zeroNums .u32 256).toArray 76) = w2 at h2 b2 ⊢)
    | (go_at_call 36; refine HT.out.mono ?_; rintro e w1 ⟨rfl, b1⟩)
    | fail)
  go_ret
  exact ⟨rfl, B3⟩

set_option maxRecDepth 100000 in
set_option maxHeartbeats 4000000 in
theorem topframe_long (w : World) (v : Value) (l : List (BitVec 8)) (hv : SliceIs w v l) (hlen : 65536 < l.length) :
    Calls Try.prog 30 #[v] w fun e w' => e = .returned (.tuple #[.slice none 0 0, .int .i64 3]) ∧ w = w' := by
  obtain ⟨pa, ca, rfl⟩ := hv.len
  have i1 : (65536 : Int) < (l.length : Int) := by omega
  clear hv
  go_enter Try.func30, Try.ntmps30
  go_wp2
  go_ret2
  exact ⟨rfl, rfl⟩

set_option maxRecDepth 100000 in
set_option maxHeartbeats 4000000 in
theorem topframe_calls (w : World) (v : Value) (l : List (BitVec 8)) (hv : SliceIs w v l) (hlen : l.length ≤ 65536) :
    Calls Try.prog 30 #[v] w fun e w' => ∃ u, e = .returned (.tuple #[u, .int .i64 0]) ∧ Own w' w.heap.size u (frameC l) ∧ Below w.heap.size w w' := by
  obtain ⟨pa, ca, rfl⟩ := hv.len
  have i1 : ¬ (65536 : Int) < (l.length : Int) := by omega
  have HFR := Lib.hid (fun w' T (hb : Below w.heap.size w w') (ht : TabAt w' T 0) => frame_calls w' T 0 _ l ht (hv.low hb) (by omega))
  have HT := Lib.hid (table_calls w)
  clear hv hlen
  go_enter Try.func30, Try.ntmps30
  go_wp2_with (first
    | (go_at_call 39; refine (HFR.out w3 _ B3 t3).mono ?_; rintro e w4 ⟨u, rfl, O4, b4⟩)
    | (refine wpList_store_row (by rfl) 76 _ _ (by rfl) w1.heap.size (tabRow 256).toArray (by rfl) (by rfl) 76 _ h2 (by rw [size_tab]; simp [tabRow_length]) (by simp [zeroNums, tabRow_length]) (tabRow_one _) ?_; have t3 := TabAt.of_whole (h2.row (tabRow 256)); have B3 := b1.trans ((b2.grown (grown_row (World.grownBy.refl w2 (some w1.heap.size)) (.inl rfl) (tabRow 256).toArray) b2.size (fun i hi => by injection hi with hi; omega)).mono b1.size); generalize w2.setRow w1.heap.size (tabRow 256).toArray = w3 at t3 B3 ⊢)
    | (refine wpList_alloc_row (by rfl) 76 (by rfl) _ _ info_tab ?_; have h2 := Whole.new w1 76 (zeroNums .u32 256).toArray; have b2 : Below w1.heap.size w1 (w1.alloc (.cells (zeroNums .u32 256).toArray 76)) := (Below.refl _ _).alloc (Nat.le_refl _) _; generalize w1.alloc (.cells (zeroNums .u32 256).toArray 76) = w2 at h2 b2 ⊢)
    | (go_at_call 36; refine HT.out.mono ?_; rintro e w1 ⟨rfl, b1⟩)
    | fail)
  go_ret2
  exact ⟨u, rfl, own_down B3.size O4, B3.trans (b4.mono B3.size)⟩

end Go.Proofs.Ytmmlpbepaefamaa
