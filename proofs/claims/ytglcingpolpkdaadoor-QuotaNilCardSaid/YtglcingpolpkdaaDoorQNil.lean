/- QuotaNil: the methods of meters and trails that are none answer nothing. -/
import Derived.Test.YtglcingpolpkdaaDoorFrame
import Derived.WalkKit
import Derived.WalkSpells
import Derived.WalkLawsBesides
import Derived.Deep.QuietTactic
import Derived.BigQuiet
import Derived.Deep.DeepCutAuto
import Derived.Deep.CutBlock
import Derived.OwnWalk
import Derived.Deep.Light
import Derived.Deep.MidRow
import Derived.Deep.RegionHeld3
import Derived.Deep.RegionHeldLaw
import Derived.Test.YtglcingpolpkdaaDoorShape
namespace Go.Proofs.YtglcingpolpkdaaDoor
open Go.RowKit

/-- A pointer that is no meter, and one that is no trail: nil, or one that no call made. -/
def NoM (w : World) (p : Value) : Prop := p = .pointer none ∨ ∃ a, p = .pointer (some ⟨a, 0, none⟩) ∧ w.cell? ⟨a, 0, none⟩ = some (.map none)
def NoT (w : World) (p : Value) : Prop := p = .pointer none ∨ ∃ a, p = .pointer (some ⟨a, 0, none⟩) ∧ w.cell? ⟨a, 1, none⟩ = some (.bool false)
theorem NoM.below {B : Nat} {w w' : World} {p : Value} (h : NoM w p) (hb : Below B w w') (hp : ∀ a, p = .pointer (some ⟨a, 0, none⟩) → a < B) : NoM w' p := by
  rcases h with rfl | ⟨a, rfl, hc⟩
  · exact .inl rfl
  · exact .inr ⟨a, rfl, (hb.cell (p := ⟨a, 0, none⟩) (hp a rfl)).trans hc⟩
theorem NoT.below {B : Nat} {w w' : World} {p : Value} (h : NoT w p) (hb : Below B w w') (hp : ∀ a, p = .pointer (some ⟨a, 0, none⟩) → a < B) : NoT w' p := by
  rcases h with rfl | ⟨a, rfl, hc⟩
  · exact .inl rfl
  · exact .inr ⟨a, rfl, (hb.cell (p := ⟨a, 1, none⟩) (hp a rfl)).trans hc⟩

theorem mnone_no (w : World) (p : Value) (h : NoM w p) : Calls Tryd.prog 34 #[p] w fun e w' => e = .returned (.bool true) ∧ w = w' := by
  rcases h with rfl | ⟨a, rfl, hc⟩
  · go_enter Tryd.func34, Tryd.ntmps34
    go_wp2
    go_ret
    exact ⟨rfl, rfl⟩
  · have q : (binOp .eql 54 (.map none) (.map none)).run Tryd.prog w = .ok (.bool true) w := run_eql_map_nil w _ _ _ _ Tryd.underlying54
    go_enter Tryd.func34, Tryd.ntmps34
    go_wp2
    go_ret
    exact ⟨rfl, rfl⟩

theorem tnone_no (w : World) (p : Value) (h : NoT w p) : Calls Tryd.prog 27 #[p] w fun e w' => e = .returned (.bool true) ∧ w = w' := by
  rcases h with rfl | ⟨a, rfl, hc⟩
  · go_enter Tryd.func27, Tryd.ntmps27
    go_wp2
    go_ret
    exact ⟨rfl, rfl⟩
  · go_enter Tryd.func27, Tryd.ntmps27
    go_wp2
    go_ret
    exact ⟨rfl, rfl⟩

theorem left_no (w : World) (p x y z : Value) (h : NoM w p) : Calls Tryd.prog 21 #[p, x, y, z] w fun e w' => e = .returned (.tuple #[.int .i64 0, .int .i64 1]) ∧ w = w' := by
  go_enter Tryd.func21, Tryd.ntmps21
  go_wp2_with (go_at_call 34; refine (mnone_no _ _ h).mono ?_; rintro e w' ⟨rfl, rfl⟩)
  go_ret2
  exact ⟨rfl, rfl⟩

theorem take_no (w : World) (p x y z : Value) (h : NoM w p) : Calls Tryd.prog 23 #[p, x, y, z] w fun e w' => e = .returned (.int .i64 1) ∧ w = w' := by
  go_enter Tryd.func23, Tryd.ntmps23
  go_wp2_with (go_at_call 34; refine (mnone_no _ _ h).mono ?_; rintro e w' ⟨rfl, rfl⟩)
  go_ret
  exact ⟨rfl, rfl⟩

theorem tlen_no (w : World) (p : Value) (h : NoT w p) : Calls Tryd.prog 13 #[p] w fun e w' => e = .returned (.int .i64 0) ∧ w = w' := by
  go_enter Tryd.func13, Tryd.ntmps13
  go_wp2_with (go_at_call 27; refine (tnone_no _ _ h).mono ?_; rintro e w' ⟨rfl, rfl⟩)
  go_ret
  exact ⟨rfl, rfl⟩

theorem notes_no (w : World) (p x y : Value) (h : NoT w p) : Calls Tryd.prog 17 #[p, x, y] w fun e w' => e = .returned (.tuple #[.slice none 0 0, .int .i64 1]) ∧ w = w' := by
  go_enter Tryd.func17, Tryd.ntmps17
  go_wp2_with (go_at_call 27; refine (tnone_no _ _ h).mono ?_; rintro e w' ⟨rfl, rfl⟩)
  go_ret2
  exact ⟨rfl, rfl⟩

theorem set_no (w : World) (p : Value) (x : ByteArray) (y : Int) (z u : Value) (h : NoM w p) (hp : ∀ a, p = .pointer (some ⟨a, 0, none⟩) → a < w.heap.size) :
    Calls Tryd.prog 22 #[p, .string x, .int .i64 y, z, u] w fun e w' => e = .returned (.int .i64 1) ∧ Below w.heap.size w w' := by
  have hB : Below w.heap.size w (w.alloc (.cells #[.string x, .int .i64 y] 86)) := (Below.refl _ _).alloc (Nat.le_refl _) _
  have h2 := h.below hB hp
  go_enter Tryd.func22, Tryd.ntmps22
  go_wp2_with (go_at_call 34; refine (mnone_no _ _ h2).mono ?_; rintro e w' ⟨rfl, rfl⟩)
  go_ret
  exact ⟨rfl, hB⟩

theorem info_d : (Tryd.prog.info? 24).map (fun i => (i.zero, i.size)) = some (some (.agg (zeroNums .u8 32).toArray), 32) := by kernel_rfl
theorem size_d : (Tryd.prog.info? 24).map (·.size) = some 32 := by kernel_rfl
theorem all_zeros (k : IntKind) (n : Nat) : (zeroNums k n).toArray.all (·.oneCell') = true := all_one fun v hv => by
  rw [List.eq_of_mem_replicate hv]
  rfl
theorem built_d : Tryd.prog.built 24 [] = some (zeroNums .u8 32).toArray := by kernel_rfl
theorem size_n : (Tryd.prog.info? 36).map (·.size) = some 6 := by kernel_rfl
/-- A note of nothing. -/
def zeroNote : List Value := [.int .i64 0, .string ⟨#[]⟩, .string ⟨#[]⟩, .int .i64 0, .string ⟨#[]⟩, .int .i64 0]
theorem note_ones : zeroNote.toArray.all (·.oneCell') = true := by kernel_rfl
theorem zeroNote_eq : zeroNote = [.int .i64 0, .string ⟨#[]⟩, .string ⟨#[]⟩, .int .i64 0, .string ⟨#[]⟩, .int .i64 0] := rfl

theorem results_cell_two {P : Program} {fn : Func} {p q : Tmp} {ty : TypeId} (h : fn.results = #[.cell p ty, .tmp q]) (tmps : Array Value) (w : World) (g : Nat) (t : TypeId) (cs : Array Value) (fr : Nat × Nat) (d : TypeDesc)
    (hp : tmps.getD p undef = .pointer (some ⟨g, 0, none⟩)) (hg : w.heap[g]? = some (.cells cs t fr))
    (hu : P.underlying ty = some d) (hd : (match d with | .struct _ | .array _ _ => true | _ => false) = true) (hi : (P.info? ty).map (·.size) = some cs.size) :
    (results fn tmps).run P w = .ok (.tuple #[.agg cs, tmps.getD q undef]) w := by
  have hp' : tmps[p]?.getD undef = .pointer (some ⟨g, 0, none⟩) := by simpa using hp
  simp [results, h, hp', asAddr, run_loadVar_row w g t ty cs fr d hg hu hd hi]
theorem results_cells_three {P : Program} {fn : Func} {p p2 q : Tmp} {ty ty2 : TypeId} (h : fn.results = #[.cell p ty, .cell p2 ty2, .tmp q]) (tmps : Array Value) (w : World) (g g2 : Nat) (t t2 : TypeId) (cs cs2 : Array Value) (fr fr2 : Nat × Nat) (d d2 : TypeDesc)
    (hp : tmps.getD p undef = .pointer (some ⟨g, 0, none⟩)) (hg : w.heap[g]? = some (.cells cs t fr))
    (hu : P.underlying ty = some d) (hd : (match d with | .struct _ | .array _ _ => true | _ => false) = true) (hi : (P.info? ty).map (·.size) = some cs.size)
    (hp2 : tmps.getD p2 undef = .pointer (some ⟨g2, 0, none⟩)) (hg2 : w.heap[g2]? = some (.cells cs2 t2 fr2))
    (hu2 : P.underlying ty2 = some d2) (hd2 : (match d2 with | .struct _ | .array _ _ => true | _ => false) = true) (hi2 : (P.info? ty2).map (·.size) = some cs2.size) :
    (results fn tmps).run P w = .ok (.tuple #[.agg cs, .agg cs2, tmps.getD q undef]) w := by
  have hp' : tmps[p]?.getD undef = .pointer (some ⟨g, 0, none⟩) := by simpa using hp
  have hp2' : tmps[p2]?.getD undef = .pointer (some ⟨g2, 0, none⟩) := by simpa using hp2
  simp [results, h, hp', hp2', asAddr, run_loadVar_row w g t ty cs fr d hg hu hd hi, run_loadVar_row w g2 t2 ty2 cs2 fr2 d2 hg2 hu2 hd2 hi2]

set_option maxHeartbeats 400000 in
theorem thead_no (w : World) (p : Value) (h : NoT w p) (hp : ∀ a, p = .pointer (some ⟨a, 0, none⟩) → a < w.heap.size) :
    Calls Tryd.prog 14 #[p] w fun e w' => e = .returned (.agg (zeroNums .u8 32).toArray) ∧ Below w.heap.size w w' := by
  have hB : Below w.heap.size w (w.alloc (.cells (zeroNums .u8 32).toArray 24)) := (Below.refl _ _).alloc (Nat.le_refl _) _
  have h2 := h.below hB hp
  have hr := Whole.new w 24 (zeroNums .u8 32).toArray
  go_enter Tryd.func14, Tryd.ntmps14
  go_upto_region 1 with (refine wpList_alloc_row (by rfl) 24 (by rfl) _ _ info_d ?_)
  generalize (w.alloc (.cells (zeroNums .u8 32).toArray 24)) = w2 at *
  go_upto_region 2 with (go_at_call 13; refine (tlen_no _ _ h2).mono ?_; rintro e w' ⟨rfl, rfl⟩)
  apply wp_region_lit
  refine wpList_build_as (by rfl) _ _ (by rfl) (zeroNums .u8 32).toArray (by kernel_rfl) ?_
  refine wpList_store_row (by rfl) 24 _ _ (by rfl) w.heap.size (zeroNums .u8 32).toArray (by rfl) (by rfl) 24 _ hr size_d rfl (all_zeros _ _) ?_
  go_wp2
  exact bodyPost_ret (results_cell_row rfl _ _ w.heap.size 24 _ (0, 0) _ rfl (hr.row _) Tryd.underlying24 rfl size_d) rfl ⟨rfl, hB.grown (grown_row (World.grownBy.refl _ (some w.heap.size)) (.inl rfl) _) hB.size (fun k hk => by simp at hk; omega)⟩

set_option maxHeartbeats 400000 in
theorem add_no (w : World) (p : Value) (ns : List Value) (h : NoT w p) (hp : ∀ a, p = .pointer (some ⟨a, 0, none⟩) → a < w.heap.size) :
    Calls Tryd.prog 9 #[p, .agg ns.toArray] w fun e w' => e = .returned (.tuple #[.agg (zeroNums .u8 32).toArray, .int .i64 1]) ∧ Below w.heap.size w w' := by
  have hB : Below w.heap.size w ((w.alloc (.cells ns.toArray 36)).alloc (.cells (zeroNums .u8 32).toArray 24)) := ((Below.refl _ _).alloc (Nat.le_refl _) _).alloc (by simp) _
  have h2 := h.below hB hp
  have hr := Whole.new (w.alloc (.cells ns.toArray 36)) 24 (zeroNums .u8 32).toArray
  rw [World.size_alloc] at hr
  go_enter Tryd.func9, Tryd.ntmps9
  go_upto_region 1 with (first | (refine wpList_box_cells (by rfl) 36 _ (by rfl) ns.toArray (by rfl) ?_) | (refine wpList_alloc_row (by rfl) 24 (by rfl) _ _ info_d ?_))
  generalize ((w.alloc (.cells ns.toArray 36)).alloc (.cells (zeroNums .u8 32).toArray 24)) = w2 at *
  go_upto_region 2 with (go_at_call 27; refine (tnone_no _ _ h2).mono ?_; rintro e w' ⟨rfl, rfl⟩)
  apply wp_region_lit
  refine wpList_build_as (by rfl) _ _ (by rfl) (zeroNums .u8 32).toArray (by kernel_rfl) ?_
  refine wpList_store_row (by rfl) 24 _ _ (by rfl) (w.heap.size + 1) (zeroNums .u8 32).toArray (by rfl) (by rfl) 24 _ hr size_d rfl (all_zeros _ _) ?_
  go_wp2
  exact bodyPost_ret (results_cell_two rfl _ _ (w.heap.size + 1) 24 _ (0, 0) _ rfl (hr.row _) Tryd.underlying24 rfl size_d) rfl ⟨rfl, hB.grown (grown_row (World.grownBy.refl _ (some (w.heap.size + 1))) (.inl rfl) _) hB.size (fun k hk => by simp at hk; omega)⟩

theorem info_n : (Tryd.prog.info? 36).map (fun i => (i.zero, i.size)) = some (some (.agg zeroNote.toArray), 6) := by kernel_rfl
theorem built_n : Tryd.prog.built 36 [] = some zeroNote.toArray := by kernel_rfl

set_option maxHeartbeats 400000 in
theorem at_no (w : World) (p x : Value) (h : NoT w p) (hp : ∀ a, p = .pointer (some ⟨a, 0, none⟩) → a < w.heap.size) :
    Calls Tryd.prog 16 #[p, x] w fun e w' => e = .returned (.tuple #[.agg zeroNote.toArray, .agg (zeroNums .u8 32).toArray, .int .i64 1]) ∧ Below w.heap.size w w' := by
  have hB : Below w.heap.size w ((w.alloc (.cells zeroNote.toArray 36)).alloc (.cells (zeroNums .u8 32).toArray 24)) := ((Below.refl _ _).alloc (Nat.le_refl _) _).alloc (by simp) _
  have h2 := h.below hB hp
  have hn := (Whole.new w 36 zeroNote.toArray).alloc (.cells (zeroNums .u8 32).toArray 24)
  have hr := Whole.new (w.alloc (.cells zeroNote.toArray 36)) 24 (zeroNums .u8 32).toArray
  rw [World.size_alloc] at hr
  go_enter Tryd.func16, Tryd.ntmps16
  go_upto_region 1 with (first | (refine wpList_alloc_row (by rfl) 36 (by rfl) _ _ info_n ?_) | (refine wpList_alloc_row (by rfl) 24 (by rfl) _ _ info_d ?_))
  generalize ((w.alloc (.cells zeroNote.toArray 36)).alloc (.cells (zeroNums .u8 32).toArray 24)) = w2 at *
  go_upto_region 2 with (go_at_call 27; refine (tnone_no _ _ h2).mono ?_; rintro e w' ⟨rfl, rfl⟩)
  apply wp_region_lit
  refine wpList_build_as (by rfl) _ _ (by rfl) zeroNote.toArray (by kernel_rfl) ?_
  refine wpList_build_as (by rfl) _ _ (by rfl) (zeroNums .u8 32).toArray (by kernel_rfl) ?_
  refine wpList_store_row (by rfl) 36 _ _ (by rfl) w.heap.size zeroNote.toArray (by rfl) (by rfl) 36 _ hn size_n rfl note_ones ?_
  refine wpList_store_row (by rfl) 24 _ _ (by rfl) (w.heap.size + 1) (zeroNums .u8 32).toArray (by rfl) (by rfl) 24 _ (hr.row_far (by omega) _) size_d rfl (all_zeros _ _) ?_
  go_wp2
  have hB2 := hB.grown (grown_row (World.grownBy.refl _ (some w.heap.size)) (.inl rfl) zeroNote.toArray) hB.size (fun k hk => by simp at hk; omega)
  exact bodyPost_ret (results_cells_three rfl _ _ w.heap.size (w.heap.size + 1) 36 24 _ _ (0, 0) (0, 0) _ _ rfl ((hn.row _).row_far (by omega) _) Tryd.underlying36 rfl size_n rfl ((hr.row_far (by omega) _).row _) Tryd.underlying24 rfl size_d) rfl ⟨rfl, hB2.grown (grown_row (World.grownBy.refl _ (some (w.heap.size + 1))) (.inl rfl) _) (by simpa [World.setRow] using hB.size) (fun k hk => by simp at hk; omega)⟩

end Go.Proofs.YtglcingpolpkdaaDoor
