/- (*Meter).Set: what may not be; Take and Left of a meter with one budget of two in ten ticks. -/
import Derived.Test.YtglcingpolpkdaaDoorMSet
import Derived.StillTailTactics
namespace Go.Proofs.YtglcingpolpkdaaDoor
open Go.RowKit Go.MapKept

set_option maxRecDepth 100000 in
set_option maxHeartbeats 2000000 in
theorem mset_bad (w : World) (b m : Nat) (what win : Int) (h : (what = 0 ∧ win = 10) ∨ (what = 2 ∧ win = 0)) (hc : w.cell? ⟨b, 0, none⟩ = some (.map (some m))) (hb : b < w.heap.size) : Calls Tryd.prog 22 #[.pointer (some ⟨b, 0, none⟩), .string ⟨#[116, 49]⟩, .int .i64 what, .int .i64 win, .int .i64 2] w fun e w' => e = .returned (.int .i64 2) ∧ Below w.heap.size w w' := by
  have HN := Lib.hid (fun w (hc : w.cell? ⟨b, 0, none⟩ = some (.map (some m))) => mnone_no w b m hc)
  have hB : Below w.heap.size w (w.alloc (.cells #[.string ⟨#[116, 49]⟩, .int .i64 what] 86)) := (Below.refl _ _).alloc (Nat.le_refl _) _
  have h2 := (hB.cell (p := ⟨b, 0, none⟩) hb).trans hc
  rcases h with ⟨rfl, rfl⟩ | ⟨rfl, rfl⟩
  · go_enter Tryd.func22, Tryd.ntmps22
    go_wp2_with (first | (go_at_call 34; refine (HN.out _ h2).mono ?_; rintro e w' ⟨rfl, rfl⟩) | fail)
    go_ret
    exact ⟨rfl, hB⟩
  · go_enter Tryd.func22, Tryd.ntmps22
    go_wp2_with (first | (go_at_call 34; refine (HN.out _ h2).mono ?_; rintro e w' ⟨rfl, rfl⟩) | fail)
    go_ret
    exact ⟨rfl, hB⟩

theorem key_t1 (n : Int) : (((⟨#[116, 49]⟩ : ByteArray).toList == (⟨#[116, 49]⟩ : ByteArray).toList) && (n == n)) = true := by simp
theorem zero_int (w : World) : (zeroValue 3).run Tryd.prog w = .ok (.int .i64 0) w := by kernel_rfl

set_option maxRecDepth 100000 in
set_option maxHeartbeats 2000000 in
theorem mtake_arg (W w : World) (b m d t r : Nat) (last : Int) (l : List (Int × Int)) (h : Met1 W w b m d t r 10 2 last l) (now q : Int) (h0 : 0 ≤ now) (h1 : now ≤ 1099511627776) (hq : IntKind.i64.wrap (now.tdiv 10) = q) (hlt : q < last) :
    Calls Tryd.prog 23 #[.pointer (some ⟨b, 0, none⟩), .string ⟨#[116, 49]⟩, .int .i64 2, .int .i64 now] w fun e w' => e = .returned (.int .i64 2) ∧ Met1 W w' b m d t r 10 2 last l := by
  have HN := Lib.hid (mnone_no w b m (h.box.cell 0))
  have HT := Lib.hid (fun w => tick_yes w now h0 h1)
  have c0 := h.box.cell 0
  have hlk := look_K1 h.all ⟨#[116, 49]⟩ 2 (key_t1 2)
  go_enter Tryd.func23, Tryd.ntmps23
  go_wp2_with (first | (go_at_call 34; refine HN.out.mono ?_; rintro e w' ⟨rfl, rfl⟩) | fail)
  have d0 := h.bud.cell 0
  have d2 := h.bud.cell 2
  refine wp_region_still_lit (by kernel_rfl) (by kernel_rfl) ?_
  repeat (first | still_step | still_call (HT.out _))
  refine wpStill_nil ?_
  change Exit.then _ _ Exit.normal _ w.drew
  replace h := h.on (Below.refl w.heap.size w).drew
  clear d0 d2 c0 hlk HN
  generalize w.drew = w2 at h ⊢
  go_wp2
  go_ret
  exact ⟨rfl, h⟩

set_option maxRecDepth 100000 in
set_option maxHeartbeats 2000000 in
theorem mtake_full (W w : World) (b m d t r : Nat) (last : Int) (l : List (Int × Int)) (h : Met1 W w b m d t r 10 2 last l) (now q : Int) (h0 : 0 ≤ now) (h1 : now ≤ 1099511627776) (hq : IntKind.i64.wrap (now.tdiv 10) = q) (hlt : ¬ q < last) (hc : 2 ≤ (findI l q).getD 0) :
    Calls Tryd.prog 23 #[.pointer (some ⟨b, 0, none⟩), .string ⟨#[116, 49]⟩, .int .i64 2, .int .i64 now] w fun e w' => e = .returned (.int .i64 12) ∧ Met1 W w' b m d t r 10 2 last l := by
  have HN := Lib.hid (mnone_no w b m (h.box.cell 0))
  have HT := Lib.hid (fun w => tick_yes w now h0 h1)
  have c0 := h.box.cell 0
  have hlk := look_K1 h.all ⟨#[116, 49]⟩ 2 (key_t1 2)
  go_enter Tryd.func23, Tryd.ntmps23
  go_wp2_with (first | (go_at_call 34; refine HN.out.mono ?_; rintro e w' ⟨rfl, rfl⟩) | fail)
  have d0 := h.bud.cell 0
  have d2 := h.bud.cell 2
  refine wp_region_still_lit (by kernel_rfl) (by kernel_rfl) ?_
  repeat (first | still_step | still_call (HT.out _))
  refine wpStill_nil ?_
  change Exit.then _ _ Exit.normal _ w.drew
  replace h := h.on (Below.refl w.heap.size w).drew
  clear d0 d2 c0 hlk HN
  generalize w.drew = w2 at h ⊢
  go_wp2
  have d0 := h.bud.cell 0
  have d1 := h.bud.cell 1
  have d3 := h.bud.cell 3
  have hlI := look_I (P := Tryd.prog) (w := w2.drew) Tryd.underlying88 Tryd.underlying3 (h.tak.of_block rfl) q (zero_int _)
  go_still (by kernel_rfl)
  change Exit.then _ _ Exit.normal _ w2.drew
  replace h := h.on (Below.refl w2.heap.size w2).drew
  clear d0 d1 d3 hlI
  generalize w2.drew = w3 at h ⊢
  go_wp2
  go_ret
  exact ⟨rfl, h⟩

set_option maxRecDepth 100000 in
set_option maxHeartbeats 2000000 in
theorem mtake_ok (W w : World) (b m d t r : Nat) (last : Int) (l : List (Int × Int)) (h : Met1 W w b m d t r 10 2 last l) (now q c : Int) (h0 : 0 ≤ now) (h1 : now ≤ 1099511627776) (hq : IntKind.i64.wrap (now.tdiv 10) = q) (hlt : ¬ q < last) (hc : ¬ 2 ≤ (findI l q).getD 0) (hv : IntKind.i64.wrap ((findI l q).getD 0 + 1) = c) :
    Calls Tryd.prog 23 #[.pointer (some ⟨b, 0, none⟩), .string ⟨#[116, 49]⟩, .int .i64 2, .int .i64 now] w fun e w' => e = .returned (.int .i64 0) ∧ Met1 W w' b m d t r 10 2 q (setI l q c) := by
  have HN := Lib.hid (mnone_no w b m (h.box.cell 0))
  have HT := Lib.hid (fun w => tick_yes w now h0 h1)
  have c0 := h.box.cell 0
  have hlk := look_K1 h.all ⟨#[116, 49]⟩ 2 (key_t1 2)
  go_enter Tryd.func23, Tryd.ntmps23
  go_wp2_with (first | (go_at_call 34; refine HN.out.mono ?_; rintro e w' ⟨rfl, rfl⟩) | fail)
  have d0 := h.bud.cell 0
  have d2 := h.bud.cell 2
  refine wp_region_still_lit (by kernel_rfl) (by kernel_rfl) ?_
  repeat (first | still_step | still_call (HT.out _))
  refine wpStill_nil ?_
  change Exit.then _ _ Exit.normal _ w.drew
  replace h := h.on (Below.refl w.heap.size w).drew
  clear d0 d2 c0 hlk HN
  generalize w.drew = w2 at h ⊢
  go_wp2
  have d0 := h.bud.cell 0
  have d1 := h.bud.cell 1
  have d3 := h.bud.cell 3
  have hlI := look_I (P := Tryd.prog) (w := w2.drew) Tryd.underlying88 Tryd.underlying3 (h.tak.of_block rfl) q (zero_int _)
  go_still (by kernel_rfl)
  change Exit.then _ _ Exit.normal _ w2.drew
  replace h := h.on (Below.refl w2.heap.size w2).drew
  clear d0 d1 d3 hlI
  generalize w2.drew = w3 at h ⊢
  have d0 := h.bud.cell 0
  have d2 := h.bud.cell 2
  have f2 := h.bud.free 2
  have HV := Lib.hid hv
  clear hv
  go_wp2
  have hbd := h.bud.put 2 (.int .i64 q)
  have dm := whole_ne_map1 h.bud h.all
  have dt := whole_ne_mapI h.bud h.tak
  have hs : Met1 W (w3.setCell ⟨d, 2, none⟩ (.int .i64 q)) b m d t r 10 2 q l :=
    ⟨h.tr.far (p := ⟨d, 2, none⟩) (whole_ne_whole h.tr h.bud (by simp)) _, h.box.far (p := ⟨d, 2, none⟩) (whole_ne_whole h.box h.bud (by simp)) _, h.all.of_block (Below.heap_setCell _ _ _ _ (fun e => dm e.symm)), hbd, h.tak.of_block (Below.heap_setCell _ _ _ _ (fun e => dt e.symm)), h.geb, h.gem, h.ged, h.get, h.mt, h.below.setCell h.ged _⟩
  clear h d0 d2 f2 hbd
  generalize w3.setCell ⟨d, 2, none⟩ (.int .i64 q) = w4 at hs ⊢
  have d2 := hs.bud.cell 2
  have d3 := hs.bud.cell 3
  have hlI := look_I (P := Tryd.prog) (w := w4.drew) Tryd.underlying88 Tryd.underlying3 (hs.tak.of_block rfl) q (zero_int _)
  have hvv := HV.out
  obtain ⟨w5, hput, hM5, hG5⟩ := put_I (P := Tryd.prog) (w := w4.drew) Tryd.underlying88 Tryd.underlying3 (hs.tak.of_block rfl) q c
  go_still_tail 10, (by kernel_rfl)
  change wpList _ _ _ _ _ w4.drew
  go_wp2
  go_ret
  replace hs := hs.on (Below.refl w4.heap.size w4).drew
  exact ⟨rfl, hs.tr.grown hG5 (fun e => whole_ne_mapI hs.tr hs.tak (by injection e)), hs.box.grown hG5 (fun e => whole_ne_mapI hs.box hs.tak (by injection e)), hs.all.of_block (hG5.block _ hs.all.lt (fun e => hs.mt (by injection e))), hs.bud.grown hG5 (fun e => dt (by injection e)), hM5, hs.geb, hs.gem, hs.ged, hs.get, hs.mt, hs.below.grown hG5 hs.below.size (fun i e => by injection e with e; have := hs.get; omega)⟩

set_option maxRecDepth 100000 in
set_option maxHeartbeats 2000000 in
theorem mleft_there (W w : World) (b m d t r : Nat) (last : Int) (l : List (Int × Int)) (h : Met1 W w b m d t r 10 2 last l) (now q c : Int) (h0 : 0 ≤ now) (h1 : now ≤ 1099511627776) (hq : IntKind.i64.wrap (now.tdiv 10) = q) (hv : IntKind.i64.wrap (2 - (findI l q).getD 0) = c) :
    Calls Tryd.prog 21 #[.pointer (some ⟨b, 0, none⟩), .string ⟨#[116, 49]⟩, .int .i64 2, .int .i64 now] w fun e w' => e = .returned (.tuple #[.int .i64 c, .int .i64 0]) ∧ Met1 W w' b m d t r 10 2 last l := by
  have HN := Lib.hid (mnone_no w b m (h.box.cell 0))
  have HT := Lib.hid (fun w => tick_yes w now h0 h1)
  have c0 := h.box.cell 0
  have hlk := look_K1 h.all ⟨#[116, 49]⟩ 2 (key_t1 2)
  go_enter Tryd.func21, Tryd.ntmps21
  go_wp2_with (first | (go_at_call 34; refine HN.out.mono ?_; rintro e w' ⟨rfl, rfl⟩) | (go_at_call 35; refine (HT.out _).mono ?_; rintro e w' ⟨rfl, hw⟩; rw [hw]; clear hw) | fail)
  have d0 := h.bud.cell 0
  have d1 := h.bud.cell 1
  have d3 := h.bud.cell 3
  have hlI := look_I (P := Tryd.prog) (w := w.drew) Tryd.underlying88 Tryd.underlying3 (h.tak.of_block rfl) q (zero_int _)
  go_still (by kernel_rfl)
  change Exit.then _ _ Exit.normal _ w.drew
  replace h := h.on (Below.refl w.heap.size w).drew
  clear d0 d1 d3 hlI hlk c0 HN
  generalize w.drew = w3 at h ⊢
  go_wp2
  go_ret2
  exact ⟨rfl, h⟩

set_option maxRecDepth 100000 in
set_option maxHeartbeats 2000000 in
theorem mleft_not (W w : World) (b m d t r : Nat) (last : Int) (l : List (Int × Int)) (h : Met1 W w b m d t r 10 2 last l) (now : Int) (h0 : 0 ≤ now) (h1 : now ≤ 1099511627776) :
    Calls Tryd.prog 21 #[.pointer (some ⟨b, 0, none⟩), .string ⟨#[116, 49]⟩, .int .i64 3, .int .i64 now] w fun e w' => e = .returned (.tuple #[.int .i64 0, .int .i64 6]) ∧ Met1 W w' b m d t r 10 2 last l := by
  have HN := Lib.hid (mnone_no w b m (h.box.cell 0))
  have HT := Lib.hid (fun w => tick_yes w now h0 h1)
  have c0 := h.box.cell 0
  have hlk := look_K1 h.all ⟨#[116, 49]⟩ 3 (r := false) (by simp)
  go_enter Tryd.func21, Tryd.ntmps21
  go_wp2_with (first | (go_at_call 34; refine HN.out.mono ?_; rintro e w' ⟨rfl, rfl⟩) | (go_at_call 35; refine (HT.out _).mono ?_; rintro e w' ⟨rfl, hw⟩; rw [hw]; clear hw) | fail)
  go_ret2
  exact ⟨rfl, h⟩

end Go.Proofs.YtglcingpolpkdaaDoor
