/- disk.New of no refused operations; Cut. -/
import Derived.Test.YtmmlpbepaefamaaGreatDoorDApp
namespace Go.Proofs.YtmmlpbepaefamaaGreatDoor
open Go.RowKit Go.MapKept

theorem DiskAt.start (w : World) : DiskAt w (((w.alloc (.map #[] 0)).alloc (.map #[] 0)).alloc (.cells #[.map (some w.heap.size), .map (some (w.heap.size + 1)), .int .i64 0] 60)) (w.heap.size + 2) w.heap.size (w.heap.size + 1) (fun _ => none) [] [] 0 := by
  have s1 : (w.alloc (.map #[] 0)).heap.size = w.heap.size + 1 := by simp
  have b0 : Below w.heap.size w (w.alloc (.map #[] 0)) := (Below.refl _ _).alloc (Nat.le_refl _) _
  have m1 := MapN.new w
  generalize w.alloc (.map #[] 0) = w1 at s1 m1 b0 ⊢
  have s2 : (w1.alloc (.map #[] 0)).heap.size = w.heap.size + 2 := by simp [s1]
  have b1 : Below w1.heap.size w1 (w1.alloc (.map #[] 0)) := (Below.refl _ _).alloc (Nat.le_refl _) _
  have m2 : MapB (w1.alloc (.map #[] 0)) (w.heap.size + 1) [] := s1 ▸ ⟨#[], 0, heap_alloc_new w1 _, rfl⟩
  generalize w1.alloc (.map #[] 0) = w2 at s2 m2 b1 ⊢
  have b2 : Below w2.heap.size w2 (w2.alloc (.cells #[.map (some w.heap.size), .map (some (w.heap.size + 1)), .int .i64 0] 60)) := (Below.refl _ _).alloc (Nat.le_refl _) _
  have hW := Whole.new w2 60 #[.map (some w.heap.size), .map (some (w.heap.size + 1)), .int .i64 0]
  rw [s2] at hW
  have o1 := Only.of_below b1 (fun _ => False)
  have o2 := Only.of_below b2 (fun _ => False)
  exact ⟨hW, (m1.only o1 id).only o2 id, m2.only o2 id, (fun x hx => absurd hx List.not_mem_nil), List.nodup_nil, List.nodup_nil, rfl, rfl, rfl, by omega, by omega, Nat.le_refl _, by omega, b0.trans ((b1.mono b0.size).trans (b2.mono (Nat.le_trans b0.size b1.size))), fun i fb e => by cases e⟩

set_option maxRecDepth 100000 in
set_option maxHeartbeats 1000000 in
theorem dnew_calls (w : World) : Calls Tryz.prog 5 #[.slice none 0 0] w fun e w' => ∃ d, e = .returned (.tuple #[.pointer (some ⟨d, 0, none⟩), .int .i64 0]) ∧ ∃ fm rm own, DiskAt w w' d fm rm own [] [] 0 ∧ (∀ i, own i = none) := by
  have h1 : ∀ w : World, (Instr.makeMap 57 none).run Tryz.prog w = .ok (.map (some w.heap.size)) (w.alloc (.map #[] 0)) := fun w => run_makeMap _ w
  have h2 : ∀ w : World, (Instr.makeMap 58 none).run Tryz.prog w = .ok (.map (some w.heap.size)) (w.alloc (.map #[] 0)) := fun w => run_makeMap _ w
  have hD := DiskAt.start w
  go_enter Tryz.func5, Tryz.ntmps5
  go_wp2
  try simp only [Nat.add_assoc, Nat.reduceAdd]
  generalize ((w.alloc (.map #[] 0)).alloc (.map #[] 0)).alloc (.cells #[.map (some w.heap.size), .map (some (w.heap.size + 1)), .int .i64 0] 60) = w3 at hD ⊢
  obtain ⟨b, hb⟩ : ∃ x, w.heap.size + 2 = x := ⟨_, rfl⟩
  rw [hb] at hD ⊢
  go_loopw [16] (fun i wr => i = .int .i64 0 ∧ w3 = wr) (fun _ _ => 0)
  case atStart => exact ⟨rfl, rfl⟩
  case round =>
    obtain ⟨rfl, rfl⟩ := hrel
    have i1 : ¬ (0 : Int) < 0 := by omega
    go_wp2
    go_ret2
    exact ⟨_, rfl, _, _, _, hD, fun _ => rfl⟩

set_option maxRecDepth 100000 in
set_option maxHeartbeats 4000000 in
theorem dcut_there (W w : World) (d fm rm n : Nat) (own : Nat → Option Nat) (L : List (ByteArray × Nat × Dfile)) (ks : List Int) (h : DiskAt W w d fm rm own L ks n) (hn : n ≤ 1000000000) (s : ByteArray) (hq : ((n : Int) + 1) ∉ ks) (fb : Nat) (f : Dfile) (hg : getL L s = some (fb, f)) (hlen : f.ops.length ≤ 90000) (k : Nat) (hk : k ≤ f.content.length) :
    Calls Tryz.prog 58 #[.pointer (some ⟨d, 0, none⟩), .string s, .int .i64 k] w fun e w' => e = .returned (.int .i64 0) ∧ ∃ own', DiskAt W w' d fm rm own' (setL L s ⟨f.safe, f.ops ++ [.cut k], f.fresh⟩) ks (n + 1) ∧ (∀ i, i < w.heap.size → own' i = own i) ∧ Only w w' fun i => i = d ∨ own i ≠ none := by
  have HN := Lib.hid (count_calls W w d fm rm n own L ks h hn false (decide_eq_false hq))
  clear h
  have hz : ∀ w : World, (zeroValue 84).run Tryz.prog w = .ok (.pointer none) w := fun w => by kernel_rfl
  go_enter Tryz.func58, Tryz.ntmps58
  go_upto_region 4 with (first
    | (go_at_call 74; refine HN.out.mono ?_; rintro e wn ⟨rfl, h, hO⟩)
    | fail)
  have c0 := h.box.cell 0
  have hlk := look_N (P := Tryz.prog) Tryz.underlying57 Tryz.underlying9 h.all s (hz _)
  rw [getL_find, hg] at hlk
  go_upto_region 5 with fail
  replace hg := Lib.hid hg
  have HD := Lib.hid (And.intro h hO)
  clear h hO HN hlk c0
  have HG := hg
  clear hg
  obtain ⟨sv, ov, l, hf⟩ := HD.out.1.get HG.out
  have HSZ := Lib.hid (size_calls wn W.heap.size fb own f sv ov l hf (by omega))
  have HF0 := Lib.hid hf
  have HLB0 := Lib.hid HD.out.1.below.size
  have g1 : ¬ (k : Int) < 0 := by omega
  have g2 : ¬ (f.content.length : Int) < (k : Int) := by omega
  have HOK := Lib.hid (show okOps f.safe (f.ops ++ [Dop.cut k]) from okOps_add _ _ _ hf.okf.2 (fun n e => by (have e2 : (runOps f.safe f.ops).length = f.content.length := rfl); injection e with e; omega) (by show (f.content.take k).length ≤ 1048576; rw [List.length_take]; have := okOps_len _ _ hf.okf.1 hf.okf.2; unfold Dfile.content; omega))
  have HLN := Lib.hid hlen
  clear hf
  go_upto_region 9 with (first
    | (go_at_call 76; refine HSZ.out.mono ?_; rintro e wc ⟨rfl, bs⟩; have HF := Lib.hid (HF0.out.low bs); have HLB := Lib.hid (Nat.le_trans HLB0.out bs.size); replace HD := Lib.hid (show DiskAt W wc d fm rm own L ks (n + 1) ∧ Only w wc (fun i => i = d) from ⟨HD.out.1.low bs, (HD.out.2.trans (Only.of_below bs (fun _ => False))).weak fun _ _ e => e.elim id False.elim⟩); clear HF0 HLB0 bs)
    | fail)
  clear g1 g2
  have y4 := HF.out.box.cell 1
  have b8 : Below wc.heap.size wc (wc.alloc (.cells (opC (.cut k, .slice none 0 0)).toArray 123)) := (Below.refl _ _).alloc (Nat.le_refl _) _
  have s8 := src_new (f := opC) (n := 3) wc 123 (Dop.cut k, .slice none 0 0)
  go_wp2_with (first
    | (refine wpList_append_gen (f := opC) (n := 3) (w := wc.alloc (.cells (opC (.cut k, .slice none 0 0)).toArray 123)) (by rfl) _ _ 119 123 (by rfl) _ 40 Tryz.underlying119 info_op rfl (by decide) (by decide) opC_length W.heap.size _ _ l [(Dop.cut k, .slice none 0 0)] (by rfl) (HF.out.low b8).row (by rfl) s8 (fun q hq => by (obtain rfl : q = _ := by simpa using hq); exact OpAt.one (w := wc) (B := 0) (p := (.cut k, .slice none 0 0)) rfl) (by (have e := HF.out.count); (have e2 := HLN.out); simp only [List.length_cons, List.length_nil]; omega) (Nat.le_trans HLB.out b8.size) ?_; intro v9 w9 O9 G9 M9; obtain ⟨hW9, hF9, hS9⟩ := HF.out.add b8 (Dop.cut k, .slice none 0 0) rfl (fun g hg => by cases hg) O9 G9 M9 HOK.out; obtain ⟨a9, n9, c9, he9⟩ := slice_any O9; subst he9; have z1 := hW9.cell 1; have f1 := hW9.free 1; clear y4)
    | (refine wpList_slice_one (by rfl) 119 123 _ (by rfl) (opC (.cut k, .slice none 0 0)).toArray (by rfl) Tryz.underlying119 zero_op (by decide) (by decide) (by rfl) ?_)
    | fail)
  go_ret
  exact ⟨rfl, _, HD.out.1.file HG.out hS9 hF9, fun i hi => ownG_old _ _ _ _ (Nat.lt_of_lt_of_le hi HD.out.2.size), (HD.out.2.trans hS9).weak fun i hi e => e.imp id fun e => by rw [e]; simp⟩

end Go.Proofs.YtmmlpbepaefamaaGreatDoor
