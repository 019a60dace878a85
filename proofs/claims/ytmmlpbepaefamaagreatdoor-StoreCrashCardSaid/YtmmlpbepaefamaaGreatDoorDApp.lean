/- Disk.Append where it is done. -/
import Derived.Test.YtmmlpbepaefamaaGreatDoorDBaseX5
import Derived.Test.YtmmlpbepaefamaaGreatDoorDSync
namespace Go.Proofs.YtmmlpbepaefamaaGreatDoor
open Go.RowKit Go.MapKept

theorem wp_slice_one {P : Program} {o : Oper} {a : Act} {w : World} {K : Act → World → Prop} {Q : Exit → Act → World → Prop} (t e : TypeId) (x : Operand) (ho : o.op = .buildSlice t 1 #[(0, x)]) (cs : Array Value) (hx : a.eval x = .agg cs) {n : Nat} {z : Value}
    (ht : P.underlying t = some (.slice e)) (hz : (P.info? e).map (fun i => (i.zero, i.size)) = some (some z, n)) (hn : 0 < n) (hn2 : n ≤ 1000) (hc : cs.size = n)
    (h : K (a.put o.dst (.slice (some ⟨w.heap.size, 0, none⟩) 1 1)) (w.alloc (.cells cs e))) : o.wp P a w K Q := by
  unfold Oper.wp execOp
  simp only [ho]
  simp [hx, run_slice_one w ht hz hn hn2 cs hc]
  exact h
theorem SliceIs.only {w w' : World} {S : Nat → Prop} {v : Value} {l : List (BitVec 8)} (h : SliceIs w v l) (ho : Only w w' S) (hs : ∀ g o c, v = .slice (some ⟨g, o, none⟩) l.length c → ¬ S g) : SliceIs w' v l := by
  rcases h with h | ⟨b, o, c, rfl, hl, hy⟩
  · exact .inl h
  · exact .inr ⟨b, o, c, rfl, Nat.lt_of_lt_of_le hl ho.size, fun j x hx => (World.cell?_of_block (a := ⟨b, o + j, none⟩) (ho.block b hl (hs b o c rfl))).trans (hy j x hx)⟩
theorem SliceIs.only2 {w w' : World} {S : Nat → Prop} {v : Value} {l : List (BitVec 8)} (h : SliceIs w v l) (ho : Only w w' S) (hs : l ≠ [] → ∀ g o c, v = .slice (some ⟨g, o, none⟩) l.length c → ¬ S g) : SliceIs w' v l := by
  by_cases hl : l = []
  · subst hl
    rcases h with h | ⟨b, o, c, rfl, _, _⟩
    · exact .inl h
    · exact .inl ⟨rfl, .inr ⟨_, _, rfl⟩⟩
  · exact h.only ho (hs hl)
theorem zero_op : (Tryz.prog.info? 123).map (fun i => (i.zero, i.size)) = some (some (.agg #[.bool false, .int .i64 0, .slice none 0 0]), 3) := by kernel_rfl
theorem info_op : ∃ i, Tryz.prog.info? 123 = some i ∧ i.zero = some (.agg #[.bool false, .int .i64 0, .slice none 0 0]) ∧ i.size = 3 ∧ i.bytes = 40 := info_of (by kernel_rfl)
theorem opC_one2 {w : World} {B : Nat} {v : Value} {b : List (BitVec 8)} (h : Own w B v b) : ∀ y ∈ opC (.add b, v), y.oneCell' = true := OpAt.one (w := w) (B := B) (p := (.add b, v)) h
theorem getL_add : ∀ (L : List (ByteArray × Nat × Dfile)) (s : ByteArray) (p : Nat × Dfile), getL L s = none → getL (L ++ [(s, p)]) s = some p
  | [], s, p, _ => by simp [getL]
  | x :: L, s, p, h => by
    unfold getL at h
    split at h
    · cases h
    · rename_i hx
      rw [List.cons_append]
      unfold getL
      rw [if_neg hx]
      exact getL_add L s p h
theorem setL_add : ∀ (L : List (ByteArray × Nat × Dfile)) (s : ByteArray) (p : Nat × Dfile) (f : Dfile), getL L s = none → setL (L ++ [(s, p)]) s f = L ++ [(s, p.1, f)]
  | [], s, p, f, _ => by simp [setL]
  | x :: L, s, p, f, h => by
    unfold getL at h
    split at h
    · cases h
    · rename_i hx
      rw [List.cons_append]
      unfold setL
      rw [if_neg hx, setL_add L s p f h]
      rfl
theorem getL_none : ∀ (L : List (ByteArray × Nat × Dfile)) (s : ByteArray), getL L s = none → ∀ x ∈ L, x.1 ≠ s
  | [], _, _, _, hx => by cases hx
  | y :: L, s, h, x, hx => by
    unfold getL at h
    split at h
    · cases h
    · rename_i hy
      rcases List.mem_cons.1 hx with rfl | hx
      · exact hy
      · exact getL_none L s h x hx
/-- A file with one more operation. -/
theorem FileAt.add {w w2 w3 : World} {B fb : Nat} {own : Nat → Option Nat} {f : Dfile} {sv ov v' : Value} {l : List (Dop × Value)} (h : FileAt w B own fb f sv ov l) (hb : Below w.heap.size w w2) (p : Dop × Value) (hp : OpAt w2 B p) (hnew : ∀ g, p.2.ownBlock = some g → w.heap.size ≤ g)
    (hrow : w3.ownsRow B 123 3 v' (l ++ [p]).length ((l ++ [p]).flatMap opC)) (hG : w2.grownBy w3 ov.ownBlock) (hM : Moved w2 ov v') (hok : okOps f.safe (f.ops ++ [p.1])) :
    Whole w3 fb 121 [sv, ov, .bool f.fresh] ∧ FileAt (w3.setCell ⟨fb, 1, none⟩ v') B (ownG own w.heap.size (w3.setCell ⟨fb, 1, none⟩ v').heap.size fb) fb ⟨f.safe, f.ops ++ [p.1], f.fresh⟩ sv v' (l ++ [p]) ∧ Only w (w3.setCell ⟨fb, 1, none⟩ v') (fun i => own i = some fb) := by
  have hfb := h.box.lt
  have hoF : ov.ownBlock ≠ some fb := row_ne_whole h.row h.box (by decide)
  have hov : ∀ {g}, ov.ownBlock = some g → g < w.heap.size := fun hg => row_lt h.row hg
  have o12 : Only w w3 fun i => ov.ownBlock = some i := ((Only.of_below hb (fun _ => False)).trans (Only.of_grown hG)).weak fun _ _ e => e.elim False.elim id
  have hW := h.box.only o12 hoF
  have oS := Only.set w3 ⟨fb, 1, none⟩ v'
  have oA : Only w (w3.setCell ⟨fb, 1, none⟩ v') fun i => ov.ownBlock = some i ∨ i = fb := o12.trans oS
  have typ : ∀ {g : Nat} {l2 : List (BitVec 8)} {u : Value}, Own w B u l2 → u.ownBlock = some g → ov.ownBlock ≠ some g := fun hu hg e => by
    obtain ⟨c1, h1⟩ := row_type hu hg
    obtain ⟨c2, h2⟩ := row_type h.row e
    rw [h1] at h2
    have h2 := Option.some.inj h2
    injection h2 with _ h2 _
    exact absurd h2 (by decide)
  have ne : ∀ {g : Nat} {l2 : List (BitVec 8)} {u : Value}, Own w B u l2 → u.ownBlock = some g → ¬ (ov.ownBlock = some g ∨ g = fb) := fun hu hg e => by
    rcases e with e | rfl
    · exact typ hu hg e
    · exact row_ne_whole hu h.box (by decide) hg
  have sz : w.heap.size ≤ w3.heap.size := Nat.le_trans hb.size hG.size
  refine ⟨hW, ⟨hW.put 1 v', row_only h.safe oA (fun g hg => ne h.safe hg), by rw [List.map_append, h.ops]; rfl, row_only hrow oS (fun g hg e => ?_), fun q hq => ?_, h.geb, ?_, fun g hg => ?_, fun g hg => ?_, fun q hq g hg => ?_, fun q hq g hg => ?_, ⟨h.okf.1, hok⟩⟩, oA.weak ?_⟩
  · exact row_ne_whole hrow hW (by decide) (hg.trans (congrArg some e))
  · rcases List.mem_append.1 hq with hq | hq
    · refine (h.each q hq).only oA fun g hg => ?_
      obtain ⟨l2, hl2⟩ := (h.each q hq).own
      exact ne hl2 hg
    · obtain rfl : q = p := by simpa using hq
      refine hp.only ((Only.of_grown hG).trans oS) fun g hg e => ?_
      have := hnew g hg
      rcases e with e | e
      · have := hov e
        omega
      · have e : g = fb := e
        omega
  · rw [ownG_old _ _ _ _ hfb]
    exact h.me
  · rw [ownG_old _ _ _ _ (row_lt h.safe hg)]
    exact h.mySafe g hg
  · rcases hM with e | ⟨g', e, hg'⟩
    · rw [e] at hg
      rw [ownG_old _ _ _ _ (hov hg)]
      exact h.myOps g hg
    · rw [e] at hg
      obtain rfl : g' = g := Option.some.inj hg
      exact ownG_new _ _ _ _ (Nat.le_trans hb.size hg') (by simpa using row_lt hrow e)
  · rcases List.mem_append.1 hq with hq | hq
    · obtain ⟨l2, hl2⟩ := (h.each q hq).own
      rw [ownG_old _ _ _ _ (row_lt hl2 hg)]
      exact h.myEach q hq g hg
    · obtain rfl : q = p := by simpa using hq
      obtain ⟨l2, hl2⟩ := hp.own
      exact ownG_new _ _ _ _ (hnew g hg) (by have := row_lt hl2 hg; have := hG.size; simp; omega)
  · rcases List.mem_append.1 hq with hq | hq
    · exact h.apart q hq g hg
    · obtain rfl : q = p := by simpa using hq
      intro e
      have := hnew g hg
      have := row_lt h.safe e
      omega
  · rintro i hi (e | rfl)
    · exact h.myOps i e
    · exact h.me

set_option maxRecDepth 100000 in
/-- A new file in the map. -/
theorem DiskAt.more {W w : World} {d fm rm n : Nat} {own : Nat → Option Nat} {L : List (ByteArray × Nat × Dfile)} {ks : List Int} (h : DiskAt W w d fm rm own L ks n) {s : ByteArray} (hg : getL L s = none) :
    ∃ w4, (Instr.mapUpdate 57 (.map (some fm)) (.string s) (.pointer (some ⟨w.heap.size, 0, none⟩))).run Tryz.prog (w.alloc (.cells #[.slice none 0 0, .slice none 0 0, .bool true] 121)) = .ok () w4 ∧
      DiskAt W w4 d fm rm (ownG own w.heap.size w4.heap.size w.heap.size) (L ++ [(s, w.heap.size, ⟨[], [], true⟩)]) ks n ∧ Only w w4 (fun i => i = fm) ∧ w4.heap.size = w.heap.size + 1 := by
  have o1 := Only.alloc w (.cells #[.slice none 0 0, .slice none 0 0, .bool true] 121) (fun _ => False)
  have hB := Whole.new w 121 #[.slice none 0 0, .slice none 0 0, .bool true]
  have hA := h.all.only o1 id
  obtain ⟨w4, hr, hM, hG, hsz⟩ := put_N (P := Tryz.prog) Tryz.underlying57 Tryz.underlying9 hA s (.pointer (some ⟨w.heap.size, 0, none⟩)) (by rw [getL_find, hg]; rfl)
  have o2 : Only w w4 fun i => i = fm := (o1.trans (Only.of_grown hG)).weak fun i _ e => e.elim False.elim (fun e => by injection e with e; exact e.symm)
  have hs4 : w4.heap.size = w.heap.size + 1 := by rw [hsz]; simp
  have no : ∀ {b : Nat} {fb : Nat}, own b = some fb → ¬ b = fm := fun e e2 => by rw [e2, h.noF] at e; cases e
  have old : ∀ i, i < w.heap.size → ownG own w.heap.size w4.heap.size w.heap.size i = own i := fun i hi => ownG_old _ _ _ _ hi
  have hm := h.all.lt
  have hd := h.box.lt
  have hrl := h.ref.lt
  have hlt : ∀ x ∈ L, x.2.1 < w.heap.size := fun x hx => by
    obtain ⟨_, _, _, hf⟩ := h.each x hx
    exact hf.box.lt
  refine ⟨w4, hr, ⟨h.box.only o2 h.dm.1, by rw [List.map_append]; exact hM, h.ref.only o2 (fun e => h.fr e.symm), fun x hx => ?_, ?_, ?_, (old _ hd).trans h.noD, (old _ hm).trans h.noF, (old _ hrl).trans h.noR, h.fr, h.ged, h.gef, h.ger, h.below.trans (o2.below h.below.size fun i _ e => e ▸ h.gef), fun i fb e => ?_⟩, o2, hs4⟩
  · rcases List.mem_append.1 hx with hx | hx
    · obtain ⟨sv, ov, l, hf⟩ := h.each x hx
      exact ⟨sv, ov, l, hf.only o2 (fun i hi => no hi) old⟩
    · obtain rfl : x = _ := by simpa using hx
      refine ⟨.slice none 0 0, .slice none 0 0, [], ⟨?_, Own.nil _ _, rfl, World.ownsRow_nil _ _ _ _, (fun p hp => absurd hp List.not_mem_nil), h.below.size, ownG_new _ _ _ _ (Nat.le_refl _) (by show w.heap.size < w4.heap.size; omega), (fun g hg => by cases hg), (fun g hg => by cases hg), (fun p hp => absurd hp List.not_mem_nil), (fun p hp => absurd hp List.not_mem_nil), ⟨by simp, trivial⟩⟩⟩
      exact hB.only (Only.of_grown hG) (fun e => by (have e2 : fm = w.heap.size := by injection e); omega)
  · rw [List.map_append, List.nodup_append]
    refine ⟨h.nod, by simp, fun a ha b hb e => ?_⟩
    obtain ⟨x, hx, rfl⟩ := List.mem_map.1 ha
    obtain rfl : b = w.heap.size := by simpa using hb
    have := hlt x hx
    omega
  · rw [List.map_append, List.nodup_append]
    refine ⟨h.keys, by simp, fun a ha b hb e => ?_⟩
    obtain ⟨x, hx, rfl⟩ := List.mem_map.1 ha
    obtain rfl : b = s := by simpa using hb
    exact getL_none L _ hg x hx e
  · unfold ownG at e
    split at e
    · rename_i hh
      exact ⟨Nat.le_trans h.below.size hh.1, hh.2⟩
    · have := h.old i fb e
      exact ⟨this.1, by omega⟩

set_option maxRecDepth 100000 in
set_option maxHeartbeats 4000000 in
theorem dapp_there (W w : World) (d fm rm n : Nat) (own : Nat → Option Nat) (L : List (ByteArray × Nat × Dfile)) (ks : List Int) (h : DiskAt W w d fm rm own L ks n) (hn : n ≤ 1000000000) (s : ByteArray) (hq : ((n : Int) + 1) ∉ ks) (hnm : nameN s = true) (hs : s.size ≤ 9223372036854775806) (fb : Nat) (f : Dfile) (hg : getL L s = some (fb, f)) (hlen : f.ops.length ≤ 90000) (bv : Value) (b : List (BitVec 8)) (hb : SliceIs w bv b) (hbd : b ≠ [] → ∀ g o c, bv = .slice (some ⟨g, o, none⟩) b.length c → g ≠ d) (hfit : f.content.length + b.length ≤ 1048576) :
    Calls Tryz.prog 44 #[.pointer (some ⟨d, 0, none⟩), .string s, bv] w fun e w' => e = .returned (.int .i64 0) ∧ ∃ own', DiskAt W w' d fm rm own' (setL L s ⟨f.safe, f.ops ++ [.add b], f.fresh⟩) ks (n + 1) ∧ (∀ i, i < w.heap.size → own' i = own i) ∧ Only w w' fun i => i = d ∨ own i ≠ none := by
  have HN := Lib.hid (count_calls W w d fm rm n own L ks h hn false (decide_eq_false hq))
  have HNM := Lib.hid (fun w => hnm ▸ named_calls w s hs)
  clear h
  have hz : ∀ w : World, (zeroValue 84).run Tryz.prog w = .ok (.pointer none) w := fun w => by kernel_rfl
  go_enter Tryz.func44, Tryz.ntmps44
  go_upto_region 4 with (first
    | (go_at_call 74; refine HN.out.mono ?_; rintro e wc ⟨rfl, h, hO⟩)
    | fail)
  replace hb := hb.only2 hO hbd
  have c0 := h.box.cell 0
  have hlk := look_N (P := Tryz.prog) Tryz.underlying57 Tryz.underlying9 h.all s (hz _)
  rw [getL_find, hg] at hlk
  go_upto_region 5 with fail
  replace hg := Lib.hid hg
  have HD0 := Lib.hid (And.intro h hO)
  clear h hO HN hlk c0
  go_upto_region 7 with (first
    | (go_at_call 75; refine (HNM.out _).mono ?_; rintro e wn ⟨rfl, bn⟩)
    | fail)
  replace hb := hb.low bn
  have HD := Lib.hid (show DiskAt W wn d fm rm own L ks (n + 1) ∧ Only w wn (fun i => i = d) from ⟨HD0.out.1.low bn, (HD0.out.2.trans (Only.of_below bn (fun _ => False))).weak fun _ _ e => e.elim id False.elim⟩)
  have HG := hg
  clear bn HD0 hg
  obtain ⟨sv, ov, l, hf⟩ := HD.out.1.get HG.out
  have HSZ := Lib.hid (size_calls wn W.heap.size fb own f sv ov l hf (by omega))
  have HF0 := Lib.hid hf
  have HLB0 := Lib.hid HD.out.1.below.size
  obtain ⟨ba, bl, bc, hbv⟩ : ∃ ba bl bc, bv = .slice ba bl bc ∧ bl = b.length := by
    rcases hb with ⟨rfl, rfl | ⟨ad, c, rfl⟩⟩ | ⟨_, _, _, rfl, _, _⟩ <;> exact ⟨_, _, _, rfl, rfl⟩
  obtain ⟨hbv, rfl⟩ := hbv
  subst hbv
  have g1 : IntKind.i64.wrap ((f.content.length : Int) + (b.length : Int)) = (f.content.length : Int) + (b.length : Int) := IntWalk.i64_in _ (by omega)
  have g2 : ¬ (1048576 : Int) < (f.content.length : Int) + (b.length : Int) := by omega
  have hb63 : b.length ≤ 140737488355328 := by omega
  have HOK := Lib.hid (show okOps f.safe (f.ops ++ [Dop.add b]) from okOps_add _ _ _ hf.okf.2 (fun n e => by cases e) (by show (f.content ++ b).length ≤ 1048576; rw [List.length_append]; exact hfit))
  have HLN := Lib.hid hlen
  clear hf
  go_wp2_with (first
    | (go_at_call 76; refine HSZ.out.mono ?_; rintro e wc ⟨rfl, bs⟩; replace hb := hb.low bs; have HF := Lib.hid (HF0.out.low bs); have HLB := Lib.hid (Nat.le_trans HLB0.out bs.size); replace HD := Lib.hid (show DiskAt W wc d fm rm own L ks (n + 1) ∧ Only w wc (fun i => i = d) from ⟨HD.out.1.low bs, (HD.out.2.trans (Only.of_below bs (fun _ => False))).weak fun _ _ e => e.elim id False.elim⟩); clear HF0 HLB0 bs)
    | fail)
  clear g1 g2 hfit
  refine wp_region_noPanic ?_
  refine wp_region_held_drew (S := fun _ => True) (by kernel_rfl) (trivial) (fun hhS => ?_)
  have hTr : True := trivial
  have hBd : Below wc.heap.size wc wc.drew := (Below.refl _ _).drew
  generalize wc.drew = wd at hBd ⊢
  refine wpAnyH_take (i := 0) (oi := ⟨some 65, _, _, _, _, _⟩) (v := ?_) rfl (by kernel_rfl) (by kernel_rfl) (by kernel_rfl) (fun _ _ _ h => h) (Or.inl ⟨by rfl, ?_⟩) (by assumption) ?_
  rotate_left
  · intro w hSw
    (try dsimp only at hSw)
    go_simp
    all_goals (with_reducible rfl)
  try simp only [Act.put, List.setIfInBounds_toArray, List.set_cons_zero, List.set_cons_succ]
  refine wpAnyH_take (i := 1) (oi := ⟨some 66, _, _, _, _, _⟩) (v := ?_) rfl (by kernel_rfl) (by kernel_rfl) (by kernel_rfl) (fun _ _ _ h => h) (Or.inl ⟨by rfl, ?_⟩) (by assumption) ?_
  rotate_left
  · intro w hSw
    (try dsimp only at hSw)
    go_simp
    all_goals (with_reducible rfl)
  try simp only [Act.put, List.setIfInBounds_toArray, List.set_cons_zero, List.set_cons_succ]
  refine wpAnyH_take (i := 2) (oi := ⟨some 67, _, _, _, _, _⟩) (v := ?_) rfl (by kernel_rfl) (by kernel_rfl) (by kernel_rfl) (fun _ _ _ h => h) (Or.inl ⟨by rfl, ?_⟩) (by assumption) ?_
  rotate_left
  · intro w hSw
    (try dsimp only at hSw)
    go_simp
    all_goals (with_reducible rfl)
  try simp only [Act.put, List.setIfInBounds_toArray, List.set_cons_zero, List.set_cons_succ]
  refine wpAnyH_take (i := 3) (oi := ⟨some 68, _, _, _, _, _⟩) (v := ?_) rfl (by kernel_rfl) (by kernel_rfl) (by kernel_rfl) (fun _ _ _ h => h) (Or.inl ⟨by rfl, ?_⟩) (by assumption) ?_
  rotate_left
  · intro w hSw
    (try dsimp only at hSw)
    go_simp
    all_goals (with_reducible rfl)
  try simp only [Act.put, List.setIfInBounds_toArray, List.set_cons_zero, List.set_cons_succ]
  refine wpAnyH_take (i := 5) (oi := ⟨some 70, _, _, _, _, _⟩) (v := ?_) rfl (by kernel_rfl) (by kernel_rfl) (by kernel_rfl) (fun _ _ _ h => h) (Or.inl ⟨by rfl, ?_⟩) (by assumption) ?_
  rotate_left
  · intro w hSw
    (try dsimp only at hSw)
    go_simp
    all_goals (with_reducible rfl)
  try simp only [Act.put, List.setIfInBounds_toArray, List.set_cons_zero, List.set_cons_succ]
  refine wpAnyH_ready (rs := [4, 6]) (by kernel_rfl) (by simp) ?_
  refine AllReadyH.cons (o := ⟨some 69, _, _, _, _, _⟩) rfl (fun K hK => ?_) ?_
  · have y4 := (HF.out.low hBd).box.cell 1
    go_simp
    refine hK.out _ _ (trivial) (fun _ => ?_)
    clear hK K
    try simp only [Act.put, List.setIfInBounds_toArray, List.set_cons_zero, List.set_cons_succ]
    refine wpAnyH_ready (rs := [6]) (by kernel_rfl) (by simp) ?_
    refine AllReadyH.cons (o := ⟨some 71, _, _, _, _, _⟩) rfl (fun K hK => ?_) AllReadyH.nil
    go_simp
    refine (clone_calls _ _ b (hb.low hBd) hb63).mono ?_
    rintro e w6 ⟨_, rfl, ⟨a6, n6, c6, rfl⟩, O6, b6⟩
    have B6 := hBd.trans (b6.mono hBd.size)
    have hO6 := own_down hBd.size O6
    refine hK.out _ _ (trivial) (fun _ => ?_)
    clear hK K
    try simp only [Act.put, List.setIfInBounds_toArray, List.set_cons_zero, List.set_cons_succ]
    refine wpAnyH_take (i := 7) (oi := ⟨some 72, _, _, _, _, _⟩) (v := ?_) rfl (by kernel_rfl) (by kernel_rfl) (by kernel_rfl) (fun _ _ _ h => h) (Or.inl ⟨by rfl, ?_⟩) (by assumption) ?_
    rotate_left
    · intro w hSw
      (try dsimp only at hSw)
      go_simp
      all_goals (with_reducible rfl)
    try simp only [Act.put, List.setIfInBounds_toArray, List.set_cons_zero, List.set_cons_succ]
    refine wpAnyH_ready (rs := [8]) (by kernel_rfl) (by simp) ?_
    refine AllReadyH.cons (o := ⟨some 73, _, _, _, _, _⟩) rfl (fun K hK => ?_) AllReadyH.nil
    rw [if_pos (by rfl)]
    refine wp_slice_one 119 123 _ (by rfl) (opC (.add b, .slice a6 n6 c6)).toArray (by rfl) Tryz.underlying119 zero_op (by decide) (by decide) (by rfl) ?_
    have B8 := B6.trans (((Below.refl w6.heap.size w6).alloc (Nat.le_refl _) (.cells (opC (.add b, .slice a6 n6 c6)).toArray 123)).mono B6.size)
    have s8 := src_new (f := opC) (n := 3) w6 123 (Dop.add b, .slice a6 n6 c6)
    have hO8 := row_low hO6 ((Below.refl w6.heap.size w6).alloc (Nat.le_refl _) (.cells (opC (.add b, .slice a6 n6 c6)).toArray 123))
    generalize w6.alloc (.cells (opC (.add b, .slice a6 n6 c6)).toArray 123) = w8 at B8 s8 hO8 ⊢
    refine hK.out _ _ (trivial) (fun _ => ?_)
    clear hK K
    try simp only [Act.put, List.setIfInBounds_toArray, List.set_cons_zero, List.set_cons_succ]
    refine wpAnyH_ready (rs := [9]) (by kernel_rfl) (by simp) ?_
    refine AllReadyH.cons (o := ⟨some 74, _, _, _, _, _⟩) rfl (fun K hK => ?_) AllReadyH.nil
    rw [if_pos (by rfl)]
    refine wp_append_gen (f := opC) (n := 3) _ _ 119 123 (by rfl) _ 40 Tryz.underlying119 info_op rfl (by decide) (by decide) opC_length W.heap.size _ _ l [(Dop.add b, .slice a6 n6 c6)] (by rfl) (HF.out.low B8).row (by rfl) s8 (fun q hq => by (obtain rfl : q = _ := by simpa using hq); exact opC_one2 O6) (by (have e := HF.out.count); (have e2 := HLN.out); simp only [List.length_cons, List.length_nil]; omega) (Nat.le_trans HLB.out B8.size) ?_
    intro v9 w9 O9 G9 M9
    obtain ⟨hW9, hF9, hS9⟩ := HF.out.add B8 (Dop.add b, .slice a6 n6 c6) (show Own w8 W.heap.size _ b from own_down HLB.out hO8) (fun g hg => own_ge hO6 hg) O9 G9 M9 HOK.out
    obtain ⟨a9, n9, c9, he9⟩ := slice_any O9
    subst he9
    have z1 := hW9.cell 1
    have f1 := hW9.free 1
    try clear y4
    refine hK.out _ _ (trivial) (fun _ => ?_)
    clear hK K
    try simp only [Act.put, List.setIfInBounds_toArray, List.set_cons_zero, List.set_cons_succ]
    refine wpAnyH_take (i := 10) (oi := ⟨some 75, _, _, _, _, _⟩) (v := ?_) rfl (by kernel_rfl) (by kernel_rfl) (by kernel_rfl) (fun _ _ _ h => h) (Or.inl ⟨by rfl, ?_⟩) (by assumption) ?_
    rotate_left
    · intro w hSw
      (try dsimp only at hSw)
      go_simp
      all_goals (with_reducible rfl)
    try simp only [Act.put, List.setIfInBounds_toArray, List.set_cons_zero, List.set_cons_succ]
    refine wpAnyH_take (i := 11) (oi := ⟨some 76, _, _, _, _, _⟩) (v := ?_) rfl (by kernel_rfl) (by kernel_rfl) (by kernel_rfl) (fun _ _ _ h => h) (Or.inl ⟨by rfl, ?_⟩) (by assumption) ?_
    rotate_left
    · intro w hSw
      (try dsimp only at hSw)
      go_simp
      all_goals (with_reducible rfl)
    try simp only [Act.put, List.setIfInBounds_toArray, List.set_cons_zero, List.set_cons_succ]
    refine wpAnyH_ready (rs := [12]) (by kernel_rfl) (by simp) ?_
    refine AllReadyH.cons (o := ⟨none, _, _, _, _, _⟩) rfl (fun K hK => ?_) AllReadyH.nil
    go_simp
    refine hK.out _ _ (trivial) (fun _ => ?_)
    clear hK K
    try simp only [Act.put]
    refine wpAnyH_done (by kernel_rfl) ?_ _
    refine NoPanic.normal ?_
    go_wp2
    go_ret
    exact ⟨rfl, _, HD.out.1.file HG.out hS9 hF9, fun i hi => ownG_old _ _ _ _ (Nat.lt_of_lt_of_le hi HD.out.2.size), (HD.out.2.trans hS9).weak fun i hi e => e.imp id fun e => by rw [e]; simp⟩
  refine AllReadyH.cons (o := ⟨some 71, _, _, _, _, _⟩) rfl (fun K hK => ?_) AllReadyH.nil
  go_simp
  refine (clone_calls _ _ b (hb.low hBd) hb63).mono ?_
  rintro e w6 ⟨_, rfl, ⟨a6, n6, c6, rfl⟩, O6, b6⟩
  have B6 := hBd.trans (b6.mono hBd.size)
  have hO6 := own_down hBd.size O6
  refine hK.out _ _ (trivial) (fun _ => ?_)
  clear hK K
  try simp only [Act.put, List.setIfInBounds_toArray, List.set_cons_zero, List.set_cons_succ]
  refine wpAnyH_take (i := 7) (oi := ⟨some 72, _, _, _, _, _⟩) (v := ?_) rfl (by kernel_rfl) (by kernel_rfl) (by kernel_rfl) (fun _ _ _ h => h) (Or.inl ⟨by rfl, ?_⟩) (by assumption) ?_
  rotate_left
  · intro w hSw
    (try dsimp only at hSw)
    go_simp
    all_goals (with_reducible rfl)
  try simp only [Act.put, List.setIfInBounds_toArray, List.set_cons_zero, List.set_cons_succ]
  refine wpAnyH_ready (rs := [4, 8]) (by kernel_rfl) (by simp) ?_
  refine AllReadyH.cons (o := ⟨some 69, _, _, _, _, _⟩) rfl (fun K hK => ?_) ?_
  · have y4 := (HF.out.low B6).box.cell 1
    go_simp
    refine hK.out _ _ (trivial) (fun _ => ?_)
    clear hK K
    try simp only [Act.put, List.setIfInBounds_toArray, List.set_cons_zero, List.set_cons_succ]
    refine wpAnyH_ready (rs := [8]) (by kernel_rfl) (by simp) ?_
    refine AllReadyH.cons (o := ⟨some 73, _, _, _, _, _⟩) rfl (fun K hK => ?_) AllReadyH.nil
    rw [if_pos (by rfl)]
    refine wp_slice_one 119 123 _ (by rfl) (opC (.add b, .slice a6 n6 c6)).toArray (by rfl) Tryz.underlying119 zero_op (by decide) (by decide) (by rfl) ?_
    have B8 := B6.trans (((Below.refl w6.heap.size w6).alloc (Nat.le_refl _) (.cells (opC (.add b, .slice a6 n6 c6)).toArray 123)).mono B6.size)
    have s8 := src_new (f := opC) (n := 3) w6 123 (Dop.add b, .slice a6 n6 c6)
    have hO8 := row_low hO6 ((Below.refl w6.heap.size w6).alloc (Nat.le_refl _) (.cells (opC (.add b, .slice a6 n6 c6)).toArray 123))
    generalize w6.alloc (.cells (opC (.add b, .slice a6 n6 c6)).toArray 123) = w8 at B8 s8 hO8 ⊢
    refine hK.out _ _ (trivial) (fun _ => ?_)
    clear hK K
    try simp only [Act.put, List.setIfInBounds_toArray, List.set_cons_zero, List.set_cons_succ]
    refine wpAnyH_ready (rs := [9]) (by kernel_rfl) (by simp) ?_
    refine AllReadyH.cons (o := ⟨some 74, _, _, _, _, _⟩) rfl (fun K hK => ?_) AllReadyH.nil
    rw [if_pos (by rfl)]
    refine wp_append_gen (f := opC) (n := 3) _ _ 119 123 (by rfl) _ 40 Tryz.underlying119 info_op rfl (by decide) (by decide) opC_length W.heap.size _ _ l [(Dop.add b, .slice a6 n6 c6)] (by rfl) (HF.out.low B8).row (by rfl) s8 (fun q hq => by (obtain rfl : q = _ := by simpa using hq); exact opC_one2 O6) (by (have e := HF.out.count); (have e2 := HLN.out); simp only [List.length_cons, List.length_nil]; omega) (Nat.le_trans HLB.out B8.size) ?_
    intro v9 w9 O9 G9 M9
    obtain ⟨hW9, hF9, hS9⟩ := HF.out.add B8 (Dop.add b, .slice a6 n6 c6) (show Own w8 W.heap.size _ b from own_down HLB.out hO8) (fun g hg => own_ge hO6 hg) O9 G9 M9 HOK.out
    obtain ⟨a9, n9, c9, he9⟩ := slice_any O9
    subst he9
    have z1 := hW9.cell 1
    have f1 := hW9.free 1
    try clear y4
    refine hK.out _ _ (trivial) (fun _ => ?_)
    clear hK K
    try simp only [Act.put, List.setIfInBounds_toArray, List.set_cons_zero, List.set_cons_succ]
    refine wpAnyH_take (i := 10) (oi := ⟨some 75, _, _, _, _, _⟩) (v := ?_) rfl (by kernel_rfl) (by kernel_rfl) (by kernel_rfl) (fun _ _ _ h => h) (Or.inl ⟨by rfl, ?_⟩) (by assumption) ?_
    rotate_left
    · intro w hSw
      (try dsimp only at hSw)
      go_simp
      all_goals (with_reducible rfl)
    try simp only [Act.put, List.setIfInBounds_toArray, List.set_cons_zero, List.set_cons_succ]
    refine wpAnyH_take (i := 11) (oi := ⟨some 76, _, _, _, _, _⟩) (v := ?_) rfl (by kernel_rfl) (by kernel_rfl) (by kernel_rfl) (fun _ _ _ h => h) (Or.inl ⟨by rfl, ?_⟩) (by assumption) ?_
    rotate_left
    · intro w hSw
      (try dsimp only at hSw)
      go_simp
      all_goals (with_reducible rfl)
    try simp only [Act.put, List.setIfInBounds_toArray, List.set_cons_zero, List.set_cons_succ]
    refine wpAnyH_ready (rs := [12]) (by kernel_rfl) (by simp) ?_
    refine AllReadyH.cons (o := ⟨none, _, _, _, _, _⟩) rfl (fun K hK => ?_) AllReadyH.nil
    go_simp
    refine hK.out _ _ (trivial) (fun _ => ?_)
    clear hK K
    try simp only [Act.put]
    refine wpAnyH_done (by kernel_rfl) ?_ _
    refine NoPanic.normal ?_
    go_wp2
    go_ret
    exact ⟨rfl, _, HD.out.1.file HG.out hS9 hF9, fun i hi => ownG_old _ _ _ _ (Nat.lt_of_lt_of_le hi HD.out.2.size), (HD.out.2.trans hS9).weak fun i hi e => e.imp id fun e => by rw [e]; simp⟩
  refine AllReadyH.cons (o := ⟨some 73, _, _, _, _, _⟩) rfl (fun K hK => ?_) AllReadyH.nil
  rw [if_pos (by rfl)]
  refine wp_slice_one 119 123 _ (by rfl) (opC (.add b, .slice a6 n6 c6)).toArray (by rfl) Tryz.underlying119 zero_op (by decide) (by decide) (by rfl) ?_
  have B8 := B6.trans (((Below.refl w6.heap.size w6).alloc (Nat.le_refl _) (.cells (opC (.add b, .slice a6 n6 c6)).toArray 123)).mono B6.size)
  have s8 := src_new (f := opC) (n := 3) w6 123 (Dop.add b, .slice a6 n6 c6)
  have hO8 := row_low hO6 ((Below.refl w6.heap.size w6).alloc (Nat.le_refl _) (.cells (opC (.add b, .slice a6 n6 c6)).toArray 123))
  generalize w6.alloc (.cells (opC (.add b, .slice a6 n6 c6)).toArray 123) = w8 at B8 s8 hO8 ⊢
  refine hK.out _ _ (trivial) (fun _ => ?_)
  clear hK K
  try simp only [Act.put, List.setIfInBounds_toArray, List.set_cons_zero, List.set_cons_succ]
  refine wpAnyH_ready (rs := [4]) (by kernel_rfl) (by simp) ?_
  refine AllReadyH.cons (o := ⟨some 69, _, _, _, _, _⟩) rfl (fun K hK => ?_) AllReadyH.nil
  have y4 := (HF.out.low B8).box.cell 1
  go_simp
  refine hK.out _ _ (trivial) (fun _ => ?_)
  clear hK K
  try simp only [Act.put, List.setIfInBounds_toArray, List.set_cons_zero, List.set_cons_succ]
  refine wpAnyH_ready (rs := [9]) (by kernel_rfl) (by simp) ?_
  refine AllReadyH.cons (o := ⟨some 74, _, _, _, _, _⟩) rfl (fun K hK => ?_) AllReadyH.nil
  rw [if_pos (by rfl)]
  refine wp_append_gen (f := opC) (n := 3) _ _ 119 123 (by rfl) _ 40 Tryz.underlying119 info_op rfl (by decide) (by decide) opC_length W.heap.size _ _ l [(Dop.add b, .slice a6 n6 c6)] (by rfl) (HF.out.low B8).row (by rfl) s8 (fun q hq => by (obtain rfl : q = _ := by simpa using hq); exact opC_one2 O6) (by (have e := HF.out.count); (have e2 := HLN.out); simp only [List.length_cons, List.length_nil]; omega) (Nat.le_trans HLB.out B8.size) ?_
  intro v9 w9 O9 G9 M9
  obtain ⟨hW9, hF9, hS9⟩ := HF.out.add B8 (Dop.add b, .slice a6 n6 c6) (show Own w8 W.heap.size _ b from own_down HLB.out hO8) (fun g hg => own_ge hO6 hg) O9 G9 M9 HOK.out
  obtain ⟨a9, n9, c9, he9⟩ := slice_any O9
  subst he9
  have z1 := hW9.cell 1
  have f1 := hW9.free 1
  try clear y4
  refine hK.out _ _ (trivial) (fun _ => ?_)
  clear hK K
  try simp only [Act.put, List.setIfInBounds_toArray, List.set_cons_zero, List.set_cons_succ]
  refine wpAnyH_take (i := 10) (oi := ⟨some 75, _, _, _, _, _⟩) (v := ?_) rfl (by kernel_rfl) (by kernel_rfl) (by kernel_rfl) (fun _ _ _ h => h) (Or.inl ⟨by rfl, ?_⟩) (by assumption) ?_
  rotate_left
  · intro w hSw
    (try dsimp only at hSw)
    go_simp
    all_goals (with_reducible rfl)
  try simp only [Act.put, List.setIfInBounds_toArray, List.set_cons_zero, List.set_cons_succ]
  refine wpAnyH_take (i := 11) (oi := ⟨some 76, _, _, _, _, _⟩) (v := ?_) rfl (by kernel_rfl) (by kernel_rfl) (by kernel_rfl) (fun _ _ _ h => h) (Or.inl ⟨by rfl, ?_⟩) (by assumption) ?_
  rotate_left
  · intro w hSw
    (try dsimp only at hSw)
    go_simp
    all_goals (with_reducible rfl)
  try simp only [Act.put, List.setIfInBounds_toArray, List.set_cons_zero, List.set_cons_succ]
  refine wpAnyH_ready (rs := [12]) (by kernel_rfl) (by simp) ?_
  refine AllReadyH.cons (o := ⟨none, _, _, _, _, _⟩) rfl (fun K hK => ?_) AllReadyH.nil
  go_simp
  refine hK.out _ _ (trivial) (fun _ => ?_)
  clear hK K
  try simp only [Act.put]
  refine wpAnyH_done (by kernel_rfl) ?_ _
  refine NoPanic.normal ?_
  go_wp2
  go_ret
  exact ⟨rfl, _, HD.out.1.file HG.out hS9 hF9, fun i hi => ownG_old _ _ _ _ (Nat.lt_of_lt_of_le hi HD.out.2.size), (HD.out.2.trans hS9).weak fun i hi e => e.imp id fun e => by rw [e]; simp⟩

set_option maxRecDepth 100000 in
set_option maxHeartbeats 4000000 in
theorem dapp_new (W w : World) (d fm rm n : Nat) (own : Nat → Option Nat) (L : List (ByteArray × Nat × Dfile)) (ks : List Int) (h : DiskAt W w d fm rm own L ks n) (hn : n ≤ 1000000000) (s : ByteArray) (hq : ((n : Int) + 1) ∉ ks) (hnm : nameN s = true) (hs : s.size ≤ 9223372036854775806) (hg : getL L s = none) (hlen : L.length < 64) (bv : Value) (b : List (BitVec 8)) (hb : SliceIs w bv b) (hbd : b ≠ [] → ∀ g o c, bv = .slice (some ⟨g, o, none⟩) b.length c → g ≠ d ∧ g ≠ fm) (hfit : b.length ≤ 1048576) :
    Calls Tryz.prog 44 #[.pointer (some ⟨d, 0, none⟩), .string s, bv] w fun e w' => e = .returned (.int .i64 0) ∧ ∃ own' fb, DiskAt W w' d fm rm own' (L ++ [(s, fb, ⟨[], [.add b], true⟩)]) ks (n + 1) ∧ (∀ i, i < w.heap.size → own' i = own i) ∧ w.heap.size ≤ fb ∧ Only w w' fun i => i = d ∨ i = fm ∨ own i ≠ none := by
  have HN := Lib.hid (count_calls W w d fm rm n own L ks h hn false (decide_eq_false hq))
  have HNM := Lib.hid (fun w => hnm ▸ named_calls w s hs)
  clear h
  have hz : ∀ w : World, (zeroValue 84).run Tryz.prog w = .ok (.pointer none) w := fun w => by kernel_rfl
  go_enter Tryz.func44, Tryz.ntmps44
  go_upto_region 4 with (first
    | (go_at_call 74; refine HN.out.mono ?_; rintro e wc ⟨rfl, h, hO⟩)
    | fail)
  replace hb := hb.only2 hO (fun hne g o c e => (hbd hne g o c e).1)
  have c0 := h.box.cell 0
  have hlk := look_N (P := Tryz.prog) Tryz.underlying57 Tryz.underlying9 h.all s (hz _)
  rw [getL_find, hg] at hlk
  go_upto_region 5 with fail
  replace hg := Lib.hid hg
  have HD0 := Lib.hid (And.intro h hO)
  clear h hO HN hlk c0
  go_upto_region 7 with (first
    | (go_at_call 75; refine (HNM.out _).mono ?_; rintro e wn ⟨rfl, bn⟩)
    | fail)
  replace hb := hb.low bn
  have HG0 := hg
  have h1 := HD0.out.1.low bn
  have h2 : Only w wn (fun i => i = d) := (HD0.out.2.trans (Only.of_below bn (fun _ => False))).weak fun _ _ e => e.elim id False.elim
  clear bn HD0 hg
  obtain ⟨ba, bl, bc, hbv⟩ : ∃ ba bl bc, bv = .slice ba bl bc ∧ bl = b.length := by
    rcases hb with ⟨rfl, rfl | ⟨ad, c, rfl⟩⟩ | ⟨_, _, _, rfl, _, _⟩ <;> exact ⟨_, _, _, rfl, rfl⟩
  obtain ⟨hbv, rfl⟩ := hbv
  subst hbv
  obtain ⟨ents, clk, hme, _, hml⟩ := h1.all
  have hsz : ents.size = L.length := by
    have := congrArg List.length hml
    simpa using this
  have hlm := run_len_map (P := Tryz.prog) (w := wn) 57 3 fm ents clk (by kernel_rfl) hme
  rw [hsz] at hlm
  have c0 := h1.box.cell 0
  have g1 : ¬ (64 : Int) ≤ (L.length : Int) := by omega
  have g2 : ¬ (1048576 : Int) < (b.length : Int) := by omega
  have hb63 : b.length ≤ 140737488355328 := by omega
  go_upto_region 11 with fail
  obtain ⟨wc, hr, h4, hO4, hs4⟩ := h1.more HG0.out
  have c4 : (wn.alloc (.cells #[.slice none 0 0, .slice none 0 0, .bool true] 121)).cell? ⟨d, 0, none⟩ = some (.map (some fm)) := (h1.box.alloc _).cell 0
  clear hlm hme hml hsz g1 g2
  go_wp2
  clear hr c4 c0
  replace hb := hb.only2 hO4 (fun hne g o c e => (hbd hne g o c e).2)
  have hfb : w.heap.size ≤ wn.heap.size := h2.size
  obtain ⟨fb, hfbn⟩ : ∃ x, wn.heap.size = x := ⟨_, rfl⟩
  rw [hfbn] at h4 hfb ⊢
  have HG := Lib.hid (getL_add L s (fb, ⟨[], [], true⟩) HG0.out)
  have HD := Lib.hid (And.intro h4 (And.intro h2 (And.intro hO4 (And.intro hfbn hfb))))
  obtain ⟨sv, ov, l, hf⟩ := HD.out.1.get HG.out
  have HF := Lib.hid hf
  have HLB := Lib.hid HD.out.1.below.size
  have HLN := Lib.hid (show (Dfile.mk [] [] true).ops.length ≤ 90000 by simp)
  have HOK := Lib.hid (show okOps (Dfile.mk [] [] true).safe ((Dfile.mk [] [] true).ops ++ [Dop.add b]) from okOps_add [] [] _ trivial (fun n e => by cases e) (by show ([] ++ b).length ≤ 1048576; simpa using hfit))
  clear hf h4 h2 hO4 hfbn hfb h1 hs4
  refine wp_region_noPanic ?_
  refine wp_region_held_drew (S := fun _ => True) (by kernel_rfl) (trivial) (fun hhS => ?_)
  have hTr : True := trivial
  have hBd : Below wc.heap.size wc wc.drew := (Below.refl _ _).drew
  generalize wc.drew = wd at hBd ⊢
  refine wpAnyH_take (i := 0) (oi := ⟨some 65, _, _, _, _, _⟩) (v := ?_) rfl (by kernel_rfl) (by kernel_rfl) (by kernel_rfl) (fun _ _ _ h => h) (Or.inl ⟨by rfl, ?_⟩) (by assumption) ?_
  rotate_left
  · intro w hSw
    (try dsimp only at hSw)
    go_simp
    all_goals (with_reducible rfl)
  try simp only [Act.put, List.setIfInBounds_toArray, List.set_cons_zero, List.set_cons_succ]
  refine wpAnyH_take (i := 1) (oi := ⟨some 66, _, _, _, _, _⟩) (v := ?_) rfl (by kernel_rfl) (by kernel_rfl) (by kernel_rfl) (fun _ _ _ h => h) (Or.inl ⟨by rfl, ?_⟩) (by assumption) ?_
  rotate_left
  · intro w hSw
    (try dsimp only at hSw)
    go_simp
    all_goals (with_reducible rfl)
  try simp only [Act.put, List.setIfInBounds_toArray, List.set_cons_zero, List.set_cons_succ]
  refine wpAnyH_take (i := 2) (oi := ⟨some 67, _, _, _, _, _⟩) (v := ?_) rfl (by kernel_rfl) (by kernel_rfl) (by kernel_rfl) (fun _ _ _ h => h) (Or.inl ⟨by rfl, ?_⟩) (by assumption) ?_
  rotate_left
  · intro w hSw
    (try dsimp only at hSw)
    go_simp
    all_goals (with_reducible rfl)
  try simp only [Act.put, List.setIfInBounds_toArray, List.set_cons_zero, List.set_cons_succ]
  refine wpAnyH_take (i := 3) (oi := ⟨some 68, _, _, _, _, _⟩) (v := ?_) rfl (by kernel_rfl) (by kernel_rfl) (by kernel_rfl) (fun _ _ _ h => h) (Or.inl ⟨by rfl, ?_⟩) (by assumption) ?_
  rotate_left
  · intro w hSw
    (try dsimp only at hSw)
    go_simp
    all_goals (with_reducible rfl)
  try simp only [Act.put, List.setIfInBounds_toArray, List.set_cons_zero, List.set_cons_succ]
  refine wpAnyH_take (i := 5) (oi := ⟨some 70, _, _, _, _, _⟩) (v := ?_) rfl (by kernel_rfl) (by kernel_rfl) (by kernel_rfl) (fun _ _ _ h => h) (Or.inl ⟨by rfl, ?_⟩) (by assumption) ?_
  rotate_left
  · intro w hSw
    (try dsimp only at hSw)
    go_simp
    all_goals (with_reducible rfl)
  try simp only [Act.put, List.setIfInBounds_toArray, List.set_cons_zero, List.set_cons_succ]
  refine wpAnyH_ready (rs := [4, 6]) (by kernel_rfl) (by simp) ?_
  refine AllReadyH.cons (o := ⟨some 69, _, _, _, _, _⟩) rfl (fun K hK => ?_) ?_
  · have y4 := (HF.out.low hBd).box.cell 1
    go_simp
    refine hK.out _ _ (trivial) (fun _ => ?_)
    clear hK K
    try simp only [Act.put, List.setIfInBounds_toArray, List.set_cons_zero, List.set_cons_succ]
    refine wpAnyH_ready (rs := [6]) (by kernel_rfl) (by simp) ?_
    refine AllReadyH.cons (o := ⟨some 71, _, _, _, _, _⟩) rfl (fun K hK => ?_) AllReadyH.nil
    go_simp
    refine (clone_calls _ _ b (hb.low hBd) hb63).mono ?_
    rintro e w6 ⟨_, rfl, ⟨a6, n6, c6, rfl⟩, O6, b6⟩
    have B6 := hBd.trans (b6.mono hBd.size)
    have hO6 := own_down hBd.size O6
    refine hK.out _ _ (trivial) (fun _ => ?_)
    clear hK K
    try simp only [Act.put, List.setIfInBounds_toArray, List.set_cons_zero, List.set_cons_succ]
    refine wpAnyH_take (i := 7) (oi := ⟨some 72, _, _, _, _, _⟩) (v := ?_) rfl (by kernel_rfl) (by kernel_rfl) (by kernel_rfl) (fun _ _ _ h => h) (Or.inl ⟨by rfl, ?_⟩) (by assumption) ?_
    rotate_left
    · intro w hSw
      (try dsimp only at hSw)
      go_simp
      all_goals (with_reducible rfl)
    try simp only [Act.put, List.setIfInBounds_toArray, List.set_cons_zero, List.set_cons_succ]
    refine wpAnyH_ready (rs := [8]) (by kernel_rfl) (by simp) ?_
    refine AllReadyH.cons (o := ⟨some 73, _, _, _, _, _⟩) rfl (fun K hK => ?_) AllReadyH.nil
    rw [if_pos (by rfl)]
    refine wp_slice_one 119 123 _ (by rfl) (opC (.add b, .slice a6 n6 c6)).toArray (by rfl) Tryz.underlying119 zero_op (by decide) (by decide) (by rfl) ?_
    have B8 := B6.trans (((Below.refl w6.heap.size w6).alloc (Nat.le_refl _) (.cells (opC (.add b, .slice a6 n6 c6)).toArray 123)).mono B6.size)
    have s8 := src_new (f := opC) (n := 3) w6 123 (Dop.add b, .slice a6 n6 c6)
    have hO8 := row_low hO6 ((Below.refl w6.heap.size w6).alloc (Nat.le_refl _) (.cells (opC (.add b, .slice a6 n6 c6)).toArray 123))
    generalize w6.alloc (.cells (opC (.add b, .slice a6 n6 c6)).toArray 123) = w8 at B8 s8 hO8 ⊢
    refine hK.out _ _ (trivial) (fun _ => ?_)
    clear hK K
    try simp only [Act.put, List.setIfInBounds_toArray, List.set_cons_zero, List.set_cons_succ]
    refine wpAnyH_ready (rs := [9]) (by kernel_rfl) (by simp) ?_
    refine AllReadyH.cons (o := ⟨some 74, _, _, _, _, _⟩) rfl (fun K hK => ?_) AllReadyH.nil
    rw [if_pos (by rfl)]
    refine wp_append_gen (f := opC) (n := 3) _ _ 119 123 (by rfl) _ 40 Tryz.underlying119 info_op rfl (by decide) (by decide) opC_length W.heap.size _ _ l [(Dop.add b, .slice a6 n6 c6)] (by rfl) (HF.out.low B8).row (by rfl) s8 (fun q hq => by (obtain rfl : q = _ := by simpa using hq); exact opC_one2 O6) (by (have e := HF.out.count); (have e2 := HLN.out); simp only [List.length_cons, List.length_nil]; omega) (Nat.le_trans HLB.out B8.size) ?_
    intro v9 w9 O9 G9 M9
    obtain ⟨hW9, hF9, hS9⟩ := HF.out.add B8 (Dop.add b, .slice a6 n6 c6) (show Own w8 W.heap.size _ b from own_down HLB.out hO8) (fun g hg => own_ge hO6 hg) O9 G9 M9 HOK.out
    obtain ⟨a9, n9, c9, he9⟩ := slice_any O9
    subst he9
    have z1 := hW9.cell 1
    have f1 := hW9.free 1
    try clear y4
    refine hK.out _ _ (trivial) (fun _ => ?_)
    clear hK K
    try simp only [Act.put, List.setIfInBounds_toArray, List.set_cons_zero, List.set_cons_succ]
    refine wpAnyH_take (i := 10) (oi := ⟨some 75, _, _, _, _, _⟩) (v := ?_) rfl (by kernel_rfl) (by kernel_rfl) (by kernel_rfl) (fun _ _ _ h => h) (Or.inl ⟨by rfl, ?_⟩) (by assumption) ?_
    rotate_left
    · intro w hSw
      (try dsimp only at hSw)
      go_simp
      all_goals (with_reducible rfl)
    try simp only [Act.put, List.setIfInBounds_toArray, List.set_cons_zero, List.set_cons_succ]
    refine wpAnyH_take (i := 11) (oi := ⟨some 76, _, _, _, _, _⟩) (v := ?_) rfl (by kernel_rfl) (by kernel_rfl) (by kernel_rfl) (fun _ _ _ h => h) (Or.inl ⟨by rfl, ?_⟩) (by assumption) ?_
    rotate_left
    · intro w hSw
      (try dsimp only at hSw)
      go_simp
      all_goals (with_reducible rfl)
    try simp only [Act.put, List.setIfInBounds_toArray, List.set_cons_zero, List.set_cons_succ]
    refine wpAnyH_ready (rs := [12]) (by kernel_rfl) (by simp) ?_
    refine AllReadyH.cons (o := ⟨none, _, _, _, _, _⟩) rfl (fun K hK => ?_) AllReadyH.nil
    go_simp
    refine hK.out _ _ (trivial) (fun _ => ?_)
    clear hK K
    try simp only [Act.put]
    refine wpAnyH_done (by kernel_rfl) ?_ _
    refine NoPanic.normal ?_
    go_wp2
    go_ret
    have hfin := HD.out.1.file HG.out hS9 hF9
    rw [setL_add _ _ _ _ HG0.out] at hfin
    refine ⟨rfl, _, _, hfin, fun i hi => ?_, HD.out.2.2.2.2, ((HD.out.2.1.trans HD.out.2.2.1).trans hS9).weak fun i hi e => ?_⟩
    · rw [ownG_old _ _ _ _ (Nat.lt_of_lt_of_le hi (HD.out.2.1.trans HD.out.2.2.1).size), ownG_old _ _ _ _ (Nat.lt_of_lt_of_le hi HD.out.2.2.2.2)]
    · rcases e with (e | e) | e
      · exact .inl e
      · exact .inr (.inl e)
      · rw [ownG_old _ _ _ _ (Nat.lt_of_lt_of_le hi HD.out.2.2.2.2)] at e
        exact .inr (.inr (by rw [e]; simp))
  refine AllReadyH.cons (o := ⟨some 71, _, _, _, _, _⟩) rfl (fun K hK => ?_) AllReadyH.nil
  go_simp
  refine (clone_calls _ _ b (hb.low hBd) hb63).mono ?_
  rintro e w6 ⟨_, rfl, ⟨a6, n6, c6, rfl⟩, O6, b6⟩
  have B6 := hBd.trans (b6.mono hBd.size)
  have hO6 := own_down hBd.size O6
  refine hK.out _ _ (trivial) (fun _ => ?_)
  clear hK K
  try simp only [Act.put, List.setIfInBounds_toArray, List.set_cons_zero, List.set_cons_succ]
  refine wpAnyH_take (i := 7) (oi := ⟨some 72, _, _, _, _, _⟩) (v := ?_) rfl (by kernel_rfl) (by kernel_rfl) (by kernel_rfl) (fun _ _ _ h => h) (Or.inl ⟨by rfl, ?_⟩) (by assumption) ?_
  rotate_left
  · intro w hSw
    (try dsimp only at hSw)
    go_simp
    all_goals (with_reducible rfl)
  try simp only [Act.put, List.setIfInBounds_toArray, List.set_cons_zero, List.set_cons_succ]
  refine wpAnyH_ready (rs := [4, 8]) (by kernel_rfl) (by simp) ?_
  refine AllReadyH.cons (o := ⟨some 69, _, _, _, _, _⟩) rfl (fun K hK => ?_) ?_
  · have y4 := (HF.out.low B6).box.cell 1
    go_simp
    refine hK.out _ _ (trivial) (fun _ => ?_)
    clear hK K
    try simp only [Act.put, List.setIfInBounds_toArray, List.set_cons_zero, List.set_cons_succ]
    refine wpAnyH_ready (rs := [8]) (by kernel_rfl) (by simp) ?_
    refine AllReadyH.cons (o := ⟨some 73, _, _, _, _, _⟩) rfl (fun K hK => ?_) AllReadyH.nil
    rw [if_pos (by rfl)]
    refine wp_slice_one 119 123 _ (by rfl) (opC (.add b, .slice a6 n6 c6)).toArray (by rfl) Tryz.underlying119 zero_op (by decide) (by decide) (by rfl) ?_
    have B8 := B6.trans (((Below.refl w6.heap.size w6).alloc (Nat.le_refl _) (.cells (opC (.add b, .slice a6 n6 c6)).toArray 123)).mono B6.size)
    have s8 := src_new (f := opC) (n := 3) w6 123 (Dop.add b, .slice a6 n6 c6)
    have hO8 := row_low hO6 ((Below.refl w6.heap.size w6).alloc (Nat.le_refl _) (.cells (opC (.add b, .slice a6 n6 c6)).toArray 123))
    generalize w6.alloc (.cells (opC (.add b, .slice a6 n6 c6)).toArray 123) = w8 at B8 s8 hO8 ⊢
    refine hK.out _ _ (trivial) (fun _ => ?_)
    clear hK K
    try simp only [Act.put, List.setIfInBounds_toArray, List.set_cons_zero, List.set_cons_succ]
    refine wpAnyH_ready (rs := [9]) (by kernel_rfl) (by simp) ?_
    refine AllReadyH.cons (o := ⟨some 74, _, _, _, _, _⟩) rfl (fun K hK => ?_) AllReadyH.nil
    rw [if_pos (by rfl)]
    refine wp_append_gen (f := opC) (n := 3) _ _ 119 123 (by rfl) _ 40 Tryz.underlying119 info_op rfl (by decide) (by decide) opC_length W.heap.size _ _ l [(Dop.add b, .slice a6 n6 c6)] (by rfl) (HF.out.low B8).row (by rfl) s8 (fun q hq => by (obtain rfl : q = _ := by simpa using hq); exact opC_one2 O6) (by (have e := HF.out.count); (have e2 := HLN.out); simp only [List.length_cons, List.length_nil]; omega) (Nat.le_trans HLB.out B8.size) ?_
    intro v9 w9 O9 G9 M9
    obtain ⟨hW9, hF9, hS9⟩ := HF.out.add B8 (Dop.add b, .slice a6 n6 c6) (show Own w8 W.heap.size _ b from own_down HLB.out hO8) (fun g hg => own_ge hO6 hg) O9 G9 M9 HOK.out
    obtain ⟨a9, n9, c9, he9⟩ := slice_any O9
    subst he9
    have z1 := hW9.cell 1
    have f1 := hW9.free 1
    try clear y4
    refine hK.out _ _ (trivial) (fun _ => ?_)
    clear hK K
    try simp only [Act.put, List.setIfInBounds_toArray, List.set_cons_zero, List.set_cons_succ]
    refine wpAnyH_take (i := 10) (oi := ⟨some 75, _, _, _, _, _⟩) (v := ?_) rfl (by kernel_rfl) (by kernel_rfl) (by kernel_rfl) (fun _ _ _ h => h) (Or.inl ⟨by rfl, ?_⟩) (by assumption) ?_
    rotate_left
    · intro w hSw
      (try dsimp only at hSw)
      go_simp
      all_goals (with_reducible rfl)
    try simp only [Act.put, List.setIfInBounds_toArray, List.set_cons_zero, List.set_cons_succ]
    refine wpAnyH_take (i := 11) (oi := ⟨some 76, _, _, _, _, _⟩) (v := ?_) rfl (by kernel_rfl) (by kernel_rfl) (by kernel_rfl) (fun _ _ _ h => h) (Or.inl ⟨by rfl, ?_⟩) (by assumption) ?_
    rotate_left
    · intro w hSw
      (try dsimp only at hSw)
      go_simp
      all_goals (with_reducible rfl)
    try simp only [Act.put, List.setIfInBounds_toArray, List.set_cons_zero, List.set_cons_succ]
    refine wpAnyH_ready (rs := [12]) (by kernel_rfl) (by simp) ?_
    refine AllReadyH.cons (o := ⟨none, _, _, _, _, _⟩) rfl (fun K hK => ?_) AllReadyH.nil
    go_simp
    refine hK.out _ _ (trivial) (fun _ => ?_)
    clear hK K
    try simp only [Act.put]
    refine wpAnyH_done (by kernel_rfl) ?_ _
    refine NoPanic.normal ?_
    go_wp2
    go_ret
    have hfin := HD.out.1.file HG.out hS9 hF9
    rw [setL_add _ _ _ _ HG0.out] at hfin
    refine ⟨rfl, _, _, hfin, fun i hi => ?_, HD.out.2.2.2.2, ((HD.out.2.1.trans HD.out.2.2.1).trans hS9).weak fun i hi e => ?_⟩
    · rw [ownG_old _ _ _ _ (Nat.lt_of_lt_of_le hi (HD.out.2.1.trans HD.out.2.2.1).size), ownG_old _ _ _ _ (Nat.lt_of_lt_of_le hi HD.out.2.2.2.2)]
    · rcases e with (e | e) | e
      · exact .inl e
      · exact .inr (.inl e)
      · rw [ownG_old _ _ _ _ (Nat.lt_of_lt_of_le hi HD.out.2.2.2.2)] at e
        exact .inr (.inr (by rw [e]; simp))
  refine AllReadyH.cons (o := ⟨some 73, _, _, _, _, _⟩) rfl (fun K hK => ?_) AllReadyH.nil
  rw [if_pos (by rfl)]
  refine wp_slice_one 119 123 _ (by rfl) (opC (.add b, .slice a6 n6 c6)).toArray (by rfl) Tryz.underlying119 zero_op (by decide) (by decide) (by rfl) ?_
  have B8 := B6.trans (((Below.refl w6.heap.size w6).alloc (Nat.le_refl _) (.cells (opC (.add b, .slice a6 n6 c6)).toArray 123)).mono B6.size)
  have s8 := src_new (f := opC) (n := 3) w6 123 (Dop.add b, .slice a6 n6 c6)
  have hO8 := row_low hO6 ((Below.refl w6.heap.size w6).alloc (Nat.le_refl _) (.cells (opC (.add b, .slice a6 n6 c6)).toArray 123))
  generalize w6.alloc (.cells (opC (.add b, .slice a6 n6 c6)).toArray 123) = w8 at B8 s8 hO8 ⊢
  refine hK.out _ _ (trivial) (fun _ => ?_)
  clear hK K
  try simp only [Act.put, List.setIfInBounds_toArray, List.set_cons_zero, List.set_cons_succ]
  refine wpAnyH_ready (rs := [4]) (by kernel_rfl) (by simp) ?_
  refine AllReadyH.cons (o := ⟨some 69, _, _, _, _, _⟩) rfl (fun K hK => ?_) AllReadyH.nil
  have y4 := (HF.out.low B8).box.cell 1
  go_simp
  refine hK.out _ _ (trivial) (fun _ => ?_)
  clear hK K
  try simp only [Act.put, List.setIfInBounds_toArray, List.set_cons_zero, List.set_cons_succ]
  refine wpAnyH_ready (rs := [9]) (by kernel_rfl) (by simp) ?_
  refine AllReadyH.cons (o := ⟨some 74, _, _, _, _, _⟩) rfl (fun K hK => ?_) AllReadyH.nil
  rw [if_pos (by rfl)]
  refine wp_append_gen (f := opC) (n := 3) _ _ 119 123 (by rfl) _ 40 Tryz.underlying119 info_op rfl (by decide) (by decide) opC_length W.heap.size _ _ l [(Dop.add b, .slice a6 n6 c6)] (by rfl) (HF.out.low B8).row (by rfl) s8 (fun q hq => by (obtain rfl : q = _ := by simpa using hq); exact opC_one2 O6) (by (have e := HF.out.count); (have e2 := HLN.out); simp only [List.length_cons, List.length_nil]; omega) (Nat.le_trans HLB.out B8.size) ?_
  intro v9 w9 O9 G9 M9
  obtain ⟨hW9, hF9, hS9⟩ := HF.out.add B8 (Dop.add b, .slice a6 n6 c6) (show Own w8 W.heap.size _ b from own_down HLB.out hO8) (fun g hg => own_ge hO6 hg) O9 G9 M9 HOK.out
  obtain ⟨a9, n9, c9, he9⟩ := slice_any O9
  subst he9
  have z1 := hW9.cell 1
  have f1 := hW9.free 1
  try clear y4
  refine hK.out _ _ (trivial) (fun _ => ?_)
  clear hK K
  try simp only [Act.put, List.setIfInBounds_toArray, List.set_cons_zero, List.set_cons_succ]
  refine wpAnyH_take (i := 10) (oi := ⟨some 75, _, _, _, _, _⟩) (v := ?_) rfl (by kernel_rfl) (by kernel_rfl) (by kernel_rfl) (fun _ _ _ h => h) (Or.inl ⟨by rfl, ?_⟩) (by assumption) ?_
  rotate_left
  · intro w hSw
    (try dsimp only at hSw)
    go_simp
    all_goals (with_reducible rfl)
  try simp only [Act.put, List.setIfInBounds_toArray, List.set_cons_zero, List.set_cons_succ]
  refine wpAnyH_take (i := 11) (oi := ⟨some 76, _, _, _, _, _⟩) (v := ?_) rfl (by kernel_rfl) (by kernel_rfl) (by kernel_rfl) (fun _ _ _ h => h) (Or.inl ⟨by rfl, ?_⟩) (by assumption) ?_
  rotate_left
  · intro w hSw
    (try dsimp only at hSw)
    go_simp
    all_goals (with_reducible rfl)
  try simp only [Act.put, List.setIfInBounds_toArray, List.set_cons_zero, List.set_cons_succ]
  refine wpAnyH_ready (rs := [12]) (by kernel_rfl) (by simp) ?_
  refine AllReadyH.cons (o := ⟨none, _, _, _, _, _⟩) rfl (fun K hK => ?_) AllReadyH.nil
  go_simp
  refine hK.out _ _ (trivial) (fun _ => ?_)
  clear hK K
  try simp only [Act.put]
  refine wpAnyH_done (by kernel_rfl) ?_ _
  refine NoPanic.normal ?_
  go_wp2
  go_ret
  have hfin := HD.out.1.file HG.out hS9 hF9
  rw [setL_add _ _ _ _ HG0.out] at hfin
  refine ⟨rfl, _, _, hfin, fun i hi => ?_, HD.out.2.2.2.2, ((HD.out.2.1.trans HD.out.2.2.1).trans hS9).weak fun i hi e => ?_⟩
  · rw [ownG_old _ _ _ _ (Nat.lt_of_lt_of_le hi (HD.out.2.1.trans HD.out.2.2.1).size), ownG_old _ _ _ _ (Nat.lt_of_lt_of_le hi HD.out.2.2.2.2)]
  · rcases e with (e | e) | e
    · exact .inl e
    · exact .inr (.inl e)
    · rw [ownG_old _ _ _ _ (Nat.lt_of_lt_of_le hi HD.out.2.2.2.2)] at e
      exact .inr (.inr (by rw [e]; simp))

end Go.Proofs.YtmmlpbepaefamaaGreatDoor
