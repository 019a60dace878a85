/- Disk.Sync. -/
import Derived.Test.YtmmlpbepaefamaaGreatDoorDiskX2
namespace Go.Proofs.YtmmlpbepaefamaaGreatDoor
open Go.RowKit Go.MapKept

/-- A file that is being worked on: what is safe is u now. -/
structure Work (w1 wr : World) (B fb : Nat) (sv0 u o : Value) (fr : Bool) (X : List (BitVec 8)) : Prop where
  box : Whole wr fb 121 [u, o, .bool fr]
  safe : Own wr B u X
  only : Only w1 wr fun i => i = fb ∨ sv0.ownBlock = some i
  mine : ∀ g, u.ownBlock = some g → sv0.ownBlock = some g ∨ w1.heap.size ≤ g
theorem Work.start {w1 : World} {B fb : Nat} {own : Nat → Option Nat} {f : Dfile} {sv ov : Value} {l : List (Dop × Value)} (h : FileAt w1 B own fb f sv ov l) : Work w1 w1 B fb sv sv ov f.fresh f.safe :=
  ⟨h.box, h.safe, Only.of_below (Below.refl _ _) _, fun _ hg => .inl hg⟩
theorem Work.on {w1 wr wr' : World} {B fb : Nat} {sv0 u o : Value} {fr : Bool} {X : List (BitVec 8)} (h : Work w1 wr B fb sv0 u o fr X) (hb : Below wr.heap.size wr wr') : Work w1 wr' B fb sv0 u o fr X :=
  ⟨h.box.below hb h.box.lt, row_low h.safe hb, (h.only.trans (Only.of_below hb (fun _ => False))).weak (fun _ _ e => e.elim id False.elim), h.mine⟩
theorem Work.ops {w1 wr : World} {B fb : Nat} {own : Nat → Option Nat} {f : Dfile} {sv ov u o : Value} {fr : Bool} {X : List (BitVec 8)} {l : List (Dop × Value)} (h : Work w1 wr B fb sv u o fr X) (hf : FileAt w1 B own fb f sv ov l) :
    wr.ownsRow B 123 3 ov l.length (l.flatMap opC) ∧ ∀ p ∈ l, OpAt wr B p := by
  refine ⟨row_only hf.row h.only fun g hg e => ?_, fun p hp => (hf.each p hp).only h.only fun g hg e => ?_⟩
  · rcases e with rfl | e
    · exact row_ne_whole hf.row hf.box (by decide) hg
    · obtain ⟨c1, h1⟩ := row_type hf.row hg
      obtain ⟨c2, h2⟩ := row_type hf.safe e
      rw [h1] at h2
      have h2 := Option.some.inj h2
      injection h2 with _ h2 _
      exact absurd h2 (by decide)
  · rcases e with rfl | e
    · obtain ⟨l', hl'⟩ := (hf.each p hp).own
      exact row_ne_whole hl' hf.box (by decide) hg
    · exact hf.apart p hp g hg e
/-- The k-th operation of a file that is being worked on. -/
theorem Work.op {w1 wr : World} {B fb n c k : Nat} {own : Nat → Option Nat} {f : Dfile} {sv u o : Value} {fr : Bool} {X : List (BitVec 8)} {l : List (Dop × Value)} {a : Option Addr} (h : Work w1 wr B fb sv u o fr X) (hf : FileAt w1 B own fb f sv (.slice a n c) l) {p : Dop × Value} (hp : l[k]? = some p) :
    ∃ g, a = some ⟨g, 0, none⟩ ∧ wr.rangeAt g (k * 3) (opC p) ∧ OpAt wr B p ∧ f.ops[k]? = some p.1 := by
  obtain ⟨h1, h2⟩ := h.ops hf
  obtain ⟨g, hg, hr⟩ := own_at opC_length h1 hp
  exact ⟨g, hg, hr, h2 p (List.mem_of_getElem? hp), by rw [← hf.ops, List.getElem?_map, hp]; rfl⟩
theorem Work.after {w1 wr w' : World} {B fb : Nat} {sv0 u v' o : Value} {fr : Bool} {X X' : List (BitVec 8)} (h : Work w1 wr B fb sv0 u o fr X) (ha : After wr w' B u v' X') :
    Whole w' fb 121 [u, o, .bool fr] ∧ Work w1 (w'.setCell ⟨fb, 0, none⟩ v') B fb sv0 v' o fr X' := by
  obtain ⟨hO, hG, hN⟩ := ha
  have hW : Whole w' fb 121 [u, o, .bool fr] := h.box.only hG (fun e => row_ne_whole h.safe h.box (by decide) e)
  refine ⟨hW, hW.put 0 v', row_only hO (Only.set w' ⟨fb, 0, none⟩ v') (fun g hg e => row_ne_whole hO hW (by decide) (hg.trans (congrArg some e))), ?_, fun g hg => ?_⟩
  · refine ((h.only.trans hG).trans (Only.set w' ⟨fb, 0, none⟩ v')).weak ?_
    rintro i hi ((e | e) | e)
    · exact e
    · rcases h.mine i e with e2 | e2
      · exact .inr e2
      · omega
    · exact .inl e
  · rcases hN g hg with e | e
    · exact h.mine g e
    · exact .inr (Nat.le_trans h.only.size e)
/-- The operations under way, and whether the file is fresh, written over. -/
theorem Work.setOps {w1 wr : World} {B fb : Nat} {sv0 u o : Value} {fr : Bool} {X : List (BitVec 8)} (h : Work w1 wr B fb sv0 u o fr X) (o' : Value) : Work w1 (wr.setCell ⟨fb, 1, none⟩ o') B fb sv0 u o' fr X :=
  ⟨h.box.put 1 o', row_only h.safe (Only.set wr ⟨fb, 1, none⟩ o') (fun g hg e => row_ne_whole h.safe h.box (by decide) (hg.trans (congrArg some e))), (h.only.trans (Only.set wr ⟨fb, 1, none⟩ o')).weak (fun i hi e => e.elim id .inl), h.mine⟩
theorem Work.setFresh {w1 wr : World} {B fb : Nat} {sv0 u o : Value} {fr : Bool} {X : List (BitVec 8)} (h : Work w1 wr B fb sv0 u o fr X) (fr' : Bool) : Work w1 (wr.setCell ⟨fb, 2, none⟩ (.bool fr')) B fb sv0 u o fr' X :=
  ⟨h.box.put 2 _, row_only h.safe (Only.set wr ⟨fb, 2, none⟩ (.bool fr')) (fun g hg e => row_ne_whole h.safe h.box (by decide) (hg.trans (congrArg some e))), (h.only.trans (Only.set wr ⟨fb, 2, none⟩ (.bool fr'))).weak (fun i hi e => e.elim id .inl), h.mine⟩
/-- All is done: the file has no operations any more. -/
theorem Work.fin {w1 wr : World} {B fb : Nat} {own : Nat → Option Nat} {f : Dfile} {sv ov u : Value} {fr : Bool} {X : List (BitVec 8)} {l : List (Dop × Value)} (h : Work w1 wr B fb sv u (.slice none 0 0) fr X) (hf : FileAt w1 B own fb f sv ov l) (hX : X.length ≤ 1048576) :
    FileAt wr B (ownG own w1.heap.size wr.heap.size fb) fb ⟨X, [], fr⟩ u (.slice none 0 0) [] ∧ Only w1 wr fun i => own i = some fb := by
  refine ⟨⟨h.box, h.safe, rfl, World.ownsRow_nil wr B _ _, (fun p hp => absurd hp List.not_mem_nil), hf.geb, ?_, fun g hg => ?_, (fun g hg => by cases hg), (fun p hp => absurd hp List.not_mem_nil), (fun p hp => absurd hp List.not_mem_nil), ⟨hX, trivial⟩⟩, h.only.weak ?_⟩
  · rw [ownG_old _ _ _ _ hf.box.lt]
    exact hf.me
  · rcases h.mine g hg with e | e
    · rw [ownG_old _ _ _ _ (row_lt hf.safe e)]
      exact hf.mySafe g e
    · exact ownG_new _ _ _ _ e (row_lt h.safe hg)
  · rintro i hi (rfl | e)
    · exact hf.me
    · exact hf.mySafe i e

set_option maxRecDepth 100000 in
set_option maxHeartbeats 4000000 in
theorem dsync_missing (W w : World) (d fm rm n : Nat) (own : Nat → Option Nat) (L : List (ByteArray × Nat × Dfile)) (ks : List Int) (h : DiskAt W w d fm rm own L ks n) (hn : n ≤ 1000000000) (s : ByteArray) (hq : ((n : Int) + 1) ∉ ks) (hg : getL L s = none) :
    Calls Tryz.prog 46 #[.pointer (some ⟨d, 0, none⟩), .string s] w fun e w' => e = .returned (.int .i64 6) ∧ DiskAt W w' d fm rm own L ks (n + 1) ∧ Only w w' fun i => i = d := by
  have HN := Lib.hid (count_calls W w d fm rm n own L ks h hn false (decide_eq_false hq))
  clear h
  have hz : ∀ w : World, (zeroValue 84).run Tryz.prog w = .ok (.pointer none) w := fun w => by kernel_rfl
  go_enter Tryz.func46, Tryz.ntmps46
  go_upto_region 4 with (first
    | (go_at_call 74; refine HN.out.mono ?_; rintro e w1 ⟨rfl, h, hO⟩)
    | fail)
  have c0 := h.box.cell 0
  have hlk := look_N (P := Tryz.prog) Tryz.underlying57 Tryz.underlying9 h.all s (hz _)
  rw [getL_find, hg] at hlk
  go_wp2
  go_ret
  exact ⟨rfl, h, hO⟩
set_option maxRecDepth 100000 in
set_option maxHeartbeats 4000000 in
theorem dsync_refused (W w : World) (d fm rm n : Nat) (own : Nat → Option Nat) (L : List (ByteArray × Nat × Dfile)) (ks : List Int) (h : DiskAt W w d fm rm own L ks n) (hn : n ≤ 1000000000) (s : ByteArray) (hq : ((n : Int) + 1) ∈ ks) :
    Calls Tryz.prog 46 #[.pointer (some ⟨d, 0, none⟩), .string s] w fun e w' => e = .returned (.int .i64 13) ∧ DiskAt W w' d fm rm own L ks (n + 1) ∧ Only w w' fun i => i = d := by
  have HN := Lib.hid (count_calls W w d fm rm n own L ks h hn true (decide_eq_true hq))
  clear h
  go_enter Tryz.func46, Tryz.ntmps46
  go_wp2_with (first
    | (go_at_call 74; refine HN.out.mono ?_; rintro e w1 ⟨rfl, h, hO⟩)
    | fail)
  go_ret
  exact ⟨rfl, h, hO⟩
set_option maxRecDepth 100000 in
set_option maxHeartbeats 4000000 in
theorem dsync_there (W w : World) (d fm rm n : Nat) (own : Nat → Option Nat) (L : List (ByteArray × Nat × Dfile)) (ks : List Int) (h : DiskAt W w d fm rm own L ks n) (hn : n ≤ 1000000000) (s : ByteArray) (hq : ((n : Int) + 1) ∉ ks) (fb : Nat) (f : Dfile) (hg : getL L s = some (fb, f)) (hlen : f.ops.length ≤ 100000) :
    Calls Tryz.prog 46 #[.pointer (some ⟨d, 0, none⟩), .string s] w fun e w' => e = .returned (.int .i64 0) ∧ ∃ own', DiskAt W w' d fm rm own' (setL L s ⟨f.content, [], false⟩) ks (n + 1) ∧ (∀ i, i < w.heap.size → own' i = own i) ∧ Only w w' fun i => i = d ∨ own i ≠ none := by
  have HN := Lib.hid (count_calls W w d fm rm n own L ks h hn false (decide_eq_false hq))
  have HLB0 := h.below.size
  clear h
  have hz : ∀ w : World, (zeroValue 84).run Tryz.prog w = .ok (.pointer none) w := fun w => by kernel_rfl
  go_enter Tryz.func46, Tryz.ntmps46
  go_upto_region 4 with (first
    | (go_at_call 74; refine HN.out.mono ?_; rintro e w1 ⟨rfl, h, hO⟩)
    | fail)
  have c0 := h.box.cell 0
  have hlk := look_N (P := Tryz.prog) Tryz.underlying57 Tryz.underlying9 h.all s (hz _)
  rw [getL_find, hg] at hlk
  obtain ⟨sv, ov, l, hf⟩ := h.get hg
  obtain ⟨oa, oc, rfl⟩ := hf.slice
  have c1 := hf.box.cell 1
  obtain ⟨N, hN⟩ : ∃ n, f.ops.length = n := ⟨_, rfl⟩
  rw [hN] at hf c1 hlen
  have HF := Lib.hid hf
  have HN2 := Lib.hid hN
  have HD := Lib.hid (And.intro h hO)
  have HLB := Lib.hid h.below.size
  clear hN hf h hO HN HLB0
  go_wp2
  clear c0 c1 hlk
  obtain ⟨sa, sn, sc, hsv⟩ := slice_any HF.out.safe
  go_loopw [27] (fun i wr => ∃ (k : Nat) (ua : Option Addr) (un uc : Nat), k ≤ N ∧ i = .int .i64 k ∧ Work w1 wr W.heap.size fb sv (.slice ua un uc) (.slice oa N oc) f.fresh (runOps f.safe (f.ops.take k))) (fun i _ => N - (intOf i).toNat)
  case atStart => exact ⟨0, sa, sn, sc, by omega, rfl, by rw [List.take_zero, ← hsv]; exact Work.start HF.out⟩
  case round =>
    obtain ⟨k, ua, un, uc, hk, rfl, hWk⟩ := hrel
    by_cases hlt : k < N
    · obtain ⟨p, hp⟩ : ∃ p, l[k]? = some p := ⟨_, List.getElem?_eq_getElem (by rw [HF.out.count, HN2.out]; exact hlt)⟩
      obtain ⟨g, rfl, hr, ho, hok⟩ := hWk.op HF.out hp
      have i1 : (k : Int) < (N : Int) := by omega
      have i2 : 0 ≤ (k : Int) ∧ (k : Int) < (N : Int) := by omega
      have b2 : IntKind.i64.wrap ((k : Int) + 1) = (k : Int) + 1 := IntWalk.i64_in _ (by omega)
      have hst := runOps_step f.safe f.ops k _ hok
      have hmx := (okOps_at f.ops f.safe k _ HF.out.okf.2 hok)
      obtain ⟨X, hX⟩ : ∃ x, runOps f.safe (f.ops.take k) = x := ⟨_, rfl⟩
      rw [hX] at hst hmx hWk
      have HST := Lib.hid (And.intro hst (And.intro hmx.2 hmx.1))
      clear hX hp hok hst hmx
      have c0 := hr 0
      have c1 := hr 1
      have c2 := hr 2
      obtain ⟨o, bv⟩ := p
      cases o with
      | add b =>
        have hbo : SliceIs wr bv b := Own.slice (show Own wr W.heap.size bv b from ho)
        obtain ⟨ba, bc, hbv⟩ := slice_of_row (show Own wr W.heap.size bv b from ho)
        clear ho
        subst hbv
        have c0 := c0 _ rfl
        have c1 := c1 _ rfl
        have c2 := c2 _ rfl
        simp only [Nat.add_zero] at c0
        have hB3 : Below wr.heap.size wr (wr.alloc (.cells #[.bool false, .int .i64 0, .slice ba b.length bc] 123)) := (Below.refl _ _).alloc (Nat.le_refl _) _
        clear hr
        go_wp2
        refine wp_region_noPanic ?_
        refine wp_region_held_drew (S := fun _ => True) (by kernel_rfl) (trivial) (fun hhS => ?_)
        have hTr : True := trivial
        replace hWk := hWk.on hB3
        have hBx := Whole.new wr 123 #[.bool false, .int .i64 0, .slice ba b.length bc]
        have hBd := hB3.drew
        generalize wr.alloc _ = w3 at hWk hBx hBd hB3 ⊢
        replace hWk := hWk.on ((Below.refl w3.heap.size w3).drew)
        replace hBx := hBx.below ((Below.refl w3.heap.size w3).drew) hBx.lt
        clear hB3
        generalize w3.drew = wd at hWk hBx hBd ⊢
        have y0 := hBx.cell 0
        have y1 := hBx.cell 1
        have y2 := hBx.cell 2
        have x0 := hWk.box.cell 0
        refine wpAnyH_take (i := 0) (oi := ⟨some 31, _, _, _, _, _⟩) (v := ?_) rfl (by kernel_rfl) (by kernel_rfl) (by kernel_rfl) (fun _ _ _ h => h) (Or.inl ⟨by rfl, ?_⟩) (by assumption) ?_
        rotate_left
        · intro w hSw
          (try dsimp only at hSw)
          go_simp
          all_goals (with_reducible rfl)
        try simp only [Act.put, List.setIfInBounds_toArray, List.set_cons_zero, List.set_cons_succ]
        refine wpAnyH_take (i := 2) (oi := ⟨some 33, _, _, _, _, _⟩) (v := ?_) rfl (by kernel_rfl) (by kernel_rfl) (by kernel_rfl) (fun _ _ _ h => h) (Or.inl ⟨by rfl, ?_⟩) (by assumption) ?_
        rotate_left
        · intro w hSw
          (try dsimp only at hSw)
          go_simp
          all_goals (with_reducible rfl)
        try simp only [Act.put, List.setIfInBounds_toArray, List.set_cons_zero, List.set_cons_succ]
        refine wpAnyH_take (i := 3) (oi := ⟨some 34, _, _, _, _, _⟩) (v := ?_) rfl (by kernel_rfl) (by kernel_rfl) (by kernel_rfl) (fun _ _ _ h => h) (Or.inl ⟨by rfl, ?_⟩) (by assumption) ?_
        rotate_left
        · intro w hSw
          (try dsimp only at hSw)
          go_simp
          all_goals (with_reducible rfl)
        try simp only [Act.put, List.setIfInBounds_toArray, List.set_cons_zero, List.set_cons_succ]
        refine wpAnyH_take (i := 4) (oi := ⟨some 35, _, _, _, _, _⟩) (v := ?_) rfl (by kernel_rfl) (by kernel_rfl) (by kernel_rfl) (fun _ _ _ h => h) (Or.inl ⟨by rfl, ?_⟩) (by assumption) ?_
        rotate_left
        · intro w hSw
          (try dsimp only at hSw)
          go_simp
          all_goals (with_reducible rfl)
        try simp only [Act.put, List.setIfInBounds_toArray, List.set_cons_zero, List.set_cons_succ]
        refine wpAnyH_ready (rs := [1, 5]) (by kernel_rfl) (by simp) ?_
        refine AllReadyH.cons (o := ⟨some 32, _, _, _, _, _⟩) rfl (fun K hK => ?_) ?_
        · go_simp
          refine hK.out _ _ (trivial) (fun _ => ?_)
          clear hK K
          try simp only [Act.put, List.setIfInBounds_toArray, List.set_cons_zero, List.set_cons_succ]
          refine wpAnyH_ready (rs := [5]) (by kernel_rfl) (by simp) ?_
          refine AllReadyH.cons (o := ⟨some 36, _, _, _, _, _⟩) rfl (fun K hK => ?_) AllReadyH.nil
          go_simp
          refine hK.out _ _ (trivial) (fun _ => ?_)
          clear hK K
          try simp only [Act.put, List.setIfInBounds_toArray, List.set_cons_zero, List.set_cons_succ]
          refine wpAnyH_ready (rs := [6]) (by kernel_rfl) (by simp) ?_
          refine AllReadyH.cons (o := ⟨some 37, _, _, _, _, _⟩) rfl (fun K hK => ?_) AllReadyH.nil
          go_simp
          refine (after_add wd W.heap.size _ _ X b hWk.safe (hbo.low hBd) (by have := HST.out.2.1; rw [HST.out.1] at this; simp [Dop.run] at this; omega) (Nat.le_trans HLB.out hWk.only.size)).mono ?_
          rintro e w4 ⟨_, rfl, ⟨a4, n4, c4, rfl⟩, hAf⟩
          have hW4 := hWk.after hAf
          have z0 := hW4.1.cell 0
          have z1 := hW4.1.free 0
          clear y0 y1 y2 x0
          refine hK.out _ _ (trivial) (fun _ => ?_)
          clear hK K
          try simp only [Act.put, List.setIfInBounds_toArray, List.set_cons_zero, List.set_cons_succ]
          refine wpAnyH_take (i := 7) (oi := ⟨some 38, _, _, _, _, _⟩) (v := ?_) rfl (by kernel_rfl) (by kernel_rfl) (by kernel_rfl) (fun _ _ _ h => h) (Or.inl ⟨by rfl, ?_⟩) (by assumption) ?_
          rotate_left
          · intro w hSw
            (try dsimp only at hSw)
            go_simp
            all_goals (with_reducible rfl)
          try simp only [Act.put, List.setIfInBounds_toArray, List.set_cons_zero, List.set_cons_succ]
          refine wpAnyH_take (i := 8) (oi := ⟨some 39, _, _, _, _, _⟩) (v := ?_) rfl (by kernel_rfl) (by kernel_rfl) (by kernel_rfl) (fun _ _ _ h => h) (Or.inl ⟨by rfl, ?_⟩) (by assumption) ?_
          rotate_left
          · intro w hSw
            (try dsimp only at hSw)
            go_simp
            all_goals (with_reducible rfl)
          try simp only [Act.put, List.setIfInBounds_toArray, List.set_cons_zero, List.set_cons_succ]
          refine wpAnyH_ready (rs := [9]) (by kernel_rfl) (by simp) ?_
          refine AllReadyH.cons (o := ⟨none, _, _, _, _, _⟩) rfl (fun K hK => ?_) AllReadyH.nil
          go_simp
          refine hK.out _ _ (trivial) (fun _ => ?_)
          clear hK K
          try simp only [Act.put]
          refine wpAnyH_done (by kernel_rfl) ?_ _
          refine NoPanic.normal ?_
          replace hWk := hW4.2
          clear hW4 hAf z0 z1
          go_wp2
          go_roundw
          case rel => exact ⟨k + 1, _, _, _, by omega, by go_num, by rw [HST.out.1]; exact hWk⟩
          case measure => simp [intOf]; omega
        refine AllReadyH.cons (o := ⟨some 36, _, _, _, _, _⟩) rfl (fun K hK => ?_) AllReadyH.nil
        go_simp
        refine hK.out _ _ (trivial) (fun _ => ?_)
        clear hK K
        try simp only [Act.put, List.setIfInBounds_toArray, List.set_cons_zero, List.set_cons_succ]
        refine wpAnyH_ready (rs := [1]) (by kernel_rfl) (by simp) ?_
        refine AllReadyH.cons (o := ⟨some 32, _, _, _, _, _⟩) rfl (fun K hK => ?_) AllReadyH.nil
        go_simp
        refine hK.out _ _ (trivial) (fun _ => ?_)
        clear hK K
        try simp only [Act.put, List.setIfInBounds_toArray, List.set_cons_zero, List.set_cons_succ]
        refine wpAnyH_ready (rs := [6]) (by kernel_rfl) (by simp) ?_
        refine AllReadyH.cons (o := ⟨some 37, _, _, _, _, _⟩) rfl (fun K hK => ?_) AllReadyH.nil
        go_simp
        refine (after_add wd W.heap.size _ _ X b hWk.safe (hbo.low hBd) (by have := HST.out.2.1; rw [HST.out.1] at this; simp [Dop.run] at this; omega) (Nat.le_trans HLB.out hWk.only.size)).mono ?_
        rintro e w4 ⟨_, rfl, ⟨a4, n4, c4, rfl⟩, hAf⟩
        have hW4 := hWk.after hAf
        have z0 := hW4.1.cell 0
        have z1 := hW4.1.free 0
        clear y0 y1 y2 x0
        refine hK.out _ _ (trivial) (fun _ => ?_)
        clear hK K
        try simp only [Act.put, List.setIfInBounds_toArray, List.set_cons_zero, List.set_cons_succ]
        refine wpAnyH_take (i := 7) (oi := ⟨some 38, _, _, _, _, _⟩) (v := ?_) rfl (by kernel_rfl) (by kernel_rfl) (by kernel_rfl) (fun _ _ _ h => h) (Or.inl ⟨by rfl, ?_⟩) (by assumption) ?_
        rotate_left
        · intro w hSw
          (try dsimp only at hSw)
          go_simp
          all_goals (with_reducible rfl)
        try simp only [Act.put, List.setIfInBounds_toArray, List.set_cons_zero, List.set_cons_succ]
        refine wpAnyH_take (i := 8) (oi := ⟨some 39, _, _, _, _, _⟩) (v := ?_) rfl (by kernel_rfl) (by kernel_rfl) (by kernel_rfl) (fun _ _ _ h => h) (Or.inl ⟨by rfl, ?_⟩) (by assumption) ?_
        rotate_left
        · intro w hSw
          (try dsimp only at hSw)
          go_simp
          all_goals (with_reducible rfl)
        try simp only [Act.put, List.setIfInBounds_toArray, List.set_cons_zero, List.set_cons_succ]
        refine wpAnyH_ready (rs := [9]) (by kernel_rfl) (by simp) ?_
        refine AllReadyH.cons (o := ⟨none, _, _, _, _, _⟩) rfl (fun K hK => ?_) AllReadyH.nil
        go_simp
        refine hK.out _ _ (trivial) (fun _ => ?_)
        clear hK K
        try simp only [Act.put]
        refine wpAnyH_done (by kernel_rfl) ?_ _
        refine NoPanic.normal ?_
        replace hWk := hW4.2
        clear hW4 hAf z0 z1
        go_wp2
        go_roundw
        case rel => exact ⟨k + 1, _, _, _, by omega, by go_num, by rw [HST.out.1]; exact hWk⟩
        case measure => simp [intOf]; omega
      | cut n2 =>
        have hbv : bv = .slice Option.none 0 0 := ho
        subst hbv
        have c0 := c0 _ rfl
        have c1 := c1 _ rfl
        have c2 := c2 _ rfl
        simp only [Nat.add_zero] at c0
        have hB3 : Below wr.heap.size wr (wr.alloc (.cells #[.bool true, .int .i64 n2, .slice Option.none 0 0] 123)) := (Below.refl _ _).alloc (Nat.le_refl _) _
        clear hr ho
        go_wp2
        refine wp_region_noPanic ?_
        refine wp_region_held_drew (S := fun _ => True) (by kernel_rfl) (trivial) (fun hhS => ?_)
        have hTr : True := trivial
        replace hWk := hWk.on hB3
        have hBx := Whole.new wr 123 #[.bool true, .int .i64 n2, .slice Option.none 0 0]
        have hBd := hB3.drew
        generalize wr.alloc _ = w3 at hWk hBx hBd hB3 ⊢
        replace hWk := hWk.on ((Below.refl w3.heap.size w3).drew)
        replace hBx := hBx.below ((Below.refl w3.heap.size w3).drew) hBx.lt
        clear hB3
        generalize w3.drew = wd at hWk hBx hBd ⊢
        have y0 := hBx.cell 0
        have y1 := hBx.cell 1
        have y2 := hBx.cell 2
        have x0 := hWk.box.cell 0
        refine wpAnyH_take (i := 0) (oi := ⟨some 31, _, _, _, _, _⟩) (v := ?_) rfl (by kernel_rfl) (by kernel_rfl) (by kernel_rfl) (fun _ _ _ h => h) (Or.inl ⟨by rfl, ?_⟩) (by assumption) ?_
        rotate_left
        · intro w hSw
          (try dsimp only at hSw)
          go_simp
          all_goals (with_reducible rfl)
        try simp only [Act.put, List.setIfInBounds_toArray, List.set_cons_zero, List.set_cons_succ]
        refine wpAnyH_take (i := 2) (oi := ⟨some 33, _, _, _, _, _⟩) (v := ?_) rfl (by kernel_rfl) (by kernel_rfl) (by kernel_rfl) (fun _ _ _ h => h) (Or.inl ⟨by rfl, ?_⟩) (by assumption) ?_
        rotate_left
        · intro w hSw
          (try dsimp only at hSw)
          go_simp
          all_goals (with_reducible rfl)
        try simp only [Act.put, List.setIfInBounds_toArray, List.set_cons_zero, List.set_cons_succ]
        refine wpAnyH_take (i := 3) (oi := ⟨some 34, _, _, _, _, _⟩) (v := ?_) rfl (by kernel_rfl) (by kernel_rfl) (by kernel_rfl) (fun _ _ _ h => h) (Or.inl ⟨by rfl, ?_⟩) (by assumption) ?_
        rotate_left
        · intro w hSw
          (try dsimp only at hSw)
          go_simp
          all_goals (with_reducible rfl)
        try simp only [Act.put, List.setIfInBounds_toArray, List.set_cons_zero, List.set_cons_succ]
        refine wpAnyH_take (i := 4) (oi := ⟨some 35, _, _, _, _, _⟩) (v := ?_) rfl (by kernel_rfl) (by kernel_rfl) (by kernel_rfl) (fun _ _ _ h => h) (Or.inl ⟨by rfl, ?_⟩) (by assumption) ?_
        rotate_left
        · intro w hSw
          (try dsimp only at hSw)
          go_simp
          all_goals (with_reducible rfl)
        try simp only [Act.put, List.setIfInBounds_toArray, List.set_cons_zero, List.set_cons_succ]
        refine wpAnyH_ready (rs := [1, 5]) (by kernel_rfl) (by simp) ?_
        refine AllReadyH.cons (o := ⟨some 32, _, _, _, _, _⟩) rfl (fun K hK => ?_) ?_
        · go_simp
          refine hK.out _ _ (trivial) (fun _ => ?_)
          clear hK K
          try simp only [Act.put, List.setIfInBounds_toArray, List.set_cons_zero, List.set_cons_succ]
          refine wpAnyH_ready (rs := [5]) (by kernel_rfl) (by simp) ?_
          refine AllReadyH.cons (o := ⟨some 36, _, _, _, _, _⟩) rfl (fun K hK => ?_) AllReadyH.nil
          go_simp
          refine hK.out _ _ (trivial) (fun _ => ?_)
          clear hK K
          try simp only [Act.put, List.setIfInBounds_toArray, List.set_cons_zero, List.set_cons_succ]
          refine wpAnyH_ready (rs := [6]) (by kernel_rfl) (by simp) ?_
          refine AllReadyH.cons (o := ⟨some 37, _, _, _, _, _⟩) rfl (fun K hK => ?_) AllReadyH.nil
          go_simp
          refine (after_cut wd W.heap.size n2 _ X hWk.safe (HST.out.2.2 n2 rfl)).mono ?_
          rintro e w4 ⟨_, rfl, ⟨a4, n4, c4, rfl⟩, hAf⟩
          have hW4 := hWk.after hAf
          have z0 := hW4.1.cell 0
          have z1 := hW4.1.free 0
          clear y0 y1 y2 x0
          refine hK.out _ _ (trivial) (fun _ => ?_)
          clear hK K
          try simp only [Act.put, List.setIfInBounds_toArray, List.set_cons_zero, List.set_cons_succ]
          refine wpAnyH_take (i := 7) (oi := ⟨some 38, _, _, _, _, _⟩) (v := ?_) rfl (by kernel_rfl) (by kernel_rfl) (by kernel_rfl) (fun _ _ _ h => h) (Or.inl ⟨by rfl, ?_⟩) (by assumption) ?_
          rotate_left
          · intro w hSw
            (try dsimp only at hSw)
            go_simp
            all_goals (with_reducible rfl)
          try simp only [Act.put, List.setIfInBounds_toArray, List.set_cons_zero, List.set_cons_succ]
          refine wpAnyH_take (i := 8) (oi := ⟨some 39, _, _, _, _, _⟩) (v := ?_) rfl (by kernel_rfl) (by kernel_rfl) (by kernel_rfl) (fun _ _ _ h => h) (Or.inl ⟨by rfl, ?_⟩) (by assumption) ?_
          rotate_left
          · intro w hSw
            (try dsimp only at hSw)
            go_simp
            all_goals (with_reducible rfl)
          try simp only [Act.put, List.setIfInBounds_toArray, List.set_cons_zero, List.set_cons_succ]
          refine wpAnyH_ready (rs := [9]) (by kernel_rfl) (by simp) ?_
          refine AllReadyH.cons (o := ⟨none, _, _, _, _, _⟩) rfl (fun K hK => ?_) AllReadyH.nil
          go_simp
          refine hK.out _ _ (trivial) (fun _ => ?_)
          clear hK K
          try simp only [Act.put]
          refine wpAnyH_done (by kernel_rfl) ?_ _
          refine NoPanic.normal ?_
          replace hWk := hW4.2
          clear hW4 hAf z0 z1
          go_wp2
          go_roundw
          case rel => exact ⟨k + 1, _, _, _, by omega, by go_num, by rw [HST.out.1]; exact hWk⟩
          case measure => simp [intOf]; omega
        refine AllReadyH.cons (o := ⟨some 36, _, _, _, _, _⟩) rfl (fun K hK => ?_) AllReadyH.nil
        go_simp
        refine hK.out _ _ (trivial) (fun _ => ?_)
        clear hK K
        try simp only [Act.put, List.setIfInBounds_toArray, List.set_cons_zero, List.set_cons_succ]
        refine wpAnyH_ready (rs := [1]) (by kernel_rfl) (by simp) ?_
        refine AllReadyH.cons (o := ⟨some 32, _, _, _, _, _⟩) rfl (fun K hK => ?_) AllReadyH.nil
        go_simp
        refine hK.out _ _ (trivial) (fun _ => ?_)
        clear hK K
        try simp only [Act.put, List.setIfInBounds_toArray, List.set_cons_zero, List.set_cons_succ]
        refine wpAnyH_ready (rs := [6]) (by kernel_rfl) (by simp) ?_
        refine AllReadyH.cons (o := ⟨some 37, _, _, _, _, _⟩) rfl (fun K hK => ?_) AllReadyH.nil
        go_simp
        refine (after_cut wd W.heap.size n2 _ X hWk.safe (HST.out.2.2 n2 rfl)).mono ?_
        rintro e w4 ⟨_, rfl, ⟨a4, n4, c4, rfl⟩, hAf⟩
        have hW4 := hWk.after hAf
        have z0 := hW4.1.cell 0
        have z1 := hW4.1.free 0
        clear y0 y1 y2 x0
        refine hK.out _ _ (trivial) (fun _ => ?_)
        clear hK K
        try simp only [Act.put, List.setIfInBounds_toArray, List.set_cons_zero, List.set_cons_succ]
        refine wpAnyH_take (i := 7) (oi := ⟨some 38, _, _, _, _, _⟩) (v := ?_) rfl (by kernel_rfl) (by kernel_rfl) (by kernel_rfl) (fun _ _ _ h => h) (Or.inl ⟨by rfl, ?_⟩) (by assumption) ?_
        rotate_left
        · intro w hSw
          (try dsimp only at hSw)
          go_simp
          all_goals (with_reducible rfl)
        try simp only [Act.put, List.setIfInBounds_toArray, List.set_cons_zero, List.set_cons_succ]
        refine wpAnyH_take (i := 8) (oi := ⟨some 39, _, _, _, _, _⟩) (v := ?_) rfl (by kernel_rfl) (by kernel_rfl) (by kernel_rfl) (fun _ _ _ h => h) (Or.inl ⟨by rfl, ?_⟩) (by assumption) ?_
        rotate_left
        · intro w hSw
          (try dsimp only at hSw)
          go_simp
          all_goals (with_reducible rfl)
        try simp only [Act.put, List.setIfInBounds_toArray, List.set_cons_zero, List.set_cons_succ]
        refine wpAnyH_ready (rs := [9]) (by kernel_rfl) (by simp) ?_
        refine AllReadyH.cons (o := ⟨none, _, _, _, _, _⟩) rfl (fun K hK => ?_) AllReadyH.nil
        go_simp
        refine hK.out _ _ (trivial) (fun _ => ?_)
        clear hK K
        try simp only [Act.put]
        refine wpAnyH_done (by kernel_rfl) ?_ _
        refine NoPanic.normal ?_
        replace hWk := hW4.2
        clear hW4 hAf z0 z1
        go_wp2
        go_roundw
        case rel => exact ⟨k + 1, _, _, _, by omega, by go_num, by rw [HST.out.1]; exact hWk⟩
        case measure => simp [intOf]; omega
    · obtain rfl : k = N := by omega
      have i1 : ¬ (k : Int) < (k : Int) := by omega
      rw [List.take_of_length_le (Nat.le_of_eq HN2.out)] at hWk
      have c1 := hWk.box.cell 1
      have f1 := hWk.box.free 1
      replace hWk := hWk.setOps (.slice none 0 0)
      have c2 := hWk.box.cell 2
      have f2 := hWk.box.free 2
      replace hWk := hWk.setFresh false
      go_wp2
      go_ret
      obtain ⟨hF, hOF⟩ := hWk.fin HF.out (okOps_len _ _ HF.out.okf.1 HF.out.okf.2)
      refine ⟨rfl, _, HD.out.1.file hg hOF hF, fun i hi => ownG_old _ _ _ _ (Nat.lt_of_lt_of_le hi HD.out.2.size), (HD.out.2.trans hOF).weak fun i hi e => e.imp id fun e => by rw [e]; simp⟩

end Go.Proofs.YtmmlpbepaefamaaGreatDoor
