/- The log over the disk as a plain function: Append, Sync, Open, with every outcome. -/
import Derived.Test.YtmmlpbepaefamaaGreatDoorDKeepF
import Derived.Test.YtmmlpbepaefamaaGreatDoorJLogX3
import Derived.Test.YtmmlpbepaefamaaGreatDoorKDX2
namespace Go.Proofs.YtmmlpbepaefamaaGreatDoor
open Go.RowKit

/-- A log in block jb. -/
def Jour (w : World) (jb d : Nat) (s : ByteArray) : Prop := ∃ n z : Int, Whole w jb 106 (jourC d s n z)
theorem Jour.lt {w : World} {jb d : Nat} {s : ByteArray} (h : Jour w jb d s) : jb < w.heap.size := by
  obtain ⟨_, _, h⟩ := h
  exact h.lt
theorem Jour.only {w w' : World} {Z : Nat → Prop} {jb d : Nat} {s : ByteArray} (h : Jour w jb d s) (ho : Only w w' Z) (hz : ¬ Z jb) : Jour w' jb d s := by
  obtain ⟨n, z, h⟩ := h
  exact ⟨n, z, h.only ho hz⟩
theorem Jour.low {w w' : World} {jb d : Nat} {s : ByteArray} (h : Jour w jb d s) (hb : Below w.heap.size w w') : Jour w' jb d s := h.only (Only.of_below hb fun _ => False) id
/-- What a call of the log leaves of the rest. -/
def JX (W w w' : World) (d jb : Nat) (s : ByteArray) (S : Nat → Prop) (A : Fs) (ks : List Int) (n : Nat) : Prop := Jour w' jb d s ∧ ∃ S', KD W w' d S' A ks n ∧ (Only w w' fun i => S i ∨ i = jb) ∧ ∀ i, i < w.heap.size → S' i → S i

set_option maxRecDepth 100000 in
set_option maxHeartbeats 4000000 in
theorem sj_append (W w : World) (d n jb : Nat) (S : Nat → Prop) (A A' : Fs) (ks : List Int) (s : ByteArray) (e : Int) (h : KD W w d S A ks n) (hA : okA A) (hn : n ≤ 1000000) (hJ : Jour w jb d s) (hjS : ¬ S jb) (hjW : W.heap.size ≤ jb) (hs : s.size ≤ 1000) (v : Value) (l : List (BitVec 8)) (hv : SliceIs w v l) (hl : l.length ≤ 65536) (hr : appR A (refB ks n) s (frameC l) = (e, A')) :
    Calls Tryz.prog 31 #[.pointer (some ⟨jb, 0, none⟩), v] w fun r w' => r = .returned (.int .i64 e) ∧ JX W w w' d jb s S A' ks (n + 1) := by
  obtain ⟨pa, ca, hve⟩ : ∃ a c, v = .slice a l.length c := by
    rcases hv with ⟨rfl, rfl | ⟨ad, c, rfl⟩⟩ | ⟨b, o, c, rfl, _, _⟩ <;> exact ⟨_, _, rfl⟩
  subst hve
  obtain ⟨jn, jz, hJ⟩ := hJ
  have HNO := Lib.hid (jnone_calls w jb d (hJ.cell 0))
  have HFR := Lib.hid (frame_calls w jb 2 _ l (jour_tab hJ) hv (by omega))
  have i1 : ¬ (65536 : Int) < (l.length : Int) := by omega
  have HD := Lib.hid h
  have HJ0 := Lib.hid hJ
  clear hv h hJ
  go_enter Tryz.func31, Tryz.ntmps31
  go_upto_region 6 with (first
    | (go_at_call 63; refine HFR.out.mono ?_; rintro r w2 ⟨_, rfl, O2, B2⟩; have HO := Lib.hid O2; (obtain ⟨ua, uc, hu⟩ := slice_of_row O2); rw [frameC_length] at hu; subst hu; clear O2)
    | (go_at_call 62; refine HNO.out.mono ?_; rintro r w1 ⟨rfl, rfl⟩)
    | fail)
  clear i1 HNO HFR
  have hb1 := B2.trans (((Below.refl w2.heap.size w2).drew).mono B2.size)
  have HJ := Lib.hid (HJ0.out.below B2 HJ0.out.lt)
  have HC := Lib.hid (kd_append_at (HD.out.low hb1) hA hn s (by omega) _ (frameC l) (HO.out.slice.low ((Below.refl w2.heap.size w2).drew)) (fun _ g o c e hS => by
    have h1 := (HD.out.old hS).1
    have h2 : w.heap.size ≤ g := own_ge HO.out (by rw [e]; rfl)
    omega) (by rw [frameC_length]; omega) hr)
  refine wp_region_noPanic ?_
  refine wp_region_held_drew (S := fun w' => w'.cell? ⟨jb, 0, none⟩ = some (.pointer (some ⟨d, 0, none⟩)) ∧ w'.cell? ⟨jb, 1, none⟩ = some (.string s)) (by kernel_rfl) (⟨HJ.out.drew.cell 0, HJ.out.drew.cell 1⟩) (fun hhS => ?_)
  have hJd := HJ.out.drew
  generalize w2.drew = wd at HC hhS hb1 hJd ⊢
  refine wpAnyH_take (i := 0) (oi := ⟨some 17, _, _, _, _, _⟩) (v := ?_) rfl (by kernel_rfl) (by kernel_rfl) (by kernel_rfl) (fun _ _ _ h => h) (Or.inl ⟨by rfl, ?_⟩) (by assumption) ?_
  rotate_left
  · intro w hSw
    (try dsimp only at hSw)
    go_simp
    all_goals (with_reducible rfl)
  try simp only [Act.put, List.setIfInBounds_toArray, List.set_cons_zero, List.set_cons_succ]
  refine wpAnyH_take (i := 1) (oi := ⟨some 18, _, _, _, _, _⟩) (v := ?_) rfl (by kernel_rfl) (by kernel_rfl) (by kernel_rfl) (fun _ _ _ h => h) (Or.inl ⟨by rfl, ?_⟩) (by assumption) ?_
  rotate_left
  · intro w hSw
    (try dsimp only at hSw)
    go_simp
    all_goals (with_reducible rfl)
  try simp only [Act.put, List.setIfInBounds_toArray, List.set_cons_zero, List.set_cons_succ]
  refine wpAnyH_take (i := 2) (oi := ⟨some 19, _, _, _, _, _⟩) (v := ?_) rfl (by kernel_rfl) (by kernel_rfl) (by kernel_rfl) (fun _ _ _ h => h) (Or.inl ⟨by rfl, ?_⟩) (by assumption) ?_
  rotate_left
  · intro w hSw
    (try dsimp only at hSw)
    go_simp
    all_goals (with_reducible rfl)
  try simp only [Act.put, List.setIfInBounds_toArray, List.set_cons_zero, List.set_cons_succ]
  refine wpAnyH_take (i := 3) (oi := ⟨some 20, _, _, _, _, _⟩) (v := ?_) rfl (by kernel_rfl) (by kernel_rfl) (by kernel_rfl) (fun _ _ _ h => h) (Or.inl ⟨by rfl, ?_⟩) (by assumption) ?_
  rotate_left
  · intro w hSw
    (try dsimp only at hSw)
    have y0 := hSw.1
    have y1 := hSw.2
    go_simp
    all_goals (with_reducible rfl)
  try simp only [Act.put, List.setIfInBounds_toArray, List.set_cons_zero, List.set_cons_succ]
  refine wpAnyH_take (i := 4) (oi := ⟨some 21, _, _, _, _, _⟩) (v := ?_) rfl (by kernel_rfl) (by kernel_rfl) (by kernel_rfl) (fun _ _ _ h => h) (Or.inl ⟨by rfl, ?_⟩) (by assumption) ?_
  rotate_left
  · intro w hSw
    (try dsimp only at hSw)
    go_simp
    all_goals (with_reducible rfl)
  try simp only [Act.put, List.setIfInBounds_toArray, List.set_cons_zero, List.set_cons_succ]
  refine wpAnyH_take (i := 5) (oi := ⟨some 22, _, _, _, _, _⟩) (v := ?_) rfl (by kernel_rfl) (by kernel_rfl) (by kernel_rfl) (fun _ _ _ h => h) (Or.inl ⟨by rfl, ?_⟩) (by assumption) ?_
  rotate_left
  · intro w hSw
    (try dsimp only at hSw)
    go_simp
    all_goals (with_reducible rfl)
  try simp only [Act.put, List.setIfInBounds_toArray, List.set_cons_zero, List.set_cons_succ]
  refine wpAnyH_take (i := 6) (oi := ⟨some 23, _, _, _, _, _⟩) (v := ?_) rfl (by kernel_rfl) (by kernel_rfl) (by kernel_rfl) (fun _ _ _ h => h) (Or.inl ⟨by rfl, ?_⟩) (by assumption) ?_
  rotate_left
  · intro w hSw
    (try dsimp only at hSw)
    go_simp
    all_goals (with_reducible rfl)
  try simp only [Act.put, List.setIfInBounds_toArray, List.set_cons_zero, List.set_cons_succ]
  refine wpAnyH_take (i := 7) (oi := ⟨some 24, _, _, _, _, _⟩) (v := ?_) rfl (by kernel_rfl) (by kernel_rfl) (by kernel_rfl) (fun _ _ _ h => h) (Or.inl ⟨by rfl, ?_⟩) (by assumption) ?_
  rotate_left
  · intro w hSw
    (try dsimp only at hSw)
    have y0 := hSw.1
    have y1 := hSw.2
    go_simp
    all_goals (with_reducible rfl)
  try simp only [Act.put, List.setIfInBounds_toArray, List.set_cons_zero, List.set_cons_succ]
  refine wpAnyH_take (i := 8) (oi := ⟨some 25, _, _, _, _, _⟩) (v := ?_) rfl (by kernel_rfl) (by kernel_rfl) (by kernel_rfl) (fun _ _ _ h => h) (Or.inl ⟨by rfl, ?_⟩) (by assumption) ?_
  rotate_left
  · intro w hSw
    (try dsimp only at hSw)
    go_simp
    all_goals (with_reducible rfl)
  try simp only [Act.put, List.setIfInBounds_toArray, List.set_cons_zero, List.set_cons_succ]
  refine wpAnyH_ready (rs := [9]) (by kernel_rfl) (by simp) ?_
  refine AllReadyH.cons (o := ⟨some 26, _, _, _, _, _⟩) rfl (fun K hK => ?_) AllReadyH.nil
  go_simp
  refine HC.out.mono ?_
  rintro r w5 ⟨rfl, S5, hD5, ho5, hs5⟩
  have hJ5 := hJd.only ho5 hjS
  refine hK.out _ _ (⟨hJ5.cell 0, hJ5.cell 1⟩) (fun _ => ?_)
  clear hK K
  try simp only [Act.put, List.setIfInBounds_toArray, List.set_cons_zero, List.set_cons_succ]
  refine wpAnyH_take (i := 10) (oi := ⟨some 6, _, _, _, _, _⟩) (v := ?_) rfl (by kernel_rfl) (by kernel_rfl) (by kernel_rfl) (fun _ _ _ h => h) (Or.inl ⟨by rfl, ?_⟩) (by assumption) ?_
  rotate_left
  · intro w hSw
    (try dsimp only at hSw)
    go_simp
    all_goals (with_reducible rfl)
  try simp only [Act.put, List.setIfInBounds_toArray, List.set_cons_zero, List.set_cons_succ]
  refine wpAnyH_done (by kernel_rfl) ?_ _
  refine NoPanic.normal ?_
  have HD5 := Lib.hid hD5
  have HO5 := Lib.hid (show Only w w5 fun i => S i from ((Only.of_below hb1 S).trans ho5).weak fun i _ e => e.elim id id)
  have HS5 := Lib.hid (show ∀ i, i < w.heap.size → S5 i → S i from fun i hi e => hs5 i (Nat.lt_of_lt_of_le hi hb1.size) e)
  have hS5j : ¬ S5 jb := fun e => hjS (hs5 jb (Nat.lt_of_lt_of_le HJ0.out.lt hb1.size) e)
  clear hD5 ho5 hs5 HC hb1
  by_cases he : e = 0
  · subst he
    have f1 := hJ5.free 258
    have c1 : w5.cell? ⟨jb, 258, none⟩ = some (.int .i64 jn) := (hJ5.cell 258).trans (jourC_n d s jn jz)
    have hJ6 := hJ5.put 258 (.int .i64 (wrap64 (jn + 1)))
    rw [jourC_setN] at hJ6
    have f2 := hJ6.free 259
    have c2 := (hJ6.cell 259).trans (jourC_z d s _ jz)
    have hJ7 := fun u : Int => by
      have := hJ6.put 259 (.int .i64 u)
      rwa [jourC_setZ] at this
    have HJ7 := Lib.hid hJ7
    have HS5J := Lib.hid hS5j
    have hfin : ∀ u : Int, JX W w ((w5.setCell ⟨jb, 258, none⟩ (.int .i64 (wrap64 (jn + 1)))).setCell ⟨jb, 259, none⟩ (.int .i64 u)) d jb s S A' ks (n + 1) := fun u => by
      have ho := (Only.set w5 ⟨jb, 258, none⟩ (.int .i64 (wrap64 (jn + 1)))).trans (Only.set (w5.setCell ⟨jb, 258, none⟩ (.int .i64 (wrap64 (jn + 1)))) ⟨jb, 259, none⟩ (.int .i64 u))
      refine ⟨⟨_, _, HJ7.out u⟩, S5, HD5.out.only ho (fun i _ e hS => ?_) (fun i _ e => ?_), (HO5.out.trans ho).weak fun i _ e => ?_, HS5.out⟩
      · rcases e with rfl | rfl <;> exact HS5J.out hS
      · rcases e with rfl | rfl <;> exact hjW
      · rcases e with e | e | e
        · exact .inl e
        · exact .inr e
        · exact .inr e
    have HFIN := Lib.hid hfin
    clear hfin hJ7 hJ6 hJ5 hS5j
    go_wp2
    go_ret
    exact ⟨rfl, HFIN.out _⟩
  · have g1 : (e == 0) = false := by simpa using he
    go_wp2
    go_ret
    exact ⟨rfl, ⟨_, _, hJ5⟩, S5, HD5.out, HO5.out.weak fun i _ e => .inl e, HS5.out⟩

set_option maxRecDepth 100000 in
set_option maxHeartbeats 4000000 in
theorem sj_sync_none (W w : World) (d n jb : Nat) (S : Nat → Prop) (A : Fs) (ks : List Int) (s : ByteArray) (h : KD W w d S A ks n) (hJ : Jour w jb d s) (hp : (((getA A s).map fun f => f.ops.length).getD 0 : Nat) = 0) :
    Calls Tryz.prog 38 #[.pointer (some ⟨jb, 0, none⟩)] w fun r w' => r = .returned (.int .i64 0) ∧ Below w.heap.size w w' := by
  obtain ⟨jn, jz, hJ⟩ := hJ
  have HNO := Lib.hid (jnone_calls w jb d (hJ.cell 0))
  have HJ := Lib.hid hJ
  have HC := Lib.hid (kd_pending_at (h.low ((Below.refl w.heap.size w).drew)) s 0 (by rw [hp]; rfl))
  clear h hJ hp
  go_enter Tryz.func38, Tryz.ntmps38
  go_upto_region 3 with (first
    | (go_at_call 62; refine HNO.out.mono ?_; rintro r w1 ⟨rfl, rfl⟩)
    | fail)
  have hb := (Below.refl w.heap.size w).drew
  refine wp_region_noPanic ?_
  refine wp_region_held_drew (S := fun w' => w'.cell? ⟨jb, 0, none⟩ = some (.pointer (some ⟨d, 0, none⟩)) ∧ w'.cell? ⟨jb, 1, none⟩ = some (.string s)) (by kernel_rfl) (⟨HJ.out.drew.cell 0, HJ.out.drew.cell 1⟩) (fun hhS => ?_)
  generalize w.drew = wd at HC hhS hb ⊢
  refine wpAnyH_take (i := 0) (oi := ⟨some 5, _, _, _, _, _⟩) (v := ?_) rfl (by kernel_rfl) (by kernel_rfl) (by kernel_rfl) (fun _ _ _ h => h) (Or.inl ⟨by rfl, ?_⟩) (by assumption) ?_
  rotate_left
  · intro w hSw
    (try dsimp only at hSw)
    go_simp
    all_goals (with_reducible rfl)
  try simp only [Act.put, List.setIfInBounds_toArray, List.set_cons_zero, List.set_cons_succ]
  refine wpAnyH_take (i := 1) (oi := ⟨some 6, _, _, _, _, _⟩) (v := ?_) rfl (by kernel_rfl) (by kernel_rfl) (by kernel_rfl) (fun _ _ _ h => h) (Or.inl ⟨by rfl, ?_⟩) (by assumption) ?_
  rotate_left
  · intro w hSw
    (try dsimp only at hSw)
    go_simp
    all_goals (with_reducible rfl)
  try simp only [Act.put, List.setIfInBounds_toArray, List.set_cons_zero, List.set_cons_succ]
  refine wpAnyH_take (i := 2) (oi := ⟨some 7, _, _, _, _, _⟩) (v := ?_) rfl (by kernel_rfl) (by kernel_rfl) (by kernel_rfl) (fun _ _ _ h => h) (Or.inl ⟨by rfl, ?_⟩) (by assumption) ?_
  rotate_left
  · intro w hSw
    (try dsimp only at hSw)
    go_simp
    all_goals (with_reducible rfl)
  try simp only [Act.put, List.setIfInBounds_toArray, List.set_cons_zero, List.set_cons_succ]
  refine wpAnyH_take (i := 3) (oi := ⟨some 8, _, _, _, _, _⟩) (v := ?_) rfl (by kernel_rfl) (by kernel_rfl) (by kernel_rfl) (fun _ _ _ h => h) (Or.inl ⟨by rfl, ?_⟩) (by assumption) ?_
  rotate_left
  · intro w hSw
    (try dsimp only at hSw)
    have y0 := hSw.1
    have y1 := hSw.2
    go_simp
    all_goals (with_reducible rfl)
  try simp only [Act.put, List.setIfInBounds_toArray, List.set_cons_zero, List.set_cons_succ]
  refine wpAnyH_take (i := 4) (oi := ⟨some 9, _, _, _, _, _⟩) (v := ?_) rfl (by kernel_rfl) (by kernel_rfl) (by kernel_rfl) (fun _ _ _ h => h) (Or.inl ⟨by rfl, ?_⟩) (by assumption) ?_
  rotate_left
  · intro w hSw
    (try dsimp only at hSw)
    go_simp
    all_goals (with_reducible rfl)
  try simp only [Act.put, List.setIfInBounds_toArray, List.set_cons_zero, List.set_cons_succ]
  refine wpAnyH_take (i := 5) (oi := ⟨some 10, _, _, _, _, _⟩) (v := ?_) rfl (by kernel_rfl) (by kernel_rfl) (by kernel_rfl) (fun _ _ _ h => h) (Or.inl ⟨by rfl, ?_⟩) (by assumption) ?_
  rotate_left
  · intro w hSw
    (try dsimp only at hSw)
    go_simp
    all_goals (with_reducible rfl)
  try simp only [Act.put, List.setIfInBounds_toArray, List.set_cons_zero, List.set_cons_succ]
  refine wpAnyH_take (i := 6) (oi := ⟨some 11, _, _, _, _, _⟩) (v := ?_) rfl (by kernel_rfl) (by kernel_rfl) (by kernel_rfl) (fun _ _ _ h => h) (Or.inl ⟨by rfl, ?_⟩) (by assumption) ?_
  rotate_left
  · intro w hSw
    (try dsimp only at hSw)
    go_simp
    all_goals (with_reducible rfl)
  try simp only [Act.put, List.setIfInBounds_toArray, List.set_cons_zero, List.set_cons_succ]
  refine wpAnyH_take (i := 7) (oi := ⟨some 12, _, _, _, _, _⟩) (v := ?_) rfl (by kernel_rfl) (by kernel_rfl) (by kernel_rfl) (fun _ _ _ h => h) (Or.inl ⟨by rfl, ?_⟩) (by assumption) ?_
  rotate_left
  · intro w hSw
    (try dsimp only at hSw)
    have y0 := hSw.1
    have y1 := hSw.2
    go_simp
    all_goals (with_reducible rfl)
  try simp only [Act.put, List.setIfInBounds_toArray, List.set_cons_zero, List.set_cons_succ]
  refine wpAnyH_ready (rs := [8]) (by kernel_rfl) (by simp) ?_
  refine AllReadyH.cons (o := ⟨some 13, _, _, _, _, _⟩) rfl (fun K hK => ?_) AllReadyH.nil
  go_simp
  refine HC.out.mono ?_
  rintro r w5 ⟨rfl, rfl⟩
  refine hK.out _ _ (hhS) (fun _ => ?_)
  clear hK K
  try simp only [Act.put, List.setIfInBounds_toArray, List.set_cons_zero, List.set_cons_succ]
  refine wpAnyH_take (i := 9) (oi := ⟨some 14, _, _, _, _, _⟩) (v := ?_) rfl (by kernel_rfl) (by kernel_rfl) (by kernel_rfl) (fun _ _ _ h => h) (Or.inl ⟨by rfl, ?_⟩) (by assumption) ?_
  rotate_left
  · intro w hSw
    (try dsimp only at hSw)
    go_simp
    all_goals (with_reducible rfl)
  try simp only [Act.put, List.setIfInBounds_toArray, List.set_cons_zero, List.set_cons_succ]
  refine wpAnyH_done (by kernel_rfl) ?_ _
  refine NoPanic.normal ?_
  go_wp2
  go_ret
  exact ⟨rfl, hb⟩

set_option maxRecDepth 100000 in
set_option maxHeartbeats 4000000 in
theorem sj_sync (W w : World) (d n jb : Nat) (S : Nat → Prop) (A A' : Fs) (ks : List Int) (s : ByteArray) (e : Int) (p : Nat) (h : KD W w d S A ks n) (hA : okA A) (hn : n ≤ 1000000) (hJ : Jour w jb d s) (hjS : ¬ S jb) (hp : (((getA A s).map fun f => f.ops.length).getD 0 : Nat) = p) (hp0 : p ≠ 0) (hr : syncR A (refB ks n) s = (e, A')) :
    Calls Tryz.prog 38 #[.pointer (some ⟨jb, 0, none⟩)] w fun r w' => r = .returned (.int .i64 e) ∧ JX W w w' d jb s S A' ks (n + 1) := by
  obtain ⟨jn, jz, hJ⟩ := hJ
  have HNO := Lib.hid (jnone_calls w jb d (hJ.cell 0))
  have HJ := Lib.hid hJ
  have HD := Lib.hid h
  have HC := Lib.hid (kd_pending_at (h.low ((Below.refl w.heap.size w).drew)) s p (by rw [hp]))
  have g1 : ((p : Int) == 0) = false := by
    have : (p : Int) ≠ 0 := by omega
    simpa using this
  clear h hJ hp hp0
  go_enter Tryz.func38, Tryz.ntmps38
  go_upto_region 3 with (first
    | (go_at_call 62; refine HNO.out.mono ?_; rintro r w1 ⟨rfl, rfl⟩)
    | fail)
  have hb := (Below.refl w.heap.size w).drew
  refine wp_region_noPanic ?_
  refine wp_region_held_drew (S := fun w' => w'.cell? ⟨jb, 0, none⟩ = some (.pointer (some ⟨d, 0, none⟩)) ∧ w'.cell? ⟨jb, 1, none⟩ = some (.string s)) (by kernel_rfl) (⟨HJ.out.drew.cell 0, HJ.out.drew.cell 1⟩) (fun hhS => ?_)
  have hJd := HJ.out.drew
  generalize w.drew = wd at HC hhS hb hJd ⊢
  refine wpAnyH_take (i := 0) (oi := ⟨some 5, _, _, _, _, _⟩) (v := ?_) rfl (by kernel_rfl) (by kernel_rfl) (by kernel_rfl) (fun _ _ _ h => h) (Or.inl ⟨by rfl, ?_⟩) (by assumption) ?_
  rotate_left
  · intro w hSw
    (try dsimp only at hSw)
    go_simp
    all_goals (with_reducible rfl)
  try simp only [Act.put, List.setIfInBounds_toArray, List.set_cons_zero, List.set_cons_succ]
  refine wpAnyH_take (i := 1) (oi := ⟨some 6, _, _, _, _, _⟩) (v := ?_) rfl (by kernel_rfl) (by kernel_rfl) (by kernel_rfl) (fun _ _ _ h => h) (Or.inl ⟨by rfl, ?_⟩) (by assumption) ?_
  rotate_left
  · intro w hSw
    (try dsimp only at hSw)
    go_simp
    all_goals (with_reducible rfl)
  try simp only [Act.put, List.setIfInBounds_toArray, List.set_cons_zero, List.set_cons_succ]
  refine wpAnyH_take (i := 2) (oi := ⟨some 7, _, _, _, _, _⟩) (v := ?_) rfl (by kernel_rfl) (by kernel_rfl) (by kernel_rfl) (fun _ _ _ h => h) (Or.inl ⟨by rfl, ?_⟩) (by assumption) ?_
  rotate_left
  · intro w hSw
    (try dsimp only at hSw)
    go_simp
    all_goals (with_reducible rfl)
  try simp only [Act.put, List.setIfInBounds_toArray, List.set_cons_zero, List.set_cons_succ]
  refine wpAnyH_take (i := 3) (oi := ⟨some 8, _, _, _, _, _⟩) (v := ?_) rfl (by kernel_rfl) (by kernel_rfl) (by kernel_rfl) (fun _ _ _ h => h) (Or.inl ⟨by rfl, ?_⟩) (by assumption) ?_
  rotate_left
  · intro w hSw
    (try dsimp only at hSw)
    have y0 := hSw.1
    have y1 := hSw.2
    go_simp
    all_goals (with_reducible rfl)
  try simp only [Act.put, List.setIfInBounds_toArray, List.set_cons_zero, List.set_cons_succ]
  refine wpAnyH_take (i := 4) (oi := ⟨some 9, _, _, _, _, _⟩) (v := ?_) rfl (by kernel_rfl) (by kernel_rfl) (by kernel_rfl) (fun _ _ _ h => h) (Or.inl ⟨by rfl, ?_⟩) (by assumption) ?_
  rotate_left
  · intro w hSw
    (try dsimp only at hSw)
    go_simp
    all_goals (with_reducible rfl)
  try simp only [Act.put, List.setIfInBounds_toArray, List.set_cons_zero, List.set_cons_succ]
  refine wpAnyH_take (i := 5) (oi := ⟨some 10, _, _, _, _, _⟩) (v := ?_) rfl (by kernel_rfl) (by kernel_rfl) (by kernel_rfl) (fun _ _ _ h => h) (Or.inl ⟨by rfl, ?_⟩) (by assumption) ?_
  rotate_left
  · intro w hSw
    (try dsimp only at hSw)
    go_simp
    all_goals (with_reducible rfl)
  try simp only [Act.put, List.setIfInBounds_toArray, List.set_cons_zero, List.set_cons_succ]
  refine wpAnyH_take (i := 6) (oi := ⟨some 11, _, _, _, _, _⟩) (v := ?_) rfl (by kernel_rfl) (by kernel_rfl) (by kernel_rfl) (fun _ _ _ h => h) (Or.inl ⟨by rfl, ?_⟩) (by assumption) ?_
  rotate_left
  · intro w hSw
    (try dsimp only at hSw)
    go_simp
    all_goals (with_reducible rfl)
  try simp only [Act.put, List.setIfInBounds_toArray, List.set_cons_zero, List.set_cons_succ]
  refine wpAnyH_take (i := 7) (oi := ⟨some 12, _, _, _, _, _⟩) (v := ?_) rfl (by kernel_rfl) (by kernel_rfl) (by kernel_rfl) (fun _ _ _ h => h) (Or.inl ⟨by rfl, ?_⟩) (by assumption) ?_
  rotate_left
  · intro w hSw
    (try dsimp only at hSw)
    have y0 := hSw.1
    have y1 := hSw.2
    go_simp
    all_goals (with_reducible rfl)
  try simp only [Act.put, List.setIfInBounds_toArray, List.set_cons_zero, List.set_cons_succ]
  refine wpAnyH_ready (rs := [8]) (by kernel_rfl) (by simp) ?_
  refine AllReadyH.cons (o := ⟨some 13, _, _, _, _, _⟩) rfl (fun K hK => ?_) AllReadyH.nil
  go_simp
  refine HC.out.mono ?_
  rintro r w5 ⟨rfl, rfl⟩
  refine hK.out _ _ (hhS) (fun _ => ?_)
  clear hK K
  try simp only [Act.put, List.setIfInBounds_toArray, List.set_cons_zero, List.set_cons_succ]
  refine wpAnyH_take (i := 9) (oi := ⟨some 14, _, _, _, _, _⟩) (v := (.bool false)) rfl (by kernel_rfl) (by kernel_rfl) (by kernel_rfl) (fun _ _ _ h => h) (Or.inl ⟨by rfl, ?_⟩) (by assumption) ?_
  · intro w hSw
    (try dsimp only at hSw)
    go_simp
    all_goals (first | done | simp)
  try simp only [Act.put, List.setIfInBounds_toArray, List.set_cons_zero, List.set_cons_succ]
  refine wpAnyH_done (by kernel_rfl) ?_ _
  refine NoPanic.normal ?_
  have hb2 := hb.trans (((Below.refl wd.heap.size wd).drew).mono hb.size)
  have HC2 := Lib.hid (kd_sync_at (HD.out.low hb2) hA hn s hr)
  have HJ2 := Lib.hid hJd
  clear HC hhS g1 hJd
  go_wp2
  refine wp_region_noPanic ?_
  refine wp_region_held_drew (S := fun w' => w'.cell? ⟨jb, 0, none⟩ = some (.pointer (some ⟨d, 0, none⟩)) ∧ w'.cell? ⟨jb, 1, none⟩ = some (.string s)) (by kernel_rfl) (⟨HJ2.out.drew.cell 0, HJ2.out.drew.cell 1⟩) (fun hhS => ?_)
  have hJd := HJ2.out.drew
  generalize wd.drew = wd2 at HC2 hhS hb2 hJd ⊢
  refine wpAnyH_take (i := 0) (oi := ⟨some 15, _, _, _, _, _⟩) (v := ?_) rfl (by kernel_rfl) (by kernel_rfl) (by kernel_rfl) (fun _ _ _ h => h) (Or.inl ⟨by rfl, ?_⟩) (by assumption) ?_
  rotate_left
  · intro w hSw
    (try dsimp only at hSw)
    go_simp
    all_goals (with_reducible rfl)
  try simp only [Act.put, List.setIfInBounds_toArray, List.set_cons_zero, List.set_cons_succ]
  refine wpAnyH_take (i := 1) (oi := ⟨some 16, _, _, _, _, _⟩) (v := ?_) rfl (by kernel_rfl) (by kernel_rfl) (by kernel_rfl) (fun _ _ _ h => h) (Or.inl ⟨by rfl, ?_⟩) (by assumption) ?_
  rotate_left
  · intro w hSw
    (try dsimp only at hSw)
    go_simp
    all_goals (with_reducible rfl)
  try simp only [Act.put, List.setIfInBounds_toArray, List.set_cons_zero, List.set_cons_succ]
  refine wpAnyH_take (i := 2) (oi := ⟨some 17, _, _, _, _, _⟩) (v := ?_) rfl (by kernel_rfl) (by kernel_rfl) (by kernel_rfl) (fun _ _ _ h => h) (Or.inl ⟨by rfl, ?_⟩) (by assumption) ?_
  rotate_left
  · intro w hSw
    (try dsimp only at hSw)
    go_simp
    all_goals (with_reducible rfl)
  try simp only [Act.put, List.setIfInBounds_toArray, List.set_cons_zero, List.set_cons_succ]
  refine wpAnyH_take (i := 3) (oi := ⟨some 18, _, _, _, _, _⟩) (v := ?_) rfl (by kernel_rfl) (by kernel_rfl) (by kernel_rfl) (fun _ _ _ h => h) (Or.inl ⟨by rfl, ?_⟩) (by assumption) ?_
  rotate_left
  · intro w hSw
    (try dsimp only at hSw)
    have y0 := hSw.1
    have y1 := hSw.2
    go_simp
    all_goals (with_reducible rfl)
  try simp only [Act.put, List.setIfInBounds_toArray, List.set_cons_zero, List.set_cons_succ]
  refine wpAnyH_take (i := 4) (oi := ⟨some 19, _, _, _, _, _⟩) (v := ?_) rfl (by kernel_rfl) (by kernel_rfl) (by kernel_rfl) (fun _ _ _ h => h) (Or.inl ⟨by rfl, ?_⟩) (by assumption) ?_
  rotate_left
  · intro w hSw
    (try dsimp only at hSw)
    go_simp
    all_goals (with_reducible rfl)
  try simp only [Act.put, List.setIfInBounds_toArray, List.set_cons_zero, List.set_cons_succ]
  refine wpAnyH_take (i := 5) (oi := ⟨some 20, _, _, _, _, _⟩) (v := ?_) rfl (by kernel_rfl) (by kernel_rfl) (by kernel_rfl) (fun _ _ _ h => h) (Or.inl ⟨by rfl, ?_⟩) (by assumption) ?_
  rotate_left
  · intro w hSw
    (try dsimp only at hSw)
    go_simp
    all_goals (with_reducible rfl)
  try simp only [Act.put, List.setIfInBounds_toArray, List.set_cons_zero, List.set_cons_succ]
  refine wpAnyH_take (i := 6) (oi := ⟨some 21, _, _, _, _, _⟩) (v := ?_) rfl (by kernel_rfl) (by kernel_rfl) (by kernel_rfl) (fun _ _ _ h => h) (Or.inl ⟨by rfl, ?_⟩) (by assumption) ?_
  rotate_left
  · intro w hSw
    (try dsimp only at hSw)
    go_simp
    all_goals (with_reducible rfl)
  try simp only [Act.put, List.setIfInBounds_toArray, List.set_cons_zero, List.set_cons_succ]
  refine wpAnyH_take (i := 7) (oi := ⟨some 22, _, _, _, _, _⟩) (v := ?_) rfl (by kernel_rfl) (by kernel_rfl) (by kernel_rfl) (fun _ _ _ h => h) (Or.inl ⟨by rfl, ?_⟩) (by assumption) ?_
  rotate_left
  · intro w hSw
    (try dsimp only at hSw)
    have y0 := hSw.1
    have y1 := hSw.2
    go_simp
    all_goals (with_reducible rfl)
  try simp only [Act.put, List.setIfInBounds_toArray, List.set_cons_zero, List.set_cons_succ]
  refine wpAnyH_ready (rs := [8]) (by kernel_rfl) (by simp) ?_
  refine AllReadyH.cons (o := ⟨some 23, _, _, _, _, _⟩) rfl (fun K hK => ?_) AllReadyH.nil
  go_simp
  refine HC2.out.mono ?_
  rintro r w6 ⟨rfl, S6, hD6, ho6, hs6⟩
  have hJ6 := hJd.only ho6 hjS
  refine hK.out _ _ (⟨hJ6.cell 0, hJ6.cell 1⟩) (fun _ => ?_)
  clear hK K
  try simp only [Act.put, List.setIfInBounds_toArray, List.set_cons_zero, List.set_cons_succ]
  refine wpAnyH_take (i := 9) (oi := ⟨some 2, _, _, _, _, _⟩) (v := ?_) rfl (by kernel_rfl) (by kernel_rfl) (by kernel_rfl) (fun _ _ _ h => h) (Or.inl ⟨by rfl, ?_⟩) (by assumption) ?_
  rotate_left
  · intro w hSw
    (try dsimp only at hSw)
    go_simp
    all_goals (with_reducible rfl)
  try simp only [Act.put, List.setIfInBounds_toArray, List.set_cons_zero, List.set_cons_succ]
  refine wpAnyH_done (by kernel_rfl) ?_ _
  refine NoPanic.normal ?_
  go_wp2
  go_ret
  exact ⟨rfl, ⟨_, _, hJ6⟩, S6, hD6, ((Only.of_below hb2 S).trans ho6).weak fun i _ e => .inl (e.elim id id), fun i hi e => hs6 i (Nat.lt_of_lt_of_le hi hb2.size) e⟩

end Go.Proofs.YtmmlpbepaefamaaGreatDoor

/- Open of a log, over the disk as a plain function: with every outcome. -/
namespace Go.Proofs.YtmmlpbepaefamaaGreatDoor
open Go.RowKit

theorem LogAt.jr {W w : World} {jb d fm rm c : Nat} {own : Nat → Option Nat} {L : List (ByteArray × Nat × Dfile)} {ks : List Int} {s : ByteArray} {n z : Int} (h : LogAt W w jb d fm rm own L ks c s n z) : Jour w jb d s := ⟨_, _, h.jour⟩

theorem sj_open_none (W w : World) (d n : Nat) (S : Nat → Prop) (A : Fs) (ks : List Int) (s : ByteArray) (h : KD W w d S A ks n) (hnm : nameN s = true) (hs : s.size ≤ 1000) (hg : getA A s = none) :
    Calls Tryz.prog 23 #[.pointer (some ⟨d, 0, none⟩), .string s] w fun r w' => ∃ jb ua uc, r = .returned (.tuple #[.pointer (some ⟨jb, 0, none⟩), .slice ua 0 uc, .int .i64 0]) ∧ Jour w' jb d s ∧ w.heap.size ≤ jb ∧ Below w.heap.size w w' := by
  obtain ⟨fm, rm, own, L, h1, rfl, hS⟩ := h
  refine (jopen_missing W w d fm rm n own L ks h1 s hnm (by omega) (view_none hg)).mono ?_
  rintro r w' ⟨jb, ⟨ua, uc, rfl⟩, hJ, hj, hb⟩
  exact ⟨jb, ua, uc, rfl, hJ.jr, hj, hb⟩
theorem sj_open_whole (W w : World) (d n : Nat) (S : Nat → Prop) (A : Fs) (ks : List Int) (s : ByteArray) (h : KD W w d S A ks n) (hA : okA A) (hnm : nameN s = true) (hs : s.size ≤ 1000) {f : Dfile} (hg : getA A s = some f) {bs : List (List (BitVec 8))} (hr : readC f.content = some (bs, f.content.length)) :
    Calls Tryz.prog 23 #[.pointer (some ⟨d, 0, none⟩), .string s] w fun r w' => ∃ jb u, r = .returned (.tuple #[.pointer (some ⟨jb, 0, none⟩), u, .int .i64 0]) ∧ Jour w' jb d s ∧ w.heap.size ≤ jb ∧ ListsOwn w' w.heap.size u bs ∧ Below w.heap.size w w' := by
  have hfo := hA.get hg
  obtain ⟨fm, rm, own, L, h1, rfl, hS⟩ := h
  obtain ⟨fb, hg2⟩ := view_some hg
  refine (jopen_whole W w d fm rm n own L ks h1 s hnm (by omega) hg2 (by omega) hr).mono ?_
  rintro r w' ⟨jb, u, rfl, hJ, hj, hU, hb⟩
  exact ⟨jb, u, rfl, hJ.jr, hj, hU, hb⟩

/-- What Open of a log leaves where it cuts. -/
def CX (W w w' : World) (d : Nat) (S : Nat → Prop) (A : Fs) (ks : List Int) (n : Nat) : Prop := ∃ S', KD W w' d S' A ks n ∧ Only w w' S ∧ ∀ i, i < w.heap.size → S' i → S i
/-- What Open of a log with a torn end answers. -/
def OpenJ (W w w' : World) (d : Nat) (S : Nat → Prop) (A1 A2 : Fs) (ks : List Int) (n : Nat) (s : ByteArray) (bs : List (List (BitVec 8))) (e1 e2 : Int) (r : Ending) : Prop :=
  (e1 ≠ 0 ∧ r = .returned (.tuple #[.pointer none, .slice none 0 0, .int .i64 e1]) ∧ CX W w w' d S A1 ks (n + 1)) ∨
  (e1 = 0 ∧ e2 ≠ 0 ∧ r = .returned (.tuple #[.pointer none, .slice none 0 0, .int .i64 e2]) ∧ CX W w w' d S A2 ks (n + 2)) ∨
  (e1 = 0 ∧ e2 = 0 ∧ ∃ jb u, r = .returned (.tuple #[.pointer (some ⟨jb, 0, none⟩), u, .int .i64 0]) ∧ Jour w' jb d s ∧ w.heap.size ≤ jb ∧ ListsOwn w' w.heap.size u bs ∧ ∃ S', KD W w' d S' A2 ks (n + 2) ∧ Only w w' S ∧ (∀ i, i < w.heap.size → S' i → S i) ∧ ¬ S' jb ∧ ∀ i, S' i → i < w.heap.size ∨ jb < i)

set_option maxRecDepth 100000 in
set_option maxHeartbeats 4000000 in
theorem sj_open_torn (W w : World) (d n : Nat) (S : Nat → Prop) (A A1 A2 : Fs) (ks : List Int) (s : ByteArray) (h : KD W w d S A ks n) (hA : okA A) (hA1 : okA A1) (hn : n ≤ 900000) (hnm : nameN s = true) (hs : s.size ≤ 1000) {f : Dfile} (hg : getA A s = some f) {bs : List (List (BitVec 8))} {k : Nat} (hr : readC f.content = some (bs, k)) (hk : k < f.content.length) (hfl : f.content.length ≤ 1048576) (e1 e2 : Int) (hc : cutR A (refB ks n) s k = (e1, A1)) (hsy : e1 = 0 → syncR A1 (refB ks (n + 1)) s = (e2, A2)) :
    Calls Tryz.prog 23 #[.pointer (some ⟨d, 0, none⟩), .string s] w fun r w' => OpenJ W w w' d S A1 A2 ks n s bs e1 e2 r := by
  have HNM := Lib.hid (fun w => hnm ▸ jnamed_calls w s (by omega))
  have HT := Lib.hid table_calls
  have HD := Lib.hid h
  have HR0 := Lib.hid (kd_read_at h hA s f hg)
  have HRD := Lib.hid (fun w' T v (hv : SliceR w' v f.content) (ht : Whole w' T 106 (jourC d s 0 0)) => read_some w' T 2 v f.content (jour_tab ht) hv (by omega) hr)
  clear h hnm
  obtain ⟨N, hN⟩ : ∃ n, f.content.length = n := ⟨_, rfl⟩
  rw [hN] at HR0 hfl hk
  have HN := Lib.hid hN
  clear hN hr hg
  have i1 : (k : Int) < (N : Int) := by omega
  go_enter Tryz.func23, Tryz.ntmps23
  go_upto_region 12 with (first
    | (go_at_call 57; refine (HRD.out w3 jb _ (HS0.out.low B3) hJ3).mono ?_; rintro e w4 ⟨b4, _, rfl, ⟨ua, uc, rfl⟩, hU⟩; have hJ4 := hJ3.below b4 hJ3.lt; have B4 := B3.trans (b4.mono B3.size); replace hU := hU.down B3.size)
    | (refine wpList_box_row (by rfl) 106 _ (by rfl) (jourC d s 0 0).toArray (by rfl) ?_; have hJ3 := Whole.new w2 106 (jourC d s 0 0).toArray; have B3 := B2.trans (((Below.refl w2.heap.size w2).alloc (Nat.le_refl _) (.cells (jourC d s 0 0).toArray 106)).mono B2.size); have hjb : w0.heap.size ≤ w2.heap.size := B2.size; generalize w2.alloc (.cells (jourC d s 0 0).toArray 106) = w3 at hJ3 B3 ⊢; generalize w2.heap.size = jb at hJ3 hjb ⊢; replace hJ3 : Whole w3 jb 106 (jourC d s 0 0) := hJ3)
    | (refine wpList_build_three (by rfl) 106 _ _ _ 0 1 2 (by rfl) (.pointer (some ⟨d, 0, none⟩)) (.string s) (.agg (tabRow 256).toArray) (by rfl) (by rfl) (by rfl) (jourC d s 0 0).toArray (built_jour d s) ?_)
    | (go_at_call 56; refine (HT.out w1).mono ?_; rintro e w2 ⟨rfl, b2⟩; have B2 := B1.trans (b2.mono B1.size); clear b2)
    | (go_at_call 55; refine (HNM.out w0).mono ?_; rintro e w1 ⟨rfl, b1⟩; have B1 := B0.trans (b1.mono B0.size); clear b1)
    | (go_at_call 20; refine HR0.out.mono ?_; rintro e w0 ⟨_, rfl, ⟨ba, bc, rfl⟩, O0, HB0⟩; have HS0 := Own.room O0; replace HS0 := Lib.hid HS0; clear O0; have B0 := Below.refl w0.heap.size w0)
    | fail)
  have hB04 := HB0.trans (B4.mono HB0.size)
  have hD4 := HD.out.low hB04
  have HC1 := Lib.hid (kd_cut_at hD4 hA (by omega) s k hc)
  have hjw : w.heap.size ≤ jb := Nat.le_trans HB0.size hjb
  have hjS : ¬ S jb := fun e => by have := (HD.out.old e).1; omega
  have HU4 := Lib.hid hU
  clear hU hD4
  by_cases h1 : e1 = 0
  · subst h1
    have hsy := hsy rfl
    go_upto_region 17 with (first
      | (go_at_call 46; refine HC2.out.mono ?_; rintro e w6 ⟨rfl, S6, hD6, ho6, hs6⟩)
      | (go_at_call 58; refine HC1.out.mono ?_; rintro e w5 ⟨rfl, S5, hD5, ho5, hs5⟩; have HC2 := Lib.hid (kd_sync_at hD5 hA1 (by omega) s hsy))
      | fail)
    have hjlt : jb < w4.heap.size := hJ4.lt
    have hj5 : ¬ S5 jb := fun e => hjS (hs5 jb hjlt e)
    have hj6 : ¬ S6 jb := fun e => hj5 (hs6 jb (Nat.lt_of_lt_of_le hjlt ho5.size) e)
    have hJ6 := (hJ4.only ho5 hjS).only ho6 hj5
    have hOO : Only w w6 S := ((Only.of_below hB04 S).trans (ho5.trans ho6)).weak fun i hi e => by
      rcases e with e | e | e
      · exact e
      · exact e
      · exact hs5 i (Nat.lt_of_lt_of_le hi hB04.size) e
    have hSS : ∀ i, i < w.heap.size → S6 i → S i := fun i hi e => hs5 i (Nat.lt_of_lt_of_le hi hB04.size) (hs6 i (Nat.lt_of_lt_of_le hi (Nat.le_trans hB04.size ho5.size)) e)
    have HF := Lib.hid (And.intro hD6 (And.intro hOO hSS))
    have hout : ∀ i, S6 i → i < w.heap.size ∨ jb < i := fun i e => by
      rcases Nat.lt_or_ge i w4.heap.size with hi | hi
      · have := (HD.out.old (hs5 i hi (hs6 i (Nat.lt_of_lt_of_le hi ho5.size) e))).1
        exact .inl this
      · exact .inr (Nat.lt_of_lt_of_le hjlt hi)
    have HOUT := Lib.hid hout
    by_cases h2 : e2 = 0
    · subst h2
      have f1 := hJ6.free 258
      have c1 : w6.cell? ⟨jb, 258, none⟩ = some (.int .i64 0) := (hJ6.cell 258).trans (jourC_n d s 0 0)
      have hJ7 := hJ6.put 258 (.int .i64 bs.length)
      rw [jourC_setN] at hJ7
      have f2 := hJ7.free 259
      have c2 := (hJ7.cell 259).trans (jourC_z d s bs.length 0)
      have hJ8 := hJ7.put 259 (.int .i64 k)
      rw [jourC_setZ] at hJ8
      have hU6 : ListsOwn w6 w0.heap.size (.slice ua bs.length uc) bs := HU4.out.only ((ho5.trans ho6).weak fun i hi e => e.elim id fun e => hs5 i hi e) fun i hi _ e => by
        have := (HD.out.old e).1
        have := HB0.size
        omega
      have hU7 := hU6.away hJ6 (by decide) (by decide) 258 (.int .i64 bs.length)
      have hU8 := hU7.away hJ7 (by decide) (by decide) 259 (.int .i64 k)
      have hW6 : W.heap.size ≤ jb := Nat.le_trans HD.out.below.size hjw
      have ho := (Only.set w6 ⟨jb, 258, none⟩ (.int .i64 bs.length)).trans (Only.set (w6.setCell ⟨jb, 258, none⟩ (.int .i64 bs.length)) ⟨jb, 259, none⟩ (.int .i64 k))
      have hD8 := HF.out.1.only ho (fun i _ e hS => by rcases e with rfl | rfl <;> exact hj6 hS) (fun i _ e => by rcases e with rfl | rfl <;> exact hW6)
      have HE := Lib.hid (And.intro hJ8 (And.intro (hU8.down HB0.size) hD8))
      have HO8 := Lib.hid (show Only w ((w6.setCell ⟨jb, 258, none⟩ (.int .i64 bs.length)).setCell ⟨jb, 259, none⟩ (.int .i64 k)) S from (HF.out.2.1.trans ho).weak fun i hi e => by
        rcases e with e | e | e
        · exact e
        · have e : i = jb := e
          omega
        · have e : i = jb := e
          omega)
      clear hJ8 hU8 hU7 hU6 hD8 hJ7 ho
      go_wp2
      go_ret3
      exact Or.inr (Or.inr ⟨rfl, rfl, _, _, rfl, ⟨_, _, HE.out.1⟩, hjw, HE.out.2.1, S6, HE.out.2.2, HO8.out, HF.out.2.2, hj6, HOUT.out⟩)
    · have g2 : (e2 == 0) = false := by simpa using h2
      go_wp2
      go_ret3
      exact Or.inr (Or.inl ⟨rfl, h2, rfl, S6, HF.out.1, HF.out.2.1, HF.out.2.2⟩)
  · have g1 : (e1 == 0) = false := by simpa using h1
    go_wp2_with (first
      | (go_at_call 58; refine HC1.out.mono ?_; rintro e w5 ⟨rfl, S5, hD5, ho5, hs5⟩)
      | fail)
    go_ret3
    exact Or.inl ⟨h1, rfl, S5, hD5, ((Only.of_below hB04 S).trans ho5).weak fun i _ e => e.elim id id, fun i hi e => hs5 i (Nat.lt_of_lt_of_le hi hB04.size) e⟩

end Go.Proofs.YtmmlpbepaefamaaGreatDoor
