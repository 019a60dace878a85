/- The log over the disk as a plain function: Append, Sync, Open, with every outcome. -/
import Derived.Test.YtmmlpbepaefamaaGreatDoorDKeepF
import Derived.Test.YtmmlpbepaefamaaGreatDoorJLogX3
import Derived.Test.YtmmlpbepaefamaaGreatDoorKDX2
namespace Go.Proofs.YtmmlpbepaefamaaGreatDoor
open Go.RowKit

/-- A log in block jb. -/
def Jour (w : World) (jb d : Nat) (s : ByteArray) : Prop := ∃ n z : Int, Whole w jb 106 (jourC d s n z)
theorem Jour.lt {w : World} {jb d : Nat} {s : ByteArray} (h : Jour w jb d s) : jb < w.heap.size := by
  obtain ⟨_, _, h⟩ := h
  exact h.lt
theorem Jour.only {w w' : World} {Z : Nat → Prop} {jb d : Nat} {s : ByteArray} (h : Jour w jb d s) (ho : Only w w' Z) (hz : ¬ Z jb) : Jour w' jb d s := by
  obtain ⟨n, z, h⟩ := h
  exact ⟨n, z, h.only ho hz⟩
theorem Jour.low {w w' : World} {jb d : Nat} {s : ByteArray} (h : Jour w jb d s) (hb : Below w.heap.size w w') : Jour w' jb d s := h.only (Only.of_below hb fun _ => False) id
/-- What a call of the log leaves of the rest. -/
def JX (W w w' : World) (d jb : Nat) (s : ByteArray) (S : Nat → Prop) (A : Fs) (ks : List Int) (n : Nat) : Prop := Jour w' jb d s ∧ ∃ S', KD W w' d S' A ks n ∧ (Only w w' fun i => S i ∨ i = jb) ∧ ∀ i, i < w.heap.size → S' i → S i

set_option maxRecDepth 100000 in
set_option maxHeartbeats 4000000 in
theorem sj_append (W w : World) (d n jb : Nat) (S : Nat → Prop) (A A' : Fs) (ks : List Int) (s : ByteArray) (e : Int) (h : KD W w d S A ks n) (hA : okA A) (hn : n ≤ 1000000) (hJ : Jour w jb d s) (hjS : ¬ S jb) (hjW : W.heap.size ≤ jb) (hs : s.size ≤ 1000) (v : Value) (l : List (BitVec 8)) (hv : SliceIs w v l) (hl : l.length ≤ 65536) (hr : appR A (refB ks n) s (frameC l) = (e, A')) :
    Calls Tryz.prog 31 #[.pointer (some ⟨jb, 0, none⟩), v] w fun r w' => r = .returned (.int .i64 e) ∧ JX W w w' d jb s S A' ks (n + 1) := by
  obtain ⟨pa, ca, hve⟩ : ∃ a c, v = .slice a l.length c := by
    rcases hv with ⟨rfl, rfl | ⟨ad, c, rfl⟩⟩ | ⟨b, o, c, rfl, _, _⟩ <;> exact ⟨_, _, rfl⟩
  subst hve
  obtain ⟨jn, jz, hJ⟩ := hJ
  have HNO := Lib.hid (jnone_calls w jb d (hJ.cell 0))
  have HFR := Lib.hid (frame_calls w jb 2 _ l (jour_tab hJ) hv (by omega))
  have i1 : ¬ (65536 : Int) < (l.length : Int) := by omega
  have HD := Lib.hid h
  have HJ0 := Lib.hid hJ
  clear hv h hJ
  go_enter Tryz.func31, Tryz.ntmps31
  go_upto_region 6 with (first
    | (go_at_call 63; refine HFR.out.mono ?_; rintro r w2 ⟨_, rfl, O2, B2⟩; have HO := Lib.hid O2; (obtain ⟨ua, uc, hu⟩ := slice_of_row O2); rw [frameC_length] at hu; subst hu; clear O2)
    | (go_at_call 62; refine HNO.out.mono ?_; rintro r w1 ⟨rfl, rfl⟩)
    | fail)
  clear i1 HNO HFR
  have hb1 := B2.trans (((Below.refl w2.heap.size w2).drew).mono B2.size)
  have HJ := Lib.hid (HJ0.out.below B2 HJ0.out.lt)
  have HC := Lib.hid (kd_append_at (HD.out.low hb1) hA hn s (by omega) _ (frameC l) (HO.out.slice.low ((Below.refl w2.heap.size w2).drew)) (fun _ g o c e hS => by
    have h1 := (HD.out.old hS).1
    have h2 : w.heap.size ≤ g := own_ge HO.out (by rw [e]; rfl)
    omega) (by rw [frameC_length]; omega) hr)
  refine wp_region_noPanic ?_
  refine wp_region_held_drew (S := fun w' => w'.cell? ⟨jb, 0, none⟩ = some (.pointer (some ⟨d, 0, none⟩)) ∧ w'.cell? ⟨jb, 1, none⟩ = some (.string s)) (by kernel_rfl) (⟨HJ.out.drew.cell 0, HJ.out.drew.cell 1⟩) (fun hhS => ?_)
  have hJd := HJ.out.drew
  generalize w2.drew = wd at HC hhS hb1 hJd ⊢
  refine wpAnyH_take (i := 0) (oi := ⟨some 17, _, _, _, _, _⟩) (v := ?_) rfl (by kernel_rfl) (by kernel_rfl) (by kernel_rfl) (fun _ _ _ h => h) (Or.inl ⟨by rfl, ?_⟩) (by assumption) ?_
  rotate_left
  · intro w hSw
    (try dsimp only at hSw)
    go_simp
    all_goals (with_reducible rfl)
  try simp only [Act.put, List.setIfInBounds_toArray, List.set_cons_zero, List.set_cons_succ]
  refine wpAnyH_take (i := 1) (oi := ⟨some 18, _, _, _, _, _⟩) (v := ?_) rfl (by kernel_rfl) (by kernel_rfl) (by kernel_rfl) (fun _ _ _ h => h) (Or.inl ⟨by rfl, ?_⟩) (by assumption) ?_
  rotate_left
  · intro w hSw
    (try dsimp only at hSw)
    go_simp
    all_goals (with_reducible rfl)
  try simp only [Act.put, List.setIfInBounds_toArray, List.set_cons_zero, List.set_cons_succ]
  refine wpAnyH_take (i := 2) (oi := ⟨some 19, _, _, _, _, _⟩) (v := ?_) rfl (by kernel_rfl) (by kernel_rfl) (by kernel_rfl) (fun _ _ _ h => h) (Or.inl ⟨by rfl, ?_⟩) (by assumption) ?_
  rotate_left
  · intro w hSw
    (try dsimp only at hSw)
    go_simp
    all_goals (with_reducible rfl)
  try simp only [Act.put, List.setIfInBounds_toArray, List.set_cons_zero, List.set_cons_succ]
  refine wpAnyH_take (i := 3) (oi := ⟨some 20, _, _, _, _, _⟩) (v := ?_) rfl (by kernel_rfl) (by kernel_rfl) (by kernel_rfl) (fun _ _ _ h => h) (Or.inl ⟨by rfl, ?_⟩) (by assumption) ?_
  rotate_left
  · intro w hSw
    (try dsimp only at hSw)
    have y0 := hSw.1
    have y1 := hSw.2
    go_simp
    all_goals (with_reducible rfl)
  try simp only [Act.put, List.setIfInBounds_toArray, List.set_cons_zero, List.set_cons_succ]
  refine wpAnyH_take (i := 4) (oi := ⟨some 21, _, _, _, _, _⟩) (v := ?_) rfl (by kernel_rfl) (by kernel_rfl) (by kernel_rfl) (fun _ _ _ h => h) (Or.inl ⟨by rfl, ?_⟩) (by assumption) ?_
  rotate_left
  · intro w hSw
    (try dsimp only at hSw)
    go_simp
    all_goals (with_reducible rfl)
  try simp only [Act.put, List.setIfInBounds_toArray, List.set_cons_zero, List.set_cons_succ]
  refine wpAnyH_take (i := 5) (oi := ⟨some 22, _, _, _, _, _⟩) (v := ?_) rfl (by kernel_rfl) (by kernel_rfl) (by kernel_rfl) (fun _ _ _ h => h) (Or.inl ⟨by rfl, ?_⟩) (by assumption) ?_
  rotate_left
  · intro w hSw
    (try dsimp only at hSw)
    go_simp
    all_goals (with_reducible rfl)
  try simp only [Act.put, List.setIfInBounds_toArray, List.set_cons_zero, List.set_cons_succ]
  refine wpAnyH_take (i := 6) (oi := ⟨some 23, _, _, _, _, _⟩) (v := ?_) rfl (by kernel_rfl) (by kernel_rfl) (by kernel_rfl) (fun _ _ _ h => h) (Or.inl ⟨by rfl, ?_⟩) (by assumption) ?_
  rotate_left
  · intro w hSw
    (try dsimp only at hSw)
    go_simp
    all_goals (with_reducible rfl)
  try simp only [Act.put, List.setIfInBounds_toArray, List.set_cons_zero, List.set_cons_succ]
  refine wpAnyH_take (i := 7) (oi := ⟨some 24, _, _, _, _, _⟩) (v := ?_) rfl (by kernel_rfl) (by kernel_rfl) (by kernel_rfl) (fun _ _ _ h => h) (Or.inl ⟨by rfl, ?_⟩) (by assumption) ?_
  rotate_left
  · intro w hSw
    (try dsimp only at hSw)
    have y0 := hSw.1
    have y1 := hSw.2
    go_simp
    all_goals (with_reducible rfl)
  try simp only [Act.put, List.setIfInBounds_toArray, List.set_cons_zero, List.set_cons_succ]
  refine wpAnyH_take (i := 8) (oi := ⟨some 25, _, _, _, _, _⟩) (v := ?_) rfl (by kernel_rfl) (by kernel_rfl) (by kernel_rfl) (fun _ _ _ h => h) (Or.inl ⟨by rfl, ?_⟩) (by assumption) ?_
  rotate_left
  · intro w hSw
    (try dsimp only at hSw)
    go_simp
    all_goals (with_reducible rfl)
  try simp only [Act.put, List.setIfInBounds_toArray, List.set_cons_zero, List.set_cons_succ]
  refine wpAnyH_ready (rs := [9]) (by kernel_rfl) (by simp) ?_
  refine AllReadyH.cons (o := ⟨some 26, _, _, _, _, _⟩) rfl (fun K hK => ?_) AllReadyH.nil
  go_simp
  refine HC.out.mono ?_
  rintro r w5 ⟨rfl, S5, hD5, ho5, hs5⟩
  have hJ5 := hJd.only ho5 hjS
  refine hK.out _ _ (⟨hJ5.cell 0, hJ5.cell 1⟩) (fun _ => ?_)
  clear hK K
  try simp only [Act.put, List.setIfInBounds_toArray, List.set_cons_zero, List.set_cons_succ]
  refine wpAnyH_take (i := 10) (oi := ⟨some 6, _, _, _, _, _⟩) (v := ?_) rfl (by kernel_rfl) (by kernel_rfl) (by kernel_rfl) (fun _ _ _ h => h) (Or.inl ⟨by rfl, ?_⟩) (by assumption) ?_
  rotate_left
  · intro w hSw
    (try dsimp only at hSw)
    go_simp
    all_goals (with_reducible rfl)
  try simp only [Act.put, List.setIfInBounds_toArray, List.set_cons_zero, List.set_cons_succ]
  refine wpAnyH_done (by kernel_rfl) ?_ _
  refine NoPanic.normal ?_
  have HD5 := Lib.hid hD5
  have HO5 := Lib.hid (show Only w w5 fun i => S i from ((Only.of_below hb1 S).trans ho5).weak fun i _ e => e.elim id id)
  have HS5 := Lib.hid (show ∀ i, i < w.heap.size → S5 i → S i from fun i hi e => hs5 i (Nat.lt_of_lt_of_le hi hb1.size) e)
  have hS5j : ¬ S5 jb := fun e => hjS (hs5 jb (Nat.lt_of_lt_of_le HJ0.out.lt hb1.size) e)
  clear hD5 ho5 hs5 HC hb1
  by_cases he : e = 0
  · subst he
    have f1 := hJ5.free 258
    have c1 : w5.cell? ⟨jb, 258, none⟩ = some (.int .i64 jn) := (hJ5.cell 258).trans (jourC_n d s jn jz)
    have hJ6 := hJ5.put 258 (.int .i64 (wrap64 (jn + 1)))
    rw [jourC_setN] at hJ6
    have f2 := hJ6.free 259
    have c2 := (hJ6.cell 259).trans (jourC_z d s _ jz)
    have hJ7 := fun u : Int => by
      have := hJ6.put 259 (.int .i64 u)
      rwa [jourC_setZ] at this
    have HJ7 := Lib.hid hJ7
    have HS5J := Lib.hid hS5j
    have hfin : ∀ u : Int, JX W w ((w5.setCell ⟨jb, 258, none⟩ (.int .i64 (wrap64 (jn + 1)))).setCell ⟨jb, 259, none⟩ (.int .i64 u)) d jb s S A' ks (n + 1) := fun u => by
      have ho := (Only.set w5 ⟨jb, 258, none⟩ (.int .i64 (wrap64 (jn + 1)))).trans (Only.set (w5.setCell ⟨jb, 258, none⟩ (.int .i64 (wrap64 (jn + 1)))) ⟨jb, 259, none⟩ (.int .i64 u))
      refine ⟨⟨_, _, HJ7.out u⟩, S5, HD5.out.only ho (fun i _ e hS => ?_) (fun i _ e => ?_), (HO5.out.trans ho).weak fun i _ e => ?_, HS5.out⟩
      · rcases e with rfl | rfl <;> exact HS5J.out hS
      · rcases e with rfl | rfl <;> exact hjW
      · rcases e with e | e | e
        · exact .inl e
        · exact .inr e
        · exact .inr e
    have HFIN := Lib.hid hfin
    clear hfin hJ7 hJ6 hJ5 hS5j
    go_wp2
    go_ret
    exact ⟨rfl, HFIN.out _⟩
  · have g1 : (e == 0) = false := by simpa using he
    go_wp2
    go_ret
    exact ⟨rfl, ⟨_, _, hJ5⟩, S5, HD5.out, HO5.out.weak fun i _ e => .inl e, HS5.out⟩

set_option maxRecDepth 100000 in
set_option maxHeartbeats 4000000 in
theorem sj_sync_none (W w : World) (d n jb : Nat) (S : Nat → Prop) (A : Fs) (ks : List Int) (s : ByteArray) (h : KD W w d S A ks n) (hJ : Jour w jb d s) (hp : (((getA A s).map fun f => f.ops.length).getD 0 : Nat) = 0) :
    Calls Tryz.prog 38 #[.pointer (some ⟨jb, 0, none⟩)] w fun r w' => r = .returned (.int .i64 0) ∧ Below w.heap.size w w' := by
  obtain ⟨jn, jz, hJ⟩ := hJ
  have HNO := Lib.hid (jnone_calls w jb d (hJ.cell 0))
  have HJ := Lib.hid hJ
  have HC := Lib.hid (kd_pending_at (h.low ((Below.refl w.heap.size w).drew)) s 0 (by rw [hp]; rfl))
  clear h hJ hp
  go_enter Tryz.func38, Tryz.ntmps38
  go_upto_region 3 with (first
    | (go_at_call 62; refine HNO.out.mono ?_; rintro r w1 ⟨rfl, rfl⟩)
    | fail)
  have hb := (Below.refl w.heap.size w).drew
  refine wp_region_noPanic ?_
  refine wp_region_held_drew (S := fun w' => w'.cell? ⟨jb, 0, none⟩ = some (.pointer (some ⟨d, 0, none⟩)) ∧ w'.cell? ⟨jb, 1, none⟩ = some (.string s)) (by kernel_rfl) (⟨HJ.out.drew.cell 0, HJ.out.drew.cell 1⟩) (fun hhS => ?_)
  generalize w.drew = wd at HC hhS hb ⊢
  refine wpAnyH_take (i := 0) (oi := ⟨some 5, _, _, _, _, _⟩) (v := ?_) rfl (by kernel_rfl) (by kernel_rfl) (by kernel_rfl) (fun _ _ _ h => h) (Or.inl ⟨by rfl, ?_⟩) (by assumption) ?_
  rotate_left
  · intro w hSw
    (try dsimp only at hSw)
    go_simp
    all_goals (with_reducible rfl)
  try simp only [Act.put, List.setIfInBounds_toArray, List.set_cons_zero, List.set_cons_succ]
  refine wpAnyH_take (i := 1) (oi := ⟨some 6, _, _, _, _, _⟩) (v := ?_) rfl (by kernel_rfl) (by kernel_rfl) (by kernel_rfl) (fun _ _ _ h => h) (Or.inl ⟨by rfl, ?_⟩) (by assumption) ?_
  rotate_left
  · intro w hSw
    (try dsimp only at hSw)
    go_simp
    all_goals (with_reducible rfl)
  try simp only [Act.put, List.setIfInBounds_toArray, List.set_cons_zero, List.set_cons_succ]
  refine wpAnyH_take (i := 2) (oi := ⟨some 7, _, _, _, _, _⟩) (v := ?_) rfl (by kernel_rfl) (by kernel_rfl) (by kernel_rfl) (fun _ _ _ h => h) (Or.inl ⟨by rfl, ?_⟩) (by assumption) ?_
  rotate_left
  · intro w hSw
    (try dsimp only at hSw)
    go_simp
    all_goals (with_reducible rfl)
  try simp only [Act.put, List.setIfInBounds_toArray, List.set_cons_zero, List.set_cons_succ]
  refine wpAnyH_take (i := 3) (oi := ⟨some 8, _, _, _, _, _⟩) (v := ?_) rfl (by kernel_rfl) (by kernel_rfl) (by kernel_rfl) (fun _ _ _ h => h) (Or.inl ⟨by rfl, ?_⟩) (by assumption) ?_
  rotate_left
  · intro w hSw
    (try dsimp only at hSw)
    have y0 := hSw.1
    have y1 := hSw.2
    go_simp
    all_goals (with_reducible rfl)
  try simp only [Act.put, List.setIfInBounds_toArray, List.set_cons_zero, List.set_cons_succ]
  refine wpAnyH_take (i := 4) (oi := ⟨some 9, _, _, _, _, _⟩) (v := ?_) rfl (by kernel_rfl) (by kernel_rfl) (by kernel_rfl) (fun _ _ _ h => h) (Or.inl ⟨by rfl, ?_⟩) (by assumption) ?_
  rotate_left
  · intro w hSw
    (try dsimp only at hSw)
    go_simp
    all_goals (with_reducible rfl)
  try simp only [Act.put, List.setIfInBounds_toArray, List.set_cons_zero, List.set_cons_succ]
  refine wpAnyH_take (i := 5) (oi := ⟨some 10, _, _, _, _, _⟩) (v := ?_) rfl (by kernel_rfl) (by kernel_rfl) (by kernel_rfl) (fun _ _ _ h => h) (Or.inl ⟨by rfl, ?_⟩) (by assumption) ?_
  rotate_left
  · intro w hSw
    (try dsimp only at hSw)
    go_simp
    all_goals (with_reducible rfl)
  try simp only [Act.put, List.setIfInBounds_toArray, List.set_cons_zero, List.set_cons_succ]
  refine wpAnyH_take (i := 6) (oi := ⟨some 11, _, _, _, _, _⟩) (v := ?_) rfl (by kernel_rfl) (by kernel_rfl) (by kernel_rfl) (fun _ _ _ h => h) (Or.inl ⟨by rfl, ?_⟩) (by assumption) ?_
  rotate_left
  · intro w hSw
    (try dsimp only at hSw)
    go_simp
    all_goals (with_reducible rfl)
  try simp only [Act.put, List.setIfInBounds_toArray, List.set_cons_zero, List.set_cons_succ]
  refine wpAnyH_take (i := 7) (oi := ⟨some 12, _, _, _, _, _⟩) (v := ?_) rfl (by kernel_rfl) (by kernel_rfl) (by kernel_rfl) (fun _ _ _ h => h) (Or.inl ⟨by rfl, ?_⟩) (by assumption) ?_
  rotate_left
  · intro w hSw
    (try dsimp only at hSw)
    have y0 := hSw.1
    have y1 := hSw.2
    go_simp
    all_goals (with_reducible rfl)
  try simp only [Act.put, List.setIfInBounds_toArray, List.set_cons_zero, List.set_cons_succ]
  refine wpAnyH_ready (rs := [8]) (by kernel_rfl) (by simp) ?_
  refine AllReadyH.cons (o := ⟨some 13, _, _, _, _, _⟩) rfl (fun K hK => ?_) AllReadyH.nil
  go_simp
  refine HC.out.mono ?_
  rintro r w5 ⟨rfl, rfl⟩
  refine hK.out _ _ (hhS) (fun _ => ?_)
  clear hK K
  try simp only [Act.put, List.setIfInBounds_toArray, List.set_cons_zero, List.set_cons_succ]
  refine wpAnyH_take (i := 9) (oi := ⟨some 14, _, _, _, _, _⟩) (v := ?_) rfl (by kernel_rfl) (by kernel_rfl) (by kernel_rfl) (fun _ _ _ h => h) (Or.inl ⟨by rfl, ?_⟩) (by assumption) ?_
  rotate_left
  · intro w hSw
    (try dsimp only at hSw)
    go_simp
    all_goals (with_reducible rfl)
  try simp only [Act.put, List.setIfInBounds_toArray, List.set_cons_zero, List.set_cons_succ]
  refine wpAnyH_done (by kernel_rfl) ?_ _
  refine NoPanic.normal ?_
  go_wp2
  go_ret
  exact ⟨rfl, hb⟩

set_option maxRecDepth 100000 in
set_option maxHeartbeats 4000000 in
theorem sj_sync (W w : World) (d n jb : Nat) (S : Nat → Prop) (A A' : Fs) (ks : List Int) (s : ByteArray) (e : Int) (p : Nat) (h : KD W w d S A ks n) (hA : okA A) (hn : n ≤ 1000000) (hJ : Jour w jb d s) (hjS : ¬ S jb) (hp : (((getA A s).map fun f => f.ops.length).getD 0 : Nat) = p) (hp0 : p ≠ 0) (hr : syncR A (refB ks n) s = (e, A')) :
    Calls Tryz.prog 38 #[.pointer (some ⟨jb, 0, none⟩)] w fun r w' => r = .returned (.int .i64 e) ∧ JX W w w' d jb s S A' ks (n + 1) := by
  obtain ⟨jn, jz, hJ⟩ := hJ
  have HNO := Lib.hid (jnone_calls w jb d (hJ.cell 0))
  have HJ := Lib.hid hJ
  have HD := Lib.hid h
  have HC := Lib.hid (kd_pending_at (h.low ((Below.refl w.heap.size w).drew)) s p (by rw [hp]))
  have g1 : ((p : Int) == 0) = false := by
    have : (p : Int) ≠ 0 := by omega
    simpa using this
  clear h hJ hp hp0
  go_enter Tryz.func38, Tryz.ntmps38
  go_upto_region 3 with (first
    | (go_at_call 62; refine HNO.out.mono ?_; rintro r w1 ⟨rfl, rfl⟩)
    | fail)
  have hb := (Below.refl w.heap.size w).drew
  refine wp_region_noPanic ?_
  refine wp_region_held_drew (S := fun w' => w'.cell? ⟨jb, 0, none⟩ = some (.pointer (some ⟨d, 0, none⟩)) ∧ w'.cell? ⟨jb, 1, none⟩ = some (.string s)) (by kernel_rfl) (⟨HJ.out.drew.cell 0, HJ.out.drew.cell 1⟩) (fun hhS => ?_)
  have hJd := HJ.out.drew
  generalize w.drew = wd at HC hhS hb hJd ⊢
  refine wpAnyH_take (i := 0) (oi := ⟨some 5, _, _, _, _, _⟩) (v := ?_) rfl (by kernel_rfl) (by kernel_rfl) (by kernel_rfl) (fun _ _ _ h => h) (Or.inl ⟨by rfl, ?_⟩) (by assumption) ?_
  rotate_left
  · intro w hSw
    (try dsimp only at hSw)
    go_simp
    all_goals (with_reducible rfl)
  try simp only [Act.put, List.setIfInBounds_toArray, List.set_cons_zero, List.set_cons_succ]
  refine wpAnyH_take (i := 1) (oi := ⟨some 6, _, _, _, _, _⟩) (v := ?_) rfl (by kernel_rfl) (by kernel_rfl) (by kernel_rfl) (fun _ _ _ h => h) (Or.inl ⟨by rfl, ?_⟩) (by assumption) ?_
  rotate_left
  · intro w hSw
    (try dsimp only at hSw)
    go_simp
    all_goals (with_reducible rfl)
  try simp only [Act.put, List.setIfInBounds_toArray, List.set_cons_zero, List.set_cons_succ]
  refine wpAnyH_take (i := 2) (oi := ⟨some 7, _, _, _, _, _⟩) (v := ?_) rfl (by kernel_rfl) (by kernel_rfl) (by kernel_rfl) (fun _ _ _ h => h) (Or.inl ⟨by rfl, ?_⟩) (by assumption) ?_
  rotate_left
  · intro w hSw
    (try dsimp only at hSw)
    go_simp
    all_goals (with_reducible rfl)
  try simp only [Act.put, List.setIfInBounds_toArray, List.set_cons_zero, List.set_cons_succ]
  refine wpAnyH_take (i := 3) (oi := ⟨some 8, _, _, _, _, _⟩) (v := ?_) rfl (by kernel_rfl) (by kernel_rfl) (by kernel_rfl) (fun _ _ _ h => h) (Or.inl ⟨by rfl, ?_⟩) (by assumption) ?_
  rotate_left
  · intro w hSw
    (try dsimp only at hSw)
    have y0 := hSw.1
    have y1 := hSw.2
    go_simp
    all_goals (with_reducible rfl)
  try simp only [Act.put, List.setIfInBounds_toArray, List.set_cons_zero, List.set_cons_succ]
  refine wpAnyH_take (i := 4) (oi := ⟨some 9, _, _, _, _, _⟩) (v := ?_) rfl (by kernel_rfl) (by kernel_rfl) (by kernel_rfl) (fun _ _ _ h => h) (Or.inl ⟨by rfl, ?_⟩) (by assumption) ?_
  rotate_left
  · intro w hSw
    (try dsimp only at hSw)
    go_simp
    all_goals (with_reducible rfl)
  try simp only [Act.put, List.setIfInBounds_toArray, List.set_cons_zero, List.set_cons_succ]
  refine wpAnyH_take (i := 5) (oi := ⟨some 10, _, _, _, _, _⟩) (v := ?_) rfl (by kernel_rfl) (by kernel_rfl) (by kernel_rfl) (fun _ _ _ h => h) (Or.inl ⟨by rfl, ?_⟩) (by assumption) ?_
  rotate_left
  · intro w hSw
    (try dsimp only at hSw)
    go_simp
    all_goals (with_reducible rfl)
  try simp only [Act.put, List.setIfInBounds_toArray, List.set_cons_zero, List.set_cons_succ]
  refine wpAnyH_take (i := 6) (oi := ⟨some 11, _, _, _, _, _⟩) (v := ?_) rfl (by kernel_rfl) (by kernel_rfl) (by kernel_rfl) (fun _ _ _ h => h) (Or.inl ⟨by rfl, ?_⟩) (by assumption) ?_
  rotate_left
  · intro w hSw
    (try dsimp only at hSw)
    go_simp
    all_goals (with_reducible rfl)
  try simp only [Act.put, List.setIfInBounds_toArray, List.set_cons_zero, List.set_cons_succ]
  refine wpAnyH_take (i := 7) (oi := ⟨some 12, _, _, _, _, _⟩) (v := ?_) rfl (by kernel_rfl) (by kernel_rfl) (by kernel_rfl) (fun _ _ _ h => h) (Or.inl ⟨by rfl, ?_⟩) (by assumption) ?_
  rotate_left
  · intro w hSw
    (try dsimp only at hSw)
    have y0 := hSw.1
    have y1 := hSw.2
    go_simp
    all_goals (with_reducible rfl)
  try simp only [Act.put, List.setIfInBounds_toArray, List.set_cons_zero, List.set_cons_succ]
  refine wpAnyH_ready (rs := [8]) (by kernel_rfl) (by simp) ?_
  refine AllReadyH.cons (o := ⟨some 13, _, _, _, _, _⟩) rfl (fun K hK => ?_) AllReadyH.nil
  go_simp
  refine HC.out.mono ?_
  rintro r w5 ⟨rfl, rfl⟩
  refine hK.out _ _ (hhS) (fun _ => ?_)
  clear hK K
  try simp only [Act.put, List.setIfInBounds_toArray, List.set_cons_zero, List.set_cons_succ]
  refine wpAnyH_take (i := 9) (oi := ⟨some 14, _, _, _, _, _⟩) (v := (.bool false)) rfl (by kernel_rfl) (by kernel_rfl) (by kernel_rfl) (fun _ _ _ h => h) (Or.inl ⟨by rfl, ?_⟩) (by assumption) ?_
  · intro w hSw
    (try dsimp only at hSw)
    go_simp
    all_goals (first | done | simp)
  try simp only [Act.put, List.setIfInBounds_toArray, List.set_cons_zero, List.set_cons_succ]
  refine wpAnyH_done (by kernel_rfl) ?_ _
  refine NoPanic.normal ?_
  have hb2 := hb.trans (((Below.refl wd.heap.size wd).drew).mono hb.size)
  have HC2 := Lib.hid (kd_sync_at (HD.out.low hb2) hA hn s hr)
  have HJ2 := Lib.hid hJd
  clear HC hhS g1 hJd
  go_wp2
  refine wp_region_noPanic ?_
  refine wp_region_held_drew (S := fun w' => w'.cell? ⟨jb, 0, none⟩ = some (.pointer (some ⟨d, 0, none⟩)) ∧ w'.cell? ⟨jb, 1, none⟩ = some (.string s)) (by kernel_rfl) (⟨HJ2.out.drew.cell 0, HJ2.out.drew.cell 1⟩) (fun hhS => ?_)
  have hJd := HJ2.out.drew
  generalize wd.drew = wd2 at HC2 hhS hb2 hJd ⊢
  refine wpAnyH_take (i := 0) (oi := ⟨some 15, _, _, _, _, _⟩) (v := ?_) rfl (by kernel_rfl) (by kernel_rfl) (by kernel_rfl) (fun _ _ _ h => h) (Or.inl ⟨by rfl, ?_⟩) (by assumption) ?_
  rotate_left
  · intro w hSw
    (try dsimp only at hSw)
    go_simp
    all_goals (with_reducible rfl)
  try simp only [Act.put, List.setIfInBounds_toArray, List.set_cons_zero, List.set_cons_succ]
  refine wpAnyH_take (i := 1) (oi := ⟨some 16, _, _, _, _, _⟩) (v := ?_) rfl (by kernel_rfl) (by kernel_rfl) (by kernel_rfl) (fun _ _ _ h => h) (Or.inl ⟨by rfl, ?_⟩) (by assumption) ?_
  rotate_left
  · intro w hSw
    (try dsimp only at hSw)
    go_simp
    all_goals (with_reducible rfl)
  try simp only [Act.put, List.setIfInBounds_toArray, List.set_cons_zero, List.set_cons_succ]
  refine wpAnyH_take (i := 2) (oi := ⟨some 17, _, _, _, _, _⟩) (v := ?_) rfl (by kernel_rfl) (by kernel_rfl) (by kernel_rfl) (fun _ _ _ h => h) (Or.inl ⟨by rfl, ?_⟩) (by assumption) ?_
  rotate_left
  · intro w hSw
    (try dsimp only at hSw)
    go_simp
    all_goals (with_reducible rfl)
  try simp only [Act.put, List.setIfInBounds_toArray, List.set_cons_zero, List.set_cons_succ]
  refine wpAnyH_take (i := 3) (oi := ⟨some 18, _, _, _, _, _⟩) (v := ?_) rfl (by kernel_rfl) (by kernel_rfl) (by kernel_rfl) (fun _ _ _ h => h) (Or.inl ⟨by rfl, ?_⟩) (by assumption) ?_
  rotate_left
  · intro w hSw
    (try dsimp only at hSw)
    have y0 := hSw.1
    have y1 := hSw.2
    go_simp
    all_goals (with_reducible rfl)
  try simp only [Act.put, List.setIfInBounds_toArray, List.set_cons_zero, List.set_cons_succ]
  refine wpAnyH_take (i := 4) (oi := ⟨some 19, _, _, _, _, _⟩) (v := ?_) rfl (by kernel_rfl) (by kernel_rfl) (by kernel_rfl) (fun _ _ _ h => h) (Or.inl ⟨by rfl, ?_⟩) (by assumption) ?_
  rotate_left
  · intro w hSw
    (try dsimp only at hSw)
    go_simp
    all_goals (with_reducible rfl)
  try simp only [Act.put, List.setIfInBounds_toArray, List.set_cons_zero, List.set_cons_succ]
  refine wpAnyH_take (i := 5) (oi := ⟨some 20, _, _, _, _, _⟩) (v := ?_) rfl (by kernel_rfl) (by kernel_rfl) (by kernel_rfl) (fun _ _ _ h => h) (Or.inl ⟨by rfl, ?_⟩) (by assumption) ?_
  rotate_left
  · intro w hSw
    (try dsimp only at hSw)
    go_simp
    all_goals (with_reducible rfl)
  try simp only [Act.put, List.setIfInBounds_toArray, List.set_cons_zero, List.set_cons_succ]
  refine wpAnyH_take (i := 6) (oi := ⟨some 21, _, _, _, _, _⟩) (v := ?_) rfl (by kernel_rfl) (by kernel_rfl) (by kernel_rfl) (fun _ _ _ h => h) (Or.inl ⟨by rfl, ?_⟩) (by assumption) ?_
  rotate_left
  · intro w hSw
    (try dsimp only at hSw)
    go_simp
    all_goals (with_reducible rfl)
  try simp only [Act.put, List.setIfInBounds_toArray, List.set_cons_zero, List.set_cons_succ]
  refine wpAnyH_take (i := 7) (oi := ⟨some 22, _, _, _, _, _⟩) (v := ?_) rfl (by kernel_rfl) (by kernel_rfl) (by kernel_rfl) (fun _ _ _ h => h) (Or.inl ⟨by rfl, ?_⟩) (by assumption) ?_
  rotate_left
  · intro w hSw
    (try dsimp only at hSw)
    have y0 := hSw.1
    have y1 := hSw.2
    go_simp
    all_goals (with_reducible rfl)
  try simp only [Act.put, List.setIfInBounds_toArray, List.set_cons_zero, List.set_cons_succ]
  refine wpAnyH_ready (rs := [8]) (by kernel_rfl) (by simp) ?_
  refine AllReadyH.cons (o := ⟨some 23, _, _, _, _, _⟩) rfl (fun K hK => ?_) AllReadyH.nil
  go_simp
  refine HC2.out.mono ?_
  rintro r w6 ⟨rfl, S6, hD6, ho6, hs6⟩
  have hJ6 := hJd.only ho6 hjS
  refine hK.out _ _ (⟨hJ6.cell 0, hJ6.cell 1⟩) (fun _ => ?_)
  clear hK K
  try simp only [Act.put, List.setIfInBounds_toArray, List.set_cons_zero, List.set_cons_succ]
  refine wpAnyH_take (i := 9) (oi := ⟨some 2, _, _, _, _, _⟩) (v := ?_) rfl (by kernel_rfl) (by kernel_rfl) (by kernel_rfl) (fun _ _ _ h => h) (Or.inl ⟨by rfl, ?_⟩) (by assumption) ?_
  rotate_left
  · intro w hSw
    (try dsimp only at hSw)
    go_simp
    all_goals (with_reducible rfl)
  try simp only [Act.put, List.setIfInBounds_toArray, List.set_cons_zero, List.set_cons_succ]
  refine wpAnyH_done (by kernel_rfl) ?_ _
  refine NoPanic.normal ?_
  go_wp2
  go_ret
  exact ⟨rfl, ⟨_, _, hJ6⟩, S6, hD6, ((Only.of_below hb2 S).trans ho6).weak fun i _ e => .inl (e.elim id id), fun i hi e => hs6 i (Nat.lt_of_lt_of_le hi hb2.size) e⟩

end Go.Proofs.YtmmlpbepaefamaaGreatDoor
