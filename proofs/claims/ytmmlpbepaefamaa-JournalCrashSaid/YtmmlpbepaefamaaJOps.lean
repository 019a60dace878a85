/- Journal.Append, Journal.Sync. -/
import Derived.Test.YtmmlpbepaefamaaJTorn
namespace Go.Proofs.Ytmmlpbepaefamaa
open Go.RowKit

theorem Own.at_block {w : World} {B : Nat} {v : Value} {l : List (BitVec 8)} (h : Own w B v l) {g o n c : Nat} (e : v = .slice (some ⟨g, o, none⟩) n c) : B ≤ g := own_ge h (by rw [e]; rfl)

set_option maxRecDepth 100000 in
set_option maxHeartbeats 4000000 in
theorem japp_new (W w : World) (jb d fm rm c : Nat) (own : Nat → Option Nat) (L : List (ByteArray × Nat × Dfile)) (ks : List Int) (s : ByteArray) (n z : Nat) (h : LogAt W w jb d fm rm own L ks c s n z) (hn : n ≤ 1000000000) (hz : z ≤ 1000000000) (hc : c ≤ 1000000000) (hq : ((c : Int) + 1) ∉ ks) (hnm : nameN s = true) (hs : s.size ≤ 9223372036854775806) (v : Value) (l : List (BitVec 8)) (hv : SliceIs w v l) (hll : l.length ≤ 65536) (hg : getL L s = none) (hlen : L.length < 64) :
    Calls Try.prog 12 #[.pointer (some ⟨jb, 0, none⟩), v] w fun e w' => e = .returned (.int .i64 0) ∧ ∃ own' fb, LogAt W w' jb d fm rm own' (L ++ [(s, fb, ⟨[], [.add (frameC l)], true⟩)]) ks (c + 1) s ((n : Int) + 1) ((z : Int) + ((l.length : Int) + 12)) ∧ (∀ i, i < w.heap.size → own' i = own i) ∧ w.heap.size ≤ fb ∧ Only w w' fun i => i = d ∨ i = fm ∨ i = jb ∨ own i ≠ none := by
  obtain ⟨pa, ca, rfl⟩ := hv.len
  have HNO := Lib.hid (jnone_calls w jb d (h.jour.cell 0))
  have HFR := Lib.hid (frame_calls w jb 2 _ l (jour_tab h.jour) hv (by omega))
  have i1 : ¬ (65536 : Int) < (l.length : Int) := by omega
  have HG := Lib.hid hg
  have HNE := Lib.hid (And.intro (Nat.not_le_of_lt h.disk.box.lt) (Nat.not_le_of_lt h.disk.all.lt))
  clear hg hv
  go_enter Try.func12, Try.ntmps12
  go_upto_region 6 with (first
    | (go_at_call 39; refine HFR.out.mono ?_; rintro e w2 ⟨_, rfl, O2, B2⟩; have HO := Lib.hid O2; (obtain ⟨ua, uc, hu⟩ := slice_of_row O2); rw [frameC_length] at hu; subst hu; replace h := h.low B2; clear O2)
    | (go_at_call 38; refine HNO.out.mono ?_; rintro e w1 ⟨rfl, rfl⟩)
    | fail)
  clear i1 HNO HFR
  refine wp_region_noPanic ?_
  refine wp_region_held_drew (S := fun w' => w'.cell? ⟨jb, 0, none⟩ = some (.pointer (some ⟨d, 0, none⟩)) ∧ w'.cell? ⟨jb, 1, none⟩ = some (.string s)) (by kernel_rfl) (⟨(h.low ((Below.refl _ _).drew)).jour.cell 0, (h.low ((Below.refl _ _).drew)).jour.cell 1⟩) (fun hhS => ?_)
  replace h := h.low ((Below.refl w2.heap.size w2).drew)
  have hB1 := (Below.refl w2.heap.size w2).drew
  generalize w2.drew = wd at h hB1 hhS ⊢
  have HO1 := Lib.hid (show Only w wd (fun _ => False) from Only.of_below (B2.trans (hB1.mono B2.size)) _)
  have HB1 := Lib.hid (show w.heap.size ≤ wd.heap.size from (B2.trans (hB1.mono B2.size)).size)
  clear B2
  refine wpAnyH_take (i := 0) (oi := ⟨some 17, _, _, _, _, _⟩) (v := ?_) rfl (by kernel_rfl) (by kernel_rfl) (by kernel_rfl) (fun _ _ _ h => h) (Or.inl ⟨by rfl, ?_⟩) (by assumption) ?_
  rotate_left
  · intro w hSw
    (try dsimp only at hSw)
    go_simp
    all_goals (with_reducible rfl)
  try simp only [Act.put, List.setIfInBounds_toArray, List.set_cons_zero, List.set_cons_succ]
  refine wpAnyH_take (i := 1) (oi := ⟨some 18, _, _, _, _, _⟩) (v := ?_) rfl (by kernel_rfl) (by kernel_rfl) (by kernel_rfl) (fun _ _ _ h => h) (Or.inl ⟨by rfl, ?_⟩) (by assumption) ?_
  rotate_left
  · intro w hSw
    (try dsimp only at hSw)
    go_simp
    all_goals (with_reducible rfl)
  try simp only [Act.put, List.setIfInBounds_toArray, List.set_cons_zero, List.set_cons_succ]
  refine wpAnyH_take (i := 2) (oi := ⟨some 19, _, _, _, _, _⟩) (v := ?_) rfl (by kernel_rfl) (by kernel_rfl) (by kernel_rfl) (fun _ _ _ h => h) (Or.inl ⟨by rfl, ?_⟩) (by assumption) ?_
  rotate_left
  · intro w hSw
    (try dsimp only at hSw)
    go_simp
    all_goals (with_reducible rfl)
  try simp only [Act.put, List.setIfInBounds_toArray, List.set_cons_zero, List.set_cons_succ]
  refine wpAnyH_take (i := 3) (oi := ⟨some 20, _, _, _, _, _⟩) (v := ?_) rfl (by kernel_rfl) (by kernel_rfl) (by kernel_rfl) (fun _ _ _ h => h) (Or.inl ⟨by rfl, ?_⟩) (by assumption) ?_
  rotate_left
  · intro w hSw
    (try dsimp only at hSw)
    have y0 := hSw.1
    have y1 := hSw.2
    go_simp
    all_goals (with_reducible rfl)
  try simp only [Act.put, List.setIfInBounds_toArray, List.set_cons_zero, List.set_cons_succ]
  refine wpAnyH_take (i := 4) (oi := ⟨some 21, _, _, _, _, _⟩) (v := ?_) rfl (by kernel_rfl) (by kernel_rfl) (by kernel_rfl) (fun _ _ _ h => h) (Or.inl ⟨by rfl, ?_⟩) (by assumption) ?_
  rotate_left
  · intro w hSw
    (try dsimp only at hSw)
    go_simp
    all_goals (with_reducible rfl)
  try simp only [Act.put, List.setIfInBounds_toArray, List.set_cons_zero, List.set_cons_succ]
  refine wpAnyH_take (i := 5) (oi := ⟨some 22, _, _, _, _, _⟩) (v := ?_) rfl (by kernel_rfl) (by kernel_rfl) (by kernel_rfl) (fun _ _ _ h => h) (Or.inl ⟨by rfl, ?_⟩) (by assumption) ?_
  rotate_left
  · intro w hSw
    (try dsimp only at hSw)
    go_simp
    all_goals (with_reducible rfl)
  try simp only [Act.put, List.setIfInBounds_toArray, List.set_cons_zero, List.set_cons_succ]
  refine wpAnyH_take (i := 6) (oi := ⟨some 23, _, _, _, _, _⟩) (v := ?_) rfl (by kernel_rfl) (by kernel_rfl) (by kernel_rfl) (fun _ _ _ h => h) (Or.inl ⟨by rfl, ?_⟩) (by assumption) ?_
  rotate_left
  · intro w hSw
    (try dsimp only at hSw)
    go_simp
    all_goals (with_reducible rfl)
  try simp only [Act.put, List.setIfInBounds_toArray, List.set_cons_zero, List.set_cons_succ]
  refine wpAnyH_take (i := 7) (oi := ⟨some 24, _, _, _, _, _⟩) (v := ?_) rfl (by kernel_rfl) (by kernel_rfl) (by kernel_rfl) (fun _ _ _ h => h) (Or.inl ⟨by rfl, ?_⟩) (by assumption) ?_
  rotate_left
  · intro w hSw
    (try dsimp only at hSw)
    have y0 := hSw.1
    have y1 := hSw.2
    go_simp
    all_goals (with_reducible rfl)
  try simp only [Act.put, List.setIfInBounds_toArray, List.set_cons_zero, List.set_cons_succ]
  refine wpAnyH_take (i := 8) (oi := ⟨some 25, _, _, _, _, _⟩) (v := ?_) rfl (by kernel_rfl) (by kernel_rfl) (by kernel_rfl) (fun _ _ _ h => h) (Or.inl ⟨by rfl, ?_⟩) (by assumption) ?_
  rotate_left
  · intro w hSw
    (try dsimp only at hSw)
    go_simp
    all_goals (with_reducible rfl)
  try simp only [Act.put, List.setIfInBounds_toArray, List.set_cons_zero, List.set_cons_succ]
  refine wpAnyH_ready (rs := [9]) (by kernel_rfl) (by simp) ?_
  refine AllReadyH.cons (o := ⟨some 26, _, _, _, _, _⟩) rfl (fun K hK => ?_) AllReadyH.nil
  go_simp
  refine (dapp_new W wd d fm rm c own L ks h.disk hc s hq hnm hs HG.out hlen _ (frameC l) (HO.out.slice.low hB1) (fun g o cc e => ⟨fun e2 => HNE.out.1 (by rw [← e2]; exact HO.out.at_block e), fun e2 => HNE.out.2 (by rw [← e2]; exact HO.out.at_block e)⟩) (by rw [frameC_length]; omega)).mono ?_
  rintro e w5 ⟨rfl, own2, fb, hD2, he2, hfb, hO2⟩
  have h2 := h.did hD2 he2 hO2
  refine hK.out _ _ (⟨h2.jour.cell 0, h2.jour.cell 1⟩) (fun _ => ?_)
  clear hK K
  try simp only [Act.put, List.setIfInBounds_toArray, List.set_cons_zero, List.set_cons_succ]
  refine wpAnyH_take (i := 10) (oi := ⟨some 6, _, _, _, _, _⟩) (v := ?_) rfl (by kernel_rfl) (by kernel_rfl) (by kernel_rfl) (fun _ _ _ h => h) (Or.inl ⟨by rfl, ?_⟩) (by assumption) ?_
  rotate_left
  · intro w hSw
    (try dsimp only at hSw)
    go_simp
    all_goals (with_reducible rfl)
  try simp only [Act.put, List.setIfInBounds_toArray, List.set_cons_zero, List.set_cons_succ]
  refine wpAnyH_done (by kernel_rfl) ?_ _
  refine NoPanic.normal ?_
  have HO5 := Lib.hid hO2
  have HE5 := Lib.hid he2
  clear hO2 he2 hD2
  have f1 := h2.jour.free 258
  have c1 : w5.cell? ⟨jb, 258, none⟩ = some (.int .i64 n) := (h2.jour.cell 258).trans (jourC_n d s n z)
  have h5 := h2.setN ((n : Int) + 1)
  have f2 := h5.jour.free 259
  have c2 := (h5.jour.cell 259).trans (jourC_z d s ((n : Int) + 1) z)
  have h6 := h5.setZ ((z : Int) + ((l.length + 12 : Nat) : Int))
  have g1 : IntKind.i64.wrap ((n : Int) + 1) = (n : Int) + 1 := IntWalk.i64_in _ (by omega)
  have g2 : IntKind.i64.wrap ((z : Int) + ((l.length + 12 : Nat) : Int)) = (z : Int) + ((l.length + 12 : Nat) : Int) := IntWalk.i64_in _ (by omega)
  clear h2 h
  generalize hlq : ((l.length + 12 : Nat) : Int) = LQ at g2 h6 ⊢
  go_wp2
  go_ret
  obtain rfl : LQ = (l.length : Int) + 12 := by omega
  refine ⟨rfl, own2, fb, h6, fun i hi => HE5.out i (Nat.lt_of_lt_of_le hi HB1.out), Nat.le_trans HB1.out hfb, (((HO1.out.trans HO5.out).trans (Only.set w5 ⟨jb, 258, none⟩ _)).trans (Only.set _ ⟨jb, 259, none⟩ _)).weak fun i hi e => ?_⟩
  rcases e with ((e | e | e | e) | e) | e
  · exact e.elim
  · exact .inl e
  · exact .inr (.inl e)
  · exact .inr (.inr (.inr e))
  · exact .inr (.inr (.inl e))
  · exact .inr (.inr (.inl e))

set_option maxRecDepth 100000 in
set_option maxHeartbeats 4000000 in
theorem japp_there (W w : World) (jb d fm rm c : Nat) (own : Nat → Option Nat) (L : List (ByteArray × Nat × Dfile)) (ks : List Int) (s : ByteArray) (n z : Nat) (h : LogAt W w jb d fm rm own L ks c s n z) (hn : n ≤ 1000000000) (hz : z ≤ 1000000000) (hc : c ≤ 1000000000) (hq : ((c : Int) + 1) ∉ ks) (hnm : nameN s = true) (hs : s.size ≤ 9223372036854775806) (v : Value) (l : List (BitVec 8)) (hv : SliceIs w v l) (hll : l.length ≤ 65536) {fb : Nat} {f : Dfile} (hg : getL L s = some (fb, f)) (hlen : f.ops.length ≤ 90000) (hfit : f.content.length + (l.length + 12) ≤ 1048576) :
    Calls Try.prog 12 #[.pointer (some ⟨jb, 0, none⟩), v] w fun e w' => e = .returned (.int .i64 0) ∧ ∃ own', LogAt W w' jb d fm rm own' (setL L s ⟨f.safe, f.ops ++ [.add (frameC l)], f.fresh⟩) ks (c + 1) s ((n : Int) + 1) ((z : Int) + ((l.length : Int) + 12)) ∧ (∀ i, i < w.heap.size → own' i = own i) ∧ Only w w' fun i => i = d ∨ i = jb ∨ own i ≠ none := by
  obtain ⟨pa, ca, rfl⟩ := hv.len
  have HNO := Lib.hid (jnone_calls w jb d (h.jour.cell 0))
  have HFR := Lib.hid (frame_calls w jb 2 _ l (jour_tab h.jour) hv (by omega))
  have i1 : ¬ (65536 : Int) < (l.length : Int) := by omega
  have HG := Lib.hid hg
  have HNE := Lib.hid (And.intro (Nat.not_le_of_lt h.disk.box.lt) (Nat.not_le_of_lt h.disk.all.lt))
  clear hg hv
  go_enter Try.func12, Try.ntmps12
  go_upto_region 6 with (first
    | (go_at_call 39; refine HFR.out.mono ?_; rintro e w2 ⟨_, rfl, O2, B2⟩; have HO := Lib.hid O2; (obtain ⟨ua, uc, hu⟩ := slice_of_row O2); rw [frameC_length] at hu; subst hu; replace h := h.low B2; clear O2)
    | (go_at_call 38; refine HNO.out.mono ?_; rintro e w1 ⟨rfl, rfl⟩)
    | fail)
  clear i1 HNO HFR
  refine wp_region_noPanic ?_
  refine wp_region_held_drew (S := fun w' => w'.cell? ⟨jb, 0, none⟩ = some (.pointer (some ⟨d, 0, none⟩)) ∧ w'.cell? ⟨jb, 1, none⟩ = some (.string s)) (by kernel_rfl) (⟨(h.low ((Below.refl _ _).drew)).jour.cell 0, (h.low ((Below.refl _ _).drew)).jour.cell 1⟩) (fun hhS => ?_)
  replace h := h.low ((Below.refl w2.heap.size w2).drew)
  have hB1 := (Below.refl w2.heap.size w2).drew
  generalize w2.drew = wd at h hB1 hhS ⊢
  have HO1 := Lib.hid (show Only w wd (fun _ => False) from Only.of_below (B2.trans (hB1.mono B2.size)) _)
  have HB1 := Lib.hid (show w.heap.size ≤ wd.heap.size from (B2.trans (hB1.mono B2.size)).size)
  clear B2
  refine wpAnyH_take (i := 0) (oi := ⟨some 17, _, _, _, _, _⟩) (v := ?_) rfl (by kernel_rfl) (by kernel_rfl) (by kernel_rfl) (fun _ _ _ h => h) (Or.inl ⟨by rfl, ?_⟩) (by assumption) ?_
  rotate_left
  · intro w hSw
    (try dsimp only at hSw)
    go_simp
    all_goals (with_reducible rfl)
  try simp only [Act.put, List.setIfInBounds_toArray, List.set_cons_zero, List.set_cons_succ]
  refine wpAnyH_take (i := 1) (oi := ⟨some 18, _, _, _, _, _⟩) (v := ?_) rfl (by kernel_rfl) (by kernel_rfl) (by kernel_rfl) (fun _ _ _ h => h) (Or.inl ⟨by rfl, ?_⟩) (by assumption) ?_
  rotate_left
  · intro w hSw
    (try dsimp only at hSw)
    go_simp
    all_goals (with_reducible rfl)
  try simp only [Act.put, List.setIfInBounds_toArray, List.set_cons_zero, List.set_cons_succ]
  refine wpAnyH_take (i := 2) (oi := ⟨some 19, _, _, _, _, _⟩) (v := ?_) rfl (by kernel_rfl) (by kernel_rfl) (by kernel_rfl) (fun _ _ _ h => h) (Or.inl ⟨by rfl, ?_⟩) (by assumption) ?_
  rotate_left
  · intro w hSw
    (try dsimp only at hSw)
    go_simp
    all_goals (with_reducible rfl)
  try simp only [Act.put, List.setIfInBounds_toArray, List.set_cons_zero, List.set_cons_succ]
  refine wpAnyH_take (i := 3) (oi := ⟨some 20, _, _, _, _, _⟩) (v := ?_) rfl (by kernel_rfl) (by kernel_rfl) (by kernel_rfl) (fun _ _ _ h => h) (Or.inl ⟨by rfl, ?_⟩) (by assumption) ?_
  rotate_left
  · intro w hSw
    (try dsimp only at hSw)
    have y0 := hSw.1
    have y1 := hSw.2
    go_simp
    all_goals (with_reducible rfl)
  try simp only [Act.put, List.setIfInBounds_toArray, List.set_cons_zero, List.set_cons_succ]
  refine wpAnyH_take (i := 4) (oi := ⟨some 21, _, _, _, _, _⟩) (v := ?_) rfl (by kernel_rfl) (by kernel_rfl) (by kernel_rfl) (fun _ _ _ h => h) (Or.inl ⟨by rfl, ?_⟩) (by assumption) ?_
  rotate_left
  · intro w hSw
    (try dsimp only at hSw)
    go_simp
    all_goals (with_reducible rfl)
  try simp only [Act.put, List.setIfInBounds_toArray, List.set_cons_zero, List.set_cons_succ]
  refine wpAnyH_take (i := 5) (oi := ⟨some 22, _, _, _, _, _⟩) (v := ?_) rfl (by kernel_rfl) (by kernel_rfl) (by kernel_rfl) (fun _ _ _ h => h) (Or.inl ⟨by rfl, ?_⟩) (by assumption) ?_
  rotate_left
  · intro w hSw
    (try dsimp only at hSw)
    go_simp
    all_goals (with_reducible rfl)
  try simp only [Act.put, List.setIfInBounds_toArray, List.set_cons_zero, List.set_cons_succ]
  refine wpAnyH_take (i := 6) (oi := ⟨some 23, _, _, _, _, _⟩) (v := ?_) rfl (by kernel_rfl) (by kernel_rfl) (by kernel_rfl) (fun _ _ _ h => h) (Or.inl ⟨by rfl, ?_⟩) (by assumption) ?_
  rotate_left
  · intro w hSw
    (try dsimp only at hSw)
    go_simp
    all_goals (with_reducible rfl)
  try simp only [Act.put, List.setIfInBounds_toArray, List.set_cons_zero, List.set_cons_succ]
  refine wpAnyH_take (i := 7) (oi := ⟨some 24, _, _, _, _, _⟩) (v := ?_) rfl (by kernel_rfl) (by kernel_rfl) (by kernel_rfl) (fun _ _ _ h => h) (Or.inl ⟨by rfl, ?_⟩) (by assumption) ?_
  rotate_left
  · intro w hSw
    (try dsimp only at hSw)
    have y0 := hSw.1
    have y1 := hSw.2
    go_simp
    all_goals (with_reducible rfl)
  try simp only [Act.put, List.setIfInBounds_toArray, List.set_cons_zero, List.set_cons_succ]
  refine wpAnyH_take (i := 8) (oi := ⟨some 25, _, _, _, _, _⟩) (v := ?_) rfl (by kernel_rfl) (by kernel_rfl) (by kernel_rfl) (fun _ _ _ h => h) (Or.inl ⟨by rfl, ?_⟩) (by assumption) ?_
  rotate_left
  · intro w hSw
    (try dsimp only at hSw)
    go_simp
    all_goals (with_reducible rfl)
  try simp only [Act.put, List.setIfInBounds_toArray, List.set_cons_zero, List.set_cons_succ]
  refine wpAnyH_ready (rs := [9]) (by kernel_rfl) (by simp) ?_
  refine AllReadyH.cons (o := ⟨some 26, _, _, _, _, _⟩) rfl (fun K hK => ?_) AllReadyH.nil
  go_simp
  refine (dapp_there W wd d fm rm c own L ks h.disk hc s hq hnm hs fb f HG.out hlen _ (frameC l) (HO.out.slice.low hB1) (fun g o cc e e2 => HNE.out.1 (by rw [← e2]; exact HO.out.at_block e)) (by rw [frameC_length]; omega)).mono ?_
  rintro e w5 ⟨rfl, own2, hD2, he2, hO2⟩
  have h2 := h.did hD2 he2 (hO2.weak fun i _ e => e.elim .inl (fun e => .inr (.inr e)))
  refine hK.out _ _ (⟨h2.jour.cell 0, h2.jour.cell 1⟩) (fun _ => ?_)
  clear hK K
  try simp only [Act.put, List.setIfInBounds_toArray, List.set_cons_zero, List.set_cons_succ]
  refine wpAnyH_take (i := 10) (oi := ⟨some 6, _, _, _, _, _⟩) (v := ?_) rfl (by kernel_rfl) (by kernel_rfl) (by kernel_rfl) (fun _ _ _ h => h) (Or.inl ⟨by rfl, ?_⟩) (by assumption) ?_
  rotate_left
  · intro w hSw
    (try dsimp only at hSw)
    go_simp
    all_goals (with_reducible rfl)
  try simp only [Act.put, List.setIfInBounds_toArray, List.set_cons_zero, List.set_cons_succ]
  refine wpAnyH_done (by kernel_rfl) ?_ _
  refine NoPanic.normal ?_
  have HO5 := Lib.hid hO2
  have HE5 := Lib.hid he2
  clear hO2 he2 hD2
  have f1 := h2.jour.free 258
  have c1 : w5.cell? ⟨jb, 258, none⟩ = some (.int .i64 n) := (h2.jour.cell 258).trans (jourC_n d s n z)
  have h5 := h2.setN ((n : Int) + 1)
  have f2 := h5.jour.free 259
  have c2 := (h5.jour.cell 259).trans (jourC_z d s ((n : Int) + 1) z)
  have h6 := h5.setZ ((z : Int) + ((l.length + 12 : Nat) : Int))
  have g1 : IntKind.i64.wrap ((n : Int) + 1) = (n : Int) + 1 := IntWalk.i64_in _ (by omega)
  have g2 : IntKind.i64.wrap ((z : Int) + ((l.length + 12 : Nat) : Int)) = (z : Int) + ((l.length + 12 : Nat) : Int) := IntWalk.i64_in _ (by omega)
  clear h2 h
  generalize hlq : ((l.length + 12 : Nat) : Int) = LQ at g2 h6 ⊢
  go_wp2
  go_ret
  obtain rfl : LQ = (l.length : Int) + 12 := by omega
  refine ⟨rfl, own2, h6, fun i hi => HE5.out i (Nat.lt_of_lt_of_le hi HB1.out), (((HO1.out.trans HO5.out).trans (Only.set w5 ⟨jb, 258, none⟩ _)).trans (Only.set _ ⟨jb, 259, none⟩ _)).weak fun i hi e => ?_⟩
  rcases e with ((e | e | e) | e) | e
  · exact e.elim
  · exact .inl e
  · exact .inr (.inr e)
  · exact .inr (.inl e)
  · exact .inr (.inl e)

set_option maxRecDepth 100000 in
set_option maxHeartbeats 4000000 in
theorem jsync_missing (W w : World) (jb d fm rm c : Nat) (own : Nat → Option Nat) (L : List (ByteArray × Nat × Dfile)) (ks : List Int) (s : ByteArray) (n z : Nat) (h : LogAt W w jb d fm rm own L ks c s n z) (hg : getL L s = none) :
    Calls Try.prog 13 #[.pointer (some ⟨jb, 0, none⟩)] w fun e w' => e = .returned (.int .i64 0) ∧ LogAt W w' jb d fm rm own L ks c s n z ∧ Only w w' (fun _ => False) := by
  have HNO := Lib.hid (jnone_calls w jb d (h.jour.cell 0))
  have HG := Lib.hid hg
  clear hg
  go_enter Try.func13, Try.ntmps13
  go_upto_region 3 with (first
    | (go_at_call 38; refine HNO.out.mono ?_; rintro e w1 ⟨rfl, rfl⟩)
    | fail)
  clear HNO
  refine wp_region_noPanic ?_
  refine wp_region_held_drew (S := fun w' => w'.cell? ⟨jb, 0, none⟩ = some (.pointer (some ⟨d, 0, none⟩)) ∧ w'.cell? ⟨jb, 1, none⟩ = some (.string s)) (by kernel_rfl) (⟨(h.low ((Below.refl _ _).drew)).jour.cell 0, (h.low ((Below.refl _ _).drew)).jour.cell 1⟩) (fun hhS => ?_)
  replace h := h.low ((Below.refl w.heap.size w).drew)
  have hB1 := (Below.refl w.heap.size w).drew
  generalize w.drew = wd at h hB1 hhS ⊢
  refine wpAnyH_take (i := 0) (oi := ⟨some 5, _, _, _, _, _⟩) (v := ?_) rfl (by kernel_rfl) (by kernel_rfl) (by kernel_rfl) (fun _ _ _ h => h) (Or.inl ⟨by rfl, ?_⟩) (by assumption) ?_
  rotate_left
  · intro w hSw
    (try dsimp only at hSw)
    go_simp
    all_goals (with_reducible rfl)
  try simp only [Act.put, List.setIfInBounds_toArray, List.set_cons_zero, List.set_cons_succ]
  refine wpAnyH_take (i := 1) (oi := ⟨some 6, _, _, _, _, _⟩) (v := ?_) rfl (by kernel_rfl) (by kernel_rfl) (by kernel_rfl) (fun _ _ _ h => h) (Or.inl ⟨by rfl, ?_⟩) (by assumption) ?_
  rotate_left
  · intro w hSw
    (try dsimp only at hSw)
    go_simp
    all_goals (with_reducible rfl)
  try simp only [Act.put, List.setIfInBounds_toArray, List.set_cons_zero, List.set_cons_succ]
  refine wpAnyH_take (i := 2) (oi := ⟨some 7, _, _, _, _, _⟩) (v := ?_) rfl (by kernel_rfl) (by kernel_rfl) (by kernel_rfl) (fun _ _ _ h => h) (Or.inl ⟨by rfl, ?_⟩) (by assumption) ?_
  rotate_left
  · intro w hSw
    (try dsimp only at hSw)
    go_simp
    all_goals (with_reducible rfl)
  try simp only [Act.put, List.setIfInBounds_toArray, List.set_cons_zero, List.set_cons_succ]
  refine wpAnyH_take (i := 3) (oi := ⟨some 8, _, _, _, _, _⟩) (v := ?_) rfl (by kernel_rfl) (by kernel_rfl) (by kernel_rfl) (fun _ _ _ h => h) (Or.inl ⟨by rfl, ?_⟩) (by assumption) ?_
  rotate_left
  · intro w hSw
    (try dsimp only at hSw)
    have y0 := hSw.1
    have y1 := hSw.2
    go_simp
    all_goals (with_reducible rfl)
  try simp only [Act.put, List.setIfInBounds_toArray, List.set_cons_zero, List.set_cons_succ]
  refine wpAnyH_take (i := 4) (oi := ⟨some 9, _, _, _, _, _⟩) (v := ?_) rfl (by kernel_rfl) (by kernel_rfl) (by kernel_rfl) (fun _ _ _ h => h) (Or.inl ⟨by rfl, ?_⟩) (by assumption) ?_
  rotate_left
  · intro w hSw
    (try dsimp only at hSw)
    go_simp
    all_goals (with_reducible rfl)
  try simp only [Act.put, List.setIfInBounds_toArray, List.set_cons_zero, List.set_cons_succ]
  refine wpAnyH_take (i := 5) (oi := ⟨some 10, _, _, _, _, _⟩) (v := ?_) rfl (by kernel_rfl) (by kernel_rfl) (by kernel_rfl) (fun _ _ _ h => h) (Or.inl ⟨by rfl, ?_⟩) (by assumption) ?_
  rotate_left
  · intro w hSw
    (try dsimp only at hSw)
    go_simp
    all_goals (with_reducible rfl)
  try simp only [Act.put, List.setIfInBounds_toArray, List.set_cons_zero, List.set_cons_succ]
  refine wpAnyH_take (i := 6) (oi := ⟨some 11, _, _, _, _, _⟩) (v := ?_) rfl (by kernel_rfl) (by kernel_rfl) (by kernel_rfl) (fun _ _ _ h => h) (Or.inl ⟨by rfl, ?_⟩) (by assumption) ?_
  rotate_left
  · intro w hSw
    (try dsimp only at hSw)
    go_simp
    all_goals (with_reducible rfl)
  try simp only [Act.put, List.setIfInBounds_toArray, List.set_cons_zero, List.set_cons_succ]
  refine wpAnyH_take (i := 7) (oi := ⟨some 12, _, _, _, _, _⟩) (v := ?_) rfl (by kernel_rfl) (by kernel_rfl) (by kernel_rfl) (fun _ _ _ h => h) (Or.inl ⟨by rfl, ?_⟩) (by assumption) ?_
  rotate_left
  · intro w hSw
    (try dsimp only at hSw)
    have y0 := hSw.1
    have y1 := hSw.2
    go_simp
    all_goals (with_reducible rfl)
  try simp only [Act.put, List.setIfInBounds_toArray, List.set_cons_zero, List.set_cons_succ]
  refine wpAnyH_ready (rs := [8]) (by kernel_rfl) (by simp) ?_
  refine AllReadyH.cons (o := ⟨some 13, _, _, _, _, _⟩) rfl (fun K hK => ?_) AllReadyH.nil
  go_simp
  refine (dpend_missing W wd d fm rm c own L ks h.disk s HG.out).mono ?_
  rintro e w3 ⟨rfl, hw3⟩
  have h2 := hw3 ▸ h
  have HO1 := Lib.hid (show Only w w3 (fun _ => False) from hw3 ▸ Only.of_below hB1 _)
  clear hw3 h
  refine hK.out _ _ (⟨h2.jour.cell 0, h2.jour.cell 1⟩) (fun _ => ?_)
  clear hK K
  try simp only [Act.put, List.setIfInBounds_toArray, List.set_cons_zero, List.set_cons_succ]
  refine wpAnyH_take (i := 9) (oi := ⟨some 14, _, _, _, _, _⟩) (v := .bool true) rfl (by kernel_rfl) (by kernel_rfl) (by kernel_rfl) (fun _ _ _ h => h) (Or.inl ⟨by rfl, ?_⟩) (by assumption) ?_
  · intro w hSw
    (try dsimp only at hSw)
    go_simp
    all_goals (first | done | simp)
  try simp only [Act.put, List.setIfInBounds_toArray, List.set_cons_zero, List.set_cons_succ]
  refine wpAnyH_done (by kernel_rfl) ?_ _
  refine NoPanic.normal ?_
  go_wp2
  go_ret
  exact ⟨rfl, h2, HO1.out⟩

set_option maxRecDepth 100000 in
set_option maxHeartbeats 4000000 in
theorem jsync_clean (W w : World) (jb d fm rm c : Nat) (own : Nat → Option Nat) (L : List (ByteArray × Nat × Dfile)) (ks : List Int) (s : ByteArray) (n z : Nat) (h : LogAt W w jb d fm rm own L ks c s n z) {fb : Nat} {f : Dfile} (hg : getL L s = some (fb, f)) (hne : f.ops = []) :
    Calls Try.prog 13 #[.pointer (some ⟨jb, 0, none⟩)] w fun e w' => e = .returned (.int .i64 0) ∧ LogAt W w' jb d fm rm own L ks c s n z ∧ Only w w' (fun _ => False) := by
  have HNO := Lib.hid (jnone_calls w jb d (h.jour.cell 0))
  have HG := Lib.hid hg
  have i0 : (f.ops.length : Int) = 0 := by rw [hne]; rfl
  clear hg
  go_enter Try.func13, Try.ntmps13
  go_upto_region 3 with (first
    | (go_at_call 38; refine HNO.out.mono ?_; rintro e w1 ⟨rfl, rfl⟩)
    | fail)
  clear HNO
  refine wp_region_noPanic ?_
  refine wp_region_held_drew (S := fun w' => w'.cell? ⟨jb, 0, none⟩ = some (.pointer (some ⟨d, 0, none⟩)) ∧ w'.cell? ⟨jb, 1, none⟩ = some (.string s)) (by kernel_rfl) (⟨(h.low ((Below.refl _ _).drew)).jour.cell 0, (h.low ((Below.refl _ _).drew)).jour.cell 1⟩) (fun hhS => ?_)
  replace h := h.low ((Below.refl w.heap.size w).drew)
  have hB1 := (Below.refl w.heap.size w).drew
  generalize w.drew = wd at h hB1 hhS ⊢
  refine wpAnyH_take (i := 0) (oi := ⟨some 5, _, _, _, _, _⟩) (v := ?_) rfl (by kernel_rfl) (by kernel_rfl) (by kernel_rfl) (fun _ _ _ h => h) (Or.inl ⟨by rfl, ?_⟩) (by assumption) ?_
  rotate_left
  · intro w hSw
    (try dsimp only at hSw)
    go_simp
    all_goals (with_reducible rfl)
  try simp only [Act.put, List.setIfInBounds_toArray, List.set_cons_zero, List.set_cons_succ]
  refine wpAnyH_take (i := 1) (oi := ⟨some 6, _, _, _, _, _⟩) (v := ?_) rfl (by kernel_rfl) (by kernel_rfl) (by kernel_rfl) (fun _ _ _ h => h) (Or.inl ⟨by rfl, ?_⟩) (by assumption) ?_
  rotate_left
  · intro w hSw
    (try dsimp only at hSw)
    go_simp
    all_goals (with_reducible rfl)
  try simp only [Act.put, List.setIfInBounds_toArray, List.set_cons_zero, List.set_cons_succ]
  refine wpAnyH_take (i := 2) (oi := ⟨some 7, _, _, _, _, _⟩) (v := ?_) rfl (by kernel_rfl) (by kernel_rfl) (by kernel_rfl) (fun _ _ _ h => h) (Or.inl ⟨by rfl, ?_⟩) (by assumption) ?_
  rotate_left
  · intro w hSw
    (try dsimp only at hSw)
    go_simp
    all_goals (with_reducible rfl)
  try simp only [Act.put, List.setIfInBounds_toArray, List.set_cons_zero, List.set_cons_succ]
  refine wpAnyH_take (i := 3) (oi := ⟨some 8, _, _, _, _, _⟩) (v := ?_) rfl (by kernel_rfl) (by kernel_rfl) (by kernel_rfl) (fun _ _ _ h => h) (Or.inl ⟨by rfl, ?_⟩) (by assumption) ?_
  rotate_left
  · intro w hSw
    (try dsimp only at hSw)
    have y0 := hSw.1
    have y1 := hSw.2
    go_simp
    all_goals (with_reducible rfl)
  try simp only [Act.put, List.setIfInBounds_toArray, List.set_cons_zero, List.set_cons_succ]
  refine wpAnyH_take (i := 4) (oi := ⟨some 9, _, _, _, _, _⟩) (v := ?_) rfl (by kernel_rfl) (by kernel_rfl) (by kernel_rfl) (fun _ _ _ h => h) (Or.inl ⟨by rfl, ?_⟩) (by assumption) ?_
  rotate_left
  · intro w hSw
    (try dsimp only at hSw)
    go_simp
    all_goals (with_reducible rfl)
  try simp only [Act.put, List.setIfInBounds_toArray, List.set_cons_zero, List.set_cons_succ]
  refine wpAnyH_take (i := 5) (oi := ⟨some 10, _, _, _, _, _⟩) (v := ?_) rfl (by kernel_rfl) (by kernel_rfl) (by kernel_rfl) (fun _ _ _ h => h) (Or.inl ⟨by rfl, ?_⟩) (by assumption) ?_
  rotate_left
  · intro w hSw
    (try dsimp only at hSw)
    go_simp
    all_goals (with_reducible rfl)
  try simp only [Act.put, List.setIfInBounds_toArray, List.set_cons_zero, List.set_cons_succ]
  refine wpAnyH_take (i := 6) (oi := ⟨some 11, _, _, _, _, _⟩) (v := ?_) rfl (by kernel_rfl) (by kernel_rfl) (by kernel_rfl) (fun _ _ _ h => h) (Or.inl ⟨by rfl, ?_⟩) (by assumption) ?_
  rotate_left
  · intro w hSw
    (try dsimp only at hSw)
    go_simp
    all_goals (with_reducible rfl)
  try simp only [Act.put, List.setIfInBounds_toArray, List.set_cons_zero, List.set_cons_succ]
  refine wpAnyH_take (i := 7) (oi := ⟨some 12, _, _, _, _, _⟩) (v := ?_) rfl (by kernel_rfl) (by kernel_rfl) (by kernel_rfl) (fun _ _ _ h => h) (Or.inl ⟨by rfl, ?_⟩) (by assumption) ?_
  rotate_left
  · intro w hSw
    (try dsimp only at hSw)
    have y0 := hSw.1
    have y1 := hSw.2
    go_simp
    all_goals (with_reducible rfl)
  try simp only [Act.put, List.setIfInBounds_toArray, List.set_cons_zero, List.set_cons_succ]
  refine wpAnyH_ready (rs := [8]) (by kernel_rfl) (by simp) ?_
  refine AllReadyH.cons (o := ⟨some 13, _, _, _, _, _⟩) rfl (fun K hK => ?_) AllReadyH.nil
  go_simp
  refine (dpend_there W wd d fm rm c own L ks h.disk s fb f HG.out).mono ?_
  rintro e w3 ⟨rfl, hw3⟩
  have h2 := hw3 ▸ h
  have HO1 := Lib.hid (show Only w w3 (fun _ => False) from hw3 ▸ Only.of_below hB1 _)
  clear hw3 h
  refine hK.out _ _ (⟨h2.jour.cell 0, h2.jour.cell 1⟩) (fun _ => ?_)
  clear hK K
  try simp only [Act.put, List.setIfInBounds_toArray, List.set_cons_zero, List.set_cons_succ]
  refine wpAnyH_take (i := 9) (oi := ⟨some 14, _, _, _, _, _⟩) (v := .bool true) rfl (by kernel_rfl) (by kernel_rfl) (by kernel_rfl) (fun _ _ _ h => h) (Or.inl ⟨by rfl, ?_⟩) (by assumption) ?_
  · intro w hSw
    (try dsimp only at hSw)
    go_simp
    all_goals (first | done | simp)
  try simp only [Act.put, List.setIfInBounds_toArray, List.set_cons_zero, List.set_cons_succ]
  refine wpAnyH_done (by kernel_rfl) ?_ _
  refine NoPanic.normal ?_
  go_wp2
  go_ret
  exact ⟨rfl, h2, HO1.out⟩

set_option maxRecDepth 100000 in
set_option maxHeartbeats 4000000 in
theorem jsync_there (W w : World) (jb d fm rm c : Nat) (own : Nat → Option Nat) (L : List (ByteArray × Nat × Dfile)) (ks : List Int) (s : ByteArray) (n z : Nat) (h : LogAt W w jb d fm rm own L ks c s n z) {fb : Nat} {f : Dfile} (hg : getL L s = some (fb, f)) (hlen : f.ops.length ≤ 90000) (hne : f.ops ≠ []) (hc : c ≤ 1000000000) (hq : ((c : Int) + 1) ∉ ks) :
    Calls Try.prog 13 #[.pointer (some ⟨jb, 0, none⟩)] w fun e w' => e = .returned (.int .i64 0) ∧ ∃ own', LogAt W w' jb d fm rm own' (setL L s ⟨f.content, [], false⟩) ks (c + 1) s n z ∧ (∀ i, i < w.heap.size → own' i = own i) ∧ Only w w' fun i => i = d ∨ own i ≠ none := by
  have HNO := Lib.hid (jnone_calls w jb d (h.jour.cell 0))
  have HG := Lib.hid hg
  have i0 : ¬ (f.ops.length : Int) = 0 := by (have : f.ops.length ≠ 0 := fun e => hne (List.eq_nil_of_length_eq_zero e)); omega
  clear hg
  go_enter Try.func13, Try.ntmps13
  go_upto_region 3 with (first
    | (go_at_call 38; refine HNO.out.mono ?_; rintro e w1 ⟨rfl, rfl⟩)
    | fail)
  clear HNO
  refine wp_region_noPanic ?_
  refine wp_region_held_drew (S := fun w' => w'.cell? ⟨jb, 0, none⟩ = some (.pointer (some ⟨d, 0, none⟩)) ∧ w'.cell? ⟨jb, 1, none⟩ = some (.string s)) (by kernel_rfl) (⟨(h.low ((Below.refl _ _).drew)).jour.cell 0, (h.low ((Below.refl _ _).drew)).jour.cell 1⟩) (fun hhS => ?_)
  replace h := h.low ((Below.refl w.heap.size w).drew)
  have hB1 := (Below.refl w.heap.size w).drew
  generalize w.drew = wd at h hB1 hhS ⊢
  refine wpAnyH_take (i := 0) (oi := ⟨some 5, _, _, _, _, _⟩) (v := ?_) rfl (by kernel_rfl) (by kernel_rfl) (by kernel_rfl) (fun _ _ _ h => h) (Or.inl ⟨by rfl, ?_⟩) (by assumption) ?_
  rotate_left
  · intro w hSw
    (try dsimp only at hSw)
    go_simp
    all_goals (with_reducible rfl)
  try simp only [Act.put, List.setIfInBounds_toArray, List.set_cons_zero, List.set_cons_succ]
  refine wpAnyH_take (i := 1) (oi := ⟨some 6, _, _, _, _, _⟩) (v := ?_) rfl (by kernel_rfl) (by kernel_rfl) (by kernel_rfl) (fun _ _ _ h => h) (Or.inl ⟨by rfl, ?_⟩) (by assumption) ?_
  rotate_left
  · intro w hSw
    (try dsimp only at hSw)
    go_simp
    all_goals (with_reducible rfl)
  try simp only [Act.put, List.setIfInBounds_toArray, List.set_cons_zero, List.set_cons_succ]
  refine wpAnyH_take (i := 2) (oi := ⟨some 7, _, _, _, _, _⟩) (v := ?_) rfl (by kernel_rfl) (by kernel_rfl) (by kernel_rfl) (fun _ _ _ h => h) (Or.inl ⟨by rfl, ?_⟩) (by assumption) ?_
  rotate_left
  · intro w hSw
    (try dsimp only at hSw)
    go_simp
    all_goals (with_reducible rfl)
  try simp only [Act.put, List.setIfInBounds_toArray, List.set_cons_zero, List.set_cons_succ]
  refine wpAnyH_take (i := 3) (oi := ⟨some 8, _, _, _, _, _⟩) (v := ?_) rfl (by kernel_rfl) (by kernel_rfl) (by kernel_rfl) (fun _ _ _ h => h) (Or.inl ⟨by rfl, ?_⟩) (by assumption) ?_
  rotate_left
  · intro w hSw
    (try dsimp only at hSw)
    have y0 := hSw.1
    have y1 := hSw.2
    go_simp
    all_goals (with_reducible rfl)
  try simp only [Act.put, List.setIfInBounds_toArray, List.set_cons_zero, List.set_cons_succ]
  refine wpAnyH_take (i := 4) (oi := ⟨some 9, _, _, _, _, _⟩) (v := ?_) rfl (by kernel_rfl) (by kernel_rfl) (by kernel_rfl) (fun _ _ _ h => h) (Or.inl ⟨by rfl, ?_⟩) (by assumption) ?_
  rotate_left
  · intro w hSw
    (try dsimp only at hSw)
    go_simp
    all_goals (with_reducible rfl)
  try simp only [Act.put, List.setIfInBounds_toArray, List.set_cons_zero, List.set_cons_succ]
  refine wpAnyH_take (i := 5) (oi := ⟨some 10, _, _, _, _, _⟩) (v := ?_) rfl (by kernel_rfl) (by kernel_rfl) (by kernel_rfl) (fun _ _ _ h => h) (Or.inl ⟨by rfl, ?_⟩) (by assumption) ?_
  rotate_left
  · intro w hSw
    (try dsimp only at hSw)
    go_simp
    all_goals (with_reducible rfl)
  try simp only [Act.put, List.setIfInBounds_toArray, List.set_cons_zero, List.set_cons_succ]
  refine wpAnyH_take (i := 6) (oi := ⟨some 11, _, _, _, _, _⟩) (v := ?_) rfl (by kernel_rfl) (by kernel_rfl) (by kernel_rfl) (fun _ _ _ h => h) (Or.inl ⟨by rfl, ?_⟩) (by assumption) ?_
  rotate_left
  · intro w hSw
    (try dsimp only at hSw)
    go_simp
    all_goals (with_reducible rfl)
  try simp only [Act.put, List.setIfInBounds_toArray, List.set_cons_zero, List.set_cons_succ]
  refine wpAnyH_take (i := 7) (oi := ⟨some 12, _, _, _, _, _⟩) (v := ?_) rfl (by kernel_rfl) (by kernel_rfl) (by kernel_rfl) (fun _ _ _ h => h) (Or.inl ⟨by rfl, ?_⟩) (by assumption) ?_
  rotate_left
  · intro w hSw
    (try dsimp only at hSw)
    have y0 := hSw.1
    have y1 := hSw.2
    go_simp
    all_goals (with_reducible rfl)
  try simp only [Act.put, List.setIfInBounds_toArray, List.set_cons_zero, List.set_cons_succ]
  refine wpAnyH_ready (rs := [8]) (by kernel_rfl) (by simp) ?_
  refine AllReadyH.cons (o := ⟨some 13, _, _, _, _, _⟩) rfl (fun K hK => ?_) AllReadyH.nil
  go_simp
  refine (dpend_there W wd d fm rm c own L ks h.disk s fb f HG.out).mono ?_
  rintro e w3 ⟨rfl, hw3⟩
  have h2 := hw3 ▸ h
  have HO1 := Lib.hid (show Only w w3 (fun _ => False) from hw3 ▸ Only.of_below hB1 _)
  clear hw3 h
  refine hK.out _ _ (⟨h2.jour.cell 0, h2.jour.cell 1⟩) (fun _ => ?_)
  clear hK K
  try simp only [Act.put, List.setIfInBounds_toArray, List.set_cons_zero, List.set_cons_succ]
  refine wpAnyH_take (i := 9) (oi := ⟨some 14, _, _, _, _, _⟩) (v := .bool false) rfl (by kernel_rfl) (by kernel_rfl) (by kernel_rfl) (fun _ _ _ h => h) (Or.inl ⟨by rfl, ?_⟩) (by assumption) ?_
  · intro w hSw
    (try dsimp only at hSw)
    go_simp
    all_goals (first | done | simp)
  try simp only [Act.put, List.setIfInBounds_toArray, List.set_cons_zero, List.set_cons_succ]
  refine wpAnyH_done (by kernel_rfl) ?_ _
  refine NoPanic.normal ?_
  have h := h2
  clear h2
  go_wp2
  refine wp_region_noPanic ?_
  refine wp_region_held_drew (S := fun w' => w'.cell? ⟨jb, 0, none⟩ = some (.pointer (some ⟨d, 0, none⟩)) ∧ w'.cell? ⟨jb, 1, none⟩ = some (.string s)) (by kernel_rfl) (⟨(h.low ((Below.refl _ _).drew)).jour.cell 0, (h.low ((Below.refl _ _).drew)).jour.cell 1⟩) (fun hhS => ?_)
  replace h := h.low ((Below.refl w3.heap.size w3).drew)
  have hB1 := (Below.refl w3.heap.size w3).drew
  generalize w3.drew = wd at h hB1 hhS ⊢
  refine wpAnyH_take (i := 0) (oi := ⟨some 15, _, _, _, _, _⟩) (v := ?_) rfl (by kernel_rfl) (by kernel_rfl) (by kernel_rfl) (fun _ _ _ h => h) (Or.inl ⟨by rfl, ?_⟩) (by assumption) ?_
  rotate_left
  · intro w hSw
    (try dsimp only at hSw)
    go_simp
    all_goals (with_reducible rfl)
  try simp only [Act.put, List.setIfInBounds_toArray, List.set_cons_zero, List.set_cons_succ]
  refine wpAnyH_take (i := 1) (oi := ⟨some 16, _, _, _, _, _⟩) (v := ?_) rfl (by kernel_rfl) (by kernel_rfl) (by kernel_rfl) (fun _ _ _ h => h) (Or.inl ⟨by rfl, ?_⟩) (by assumption) ?_
  rotate_left
  · intro w hSw
    (try dsimp only at hSw)
    go_simp
    all_goals (with_reducible rfl)
  try simp only [Act.put, List.setIfInBounds_toArray, List.set_cons_zero, List.set_cons_succ]
  refine wpAnyH_take (i := 2) (oi := ⟨some 17, _, _, _, _, _⟩) (v := ?_) rfl (by kernel_rfl) (by kernel_rfl) (by kernel_rfl) (fun _ _ _ h => h) (Or.inl ⟨by rfl, ?_⟩) (by assumption) ?_
  rotate_left
  · intro w hSw
    (try dsimp only at hSw)
    go_simp
    all_goals (with_reducible rfl)
  try simp only [Act.put, List.setIfInBounds_toArray, List.set_cons_zero, List.set_cons_succ]
  refine wpAnyH_take (i := 3) (oi := ⟨some 18, _, _, _, _, _⟩) (v := ?_) rfl (by kernel_rfl) (by kernel_rfl) (by kernel_rfl) (fun _ _ _ h => h) (Or.inl ⟨by rfl, ?_⟩) (by assumption) ?_
  rotate_left
  · intro w hSw
    (try dsimp only at hSw)
    have y0 := hSw.1
    have y1 := hSw.2
    go_simp
    all_goals (with_reducible rfl)
  try simp only [Act.put, List.setIfInBounds_toArray, List.set_cons_zero, List.set_cons_succ]
  refine wpAnyH_take (i := 4) (oi := ⟨some 19, _, _, _, _, _⟩) (v := ?_) rfl (by kernel_rfl) (by kernel_rfl) (by kernel_rfl) (fun _ _ _ h => h) (Or.inl ⟨by rfl, ?_⟩) (by assumption) ?_
  rotate_left
  · intro w hSw
    (try dsimp only at hSw)
    go_simp
    all_goals (with_reducible rfl)
  try simp only [Act.put, List.setIfInBounds_toArray, List.set_cons_zero, List.set_cons_succ]
  refine wpAnyH_take (i := 5) (oi := ⟨some 20, _, _, _, _, _⟩) (v := ?_) rfl (by kernel_rfl) (by kernel_rfl) (by kernel_rfl) (fun _ _ _ h => h) (Or.inl ⟨by rfl, ?_⟩) (by assumption) ?_
  rotate_left
  · intro w hSw
    (try dsimp only at hSw)
    go_simp
    all_goals (with_reducible rfl)
  try simp only [Act.put, List.setIfInBounds_toArray, List.set_cons_zero, List.set_cons_succ]
  refine wpAnyH_take (i := 6) (oi := ⟨some 21, _, _, _, _, _⟩) (v := ?_) rfl (by kernel_rfl) (by kernel_rfl) (by kernel_rfl) (fun _ _ _ h => h) (Or.inl ⟨by rfl, ?_⟩) (by assumption) ?_
  rotate_left
  · intro w hSw
    (try dsimp only at hSw)
    go_simp
    all_goals (with_reducible rfl)
  try simp only [Act.put, List.setIfInBounds_toArray, List.set_cons_zero, List.set_cons_succ]
  refine wpAnyH_take (i := 7) (oi := ⟨some 22, _, _, _, _, _⟩) (v := ?_) rfl (by kernel_rfl) (by kernel_rfl) (by kernel_rfl) (fun _ _ _ h => h) (Or.inl ⟨by rfl, ?_⟩) (by assumption) ?_
  rotate_left
  · intro w hSw
    (try dsimp only at hSw)
    have y0 := hSw.1
    have y1 := hSw.2
    go_simp
    all_goals (with_reducible rfl)
  try simp only [Act.put, List.setIfInBounds_toArray, List.set_cons_zero, List.set_cons_succ]
  refine wpAnyH_ready (rs := [8]) (by kernel_rfl) (by simp) ?_
  refine AllReadyH.cons (o := ⟨some 23, _, _, _, _, _⟩) rfl (fun K hK => ?_) AllReadyH.nil
  go_simp
  refine (dsync_there W wd d fm rm c own L ks h.disk hc s hq fb f HG.out (by omega)).mono ?_
  rintro e w5 ⟨rfl, own2, hD2, he2, hO2⟩
  have h2 := h.did hD2 he2 (hO2.weak fun i _ e => e.elim .inl (fun e => .inr (.inr e)))
  refine hK.out _ _ (⟨h2.jour.cell 0, h2.jour.cell 1⟩) (fun _ => ?_)
  clear hK K
  try simp only [Act.put, List.setIfInBounds_toArray, List.set_cons_zero, List.set_cons_succ]
  refine wpAnyH_take (i := 9) (oi := ⟨some 2, _, _, _, _, _⟩) (v := ?_) rfl (by kernel_rfl) (by kernel_rfl) (by kernel_rfl) (fun _ _ _ h => h) (Or.inl ⟨by rfl, ?_⟩) (by assumption) ?_
  rotate_left
  · intro w hSw
    (try dsimp only at hSw)
    go_simp
    all_goals (with_reducible rfl)
  try simp only [Act.put, List.setIfInBounds_toArray, List.set_cons_zero, List.set_cons_succ]
  refine wpAnyH_done (by kernel_rfl) ?_ _
  refine NoPanic.normal ?_
  go_wp2
  go_ret
  refine ⟨rfl, own2, h2, fun i hi => he2 i (Nat.lt_of_lt_of_le hi (Nat.le_trans HO1.out.size hB1.size)), ((HO1.out.trans (Only.of_below hB1 (fun _ => False))).trans hO2).weak fun i _ e => ?_⟩
  rcases e with (e | e) | e
  · exact e.elim
  · exact e.elim
  · exact e


end Go.Proofs.Ytmmlpbepaefamaa
