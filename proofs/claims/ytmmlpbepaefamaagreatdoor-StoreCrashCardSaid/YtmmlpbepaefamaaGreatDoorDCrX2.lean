/- Disk.Crash: plain facts. -/
import Derived.Test.YtmmlpbepaefamaaGreatDoorDCrash
import Derived.Test.YtmmlpbepaefamaaGreatDoorGRowX3
import Derived.Test.YtmmlpbepaefamaaGreatDoorMapNX2
namespace Go.Proofs.YtmmlpbepaefamaaGreatDoor
open Go.RowKit Go.MapKept

/-- A file behind a crash, if it is there. -/
def crash1 (ks : List Kp) (x : ByteArray × Nat × Dfile) : Option (ByteArray × Nat × Dfile) := if crashB x.2.2 (keepOf ks x.1).1 (keepOf ks x.1).2 = true then some (x.1, x.2.1, ⟨crashS x.2.2 (keepOf ks x.1).1 (keepOf ks x.1).2, [], false⟩) else none
/-- The files while a crash is under way: left tells which are still to come. -/
def crashL (ks : List Kp) (left : ByteArray → Bool) : List (ByteArray × Nat × Dfile) → List (ByteArray × Nat × Dfile)
  | [] => []
  | x :: L => (if left x.1 = true then some x else crash1 ks x).toList ++ crashL ks left L
/-- The files behind a crash. -/
def crashed (ks : List Kp) : List (ByteArray × Nat × Dfile) → List (ByteArray × Nat × Dfile)
  | [] => []
  | x :: L => (crash1 ks x).toList ++ crashed ks L
/-- The files but one. -/
def dropL (L : List (ByteArray × Nat × Dfile)) (s : ByteArray) : List (ByteArray × Nat × Dfile) := L.filter fun x => !decide (x.1 = s)
theorem crash1_name {ks : List Kp} {x y : ByteArray × Nat × Dfile} (h : crash1 ks x = some y) : y.1 = x.1 := by
  unfold crash1 at h
  split at h
  · injection h with h
    rw [← h]
  · cases h
theorem crash1_box {ks : List Kp} {x y : ByteArray × Nat × Dfile} (h : crash1 ks x = some y) : y.2.1 = x.2.1 := by
  unfold crash1 at h
  split at h
  · injection h with h
    rw [← h]
  · cases h
theorem crashL_start (ks : List Kp) : ∀ L : List (ByteArray × Nat × Dfile), crashL ks (fun _ => true) L = L
  | [] => rfl
  | x :: L => by
    unfold crashL
    rw [crashL_start ks L, if_pos rfl]
    rfl
theorem crashL_mem {ks : List Kp} {left : ByteArray → Bool} : ∀ {L : List (ByteArray × Nat × Dfile)} {y : ByteArray × Nat × Dfile}, y ∈ crashL ks left L → ∃ x ∈ L, y.1 = x.1 ∧ (left x.1 = true → y = x)
  | [], _, h => by cases h
  | x :: L, y, h => by
    unfold crashL at h
    rcases List.mem_append.1 h with h | h
    · refine ⟨x, List.mem_cons_self, ?_⟩
      rw [Option.mem_toList] at h
      split at h
      · injection h with h
        exact ⟨by rw [h], fun _ => h.symm⟩
      · rename_i hl
        exact ⟨crash1_name h, fun e => absurd e hl⟩
    · obtain ⟨z, hz, h2⟩ := crashL_mem h
      exact ⟨z, List.mem_cons_of_mem _ hz, h2⟩
theorem crashL_in {ks : List Kp} {left : ByteArray → Bool} : ∀ {L : List (ByteArray × Nat × Dfile)} {x : ByteArray × Nat × Dfile}, x ∈ L → left x.1 = true → x ∈ crashL ks left L
  | y :: L, x, hx, hl => by
    unfold crashL
    rcases List.mem_cons.1 hx with rfl | hx
    · rw [if_pos hl]
      exact List.mem_append_left _ (by simp)
    · exact List.mem_append_right _ (crashL_in hx hl)
/-- Nothing is left. -/
theorem crashL_end {ks : List Kp} {left : ByteArray → Bool} : ∀ {L : List (ByteArray × Nat × Dfile)}, (∀ y ∈ crashL ks left L, left y.1 = false) → crashL ks left L = crashed ks L
  | [], _ => rfl
  | x :: L, h => by
    have hl : ¬ left x.1 = true := fun hl => by
      have := h x (crashL_in List.mem_cons_self hl)
      rw [hl] at this
      cases this
    unfold crashL crashed
    unfold crashL at h
    rw [if_neg hl, crashL_end fun y hy => h y (List.mem_append_right _ hy)]
theorem getL_of_mem : ∀ {L : List (ByteArray × Nat × Dfile)} {x : ByteArray × Nat × Dfile}, (L.map (·.1)).Nodup → x ∈ L → getL L x.1 = some x.2
  | y :: L, x, hn, hx => by
    rw [List.map_cons, List.nodup_cons] at hn
    unfold getL
    rcases List.mem_cons.1 hx with rfl | hx
    · rw [if_pos rfl]
    · rw [if_neg fun e => hn.1 (by rw [e]; exact List.mem_map_of_mem hx)]
      exact getL_of_mem hn.2 hx
theorem crashL_same {ks : List Kp} {left left' : ByteArray → Bool} : ∀ {L : List (ByteArray × Nat × Dfile)}, (∀ x ∈ L, left x.1 = left' x.1) → crashL ks left L = crashL ks left' L
  | [], _ => rfl
  | x :: L, h => by
    unfold crashL
    rw [crashL_same fun x hx => h x (List.mem_cons_of_mem _ hx), h x List.mem_cons_self]
/-- One file more is done. -/
theorem crashL_step (ks : List Kp) (left : ByteArray → Bool) : ∀ (L : List (ByteArray × Nat × Dfile)) (x : ByteArray × Nat × Dfile), (L.map (·.1)).Nodup → x ∈ L → left x.1 = true →
    crashL ks (fun k => left k && !decide (k = x.1)) L = if crashB x.2.2 (keepOf ks x.1).1 (keepOf ks x.1).2 = true then setL (crashL ks left L) x.1 ⟨crashS x.2.2 (keepOf ks x.1).1 (keepOf ks x.1).2, [], false⟩ else dropL (setL (crashL ks left L) x.1 ⟨crashS x.2.2 (keepOf ks x.1).1 (keepOf ks x.1).2, [], false⟩) x.1
  | y :: L, x, hn, hx, hl => by
    rw [List.map_cons, List.nodup_cons] at hn
    rcases List.mem_cons.1 hx with rfl | hx
    · have hrest : ∀ z ∈ L, z.1 ≠ x.1 := fun z hz e => hn.1 (by rw [← e]; exact List.mem_map_of_mem hz)
      have he : crashL ks (fun k => left k && !decide (k = x.1)) L = crashL ks left L := crashL_same fun z hz => by simp [hrest z hz]
      have hc : crashL ks left (x :: L) = x :: crashL ks left L := by
        conv => lhs; unfold crashL
        rw [if_pos hl]
        rfl
      have hc2 : crashL ks (fun k => left k && !decide (k = x.1)) (x :: L) = (crash1 ks x).toList ++ crashL ks left L := by
        conv => lhs; unfold crashL
        rw [he, if_neg (by simp)]
      have hs : ∀ g, setL (x :: crashL ks left L) x.1 g = (x.1, x.2.1, g) :: crashL ks left L := fun g => by
        unfold setL
        rw [if_pos rfl]
      rw [hc2, hc, hs]
      unfold crash1
      by_cases hb : crashB x.2.2 (keepOf ks x.1).1 (keepOf ks x.1).2 = true
      · rw [if_pos hb, if_pos hb]
        rfl
      · rw [if_neg hb, if_neg hb]
        unfold dropL
        rw [List.filter_cons_of_neg (by simp)]
        refine (List.filter_eq_self.2 fun z hz => ?_).symm
        obtain ⟨z', hz', e, _⟩ := crashL_mem hz
        simp [e, hrest z' hz']
    · have hne : y.1 ≠ x.1 := fun e => hn.1 (by rw [e]; exact List.mem_map_of_mem hx)
      have ih := crashL_step ks left L x hn.2 hx hl
      have h2 : (left y.1 && !decide (y.1 = x.1)) = left y.1 := by simp [hne]
      have hy : ∀ y', (if left y.1 = true then some y else crash1 ks y) = some y' → y'.1 ≠ x.1 := fun y' e => by
        split at e
        · injection e with e
          rw [← e]
          exact hne
        · rw [crash1_name e]
          exact hne
      have e1 : crashL ks (fun k => left k && !decide (k = x.1)) (y :: L) = (if left y.1 = true then some y else crash1 ks y).toList ++ crashL ks (fun k => left k && !decide (k = x.1)) L := by
        conv => lhs; unfold crashL
        rw [h2]
      have e2 : crashL ks left (y :: L) = (if left y.1 = true then some y else crash1 ks y).toList ++ crashL ks left L := by
        conv => lhs; unfold crashL
      rw [e1, e2, ih]
      cases hc : (if left y.1 = true then some y else crash1 ks y) with
      | none => rfl
      | some y' =>
        have hy' := hy y' hc
        have hs : ∀ l g, setL (y' :: l) x.1 g = y' :: setL l x.1 g := fun l g => by
          conv => lhs; unfold setL
          rw [if_neg hy']
        have hd : ∀ l, dropL (y' :: l) x.1 = y' :: dropL l x.1 := fun l => by
          unfold dropL
          rw [List.filter_cons_of_pos (by simp [hy'])]
        show y' :: _ = if _ then setL (y' :: crashL ks left L) x.1 _ else dropL (setL (y' :: crashL ks left L) x.1 _) x.1
        rw [hs, hd]
        split <;> rfl
theorem drop_keys (L : List (ByteArray × Nat × Dfile)) (s : ByteArray) : dropN (L.map fun x => (x.1, Value.pointer (some ⟨x.2.1, 0, Option.none⟩))) s = (dropL L s).map fun x => (x.1, Value.pointer (some ⟨x.2.1, 0, Option.none⟩)) := by
  unfold dropN dropL
  rw [List.filter_map]
  rfl
theorem crashS_len (f : Dfile) (h : f.ok) (x y : Int) : (crashS f x y).length ≤ 1048576 := by
  have h2 := okOps_len _ _ h.1 (okOps_take f.ops f.safe (crashK f x) h.2)
  unfold crashS
  split
  · rename_i b hb
    have h1 := okOps_at f.ops f.safe _ _ h.2 hb
    have h3 := runOps_step f.safe f.ops _ _ hb
    have h4 := h1.2
    rw [h3] at h4
    simp only [Dop.run, List.length_append] at h4
    rw [List.length_append, List.length_take]
    omega
  · exact h2
/-- A file is struck off the list. -/
theorem DiskAt.drop {W w w' : World} {d fm rm n : Nat} {own : Nat → Option Nat} {L : List (ByteArray × Nat × Dfile)} {ks : List Int} (h : DiskAt W w d fm rm own L ks n) (s : ByteArray) (hm : MapN w' fm ((dropL L s).map fun x => (x.1, Value.pointer (some ⟨x.2.1, 0, Option.none⟩)))) (ho : Only w w' fun i => i = fm) : DiskAt W w' d fm rm own (dropL L s) ks n := by
  have hsub : (dropL L s).Sublist L := List.filter_sublist
  refine ⟨h.box.only ho h.dm.1, hm, h.ref.only ho (fun e => h.fr e.symm), fun y hy => ?_, h.nod.sublist (hsub.map _), h.keys.sublist (hsub.map _), h.noD, h.noF, h.noR, h.fr, h.ged, h.gef, h.ger, h.below.trans (ho.below h.below.size fun i _ e => e ▸ h.gef), fun i fb e => ⟨(h.old i fb e).1, Nat.lt_of_lt_of_le (h.old i fb e).2 ho.size⟩⟩
  obtain ⟨sv, ov, l, hf⟩ := h.each y (hsub.subset hy)
  exact ⟨sv, ov, l, hf.only ho (fun i hi e => by rw [e, h.noF] at hi; cases hi) (fun _ _ => rfl)⟩

end Go.Proofs.YtmmlpbepaefamaaGreatDoor

/- Disk.Crash. -/
namespace Go.Proofs.YtmmlpbepaefamaaGreatDoor
open Go.RowKit Go.MapKept

theorem nextCrash {ks : List Kp} {left : ByteArray → Bool} {L : List (ByteArray × Nat × Dfile)} {p : ByteArray × Value} (hp : p ∈ (crashL ks left L).map fun x => (x.1, Value.pointer (some ⟨x.2.1, 0, Option.none⟩))) (hl : left p.1 = true) (hn2 : ((crashL ks left L).map (·.1)).Nodup) :
    ∃ s fb f, p = (s, .pointer (some ⟨fb, 0, none⟩)) ∧ (s, fb, f) ∈ L ∧ left s = true ∧ getL (crashL ks left L) s = some (fb, f) := by
  obtain ⟨y, hy, rfl⟩ := List.mem_map.1 hp
  obtain ⟨x, hx, h1, h2⟩ := crashL_mem hy
  have hl1 : left y.1 = true := hl
  have hyx := h2 (h1 ▸ hl1)
  subst hyx
  exact ⟨y.1, y.2.1, y.2.2, rfl, hx, hl1, getL_of_mem hn2 hy⟩

theorem keepOf_nonneg (ks : List Kp) (s : ByteArray) : 0 ≤ (keepOf ks s).1 ∧ 0 ≤ (keepOf ks s).2 := by
  unfold keepOf
  split
  · exact ⟨Int.le_max_right .., Int.le_max_right ..⟩
  · exact ⟨Int.le_refl _, Int.le_refl _⟩
/-- Blocks that are not the disk's change. -/
theorem DiskAt.only {W w w' : World} {S : Nat → Prop} {d fm rm n : Nat} {own : Nat → Option Nat} {L : List (ByteArray × Nat × Dfile)} {ks : List Int} (h : DiskAt W w d fm rm own L ks n) (ho : Only w w' S) (hd : ¬ S d) (hf : ¬ S fm) (hr : ¬ S rm) (hs : ∀ i fb, own i = some fb → ¬ S i) (hb : ∀ i, S i → W.heap.size ≤ i) : DiskAt W w' d fm rm own L ks n :=
  ⟨h.box.only ho hd, h.all.only ho hf, h.ref.only ho hr, fun y hy => by
    obtain ⟨sv, ov, l, hfl⟩ := h.each y hy
    exact ⟨sv, ov, l, hfl.only ho (fun i hi => hs i _ hi) (fun _ _ => rfl)⟩, h.nod, h.keys, h.noD, h.noF, h.noR, h.fr, h.ged, h.gef, h.ger, h.below.trans (ho.below h.below.size fun i _ e => hb i e), fun i fb e => ⟨(h.old i fb e).1, Nat.lt_of_lt_of_le (h.old i fb e).2 ho.size⟩⟩

set_option maxRecDepth 100000 in
set_option maxHeartbeats 4000000 in
theorem dcrash_calls (W w : World) (d fm rm n : Nat) (own : Nat → Option Nat) (L : List (ByteArray × Nat × Dfile)) (kss : List Int) (h : DiskAt W w d fm rm own L kss n) (hops : ∀ x ∈ L, x.2.2.ops.length ≤ 100000) (v : Value) (ks : List Kp) (hlen : ks.length ≤ 9223372036854775806)
    (hv : ∀ w', Only w w' (fun i => i = fm ∨ own i ≠ none) → KeepsAt w' v ks) :
    Calls Tryz.prog 12 #[.pointer (some ⟨d, 0, none⟩), v] w fun e w' => e = .returned (.int .i64 0) ∧ ∃ own', DiskAt W w' d fm rm own' (crashed ks L) kss n ∧ (∀ i, i < w.heap.size → own' i = own i) ∧ Only w w' fun i => i = fm ∨ own i ≠ none := by
  obtain ⟨p, c, rfl⟩ := (hv w (Only.of_below (Below.refl _ _) _)).len
  have HN := Lib.hid (dnone_calls w d fm (h.box.cell 0))
  have c0 := h.box.cell 0
  obtain ⟨w1, cnt1, hr1, hrg1, b1, hs1⟩ := range_N (P := Tryz.prog) Tryz.underlying57 h.all
  have hnew : own w.heap.size = none := by
    cases e : own w.heap.size with
    | none => rfl
    | some fb =>
      have := (h.old _ _ e).2
      omega
  have H0 := Lib.hid (show RangeN w1 fm w.heap.size ((crashL ks (fun _ => true) L).map fun x => (x.1, Value.pointer (some ⟨x.2.1, 0, Option.none⟩))) (fun _ => true) cnt1 ∧ DiskAt W w1 d fm rm own (crashL ks (fun _ => true) L) kss n ∧ Only w w1 (fun i => i = fm ∨ own i ≠ none) from ⟨by rw [crashL_start]; exact hrg1, by rw [crashL_start]; exact h.low b1, Only.of_below b1 _⟩)
  have HK := Lib.hid (And.intro h.keys (And.intro hops hnew))
  have HW := Lib.hid h
  have HV := Lib.hid hv
  clear h hrg1 b1 hs1 hops hnew hv
  go_enter Tryz.func12, Tryz.ntmps12
  go_wp2_with (first
    | (go_at_call 35; refine HN.out.mono ?_; rintro e w' ⟨rfl, rfl⟩)
    | fail)
  try go_frame
  clear hr1 c0
  go_loopw [5] (fun _ wr => ∃ left cnt own', RangeN wr fm w.heap.size ((crashL ks left L).map fun x => (x.1, Value.pointer (some ⟨x.2.1, 0, Option.none⟩))) left cnt ∧ DiskAt W wr d fm rm own' (crashL ks left L) kss n ∧ (∀ i, i ≤ w.heap.size → own' i = own i) ∧ Only w wr (fun i => i = fm ∨ own i ≠ none)) (fun _ wr => wr.rangeLeft fm w.heap.size)
  case atStart => exact ⟨_, cnt1, own, H0.out.1, H0.out.2.1, fun _ _ => rfl, H0.out.2.2⟩
  case round =>
    obtain ⟨left, cnt, own1, hrg, hD, he, hO⟩ := hrel
    have HRL := Lib.hid hrg.left_eq
    have c0 := hD.box.cell 0
    rcases next_N (P := Tryz.prog) hrg 0 with ⟨h0, hrun⟩ | ⟨q, hq, hql, w2, cnt2, hrun, hrg2, hlt2, hO2, hs2, hen⟩
    · have HE := Lib.hid (show crashL ks left L = crashed ks L from crashL_end fun y hy => h0 _ (List.mem_map_of_mem (f := fun x : ByteArray × Nat × Dfile => (x.1, Value.pointer (some ⟨x.2.1, 0, Option.none⟩))) hy))
      clear h0
      go_wp2
      go_ret
      exact ⟨rfl, own1, HE.out ▸ hD, fun i hi => he i (Nat.le_of_lt hi), hO⟩
    · obtain ⟨s, fb, f, rfl, hx, hls, hget⟩ := nextCrash hq hql hD.keys
      have hlt0 : d < w.heap.size ∧ fm < w.heap.size ∧ rm < w.heap.size := ⟨HW.out.box.lt, HW.out.all.lt, HW.out.ref.lt⟩
      have hown : ∀ i fb2, own1 i = some fb2 → i ≠ w.heap.size := fun i fb2 e e2 => by
        rw [e2, he _ (Nat.le_refl _), HK.out.2.2] at e
        cases e
      have hD2 := hD.only hO2 (by omega) (by omega) (by omega) hown (fun i e => by rw [e]; exact HW.out.below.size)
      have hO02 : Only w w2 (fun i => i = fm ∨ own i ≠ none) := (hO.trans hO2).weak fun i hi e => e.elim id fun e => by omega
      have hrl : w.heap.size < w2.heap.size := hrg2.lt
      have c2 := hD2.box.cell 0
      have HKC := Lib.hid (keep_calls w2 (.slice p ks.length c) ks s (HV.out w2 hO02) hlen)
      have hnn := keepOf_nonneg ks s
      have hstep := crashL_step ks left L (s, fb, f) HK.out.1 hx hls
      simp only [] at hstep
      have hfo := HK.out.2.1 _ hx
      simp only [] at hfo
      obtain ⟨kx, hkx⟩ : ∃ x, (keepOf ks s).1 = x := ⟨_, rfl⟩
      obtain ⟨ky, hky⟩ : ∃ x, (keepOf ks s).2 = x := ⟨_, rfl⟩
      rw [hkx, hky] at HKC hstep hnn
      have HFC := Lib.hid (show ∀ w3, Below w2.heap.size w2 w3 → Calls Tryz.prog 37 #[.pointer (some ⟨fb, 0, none⟩), .int .i64 kx, .int .i64 ky] w3 fun e w4 => e = .returned (.bool (crashB f kx ky)) ∧
          ∃ own4, DiskAt W w4 d fm rm own4 (setL (crashL ks left L) s ⟨crashS f kx ky, [], false⟩) kss n ∧ (∀ i, i ≤ w.heap.size → own4 i = own i) ∧ Only w w4 (fun i => i = fm ∨ own i ≠ none) ∧ RangeN w4 fm w.heap.size ((setL (crashL ks left L) s ⟨crashS f kx ky, [], false⟩).map fun x => (x.1, Value.pointer (some ⟨x.2.1, 0, Option.none⟩))) (fun k => left k && !decide (k = s)) cnt2 from fun w3 b3 => by
        have hD3 := hD2.low b3
        obtain ⟨sv, ov, l, hf⟩ := hD3.get hget
        refine (fcrash_calls w3 W.heap.size fb own1 f sv ov l hf hfo hD3.below.size kx ky hnn.1 hnn.2).mono ?_
        rintro e w4 ⟨rfl, u, hWk⟩
        obtain ⟨hF4, hO4⟩ := hWk.fin hf (crashS_len f hf.okf kx ky)
        refine ⟨rfl, _, hD3.file hget hO4 hF4, fun i hi => ?_, ?_, ?_⟩
        · rw [ownG_old _ _ _ _ (by have := b3.size; omega), he i hi]
        · refine ((hO02.trans (Only.of_below b3 (fun _ => False))).trans hO4).weak fun i hi e => ?_
          rcases e with (e | e) | e
          · exact e
          · exact e.elim
          · right
            rw [← he i (Nat.le_of_lt hi), e]
            exact fun e => by cases e
        · rw [setL_keys]
          exact (hrg2.only (Only.of_below b3 (fun _ => False)) id id).only hO4 (fun e => by rw [hD3.noF] at e; cases e) (fun e => hown _ _ e rfl))
      clear hq hql hget hx hfo hls hD hD2 hO hO2 hrg hnn hs2 hown hO02 hlt0 hrg2 he hkx hky
      obtain ⟨q, hq⟩ : ∃ q, crashB f kx ky = q := ⟨_, rfl⟩
      rw [hq] at HFC hstep
      clear hq
      have HST := Lib.hid hstep
      clear hstep
      cases q
      · go_wp2_with (first
          | (go_at_call 37; refine (HFC.out w3 b3).mono ?_; rintro e w4 ⟨rfl, own4, D4, he4, O4, R4⟩; have z0 := D4.box.cell 0; clear c2)
          | (go_at_call 36; refine HKC.out.mono ?_; rintro e w3 ⟨rfl, b3⟩)
          | (refine wpList_drop_N (by rfl) _ _ _ _ (by rfl) _ Tryz.underlying57 Tryz.underlying9 fm w.heap.size cnt2 _ _ (by rfl) R4 s (by rfl) ?_; intro w5 cnt5 R5 hc5 O5 hs5; rw [drop_keys] at R5; have D5 := D4.drop s R5.map O5; replace O5 := (O4.trans O5).weak (fun i _ e => e.elim id .inl); clear z0)
          | fail)
        go_frame
        go_roundw
        case rel => exact ⟨_, cnt5, own4, by rw [HST.out]; exact R5, by rw [HST.out]; exact D5, he4, O5⟩
        case measure => rw [R5.left_eq, HRL.out]; omega
      · go_wp2_with (first
          | (go_at_call 37; refine (HFC.out w3 b3).mono ?_; rintro e w4 ⟨rfl, own4, D4, he4, O4, R4⟩; clear c2)
          | (go_at_call 36; refine HKC.out.mono ?_; rintro e w3 ⟨rfl, b3⟩)
          | fail)
        go_roundw
        case rel => exact ⟨_, cnt2, own4, by rw [HST.out]; exact R4, by rw [HST.out]; exact D4, he4, O4⟩
        case measure => rw [R4.left_eq, HRL.out]; omega

end Go.Proofs.YtmmlpbepaefamaaGreatDoor
