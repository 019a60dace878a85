/- Disk.Crash. -/
import Derived.Test.YtmmlpbepaefamaaDCr
namespace Go.Proofs.Ytmmlpbepaefamaa
open Go.RowKit Go.MapKept

theorem nextCrash {ks : List Kp} {left : ByteArray → Bool} {L : List (ByteArray × Nat × Dfile)} {p : ByteArray × Value} (hp : p ∈ (crashL ks left L).map fun x => (x.1, Value.pointer (some ⟨x.2.1, 0, Option.none⟩))) (hl : left p.1 = true) (hn2 : ((crashL ks left L).map (·.1)).Nodup) :
    ∃ s fb f, p = (s, .pointer (some ⟨fb, 0, none⟩)) ∧ (s, fb, f) ∈ L ∧ left s = true ∧ getL (crashL ks left L) s = some (fb, f) := by
  obtain ⟨y, hy, rfl⟩ := List.mem_map.1 hp
  obtain ⟨x, hx, h1, h2⟩ := crashL_mem hy
  have hl1 : left y.1 = true := hl
  have hyx := h2 (h1 ▸ hl1)
  subst hyx
  exact ⟨y.1, y.2.1, y.2.2, rfl, hx, hl1, getL_of_mem hn2 hy⟩

theorem keepOf_nonneg (ks : List Kp) (s : ByteArray) : 0 ≤ (keepOf ks s).1 ∧ 0 ≤ (keepOf ks s).2 := by
  unfold keepOf
  split
  · exact ⟨Int.le_max_right .., Int.le_max_right ..⟩
  · exact ⟨Int.le_refl _, Int.le_refl _⟩
/-- Blocks that are not the disk's change. -/
theorem DiskAt.only {W w w' : World} {S : Nat → Prop} {d fm rm n : Nat} {own : Nat → Option Nat} {L : List (ByteArray × Nat × Dfile)} {ks : List Int} (h : DiskAt W w d fm rm own L ks n) (ho : Only w w' S) (hd : ¬ S d) (hf : ¬ S fm) (hr : ¬ S rm) (hs : ∀ i fb, own i = some fb → ¬ S i) (hb : ∀ i, S i → W.heap.size ≤ i) : DiskAt W w' d fm rm own L ks n :=
  ⟨h.box.only ho hd, h.all.only ho hf, h.ref.only ho hr, fun y hy => by
    obtain ⟨sv, ov, l, hfl⟩ := h.each y hy
    exact ⟨sv, ov, l, hfl.only ho (fun i hi => hs i _ hi) (fun _ _ => rfl)⟩, h.nod, h.keys, h.noD, h.noF, h.noR, h.fr, h.ged, h.gef, h.ger, h.below.trans (ho.below h.below.size fun i _ e => hb i e), fun i fb e => ⟨(h.old i fb e).1, Nat.lt_of_lt_of_le (h.old i fb e).2 ho.size⟩⟩

set_option maxRecDepth 100000 in
set_option maxHeartbeats 4000000 in
theorem dcrash_calls (W w : World) (d fm rm n : Nat) (own : Nat → Option Nat) (L : List (ByteArray × Nat × Dfile)) (kss : List Int) (h : DiskAt W w d fm rm own L kss n) (hops : ∀ x ∈ L, x.2.2.ops.length ≤ 100000) (v : Value) (ks : List Kp) (hlen : ks.length ≤ 9223372036854775806)
    (hv : ∀ w', Only w w' (fun i => i = fm ∨ own i ≠ none) → KeepsAt w' v ks) :
    Calls Try.prog 14 #[.pointer (some ⟨d, 0, none⟩), v] w fun e w' => e = .returned (.int .i64 0) ∧ ∃ own', DiskAt W w' d fm rm own' (crashed ks L) kss n ∧ (∀ i, i < w.heap.size → own' i = own i) ∧ Only w w' fun i => i = fm ∨ own i ≠ none := by
  obtain ⟨p, c, rfl⟩ := (hv w (Only.of_below (Below.refl _ _) _)).len
  have HN := Lib.hid (dnone_calls w d fm (h.box.cell 0))
  have c0 := h.box.cell 0
  obtain ⟨w1, cnt1, hr1, hrg1, b1, hs1⟩ := range_N (P := Try.prog) Try.underlying71 h.all
  have hnew : own w.heap.size = none := by
    cases e : own w.heap.size with
    | none => rfl
    | some fb =>
      have := (h.old _ _ e).2
      omega
  have H0 := Lib.hid (show RangeN w1 fm w.heap.size ((crashL ks (fun _ => true) L).map fun x => (x.1, Value.pointer (some ⟨x.2.1, 0, Option.none⟩))) (fun _ => true) cnt1 ∧ DiskAt W w1 d fm rm own (crashL ks (fun _ => true) L) kss n ∧ Only w w1 (fun i => i = fm ∨ own i ≠ none) from ⟨by rw [crashL_start]; exact hrg1, by rw [crashL_start]; exact h.low b1, Only.of_below b1 _⟩)
  have HK := Lib.hid (And.intro h.keys (And.intro hops hnew))
  have HW := Lib.hid h
  have HV := Lib.hid hv
  clear h hrg1 b1 hs1 hops hnew hv
  go_enter Try.func14, Try.ntmps14
  go_wp2_with (first
    | (go_at_call 40; refine HN.out.mono ?_; rintro e w' ⟨rfl, rfl⟩)
    | fail)
  try go_frame
  clear hr1 c0
  go_loopw [5] (fun _ wr => ∃ left cnt own', RangeN wr fm w.heap.size ((crashL ks left L).map fun x => (x.1, Value.pointer (some ⟨x.2.1, 0, Option.none⟩))) left cnt ∧ DiskAt W wr d fm rm own' (crashL ks left L) kss n ∧ (∀ i, i ≤ w.heap.size → own' i = own i) ∧ Only w wr (fun i => i = fm ∨ own i ≠ none)) (fun _ wr => wr.rangeLeft fm w.heap.size)
  case atStart => exact ⟨_, cnt1, own, H0.out.1, H0.out.2.1, fun _ _ => rfl, H0.out.2.2⟩
  case round =>
    obtain ⟨left, cnt, own1, hrg, hD, he, hO⟩ := hrel
    have HRL := Lib.hid hrg.left_eq
    have c0 := hD.box.cell 0
    rcases next_N (P := Try.prog) hrg 0 with ⟨h0, hrun⟩ | ⟨q, hq, hql, w2, cnt2, hrun, hrg2, hlt2, hO2, hs2, hen⟩
    · have HE := Lib.hid (show crashL ks left L = crashed ks L from crashL_end fun y hy => h0 _ (List.mem_map_of_mem (f := fun x : ByteArray × Nat × Dfile => (x.1, Value.pointer (some ⟨x.2.1, 0, Option.none⟩))) hy))
      clear h0
      go_wp2
      go_ret
      exact ⟨rfl, own1, HE.out ▸ hD, fun i hi => he i (Nat.le_of_lt hi), hO⟩
    · obtain ⟨s, fb, f, rfl, hx, hls, hget⟩ := nextCrash hq hql hD.keys
      have hlt0 : d < w.heap.size ∧ fm < w.heap.size ∧ rm < w.heap.size := ⟨HW.out.box.lt, HW.out.all.lt, HW.out.ref.lt⟩
      have hown : ∀ i fb2, own1 i = some fb2 → i ≠ w.heap.size := fun i fb2 e e2 => by
        rw [e2, he _ (Nat.le_refl _), HK.out.2.2] at e
        cases e
      have hD2 := hD.only hO2 (by omega) (by omega) (by omega) hown (fun i e => by rw [e]; exact HW.out.below.size)
      have hO02 : Only w w2 (fun i => i = fm ∨ own i ≠ none) := (hO.trans hO2).weak fun i hi e => e.elim id fun e => by omega
      have hrl : w.heap.size < w2.heap.size := hrg2.lt
      have c2 := hD2.box.cell 0
      have HKC := Lib.hid (keep_calls w2 (.slice p ks.length c) ks s (HV.out w2 hO02) hlen)
      have hnn := keepOf_nonneg ks s
      have hstep := crashL_step ks left L (s, fb, f) HK.out.1 hx hls
      simp only [] at hstep
      have hfo := HK.out.2.1 _ hx
      simp only [] at hfo
      obtain ⟨kx, hkx⟩ : ∃ x, (keepOf ks s).1 = x := ⟨_, rfl⟩
      obtain ⟨ky, hky⟩ : ∃ x, (keepOf ks s).2 = x := ⟨_, rfl⟩
      rw [hkx, hky] at HKC hstep hnn
      have HFC := Lib.hid (show ∀ w3, Below w2.heap.size w2 w3 → Calls Try.prog 42 #[.pointer (some ⟨fb, 0, none⟩), .int .i64 kx, .int .i64 ky] w3 fun e w4 => e = .returned (.bool (crashB f kx ky)) ∧
          ∃ own4, DiskAt W w4 d fm rm own4 (setL (crashL ks left L) s ⟨crashS f kx ky, [], false⟩) kss n ∧ (∀ i, i ≤ w.heap.size → own4 i = own i) ∧ Only w w4 (fun i => i = fm ∨ own i ≠ none) ∧ RangeN w4 fm w.heap.size ((setL (crashL ks left L) s ⟨crashS f kx ky, [], false⟩).map fun x => (x.1, Value.pointer (some ⟨x.2.1, 0, Option.none⟩))) (fun k => left k && !decide (k = s)) cnt2 from fun w3 b3 => by
        have hD3 := hD2.low b3
        obtain ⟨sv, ov, l, hf⟩ := hD3.get hget
        refine (fcrash_calls w3 W.heap.size fb own1 f sv ov l hf hfo hD3.below.size kx ky hnn.1 hnn.2).mono ?_
        rintro e w4 ⟨rfl, u, hWk⟩
        obtain ⟨hF4, hO4⟩ := hWk.fin hf (crashS_len f hf.okf kx ky)
        refine ⟨rfl, _, hD3.file hget hO4 hF4, fun i hi => ?_, ?_, ?_⟩
        · rw [ownG_old _ _ _ _ (by have := b3.size; omega), he i hi]
        · refine ((hO02.trans (Only.of_below b3 (fun _ => False))).trans hO4).weak fun i hi e => ?_
          rcases e with (e | e) | e
          · exact e
          · exact e.elim
          · right
            rw [← he i (Nat.le_of_lt hi), e]
            exact fun e => by cases e
        · rw [setL_keys]
          exact (hrg2.only (Only.of_below b3 (fun _ => False)) id id).only hO4 (fun e => by rw [hD3.noF] at e; cases e) (fun e => hown _ _ e rfl))
      clear hq hql hget hx hfo hls hD hD2 hO hO2 hrg hnn hs2 hown hO02 hlt0 hrg2 he hkx hky
      obtain ⟨q, hq⟩ : ∃ q, crashB f kx ky = q := ⟨_, rfl⟩
      rw [hq] at HFC hstep
      clear hq
      have HST := Lib.hid hstep
      clear hstep
      cases q
      · go_wp2_with (first
          | (go_at_call 42; refine (HFC.out w3 b3).mono ?_; rintro e w4 ⟨rfl, own4, D4, he4, O4, R4⟩; have z0 := D4.box.cell 0; clear c2)
          | (go_at_call 41; refine HKC.out.mono ?_; rintro e w3 ⟨rfl, b3⟩)
          | (refine wpList_drop_N (by rfl) _ _ _ _ (by rfl) _ Try.underlying71 Try.underlying9 fm w.heap.size cnt2 _ _ (by rfl) R4 s (by rfl) ?_; intro w5 cnt5 R5 hc5 O5 hs5; rw [drop_keys] at R5; have D5 := D4.drop s R5.map O5; replace O5 := (O4.trans O5).weak (fun i _ e => e.elim id .inl); clear z0)
          | fail)
        go_frame
        go_roundw
        case rel => exact ⟨_, cnt5, own4, by rw [HST.out]; exact R5, by rw [HST.out]; exact D5, he4, O5⟩
        case measure => rw [R5.left_eq, HRL.out]; omega
      · go_wp2_with (first
          | (go_at_call 42; refine (HFC.out w3 b3).mono ?_; rintro e w4 ⟨rfl, own4, D4, he4, O4, R4⟩; clear c2)
          | (go_at_call 41; refine HKC.out.mono ?_; rintro e w3 ⟨rfl, b3⟩)
          | fail)
        go_roundw
        case rel => exact ⟨_, cnt2, own4, by rw [HST.out]; exact R4, by rw [HST.out]; exact D4, he4, O4⟩
        case measure => rw [R4.left_eq, HRL.out]; omega

end Go.Proofs.Ytmmlpbepaefamaa
