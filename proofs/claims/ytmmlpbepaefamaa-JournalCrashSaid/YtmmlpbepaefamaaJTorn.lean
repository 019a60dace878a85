/- journal.Open where a torn end is cut off. -/
import Derived.Test.YtmmlpbepaefamaaJOpen
namespace Go.Proofs.Ytmmlpbepaefamaa
open Go.RowKit

theorem setL_setL : ∀ (L : List (ByteArray × Nat × Dfile)) (s : ByteArray) (f g : Dfile), setL (setL L s f) s g = setL L s g
  | [], _, _, _ => rfl
  | x :: L, s, f, g => by
    by_cases hx : x.1 = s
    · simp [setL, hx]
    · simp [setL, hx, setL_setL L s f g]
theorem LogAt.old {W w : World} {jb d fm rm c : Nat} {own : Nat → Option Nat} {L : List (ByteArray × Nat × Dfile)} {ks : List Int} {s : ByteArray} {n z : Int} (h : LogAt W w jb d fm rm own L ks c s n z) {fb : Nat} {i : Nat} (e : own i = some fb) : i < w.heap.size := (h.disk.old i fb e).2

set_option maxRecDepth 100000 in
set_option maxHeartbeats 4000000 in
theorem jopen_torn (W w : World) (d fm rm c : Nat) (own : Nat → Option Nat) (L : List (ByteArray × Nat × Dfile)) (ks : List Int) (h : DiskAt W w d fm rm own L ks c) (s : ByteArray) (hnm : nameN s = true) (hs : s.size ≤ 9223372036854775806) {fb : Nat} {f : Dfile} (hg : getL L s = some (fb, f)) (hops : f.ops.length ≤ 80000) {bs : List (List (BitVec 8))} {k : Nat} (hr : readC f.content = some (bs, k)) (hk : k < f.content.length) (hc : c ≤ 900000000) (hq1 : ((c : Int) + 1) ∉ ks) (hq2 : (((c + 1 : Nat) : Int) + 1) ∉ ks) :
    Calls Try.prog 10 #[.pointer (some ⟨d, 0, none⟩), .string s] w fun e w' => ∃ jb u, e = .returned (.tuple #[.pointer (some ⟨jb, 0, none⟩), u, .int .i64 0]) ∧ ∃ own', LogAt W w' jb d fm rm own' (setL L s ⟨f.content.take k, [], false⟩) ks (c + 2) s bs.length k ∧ w.heap.size ≤ jb ∧ ListsOwn w' w.heap.size u bs ∧ (∀ i, i < w.heap.size → own' i = own i) ∧ Only w w' fun i => i = d ∨ own i ≠ none := by
  have HNM := Lib.hid (fun w => hnm ▸ jnamed_calls w s hs)
  have HT := Lib.hid table_calls
  have HD := Lib.hid h
  have HR0 := Lib.hid (dread_there W w d fm rm c own L ks h s fb f hg (by omega))
  have hfl : f.content.length ≤ 1048576 := by
    obtain ⟨_, _, _, hf⟩ := h.get hg
    exact okOps_len _ _ hf.okf.1 hf.okf.2
  have HRD := Lib.hid (fun w' T v (hv : SliceR w' v f.content) (ht : Whole w' T 79 (jourC d s 0 0)) => read_some w' T 2 v f.content (jour_tab ht) hv (by omega) hr)
  have HCUT := Lib.hid (fun w' (h' : DiskAt W w' d fm rm own L ks c) => dcut_there W w' d fm rm c own L ks h' (by omega) s hq1 fb f hg (by omega) k (by omega))
  have HSY := Lib.hid (fun w' own2 (h' : DiskAt W w' d fm rm own2 (setL L s ⟨f.safe, f.ops ++ [.cut k], f.fresh⟩) ks (c + 1)) => dsync_there W w' d fm rm (c + 1) own2 _ ks h' (by omega) s hq2 fb _ (getL_set L s _ _ hg) (by simp; omega))
  rw [setL_setL] at HSY
  have hrun : (Dfile.mk f.safe (f.ops ++ [.cut k]) f.fresh).content = f.content.take k := runOps_add _ _ _
  rw [hrun] at HSY
  have HOLD := Lib.hid (And.intro h.box.lt (fun i fb2 (e : own i = some fb2) => (h.old i fb2 e).2))
  clear h hnm hrun
  obtain ⟨N, hN⟩ : ∃ n, f.content.length = n := ⟨_, rfl⟩
  rw [hN] at hfl hk
  have HN := Lib.hid hN
  clear hN hr
  have i1 : (k : Int) < (N : Int) := by omega
  go_enter Try.func10, Try.ntmps10
  go_upto_region 19 with (first
    | (go_at_call 18; refine (HSY.out w5 own2 h5d).mono ?_; rintro e w6 ⟨rfl, own3, h6d, he6, hO6⟩)
    | (go_at_call 22; refine (HCUT.out w4 h3.disk).mono ?_; rintro e w5 ⟨rfl, own2, h5d, he5, hO5⟩)
    | (go_at_call 37; refine (HRD.out w3 jb _ (HS0.out.low B3) h3.jour).mono ?_; rintro e w4 ⟨b4, _, rfl, ⟨ua, uc, rfl⟩, hU⟩; replace h3 := h3.low b4; have B4 := B3.trans (b4.mono B3.size); replace hU := hU.down B3.size)
    | (refine wpList_box_row (by rfl) 79 _ (by rfl) (jourC d s 0 0).toArray (by rfl) ?_; have h3 := LogAt.start (s := s) (HD0.out.low B2); have B3 := B2.trans (((Below.refl w2.heap.size w2).alloc (Nat.le_refl _) (.cells (jourC d s 0 0).toArray 79)).mono B2.size); have hjb : w0.heap.size ≤ w2.heap.size := B2.size; generalize w2.alloc (.cells (jourC d s 0 0).toArray 79) = w3 at h3 B3 ⊢; generalize w2.heap.size = jb at h3 hjb ⊢)
    | (refine wpList_build_three (by rfl) 79 _ _ _ 0 1 2 (by rfl) (.pointer (some ⟨d, 0, none⟩)) (.string s) (.agg (tabRow 256).toArray) (by rfl) (by rfl) (by rfl) (jourC d s 0 0).toArray (built_jour d s) ?_)
    | (go_at_call 36; refine (HT.out w1).mono ?_; rintro e w2 ⟨rfl, b2⟩; have B2 := B1.trans (b2.mono B1.size); clear b2)
    | (go_at_call 35; refine (HNM.out w0).mono ?_; rintro e w1 ⟨rfl, b1⟩; have B1 := B0.trans (b1.mono B0.size); clear b1)
    | (go_at_call 20; refine HR0.out.mono ?_; rintro e w0 ⟨_, rfl, O0, HB0⟩; have HS0 := Own.room O0; (obtain ⟨ba, bc, hbv⟩ := slice_of_row O0); rw [HN.out] at hbv; subst hbv; replace HS0 := Lib.hid HS0; clear O0; have HD0 := Lib.hid (HD.out.low HB0); have B0 := Below.refl w0.heap.size w0)
    | fail)
  have hO46 : Only w4 w6 fun i => i = d ∨ own i ≠ none := (hO5.trans hO6).weak fun i hi e => by
    rcases e with e | e | e
    · exact e
    · exact .inl e
    · rw [he5 i hi] at e
      exact .inr e
  replace hU := hU.only hO46 (fun i hi _ e => by
    have := HB0.size
    rcases e with e | e
    · have := HOLD.out.1
      omega
    · cases e2 : own i with
      | none => exact e e2
      | some fb2 =>
        have := HOLD.out.2 i fb2 e2
        omega)
  have h3 := h3.did h6d (fun i hi => (he6 i (Nat.lt_of_lt_of_le hi hO5.size)).trans (he5 i hi)) (hO46.weak fun i _ e => e.elim .inl (fun e => .inr (.inr e)))
  have HO := Lib.hid (show Only w w6 (fun i => i = d ∨ own i ≠ none) from ((Only.of_below (HB0.trans (B4.mono HB0.size)) (fun _ => False)).trans hO46).weak fun i _ e => e.elim False.elim id)
  have HE := Lib.hid (show ∀ i, i < w.heap.size → own3 i = own i from fun i hi => (he6 i (Nat.lt_of_lt_of_le hi (Nat.le_trans (HB0.trans (B4.mono HB0.size)).size hO5.size))).trans (he5 i (Nat.lt_of_lt_of_le hi (HB0.trans (B4.mono HB0.size)).size)))
  clear hO46 hO5 hO6 he5 he6 h5d h6d
  have f1 := h3.jour.free 258
  have c1 : w6.cell? ⟨jb, 258, none⟩ = some (.int .i64 0) := (h3.jour.cell 258).trans (jourC_n d s 0 0)
  have hU2 := hU.away h3.jour (by decide) (by decide) 258 (.int .i64 bs.length)
  have h5 := h3.setN bs.length
  have f2 := h5.jour.free 259
  have c2 := (h5.jour.cell 259).trans (jourC_z d s bs.length 0)
  have hU3 := hU2.away h5.jour (by decide) (by decide) 259 (.int .i64 k)
  have h6 := h5.setZ k
  go_wp2
  go_ret3
  have hj2 := Nat.le_trans HB0.size hjb
  refine ⟨_, _, rfl, _, h6, hj2, hU3.down HB0.size, HE.out, ((HO.out.trans (Only.set w6 ⟨jb, 258, none⟩ _)).trans (Only.set _ ⟨jb, 259, none⟩ _)).weak fun i hi e => ?_⟩
  rcases e with (e | e) | e
  · exact e
  · have e : i = jb := e
    omega
  · have e : i = jb := e
    omega

end Go.Proofs.Ytmmlpbepaefamaa
