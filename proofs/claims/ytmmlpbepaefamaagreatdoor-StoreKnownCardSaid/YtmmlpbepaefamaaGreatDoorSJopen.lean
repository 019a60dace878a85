/- Open of a log, over the disk as a plain function: with every outcome. -/
import Derived.Test.YtmmlpbepaefamaaGreatDoorSJour
namespace Go.Proofs.YtmmlpbepaefamaaGreatDoor
open Go.RowKit

theorem LogAt.jr {W w : World} {jb d fm rm c : Nat} {own : Nat → Option Nat} {L : List (ByteArray × Nat × Dfile)} {ks : List Int} {s : ByteArray} {n z : Int} (h : LogAt W w jb d fm rm own L ks c s n z) : Jour w jb d s := ⟨_, _, h.jour⟩

theorem sj_open_none (W w : World) (d n : Nat) (S : Nat → Prop) (A : Fs) (ks : List Int) (s : ByteArray) (h : KD W w d S A ks n) (hnm : nameN s = true) (hs : s.size ≤ 1000) (hg : getA A s = none) :
    Calls Tryz.prog 23 #[.pointer (some ⟨d, 0, none⟩), .string s] w fun r w' => ∃ jb ua uc, r = .returned (.tuple #[.pointer (some ⟨jb, 0, none⟩), .slice ua 0 uc, .int .i64 0]) ∧ Jour w' jb d s ∧ w.heap.size ≤ jb ∧ Below w.heap.size w w' := by
  obtain ⟨fm, rm, own, L, h1, rfl, hS⟩ := h
  refine (jopen_missing W w d fm rm n own L ks h1 s hnm (by omega) (view_none hg)).mono ?_
  rintro r w' ⟨jb, ⟨ua, uc, rfl⟩, hJ, hj, hb⟩
  exact ⟨jb, ua, uc, rfl, hJ.jr, hj, hb⟩
theorem sj_open_whole (W w : World) (d n : Nat) (S : Nat → Prop) (A : Fs) (ks : List Int) (s : ByteArray) (h : KD W w d S A ks n) (hA : okA A) (hnm : nameN s = true) (hs : s.size ≤ 1000) {f : Dfile} (hg : getA A s = some f) {bs : List (List (BitVec 8))} (hr : readC f.content = some (bs, f.content.length)) :
    Calls Tryz.prog 23 #[.pointer (some ⟨d, 0, none⟩), .string s] w fun r w' => ∃ jb u, r = .returned (.tuple #[.pointer (some ⟨jb, 0, none⟩), u, .int .i64 0]) ∧ Jour w' jb d s ∧ w.heap.size ≤ jb ∧ ListsOwn w' w.heap.size u bs ∧ Below w.heap.size w w' := by
  have hfo := hA.get hg
  obtain ⟨fm, rm, own, L, h1, rfl, hS⟩ := h
  obtain ⟨fb, hg2⟩ := view_some hg
  refine (jopen_whole W w d fm rm n own L ks h1 s hnm (by omega) hg2 (by omega) hr).mono ?_
  rintro r w' ⟨jb, u, rfl, hJ, hj, hU, hb⟩
  exact ⟨jb, u, rfl, hJ.jr, hj, hU, hb⟩

/-- What Open of a log leaves where it cuts. -/
def CX (W w w' : World) (d : Nat) (S : Nat → Prop) (A : Fs) (ks : List Int) (n : Nat) : Prop := ∃ S', KD W w' d S' A ks n ∧ Only w w' S ∧ ∀ i, i < w.heap.size → S' i → S i
/-- What Open of a log with a torn end answers. -/
def OpenJ (W w w' : World) (d : Nat) (S : Nat → Prop) (A1 A2 : Fs) (ks : List Int) (n : Nat) (s : ByteArray) (bs : List (List (BitVec 8))) (e1 e2 : Int) (r : Ending) : Prop :=
  (e1 ≠ 0 ∧ r = .returned (.tuple #[.pointer none, .slice none 0 0, .int .i64 e1]) ∧ CX W w w' d S A1 ks (n + 1)) ∨
  (e1 = 0 ∧ e2 ≠ 0 ∧ r = .returned (.tuple #[.pointer none, .slice none 0 0, .int .i64 e2]) ∧ CX W w w' d S A2 ks (n + 2)) ∨
  (e1 = 0 ∧ e2 = 0 ∧ ∃ jb u, r = .returned (.tuple #[.pointer (some ⟨jb, 0, none⟩), u, .int .i64 0]) ∧ Jour w' jb d s ∧ w.heap.size ≤ jb ∧ ListsOwn w' w.heap.size u bs ∧ ∃ S', KD W w' d S' A2 ks (n + 2) ∧ Only w w' S ∧ (∀ i, i < w.heap.size → S' i → S i) ∧ ¬ S' jb ∧ ∀ i, S' i → i < w.heap.size ∨ jb < i)

set_option maxRecDepth 100000 in
set_option maxHeartbeats 4000000 in
theorem sj_open_torn (W w : World) (d n : Nat) (S : Nat → Prop) (A A1 A2 : Fs) (ks : List Int) (s : ByteArray) (h : KD W w d S A ks n) (hA : okA A) (hA1 : okA A1) (hn : n ≤ 900000) (hnm : nameN s = true) (hs : s.size ≤ 1000) {f : Dfile} (hg : getA A s = some f) {bs : List (List (BitVec 8))} {k : Nat} (hr : readC f.content = some (bs, k)) (hk : k < f.content.length) (hfl : f.content.length ≤ 1048576) (e1 e2 : Int) (hc : cutR A (refB ks n) s k = (e1, A1)) (hsy : e1 = 0 → syncR A1 (refB ks (n + 1)) s = (e2, A2)) :
    Calls Tryz.prog 23 #[.pointer (some ⟨d, 0, none⟩), .string s] w fun r w' => OpenJ W w w' d S A1 A2 ks n s bs e1 e2 r := by
  have HNM := Lib.hid (fun w => hnm ▸ jnamed_calls w s (by omega))
  have HT := Lib.hid table_calls
  have HD := Lib.hid h
  have HR0 := Lib.hid (kd_read_at h hA s f hg)
  have HRD := Lib.hid (fun w' T v (hv : SliceR w' v f.content) (ht : Whole w' T 106 (jourC d s 0 0)) => read_some w' T 2 v f.content (jour_tab ht) hv (by omega) hr)
  clear h hnm
  obtain ⟨N, hN⟩ : ∃ n, f.content.length = n := ⟨_, rfl⟩
  rw [hN] at HR0 hfl hk
  have HN := Lib.hid hN
  clear hN hr hg
  have i1 : (k : Int) < (N : Int) := by omega
  go_enter Tryz.func23, Tryz.ntmps23
  go_upto_region 12 with (first
    | (go_at_call 57; refine (HRD.out w3 jb _ (HS0.out.low B3) hJ3).mono ?_; rintro e w4 ⟨b4, _, rfl, ⟨ua, uc, rfl⟩, hU⟩; have hJ4 := hJ3.below b4 hJ3.lt; have B4 := B3.trans (b4.mono B3.size); replace hU := hU.down B3.size)
    | (refine wpList_box_row (by rfl) 106 _ (by rfl) (jourC d s 0 0).toArray (by rfl) ?_; have hJ3 := Whole.new w2 106 (jourC d s 0 0).toArray; have B3 := B2.trans (((Below.refl w2.heap.size w2).alloc (Nat.le_refl _) (.cells (jourC d s 0 0).toArray 106)).mono B2.size); have hjb : w0.heap.size ≤ w2.heap.size := B2.size; generalize w2.alloc (.cells (jourC d s 0 0).toArray 106) = w3 at hJ3 B3 ⊢; generalize w2.heap.size = jb at hJ3 hjb ⊢; replace hJ3 : Whole w3 jb 106 (jourC d s 0 0) := hJ3)
    | (refine wpList_build_three (by rfl) 106 _ _ _ 0 1 2 (by rfl) (.pointer (some ⟨d, 0, none⟩)) (.string s) (.agg (tabRow 256).toArray) (by rfl) (by rfl) (by rfl) (jourC d s 0 0).toArray (built_jour d s) ?_)
    | (go_at_call 56; refine (HT.out w1).mono ?_; rintro e w2 ⟨rfl, b2⟩; have B2 := B1.trans (b2.mono B1.size); clear b2)
    | (go_at_call 55; refine (HNM.out w0).mono ?_; rintro e w1 ⟨rfl, b1⟩; have B1 := B0.trans (b1.mono B0.size); clear b1)
    | (go_at_call 20; refine HR0.out.mono ?_; rintro e w0 ⟨_, rfl, ⟨ba, bc, rfl⟩, O0, HB0⟩; have HS0 := Own.room O0; replace HS0 := Lib.hid HS0; clear O0; have B0 := Below.refl w0.heap.size w0)
    | fail)
  have hB04 := HB0.trans (B4.mono HB0.size)
  have hD4 := HD.out.low hB04
  have HC1 := Lib.hid (kd_cut_at hD4 hA (by omega) s k hc)
  have hjw : w.heap.size ≤ jb := Nat.le_trans HB0.size hjb
  have hjS : ¬ S jb := fun e => by have := (HD.out.old e).1; omega
  have HU4 := Lib.hid hU
  clear hU hD4
  by_cases h1 : e1 = 0
  · subst h1
    have hsy := hsy rfl
    go_upto_region 17 with (first
      | (go_at_call 46; refine HC2.out.mono ?_; rintro e w6 ⟨rfl, S6, hD6, ho6, hs6⟩)
      | (go_at_call 58; refine HC1.out.mono ?_; rintro e w5 ⟨rfl, S5, hD5, ho5, hs5⟩; have HC2 := Lib.hid (kd_sync_at hD5 hA1 (by omega) s hsy))
      | fail)
    have hjlt : jb < w4.heap.size := hJ4.lt
    have hj5 : ¬ S5 jb := fun e => hjS (hs5 jb hjlt e)
    have hj6 : ¬ S6 jb := fun e => hj5 (hs6 jb (Nat.lt_of_lt_of_le hjlt ho5.size) e)
    have hJ6 := (hJ4.only ho5 hjS).only ho6 hj5
    have hOO : Only w w6 S := ((Only.of_below hB04 S).trans (ho5.trans ho6)).weak fun i hi e => by
      rcases e with e | e | e
      · exact e
      · exact e
      · exact hs5 i (Nat.lt_of_lt_of_le hi hB04.size) e
    have hSS : ∀ i, i < w.heap.size → S6 i → S i := fun i hi e => hs5 i (Nat.lt_of_lt_of_le hi hB04.size) (hs6 i (Nat.lt_of_lt_of_le hi (Nat.le_trans hB04.size ho5.size)) e)
    have HF := Lib.hid (And.intro hD6 (And.intro hOO hSS))
    have hout : ∀ i, S6 i → i < w.heap.size ∨ jb < i := fun i e => by
      rcases Nat.lt_or_ge i w4.heap.size with hi | hi
      · have := (HD.out.old (hs5 i hi (hs6 i (Nat.lt_of_lt_of_le hi ho5.size) e))).1
        exact .inl this
      · exact .inr (Nat.lt_of_lt_of_le hjlt hi)
    have HOUT := Lib.hid hout
    by_cases h2 : e2 = 0
    · subst h2
      have f1 := hJ6.free 258
      have c1 : w6.cell? ⟨jb, 258, none⟩ = some (.int .i64 0) := (hJ6.cell 258).trans (jourC_n d s 0 0)
      have hJ7 := hJ6.put 258 (.int .i64 bs.length)
      rw [jourC_setN] at hJ7
      have f2 := hJ7.free 259
      have c2 := (hJ7.cell 259).trans (jourC_z d s bs.length 0)
      have hJ8 := hJ7.put 259 (.int .i64 k)
      rw [jourC_setZ] at hJ8
      have hU6 : ListsOwn w6 w0.heap.size (.slice ua bs.length uc) bs := HU4.out.only ((ho5.trans ho6).weak fun i hi e => e.elim id fun e => hs5 i hi e) fun i hi _ e => by
        have := (HD.out.old e).1
        have := HB0.size
        omega
      have hU7 := hU6.away hJ6 (by decide) (by decide) 258 (.int .i64 bs.length)
      have hU8 := hU7.away hJ7 (by decide) (by decide) 259 (.int .i64 k)
      have hW6 : W.heap.size ≤ jb := Nat.le_trans HD.out.below.size hjw
      have ho := (Only.set w6 ⟨jb, 258, none⟩ (.int .i64 bs.length)).trans (Only.set (w6.setCell ⟨jb, 258, none⟩ (.int .i64 bs.length)) ⟨jb, 259, none⟩ (.int .i64 k))
      have hD8 := HF.out.1.only ho (fun i _ e hS => by rcases e with rfl | rfl <;> exact hj6 hS) (fun i _ e => by rcases e with rfl | rfl <;> exact hW6)
      have HE := Lib.hid (And.intro hJ8 (And.intro (hU8.down HB0.size) hD8))
      have HO8 := Lib.hid (show Only w ((w6.setCell ⟨jb, 258, none⟩ (.int .i64 bs.length)).setCell ⟨jb, 259, none⟩ (.int .i64 k)) S from (HF.out.2.1.trans ho).weak fun i hi e => by
        rcases e with e | e | e
        · exact e
        · have e : i = jb := e
          omega
        · have e : i = jb := e
          omega)
      clear hJ8 hU8 hU7 hU6 hD8 hJ7 ho
      go_wp2
      go_ret3
      exact Or.inr (Or.inr ⟨rfl, rfl, _, _, rfl, ⟨_, _, HE.out.1⟩, hjw, HE.out.2.1, S6, HE.out.2.2, HO8.out, HF.out.2.2, hj6, HOUT.out⟩)
    · have g2 : (e2 == 0) = false := by simpa using h2
      go_wp2
      go_ret3
      exact Or.inr (Or.inl ⟨rfl, h2, rfl, S6, HF.out.1, HF.out.2.1, HF.out.2.2⟩)
  · have g1 : (e1 == 0) = false := by simpa using h1
    go_wp2_with (first
      | (go_at_call 58; refine HC1.out.mono ?_; rintro e w5 ⟨rfl, S5, hD5, ho5, hs5⟩)
      | fail)
    go_ret3
    exact Or.inl ⟨h1, rfl, S5, hD5, ((Only.of_below hB04 S).trans ho5).weak fun i _ e => e.elim id id, fun i hi e => hs5 i (Nat.lt_of_lt_of_le hi hB04.size) e⟩

end Go.Proofs.YtmmlpbepaefamaaGreatDoor
