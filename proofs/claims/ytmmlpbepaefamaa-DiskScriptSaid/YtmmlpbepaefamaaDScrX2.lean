/- DiskScript: the walk. -/
import Derived.Test.YtmmlpbepaefamaaDAct
import Derived.Test.YtmmlpbepaefamaaFrameP
import Derived.Test.YtmmlpbepaefamaaJLong
namespace Go.Proofs.Ytmmlpbepaefamaa
open Go.RowKit Go.MapKept Go.Maps Go.Sort Go.Shelf

theorem longA_no {a : DA} (h : longA a = false) : a.b.length ≤ 1048585 ∧ a.keeps.length ≤ 40 ∧ a.name.size + a.dst.size ≤ 400 := by
  unfold longA at h
  have h := of_decide_eq_false h
  omega
theorem longD_no {l : List DA} (h : longD l = false) : l.length ≤ 70 ∧ ∀ a ∈ l, longA a = false := by
  unfold longD at h
  rw [Bool.or_eq_false_iff] at h
  refine ⟨by have := of_decide_eq_false h.2; omega, fun a ha => ?_⟩
  have := h.1
  rw [List.any_eq_false] at this
  have := this a ha
  simpa using this
theorem newd_long (w : World) (v : Value) (l : List Int) (hv : NumsAt w v l) (hl : 4096 < l.length) : Calls Try.prog 9 #[v] w fun e w' => e = .returned (.tuple #[.pointer none, .int .i64 3]) ∧ w = w' := by
  obtain ⟨a, c, rfl⟩ := hv.len
  exact dnewl_long w a c l hl
/-- disk.New, seen from an older world. -/
theorem kd_new_at (W w : World) (hW : Below W.heap.size W w) (v : Value) (l : List Int) (hv : NumsAt w v l) (hl : l.length ≤ 4096) : Calls Try.prog 9 #[v] w fun e w' => ∃ d S ks, e = .returned (.tuple #[.pointer (some ⟨d, 0, none⟩), .int .i64 0]) ∧ KD W w' d S [] ks 0 ∧ (∀ k, k ∈ ks ↔ k ∈ l) ∧ Below w.heap.size w w' ∧ ∀ i, S i → w.heap.size ≤ i := by
  refine (dnewl_calls w v l hv hl).mono ?_
  rintro e w' ⟨d, rfl, fm, rm, own, h, hn⟩
  have hs := hW.size
  refine ⟨d, fun i => i = d ∨ i = fm ∨ i = rm ∨ own i ≠ none, _, rfl, ⟨fm, rm, own, [], ⟨h.box, h.all, h.ref, fun x hx => (by cases hx), h.nod, h.keys, h.noD, h.noF, h.noR, h.fr, Nat.le_trans hs h.ged, Nat.le_trans hs h.gef, Nat.le_trans hs h.ger, hW.trans (h.below.mono hs), fun i fb e => by rw [hn i] at e; cases e⟩, rfl, fun i => Iff.rfl⟩, fun k => by rw [mem_adds]; simp, h.below, fun i hi => ?_⟩
  rcases hi with rfl | rfl | rfl | e
  · exact h.ged
  · exact h.gef
  · exact h.ger
  · exact absurd (hn i) e
theorem ints_of_row {w : World} {B : Nat} {v : Value} {l : List Int} (h : w.ownsRow B 3 1 v l.length (l.map fun k => Value.int .i64 k)) : NumsAt w v l := by
  rcases row_shape h with ⟨rfl, h0⟩ | ⟨g, cap, rfl, _, hg, hc⟩
  · exact .inl ⟨_, _, rfl, List.eq_nil_of_length_eq_zero h0⟩
  · refine .inr ⟨g, 0, cap, rfl, hg, fun j z hz => ?_⟩
    rw [Nat.zero_add]
    exact hc j _ (by rw [List.getElem?_map, hz]; rfl)
theorem sc_new {W w2 w3 w4 : World} {d m B0 : Nat} {S T : Nat → Prop} {ks rl : List Int} {v : Value} {xs : List Value} (hD : KD W w3 d S [] ks 0) (hS : ∀ i, S i → w2.heap.size ≤ i) (hb3 : Below w2.heap.size w2 w3) (hT : RK w4 w3.heap.size m T [] rl 0) (hb4 : Below w3.heap.size w3 w4) (hO : w2.ownsRow B0 3 1 v rl.length xs) : Sc W w4 w3.heap.size d m (fun i => v.ownBlock = some i) ks rl 0 := by
  refine ⟨S, T, [], [], 0, ⟨hD.low hb4, hT, fun i hs ht => ?_, hD.below.size⟩, Alike.empty, ⟨Nat.le_refl _, fun s f g => by cases g⟩, Nat.le_refl _, fun i e => ⟨fun hs => ?_, fun ht => ?_⟩, fun i e => ?_⟩
  · have := (hD.old hs).1
    have := (hT.old ht).1
    omega
  · have := hS i hs
    have := row_lt hO e
    omega
  · have := (hT.old ht).1
    have := row_lt hO e
    have := hb3.size
    omega
  · have := row_lt hO e
    have := hb3.size
    have := hb4.size
    omega

set_option maxRecDepth 100000 in
set_option maxHeartbeats 4000000 in
theorem dscr_long (W : World) (p : Option Addr) (N c : Nat) (v1 : Value) (l : List DA) (hl : l.length ≤ 9223372036854775807) (hA : DActs W v1 l) (hf : ∀ a ∈ l, a.b.length ≤ 9223372036854775807 ∧ a.keeps.length ≤ 9223372036854775807 ∧ a.name.size ≤ 4611686018427387903 ∧ a.dst.size ≤ 4611686018427387903) (hlg : longD l = true) : Answers Try.prog 6 #[.slice p N c, v1] W := by
  unfold Answers
  have HL := Lib.hid (hlg ▸ longD_calls W v1 l hA hl hf)
  clear hA hl hf hlg
  go_enter Try.func6, Try.ntmps6
  go_wp2_with (first
    | (go_at_call 26; refine HL.out.mono ?_; rintro e w1 ⟨rfl, hB1⟩)
    | fail)
  go_ret
  exact ⟨rfl, hB1⟩

set_option maxRecDepth 100000 in
set_option maxHeartbeats 4000000 in
theorem dscr_mid (W : World) (p : Option Addr) (N c : Nat) (v1 : Value) (l : List DA) (hl : l.length ≤ 9223372036854775807) (hA : DActs W v1 l) (hf : ∀ a ∈ l, a.b.length ≤ 9223372036854775807 ∧ a.keeps.length ≤ 9223372036854775807 ∧ a.name.size ≤ 4611686018427387903 ∧ a.dst.size ≤ 4611686018427387903) (hlg : longD l = false) (h1 : 100 < N) (h2 : N ≤ 4096) : Answers Try.prog 6 #[.slice p N c, v1] W := by
  unfold Answers
  have HL := Lib.hid (hlg ▸ longD_calls W v1 l hA hl hf)
  clear hA hl hf hlg
  have q1 : (100 : Int) < (N : Int) := by omega
  have q2 : (N : Int) ≤ 4096 := by omega
  go_enter Try.func6, Try.ntmps6
  go_wp2_with (first
    | (go_at_call 26; refine HL.out.mono ?_; rintro e w1 ⟨rfl, hB1⟩)
    | fail)
  go_ret
  exact ⟨rfl, hB1⟩

set_option maxRecDepth 100000 in
set_option maxHeartbeats 4000000 in
theorem dscr_far (W : World) (p : Option Addr) (N c : Nat) (v1 : Value) (l : List DA) (hl : l.length ≤ 9223372036854775807) (hA : DActs W v1 l) (hf : ∀ a ∈ l, a.b.length ≤ 9223372036854775807 ∧ a.keeps.length ≤ 9223372036854775807 ∧ a.name.size ≤ 4611686018427387903 ∧ a.dst.size ≤ 4611686018427387903) (hlg : longD l = false) (h1 : 4105 < N) : Answers Try.prog 6 #[.slice p N c, v1] W := by
  unfold Answers
  have HL := Lib.hid (hlg ▸ longD_calls W v1 l hA hl hf)
  clear hA hl hf hlg
  have q1 : (100 : Int) < (N : Int) := by omega
  have q2 : ¬ (N : Int) ≤ 4096 := by omega
  have q3 : (4105 : Int) < (N : Int) := by omega
  go_enter Try.func6, Try.ntmps6
  go_wp2_with (first
    | (go_at_call 26; refine HL.out.mono ?_; rintro e w1 ⟨rfl, hB1⟩)
    | fail)
  go_ret
  exact ⟨rfl, hB1⟩

set_option maxRecDepth 100000 in
set_option maxHeartbeats 4000000 in
theorem dscr_main (W : World) (p : Option Addr) (N c : Nat) (v1 : Value) (rl : List Int) (l : List DA) (hR : NumSrc W (.slice p N c) rl) (hN : rl.length = N) (M : Nat) (q : Option Addr) (c1 : Nat) (hM : l.length = M) (hv1 : v1 = .slice q M c1) (hl : l.length ≤ 9223372036854775807) (hA : DActs W v1 l) (hf : ∀ a ∈ l, a.b.length ≤ 9223372036854775807 ∧ a.keeps.length ≤ 9223372036854775807 ∧ a.name.size ≤ 4611686018427387903 ∧ a.dst.size ≤ 4611686018427387903) (hlg : longD l = false) (hn : N ≤ 100) (hz : ∀ a ∈ l, a.n ≤ 9223372036854775807) : Answers Try.prog 6 #[.slice p N c, v1] W := by
  unfold Answers
  have HL := Lib.hid (hlg ▸ longD_calls W v1 l hA hl hf)
  obtain ⟨hM70, hno⟩ := longD_no hlg
  have HFA := Lib.hid (show ∀ a ∈ l, a.b.length ≤ 1048585 ∧ a.keeps.length ≤ 40 ∧ a.name.size + a.dst.size ≤ 400 ∧ a.n ≤ 9223372036854775807 from fun a ha => by
    have := longA_no (hno a ha)
    exact ⟨this.1, this.2.1, this.2.2, hz a ha⟩)
  rw [hM] at hM70
  subst hv1
  have HM := Lib.hid hM
  have HN := Lib.hid hN
  have HA := Lib.hid hA
  have HR := Lib.hid hR
  have q1 : ¬ (100 : Int) < (N : Int) := by omega
  have q3 : ¬ (4105 : Int) < (N : Int) := by omega
  clear hlg hno hN hM hA hR hl hf hz
  go_enter Try.func6, Try.ntmps6
  go_upto_block 0 with (first
    | (go_at_call 28; refine (sameints_calls w4 _ _ rl (ints_of_row hO4) (HR.out.at.low hB4) (by have := HN.out; omega)).mono ?_; rintro e w5 ⟨rfl, hb5⟩)
    | (go_at_call 27; refine HRN.out.mono ?_; rintro e w4 ⟨m, rfl, ⟨T, hT4⟩, hb4⟩; have hB4 := hB3.trans (hb4.mono hB3.size); have hO4 := row_low hO3 hb4; have hS4 := sc_new hD3 hS3 hb3 hT4 hb4 hO2)
    | (go_at_call 9; refine HDN.out.mono ?_; rintro e w3 ⟨d, S, ks, rfl, hD3, hks, hb3, hS3⟩; have hB3 := hB2.trans (hb3.mono hB2.size); have hO3 := row_low hO2 hb3; have HRN := Lib.hid (rnew_calls w3 _ rl (HR.out.low hB3) (by have := HN.out; omega)); have HFX := Lib.hid (show Fx ks rl from ⟨fun n => by unfold refB; exact decide_eq_decide.2 (hks _), by have := HN.out; omega⟩))
    | (refine wpList_append_ints (w := w1.alloc (.cells #[] 3)) (by rfl) _ _ (by rfl) w1.heap.size _ _ [] rl (by rfl) (own_empty w1 3) (by rfl) ((HR.out.low hB1).low ((Below.refl _ _).alloc (Nat.le_refl _) _)) (by have := HN.out; simp only [List.length_nil]; omega) (by simp) ?_; intro v2 w2 hO2 hG2 _; rw [List.nil_append, flat_int] at hO2; have hb2 : Below w1.heap.size w1 w2 := ((Below.refl w1.heap.size w1).alloc (Nat.le_refl _) (.cells #[] 3)).grown hG2 (by simp) (fun i hi => own_ge (own_empty (f := intC) (n := 1) w1 3) hi); have hB2 := hB1.trans (hb2.mono hB1.size); have HDN := Lib.hid (kd_new_at W w2 hB2 v2 rl (ints_of_row hO2) (by have := HN.out; omega)); obtain ⟨a2, n2, c2, he2⟩ := slice_any hO2; subst he2)
    | (go_at_call 26; refine HL.out.mono ?_; rintro e w1 ⟨rfl, hB1⟩)
    | fail)
  have hS5 := hS4.low hb5
  have hO5 := row_low hO4 hb5
  go_wp2
  obtain rfl : n2 = N := by
    obtain ⟨a', c', he⟩ := slice_of_row hO5
    injection he with _ h2
    rw [h2]
    exact HN.out
  have hn5 : (rl.map fun k => Value.int .i64 k).length = n2 := by rw [List.length_map]; exact HN.out
  rw [HN.out] at hO5
  have HO5 := Lib.hid hO5
  have HS5 := Lib.hid hS5
  clear hO2 hO4 hG2 hO5 hn5 hS4 hS5 hT4 hD3 hS3 hks hO3
  go_loopw [10] (fun i wr => ∃ k : Nat, k ≤ n2 ∧ i = .int .i64 k ∧ (∃ ys : List Int, ys.length = n2 ∧ wr.ownsRow w1.heap.size 3 1 (.slice a2 n2 c2) n2 (ys.map fun k => Value.int .i64 k)) ∧ Sc W wr w3.heap.size d m (fun i => (Value.slice a2 n2 c2).ownBlock = some i) ks rl 0) (fun i _ => n2 - (intOf i).toNat)
  case atStart => exact ⟨0, by omega, rfl, ⟨rl, HN.out, HO5.out⟩, HS5.out⟩
  case round =>
    obtain ⟨k, hk, rfl, ⟨ys, hys, hO⟩, hS⟩ := hrel
    by_cases hlt : k < n2
    · have i1 : (k : Int) < (n2 : Int) := by omega
      have i2 : 0 ≤ (k : Int) ∧ (k : Int) < (n2 : Int) := by omega
      have b2 : IntKind.i64.wrap ((k : Int) + 1) = (k : Int) + 1 := IntWalk.i64_in _ (by omega)
      obtain ⟨g, ha⟩ : ∃ g, a2 = some ⟨g, 0, none⟩ := by
        rcases row_shape hO with ⟨he, h0⟩ | ⟨g, cap, he, _⟩
        · omega
        · injection he with he
          exact ⟨g, he⟩
      subst ha
      obtain ⟨y, hy⟩ : ∃ y, ys[k]? = some y := ⟨_, List.getElem?_eq_getElem (by omega)⟩
      obtain ⟨r1, r2, r3⟩ := own_put (u := .int .i64 (wrap64 (y + 1))) hO (j := k) (by rw [List.length_map]; omega)
      rw [List.getElem?_map, hy] at r3
      have c0 : wr.cell? ⟨g, k, none⟩ = some (.int .i64 y) := r3
      rw [← List.map_set (f := fun k => Value.int .i64 k)] at r1
      have HP := Lib.hid r1
      have HY := Lib.hid hys
      have HO := Lib.hid hO
      have HS := Lib.hid hS
      clear r1 r3 hys hO hS hy
      go_wp2
      go_roundw
      case rel => exact ⟨k + 1, by omega, by go_num, ⟨_, by rw [List.length_set]; exact HY.out, HP.out⟩, HS.out.write (Only.set wr ⟨g, k, none⟩ _) fun i _ e => by subst e; exact ⟨rfl, Nat.le_trans hB1.size (own_ge HO.out rfl)⟩⟩
      case measure => simp [intOf]; omega
    · obtain rfl : k = n2 := by omega
      have i1 : ¬ (k : Int) < (k : Int) := by omega
      have HO := Lib.hid hO
      have HS := Lib.hid hS
      clear hO hS
      go_wp2
      have hS0 : Sc W wr w3.heap.size d m (fun _ => False) ks rl 0 := HS.out.fewer fun i e => e.elim
      go_loopw [11] (fun i wr => ∃ k : Nat, k ≤ M ∧ i = .int .i64 k ∧ Sc W wr w3.heap.size d m (fun _ => False) ks rl k) (fun i _ => M - (intOf i).toNat)
      case atStart => exact ⟨0, by omega, rfl, hS0⟩
      case round =>
        clear hS0
        obtain ⟨j, hj, rfl, hS⟩ := hrel
        by_cases hlt : j < M
        · have i3 : (j : Int) < (M : Int) := by omega
          have i4 : 0 ≤ (j : Int) ∧ (j : Int) < (M : Int) := by omega
          have b3 : IntKind.i64.wrap ((j : Int) + 1) = (j : Int) + 1 := IntWalk.i64_in _ (by omega)
          obtain ⟨a, hp⟩ : ∃ a, l[j]? = some a := ⟨_, List.getElem?_eq_getElem (by rw [HM.out]; exact hlt)⟩
          obtain ⟨ab, off, rfl, hab, hrng0, hat0⟩ := HA.out.get hp
          have hrng := rangeAt_low hrng0 hab hS.below
          have hs := HFA.out a (List.mem_of_getElem? hp)
          have hC := Lib.hid (act_calls hS HFX.out (by omega) a hat0 (by omega) hs.2.1 (by omega) (by omega) hs.2.2.2)
          clear hS hp hrng0 hat0 hs
          go_wp2_with (first
            | (refine wpList_load_mid (by rfl) 63 _ (by rfl) ab (off + j * 6) (by rfl) a.cells _ hrng Try.underlying63 (by rfl) size_da ?_)
            | (go_at_call 29; refine hC.out.mono ?_; rintro e w7 ⟨rfl, hS7⟩)
            | fail)
          go_roundw
          case rel => exact ⟨j + 1, by omega, by go_num, hS7⟩
          case measure => simp [intOf]; omega
        · obtain rfl : j = M := by omega
          have i3 : ¬ (j : Int) < (j : Int) := by omega
          go_wp2
          go_ret
          exact ⟨rfl, hS.below⟩
set_option maxRecDepth 100000 in
set_option maxHeartbeats 4000000 in
theorem dscr_none (W : World) (p : Option Addr) (N c : Nat) (v1 : Value) (rl : List Int) (l : List DA) (hR : NumSrc W (.slice p N c) rl) (hN : rl.length = N) (hl : l.length ≤ 9223372036854775807) (hA : DActs W v1 l) (hf : ∀ a ∈ l, a.b.length ≤ 9223372036854775807 ∧ a.keeps.length ≤ 9223372036854775807 ∧ a.name.size ≤ 4611686018427387903 ∧ a.dst.size ≤ 4611686018427387903) (hlg : longD l = false) (h1 : 4096 < N) (h2 : N ≤ 4105) : Answers Try.prog 6 #[.slice p N c, v1] W := by
  unfold Answers
  have HL := Lib.hid (hlg ▸ longD_calls W v1 l hA hl hf)
  have HN := Lib.hid hN
  have HR := Lib.hid hR
  have q1 : (100 : Int) < (N : Int) := by omega
  have q2 : ¬ (N : Int) ≤ 4096 := by omega
  have q3 : ¬ (4105 : Int) < (N : Int) := by omega
  clear hlg hN hA hR hl hf
  go_enter Try.func6, Try.ntmps6
  go_upto_block 0 with (first
    | (go_at_call 28; refine (sameints_calls w4 _ _ rl (ints_of_row hO4) (HR.out.at.low hB4) (by have := HN.out; omega)).mono ?_; rintro e w5 ⟨rfl, hb5⟩)
    | (go_at_call 27; refine HRN.out.mono ?_; rintro e w4 ⟨rfl, hw4⟩; have hB4 : Below W.heap.size W w4 := hw4 ▸ hB2; have hO4 : w4.ownsRow w1.heap.size 3 1 _ rl.length (rl.map fun k => Value.int .i64 k) := hw4 ▸ hO2)
    | (go_at_call 9; refine HDN.out.mono ?_; rintro e w3 ⟨rfl, hw3⟩; have HRN := Lib.hid (rnew_long w3 _ rl (hw3 ▸ HR.out.at.low hB2) (by have := HN.out; omega)); subst hw3)
    | (refine wpList_append_ints (w := w1.alloc (.cells #[] 3)) (by rfl) _ _ (by rfl) w1.heap.size _ _ [] rl (by rfl) (own_empty w1 3) (by rfl) ((HR.out.low hB1).low ((Below.refl _ _).alloc (Nat.le_refl _) _)) (by have := HN.out; simp only [List.length_nil]; omega) (by simp) ?_; intro v2 w2 hO2 hG2 _; rw [List.nil_append, flat_int] at hO2; have hb2 : Below w1.heap.size w1 w2 := ((Below.refl w1.heap.size w1).alloc (Nat.le_refl _) (.cells #[] 3)).grown hG2 (by simp) (fun i hi => own_ge (own_empty (f := intC) (n := 1) w1 3) hi); have hB2 := hB1.trans (hb2.mono hB1.size); have HDN := Lib.hid (newd_long w2 v2 rl (ints_of_row hO2) (by have := HN.out; omega)); obtain ⟨a2, n2, c2, he2⟩ := slice_any hO2; subst he2)
    | (go_at_call 26; refine HL.out.mono ?_; rintro e w1 ⟨rfl, hB1⟩)
    | fail)
  have hS5 : Below W.heap.size W w5 := hB4.trans (hb5.mono hB4.size)
  have hO5 := row_low hO4 hb5
  go_wp2
  obtain rfl : n2 = N := by
    obtain ⟨a', c', he⟩ := slice_of_row hO5
    injection he with _ h2
    rw [h2]
    exact HN.out
  have hn5 : (rl.map fun k => Value.int .i64 k).length = n2 := by rw [List.length_map]; exact HN.out
  rw [HN.out] at hO5
  have HO5 := Lib.hid hO5
  have HS5 := Lib.hid hS5
  clear hO2 hO4 hG2 hO5 hn5 hB4 hS5
  go_loopw [10] (fun i wr => ∃ k : Nat, k ≤ n2 ∧ i = .int .i64 k ∧ (∃ ys : List Int, ys.length = n2 ∧ wr.ownsRow w1.heap.size 3 1 (.slice a2 n2 c2) n2 (ys.map fun k => Value.int .i64 k)) ∧ Below W.heap.size W wr) (fun i _ => n2 - (intOf i).toNat)
  case atStart => exact ⟨0, by omega, rfl, ⟨rl, HN.out, HO5.out⟩, HS5.out⟩
  case round =>
    obtain ⟨k, hk, rfl, ⟨ys, hys, hO⟩, hS⟩ := hrel
    by_cases hlt : k < n2
    · have i1 : (k : Int) < (n2 : Int) := by omega
      have i2 : 0 ≤ (k : Int) ∧ (k : Int) < (n2 : Int) := by omega
      have b2 : IntKind.i64.wrap ((k : Int) + 1) = (k : Int) + 1 := IntWalk.i64_in _ (by omega)
      obtain ⟨g, ha⟩ : ∃ g, a2 = some ⟨g, 0, none⟩ := by
        rcases row_shape hO with ⟨he, h0⟩ | ⟨g, cap, he, _⟩
        · omega
        · injection he with he
          exact ⟨g, he⟩
      subst ha
      obtain ⟨y, hy⟩ : ∃ y, ys[k]? = some y := ⟨_, List.getElem?_eq_getElem (by omega)⟩
      obtain ⟨r1, r2, r3⟩ := own_put (u := .int .i64 (wrap64 (y + 1))) hO (j := k) (by rw [List.length_map]; omega)
      rw [List.getElem?_map, hy] at r3
      have c0 : wr.cell? ⟨g, k, none⟩ = some (.int .i64 y) := r3
      rw [← List.map_set (f := fun k => Value.int .i64 k)] at r1
      have HP := Lib.hid r1
      have HY := Lib.hid hys
      have HO := Lib.hid hO
      have HS := Lib.hid hS
      clear r1 r3 hys hO hS hy
      go_wp2
      go_roundw
      case rel => exact ⟨k + 1, by omega, by go_num, ⟨_, by rw [List.length_set]; exact HY.out, HP.out⟩, HS.out.setCell (p := ⟨g, k, none⟩) (Nat.le_trans hB1.size (own_ge HO.out rfl)) _⟩
      case measure => simp [intOf]; omega
    · obtain rfl : k = n2 := by omega
      have i1 : ¬ (k : Int) < (k : Int) := by omega
      have HO := Lib.hid hO
      have HS := Lib.hid hS
      clear hO hS
      go_wp2
      go_loopw [11] (fun i wr => Below W.heap.size W wr) (fun _ _ => 0)
      case atStart => exact HS.out
      case round =>
        go_wp2
        go_ret
        exact ⟨rfl, hrel⟩

end Go.Proofs.Ytmmlpbepaefamaa

/- The law's walk serves whatever the arguments are. -/
namespace Go.Proofs.Ytmmlpbepaefamaa
open Go.RowKit

theorem dscr_walk (W : World) (v0 v1 : Value) (rl : List Int) (l : List DA) (hR : NumSrc W v0 rl) (hA : DActs W v1 l) (hl : l.length ≤ 9223372036854775807) (hf : ∀ a ∈ l, a.Fits) : Answers Try.prog 6 #[v0, v1] W := by
  obtain ⟨p, c, rfl⟩ := hR.at.len
  obtain ⟨q, c1, hv⟩ := hA.len
  have hf4 : ∀ a ∈ l, a.b.length ≤ 9223372036854775807 ∧ a.keeps.length ≤ 9223372036854775807 ∧ a.name.size ≤ 4611686018427387903 ∧ a.dst.size ≤ 4611686018427387903 := fun a ha => ⟨(hf a ha).1, (hf a ha).2.1, (hf a ha).2.2.1, (hf a ha).2.2.2.1⟩
  cases hlg : longD l with
  | true => exact dscr_long W p rl.length c v1 l hl hA hf4 hlg
  | false =>
    by_cases h1 : rl.length ≤ 100
    · exact dscr_main W p rl.length c v1 rl l hR rfl l.length q c1 rfl hv hl hA hf4 hlg h1 fun a ha => (hf a ha).2.2.2.2
    by_cases h2 : rl.length ≤ 4096
    · exact dscr_mid W p rl.length c v1 l hl hA hf4 hlg (by omega) h2
    by_cases h3 : 4105 < rl.length
    · exact dscr_far W p rl.length c v1 l hl hA hf4 hlg h3
    · exact dscr_none W p rl.length c v1 rl l hR rfl hl hA hf4 hlg (by omega) (by omega)

set_option maxRecDepth 100000 in
open Go.ChangeShapes Go.WideShapes Go.Deep Go.MakeChecks in
theorem diskScript_answers {H : Type} {enc : TypeId × Value → H} (W : World) (base : Nat) (args : Array Value) (ds gs : List (DataW H)) (before : List MemPlace)
    (hval : ∀ (j : Nat) t v, Try.f6.params[j]? = some t → args[j]? = some v → Value.okWide Try.prog W .any base t v)
    (hW : DataW.Whole enc Try.prog Try.f6.params.toList Rows.diskScriptSpec.vars false W args.toList ds gs before)
    (hsz : (DataW.weightsEach Try.prog (Try.f6.params.toList ++ Rows.diskScriptSpec.plain.varTypes Try.prog) (ds ++ gs)).all (· ≤ reachBytes) = true) : Answers Try.prog 6 args W := by
  obtain ⟨p, q, hA, _, _, _, _⟩ := hW
  rw [Try.params6] at hA hval hsz
  obtain ⟨v0, v1, d0, d1, p0, p1, rfl, rfl, _, h0, h1⟩ := trodAll_two hA
  have hw : ∀ n ∈ d1.weights Try.prog 55, n ≤ 140737488355328 := fun n hn => by
    have h := List.all_eq_true.1 hsz n (DataW.weights_mem_each (j := 1) (t := 55) (d := d1) rfl rfl n hn)
    have h2 : n ≤ reachBytes := by simpa using h
    have := reachBytes_lt
    omega
  obtain ⟨rl, hR, _⟩ := nums_arg (hval 0 _ v0 rfl rfl) h0
  obtain ⟨l, hl, hll, hf⟩ := das_arg (hval 1 _ v1 rfl rfl) h1 hw
  exact dscr_walk W v0 v1 rl l hR hl hll hf

end Go.Proofs.Ytmmlpbepaefamaa
