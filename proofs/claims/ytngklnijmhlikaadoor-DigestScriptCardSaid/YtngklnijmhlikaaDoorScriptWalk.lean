/- DigestScript: the law's walk. -/
import Derived.Test.YtngklnijmhlikaaDoorScriptKind
namespace Go.Proofs.YtngklnijmhlikaaDoor
open Go.RowKit

theorem info_act : (Tryd.prog.info? 45).map (fun i => (i.zero, i.size)) = some (some (.agg #[.int .u8 0, .slice none 0 0]), 2) := by kernel_rfl
theorem size_act : (Tryd.prog.info? 45).map (·.size) = some 2 := by kernel_rfl

set_option maxRecDepth 100000 in
set_option maxHeartbeats 4000000 in
theorem digestScript_walk (w : World) (sl : Value) (acts : List (BitVec 8 × Value × List (BitVec 8))) (hA : ActsAt w sl acts) (hK : KTab w) : Answers Tryd.prog 5 #[sl] w := by
  obtain ⟨ao, cp, rfl, hacts⟩ := hA
  unfold Answers
  obtain ⟨N, hN⟩ : ∃ N, acts.length = N := ⟨_, rfl⟩
  rw [hN]
  by_cases hlen : 40 < N
  · have h1 : (40 : Int) < (N : Int) := by omega
    go_enter Tryd.func5, Tryd.ntmps5
    go_wp2
    go_ret
    exact ⟨rfl, Below.refl _ _⟩
  have h1 : ¬ (40 : Int) < (N : Int) := by omega
  have HN := Lib.hid hN
  have HA := Lib.hid hacts
  clear hN hacts
  go_enter Tryd.func5, Tryd.ntmps5
  go_upto_region 4 with (first
    | (go_at_call 25; refine (new_hash w).mono ?_; rintro e w1 ⟨h0, rfl, hh0, hI0, hB1⟩)
    | (go_at_call 25; refine (new_hash w1).mono ?_; rintro e w2 ⟨h0', rfl, hh0', hI0', hB2⟩))
  have hH3 := Whole.new w2 29 #[.pointer (some ⟨h0, 0, none⟩), .pointer (some ⟨h0', 0, none⟩)]
  have hB3 : Below w2.heap.size w2 (w2.alloc (.cells #[.pointer (some ⟨h0, 0, none⟩), .pointer (some ⟨h0', 0, none⟩)] 29)) := (Below.refl _ _).alloc (Nat.le_refl _) _
  have hz3 : w2.heap.size < (w2.alloc (.cells #[.pointer (some ⟨h0, 0, none⟩), .pointer (some ⟨h0', 0, none⟩)] 29)).heap.size := by simp
  have hI1 := hI0.below hB2 hI0.lt
  have hI2 := hI1.low hB3
  have hI2' := hI0'.low hB3
  have l1 := hI0.lt
  have l1' := hI0'.lt
  have hB03 : Below w.heap.size w (w2.alloc (.cells #[.pointer (some ⟨h0, 0, none⟩), .pointer (some ⟨h0', 0, none⟩)] 29)) := (hB1.trans (hB2.mono hB1.size)).trans (hB3.mono (Nat.le_trans hB1.size hB2.size))
  have z12 := hB2.size
  clear hB3 hB2 hB1 hI0 hI0' hI1
  generalize (w2.alloc (.cells #[.pointer (some ⟨h0, 0, none⟩), .pointer (some ⟨h0', 0, none⟩)] 29)) = w3 at *
  generalize w2.heap.size = HB at *
  go_upto_region 5 with (fail)
  have hM4 := Whole.new w3 22 #[.slice none 0 0, .slice none 0 0]
  have hB4 : Below w3.heap.size w3 (w3.alloc (.cells #[.slice none 0 0, .slice none 0 0] 22)) := (Below.refl _ _).alloc (Nat.le_refl _) _
  have hH4 := hH3.below hB4 hH3.lt
  have hI4 := hI2.low hB4
  have hI4' := hI2'.low hB4
  have hB04 : Below w.heap.size w (w3.alloc (.cells #[.slice none 0 0, .slice none 0 0] 22)) := hB03.trans (hB4.mono hB03.size)
  have z03 := hB03.size
  generalize (w3.alloc (.cells #[.slice none 0 0, .slice none 0 0] 22)) = w4 at *
  generalize w3.heap.size = MB at *
  have hS : ScriptIn w w4 HB MB 0 h0 h0' (.slice none 0 0) (.slice none 0 0) [] [] [] [] :=
    ⟨hB04, ⟨by omega, by omega, hh0, by omega⟩, ⟨by omega, by omega, by omega, by omega, by omega, by omega⟩, hH4, hM4, hI4, hI4', SliceOff.nil _ _, SliceOff.nil _ _⟩
  clear hM4 hB4 hH4 hI4 hI4' hB04 hB03 hI2 hI2' hH3
  go_wp2
  go_loopw [5, 6] (fun nv iv wr => ∃ n o i h h' s s' m m', n + o = 1 ∧ nv = .int .i64 (n : Nat) ∧ iv = .int .i64 (i : Nat) ∧ i ≤ N ∧ m.length ≤ 4000 * i ∧ m'.length ≤ 4000 * i ∧ ScriptIn w wr HB MB n h h' s s' m m' m m') (fun _ iv _ => N - (intOf iv).toNat)
  case atStart => exact ⟨0, 1, 0, h0, h0', _, _, [], [], rfl, rfl, rfl, by omega, by simp, by simp, hS⟩
  case round =>
    obtain ⟨n, o, i, h, h', s, s', m, m', hn, rfl, rfl, hi, hm, hm', hI⟩ := hrel
    clear hS
    by_cases hlt : i < N
    · obtain ⟨⟨k, v, bs⟩, hact⟩ : ∃ x, acts[i]? = some x := ⟨_, List.getElem?_eq_getElem (by rw [HN.out]; exact hlt)⟩
      obtain ⟨ab, ao', rfl, hab, hcell⟩ := HA.out (by rintro rfl; simp at hact)
      obtain ⟨c1, c2, hv⟩ := hcell i k v bs hact
      clear hcell HA hact
      obtain ⟨vp, vc, rfl, _⟩ := hv.cells
      have hrng : wr.rangeAt ab (ao' + i * 2) [vu8 k, .slice vp bs.length vc] := fun j u hj => by
        match j, hj with
        | 0, hj =>
          cases hj
          exact (hI.below.cell (p := ⟨ab, ao' + i * 2, none⟩) hab).trans c1
        | 1, hj =>
          cases hj
          exact (hI.below.cell (p := ⟨ab, ao' + i * 2 + 1, none⟩) hab).trans c2
      have i1 : (i : Int) < (N : Int) := by omega
      have i2 : 0 ≤ (i : Int) ∧ (i : Int) < (N : Int) := by omega
      go_upto_region 10 with (first
        | (refine wpList_load_mid (by rfl) 45 _ (by rfl) ab (ao' + i * 2) (by rfl) [vu8 k, .slice vp bs.length vc] _ hrng Tryd.underlying45 (by rfl) size_act ?_)
        | (refine wpList_alloc_row (by rfl) 45 (by rfl) _ _ info_act ?_)
        | (refine wpList_store_new (by rfl) 45 _ _ (by rfl) _ [vu8 k, .slice vp bs.length vc].toArray 45 (by rfl) (by rfl) size_act (by rfl) (by rfl) ?_))
      have hAB := Whole.new wr 45 [vu8 k, .slice vp bs.length vc].toArray
      have hBA : Below wr.heap.size wr (wr.alloc (.cells [vu8 k, .slice vp bs.length vc].toArray 45)) := (Below.refl _ _).alloc (Nat.le_refl _) _
      have hIA := hI.low hBA
      have z1 := hI.below.size
      have z2 := hI.rowH.lt
      have z3 := hI.rowM.lt
      have z4 := hI.one.lt
      have z5 := hI.two.lt
      have hT : ¬ Turned HB MB h h' wr.heap.size := by rintro (e | e | e | e) <;> omega
      clear hrng hBA hI
      generalize (wr.alloc (.cells [vu8 k, .slice vp bs.length vc].toArray 45)) = wA at *
      generalize wr.heap.size = AB at *
      have cA : wA.cell? ⟨AB, 1, none⟩ = some (.slice vp bs.length vc) := hAB.cell_of rfl
      have cA0 : wA.cell? ⟨AB, 0, none⟩ = some (vu8 k) := hAB.cell_of rfl
      have cH : wA.cell? ⟨HB, n, none⟩ = some (.pointer (some ⟨h, 0, none⟩)) := hIA.rowH.cell_of (pairRow_at hn)
      have n1 : 0 ≤ (n : Int) ∧ (n : Int) < 2 := by omega
      have HIA := Lib.hid hIA
      have hBI := hIA.below
      clear hIA
      by_cases hbig : 4000 < bs.length
      · have b1 : (4000 : Int) < (bs.length : Int) := by omega
        go_wp2
        go_ret
        exact ⟨rfl, hBI⟩
      have b1 : ¬ (4000 : Int) < (bs.length : Int) := by omega
      go_upto_block 2 with (fail)
      go_cut [5, 8] (fun nv _ w' => KindDone w w' HB MB (4000 * i + 4000) nv)
      case first =>
        refine script_kind w wA HB MB AB n o h h' (4000 * i) s s' m m' k vp vc bs hn HIA.out hAB hT hv (by omega) hm hm' (by omega) hK ?_
        intros
        go_wp2
        go_meet
        case rel => assumption
      case rest =>
        obtain ⟨n, o, h, h', s, s', m, m', hn, rfl, hm, hm', hI⟩ := hcut
        go_step
        have n1 : 0 ≤ (n : Int) ∧ (n : Int) < 2 := by omega
        have cH : wc.cell? ⟨HB, n, none⟩ = some (.pointer (some ⟨h, 0, none⟩)) := hI.rowH.cell_of (pairRow_at hn)
        have hls := hI.kept.1.len
        obtain ⟨sp, sc, rfl⟩ := hls
        have cM : wc.cell? ⟨MB, n, none⟩ = some (.slice sp m.length sc) := hI.rowM.cell_of (pairRow_at hn)
        have hone := hI.one
        have HI := Lib.hid hI
        clear hI
        go_upto_region 30 with (fail)
        go_region_held3 (fun w' => w'.cell? ⟨HB, n, none⟩ = some (.pointer (some ⟨h, 0, none⟩)) ∧ w'.cell? ⟨MB, n, none⟩ = some (.slice sp m.length sc))
          (first
            | exact ⟨cH, cM⟩
            | go_keep)
          (first
            | ((go_at_call 23; refine (len_hash _ h m (show HashIs wc.drew h m from hone)).mono ?_; rintro e w4 ⟨rfl, rfl⟩)))
        go_wp2
        have hD : Below wc.heap.size wc wc.drew := (Below.refl _ _).drew
        refine ⟨⟨n, o, i + 1, h, h', _, s', m, m', hn, rfl, by go_num, by omega, by omega, by omega, HI.out.low hD⟩, ?_⟩
        simp [intOf]
        omega
    · have i1 : ¬ (i : Int) < (N : Int) := by omega
      have n1 : 0 ≤ (n : Int) ∧ (n : Int) < 2 := by omega
      have cH : wr.cell? ⟨HB, n, none⟩ = some (.pointer (some ⟨h, 0, none⟩)) := hI.rowH.cell_of (pairRow_at hn)
      have cM : wr.cell? ⟨MB, n, none⟩ = some s := hI.rowM.cell_of (pairRow_at hn)
      have heq := eql_digest (sha m) (sha m) (sha_length m) (sha_length m)
      have lH := hI.rowH.lt
      have lM := hI.rowM.lt
      have hone := hI.one
      have hsl := hI.kept.1
      have hKr := hK.below hI.below hK.1
      have hml : m.length ≤ 1000000 := by omega
      have hB0 := hI.below.drew
      have HI := Lib.hid hI
      clear hI hm hm' hlt
      go_upto_region 32 with (fail)
      go_region_held3 (fun w' => w'.cell? ⟨HB, n, none⟩ = some (.pointer (some ⟨h, 0, none⟩)) ∧ w'.cell? ⟨MB, n, none⟩ = some s)
        (first
          | exact ⟨cH, cM⟩
          | exact ⟨(hB4.cell (p := ⟨HB, n, none⟩) lH).trans cH, (hB4.cell (p := ⟨MB, n, none⟩) lM).trans cM⟩
          | exact ⟨(hB5.cell (p := ⟨HB, n, none⟩) (Nat.lt_of_lt_of_le lH hB4.size)).trans ((hB4.cell (p := ⟨HB, n, none⟩) lH).trans cH), (hB5.cell (p := ⟨MB, n, none⟩) (Nat.lt_of_lt_of_le lM hB4.size)).trans ((hB4.cell (p := ⟨MB, n, none⟩) lM).trans cM)⟩
          | go_keep)
        (first
          | ((go_at_call 22; refine (sum_hash _ h m (show HashIs wr.drew h m from hone) (show KTab wr.drew from hKr) (by omega)).mono ?_; rintro e w4 ⟨rfl, hB4⟩))
          | ((go_at_call 19; refine (refsum_calls _ m s ((show SliceIs wr.drew s m from hsl).low hB4) (by omega)).mono ?_; rintro e w5 ⟨rfl, hB5⟩)))
      go_wp2
      go_ret
      exact ⟨rfl, (hB0.trans (hB4.mono hB0.size)).trans (hB5.mono (Nat.le_trans hB0.size hB4.size))⟩

end Go.Proofs.YtngklnijmhlikaaDoor
