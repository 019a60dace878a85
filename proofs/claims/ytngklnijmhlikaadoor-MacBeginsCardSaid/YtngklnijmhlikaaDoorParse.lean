/- A digest out of its text: both Parses. -/
import Derived.Test.YtngklnijmhlikaaDoorLists
namespace Go.Proofs.YtngklnijmhlikaaDoor
open Go.RowKit

theorem textOf_surj (s : ByteArray) : ∃ ys, s = textOf ys := by
  refine ⟨s.data.toList.map UInt8.toBitVec, ?_⟩
  unfold textOf
  cases s with
  | mk d =>
    congr 1
    apply Array.toList_inj.1
    simp [Function.comp_def]
theorem textOf_size (ys : List (BitVec 8)) : (textOf ys).size = ys.length := by simp [textOf, ByteArray.size]
theorem run_index_text (w : World) (ys : List (BitVec 8)) (k : Nat) (c : BitVec 8) (hc : ys[k]? = some c) : (Instr.index 9 (.string (textOf ys)) (.int .i64 k)).run Tryd.prog w = .ok (vu8 c) w := by
  have hk : k < ys.length := (List.getElem?_eq_some_iff.1 hc).1
  rw [run_index_string (P := Tryd.prog) w 9 (textOf ys) .i64 _ Tryd.underlying9, dif_pos (by rw [textOf_size]; omega)]
  have hv : ys[k] = c := (List.getElem?_eq_some_iff.1 hc).2
  have : ((textOf ys)[((k : Int)).toNat]'(by rw [textOf_size]; omega)) = UInt8.ofBitVec c := by
    rw [← hv]
    show (textOf ys).data[k]'_ = _
    simp [textOf]
  rw [this]
  rfl

/-- Two digits' byte. -/
def byteAt (ys : List (BitVec 8)) (t : Nat) : BitVec 8 := (hexVal (ys.getD (2 * t) 0#8)).1 <<< 4 ||| (hexVal (ys.getD (2 * t + 1) 0#8)).1
/-- What is read of a text. -/
def parseOk (ys : List (BitVec 8)) : Prop := ys.length = 64 ∧ ∀ i, i < 64 → (hexVal (ys.getD i 0#8)).2 = true
open Classical in
noncomputable def parseRes (ys : List (BitVec 8)) : List (BitVec 8) × Int := if parseOk ys then ((List.range 32).map (byteAt ys), 0) else (List.replicate 32 0#8, 4)
theorem parseRes_length (ys : List (BitVec 8)) : (parseRes ys).1.length = 32 := by
  unfold parseRes
  split <;> simp
theorem parseRes_bad {ys : List (BitVec 8)} (h : ¬ parseOk ys) : parseRes ys = (List.replicate 32 0#8, 4) := if_neg h
theorem parseRes_ok {ys : List (BitVec 8)} (h : parseOk ys) : parseRes ys = ((List.range 32).map (byteAt ys), 0) := if_pos h

/-- The row while a text is being read, by pairs. -/
def parRow (ys : List (BitVec 8)) (k : Nat) : List (BitVec 8) := (List.range 32).map fun t => if t < k then byteAt ys t else 0#8
theorem parRow_length (ys : List (BitVec 8)) (k : Nat) : (parRow ys k).length = 32 := by simp [parRow]
theorem parRow_zero (ys : List (BitVec 8)) : parRow ys 0 = List.replicate 32 0#8 := by
  apply List.ext_getElem
  · simp [parRow]
  · intro i h1 h2
    simp only [parRow, List.getElem_map, List.getElem_range, List.getElem_replicate]
    exact if_neg (by omega)
theorem parRow_all (ys : List (BitVec 8)) : parRow ys 32 = (List.range 32).map (byteAt ys) := by
  unfold parRow
  apply List.map_congr_left
  intro t ht
  rw [if_pos (List.mem_range.1 ht)]
theorem parRow_next (ys : List (BitVec 8)) (k : Nat) (x : BitVec 8) (hx : byteAt ys k = x) : (parRow ys k).set k x = parRow ys (k + 1) := by
  apply List.ext_getElem
  · simp [parRow]
  · intro i h1 h2
    rw [List.getElem_set]
    simp only [parRow, List.getElem_map, List.getElem_range]
    by_cases he : k = i
    · subst he
      rw [if_pos rfl, if_pos (by omega), hx]
    · rw [if_neg he]
      by_cases hl : i < k
      · rw [if_pos hl, if_pos (by omega)]
      · rw [if_neg hl, if_neg (by omega)]

theorem results_cell_tmp {P : Program} {fn : Func} {p q : Tmp} {ty : TypeId} (h : fn.results = #[.cell p ty, .tmp q]) (tmps : Array Value) (w : World) (g : Nat) (t : TypeId) (cs : Array Value) (fr : Nat × Nat) (d : TypeDesc)
    (hp : tmps.getD p undef = .pointer (some ⟨g, 0, none⟩)) (hg : w.heap[g]? = some (.cells cs t fr))
    (hu : P.underlying ty = some d) (hd : (match d with | .struct _ | .array _ _ => true | _ => false) = true) (hi : (P.info? ty).map (·.size) = some cs.size) :
    (results fn tmps).run P w = .ok (.tuple #[.agg cs, tmps.getD q undef]) w := by
  have hp' : tmps[p]?.getD undef = .pointer (some ⟨g, 0, none⟩) := by simpa using hp
  simp [results, h, hp', asAddr, run_loadVar_row w g t ty cs fr d hg hu hd hi]

theorem zero_ones : (zeroNums .u8 32).toArray.all (·.oneCell') = true := by kernel_rfl

set_option maxRecDepth 100000 in
set_option maxHeartbeats 1000000 in
theorem parse_calls (w : World) (ys : List (BitVec 8)) :
    Calls Tryd.prog 35 #[.string (textOf ys)] w fun e w' => e = .returned (.tuple #[.agg ((parseRes ys).1.map vu8).toArray, .int .i64 (parseRes ys).2]) ∧ Below w.heap.size w w' := by
  have hsize := textOf_size ys
  obtain ⟨N, hN⟩ : ∃ N, ys.length = N := ⟨_, rfl⟩
  rw [hN] at hsize
  have HN := Lib.hid hN
  clear hN
  have HI := Lib.hid (fun w k c => run_index_text w ys k c)
  obtain ⟨s, hs⟩ : ∃ s, textOf ys = s := ⟨_, rfl⟩
  rw [hs] at hsize ⊢
  have HS := Lib.hid hs
  clear hs
  go_enter Tryd.func35, Tryd.ntmps35
  go_upto_region 2 with (refine wpList_alloc_row (by rfl) 25 (by rfl) _ _ info_d ?_)
  have hB : Below w.heap.size w ((w.alloc (.cells (zeroNums .u8 32).toArray 25)).alloc (.cells (zeroNums .u8 32).toArray 25)) := ((Below.refl _ _).alloc (Nat.le_refl _) _).alloc (by simp) _
  have hD := Whole.new (w.alloc (.cells (zeroNums .u8 32).toArray 25)) 25 (zeroNums .u8 32).toArray
  have hR := (Whole.new w 25 (zeroNums .u8 32).toArray).alloc (.cells (zeroNums .u8 32).toArray 25)
  rw [World.size_alloc] at hD
  simp only [World.size_alloc, Act.put, List.setIfInBounds_toArray, List.set_cons_zero, List.set_cons_succ]
  generalize ((w.alloc (.cells (zeroNums .u8 32).toArray 25)).alloc (.cells (zeroNums .u8 32).toArray 25)) = w2 at *
  replace hD : Whole w2 (w.heap.size + 1) 25 (zeroNums .u8 32) := hD
  replace hR : Whole w2 w.heap.size 25 (zeroNums .u8 32) := hR
  have hfin : ∀ (wr : World) (cs : List Value), Whole wr w.heap.size 25 (zeroNums .u8 32) → Below w.heap.size w wr → Below w.heap.size w (wr.setRow w.heap.size cs.toArray) := fun wr cs _ hb =>
    hb.grown (grown_row (World.grownBy.refl _ (some w.heap.size)) (.inl rfl) _) hb.size (fun k hk => by simp at hk; omega)
  have hzero : (zeroNums .u8 32) = (List.replicate 32 0#8).map vu8 := zero_bytes 32
  have HZ := Lib.hid hzero
  clear hzero
  by_cases hlen : N = 64
  · subst hlen
    go_wp2
    go_loopw [14] (fun i wr => ∃ k : Nat, k ≤ 32 ∧ i = .int .i64 k ∧ (∀ j, j < 2 * k → (hexVal (ys.getD j 0#8)).2 = true) ∧ Whole wr (w.heap.size + 1) 25 ((parRow ys k).map vu8) ∧ Whole wr w.heap.size 25 (zeroNums .u8 32) ∧ Below w.heap.size w wr) (fun i _ => 32 - (intOf i).toNat)
    case atStart => exact ⟨0, by omega, rfl, fun j hj => by omega, by rw [parRow_zero, ← HZ.out]; exact hD, hR, hB⟩
    case round =>
      obtain ⟨k, hk, rfl, hok, hDr, hRr, hBr⟩ := hrel
      clear hD hR hB
      by_cases hlt : k < 32
      · obtain ⟨a, ha⟩ : ∃ a, 2 * k = a := ⟨_, rfl⟩
        obtain ⟨b, hb⟩ : ∃ b, a + 1 = b := ⟨_, rfl⟩
        have i1 : (k : Int) < 32 := by omega
        have i2 : 0 ≤ (k : Int) ∧ (k : Int) < 32 := by omega
        have s0 : IntKind.i64.wrap (2 * (k : Int)) = (a : Int) := by
          rw [show 2 * (k : Int) = (a : Int) from by omega]
          exact IntWalk.i64_in _ (by omega)
        have s1 : IntKind.i64.wrap ((a : Int) + 1) = (b : Int) := by
          rw [show (a : Int) + 1 = (b : Int) from by omega]
          exact IntWalk.i64_in _ (by omega)
        have s2 : IntKind.i64.wrap ((k : Int) + 1) = (k : Int) + 1 := IntWalk.i64_in _ (by omega)
        obtain ⟨c1, hc1⟩ : ∃ c, ys[a]? = some c := ⟨_, List.getElem?_eq_getElem (by rw [HN.out]; omega)⟩
        obtain ⟨c2, hc2⟩ : ∃ c, ys[b]? = some c := ⟨_, List.getElem?_eq_getElem (by rw [HN.out]; omega)⟩
        have x1 : ∀ w', (Instr.index 9 (.string s) (.int .i64 a)).run Tryd.prog w' = .ok (vu8 c1) w' := fun w' => by rw [← HS.out]; exact HI.out w' a c1 hc1
        have x2 : ∀ w', (Instr.index 9 (.string s) (.int .i64 b)).run Tryd.prog w' = .ok (vu8 c2) w' := fun w' => by rw [← HS.out]; exact HI.out w' b c2 hc2
        have g1 : ys.getD a 0#8 = c1 := by rw [List.getD_eq_getElem?_getD, hc1]; rfl
        have g2 : ys.getD b 0#8 = c2 := by rw [List.getD_eq_getElem?_getD, hc2]; rfl
        obtain ⟨v1, p1, hv1⟩ : ∃ v p, hexVal c1 = (v, p) := ⟨_, _, rfl⟩
        obtain ⟨v2, p2, hv2⟩ : ∃ v p, hexVal c2 = (v, p) := ⟨_, _, rfl⟩
        have hbad : p1 = false ∨ p2 = false → parseRes ys = (List.replicate 32 0#8, 4) := fun h => parseRes_bad fun hp => by
          rcases h with h | h
          · have := hp.2 a (by omega)
            rw [g1, hv1, h] at this
            cases this
          · have := hp.2 b (by omega)
            rw [g2, hv2, h] at this
            cases this
        have hby : byteAt ys k = v1 <<< 4 ||| v2 := by
          unfold byteAt
          rw [ha, hb, g1, g2, hv1, hv2]
        have hnx := parRow_next ys k _ hby
        have hlen := parRow_length ys k
        have hfree := hDr.free k
        have c0 := hDr.cell_of (List.getElem?_eq_getElem (show k < ((parRow ys k).map vu8).length by simp [hlen]; omega))
        generalize ((parRow ys k).map vu8)[k]'_ = d0 at c0
        have HX := Lib.hid hnx
        have HB := Lib.hid hbad
        have HDR := Lib.hid hDr
        have HOK := Lib.hid hok
        have HA := Lib.hid ha
        have HBB := Lib.hid hb
        have HG := Lib.hid (And.intro g1 (And.intro g2 (And.intro hv1 hv2)))
        clear hnx hbad hDr hok hby hlen g1 g2 hc1 hc2 ha hb
        cases p1
        · go_wp2_with (first
            | (go_at_call 75; refine (value_calls _ _).mono ?_; rintro e w' ⟨rfl, rfl⟩; first | rw [hv1] | rw [hv2])
            | (refine wpList_build_as (o := ⟨some 40, _, _, _, _, _⟩) (by rfl) _ _ (by rfl) (zeroNums .u8 32).toArray (by kernel_rfl) ?_)
            | (refine wpList_store_row (o := ⟨none, _, _, _, _, _⟩) (by rfl) 25 _ _ (by rfl) w.heap.size (zeroNums .u8 32).toArray (by rfl) (by rfl) 25 _ hRr (by rw [size_d]; simp [zeroNums]) (by simp) zero_ones ?_))
          (try simp only [Exit.inBlock, Exit.then])
          refine bodyPost_ret (results_cell_tmp rfl _ _ w.heap.size 25 _ (0, 0) _ rfl (hRr.row (zeroNums .u8 32)) Tryd.underlying25 rfl (by rw [size_d]; rfl)) rfl ⟨?_, hfin _ _ hRr hBr⟩
          rw [HB.out (by simp), ← HZ.out]
          rfl
        · cases p2
          · go_wp2_with (first
              | (go_at_call 75; refine (value_calls _ _).mono ?_; rintro e w' ⟨rfl, rfl⟩; first | rw [hv1] | rw [hv2])
              | (refine wpList_build_as (o := ⟨some 40, _, _, _, _, _⟩) (by rfl) _ _ (by rfl) (zeroNums .u8 32).toArray (by kernel_rfl) ?_)
              | (refine wpList_store_row (o := ⟨none, _, _, _, _, _⟩) (by rfl) 25 _ _ (by rfl) w.heap.size (zeroNums .u8 32).toArray (by rfl) (by rfl) 25 _ hRr (by rw [size_d]; simp [zeroNums]) (by simp) zero_ones ?_))
            (try simp only [Exit.inBlock, Exit.then])
            refine bodyPost_ret (results_cell_tmp rfl _ _ w.heap.size 25 _ (0, 0) _ rfl (hRr.row (zeroNums .u8 32)) Tryd.underlying25 rfl (by rw [size_d]; rfl)) rfl ⟨?_, hfin _ _ hRr hBr⟩
            rw [HB.out (by simp), ← HZ.out]
            rfl
          · go_wp2_with (first
              | (go_at_call 75; refine (value_calls _ _).mono ?_; rintro e w' ⟨rfl, rfl⟩; first | rw [hv1] | rw [hv2]))
            refine ⟨⟨k + 1, by omega, by go_num, fun j hj => ?_, ?_, hRr.far (by simp) _, hBr.setCell (by simp) _⟩, by simp [intOf]; omega⟩
            · obtain ⟨g1, g2, e1, e2⟩ := HG.out
              have ha := HA.out
              have hb := HBB.out
              by_cases h1 : j < 2 * k
              · exact HOK.out j h1
              · by_cases h2 : j = a
                · rw [h2, g1, e1]
                · obtain rfl : j = b := by omega
                  rw [g2, e2]
            · have := HDR.out.put k (vu8 (v1 <<< 4 ||| v2))
              rw [← List.map_set, HX.out] at this
              exact this
      · obtain rfl : k = 32 := by omega
        have hfull := parseRes_ok (ys := ys) ⟨HN.out, fun i hi => hok i (by omega)⟩
        rw [parRow_all] at hDr
        have hlen2 : (((List.range 32).map (byteAt ys)).map vu8).length = 32 := by simp
        go_wp2_with (first
          | (refine wpList_load_row (by rfl) 25 _ (by rfl) (w.heap.size + 1) (by rfl) 25 (((List.range 32).map (byteAt ys)).map vu8).toArray (0, 0) _ hDr Tryd.underlying25 (by rfl) (by rw [size_d]; simp) ?_)
          | (refine wpList_store_row (o := ⟨none, _, _, _, _, _⟩) (by rfl) 25 _ _ (by rfl) w.heap.size (((List.range 32).map (byteAt ys)).map vu8).toArray (by rfl) (by rfl) 25 _ hRr (by rw [size_d]; simp) (by simp [zeroNums]) (all_u8 _) ?_))
        (try simp only [Exit.inBlock, Exit.then])
        refine bodyPost_ret (results_cell_tmp rfl _ _ w.heap.size 25 _ (0, 0) _ rfl (hRr.row (((List.range 32).map (byteAt ys)).map vu8)) Tryd.underlying25 rfl (by rw [size_d]; simp)) rfl ⟨?_, hfin _ _ hRr hBr⟩
        rw [hfull]
        rfl
  · have i1 : ¬ (N : Int) = 64 := by omega
    have hbad := parseRes_bad (ys := ys) (fun h => hlen (by rw [← HN.out]; exact h.1))
    go_wp2_with (first
      | (refine wpList_load_row (by rfl) 25 _ (by rfl) (w.heap.size + 1) (by rfl) 25 (zeroNums .u8 32).toArray (0, 0) _ hD Tryd.underlying25 (by rfl) (by rw [size_d]; rfl) ?_)
      | (refine wpList_store_row (by rfl) 25 _ _ (by rfl) w.heap.size (zeroNums .u8 32).toArray (by rfl) (by rfl) 25 _ hR (by rw [size_d]; simp [zeroNums]) (by simp) zero_ones ?_))
    (try simp only [Exit.inBlock, Exit.then])
    refine bodyPost_ret (results_cell_tmp rfl _ _ w.heap.size 25 _ (0, 0) _ rfl (hR.row (zeroNums .u8 32)) Tryd.underlying25 rfl (by rw [size_d]; rfl)) rfl ⟨?_, hfin _ _ hR hB⟩
    rw [hbad, ← HZ.out]
    rfl

end Go.Proofs.YtngklnijmhlikaaDoor
