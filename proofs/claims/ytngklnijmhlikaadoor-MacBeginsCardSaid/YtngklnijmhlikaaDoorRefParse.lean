/- The reference's Parse. -/
import Derived.Test.YtngklnijmhlikaaDoorParse
namespace Go.Proofs.YtngklnijmhlikaaDoor
open Go.RowKit

theorem hexDig_fin : ∀ (k : Fin 16) (c : BitVec 8), (hexDig (BitVec.ofNat 8 k.val) = c) ↔ (hexVal c = (BitVec.ofNat 8 k.val, true)) := by decide +kernel
theorem hexVal_lt : ∀ c : BitVec 8, (hexVal c).1.toNat < 16 := by decide +kernel
theorem nibbles_fin : ∀ a b : Fin 16, BitVec.ofNat 8 a.val * 16#8 + BitVec.ofNat 8 b.val = BitVec.ofNat 8 a.val <<< 4 ||| BitVec.ofNat 8 b.val := by decide +kernel
theorem of_toNat8 (u : BitVec 8) : BitVec.ofNat 8 u.toNat = u := by simp
theorem nibbles (u v : BitVec 8) (hu : u.toNat < 16) (hv : v.toNat < 16) : u * 16#8 + v = u <<< 4 ||| v := by
  have h := nibbles_fin ⟨u.toNat, hu⟩ ⟨v.toNat, hv⟩
  simpa using h
theorem hexDig_val (k : Nat) (hk : k < 16) (c : BitVec 8) : (hexDig (BitVec.ofNat 8 k) = c) ↔ (hexVal c = (BitVec.ofNat 8 k, true)) := hexDig_fin ⟨k, hk⟩ c

/-- The digit that was found among the first k. -/
def foundVal (v : BitVec 8) (p : Bool) (k : Nat) : Int := if p = true ∧ v.toNat < k then (v.toNat : Int) else -1
theorem foundVal_hit (c : BitVec 8) (k : Nat) (hk : k < 16) (v : BitVec 8) (p : Bool) (hv : hexVal c = (v, p)) (h : hexDig (BitVec.ofNat 8 k) = c) : foundVal v p (k + 1) = (k : Int) := by
  have := (hexDig_val k hk c).1 h
  rw [hv] at this
  injection this with h1 h2
  subst h1 h2
  have e : (BitVec.ofNat 8 k).toNat = k := by
    rw [BitVec.toNat_ofNat]
    omega
  unfold foundVal
  rw [if_pos ⟨rfl, by omega⟩, e]
theorem foundVal_miss (c : BitVec 8) (k : Nat) (hk : k < 16) (v : BitVec 8) (p : Bool) (hv : hexVal c = (v, p)) (h : ¬ hexDig (BitVec.ofNat 8 k) = c) : foundVal v p (k + 1) = foundVal v p k := by
  unfold foundVal
  by_cases hp : p = true
  · subst hp
    by_cases he : v.toNat = k
    · refine absurd ((hexDig_val k hk c).2 ?_) h
      rw [hv, ← he, of_toNat8]
    · by_cases hl : v.toNat < k
      · rw [if_pos ⟨rfl, by omega⟩, if_pos ⟨rfl, hl⟩]
      · rw [if_neg (by simp; omega), if_neg (by simp; omega)]
  · rw [if_neg (fun h => hp h.1), if_neg (fun h => hp h.1)]

/-- The row while a text is being read, digit by digit. -/
def refRow (ys : List (BitVec 8)) (i : Nat) : List (BitVec 8) := (List.range 32).map fun t => if 2 * t + 1 < i then byteAt ys t else if 2 * t < i then (hexVal (ys.getD (2 * t) 0#8)).1 else 0#8
theorem refRow_length (ys : List (BitVec 8)) (i : Nat) : (refRow ys i).length = 32 := by simp [refRow]
theorem refRow_zero (ys : List (BitVec 8)) : refRow ys 0 = List.replicate 32 0#8 := by
  apply List.ext_getElem
  · simp [refRow]
  · intro i h1 h2
    simp only [refRow, List.getElem_map, List.getElem_range, List.getElem_replicate]
    rw [if_neg (by omega), if_neg (by omega)]
theorem refRow_all (ys : List (BitVec 8)) : refRow ys 64 = (List.range 32).map (byteAt ys) := by
  unfold refRow
  apply List.map_congr_left
  intro t ht
  have := List.mem_range.1 ht
  rw [if_pos (by omega)]
theorem refRow_next (ys : List (BitVec 8)) (i h : Nat) (hi : i < 64) (hh : i / 2 = h) (v old : BitVec 8) (hv : (hexVal (ys.getD i 0#8)).1 = v) (hold : (refRow ys i)[h]? = some old) :
    (refRow ys i).set h (old * 16#8 + v) = refRow ys (i + 1) := by
  have hh2 : h < 32 := by omega
  have hold' : (if 2 * h + 1 < i then byteAt ys h else if 2 * h < i then (hexVal (ys.getD (2 * h) 0#8)).1 else 0#8) = old := by
    simpa [refRow, hh2] using hold
  rw [if_neg (by omega)] at hold'
  apply List.ext_getElem
  · simp [refRow]
  · intro t h1 h2
    rw [List.getElem_set]
    simp only [refRow, List.getElem_map, List.getElem_range]
    by_cases he : h = t
    · subst he
      rw [if_pos rfl]
      by_cases hodd : 2 * h < i
      · rw [if_pos hodd] at hold'
        rw [if_pos (by omega), nibbles _ _ (by rw [← hold']; exact hexVal_lt _) (by rw [← hv]; exact hexVal_lt _), ← hold', ← hv]
        unfold byteAt
        rw [show 2 * h + 1 = i from by omega]
      · rw [if_neg hodd] at hold'
        rw [if_neg (by omega), if_pos (by omega), ← hold', ← hv, show 2 * h = i from by omega]
        simp
    · rw [if_neg he]
      by_cases a1 : 2 * t + 1 < i
      · rw [if_pos a1, if_pos (by omega)]
      · rw [if_neg a1, if_neg (show ¬ 2 * t + 1 < i + 1 by omega)]
        by_cases a2 : 2 * t < i
        · omega
        · rw [if_neg a2, if_neg (show ¬ 2 * t < i + 1 by omega)]

/-- Where the reference's Parse stands: its result and the digest that grows lie in two blocks of its own. -/
def RefPar (w0 w : World) (ys : List (BitVec 8)) (i : Nat) : Prop :=
  Whole w (w0.heap.size + 1) 25 ((refRow ys i).map vu8) ∧ Whole w w0.heap.size 25 (zeroNums .u8 32) ∧ Below w0.heap.size w0 w
theorem RefPar.drew {w0 w : World} {ys : List (BitVec 8)} {i : Nat} (h : RefPar w0 w ys i) : RefPar w0 w.drew ys i := ⟨h.1.drew, h.2.1.drew, h.2.2.drew⟩

set_option maxRecDepth 100000 in
set_option maxHeartbeats 2000000 in
theorem refparse_calls (w : World) (ys : List (BitVec 8)) :
    Calls Tryd.prog 36 #[.string (textOf ys)] w fun e w' => e = .returned (.tuple #[.agg ((parseRes ys).1.map vu8).toArray, .int .i64 (parseRes ys).2]) ∧ Below w.heap.size w w' := by
  have hsize := textOf_size ys
  obtain ⟨N, hN⟩ : ∃ N, ys.length = N := ⟨_, rfl⟩
  rw [hN] at hsize
  have HN := Lib.hid hN
  clear hN
  have HI := Lib.hid (fun w k c => run_index_text w ys k c)
  obtain ⟨s, hs⟩ : ∃ s, textOf ys = s := ⟨_, rfl⟩
  rw [hs] at hsize ⊢
  have HS := Lib.hid hs
  clear hs
  go_enter Tryd.func36, Tryd.ntmps36
  go_upto_region 2 with (refine wpList_alloc_row (by rfl) 25 (by rfl) _ _ info_d ?_)
  have hB : Below w.heap.size w ((w.alloc (.cells (zeroNums .u8 32).toArray 25)).alloc (.cells (zeroNums .u8 32).toArray 25)) := ((Below.refl _ _).alloc (Nat.le_refl _) _).alloc (by simp) _
  have hD := Whole.new (w.alloc (.cells (zeroNums .u8 32).toArray 25)) 25 (zeroNums .u8 32).toArray
  have hR := (Whole.new w 25 (zeroNums .u8 32).toArray).alloc (.cells (zeroNums .u8 32).toArray 25)
  rw [World.size_alloc] at hD
  simp only [World.size_alloc, Act.put, List.setIfInBounds_toArray, List.set_cons_zero, List.set_cons_succ]
  generalize ((w.alloc (.cells (zeroNums .u8 32).toArray 25)).alloc (.cells (zeroNums .u8 32).toArray 25)) = w2 at *
  replace hD : Whole w2 (w.heap.size + 1) 25 (zeroNums .u8 32) := hD
  replace hR : Whole w2 w.heap.size 25 (zeroNums .u8 32) := hR
  have hfin : ∀ (wr : World) (cs : List Value), Below w.heap.size w wr → Below w.heap.size w (wr.setRow w.heap.size cs.toArray) := fun wr cs hb =>
    hb.grown (grown_row (World.grownBy.refl _ (some w.heap.size)) (.inl rfl) _) hb.size (fun k hk => by simp at hk; omega)
  have hzero : (zeroNums .u8 32) = (List.replicate 32 0#8).map vu8 := zero_bytes 32
  have HZ := Lib.hid hzero
  clear hzero
  by_cases hlen : N = 64
  · subst hlen
    have hP : RefPar w w2 ys 0 := ⟨by rw [refRow_zero, ← HZ.out]; exact hD, hR, hB⟩
    clear hD hR hB
    go_wp2
    go_loopw [5] (fun iv wr => ∃ i : Nat, i ≤ 64 ∧ iv = .int .i64 i ∧ (∀ j, j < i → (hexVal (ys.getD j 0#8)).2 = true) ∧ RefPar w wr ys i) (fun iv _ => 64 - (intOf iv).toNat)
    case atStart => exact ⟨0, by omega, rfl, fun j hj => by omega, hP⟩
    case round =>
      obtain ⟨i, hi, rfl, hok, hP⟩ := hrel
      by_cases hlt : i < 64
      · obtain ⟨c, hc⟩ : ∃ c, ys[i]? = some c := ⟨_, List.getElem?_eq_getElem (by rw [HN.out]; omega)⟩
        have g1 : ys.getD i 0#8 = c := by rw [List.getD_eq_getElem?_getD, hc]; rfl
        have x1 : ∀ w', (Instr.index 9 (.string s) (.int .i64 i)).run Tryd.prog w' = .ok (vu8 c) w' := fun w' => by rw [← HS.out]; exact HI.out w' i c hc
        obtain ⟨v, p, hv⟩ : ∃ v p, hexVal c = (v, p) := ⟨_, _, rfl⟩
        have i1 : (i : Int) < 64 := by omega
        have HV := Lib.hid hv
        have HG := Lib.hid g1
        have HOK := Lib.hid hok
        clear hv g1 hok hc
        go_upto_block 2 with (fail)
        go_cut [6, 7] (fun nv _ wc => nv = .int .i64 (foundVal v p 16) ∧ RefPar w wc ys i)
        case first =>
          go_wp2
          go_loopw [6, 7] (fun nv kv wi => ∃ k : Nat, k ≤ 16 ∧ kv = .int .i64 k ∧ nv = .int .i64 (foundVal v p k) ∧ RefPar w wi ys i) (fun _ kv _ => 16 - (intOf kv).toNat)
          case atStart => exact ⟨0, by omega, rfl, by simp [foundVal], hP⟩
          case round =>
            obtain ⟨k, hk, rfl, rfl, hPi⟩ := hrel
            clear hP
            by_cases hk16 : k < 16
            · have i2 : (k : Int) < 16 := by omega
              have s2 : IntKind.i64.wrap ((k : Int) + 1) = (k : Int) + 1 := IntWalk.i64_in _ (by omega)
              by_cases hhit : hexDig (BitVec.ofNat 8 k) = c
              · have hb : (c == hexDig (BitVec.ofNat 8 k)) = true := by rw [hhit]; simp
                have hnx := Lib.hid (foundVal_hit c k hk16 v p HV.out hhit)
                clear hhit
                go_upto_region 11 with (fail)
                go_region_held3 (fun _ => True) (trivial) (first
                  | ((go_at_call 76; refine (digit_calls _ _).mono ?_; rintro e w' ⟨rfl, rfl⟩))
                  | fail)
                all_goals
                  go_wp2
                  exact ⟨⟨k + 1, by omega, by go_num, by rw [hnx.out], hPi.drew⟩, by simp [intOf]; omega⟩
              · have hb : (c == hexDig (BitVec.ofNat 8 k)) = false := by
                  rw [beq_eq_false_iff_ne]
                  exact fun e => hhit e.symm
                have hnx := Lib.hid (foundVal_miss c k hk16 v p HV.out hhit)
                clear hhit
                go_upto_region 11 with (fail)
                go_region_held3 (fun _ => True) (trivial) (first
                  | ((go_at_call 76; refine (digit_calls _ _).mono ?_; rintro e w' ⟨rfl, rfl⟩))
                  | fail)
                all_goals
                  go_wp2
                  exact ⟨⟨k + 1, by omega, by go_num, by rw [hnx.out], hPi.drew⟩, by simp [intOf]; omega⟩
            · obtain rfl : k = 16 := by omega
              go_wp2
              go_meet
              case rel => exact ⟨rfl, hPi⟩
        case rest =>
          obtain ⟨rfl, hPc⟩ := hcut
          clear hP
          go_step
          have hv16 : v.toNat < 16 := by
            have := hexVal_lt c
            rw [HV.out] at this
            exact this
          cases p
          · have hbad := parseRes_bad (ys := ys) (fun hp => by
              have := hp.2 i (by omega)
              rw [HG.out, HV.out] at this
              cases this)
            have f0 : foundVal v false 16 = -1 := by simp [foundVal]
            have hRr := hPc.2.1
            have hBr := hPc.2.2
            go_wp2_with (first
              | (refine wpList_build_as (o := ⟨some 30, _, _, _, _, _⟩) (by rfl) _ _ (by rfl) (zeroNums .u8 32).toArray (by kernel_rfl) ?_)
              | (refine wpList_store_row (o := ⟨none, _, _, _, _, _⟩) (by rfl) 25 _ _ (by rfl) w.heap.size (zeroNums .u8 32).toArray (by rfl) (by rfl) 25 _ hRr (by rw [size_d]; simp [zeroNums]) (by simp) zero_ones ?_))
            (try simp only [Exit.inBlock, Exit.then])
            refine bodyPost_ret (results_cell_tmp rfl _ _ w.heap.size 25 _ (0, 0) _ rfl (hRr.row (zeroNums .u8 32)) Tryd.underlying25 rfl (by rw [size_d]; rfl)) rfl ⟨?_, hfin _ _ hBr⟩
            rw [hbad, ← HZ.out]
            rfl
          · have f0 : foundVal v true 16 = (v.toNat : Int) := by simp [foundVal, hv16]
            have f1 : ¬ (v.toNat : Int) < 0 := by omega
            obtain ⟨h, hh⟩ : ∃ h, i / 2 = h := ⟨_, rfl⟩
            have d0 : Int.tdiv (i : Int) 2 = (h : Int) := by rw [Int.tdiv_eq_ediv_of_nonneg (by omega)]; omega
            have d1 : IntKind.i64.wrap (h : Int) = (h : Int) := IntWalk.i64_in _ (by omega)
            have d2 : 0 ≤ (h : Int) ∧ (h : Int) < 32 := by omega
            have s2 : IntKind.i64.wrap ((i : Int) + 1) = (i : Int) + 1 := IntWalk.i64_in _ (by omega)
            obtain ⟨old, hold⟩ : ∃ old, (refRow ys i)[h]? = some old := ⟨_, List.getElem?_eq_getElem (by rw [refRow_length]; omega)⟩
            have c0 : wc.cell? ⟨w.heap.size + 1, h, none⟩ = some (vu8 old) := hPc.1.cell_of (by rw [List.getElem?_map, hold]; rfl)
            have hfree := hPc.1.free h
            have hnx := refRow_next ys i h hlt hh v old (by rw [HG.out, HV.out]) hold
            have HX := Lib.hid hnx
            have HP := Lib.hid hPc
            clear hnx hPc hold hh
            go_wp2
            refine ⟨⟨i + 1, by omega, by go_num, fun j hj => ?_, ?_, HP.out.2.1.far (by simp) _, HP.out.2.2.setCell (by simp) _⟩, by simp [intOf]; omega⟩
            · by_cases hji : j < i
              · exact HOK.out j hji
              · obtain rfl : j = i := by omega
                rw [HG.out, HV.out]
            · have hD := HP.out.1.put h (vu8 (old * 16#8 + v))
              rw [← List.map_set, HX.out] at hD
              exact hD
      · obtain rfl : i = 64 := by omega
        have hfull := parseRes_ok (ys := ys) ⟨HN.out, fun i hi => hok i (by omega)⟩
        obtain ⟨hDr, hRr, hBr⟩ := hP
        rw [refRow_all] at hDr
        go_wp2_with (first
          | (refine wpList_load_row (by rfl) 25 _ (by rfl) (w.heap.size + 1) (by rfl) 25 (((List.range 32).map (byteAt ys)).map vu8).toArray (0, 0) _ hDr Tryd.underlying25 (by rfl) (by rw [size_d]; simp) ?_)
          | (refine wpList_store_row (o := ⟨none, _, _, _, _, _⟩) (by rfl) 25 _ _ (by rfl) w.heap.size (((List.range 32).map (byteAt ys)).map vu8).toArray (by rfl) (by rfl) 25 _ hRr (by rw [size_d]; simp) (by simp [zeroNums]) (all_u8 _) ?_))
        (try simp only [Exit.inBlock, Exit.then])
        refine bodyPost_ret (results_cell_tmp rfl _ _ w.heap.size 25 _ (0, 0) _ rfl (hRr.row (((List.range 32).map (byteAt ys)).map vu8)) Tryd.underlying25 rfl (by rw [size_d]; simp)) rfl ⟨?_, hfin _ _ hBr⟩
        rw [hfull]
        rfl
  · have i1 : ¬ (N : Int) = 64 := by omega
    have hbad := parseRes_bad (ys := ys) (fun h => hlen (by rw [← HN.out]; exact h.1))
    go_wp2_with (first
      | (refine wpList_load_row (by rfl) 25 _ (by rfl) (w.heap.size + 1) (by rfl) 25 (zeroNums .u8 32).toArray (0, 0) _ hD Tryd.underlying25 (by rfl) (by rw [size_d]; rfl) ?_)
      | (refine wpList_store_row (by rfl) 25 _ _ (by rfl) w.heap.size (zeroNums .u8 32).toArray (by rfl) (by rfl) 25 _ hR (by rw [size_d]; simp [zeroNums]) (by simp) zero_ones ?_))
    (try simp only [Exit.inBlock, Exit.then])
    refine bodyPost_ret (results_cell_tmp rfl _ _ w.heap.size 25 _ (0, 0) _ rfl (hR.row (zeroNums .u8 32)) Tryd.underlying25 rfl (by rw [size_d]; rfl)) rfl ⟨?_, hfin _ _ hB⟩
    rw [hbad, ← HZ.out]
    rfl

end Go.Proofs.YtngklnijmhlikaaDoor
