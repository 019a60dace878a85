/- Codes of messages under a key: in plain words; a key's block; mac.Code. -/
import Derived.Test.YtngklnijmhlikaaDoorTexts
import Derived.Test.YtngklnijmhlikaaDoorPieces
namespace Go.Proofs.YtngklnijmhlikaaDoor
open Go.RowKit

/-- A key of at most 64 bytes. -/
def keyOf (key : List (BitVec 8)) : List (BitVec 8) := if 64 < key.length then sha key else key
theorem keyOf_le (key : List (BitVec 8)) : (keyOf key).length ≤ 64 := by
  unfold keyOf
  split
  · rw [sha_length]; omega
  · omega
/-- A key's block of 64 bytes. -/
def keyBlock (key : List (BitVec 8)) : List (BitVec 8) := keyOf key ++ List.replicate (64 - (keyOf key).length) 0#8
theorem keyBlock_length (key : List (BitVec 8)) : (keyBlock key).length = 64 := by
  have := keyOf_le key
  simp [keyBlock]
  omega
def xorAll (l : List (BitVec 8)) (c : BitVec 8) : List (BitVec 8) := l.map (· ^^^ c)
theorem xorAll_length (l : List (BitVec 8)) (c : BitVec 8) : (xorAll l c).length = l.length := by simp [xorAll]
/-- A message's code under a key. -/
def macCode (key b : List (BitVec 8)) : List (BitVec 8) := sha (xorAll (keyBlock key) 92#8 ++ sha (xorAll (keyBlock key) 54#8 ++ b))
theorem macCode_length (key b : List (BitVec 8)) : (macCode key b).length = 32 := sha_length _

/-- Bytes of which the first j were turned. -/
def xorRow (ys : List (BitVec 8)) (c : BitVec 8) (j : Nat) : List (BitVec 8) := (ys.take j).map (· ^^^ c) ++ ys.drop j
theorem xorRow_length (ys : List (BitVec 8)) (c : BitVec 8) (j : Nat) : (xorRow ys c j).length = ys.length := by
  simp [xorRow]; omega
theorem xorRow_at (ys : List (BitVec 8)) (c : BitVec 8) (j : Nat) (hj : j < ys.length) : (xorRow ys c j)[j]? = some ys[j] := by
  unfold xorRow
  rw [List.getElem?_append_right (by simp; omega)]
  simp [show min j ys.length = j from by omega, List.getElem?_eq_getElem hj]
theorem xorRow_next (ys : List (BitVec 8)) (c : BitVec 8) (j : Nat) (hj : j < ys.length) : (xorRow ys c j).set j (ys[j] ^^^ c) = xorRow ys c (j + 1) := by
  unfold xorRow
  rw [List.take_succ_eq_append_getElem hj, List.set_append_right _ _ (by simp; omega), List.map_append, List.append_assoc]
  congr 1
  rw [show j - (List.map (· ^^^ c) (ys.take j)).length = 0 from by simp; omega, List.drop_eq_getElem_cons hj]
  rfl
theorem xorRow_all (ys : List (BitVec 8)) (c : BitVec 8) (n : Nat) (hn : ys.length = n) : xorRow ys c n = xorAll ys c := by
  unfold xorRow xorAll
  rw [List.take_of_length_le (by omega), List.drop_eq_nil_of_le (by omega), List.append_nil]

theorem info_64 : (Tryd.prog.info? 33).map (fun i => (i.zero, i.size)) = some (some (.agg (zeroNums .u8 64).toArray), 64) := by kernel_rfl
theorem size_b64 : (Tryd.prog.info? 33).map (·.size) = some 64 := by kernel_rfl
theorem zero_bytes_append (l : List (BitVec 8)) (n : Nat) : splice (zeroNums .u8 n) 0 (l.map vu8) = (l ++ List.replicate (n - l.length) 0#8).map vu8 := by
  simp [splice, zeroNums, vu8]

set_option maxRecDepth 100000 in
set_option maxHeartbeats 1000000 in
theorem macblock_calls (w : World) (sl : Value) (key : List (BitVec 8)) (cv : Value) (c : BitVec 8) (hc : cv = vu8 c) (hs : SliceIs w sl key) (hK : KTab w) (hsz : key.length ≤ 1099511627776) :
    Calls Tryd.prog 74 #[sl, cv] w fun e w' => e = .returned (.agg ((xorAll (keyBlock key) c).map vu8).toArray) ∧ Below w.heap.size w w' := by
  subst hc
  have hsl := hs
  obtain ⟨sp, cp, rfl, _⟩ := hs.cells
  go_enter Tryd.func74, Tryd.ntmps74
  go_upto_region 2 with (refine wpList_alloc_row (by rfl) 33 (by rfl) _ _ info_64 ?_)
  have hBA : ∀ (wx : World) o, Below wx.heap.size wx (wx.alloc o) := fun wx o => (Below.refl _ _).alloc (Nat.le_refl _) o
  have hB : Below w.heap.size w ((w.alloc (.cells (zeroNums .u8 64).toArray 33)).alloc (.cells (zeroNums .u8 64).toArray 33)) := ((Below.refl _ _).alloc (Nat.le_refl _) _).alloc (by simp) _
  have hD := Whole.new (w.alloc (.cells (zeroNums .u8 64).toArray 33)) 33 (zeroNums .u8 64).toArray
  have hR := (Whole.new w 33 (zeroNums .u8 64).toArray).alloc (.cells (zeroNums .u8 64).toArray 33)
  have hz2 : ((w.alloc (.cells (zeroNums .u8 64).toArray 33)).alloc (.cells (zeroNums .u8 64).toArray 33)).heap.size = w.heap.size + 2 := by simp
  rw [World.size_alloc] at hD
  try simp only [World.size_alloc, Act.put, List.setIfInBounds_toArray, List.set_cons_zero, List.set_cons_succ]
  generalize ((w.alloc (.cells (zeroNums .u8 64).toArray 33)).alloc (.cells (zeroNums .u8 64).toArray 33)) = w2 at *
  replace hD : Whole w2 (w.heap.size + 1) 33 (zeroNums .u8 64) := hD
  replace hR : Whole w2 w.heap.size 33 (zeroNums .u8 64) := hR
  have hs2 := hsl.low hB
  have hK2 := hK.below hB hK.1
  have HZ2 := Lib.hid hz2
  clear hz2
  by_cases hbig : 64 < key.length
  · have b1 : (64 : Int) < (key.length : Int) := by omega
    have hko : keyOf key = sha key := if_pos hbig
    go_upto_region 5 with (first
      | (go_at_call 18; refine (digest_sum w2 key _ hs2 hK2 hsz).mono ?_; rintro e w3 ⟨rfl, hB3⟩)
      | (refine wpList_alloc_row (by rfl) 25 (by rfl) _ _ info_d ?_)
      | (refine wpList_store_new (o := ⟨none, _, _, _, _, _⟩) (by rfl) 25 _ _ (by rfl) _ ((sha key).map vu8).toArray 25 (by rfl) (by rfl) (by rw [size_d]; simp [sha_length]) (by simp [zeroNums, sha_length]) (all_u8 _) ?_)
      | fail)
    have hB34 := hB3.trans ((hBA w3 (.cells ((sha key).map vu8).toArray 25)).mono hB3.size)
    have hsv : SliceIs (w3.alloc (.cells ((sha key).map vu8).toArray 25)) (.slice (some ⟨w3.heap.size, 0, none⟩) 32 32) (keyOf key) := by
      rw [hko]
      have h := SliceIs.row w3 25 (sha key) 32
      rw [sha_length] at h
      exact h
    have hDc := hD.below hB34 hD.lt
    have hRc := hR.below hB34 hR.lt
    have hBc := hB.trans (hB34.mono hB.size)
    try simp only [Act.put, List.setIfInBounds_toArray, List.set_cons_zero, List.set_cons_succ]
    generalize (w3.alloc (.cells ((sha key).map vu8).toArray 25)) = wc at *
    generalize (Value.slice (some ⟨w3.heap.size, 0, none⟩) 32 32) = vk at *
    clear hD hR hB hs2 hK2 hB34 hB3 hko hbig b1 hsl hs
    have hkl := keyOf_le key
    obtain ⟨sp', cp', rfl, hcs⟩ := hsv.cells
    obtain ⟨i0, hi, hz0, hz1, hz2⟩ := info_u8
    have hX1 := one_u8 (keyOf key)
    have hspl := zero_bytes_append (keyOf key) 64
    have hsplK : splice (zeroNums .u8 64) 0 ((keyOf key).map vu8) = (keyBlock key).map vu8 := hspl
    obtain ⟨X, hX⟩ : ∃ X, (keyOf key).map vu8 = X := ⟨_, rfl⟩
    obtain ⟨n, hn⟩ : ∃ n, (keyOf key).length = n := ⟨_, rfl⟩
    have hXl : X.length = n := by rw [← hX, List.length_map, hn]
    rw [hX] at hX1 hcs hsplK
    rw [hn] at hcs hkl ⊢
    clear hspl hX hn hsv
    go_upto_region 6 with (refine wpList_copy_splice (o := ⟨some 16, _, _, _, _, _⟩) (by rfl) (.tmp 14) (.tmp 15) 22 22 (by rfl) 5 Tryd.underlying22 (by rw [hi]; simp [hz1]) _ _ _ _ _ _ (by rfl) (by rfl) (w.heap.size + 1) 0 (zeroNums .u8 64) 33 hDc X (by rw [hXl]; exact (Nat.min_eq_left (by omega)).symm) (fun h => ⟨rfl, hcs (by omega)⟩) (by simp [zeroNums, hXl]; omega) hX1 (w.heap.size + 1) wc (Below.refl _ _) (Nat.le_refl _) ?_; intro w3 hg3 hB3)
    have hD3 : Whole w3 (w.heap.size + 1) 33 ((keyBlock key).map vu8) := by
      have := hg3.out
      rw [hsplK] at this
      exact this
    have hR3 := hRc.below hB3 (by omega)
    have hB4 := hBc.trans (hB3.mono (by omega))
    clear hg3 hsplK hB3 hDc hRc hBc hcs hX1
    have hkb := keyBlock_length key
    obtain ⟨Y, hY⟩ : ∃ Y, keyBlock key = Y := ⟨_, rfl⟩
    rw [hY] at hD3 hkb
    have HY := Lib.hid hY
    clear hY
    go_wp2
    go_loopw [17] (fun i wr => ∃ j : Nat, j ≤ 64 ∧ i = .int .i64 j ∧ Whole wr (w.heap.size + 1) 33 ((xorRow Y c j).map vu8) ∧ Whole wr w.heap.size 33 (zeroNums .u8 64) ∧ Below w.heap.size w wr) (fun i _ => 64 - (intOf i).toNat)
    case atStart => exact ⟨0, by omega, rfl, by simpa [xorRow] using hD3, hR3, hB4⟩
    case round =>
      obtain ⟨j, hj, rfl, hDr, hRr, hBr⟩ := hrel
      clear hD3 hR3 hB4
      by_cases hlt : j < 64
      · have hjy : j < Y.length := by omega
        have i1 : (j : Int) < 64 := by omega
        have i2 : 0 ≤ (j : Int) ∧ (j : Int) < 64 := by omega
        have b2 : IntKind.i64.wrap ((j : Int) + 1) = (j : Int) + 1 := IntWalk.i64_in _ (by omega)
        have hnx := xorRow_next Y c j hjy
        have hat := xorRow_at Y c j hjy
        obtain ⟨y, hy⟩ : ∃ y, Y[j] = y := ⟨_, rfl⟩
        rw [hy] at hnx hat
        have c0 : wr.cell? ⟨w.heap.size + 1, j, none⟩ = some (vu8 y) := hDr.cell_of (by rw [List.getElem?_map, hat]; rfl)
        have hfree := hDr.free j
        have HN := Lib.hid hnx
        have HD := Lib.hid hDr
        clear hnx hDr hy hat hjy
        go_wp2
        go_roundw
        case rel =>
          have hD := HD.out.put j (vu8 (y ^^^ c))
          rw [← List.map_set, HN.out] at hD
          exact ⟨j + 1, by omega, by go_num, hD, hRr.far (by simp) _, hBr.setCell (by simp) _⟩
        case measure => simp [intOf]; omega
      · obtain rfl : j = 64 := by omega
        rw [xorRow_all Y c 64 hkb] at hDr
        have hxl : (xorAll Y c).length = 64 := by rw [xorAll_length, hkb]
        go_wp2_with (first
          | (refine wpList_load_row (by rfl) 33 _ (by rfl) (w.heap.size + 1) (by rfl) 33 ((xorAll Y c).map vu8).toArray (0, 0) _ hDr Tryd.underlying33 (by rfl) (by rw [size_b64]; simp [hxl]) ?_)
          | (refine wpList_store_row (o := ⟨none, _, _, _, _, _⟩) (by rfl) 33 _ _ (by rfl) w.heap.size ((xorAll Y c).map vu8).toArray (by rfl) (by rfl) 33 _ hRr (by rw [size_b64]; simp [hxl]) (by simp [zeroNums, hxl]) (all_u8 _) ?_))
        rw [HY.out]
        exact bodyPost_ret (results_cell_row rfl _ _ w.heap.size 33 _ (0, 0) _ rfl (hRr.row _) Tryd.underlying33 rfl (by rw [size_b64]; simp [hxl])) rfl ⟨rfl, hBr.grown (grown_row (World.grownBy.refl _ (some w.heap.size)) (.inl rfl) _) hBr.size (fun k hk => by simp at hk; omega)⟩
  · have b1 : ¬ (64 : Int) < (key.length : Int) := by omega
    have hko : keyOf key = key := if_neg hbig
    go_upto_region 5 with (fail)
    have hsv : SliceIs w2 (.slice sp key.length cp) (keyOf key) := by
      rw [hko]
      exact hs2
    have hDc := hD
    have hRc := hR
    have hBc := hB
    generalize w2 = wc at *
    clear hD hR hB hs2 hK2 hko hbig b1 hsl hs
    generalize (Value.slice sp key.length cp) = vk at *
    have hkl := keyOf_le key
    obtain ⟨sp', cp', rfl, hcs⟩ := hsv.cells
    obtain ⟨i0, hi, hz0, hz1, hz2⟩ := info_u8
    have hX1 := one_u8 (keyOf key)
    have hspl := zero_bytes_append (keyOf key) 64
    have hsplK : splice (zeroNums .u8 64) 0 ((keyOf key).map vu8) = (keyBlock key).map vu8 := hspl
    obtain ⟨X, hX⟩ : ∃ X, (keyOf key).map vu8 = X := ⟨_, rfl⟩
    obtain ⟨n, hn⟩ : ∃ n, (keyOf key).length = n := ⟨_, rfl⟩
    have hXl : X.length = n := by rw [← hX, List.length_map, hn]
    rw [hX] at hX1 hcs hsplK
    rw [hn] at hcs hkl ⊢
    clear hspl hX hn hsv
    go_upto_region 6 with (refine wpList_copy_splice (o := ⟨some 16, _, _, _, _, _⟩) (by rfl) (.tmp 14) (.tmp 15) 22 22 (by rfl) 5 Tryd.underlying22 (by rw [hi]; simp [hz1]) _ _ _ _ _ _ (by rfl) (by rfl) (w.heap.size + 1) 0 (zeroNums .u8 64) 33 hDc X (by rw [hXl]; exact (Nat.min_eq_left (by omega)).symm) (fun h => ⟨rfl, hcs (by omega)⟩) (by simp [zeroNums, hXl]; omega) hX1 (w.heap.size + 1) wc (Below.refl _ _) (Nat.le_refl _) ?_; intro w3 hg3 hB3)
    have hD3 : Whole w3 (w.heap.size + 1) 33 ((keyBlock key).map vu8) := by
      have := hg3.out
      rw [hsplK] at this
      exact this
    have hR3 := hRc.below hB3 (by omega)
    have hB4 := hBc.trans (hB3.mono (by omega))
    clear hg3 hsplK hB3 hDc hRc hBc hcs hX1
    have hkb := keyBlock_length key
    obtain ⟨Y, hY⟩ : ∃ Y, keyBlock key = Y := ⟨_, rfl⟩
    rw [hY] at hD3 hkb
    have HY := Lib.hid hY
    clear hY
    go_wp2
    go_loopw [17] (fun i wr => ∃ j : Nat, j ≤ 64 ∧ i = .int .i64 j ∧ Whole wr (w.heap.size + 1) 33 ((xorRow Y c j).map vu8) ∧ Whole wr w.heap.size 33 (zeroNums .u8 64) ∧ Below w.heap.size w wr) (fun i _ => 64 - (intOf i).toNat)
    case atStart => exact ⟨0, by omega, rfl, by simpa [xorRow] using hD3, hR3, hB4⟩
    case round =>
      obtain ⟨j, hj, rfl, hDr, hRr, hBr⟩ := hrel
      clear hD3 hR3 hB4
      by_cases hlt : j < 64
      · have hjy : j < Y.length := by omega
        have i1 : (j : Int) < 64 := by omega
        have i2 : 0 ≤ (j : Int) ∧ (j : Int) < 64 := by omega
        have b2 : IntKind.i64.wrap ((j : Int) + 1) = (j : Int) + 1 := IntWalk.i64_in _ (by omega)
        have hnx := xorRow_next Y c j hjy
        have hat := xorRow_at Y c j hjy
        obtain ⟨y, hy⟩ : ∃ y, Y[j] = y := ⟨_, rfl⟩
        rw [hy] at hnx hat
        have c0 : wr.cell? ⟨w.heap.size + 1, j, none⟩ = some (vu8 y) := hDr.cell_of (by rw [List.getElem?_map, hat]; rfl)
        have hfree := hDr.free j
        have HN := Lib.hid hnx
        have HD := Lib.hid hDr
        clear hnx hDr hy hat hjy
        go_wp2
        go_roundw
        case rel =>
          have hD := HD.out.put j (vu8 (y ^^^ c))
          rw [← List.map_set, HN.out] at hD
          exact ⟨j + 1, by omega, by go_num, hD, hRr.far (by simp) _, hBr.setCell (by simp) _⟩
        case measure => simp [intOf]; omega
      · obtain rfl : j = 64 := by omega
        rw [xorRow_all Y c 64 hkb] at hDr
        have hxl : (xorAll Y c).length = 64 := by rw [xorAll_length, hkb]
        go_wp2_with (first
          | (refine wpList_load_row (by rfl) 33 _ (by rfl) (w.heap.size + 1) (by rfl) 33 ((xorAll Y c).map vu8).toArray (0, 0) _ hDr Tryd.underlying33 (by rfl) (by rw [size_b64]; simp [hxl]) ?_)
          | (refine wpList_store_row (o := ⟨none, _, _, _, _, _⟩) (by rfl) 33 _ _ (by rfl) w.heap.size ((xorAll Y c).map vu8).toArray (by rfl) (by rfl) 33 _ hRr (by rw [size_b64]; simp [hxl]) (by simp [zeroNums, hxl]) (all_u8 _) ?_))
        rw [HY.out]
        exact bodyPost_ret (results_cell_row rfl _ _ w.heap.size 33 _ (0, 0) _ rfl (hRr.row _) Tryd.underlying33 rfl (by rw [size_b64]; simp [hxl])) rfl ⟨rfl, hBr.grown (grown_row (World.grownBy.refl _ (some w.heap.size)) (.inl rfl) _) hBr.size (fun k hk => by simp at hk; omega)⟩

end Go.Proofs.YtngklnijmhlikaaDoor
