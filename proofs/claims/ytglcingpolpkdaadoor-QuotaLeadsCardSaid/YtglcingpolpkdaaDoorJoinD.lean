/- Digests of parts: both Joins; lists of bytes that are lent and kept. -/
import Derived.Test.YtglcingpolpkdaaDoorPart
namespace Go.Proofs.YtglcingpolpkdaaDoor
open Go.RowKit

/-- The parts of a digest as one list of bytes: each with its length ahead. -/
def joinBytes (ls : List (List (BitVec 8))) : List (BitVec 8) := ls.flatMap fun (bs : List (BitVec 8)) => eightBytes (BitVec.ofNat 64 bs.length) ++ bs
theorem joinBytes_snoc (ls : List (List (BitVec 8))) (bs : List (BitVec 8)) : joinBytes (ls ++ [bs]) = joinBytes ls ++ eightBytes (BitVec.ofNat 64 bs.length) ++ bs := by simp [joinBytes]
theorem joinBytes_next (ls : List (List (BitVec 8))) (k : Nat) (bs : List (BitVec 8)) (hk : ls[k]? = some bs) : joinBytes (ls.take (k + 1)) = joinBytes (ls.take k) ++ eightBytes (BitVec.ofNat 64 bs.length) ++ bs := by
  have h1 : k < ls.length := (List.getElem?_eq_some_iff.1 hk).1
  have hv : ls[k] = bs := (List.getElem?_eq_some_iff.1 hk).2
  rw [List.take_succ_eq_append_getElem h1, joinBytes_snoc, hv]
theorem joinBytes_append (a b : List (List (BitVec 8))) : joinBytes (a ++ b) = joinBytes a ++ joinBytes b := by simp [joinBytes]
theorem joinBytes_take_le (ls : List (List (BitVec 8))) (k : Nat) : (joinBytes (ls.take k)).length ≤ (joinBytes ls).length := by
  have h := joinBytes_append (ls.take k) (ls.drop k)
  rw [List.take_append_drop] at h
  rw [h]
  simp
theorem joinBytes_ge : ∀ ls : List (List (BitVec 8)), ls.length ≤ (joinBytes ls).length
  | [] => Nat.le_refl _
  | bs :: ls => by
    have := joinBytes_ge ls
    rw [show bs :: ls = [bs] ++ ls from rfl, joinBytes_append]
    simp [joinBytes, eightBytes_length] at this ⊢
    omega

/-- Lists of bytes that lie in a row. -/
def ListsAt (w : World) (sl : Value) (ls : List (List (BitVec 8))) : Prop :=
  ∃ ao c, sl = .slice ao ls.length c ∧ (ls ≠ [] → ∃ b o, ao = some ⟨b, o, none⟩ ∧ b < w.heap.size ∧ ∀ i bs, ls[i]? = some bs → ∃ v, w.cell? ⟨b, o + i, none⟩ = some v ∧ SliceIs w v bs)
theorem ListsAt.low {w w' : World} {sl : Value} {ls : List (List (BitVec 8))} (h : ListsAt w sl ls) (hb : Below w.heap.size w w') : ListsAt w' sl ls := by
  obtain ⟨ao, c, rfl, hl⟩ := h
  refine ⟨ao, c, rfl, fun hne => ?_⟩
  obtain ⟨b, o, rfl, hlt, hc⟩ := hl hne
  refine ⟨b, o, rfl, Nat.lt_of_lt_of_le hlt hb.size, fun i bs hi => ?_⟩
  obtain ⟨v, hv, hs⟩ := hc i bs hi
  exact ⟨v, (hb.cell (p := ⟨b, o + i, none⟩) hlt).trans hv, hs.low hb⟩

theorem eight_cells (n : BitVec 64) : ((eightBytes n).map vu8).toArray = #[vu8 ((n >>> 56).setWidth 8), vu8 ((n >>> 48).setWidth 8), vu8 ((n >>> 40).setWidth 8), vu8 ((n >>> 32).setWidth 8), vu8 ((n >>> 24).setWidth 8), vu8 ((n >>> 16).setWidth 8), vu8 ((n >>> 8).setWidth 8), vu8 (n.setWidth 8)] := by
  have : n >>> 0 = n := by simp
  conv => rhs; rw [← this]
  rfl

theorem eight_slice (w : World) (n : Nat) : SliceIs (w.alloc (.cells #[vu8 ((BitVec.ofNat 64 n >>> 56).setWidth 8), vu8 ((BitVec.ofNat 64 n >>> 48).setWidth 8), vu8 ((BitVec.ofNat 64 n >>> 40).setWidth 8), vu8 ((BitVec.ofNat 64 n >>> 32).setWidth 8), vu8 ((BitVec.ofNat 64 n >>> 24).setWidth 8), vu8 ((BitVec.ofNat 64 n >>> 16).setWidth 8), vu8 ((BitVec.ofNat 64 n >>> 8).setWidth 8), vu8 (BitVec.ofNat 8 n)] 5))
    (.slice (some ⟨w.heap.size, 0, none⟩) 8 8) (eightBytes (BitVec.ofNat 64 n)) := by
  have h := SliceIs.row w 5 (eightBytes (BitVec.ofNat 64 n)) 8
  rw [eight_cells, eightBytes_length] at h
  have e : (BitVec.ofNat 64 n).setWidth 8 = BitVec.ofNat 8 n := by
    apply BitVec.eq_of_toNat_eq
    simp
  rw [e] at h
  exact h

set_option maxRecDepth 100000 in
set_option maxHeartbeats 1000000 in
theorem join_calls (w : World) (sl : Value) (ls : List (List (BitVec 8))) (hs : ListsAt w sl ls) (hK : KTab w) (hsz : (joinBytes ls).length ≤ 1099511627776) :
    Calls Tryd.prog 29 #[sl] w fun e w' => e = .returned (.agg ((sha (joinBytes ls)).map vu8).toArray) ∧ Below w.heap.size w w' := by
  obtain ⟨ao, cp, rfl, hl⟩ := hs
  obtain ⟨N, hN⟩ : ∃ N, ls.length = N := ⟨_, rfl⟩
  rw [hN]
  have hNb : N ≤ 1099511627776 := by
    have := joinBytes_ge ls
    omega
  have HN := Lib.hid hN
  have HL := Lib.hid hl
  clear hN hl
  go_enter Tryd.func29, Tryd.ntmps29
  go_upto_region 1 with (refine wpList_alloc_row (by rfl) 24 (by rfl) _ _ info_d ?_)
  have hr := Whole.new w 24 (zeroNums .u8 32).toArray
  have hB : Below w.heap.size w (w.alloc (.cells (zeroNums .u8 32).toArray 24)) := (Below.refl _ _).alloc (Nat.le_refl _) _
  have hz1 : (w.alloc (.cells (zeroNums .u8 32).toArray 24)).heap.size = w.heap.size + 1 := by simp
  generalize (w.alloc (.cells (zeroNums .u8 32).toArray 24)) = w1 at *
  go_upto_region 2 with (go_at_call 37; refine (new_hash w1).mono ?_; rintro e w2 ⟨h, rfl, hh1, hh2, hh3⟩)
  have hr2 := hr.below hh3 (by omega)
  have hB2 : Below w.heap.size w w2 := hB.trans (hh3.mono hB.size)
  rw [hz1] at hh1
  clear hh3 hz1 hr hB
  go_wp2
  go_loopw [10] (fun i wr => ∃ k : Nat, k ≤ N ∧ i = .int .i64 k ∧ HashIs wr h (joinBytes (ls.take k)) ∧ Whole wr w.heap.size 24 (zeroNums .u8 32) ∧ Below w.heap.size w wr) (fun i _ => N - (intOf i).toNat)
  case atStart => exact ⟨0, by omega, rfl, by simpa [joinBytes] using hh2, hr2, hB2⟩
  case round =>
    obtain ⟨k, hk, rfl, hH, hR, hBr⟩ := hrel
    by_cases hlt : k < N
    · obtain ⟨bs, hbs⟩ : ∃ bs, ls[k]? = some bs := ⟨_, List.getElem?_eq_getElem (by rw [HN.out]; exact hlt)⟩
      obtain ⟨ab, ao', rfl, hab, hcell⟩ := HL.out (by rintro rfl; simp at hbs)
      obtain ⟨v, hv, hsv⟩ := hcell k bs hbs
      obtain ⟨vp, vc, rfl, _⟩ := hsv.cells
      have cV : wr.cell? ⟨ab, ao' + k, none⟩ = some (.slice vp bs.length vc) := (hBr.cell (p := ⟨ab, ao' + k, none⟩) hab).trans hv
      have i1 : (k : Int) < (N : Int) := by omega
      have i2 : 0 ≤ (k : Int) ∧ (k : Int) < (N : Int) := by omega
      have b2 : IntKind.i64.wrap ((k : Int) + 1) = (k : Int) + 1 := IntWalk.i64_in _ (by omega)
      have hnx := joinBytes_next ls k bs hbs
      have hle := joinBytes_take_le ls (k + 1)
      rw [hnx] at hle
      simp [eightBytes_length] at hle
      have HX := Lib.hid hnx
      have hsr := hsv.low hBr
      have hlh := hH.lt
      have hKr := hK.below hBr hK.1
      have h0 : h ≠ 0 := by have := hK.1; omega
      have hvb := hsv.lt
      clear hnx hcell HL
      have hBA : ∀ o, Below wr.heap.size wr (wr.alloc o) := fun o => (Below.refl _ _).alloc (Nat.le_refl _) o
      go_upto_region 7 with (go_at_call 38; refine (write_slice _ h (joinBytes (ls.take k)) (eightBytes (BitVec.ofNat 64 bs.length)) _ (hH.low (hBA _)) (hKr.below (hBA _) hKr.1) h0 (by simp [eightBytes_length]; omega) (eight_slice wr bs.length) (by intro b o c e _; cases e; omega)).mono ?_; rintro e w3 ⟨rfl, hh3, hG3⟩)
      have hs3 : SliceIs w3 (.slice vp bs.length vc) bs := (hsr.low (hBA _)).grown hG3 (fun b o c e hne eb => by have := hvb b o c e hne; cases eb; omega)
      have hK3 : KTab w3 := (hKr.below (hBA _) hKr.1).grown hG3 (fun e => by cases e; omega)
      have hG4 := grown_trans (below_grown (hBA _) _) hG3
      clear hG3
      go_wp2_with (go_at_call 38; refine (write_slice w3 h _ bs _ hh3 hK3 h0 (by simp [eightBytes_length]; omega) hs3 (by intro b o c e hne; have := hvb b o c e hne; omega)).mono ?_; rintro e w5 ⟨rfl, hh5, hG5⟩)
      go_roundw
      case rel =>
        rw [← HX.out] at hh5
        have hG := grown_trans hG4 hG5
        exact ⟨k + 1, by omega, by go_num, hh5, hR.grown hG (fun e => by cases e; omega), hBr.grown hG hBr.size (fun j e => by cases e; omega)⟩
      case measure => simp [intOf]; omega
    · obtain rfl : k = N := by omega
      have hfull : ls.take k = ls := List.take_of_length_le (by rw [HN.out]; omega)
      rw [hfull] at hH
      have hKr := hK.below hBr hK.1
      have hlen : ((sha (joinBytes ls)).map vu8).length = 32 := by simp [sha_length]
      go_wp2_with (first
        | (go_at_call 39; refine (sum_hash wr h _ hH hKr hsz).mono ?_; rintro e w4 ⟨rfl, hB4⟩; have hr4 := hR.below hB4 hR.lt)
        | (refine wpList_store_row (by rfl) 24 _ _ (by rfl) w.heap.size ((sha (joinBytes ls)).map vu8).toArray (by rfl) (by rfl) 24 _ hr4 (by rw [size_d]; simp [sha_length]) (by simp [zeroNums, sha_length]) (all_u8 _) ?_))
      refine bodyPost_ret (results_cell_row rfl _ _ w.heap.size 24 _ (0, 0) _ rfl (hr4.row _) Tryd.underlying24 rfl (by rw [size_d]; simp [sha_length])) rfl ⟨rfl, ?_⟩
      have hB5 := hBr.trans (hB4.mono hBr.size)
      exact hB5.grown (grown_row (World.grownBy.refl _ (some w.heap.size)) (.inl rfl) _) hB5.size (fun k hk => by simp at hk; omega)

set_option maxRecDepth 100000 in
set_option maxHeartbeats 1000000 in
theorem refjoin_calls (w : World) (sl : Value) (ls : List (List (BitVec 8))) (hs : ListsAt w sl ls) (hsz : (joinBytes ls).length ≤ 549755813888) :
    Calls Tryd.prog 31 #[sl] w fun e w' => e = .returned (.agg ((sha (joinBytes ls)).map vu8).toArray) ∧ Below w.heap.size w w' := by
  obtain ⟨ao, cp, rfl, hl⟩ := hs
  obtain ⟨N, hN⟩ : ∃ N, ls.length = N := ⟨_, rfl⟩
  rw [hN]
  have hNb : N ≤ 1099511627776 := by
    have := joinBytes_ge ls
    omega
  have HN := Lib.hid hN
  have HL := Lib.hid hl
  clear hN hl
  go_enter Tryd.func31, Tryd.ntmps31
  go_upto_region 1 with (refine wpList_alloc_row (by rfl) 24 (by rfl) _ _ info_d ?_)
  have hr := Whole.new w 24 (zeroNums .u8 32).toArray
  have hB : Below w.heap.size w (w.alloc (.cells (zeroNums .u8 32).toArray 24)) := (Below.refl _ _).alloc (Nat.le_refl _) _
  have hz1 : w.heap.size + 1 ≤ (w.alloc (.cells (zeroNums .u8 32).toArray 24)).heap.size := by simp
  generalize (w.alloc (.cells (zeroNums .u8 32).toArray 24)) = w1 at *
  go_wp2
  go_loopw [3, 4] (fun v i wr => ∃ k : Nat, k ≤ N ∧ i = .int .i64 k ∧ Own wr (w.heap.size + 1) v (joinBytes (ls.take k)) ∧ Whole wr w.heap.size 24 (zeroNums .u8 32) ∧ Below w.heap.size w wr) (fun _ i _ => N - (intOf i).toNat)
  case atStart => exact ⟨0, by omega, rfl, by simpa [joinBytes] using Own.nil _ _, hr, hB⟩
  case round =>
    obtain ⟨k, hk, rfl, hO, hR, hBr⟩ := hrel
    by_cases hlt : k < N
    · obtain ⟨bs, hbs⟩ : ∃ bs, ls[k]? = some bs := ⟨_, List.getElem?_eq_getElem (by rw [HN.out]; exact hlt)⟩
      obtain ⟨ab, ao', rfl, hab, hcell⟩ := HL.out (by rintro rfl; simp at hbs)
      obtain ⟨v, hv, hsv⟩ := hcell k bs hbs
      obtain ⟨vp, vc, rfl, _⟩ := hsv.cells
      have cV : wr.cell? ⟨ab, ao' + k, none⟩ = some (.slice vp bs.length vc) := (hBr.cell (p := ⟨ab, ao' + k, none⟩) hab).trans hv
      have i1 : (k : Int) < (N : Int) := by omega
      have i2 : 0 ≤ (k : Int) ∧ (k : Int) < (N : Int) := by omega
      have b2 : IntKind.i64.wrap ((k : Int) + 1) = (k : Int) + 1 := IntWalk.i64_in _ (by omega)
      have hnx := joinBytes_next ls k bs hbs
      have hle := joinBytes_take_le ls (k + 1)
      rw [hnx] at hle
      simp [eightBytes_length] at hle
      have HX := Lib.hid hnx
      have hsr := hsv.low hBr
      have hlr := hR.lt
      have habr := hBr.size
      clear hnx hcell HL
      go_upto_region 6 with (first
        | (go_at_call 41; refine (eight_calls _ _).mono ?_; rintro e w5 ⟨v5, rfl, hE5, hB5⟩)
        | (at_builtin; refine wpList_append_bytes (by rfl) (.tmp 11) (.tmp 18) (by rfl) (w.heap.size + 1) _ _ (by rfl) (hO.low hB5) _ _ (by rfl) hE5.slice (by simp [eightBytes_length]; omega) (by have := hB5.size; omega) ?_; intro v6 w6 hO6 hG6))
      have hG06 := grown_trans (below_grown hB5 u3.ownBlock) hG6
      have hBr6 := hBr.grown hG06 hBr.size (fun j hj => by have := hO.high j hj; omega)
      have cV6 : w6.cell? ⟨ab, ao' + k, none⟩ = some (.slice vp bs.length vc) := (hBr6.cell (p := ⟨ab, ao' + k, none⟩) hab).trans hv
      have hR6 := hR.grown hG06 (fun e => by have := hO.high _ e.symm; omega)
      have hlr6 := hR6.lt
      clear cV
      go_wp2_with (at_builtin; refine wpList_append_bytes (by rfl) (.tmp 20) (.tmp 24) (by rfl) (w.heap.size + 1) _ _ (by rfl) hO6 _ bs (by rfl) (hsv.low hBr6) (by simp [eightBytes_length]; omega) (by omega) ?_; intro v7 w7 hO7 hG7)
      go_roundw
      case rel =>
        rw [← HX.out] at hO7
        exact ⟨k + 1, by omega, by go_num, hO7, hR6.grown hG7 (fun e => by have := hO6.high _ e.symm; omega), hBr6.grown hG7 hBr6.size (fun j hj => by have := hO6.high j hj; omega)⟩
      case measure => simp [intOf]; omega
    · obtain rfl : k = N := by omega
      have hfull : ls.take k = ls := List.take_of_length_le (by rw [HN.out]; omega)
      rw [hfull] at hO
      have hlen : ((sha (joinBytes ls)).map vu8).length = 32 := by simp [sha_length]
      go_wp2_with (first
        | (go_at_call 42; refine (refsum_calls wr _ _ hO.slice hsz).mono ?_; rintro e w4 ⟨rfl, hB4⟩; have hr4 := hR.below hB4 hR.lt)
        | (refine wpList_store_row (by rfl) 24 _ _ (by rfl) w.heap.size ((sha (joinBytes ls)).map vu8).toArray (by rfl) (by rfl) 24 _ hr4 (by rw [size_d]; simp [sha_length]) (by simp [zeroNums, sha_length]) (all_u8 _) ?_))
      refine bodyPost_ret (results_cell_row rfl _ _ w.heap.size 24 _ (0, 0) _ rfl (hr4.row _) Tryd.underlying24 rfl (by rw [size_d]; simp [sha_length])) rfl ⟨rfl, ?_⟩
      have hB5 := hBr.trans (hB4.mono hBr.size)
      exact hB5.grown (grown_row (World.grownBy.refl _ (some w.heap.size)) (.inl rfl) _) hB5.size (fun k hk => by simp at hk; omega)

end Go.Proofs.YtglcingpolpkdaaDoor
