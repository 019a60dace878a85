/- mac.Expand and mac.Derive. -/
import Derived.Test.YtngklnijmhlikaaDoorCodesWalk
import Derived.Test.YtngklnijmhlikaaDoorPiecesWalk
namespace Go.Proofs.YtngklnijmhlikaaDoor
open Go.RowKit

/-- The k-th piece of what a key is expanded to; all pieces up to the k-th. -/
def pieceOf (key info : List (BitVec 8)) : Nat → List (BitVec 8)
  | 0 => []
  | k + 1 => macCode key (pieceOf key info k ++ info ++ [BitVec.ofNat 8 (k + 1)])
def piecesTo (key info : List (BitVec 8)) : Nat → List (BitVec 8)
  | 0 => []
  | k + 1 => piecesTo key info k ++ pieceOf key info (k + 1)
theorem pieceOf_length (key info : List (BitVec 8)) (k : Nat) : (pieceOf key info (k + 1)).length = 32 := macCode_length _ _
theorem piecesTo_length (key info : List (BitVec 8)) : ∀ k, (piecesTo key info k).length = 32 * k
  | 0 => rfl
  | k + 1 => by
    simp only [piecesTo, List.length_append, piecesTo_length key info k, pieceOf_length]
    omega
/-- What a key is expanded to. -/
def expandOf (key info : List (BitVec 8)) (n : Nat) : List (BitVec 8) := (piecesTo key info ((n + 31) / 32)).take n
theorem expandOf_length (key info : List (BitVec 8)) (n : Nat) : (expandOf key info n).length = n := by
  simp [expandOf, piecesTo_length]
  omega

theorem Own.rest {w : World} {B : Nat} {v : Value} {xs : List (BitVec 8)} (h : Own w B v xs) : RestIs w v xs := by
  rcases h.shape with ⟨rfl, rfl⟩ | ⟨g, cap, rfl, hB, hg, hb, hc, hm⟩
  · exact ⟨none, 0, rfl, Nat.le_refl _, Nat.zero_le _, fun _ => rfl, fun h => by simp at h⟩
  · exact ⟨_, cap, rfl, hc, by simpa [maxLen] using hm, fun e => by (cases e), fun _ => ⟨g, 0, rfl, hg, hb⟩⟩
theorem Own.other {w : World} {B D : Nat} {v : Value} {xs : List (BitVec 8)} {l : List Value} (h : Own w B v xs) (hD : Whole w D 25 l) : v.ownBlock ≠ some D := by
  intro e
  rcases h.2 with ⟨rfl, _⟩ | ⟨g', cap, cur, rfl, _, hg, _⟩
  · cases e
  · have : g' = D := by simpa [Value.ownBlock] using e
    subst this
    unfold Whole at hD
    rw [hD] at hg
    injection hg with hg
    injection hg with _ ht _
    exact absurd ht (by decide)

/-- The last piece: none yet, or in a block of its own. -/
def LastIs (w : World) (B : Nat) (v : Value) (l : List (BitVec 8)) : Prop :=
  (v = .slice none 0 0 ∧ l = []) ∨ ∃ D, v = .slice (some ⟨D, 0, none⟩) 32 32 ∧ B ≤ D ∧ Whole w D 25 (l.map vu8) ∧ l.length = 32
theorem LastIs.slice {w : World} {B : Nat} {v : Value} {l : List (BitVec 8)} (h : LastIs w B v l) : SliceIs w v l := by
  rcases h with ⟨rfl, rfl⟩ | ⟨D, rfl, _, hW, hl⟩
  · exact .inl ⟨rfl, .inl rfl⟩
  · exact SliceIs.whole hW hl
theorem LastIs.length {w : World} {B : Nat} {v : Value} {l : List (BitVec 8)} (h : LastIs w B v l) : l.length ≤ 32 := by
  rcases h with ⟨_, rfl⟩ | ⟨D, _, _, _, hl⟩
  · simp
  · omega

set_option maxRecDepth 100000 in
set_option maxHeartbeats 2000000 in
theorem expand_calls (w : World) (sk si : Value) (key info : List (BitVec 8)) (n : Nat) (hk : SliceIs w sk key) (hi : SliceIs w si info) (hK : KTab w) (hszk : key.length ≤ 1099511627776) (hszi : info.length ≤ 100000000000) (hn : n ≤ 8160) :
    Calls Tryd.prog 41 #[sk, si, .int .i64 n] w fun e w' => ∃ v, e = .returned (.tuple #[v, .int .i64 0]) ∧ Own w' w.heap.size v (expandOf key info n) ∧ Below w.heap.size w w' := by
  obtain ⟨N, hN⟩ : ∃ N, (n + 31) / 32 = N := ⟨_, rfl⟩
  have hexp : (piecesTo key info N).take n = expandOf key info n := by rw [← hN]; rfl
  have HE := Lib.hid hexp
  have HN := Lib.hid hN
  have i0 : ¬ (n : Int) < 0 := by omega
  have i1 : ¬ (8160 : Int) < (n : Int) := by omega
  have hBA : ∀ (wx : World) o, Below wx.heap.size wx (wx.alloc o) := fun wx o => (Below.refl _ _).alloc (Nat.le_refl _) o
  clear hexp hN
  go_enter Tryd.func41, Tryd.ntmps41
  go_wp2
  go_loopw [8, 9, 10] (fun ov lv iv wr => ∃ k : Nat, k ≤ N ∧ iv = vu8 (BitVec.ofNat 8 (k + 1)) ∧ Own wr w.heap.size ov (piecesTo key info k) ∧ LastIs wr w.heap.size lv (pieceOf key info k) ∧ Below w.heap.size w wr) (fun ov _ _ _ => n - lenOf ov)
  case atStart => exact ⟨0, by omega, rfl, Own.nil _ _, .inl ⟨rfl, rfl⟩, Below.refl _ _⟩
  case round =>
    obtain ⟨k, hkN, rfl, hO, hL, hBr⟩ := hrel
    have hpl := piecesTo_length key info k
    obtain ⟨op, oc, ho, _⟩ := hO.slice.cells
    subst ho
    obtain ⟨L, hLk⟩ : ∃ L, 32 * k = L := ⟨_, rfl⟩
    rw [hpl, hLk] at hO ⊢
    rw [hLk] at hpl
    have HLK := Lib.hid hLk
    by_cases hlt : L < n
    · have i2 : (L : Int) < (n : Int) := by omega
      have hki := hk.low hBr
      have hii := hi.low hBr
      have hKr := hK.below hBr hK.1
      have hll := hL.length
      have hsr := hBr.size
      have HO := Lib.hid hO
      have HL := Lib.hid hL
      clear hLk hL
      go_upto_region 8 with (first
        | (at_builtin; refine wpList_append_one (by rfl) (.tmp 28) (.tmp 30) (by rfl) wr.heap.size v2 (pieceOf key info k ++ info) (by rfl) hO2 _ (BitVec.ofNat 8 (k + 1)) (by rfl) (by rfl) (by simp; omega) (by omega) ?_; intro v3 w3 hO3 hG3)
        | (at_builtin; refine wpList_append_bytes (by rfl) (.tmp 26) (.tmp 27) (by rfl) wr.heap.size v1 (pieceOf key info k) (by rfl) hO1 _ info (by rfl) (hi1) (by omega) hz1 ?_; intro v2 w2 hO2 hG2
           have hz2 := Nat.le_trans hz1 hG2.size)
        | (at_builtin; refine wpList_append_bytes (by rfl) (.const (.slice none 0 0)) (.tmp 25) (by rfl) wr.heap.size (.slice none 0 0) [] (by rfl) (Own.nil _ _) _ (pieceOf key info k) (by rfl) HL.out.slice (by simp; omega) (Nat.le_refl _) ?_; intro v1 w1 hO1 hG1
           have hz1 : wr.heap.size ≤ w1.heap.size := hG1.size
           rw [List.nil_append] at hO1
           have hB1 : Below wr.heap.size wr w1 := grown_below hG1
           have hi1 := hii.low hB1)
        | fail)
      have hB03 : Below wr.heap.size wr w3 := ((hB1.grown hG2 hz1 hO1.high).grown hG3 hz2 hO2.high)
      have hz3 := hB03.size
      obtain ⟨P, hP⟩ : ∃ P, pieceOf key info (k + 1) = P := ⟨_, rfl⟩
      have lP : P.length = 32 := by rw [← hP]; exact pieceOf_length key info k
      have hcode : macCode key (pieceOf key info k ++ info ++ [BitVec.ofNat 8 (k + 1)]) = P := hP
      have hnx : piecesTo key info (k + 1) = piecesTo key info k ++ P := by rw [← hP]; rfl
      have CC := Lib.hid (hcode ▸ code_calls w3 sk v3 key _ (hki.low hB03) hO3.slice (hKr.below hB03 hKr.1) hszk (by simp; omega))
      have hOk3 := HO.out.low hB03
      have HNX := Lib.hid hnx
      have HP := Lib.hid hP
      have hB3w := hBr.trans (hB03.mono hBr.size)
      clear hnx hcode hP hO1 hO2 hG1 hG2 hG3 hB1 hi1 hO3 hB03 hz1 hz2
      go_upto_region 10 with (first
        | (go_at_call 28; refine CC.out.mono ?_; rintro e w4 ⟨rfl, hB4⟩)
        | (refine wpList_alloc_row (by rfl) 25 (by rfl) _ _ info_d ?_)
        | (refine wpList_store_new (o := ⟨none, _, _, _, _, _⟩) (by rfl) 25 _ _ (by rfl) _ (P.map vu8).toArray 25 (by rfl) (by rfl) (by rw [size_d]; simp [lP]) (by simp [zeroNums, lP]) (all_u8 _) ?_)
        | fail)
      have hB35 := hB4.trans ((hBA w4 (.cells (P.map vu8).toArray 25)).mono hB4.size)
      have hD5 := Whole.new w4 25 (P.map vu8).toArray
      have hO5 := hOk3.low hB35
      have hB5w := hB3w.trans (hB35.mono hB3w.size)
      have zD : w.heap.size ≤ w4.heap.size := Nat.le_trans hB3w.size hB4.size
      try simp only [Act.put, List.setIfInBounds_toArray, List.set_cons_zero, List.set_cons_succ]
      generalize (w4.alloc (.cells (P.map vu8).toArray 25)) = w5 at *
      generalize w4.heap.size = D at *
      replace hD5 : Whole w5 D 25 (P.map vu8) := hD5
      clear hB35 hB4 hOk3 hB3w
      go_wp2_with (first
        | (at_builtin; refine wpList_append_bytes (by rfl) (.tmp 36) (.tmp 37) (by rfl) w.heap.size _ (piecesTo key info k) (by rfl) hO5 _ P (by rfl) (SliceIs.whole hD5 lP) (by omega) hB5w.size ?_; intro v6 w6 hO6 hG6)
        | fail)
      have hlk := HLK.out
      have hNo := HN.out
      rw [← HNX.out] at hO6
      refine ⟨⟨k + 1, by omega, ?_, hO6, .inr ⟨D, rfl, zD, ?_, ?_⟩, hB5w.grown hG6 hB5w.size hO5.high⟩, ?_⟩
      · apply congrArg vu8
        apply BitVec.eq_of_toNat_eq
        simp
      · rw [HP.out]
        exact hD5.grown hG6 (Ne.symm (hO5.other hD5))
      · rw [HP.out]
        exact lP
      · obtain ⟨sp2, cp2, hv2, _⟩ := hO6.slice.cells
        subst hv2
        have := piecesTo_length key info (k + 1)
        simp only [lenOf, this]
        omega
    · have i2 : ¬ (L : Int) < (n : Int) := by omega
      have hNo := HN.out
      have hkN2 : k = N := by omega
      subst hkN2
      have hle : n ≤ L := by omega
      obtain ⟨ad1, c1, ad2, c2, x1, x2, R1, R2⟩ := rest_cut hpl hO.rest hle
      rw [HE.out] at R1
      have hsr := hBr.size
      have hel := expandOf_length key info n
      clear x2 R2
      go_wp2_with (first
        | (at_builtin; refine wpList_append_bytes (by rfl) (.const (.slice none 0 0)) (.tmp 41) (by rfl) w.heap.size (.slice none 0 0) [] (by rfl) (Own.nil _ _) _ (expandOf key info n) (by rfl) R1.slice (by simp; omega) hsr ?_; intro v6 w6 hO6 hG6)
        | fail)
      go_ret2
      rw [List.nil_append] at hO6
      exact ⟨_, rfl, hO6, hBr.trans ((grown_below hG6).mono hsr)⟩

end Go.Proofs.YtngklnijmhlikaaDoor
