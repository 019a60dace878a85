/- mac.Derive; the examples of MacKnown, reckoned. -/
import Derived.Test.YtngklnijmhlikaaDoorExpand
namespace Go.Proofs.YtngklnijmhlikaaDoor
open Go.RowKit

def fromAt (c s : BitVec 8) : Nat → BitVec 8
  | 0 => c
  | k + 1 => fromAt c s k + s
def fromOf (c s : BitVec 8) (n : Nat) : List (BitVec 8) := (List.range n).map (fromAt c s)
theorem fromOf_next (c s : BitVec 8) (n : Nat) : fromOf c s (n + 1) = fromOf c s n ++ [fromAt c s n] := by simp [fromOf, List.range_succ]
theorem fromOf_length (c s : BitVec 8) (n : Nat) : (fromOf c s n).length = n := by simp [fromOf]

set_option maxRecDepth 100000 in
set_option maxHeartbeats 1000000 in
theorem from_calls (w : World) (cv sv : Value) (c s : BitVec 8) (n : Nat) (hc : cv = vu8 c) (hs : sv = vu8 s) (hn : n ≤ 1000000) :
    Calls Tryd.prog 46 #[cv, sv, .int .i64 n] w fun e w' => ∃ v, e = .returned v ∧ Own w' w.heap.size v (fromOf c s n) ∧ Below w.heap.size w w' := by
  subst hc hs
  go_enter Tryd.func46, Tryd.ntmps46
  go_wp2
  go_loopw [0, 7, 8] (fun cv v i wr => ∃ k : Nat, k ≤ n ∧ i = .int .i64 k ∧ cv = vu8 (fromAt c s k) ∧ Own wr w.heap.size v (fromOf c s k) ∧ Below w.heap.size w wr) (fun _ _ i _ => n - (intOf i).toNat)
  case atStart => exact ⟨0, by omega, rfl, rfl, Own.nil _ _, Below.refl _ _⟩
  case round =>
    obtain ⟨k, hk, rfl, rfl, hO, hB⟩ := hrel
    by_cases hlt : k < n
    · have i1 : (k : Int) < (n : Int) := by omega
      have s2 : IntKind.i64.wrap ((k : Int) + 1) = (k : Int) + 1 := IntWalk.i64_in _ (by omega)
      have hl := fromOf_length c s k
      have hz := hB.size
      have hnx := Lib.hid (fromOf_next c s k)
      go_wp2_with (first
        | (at_builtin; refine wpList_append_one (by rfl) (.tmp 14) (.tmp 16) (by rfl) w.heap.size u7 (fromOf c s k) (by rfl) hO _ (fromAt c s k) (by rfl) (by rfl) (by omega) hz ?_; intro v1 w1 hO1 hG1)
        | fail)
      rw [← hnx.out] at hO1
      exact ⟨⟨k + 1, by omega, by go_num, rfl, hO1, hB.grown hG1 hB.size hO.high⟩, by simp [intOf]; omega⟩
    · obtain rfl : k = n := by omega
      go_wp2
      go_ret
      exact ⟨_, rfl, hO, hB⟩

theorem expand_bad (w : World) (sk si : Value) (n : Int) (hn : n < 0 ∨ 8160 < n) :
    Calls Tryd.prog 41 #[sk, si, .int .i64 n] w fun e w' => e = .returned (.tuple #[.slice none 0 0, .int .i64 3]) ∧ w = w' := by
  by_cases h0 : n < 0
  · go_enter Tryd.func41, Tryd.ntmps41
    go_wp2
    go_ret2
    exact ⟨rfl, rfl⟩
  · have h1 : 8160 < n := by omega
    go_enter Tryd.func41, Tryd.ntmps41
    go_wp2
    go_ret2
    exact ⟨rfl, rfl⟩

theorem Own.lower {w : World} {B B' : Nat} {v : Value} {xs : List (BitVec 8)} (h : Own w B v xs) (hb : B' ≤ B) : Own w B' v xs := by
  obtain ⟨h1, h2⟩ := h
  refine ⟨h1, ?_⟩
  rcases h2 with h2 | ⟨g, cap, cur, e, hB, hr⟩
  · exact .inl h2
  · exact .inr ⟨g, cap, cur, e, Nat.le_trans hb hB, hr⟩

set_option maxRecDepth 100000 in
set_option maxHeartbeats 1000000 in
theorem derive_calls (w : World) (ss sm si : Value) (salt mat info : List (BitVec 8)) (n : Nat) (hs : SliceIs w ss salt) (hm : SliceIs w sm mat) (hi : SliceIs w si info) (hK : KTab w) (hszs : salt.length ≤ 1000000) (hszm : mat.length ≤ 1000000) (hszi : info.length ≤ 1000000) (hn : n ≤ 8160) :
    Calls Tryd.prog 43 #[ss, sm, si, .int .i64 n] w fun e w' => ∃ v, e = .returned (.tuple #[v, .int .i64 0]) ∧ Own w' w.heap.size v (expandOf (macCode salt mat) info n) ∧ Below w.heap.size w w' := by
  have hBA : ∀ (wx : World) o, Below wx.heap.size wx (wx.alloc o) := fun wx o => (Below.refl _ _).alloc (Nat.le_refl _) o
  obtain ⟨M, hM⟩ : ∃ M, macCode salt mat = M := ⟨_, rfl⟩
  have lM : M.length = 32 := by rw [← hM]; exact macCode_length _ _
  have EX := Lib.hid (hM ▸ extract_calls w ss sm salt mat hs hm hK (by omega) (by omega))
  rw [hM]
  clear hM
  go_enter Tryd.func43, Tryd.ntmps43
  go_upto_region 2 with (first
    | (go_at_call 30; refine EX.out.mono ?_; rintro e w1 ⟨rfl, hB1⟩)
    | (refine wpList_alloc_row (by rfl) 25 (by rfl) _ _ info_d ?_)
    | (refine wpList_store_new (o := ⟨none, _, _, _, _, _⟩) (by rfl) 25 _ _ (by rfl) _ (M.map vu8).toArray 25 (by rfl) (by rfl) (by rw [size_d]; simp [lM]) (by simp [zeroNums, lM]) (all_u8 _) ?_)
    | fail)
  have hB2 := hB1.trans ((hBA w1 (.cells (M.map vu8).toArray 25)).mono hB1.size)
  have hD := Whole.new w1 25 (M.map vu8).toArray
  try simp only [Act.put, List.setIfInBounds_toArray, List.set_cons_zero, List.set_cons_succ]
  generalize (w1.alloc (.cells (M.map vu8).toArray 25)) = w2 at *
  generalize w1.heap.size = D at *
  replace hD : Whole w2 D 25 (M.map vu8) := hD
  go_wp2_with (go_at_call 41; refine (expand_calls w2 _ _ M info n (SliceIs.whole hD lM) (hi.low hB2) (hK.below hB2 hK.1) (by omega) (by omega) hn).mono ?_; rintro e w3 ⟨v, rfl, hO3, hB3⟩)
  go_ret2
  exact ⟨v, rfl, hO3.lower hB2.size, hB2.trans (hB3.mono hB2.size)⟩

def hiText : List (BitVec 8) := [72#8, 105#8, 32#8, 84#8, 104#8, 101#8, 114#8, 101#8]
def jefeText : List (BitVec 8) := [74#8, 101#8, 102#8, 101#8]
def whatText : List (BitVec 8) := [119#8, 104#8, 97#8, 116#8, 32#8, 100#8, 111#8, 32#8, 121#8, 97#8, 32#8, 119#8, 97#8, 110#8, 116#8, 32#8, 102#8, 111#8, 114#8, 32#8, 110#8, 111#8, 116#8, 104#8, 105#8, 110#8, 103#8, 63#8]
def code1Text : List (BitVec 8) := [98#8, 48#8, 51#8, 52#8, 52#8, 99#8, 54#8, 49#8, 100#8, 56#8, 100#8, 98#8, 51#8, 56#8, 53#8, 51#8, 53#8, 99#8, 97#8, 56#8, 97#8, 102#8, 99#8, 101#8, 97#8, 102#8, 48#8, 98#8, 102#8, 49#8, 50#8, 98#8, 56#8, 56#8, 49#8, 100#8, 99#8, 50#8, 48#8, 48#8, 99#8, 57#8, 56#8, 51#8, 51#8, 100#8, 97#8, 55#8, 50#8, 54#8, 101#8, 57#8, 51#8, 55#8, 54#8, 99#8, 50#8, 101#8, 51#8, 50#8, 99#8, 102#8, 102#8, 55#8]
def code2Text : List (BitVec 8) := [53#8, 98#8, 100#8, 99#8, 99#8, 49#8, 52#8, 54#8, 98#8, 102#8, 54#8, 48#8, 55#8, 53#8, 52#8, 101#8, 54#8, 97#8, 48#8, 52#8, 50#8, 52#8, 50#8, 54#8, 48#8, 56#8, 57#8, 53#8, 55#8, 53#8, 99#8, 55#8, 53#8, 97#8, 48#8, 48#8, 51#8, 102#8, 48#8, 56#8, 57#8, 100#8, 50#8, 55#8, 51#8, 57#8, 56#8, 51#8, 57#8, 100#8, 101#8, 99#8, 53#8, 56#8, 98#8, 57#8, 54#8, 52#8, 101#8, 99#8, 51#8, 56#8, 52#8, 51#8]
theorem code1_is : hexText (macCode (fromOf 11#8 0#8 20) hiText) = code1Text := by decide +kernel
theorem code2_is : hexText (macCode jefeText whatText) = code2Text := by decide +kernel
theorem derived_is : (expandOf (macCode (fromOf 0#8 1#8 13) (fromOf 11#8 0#8 22)) (fromOf 240#8 1#8 10) 42)[0]? = some 60#8 ∧ (expandOf (macCode (fromOf 0#8 1#8 13) (fromOf 11#8 0#8 22)) (fromOf 240#8 1#8 10) 42)[1]? = some 178#8 ∧ (expandOf (macCode (fromOf 0#8 1#8 13) (fromOf 11#8 0#8 22)) (fromOf 240#8 1#8 10) 42)[40]? = some 88#8 ∧ (expandOf (macCode (fromOf 0#8 1#8 13) (fromOf 11#8 0#8 22)) (fromOf 240#8 1#8 10) 42)[41]? = some 101#8 := by decide +kernel

end Go.Proofs.YtngklnijmhlikaaDoor
