/- AccessTurned: the calls that open, and those that add. -/
import Derived.Test.YtglcingpolpkdaaARows
namespace Go.Proofs.Ytglcingpolpkdaa
open Go.RowKit

def opensOf (l : List Ac) : List Ac := l.filter fun a => decide (a.kind = 0)
def addsOf (l : List Ac) : List Ac := l.filter fun a => decide (a.kind = 1) || decide (a.kind = 3)
theorem filter_next {α : Type} {l : List α} {k : Nat} {a : α} (f : α → Bool) (h : l[k]? = some a) : (l.take (k + 1)).filter f = (l.take k).filter f ++ (if f a = true then [a] else []) := by
  have hk : k < l.length := (List.getElem?_eq_some_iff.1 h).1
  rw [List.take_succ_eq_append_getElem hk, (List.getElem?_eq_some_iff.1 h).2, List.filter_append]
  congr 1
  by_cases hf : f a = true <;> simp [hf]

theorem opens_yes {l : List Ac} {k : Nat} {a : Ac} (h : l[k]? = some a) (ha : a.kind = 0) : opensOf (l.take (k + 1)) = opensOf (l.take k) ++ [a] := by
  unfold opensOf
  rw [filter_next _ h, if_pos (by rw [ha]; rfl)]
theorem opens_no {l : List Ac} {k : Nat} {a : Ac} (h : l[k]? = some a) (ha : a.kind ≠ 0) : opensOf (l.take (k + 1)) = opensOf (l.take k) := by
  unfold opensOf
  rw [filter_next _ h, if_neg (by simpa using ha), List.append_nil]
theorem adds_yes {l : List Ac} {k : Nat} {a : Ac} (h : l[k]? = some a) (ha : a.kind = 1 ∨ a.kind = 3) : addsOf (l.take (k + 1)) = addsOf (l.take k) ++ [a] := by
  unfold addsOf
  rw [filter_next _ h, if_pos (by rcases ha with ha | ha <;> simp [ha])]
theorem adds_no {l : List Ac} {k : Nat} {a : Ac} (h : l[k]? = some a) (h1 : a.kind ≠ 1) (h3 : a.kind ≠ 3) : addsOf (l.take (k + 1)) = addsOf (l.take k) := by
  unfold addsOf
  rw [filter_next _ h, if_neg (by simp [h1, h3]), List.append_nil]

noncomputable def turnedSplit : Code := subCode [1, 1, 1, 1, 0, 1] ((Try.f4.body).getD .skip)

set_option maxRecDepth 100000 in
set_option maxHeartbeats 4000000 in
theorem turned_split {z1 z2 z3 z4 z5 z6 z7 z11 z12 z13 z14 z15 z16 z17 z18 z19 z20 z21 z22 z23 z24 z25 z26 z27 z28 z29 z30 z31 z32 z33 z34 z35 z36 z37 z38 z39 z40 z41 z42 z43 z44 z45 z46 z47 z48 z49 z50 z51 z52 z53 z54 z55 z56 z57 z58 z59 z60 z61 z62 z63 z64 z65 z66 z67 z68 z69 z70 z71 z72 z73 z74 z75 z76 z77 z78 z79 z80 z81 z82 z83 z84 z85 z86 z87 z88 z89 z90 z91 z92 z93 z94 z95 z96 z97 z98 z99 z100 z101 z102 z103 z104 z105 z106 z107 z108 z109 z110 z111 z112 z113 z114 z115 z116 z117 z118 z119 z120 z121 z122 z123 z124 z125 z126 z127 z128 z129 z130 z131 z132 z133 z134 z135 z136 z137 z138 z139 z140 z141 z142 z143 z144 z145 z146 z147 z148 z149 z150 z151 z152 z153 z154 z155 : Value} (W w : World) (p : Option Addr) (N c : Nat) (l : List Ac) (hA : ActsAt W (.slice p N c) l) (hN : l.length = N) (hl : N ≤ 1000) (hW : Below W.heap.size W w) {Q : Exit → Act → World → Prop}
    (hq : ∀ (vo va y10 y31 y32 y33 y34 y35 y36 y37 y38 y39 y40 y41 y42 y43 y44 y45 y46 y47 y48 y49 y50 y51 y52 y53 y54 y55 y56 y57 y58 y59 y60 y61 y62 y63 y64 y65 y66 y67 y68 y69 y70 : Value) (w' : World), Two W w' vo va (opensOf l) (addsOf l) → Q .normal ⟨(.slice p N c :: z1 :: z2 :: z3 :: z4 :: z5 :: z6 :: z7 :: vo :: va :: y10 :: z11 :: z12 :: z13 :: z14 :: z15 :: z16 :: z17 :: z18 :: z19 :: z20 :: z21 :: z22 :: z23 :: z24 :: z25 :: z26 :: z27 :: z28 :: z29 :: z30 :: y31 :: y32 :: y33 :: y34 :: y35 :: y36 :: y37 :: y38 :: y39 :: y40 :: y41 :: y42 :: y43 :: y44 :: y45 :: y46 :: y47 :: y48 :: y49 :: y50 :: y51 :: y52 :: y53 :: y54 :: y55 :: y56 :: y57 :: y58 :: y59 :: y60 :: y61 :: y62 :: y63 :: y64 :: y65 :: y66 :: y67 :: y68 :: y69 :: y70 :: z71 :: z72 :: z73 :: z74 :: z75 :: z76 :: z77 :: z78 :: z79 :: z80 :: z81 :: z82 :: z83 :: z84 :: z85 :: z86 :: z87 :: z88 :: z89 :: z90 :: z91 :: z92 :: z93 :: z94 :: z95 :: z96 :: z97 :: z98 :: z99 :: z100 :: z101 :: z102 :: z103 :: z104 :: z105 :: z106 :: z107 :: z108 :: z109 :: z110 :: z111 :: z112 :: z113 :: z114 :: z115 :: z116 :: z117 :: z118 :: z119 :: z120 :: z121 :: z122 :: z123 :: z124 :: z125 :: z126 :: z127 :: z128 :: z129 :: z130 :: z131 :: z132 :: z133 :: z134 :: z135 :: z136 :: z137 :: z138 :: z139 :: z140 :: z141 :: z142 :: z143 :: z144 :: z145 :: z146 :: z147 :: z148 :: z149 :: z150 :: z151 :: z152 :: z153 :: z154 :: z155 :: []).toArray, []⟩ w') : Code.wp Try.prog turnedSplit Q ⟨(.slice p N c :: z1 :: z2 :: z3 :: z4 :: z5 :: z6 :: z7 :: .slice none 0 0 :: .slice none 0 0 :: .int .i64 0 :: z11 :: z12 :: z13 :: z14 :: z15 :: z16 :: z17 :: z18 :: z19 :: z20 :: z21 :: z22 :: z23 :: z24 :: z25 :: z26 :: z27 :: z28 :: z29 :: z30 :: z31 :: z32 :: z33 :: z34 :: z35 :: z36 :: z37 :: z38 :: z39 :: z40 :: z41 :: z42 :: z43 :: z44 :: z45 :: z46 :: z47 :: z48 :: z49 :: z50 :: z51 :: z52 :: z53 :: z54 :: z55 :: z56 :: z57 :: z58 :: z59 :: z60 :: z61 :: z62 :: z63 :: z64 :: z65 :: z66 :: z67 :: z68 :: z69 :: z70 :: z71 :: z72 :: z73 :: z74 :: z75 :: z76 :: z77 :: z78 :: z79 :: z80 :: z81 :: z82 :: z83 :: z84 :: z85 :: z86 :: z87 :: z88 :: z89 :: z90 :: z91 :: z92 :: z93 :: z94 :: z95 :: z96 :: z97 :: z98 :: z99 :: z100 :: z101 :: z102 :: z103 :: z104 :: z105 :: z106 :: z107 :: z108 :: z109 :: z110 :: z111 :: z112 :: z113 :: z114 :: z115 :: z116 :: z117 :: z118 :: z119 :: z120 :: z121 :: z122 :: z123 :: z124 :: z125 :: z126 :: z127 :: z128 :: z129 :: z130 :: z131 :: z132 :: z133 :: z134 :: z135 :: z136 :: z137 :: z138 :: z139 :: z140 :: z141 :: z142 :: z143 :: z144 :: z145 :: z146 :: z147 :: z148 :: z149 :: z150 :: z151 :: z152 :: z153 :: z154 :: z155 :: []).toArray, []⟩ w := by
  conv => arg 2; whnf
  have HQ := Lib.hid hq
  have HL := Lib.hid hA
  have HN := Lib.hid hN
  have hT0 : Two W w (.slice none 0 0) (.slice none 0 0) [] [] := ⟨OwnA.nil w _, OwnA.nil w _, fun g h => (by cases h), hW⟩
  clear hq hA hN hW
  go_wp2
  go_loopw [8, 9, 10] (fun o a i wr => ∃ k : Nat, k ≤ N ∧ i = .int .i64 k ∧ Two W wr o a (opensOf (l.take k)) (addsOf (l.take k))) (fun _ _ i _ => N - (intOf i).toNat)
  case atStart => exact ⟨0, by omega, rfl, by simpa [opensOf, addsOf] using hT0⟩
  case round =>
    obtain ⟨k, hkN, rfl, hT⟩ := hrel
    clear hT0
    by_cases hlt : k < N
    · obtain ⟨a, hp⟩ : ∃ a, l[k]? = some a := ⟨_, List.getElem?_eq_getElem (by rw [HN.out]; exact hlt)⟩
      obtain ⟨b, off, rfl, _, hc⟩ := (HL.out.low hT.below).at hp
      have c0 := hc 0 _ rfl
      have i1 : (k : Int) < (N : Int) := by omega
      have i2 : 0 ≤ (k : Int) ∧ (k : Int) < (N : Int) := by omega
      have b2 : IntKind.i64.wrap ((k : Int) + 1) = (k : Int) + 1 := IntWalk.i64_in _ (by omega)
      have HLEN := Lib.hid (show (opensOf (l.take k)).length ≤ 1000 ∧ (addsOf (l.take k)).length ≤ 1000 from by
        constructor
        · refine Nat.le_trans (List.length_filter_le _ _) ?_
          rw [List.length_take]
          omega
        · refine Nat.le_trans (List.length_filter_le _ _) ?_
          rw [List.length_take]
          omega)
      have HX := Lib.hid hp
      have hrng := hc
      clear hp hc
      obtain ⟨kind, tenant, role, who, ⟨rwho, rwhat, rkey, deny⟩, what, key⟩ := a
      replace c0 : wr.cell? ⟨b, off + k * 10, none⟩ = some (.int .u8 kind) := c0
      replace hrng : wr.rangeAt b (off + k * 10) [.int .u8 kind, .string tenant, .string role, .string who, .string rwho, .int .i64 rwhat, .string rkey, .bool deny, .int .i64 what, .string key] := hrng
      by_cases h0 : kind = 0
      · subst h0
        have HA := Lib.hid hT
        clear hT
        go_wp2_with (first
          | (refine wpList_load_mid (by rfl) 38 _ (by rfl) b (off + k * 10) (by rfl) [.int .u8 0, .string tenant, .string role, .string who, .string rwho, .int .i64 rwhat, .string rkey, .bool deny, .int .i64 what, .string key] _ hrng Try.underlying38 (by rfl) size_ac ?_)
          | (refine wpList_append_acts (by rfl) _ _ (by rfl) W.heap.size _ _ _ [⟨0, tenant, role, who, ⟨rwho, rwhat, rkey, deny⟩, what, key⟩] (by rfl) (HA.out.on ((Below.refl _ _).alloc (Nat.le_refl _) _)).a (by rfl) (SrcA.new wr ⟨0, tenant, role, who, ⟨rwho, rwhat, rkey, deny⟩, what, key⟩) (by have := HLEN.out; simp; omega) (by have := HA.out.below.size; simp; omega) ?_; intro v' w' hO hG hM))
        have hT2 := (HA.out.on ((Below.refl _ _).alloc (Nat.le_refl _) _)).more hO hG hM
        go_roundw
        case rel => exact ⟨k + 1, by omega, by go_num, by
          rw [opens_yes HX.out rfl, adds_no HX.out (show (0 : Int) ≠ 1 by decide) (show (0 : Int) ≠ 3 by decide)]
          exact hT2⟩
        case measure => simp [intOf]; omega
      · by_cases h1 : kind = 1
        · subst h1
          have HA := Lib.hid hT
          clear hT
          go_wp2_with (first
            | (refine wpList_load_mid (by rfl) 38 _ (by rfl) b (off + k * 10) (by rfl) [.int .u8 1, .string tenant, .string role, .string who, .string rwho, .int .i64 rwhat, .string rkey, .bool deny, .int .i64 what, .string key] _ hrng Try.underlying38 (by rfl) size_ac ?_)
            | (refine wpList_append_acts (by rfl) _ _ (by rfl) W.heap.size _ _ _ [⟨1, tenant, role, who, ⟨rwho, rwhat, rkey, deny⟩, what, key⟩] (by rfl) (HA.out.on ((Below.refl _ _).alloc (Nat.le_refl _) _)).b (by rfl) (SrcA.new wr ⟨1, tenant, role, who, ⟨rwho, rwhat, rkey, deny⟩, what, key⟩) (by have := HLEN.out; simp; omega) (by have := HA.out.below.size; simp; omega) ?_; intro v' w' hO hG hM))
          have hT2 := ((HA.out.on ((Below.refl _ _).alloc (Nat.le_refl _) _)).symm.more hO hG hM).symm
          go_roundw
          case rel => exact ⟨k + 1, by omega, by go_num, by
            rw [opens_no HX.out (show (1 : Int) ≠ 0 by decide), adds_yes HX.out (.inl rfl)]
            exact hT2⟩
          case measure => simp [intOf]; omega
        · by_cases h3 : kind = 3
          · subst h3
            have HA := Lib.hid hT
            clear hT
            go_wp2_with (first
              | (refine wpList_load_mid (by rfl) 38 _ (by rfl) b (off + k * 10) (by rfl) [.int .u8 3, .string tenant, .string role, .string who, .string rwho, .int .i64 rwhat, .string rkey, .bool deny, .int .i64 what, .string key] _ hrng Try.underlying38 (by rfl) size_ac ?_)
              | (refine wpList_append_acts (by rfl) _ _ (by rfl) W.heap.size _ _ _ [⟨3, tenant, role, who, ⟨rwho, rwhat, rkey, deny⟩, what, key⟩] (by rfl) (HA.out.on ((Below.refl _ _).alloc (Nat.le_refl _) _)).b (by rfl) (SrcA.new wr ⟨3, tenant, role, who, ⟨rwho, rwhat, rkey, deny⟩, what, key⟩) (by have := HLEN.out; simp; omega) (by have := HA.out.below.size; simp; omega) ?_; intro v' w' hO hG hM))
            have hT2 := ((HA.out.on ((Below.refl _ _).alloc (Nat.le_refl _) _)).symm.more hO hG hM).symm
            go_roundw
            case rel => exact ⟨k + 1, by omega, by go_num, by
              rw [opens_no HX.out (show (3 : Int) ≠ 0 by decide), adds_yes HX.out (.inr rfl)]
              exact hT2⟩
            case measure => simp [intOf]; omega
          · have HA := Lib.hid hT
            have e0 : (kind == 0) = false := by simpa using h0
            have e1 : (kind == 1) = false := by simpa using h1
            have e3 : (kind == 3) = false := by simpa using h3
            clear hT hrng
            go_wp2
            go_roundw
            case rel => exact ⟨k + 1, by omega, by go_num, by
              rw [opens_no HX.out h0, adds_no HX.out h1 h3]
              exact HA.out⟩
            case measure => simp [intOf]; omega
    · obtain rfl : k = N := by omega
      rw [← HN.out, List.take_length] at hT
      have i1 : ¬ (k : Int) < (k : Int) := by omega
      go_wp2
      exact HQ.out _ _ _ _ _ _ _ _ _ _ _ _ _ _ _ _ _ _ _ _ _ _ _ _ _ _ _ _ _ _ _ _ _ _ _ _ _ _ _ _ _ _ _ _ hT

end Go.Proofs.Ytglcingpolpkdaa
