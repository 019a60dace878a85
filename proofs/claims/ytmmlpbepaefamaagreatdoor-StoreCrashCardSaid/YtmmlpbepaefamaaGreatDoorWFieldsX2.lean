/- wire.Int and wire.Fields. -/
import Derived.Test.YtmmlpbepaefamaaGreatDoorDMoreX3
import Derived.Test.YtmmlpbepaefamaaGreatDoorJArgs
namespace Go.Proofs.YtmmlpbepaefamaaGreatDoor
open Go.RowKit

theorem bytes_len {w : World} {v : Value} {l : List (BitVec 8)} (h : SliceIs w v l) : ∃ a c, v = .slice a l.length c := by
  rcases h with ⟨rfl, rfl | ⟨ad, c, rfl⟩⟩ | ⟨b, o, c, rfl, _, _⟩ <;> exact ⟨_, _, rfl⟩
theorem nums_lit (w : World) (n : Int) : NumsAt (w.alloc (.cells #[.int .i64 n] 3)) (.slice (some ⟨w.heap.size, 0, none⟩) 1 1) [n] :=
  .inr ⟨w.heap.size, 0, 1, rfl, (Whole.new w 3 #[.int .i64 n]).lt, fun j z hz => by
    have hj : j = 0 := by
      have := (List.getElem?_eq_some_iff.1 hz).1
      simp at this
      exact this
    subst hj
    have : n = z := by simpa using hz
    subst this
    exact (Whole.new w 3 #[.int .i64 n]).cell 0⟩
theorem After.own {w w' : World} {B : Nat} {v v' : Value} {l : List (BitVec 8)} (h : After w w' B v v' l) : Own w' B v' l := h.1
theorem After.below {w w' : World} {B B' : Nat} {v v' : Value} {l xs : List (BitVec 8)} (h : After w w' B v v' l) (hv : Own w B' v xs) (hB : B' ≤ w.heap.size) : Below B' w w' := h.2.1.below hB fun _ _ e => own_ge hv e
theorem After.ge {w w' : World} {B B' : Nat} {v v' : Value} {l xs : List (BitVec 8)} (h : After w w' B v v' l) (hv : Own w B' v xs) (hB : B' ≤ w.heap.size) : Own w' B' v' l := by
  refine ⟨h.1.1, ?_⟩
  rcases h.1.2 with h0 | ⟨g, cap, cur, rfl, hb, rest⟩
  · exact .inl h0
  · refine .inr ⟨g, cap, cur, rfl, ?_, rest⟩
    rcases h.2.2 g rfl with e | e
    · exact own_ge hv e
    · exact Nat.le_trans hB e

set_option maxRecDepth 100000 in
theorem wint_calls (w : World) (n : Int) (h0 : 0 ≤ n) (h1 : n ≤ 4611686018427387903) : Calls Tryz.prog 71 #[.int .i64 n] w fun e w' => ∃ u, e = .returned (.tuple #[u, .int .i64 0]) ∧ (∃ a k c, u = .slice a k c) ∧ Own w' w.heap.size u (putN 8 n) ∧ Below w.heap.size w w' := by
  have g0 : ¬ n < 0 := by omega
  have g1 : ¬ (4611686018427387903 : Int) < n := by omega
  have b1 : Below w.heap.size w (w.alloc (.cells #[.int .i64 n] 3)) := (Below.refl _ _).alloc (Nat.le_refl _) _
  have HP := Lib.hid (put_calls (w.alloc (.cells #[.int .i64 n] 3)) w.heap.size (.slice none 0 0) _ [] 8 n (Own.nil _ _) (nums_lit w n) (by decide) (by simp) b1.size)
  go_enter Tryz.func71, Tryz.ntmps71
  go_wp2_with (go_at_call 61; refine HP.out.mono ?_; rintro e w2 ⟨u, rfl, ⟨ua, uk, uc, rfl⟩, hA⟩)
  go_ret2
  refine ⟨_, rfl, ⟨_, _, _, rfl⟩, hA.own, b1.trans (hA.2.1.below b1.size fun _ _ e => by cases e)⟩

/-- Fields as one text. -/
def fieldB (f : List (BitVec 8)) : List (BitVec 8) := putN 4 f.length ++ f
def fieldsB (l : List (List (BitVec 8))) : List (BitVec 8) := putN 4 l.length ++ l.flatMap fieldB
/-- How many bytes fields have. -/
def sizeF (l : List (List (BitVec 8))) : Nat := 4 + (l.map fun f => 4 + f.length).sum
theorem fieldB_length (f : List (BitVec 8)) : (fieldB f).length = 4 + f.length := by simp [fieldB, putN_length]
theorem flat_fieldB : ∀ l : List (List (BitVec 8)), (l.flatMap fieldB).length = (l.map fun f => 4 + f.length).sum
  | [] => rfl
  | f :: l => by
    rw [List.flatMap_cons, List.length_append, fieldB_length, flat_fieldB l, List.map_cons, List.sum_cons]
theorem fieldsB_length (l : List (List (BitVec 8))) : (fieldsB l).length = sizeF l := by
  unfold fieldsB sizeF
  rw [List.length_append, putN_length, flat_fieldB]
theorem sum_take_le : ∀ (l : List Nat) (k : Nat), (l.take k).sum ≤ l.sum
  | [], k => by simp
  | x :: l, 0 => by simp
  | x :: l, k + 1 => by
    rw [List.take_succ_cons, List.sum_cons, List.sum_cons]
    have := sum_take_le l k
    omega
theorem sizeF_take (l : List (List (BitVec 8))) (k : Nat) : sizeF (l.take k) ≤ sizeF l := by
  unfold sizeF
  rw [List.map_take]
  have := sum_take_le (l.map fun f => 4 + f.length) k
  omega
theorem sizeF_next {l : List (List (BitVec 8))} {k : Nat} {f : List (BitVec 8)} (h : l[k]? = some f) : sizeF (l.take (k + 1)) = sizeF (l.take k) + (4 + f.length) := by
  unfold sizeF
  rw [List.take_add_one, h]
  simp
  omega
theorem ListsAt.get {w : World} {p : Option Addr} {n c k : Nat} {ls : List (List (BitVec 8))} {f : List (BitVec 8)} (h : ListsAt w (.slice p n c) ls) (hf : ls[k]? = some f) : ∃ b o v, p = some ⟨b, o, none⟩ ∧ b < w.heap.size ∧ w.cell? ⟨b, o + k, none⟩ = some v ∧ SliceIs w v f := by
  obtain ⟨ao, c', he, hlc, hl⟩ := h
  injection he with he
  subst he
  have hne : ls ≠ [] := fun e => by rw [e] at hf; simp at hf
  obtain ⟨b, o, rfl, hlt, hc⟩ := hl hne
  obtain ⟨v, hv, hs⟩ := hc k f hf
  exact ⟨b, o, v, rfl, hlt, hv, hs⟩

set_option maxRecDepth 100000 in
set_option maxHeartbeats 2000000 in
theorem fields_calls (w : World) (v : Value) (l : List (List (BitVec 8))) (hv : ListsAt w v l) (hl : l.length ≤ 4096) (hs : sizeF l ≤ 1048576) :
    Calls Tryz.prog 30 #[v] w fun e w' => ∃ u, e = .returned (.tuple #[u, .int .i64 0]) ∧ (∃ a k c, u = .slice a k c) ∧ Own w' w.heap.size u (fieldsB l) ∧ Below w.heap.size w w' := by
  obtain ⟨p, c, hv2, _, _⟩ := id hv
  obtain ⟨N, hN⟩ : ∃ N, l.length = N := ⟨_, rfl⟩
  rw [hN] at hv2 hl
  subst hv2
  have HN := Lib.hid hN
  have HV := Lib.hid hv
  have HS := Lib.hid hs
  clear hN hv hs
  have g1 : ¬ (4096 : Int) < (N : Int) := by omega
  go_enter Tryz.func30, Tryz.ntmps30
  go_wp2
  go_loopw [4, 12] (fun s i wr => ∃ k : Nat, k ≤ N ∧ i = .int .i64 k ∧ s = .int .i64 (sizeF (l.take k)) ∧ w = wr) (fun _ i _ => N - (intOf i).toNat)
  case atStart => exact ⟨0, by omega, rfl, by simp [sizeF], rfl⟩
  case round =>
    obtain ⟨k, hk, rfl, rfl, rfl⟩ := hrel
    by_cases hlt : k < N
    · have i1 : (k : Int) < (N : Int) := by omega
      have i2 : 0 ≤ (k : Int) ∧ (k : Int) < (N : Int) := by omega
      have s2 : IntKind.i64.wrap ((k : Int) + 1) = (k : Int) + 1 := IntWalk.i64_in _ (by omega)
      obtain ⟨f, hf⟩ : ∃ f, l[k]? = some f := ⟨_, List.getElem?_eq_getElem (by rw [HN.out]; exact hlt)⟩
      obtain ⟨b, o, u, rfl, _, hc, hu⟩ := HV.out.get hf
      obtain ⟨ua, uc, rfl⟩ := bytes_len hu
      have h1 := sizeF_next hf
      have h2 := sizeF_take l (k + 1)
      have h3 := HS.out
      obtain ⟨z, hz⟩ : ∃ z, sizeF (l.take k) = z := ⟨_, rfl⟩
      obtain ⟨y, hy⟩ : ∃ y, f.length = y := ⟨_, rfl⟩
      rw [hz, hy] at h1
      have s3 : IntKind.i64.wrap (4 + (y : Int)) = 4 + (y : Int) := IntWalk.i64_in _ (by omega)
      have s4 : IntKind.i64.wrap ((z : Int) + (4 + (y : Int))) = (z : Int) + (4 + (y : Int)) := IntWalk.i64_in _ (by omega)
      have g3 : ¬ (1048576 : Int) < (z : Int) + (4 + (y : Int)) := by omega
      rw [hz]
      rw [hy] at hc
      have H1 := Lib.hid h1
      clear h1 h2 h3 hf hu hz hy
      go_wp2
      go_roundw
      case rel => exact ⟨k + 1, by omega, by go_num, by rw [H1.out]; congr 1, by first | rfl | trivial⟩
      case measure => simp [intOf]; omega
    · obtain rfl : k = N := by omega
      have i1 : ¬ (k : Int) < (k : Int) := by omega
      have b1 : Below w.heap.size w (w.alloc (.cells #[.int .i64 (k : Int)] 3)) := (Below.refl _ _).alloc (Nat.le_refl _) _
      have HP := Lib.hid (put_calls (w.alloc (.cells #[.int .i64 (k : Int)] 3)) w.heap.size (.slice none 0 0) _ [] 4 k (Own.nil _ _) (nums_lit w k) (by decide) (by simp) b1.size)
      go_upto_block 2 with (first
        | (go_at_call 61; refine HP.out.mono ?_; rintro e w2 ⟨u, rfl, ⟨ua, uk, uc, rfl⟩, hA⟩)
        | fail)
      have hb2 : Below w.heap.size w w2 := b1.trans (hA.2.1.below b1.size fun _ _ e => by cases e)
      have hO2 := hA.own
      rw [List.nil_append] at hO2
      have HO2 := Lib.hid hO2
      have HB2 := Lib.hid hb2
      clear hA hO2
      go_wp2
      go_loopw [7, 33] (fun u i wr => ∃ (j : Nat) (a : Option Addr) (q c : Nat), j ≤ k ∧ i = .int .i64 j ∧ u = .slice a q c ∧ Own wr w.heap.size (.slice a q c) (putN 4 k ++ (l.take j).flatMap fieldB) ∧ Below w.heap.size w wr) (fun _ i _ => k - (intOf i).toNat)
      case atStart => exact ⟨0, _, _, _, by omega, rfl, rfl, by simpa using HO2.out, HB2.out⟩
      case round =>
        obtain ⟨j, a, q, c', hj, rfl, rfl, hO, hB⟩ := hrel
        by_cases hlt2 : j < k
        · have i3 : (j : Int) < (k : Int) := by omega
          have i4 : 0 ≤ (j : Int) ∧ (j : Int) < (k : Int) := by omega
          have s2 : IntKind.i64.wrap ((j : Int) + 1) = (j : Int) + 1 := IntWalk.i64_in _ (by omega)
          obtain ⟨f, hf⟩ : ∃ f, l[j]? = some f := ⟨_, List.getElem?_eq_getElem (by rw [HN.out]; exact hlt2)⟩
          obtain ⟨b, o, u, rfl, hbl, hc0, hu⟩ := HV.out.get hf
          have hc := (hB.cell (p := ⟨b, o + j, none⟩) hbl).trans hc0
          obtain ⟨ua, uc, hue⟩ := bytes_len hu
          subst hue
          have hfl : f.length + ((l.take j).flatMap fieldB).length ≤ 1048576 := by
            have h1 := sizeF_next hf
            have h2 := sizeF_take l (j + 1)
            have h3 := HS.out
            rw [flat_fieldB]
            unfold sizeF at h1 h2 h3
            omega
          have hnx : (l.take (j + 1)).flatMap fieldB = (l.take j).flatMap fieldB ++ (putN 4 f.length ++ f) := by
            rw [List.take_add_one, hf]
            simp [fieldB]
          have b3 : Below wr.heap.size wr (wr.alloc (.cells #[.int .i64 (f.length : Int)] 3)) := (Below.refl _ _).alloc (Nat.le_refl _) _
          have HP3 := Lib.hid (put_calls (wr.alloc (.cells #[.int .i64 (f.length : Int)] 3)) w.heap.size _ _ _ 4 f.length (row_low hO b3) (nums_lit wr f.length) (by decide) (by have := putN_length 4 k; simp only [List.length_append]; omega) (Nat.le_trans hB.size b3.size))
          have HF := Lib.hid hf
          have HU := Lib.hid hu
          have HX := Lib.hid hnx
          have HL := Lib.hid hfl
          have HO := Lib.hid (row_low hO b3)
          have hB3 := hB.trans (b3.mono hB.size)
          obtain ⟨y, hy⟩ : ∃ y, f.length = y := ⟨_, rfl⟩
          rw [hy] at hc HP3 HO b3 hB3
          have HY := Lib.hid hy
          clear hf hu hnx hfl hO hy hc0 hbl
          go_wp2_with (first
            | (refine wpList_append_laid (by rfl) _ _ 111 30 Tryz.underlying111 Tryz.underlying30 (by rfl) w.heap.size _ _ (by rfl) hO5 _ f (by rfl) (by rw [← HY.out]; exact HU.out.low hB5) (by have := HL.out; have := putN_length 4 k; have := putN_length 4 y; simp only [List.length_append]; omega) hB5.size ?_; intro v6 w6 O6 G6 M6; have hB6 := hB5.grown G6 hB5.size (fun i e => own_ge hO5 e); obtain ⟨a6, k6, c6, he6⟩ := slice_any O6; subst he6)
            | (go_at_call 61; refine HP3.out.mono ?_; rintro e w5 ⟨u5, rfl, ⟨a5, k5, c5, rfl⟩, hA5⟩; have hO5 := hA5.own; have hB5 := hB3.trans (hA5.below HO.out hB3.size))
            | fail)
          go_roundw
          case rel =>
            refine ⟨j + 1, a6, k6, c6, by omega, by go_num, rfl, ?_, hB6⟩
            rw [HX.out, HY.out]
            simpa using O6
          case measure => simp [intOf]; omega
        · obtain rfl : j = k := by omega
          have i3 : ¬ (j : Int) < (j : Int) := by omega
          have HO := Lib.hid hO
          clear hO
          go_wp2
          go_ret2
          refine ⟨_, rfl, ⟨_, _, _, rfl⟩, ?_, hB⟩
          have h5 := HO.out
          rw [List.take_of_length_le (Nat.le_of_eq HN.out)] at h5
          unfold fieldsB
          rw [HN.out]
          exact h5

end Go.Proofs.YtmmlpbepaefamaaGreatDoor

/- Numbers and fields read: wire.reader, ReadInt, ReadFields. -/
namespace Go.Proofs.YtmmlpbepaefamaaGreatDoor
open Go.RowKit

/-- The number that bytes are. -/
def numB (l : List (BitVec 8)) : BitVec 64 := l.foldl (fun x c => x <<< 8 ||| c.setWidth 64) 0#64
theorem numB_add (l : List (BitVec 8)) (c : BitVec 8) : numB (l ++ [c]) = numB l <<< 8 ||| c.setWidth 64 := by simp [numB]
theorem byteN_nat (N i : Nat) (hN : N < 2 ^ 64) : (byteN (N : Int) i).toNat = N / 256 ^ i % 256 := by
  unfold byteN
  have h1 : (BitVec.ofInt 64 (N : Int)).toNat = N := by
    rw [BitVec.ofInt_natCast, BitVec.toNat_ofNat]
    exact Nat.mod_eq_of_lt hN
  rw [BitVec.toNat_setWidth, BitVec.toNat_ushiftRight, h1, Nat.shiftRight_eq_div_pow, Nat.pow_mul]
theorem num_step (x : BitVec 64) (c : BitVec 8) (hx : x.toNat * 256 < 2 ^ 64) : (x <<< 8 ||| c.setWidth 64).toNat = x.toNat * 256 + c.toNat := by
  have hc : c.toNat < 2 ^ 8 := c.isLt
  rw [BitVec.toNat_or, BitVec.toNat_shiftLeft, BitVec.toNat_setWidth, Nat.mod_eq_of_lt (a := c.toNat) (by omega), Nat.shiftLeft_eq, Nat.mod_eq_of_lt (by omega), ← Nat.shiftLeft_eq, ← Nat.shiftLeft_add_eq_or_of_lt hc, Nat.shiftLeft_eq]
theorem num_take (size N : Nat) (hs : size ≤ 8) (hN : N < 256 ^ size) (h64 : N < 2 ^ 62) : ∀ j, j ≤ size → (numB ((putN size N).take j)).toNat = N / 256 ^ (size - j)
  | 0, _ => by
    rw [List.take_zero, Nat.sub_zero, Nat.div_eq_of_lt hN]
    rfl
  | j + 1, hj => by
    have ih := num_take size N hs hN h64 j (by omega)
    have hq : N / 256 ^ (size - j) = N / 256 ^ (size - 1 - j) / 256 := by
      rw [Nat.div_div_eq_div_mul, ← Nat.pow_succ]
      congr 2
      omega
    have hle : N / 256 ^ (size - 1 - j) ≤ N := Nat.div_le_self _ _
    rw [putN_next size N j (by omega), numB_add, num_step _ _ (by rw [ih, hq]; omega), ih, hq, byteN_nat N _ (by omega), show size - (j + 1) = size - 1 - j by omega]
    omega
theorem num_put (size N : Nat) (hs : size ≤ 8) (hN : N < 256 ^ size) (h64 : N < 2 ^ 62) : (numB (putN size N)).toNat = N := by
  have := num_take size N hs hN h64 size (Nat.le_refl _)
  rw [List.take_of_length_le (Nat.le_of_eq (putN_length size N)), Nat.sub_self, Nat.pow_zero, Nat.div_one] at this
  exact this

theorem convert_vu64_int {w : World} (x : BitVec 64) (N : Nat) (hx : x.toNat = N) (hN : N < 4611686018427387904) : (convert 136 3 (vu64 x)).run Tryz.prog w = .ok (.int .i64 (N : Int)) w := by
  have hd : Tryz.prog.underlying 3 = some (.int .i64) := Tryz.underlying3
  have hs : (Tryz.prog.underlying 136).isSome = true := by rw [show Tryz.prog.underlying 136 = some (.int .u64) from Tryz.underlying136]; rfl
  have e : Tryz.prog.intKind 3 = .i64 := by simp [Program.intKind, hd]
  have h := run_convert_int (P := Tryz.prog) w 136 3 .u64 (x.toNat : Int) hs (by rw [e]; exact hd)
  rw [e] at h
  rw [show vu64 x = Value.int .u64 (x.toNat : Int) from rfl, h, hx, IntWalk.i64_in _ (by omega)]

/-- A reader in block r, at the bytes l, which lie in the older world W. -/
def Rdr (W w : World) (r : Nat) (l : List (BitVec 8)) : Prop := (∃ p c, Whole w r 129 [.slice p l.length c, .bool false] ∧ SliceR W (.slice p l.length c) l) ∧ Below W.heap.size W w ∧ W.heap.size ≤ r
theorem Rdr.low {W w w' : World} {r : Nat} {l : List (BitVec 8)} (h : Rdr W w r l) (hb : Below w.heap.size w w') : Rdr W w' r l := by
  obtain ⟨⟨p, c, h1, h2⟩, h3, h4⟩ := h
  exact ⟨⟨p, c, h1.below hb h1.lt, h2⟩, h3.trans (hb.mono h3.size), h4⟩
theorem slice_recap {w : World} {p : Option Addr} {n c c' : Nat} {l : List (BitVec 8)} (h : SliceR w (.slice p n c) l) (hc : n ≤ c') (hp : p = none → c' = 0) : SliceR w (.slice p n c') l := by
  obtain ⟨h, a1, c1, he, h1⟩ := h
  injection he with e1 e2 e3
  subst e1 e2 e3
  refine ⟨?_, _, _, rfl, hc⟩
  rcases h with ⟨rfl, h | ⟨ad, c', h⟩⟩ | ⟨g, o, c', h, hg, hy⟩
  · injection h with h1 h2 h3
    subst h1
    rw [hp rfl]
    exact .inl ⟨rfl, .inl rfl⟩
  · injection h with h1 h2 h3
    subst h1
    exact .inl ⟨rfl, .inr ⟨_, _, rfl⟩⟩
  · injection h with h1 h2 h3
    subst h1
    exact .inr ⟨g, o, _, rfl, hg, hy⟩

set_option maxRecDepth 100000 in
set_option maxHeartbeats 2000000 in
theorem wtake_calls (W w : World) (r n : Nat) (l : List (BitVec 8)) (h : Rdr W w r l) (hn : n ≤ l.length) :
    Calls Tryz.prog 89 #[.pointer (some ⟨r, 0, none⟩), .int .i64 n] w fun e w' => ∃ a c, e = .returned (.slice a n c) ∧ SliceR W (.slice a n c) (l.take n) ∧ Rdr W w' r (l.drop n) ∧ Only w w' fun i => i = r := by
  obtain ⟨⟨p, c, hW, hS⟩, hBL, hr⟩ := h
  have hc : l.length ≤ c := by
    obtain ⟨_, _, _, he, h⟩ := hS
    injection he with _ _ e3
    rw [e3]
    exact h
  have hpn : p = none → l.length = 0 ∧ c = 0 := fun e => by
    subst e
    rcases hS.1 with ⟨h0, h | ⟨ad, c', h⟩⟩ | ⟨g, o, c', h, hg, hy⟩
    · injection h with h1 h2 h3
      exact ⟨h2, h3⟩
    · injection h with h1
      cases h1
    · injection h with h1
      cases h1
  have hF := slice_recap (c' := n) (hS.front hn) (Nat.le_refl _) (fun e => by have := (hpn e).1; omega)
  have hB := hS.back hn
  have c0 := hW.cell 0
  have c1 := hW.cell 1
  have f0 := hW.free 0
  obtain ⟨N, hN⟩ : ∃ N, l.length = N := ⟨_, rfl⟩
  rw [hN] at hW hB c0 hn hc
  have g1 : ¬ (N : Int) < (n : Int) := by omega
  have HW := Lib.hid hW
  have HF := Lib.hid hF
  have HB := Lib.hid hB
  have HN := Lib.hid hN
  clear hW hF hB hS hpn hN
  have fin : ∀ v, v = (.slice (if c = n then p else Option.map (fun x => x.add n) p) (N - n) (c - n)) → SliceR W (.slice p n n) (l.take n) ∧ Rdr W (w.setCell ⟨r, 0, none⟩ v) r (l.drop n) ∧ Only w (w.setCell ⟨r, 0, none⟩ v) fun i => i = r := fun v hv => by
    subst hv
    refine ⟨HF.out, ⟨⟨_, _, by rw [List.length_drop, HN.out]; exact HW.out.put 0 _, ?_⟩, hBL.setCell hr _, hr⟩, Only.set w _ _⟩
    rw [List.length_drop, HN.out]
    exact HB.out
  have HFIN := Lib.hid fin
  clear fin
  by_cases hcn : c = n
  · go_enter Tryz.func89, Tryz.ntmps89
    go_wp2
    go_ret
    exact ⟨p, n, rfl, HFIN.out _ (by rw [if_pos hcn, hcn, Nat.sub_self])⟩
  · go_enter Tryz.func89, Tryz.ntmps89
    go_wp2
    go_ret
    exact ⟨p, n, rfl, HFIN.out _ (by rw [if_neg hcn])⟩

set_option maxRecDepth 100000 in
set_option maxHeartbeats 2000000 in
theorem wnumber_calls (W w : World) (r size N : Nat) (l : List (BitVec 8)) (h : Rdr W w r (putN size N ++ l)) (hs : size ≤ 8) (hN : N < 256 ^ size) (h62 : N < 4611686018427387904) (hl : l.length ≤ 90000000) :
    Calls Tryz.prog 78 #[.pointer (some ⟨r, 0, none⟩), .int .i64 size] w fun e w' => e = .returned (.int .i64 N) ∧ Rdr W w' r l ∧ Only w w' fun i => i = r := by
  have HT := Lib.hid (wtake_calls W w r size _ h (by rw [List.length_append, putN_length]; omega))
  have e1 : (putN size N ++ l).take size = putN size N := by rw [List.take_left' (putN_length size N)]
  have e2 : (putN size N ++ l).drop size = l := by rw [List.drop_left' (putN_length size N)]
  have hnum := num_put size N hs hN (by omega)
  rw [e1, e2] at HT
  have HL := Lib.hid (putN_length size N)
  obtain ⟨bs, hbs⟩ : ∃ bs, putN size N = bs := ⟨_, rfl⟩
  rw [hbs] at HT HL hnum
  obtain ⟨x, hx⟩ : ∃ x, numB bs = x := ⟨_, rfl⟩
  rw [hx] at hnum
  have HX := Lib.hid hx
  have HNM := Lib.hid hnum
  have g1 : ¬ (4611686018427387903 : Int) < (x.toNat : Int) := by omega
  have hcv := fun w : World => convert_vu64_int (w := w) x N hnum (by omega)
  clear h hN e1 e2 hbs hx hnum
  go_enter Tryz.func78, Tryz.ntmps78
  go_upto_block 0 with (first
    | (go_at_call 89; refine HT.out.mono ?_; rintro e w1 ⟨ta, tc, rfl, hS, hR, hO⟩)
    | fail)
  have HS := Lib.hid hS
  have HR := Lib.hid hR
  have HO := Lib.hid hO
  clear hS hR hO
  go_wp2
  go_loopw [5, 12] (fun a i wr => ∃ k : Nat, k ≤ size ∧ i = .int .i64 k ∧ a = vu64 (numB (bs.take k)) ∧ w1 = wr) (fun _ i _ => size - (intOf i).toNat)
  case atStart => exact ⟨0, by omega, rfl, rfl, rfl⟩
  case round =>
    obtain ⟨k, hk, rfl, rfl, rfl⟩ := hrel
    by_cases hlt : k < size
    · have i1 : (k : Int) < (size : Int) := by omega
      have i2 : 0 ≤ (k : Int) ∧ (k : Int) < (size : Int) := by omega
      have s2 : IntKind.i64.wrap ((k : Int) + 1) = (k : Int) + 1 := IntWalk.i64_in _ (by omega)
      obtain ⟨y, hy⟩ : ∃ y, bs[k]? = some y := ⟨_, List.getElem?_eq_getElem (by rw [HL.out]; exact hlt)⟩
      obtain ⟨g, o, rfl, hc⟩ : ∃ g o, ta = some ⟨g, o, none⟩ ∧ w1.cell? ⟨g, o + k, none⟩ = some (vu8 y) := by
        rcases HS.out.1.low HR.out.2.1 with ⟨h0, _⟩ | ⟨g, o, c', he, hg, hb⟩
        · rw [h0] at hy; simp at hy
        · injection he with he
          exact ⟨g, o, he, hb k y hy⟩
      have hnx : numB (bs.take (k + 1)) = numB (bs.take k) <<< 8 ||| y.setWidth 64 := by
        rw [List.take_add_one, hy]
        exact numB_add _ _
      obtain ⟨z, hz⟩ : ∃ z, numB (bs.take k) = z := ⟨_, rfl⟩
      rw [hz] at hnx ⊢
      have HZ := Lib.hid hnx
      clear hy hnx hz
      go_wp2
      go_roundw
      case rel => exact ⟨k + 1, by omega, by go_num, by rw [HZ.out] <;> rfl, by first | rfl | trivial⟩
      case measure => simp [intOf]; omega
    · obtain rfl : k = size := by omega
      have i1 : ¬ (k : Int) < (k : Int) := by omega
      rw [List.take_of_length_le (Nat.le_of_eq HL.out), HX.out]
      go_wp2
      go_ret
      exact ⟨rfl, HR.out, HO.out⟩

theorem whole_calls (W w : World) (r : Nat) (h : Rdr W w r []) : Calls Tryz.prog 79 #[.pointer (some ⟨r, 0, none⟩)] w fun e w' => e = .returned (.bool true) ∧ w = w' := by
  obtain ⟨⟨p, c, hW, _⟩, _⟩ := h
  have c0 := hW.cell 0
  have c1 := hW.cell 1
  clear hW
  go_enter Tryz.func79, Tryz.ntmps79
  go_wp2
  go_ret
  exact ⟨rfl, rfl⟩

set_option maxRecDepth 100000 in
theorem text_calls (W w : World) (r : Nat) (f rest : List (BitVec 8)) (h : Rdr W w r (fieldB f ++ rest)) (hf : f.length ≤ 10000000) (hl : rest.length ≤ 10000000) :
    Calls Tryz.prog 80 #[.pointer (some ⟨r, 0, none⟩), .int .i64 4] w fun e w' => ∃ a c, e = .returned (.slice a f.length c) ∧ SliceR W (.slice a f.length c) f ∧ Rdr W w' r rest ∧ Only w w' fun i => i = r := by
  unfold fieldB at h
  rw [List.append_assoc] at h
  have HN := Lib.hid (wnumber_calls W w r 4 f.length (f ++ rest) h (by decide) (by omega) (by omega) (by simp; omega))
  have HT := Lib.hid (fun w' (h : Rdr W w' r (f ++ rest)) => wtake_calls W w' r f.length (f ++ rest) h (by simp))
  clear h
  go_enter Tryz.func80, Tryz.ntmps80
  go_wp2_with (first
    | (go_at_call 89; refine (HT.out w1 hR1).mono ?_; rintro e w2 ⟨ta, tc, rfl, hS, hR, hO⟩)
    | (go_at_call 78; refine HN.out.mono ?_; rintro e w1 ⟨rfl, hR1, hO1⟩)
    | fail)
  go_ret
  rw [List.take_left' rfl] at hS
  rw [List.drop_left' rfl] at hR
  exact ⟨_, _, rfl, hS, hR, (hO1.trans hO).weak fun i _ e => e.elim id id⟩

theorem rdr_new (w : World) (p : Option Addr) (c : Nat) (l : List (BitVec 8)) (h : SliceR w (.slice p l.length c) l) : Rdr w (w.alloc (.cells #[.slice p l.length c, .bool false] 129)) w.heap.size l :=
  ⟨⟨p, c, Whole.new w _ #[.slice p l.length c, .bool false], h⟩, (Below.refl _ _).alloc (Nat.le_refl _) _, Nat.le_refl _⟩

set_option maxRecDepth 100000 in
theorem readint_calls (w : World) (v : Value) (N : Nat) (hv : SliceR w v (putN 8 N)) (hN : N < 4611686018427387904) :
    Calls Tryz.prog 52 #[v] w fun e w' => e = .returned (.tuple #[.int .i64 N, .int .i64 0]) ∧ Below w.heap.size w w' := by
  obtain ⟨p, c, rfl, hc⟩ := hv.2
  have hR := rdr_new w p c _ hv
  have b1 : Below w.heap.size w (w.alloc (.cells #[.slice p (putN 8 N).length c, .bool false] 129)) := (Below.refl _ _).alloc (Nat.le_refl _) _
  have HN := Lib.hid (wnumber_calls w _ w.heap.size 8 N [] (by rw [List.append_nil]; exact hR) (by decide) (by omega) hN (by simp))
  clear hv hR
  go_enter Tryz.func52, Tryz.ntmps52
  go_wp2_with (first
    | (go_at_call 79; refine HW.out.mono ?_; rintro e w3 ⟨rfl, rfl⟩)
    | (go_at_call 78; refine HN.out.mono ?_; rintro e w2 ⟨rfl, hR2, hO2⟩; have HW := Lib.hid (whole_calls w w2 _ hR2))
    | fail)
  go_ret2
  exact ⟨rfl, b1.trans ((hO2.below b1.size fun i _ e => by subst e; exact Nat.le_refl _).mono (Nat.le_refl _))⟩

theorem ListsOwn.poke {w w' : World} {B r : Nat} {v : Value} {bs : List (List (BitVec 8))} {cs : List Value} (h : ListsOwn w B v bs) (hr : Whole w r 129 cs) (ho : Only w w' fun i => i = r) : ListsOwn w' B v bs := by
  obtain ⟨vs, h1, h2, h3⟩ := h.row
  refine ⟨vs, h1, row_only h2 ho fun g hg e => row_ne_whole h2 hr (by decide) (e ▸ hg), fun i x hx => ?_⟩
  obtain ⟨u, hu, hO⟩ := h3 i x hx
  exact ⟨u, hu, row_only hO ho fun g hg e => row_ne_whole hO hr (by decide) (e ▸ hg)⟩
theorem ListsOwn.none (w : World) (B : Nat) : ListsOwn w B (.slice Option.none 0 0) [] := ⟨[], rfl, World.ownsRow_nil _ _ _ _, fun i x hx => by simp at hx⟩

set_option maxRecDepth 100000 in
set_option maxHeartbeats 2000000 in
theorem readfields_calls (w : World) (v : Value) (l : List (List (BitVec 8))) (hv : SliceR w v (fieldsB l)) (hl : l.length ≤ 4096) (hs : sizeF l ≤ 1048576) :
    Calls Tryz.prog 53 #[v] w fun e w' => ∃ u, e = .returned (.tuple #[u, .int .i64 0]) ∧ ListsOwn w' w.heap.size u l ∧ Below w.heap.size w w' := by
  obtain ⟨p, c, rfl, hc⟩ := hv.2
  have hR := rdr_new w p c _ hv
  have b1 : Below w.heap.size w (w.alloc (.cells #[.slice p (fieldsB l).length c, .bool false] 129)) := (Below.refl _ _).alloc (Nat.le_refl _) _
  rw [fieldsB_length] at b1 hR
  obtain ⟨N, hN⟩ : ∃ N, l.length = N := ⟨_, rfl⟩
  obtain ⟨Z, hZ⟩ : ∃ Z, sizeF l = Z := ⟨_, rfl⟩
  have hflat : (l.flatMap fieldB).length ≤ 1048576 := by rw [flat_fieldB]; unfold sizeF at hs; omega
  have HN := Lib.hid (wnumber_calls w _ w.heap.size 4 N (l.flatMap fieldB) (by have h := hR; unfold fieldsB at h; rw [hN] at h; exact h) (by decide) (by omega) (by omega) (by omega))
  rw [hZ] at b1 HN hs
  rw [fieldsB_length, hZ]
  rw [hN] at hl
  have g1 : ¬ (1048576 : Int) < (Z : Int) := by omega
  have g2 : ¬ (4096 : Int) < (N : Int) := by omega
  have HL := Lib.hid hN
  have HS := Lib.hid hs
  have HFL := Lib.hid hflat
  have HZ := Lib.hid hZ
  clear hv hR hN hflat hZ
  go_enter Tryz.func53, Tryz.ntmps53
  go_upto_block 0 with (first
    | (go_at_call 78; refine HN.out.mono ?_; rintro e w2 ⟨rfl, hR2, hO2⟩)
    | fail)
  have hb2 : Below w.heap.size w w2 := b1.trans (hO2.below b1.size fun i _ e => by subst e; exact Nat.le_refl _)
  have HR2 := Lib.hid hR2
  clear hR2 hO2
  obtain ⟨r, hr⟩ : ∃ r, w.heap.size = r := ⟨_, rfl⟩
  rw [hr] at HR2
  simp only [hr]
  go_wp2
  go_loopw [6, 7] (fun u i wr => ∃ (k : Nat) (a : Option Addr) (q c : Nat), k ≤ N ∧ i = .int .i64 k ∧ u = .slice a q c ∧ ListsOwn wr w.heap.size (.slice a q c) (l.take k) ∧ Rdr w wr r ((l.drop k).flatMap fieldB) ∧ Below w.heap.size w wr) (fun _ i _ => N - (intOf i).toNat)
  case atStart => exact ⟨0, _, _, _, by omega, rfl, rfl, ListsOwn.none _ _, HR2.out, hb2⟩
  case round =>
    obtain ⟨k, a, q, c', hk, rfl, rfl, hO, hR, hB⟩ := hrel
    obtain ⟨⟨p2, c2, hW, _⟩, _⟩ := id hR
    have c1 := hW.cell 1
    by_cases hlt : k < N
    · have i1 : (k : Int) < (N : Int) := by omega
      have s2 : IntKind.i64.wrap ((k : Int) + 1) = (k : Int) + 1 := IntWalk.i64_in _ (by omega)
      obtain ⟨f, hf⟩ : ∃ f, l[k]? = some f := ⟨_, List.getElem?_eq_getElem (by rw [HL.out]; exact hlt)⟩
      have hdr : (l.drop k).flatMap fieldB = fieldB f ++ (l.drop (k + 1)).flatMap fieldB := by
        rw [List.drop_eq_getElem_cons (by rw [HL.out]; exact hlt), List.flatMap_cons]
        congr 2
        exact (List.getElem?_eq_some_iff.1 hf).2
      have hdl : (fieldB f).length + ((l.drop (k + 1)).flatMap fieldB).length ≤ 1048576 := by
        rw [← List.length_append, ← hdr]
        refine Nat.le_trans ?_ HFL.out
        rw [flat_fieldB, flat_fieldB, List.map_drop]
        have := List.sum_append (l₁ := (l.map fun f => 4 + f.length).take k) (l₂ := (l.map fun f => 4 + f.length).drop k)
        rw [List.take_append_drop] at this
        omega
      rw [fieldB_length] at hdl
      rw [hdr] at hR
      have hnx : l.take (k + 1) = l.take k ++ [f] := by rw [List.take_add_one, hf]; rfl
      have HT := Lib.hid (text_calls w wr r f _ hR (by omega) (by omega))
      have HF := Lib.hid (And.intro hnx hdl)
      have HO := Lib.hid hO
      have HW := Lib.hid hW
      have HKL := Lib.hid (show (l.take k).length ≤ 4096 from by rw [List.length_take]; omega)
      clear hf hdr hdl hR hnx hO hW
      go_wp2_with (first
        | (refine wpList_append_gen (f := fun x : Value => [x]) (n := 1) (w := w7) (by rfl) _ _ 69 30 (by rfl) _ 24 Tryz.underlying69 info_bytes rfl (by decide) (by decide) (fun _ => rfl) w.heap.size _ _ vs [.slice a6 k6 c6] (by rfl) hrow7 (by rfl) hu7 (fun b hb y hy => by (obtain rfl : b = Value.slice a6 k6 c6 := by simpa using hb); (obtain rfl : y = Value.slice a6 k6 c6 := by simpa using hy); rfl) (by have := HKL.out; simp only [List.length_cons, List.length_nil]; omega) B7.size ?_; intro v8 w8 O8 G8 _; obtain ⟨a8, k8, c8, h8⟩ := slice_any O8; subst h8)
        | (refine wpList_slice_cell (by rfl) 69 30 _ (by rfl) (.slice a6 k6 c6) (by rfl) rfl Tryz.underlying69 zero_bytes_sl ?_; have hu7 := src_new (f := fun x : Value => [x]) (n := 1) w6 30 (.slice a6 k6 c6); have b7 := (Below.refl w6.heap.size w6).alloc (Nat.le_refl _) (.cells #[.slice a6 k6 c6] 30); have LO7 := LO6.low b7; have O7 := row_low O6 b7; have B7 := B6.trans (b7.mono B6.size); have R7 := R6.low b7; simp only [List.toArray] at hu7; generalize w6.alloc (.cells #[.slice a6 k6 c6] 30) = w7 at hu7 b7 LO7 O7 B7 R7 ⊢; obtain ⟨vs, hvs, hrow7, hbod⟩ := LO7.row; rw [← hvs] at HKL)
        | (go_at_call 32; refine (clone_calls w5 _ f (hS5.low B5).1 (by have := HF.out.2; omega)).mono ?_; rintro e w6 ⟨_, rfl, ⟨a6, k6, c6, rfl⟩, O6, b6⟩; have LO6 := LO5.low b6; have B6 := B5.trans (b6.mono B5.size); have R6 := hR5.low b6)
        | (go_at_call 80; refine HT.out.mono ?_; rintro e w5 ⟨ta, tc, rfl, hS5, hR5, hO5⟩; have LO5 := HO.out.poke HW.out hO5; have B5 := hB.trans (hO5.below hB.size fun i _ e => by rw [e, ← hr]; exact Nat.le_refl _))
        | fail)
      have O7' : Own w7 w.heap.size (.slice a6 k6 c6) f := own_down B5.size O7
      have hLO := ListsOwn.added hvs hbod (Below.refl _ _) hrow7 O7' G8 O8
      have B8 := B7.grown G8 B7.size (fun i hi => own_ge hrow7 hi)
      obtain ⟨⟨p7, c7, hW7, hS7⟩, _, hr7⟩ := R7
      have hR8 : Rdr w w8 r ((l.drop (k + 1)).flatMap fieldB) := ⟨⟨p7, c7, hW7.grown G8 (fun e => row_ne_whole hrow7 hW7 (by decide) e.symm), hS7⟩, B8, hr7⟩
      go_roundw
      case rel => exact ⟨k + 1, _, _, _, by omega, by go_num, rfl, by rw [HF.out.1]; exact hLO, hR8, B8⟩
      case measure => simp [intOf]; omega
    · obtain rfl : k = N := by omega
      have i1 : ¬ (k : Int) < (k : Int) := by omega
      have hR9 : Rdr w wr r [] := by
        rw [List.drop_of_length_le (Nat.le_of_eq HL.out)] at hR
        exact hR
      have HWH := Lib.hid (whole_calls w wr r hR9)
      have HO := Lib.hid hO
      clear hR hW hR9 hO
      go_wp2_with (first
        | (go_at_call 79; refine HWH.out.mono ?_; rintro e w3 ⟨rfl, hw3⟩)
        | fail)
      subst hw3
      go_ret2
      refine ⟨_, rfl, ?_, hB⟩
      have h := HO.out
      rwa [List.take_of_length_le (Nat.le_of_eq HL.out)] at h

end Go.Proofs.YtmmlpbepaefamaaGreatDoor
