/- A number's eight bytes: wire.Int and the reference's Int. -/
import Derived.Test.YtglcingpolpkdaaDoorJoinD
import Derived.Test.YtglcingpolpkdaaDoorGRow
namespace Go.Proofs.YtglcingpolpkdaaDoor
open Go.RowKit

/-- A number's eight bytes, the highest first. -/
def intB (n : Int) : List (BitVec 8) := eightBytes (BitVec.ofInt 64 n)
theorem intB_length (n : Int) : (intB n).length = 8 := eightBytes_length _
def okInt (n : Int) : Bool := decide (0 ≤ n) && decide (n ≤ 4611686018427387903)
theorem flat_u8 (xs : List (BitVec 8)) : xs.flatMap (fun x => [vu8 x]) = xs.map vu8 := by
  induction xs with
  | nil => rfl
  | cons x xs ih => rw [List.flatMap_cons, ih]; rfl
theorem own_bytes {w : World} {B : Nat} {v : Value} {xs : List (BitVec 8)} : Own w B v xs ↔ w.ownsRow B 5 1 v xs.length (xs.flatMap fun x => [vu8 x]) := by
  rw [flat_u8]
  rfl
theorem zero_u8 : ∃ i, Tryd.prog.info? 5 = some i ∧ i.zero = some (.int .u8 0) ∧ i.size = 1 ∧ i.bytes = 1 := info_of (by kernel_rfl)

/-- 'append(b, x)', b laid bytes. -/
theorem wpList_append_laid {w : World} {ops : Array Oper} {rest : List Oper} {o : Oper} {a : Act} {Q : Exit → Act → World → Prop} (hgd : o.guard = none) (s x : Operand)
    (ho : o.op = .call { callee := .builtin .append, args := #[s, x], argTypes := #[91, 91] })
    (B g : Nat) (v : Value) (xs : List (BitVec 8)) (hs : a.eval s = v) (hown : Own w B v xs) (c : Value) (y : BitVec 8) (hc : c = vu8 y)
    (hx : a.eval x = .slice (some ⟨g, 0, none⟩) 1 1) (hg : w.heap.size = g) (hlen : xs.length ≤ 1000) (hbase : B ≤ w.heap.size)
    (h : ∀ v' w', Own w' B v' (xs ++ [y]) → w.grownBy w' v.ownBlock → wpList Tryd.prog ops Q rest (a.put o.dst v') w') :
    wpList Tryd.prog ops Q (o :: rest) a (w.alloc (.cells #[c] 5)) := by
  subst hg hc
  refine wpList_append_gen (w := w.alloc (.cells #[vu8 y] 5)) (f := fun x => [vu8 x]) (n := 1) hgd s x 91 5 ho _ 1 Tryd.underlying91 zero_u8 rfl (by decide) (by decide) (fun _ => rfl) B _ _ xs [y] hs (own_bytes.1 (hown.alloc _)) hx (src_new (f := fun x => [vu8 x]) (n := 1) w 5 y) (fun b _ u hu => by simp at hu; rw [hu]; rfl) (by simp; omega) (by simp; omega) fun v' w' h1 h2 _ => h v' w' (own_bytes.2 h1) (grown_trans (grown_alloc (World.grownBy.refl _ _) _) h2)

theorem intB_next (n : Int) (k : Nat) (hk : k < 8) : (intB n).take k ++ [((BitVec.ofInt 64 n) >>> (56 - 8 * k)).setWidth 8] = (intB n).take (k + 1) := (eightBytes_take _ k hk).symm

set_option maxRecDepth 100000 in
set_option maxHeartbeats 1000000 in
theorem put8_calls (w : World) (g : Nat) (n : Int) (hc : w.cell? ⟨g, 0, none⟩ = some (.int .i64 n)) : Calls Tryd.prog 36 #[.slice none 0 0, .int .i64 8, .slice (some ⟨g, 0, none⟩) 1 1] w fun e w' => ∃ v, e = .returned v ∧ Own w' w.heap.size v (intB n) ∧ Below w.heap.size w w' := by
  go_enter Tryd.func36, Tryd.ntmps36
  go_wp2
  go_loopw [0, 12] (fun v i wr => (i = .int .i64 0 ∧ v = .slice none 0 0 ∧ w = wr) ∨ (i = .int .i64 1 ∧ Own wr w.heap.size v (intB n) ∧ Below w.heap.size w wr)) (fun _ i _ => (1 - intOf i).toNat)
  case atStart => exact .inl ⟨rfl, rfl, rfl⟩
  case round =>
    rcases hrel with ⟨rfl, rfl, rfl⟩ | ⟨rfl, hO, hB⟩
    · go_wp2
      go_loopw [0, 9] (fun v i wr => ∃ k : Nat, k ≤ 8 ∧ i = .int .i64 (7 - (k : Int)) ∧ Own wr w.heap.size v ((intB n).take k) ∧ Below w.heap.size w wr) (fun _ i _ => (intOf i + 1).toNat)
      case atStart => exact ⟨0, by omega, rfl, Own.nil _ _, Below.refl _ _⟩
      case round =>
        clear hc
        obtain ⟨k, hk, rfl, hR, hB⟩ := hrel
        by_cases hlt : k < 8
        · have i1 : (0 : Int) ≤ 7 - (k : Int) := by omega
          have s0 : IntKind.i64.wrap (8 * (7 - (k : Int))) = 8 * (7 - (k : Int)) := IntWalk.i64_in _ (by omega)
          have s1 : IntKind.i64.wrap (7 - (k : Int) - 1) = 7 - (k : Int) - 1 := IntWalk.i64_in _ (by omega)
          have t1 : (0 : Int) ≤ 8 * (7 - (k : Int)) := by omega
          have t3 : (8 * (7 - (k : Int))).toNat = 56 - 8 * k := by omega
          have t2 : w.heap.size ≤ wr.heap.size := hB.size
          have hlen : ((intB n).take k).length ≤ 8 := by rw [List.length_take, intB_length]; omega
          have HX := Lib.hid (intB_next n k hlt)
          have HH := Lib.hid (fun (x : Nat) hx => hR.high x hx)
          go_wp2_with (at_builtin; refine wpList_append_laid (w := wr) (by rfl) _ _ (by rfl) w.heap.size _ _ _ (by rfl) hR _ ((BitVec.ofInt 64 n >>> (56 - 8 * k)).setWidth 8) (by rfl) (by rfl) (by rfl) (by omega) t2 ?_; intro v1 w1 hO1 hG1)
          go_roundw
          case rel =>
            refine ⟨k + 1, by omega, by go_num, ?_, hB.grown hG1 hB.size HH.out⟩
            rw [← HX.out]
            exact hO1
          case measure => simp [intOf]; omega
        · obtain rfl : k = 8 := by omega
          have i1 : ¬ (0 : Int) ≤ 7 - ((8 : Nat) : Int) := by omega
          rw [List.take_of_length_le (by rw [intB_length]; omega)] at hR
          go_wp2
          go_roundw
          case rel => exact .inr ⟨rfl, hR, hB⟩
          case measure => simp [intOf]
    · go_wp2
      go_ret
      exact ⟨_, rfl, hO, hB⟩

set_option maxRecDepth 100000 in
set_option maxHeartbeats 1000000 in
theorem lay8_calls (w : World) (n : BitVec 64) : Calls Tryd.prog 40 #[vu64 n, .int .i64 8] w fun e w' => ∃ v, e = .returned v ∧ Own w' w.heap.size v (eightBytes n) ∧ Below w.heap.size w w' := by
  go_enter Tryd.func40, Tryd.ntmps40
  go_wp2
  go_loopw [5, 6] (fun v i wr => ∃ k : Nat, k ≤ 8 ∧ i = .int .i64 (7 - (k : Int)) ∧ Own wr w.heap.size v ((eightBytes n).take k) ∧ Below w.heap.size w wr) (fun _ i _ => (intOf i + 1).toNat)
  case atStart => exact ⟨0, by omega, rfl, Own.nil _ _, Below.refl _ _⟩
  case round =>
    obtain ⟨k, hk, rfl, hR, hB⟩ := hrel
    by_cases hlt : k < 8
    · have i1 : (0 : Int) ≤ 7 - (k : Int) := by omega
      have s0 : IntKind.i64.wrap (8 * (7 - (k : Int))) = 8 * (7 - (k : Int)) := IntWalk.i64_in _ (by omega)
      have s1 : IntKind.i64.wrap (7 - (k : Int) - 1) = 7 - (k : Int) - 1 := IntWalk.i64_in _ (by omega)
      have t1 : (0 : Int) ≤ 8 * (7 - (k : Int)) := by omega
      have t3 : (8 * (7 - (k : Int))).toNat = 56 - 8 * k := by omega
      have t2 : w.heap.size ≤ wr.heap.size := hB.size
      have hlen : ((eightBytes n).take k).length ≤ 8 := by rw [List.length_take, eightBytes_length]; omega
      have HX := Lib.hid (eightBytes_take n k hlt)
      have HH := Lib.hid (fun (x : Nat) hx => hR.high x hx)
      go_wp2_with (at_builtin; refine wpList_append_one (by rfl) _ _ (by rfl) w.heap.size _ _ (by rfl) hR _ ((n >>> (56 - 8 * k)).setWidth 8) (by rfl) (by rfl) (by omega) t2 ?_; intro v1 w1 hO1 hG1)
      go_roundw
      case rel =>
        refine ⟨k + 1, by omega, by go_num, ?_, hB.grown hG1 hB.size HH.out⟩
        rw [HX.out]
        exact hO1
      case measure => simp [intOf]; omega
    · obtain rfl : k = 8 := by omega
      have i1 : ¬ (0 : Int) ≤ 7 - ((8 : Nat) : Int) := by omega
      rw [List.take_of_length_le (by rw [eightBytes_length]; omega)] at hR
      go_wp2
      go_ret
      exact ⟨_, rfl, hR, hB⟩

/-- What Int tells: the bytes and 0, or none and 2. -/
def IntEnd (w w' : World) (n : Int) (v : Value) : Prop := Own w' w.heap.size v (if okInt n = true then intB n else []) ∧ Below w.heap.size w w'

set_option maxRecDepth 100000 in
set_option maxHeartbeats 1000000 in
theorem int_calls (w : World) (n : Int) : Calls Tryd.prog 28 #[.int .i64 n] w fun e w' => ∃ v, e = .returned (.tuple #[v, .int .i64 (if okInt n = true then 0 else 2)]) ∧ IntEnd w w' n v := by
  unfold IntEnd
  by_cases h0 : n < 0
  · have hk : okInt n = false := by unfold okInt; simp; omega
    rw [hk]
    go_enter Tryd.func28, Tryd.ntmps28
    go_wp2
    go_ret2
    exact ⟨_, rfl, Own.nil _ _, Below.refl _ _⟩
  · by_cases h1 : 4611686018427387903 < n
    · have hk : okInt n = false := by unfold okInt; simp; omega
      rw [hk]
      go_enter Tryd.func28, Tryd.ntmps28
      go_wp2
      go_ret2
      exact ⟨_, rfl, Own.nil _ _, Below.refl _ _⟩
    · have hk : okInt n = true := by unfold okInt; simp; omega
      rw [hk]
      have hA : Below w.heap.size w (w.alloc (.cells #[.int .i64 n] 3)) := (Below.refl _ _).alloc (Nat.le_refl _) _
      have HP := Lib.hid (put8_calls (w.alloc (.cells #[.int .i64 n] 3)) w.heap.size n ((Whole.new w 3 #[.int .i64 n]).cell 0))
      clear hk
      go_enter Tryd.func28, Tryd.ntmps28
      go_wp2_with (go_at_call 36; refine HP.out.mono ?_; rintro e w1 ⟨v, rfl, hO, hB⟩)
      go_ret2
      exact ⟨v, rfl, own_down hA.size hO, hA.trans (hB.mono hA.size)⟩

set_option maxRecDepth 100000 in
set_option maxHeartbeats 1000000 in
theorem refint_calls (w : World) (n : Int) : Calls Tryd.prog 30 #[.int .i64 n] w fun e w' => ∃ v, e = .returned (.tuple #[v, .int .i64 (if okInt n = true then 0 else 2)]) ∧ IntEnd w w' n v := by
  unfold IntEnd
  by_cases h0 : n < 0
  · have hk : okInt n = false := by unfold okInt; simp; omega
    rw [hk]
    go_enter Tryd.func30, Tryd.ntmps30
    go_wp2
    go_ret2
    exact ⟨_, rfl, Own.nil _ _, Below.refl _ _⟩
  · by_cases h1 : 4611686018427387903 < n
    · have hk : okInt n = false := by unfold okInt; simp; omega
      rw [hk]
      go_enter Tryd.func30, Tryd.ntmps30
      go_wp2
      go_ret2
      exact ⟨_, rfl, Own.nil _ _, Below.refl _ _⟩
    · have hk : okInt n = true := by unfold okInt; simp; omega
      rw [hk]
      have HP := Lib.hid (lay8_calls w (BitVec.ofInt 64 n))
      clear hk
      go_enter Tryd.func30, Tryd.ntmps30
      go_wp2_with (go_at_call 40; refine HP.out.mono ?_; rintro e w1 ⟨v, rfl, hO, hB⟩)
      go_ret2
      exact ⟨v, rfl, hO, hB⟩

end Go.Proofs.YtglcingpolpkdaaDoor
