/- Bytes that a call owns: a slice that grows by append; and bytes that are handed in. -/
import Derived.Test.YtmmlpbepaefamaaGreatDoorProg
import Derived.OwnWalk
import Derived.Laws.AppendOwnNone
import Derived.Test.YtmmlpbepaefamaaGreatDoorMemX5
namespace Go.Proofs.YtmmlpbepaefamaaGreatDoor
open Go.RowKit

/-- The slice v holds the bytes xs, in a block of the call's own. -/
def Own (w : World) (B : Nat) (v : Value) (xs : List (BitVec 8)) : Prop := w.ownsRow B 5 1 v xs.length (xs.map vu8)

section
variable {w w' : World} {B : Nat} {v : Value} {xs : List (BitVec 8)}
theorem Own.nil (w : World) (B : Nat) : Own w B (.slice none 0 0) [] := World.ownsRow_nil w B _ _
theorem Own.kept {row : Option Nat} (h : Own w B v xs) (hg : w.grownBy w' row) (hne : v.ownBlock = none ∨ v.ownBlock ≠ row) : Own w' B v xs := World.ownsRow.kept h hg hne
theorem Own.drew (h : Own w B v xs) : Own w.drew B v xs := World.ownsRow.drew h
theorem Own.drewN (h : Own w B v xs) (n : Nat) : Own (w.drewN n) B v xs := h
theorem Own.alloc (h : Own w B v xs) (o : Obj) : Own (w.alloc o) B v xs := World.ownsRow.alloc h o
theorem Own.lt (h : Own w B v xs) : ∀ k, v.ownBlock = some k → B ≤ k ∧ k < w.heap.size := World.ownsRow.lt h
theorem Own.shape (h : Own w B v xs) : (v = .slice none 0 0 ∧ xs = []) ∨ ∃ g cap, v = .slice (some ⟨g, 0, none⟩) xs.length cap ∧ B ≤ g ∧ g < w.heap.size ∧ BytesAt w g 0 xs ∧ xs.length ≤ cap ∧ cap ≤ maxLen := by
  rcases h.2 with ⟨rfl, hn⟩ | ⟨g, cap, cur, rfl, hb, hg, hle, hm, _⟩
  · exact .inl ⟨rfl, List.eq_nil_of_length_eq_zero hn⟩
  · refine .inr ⟨g, cap, rfl, hb, (Array.getElem?_eq_some_iff.1 hg).1, fun j x hx => ?_, hle, hm⟩
    have := World.ownsRow.cells h (g := g) rfl j (vu8 x) (by simp [hx])
    rw [Nat.zero_add]
    rwa [Addr.add_lit, Nat.zero_add] at this
theorem Own.full (h : Own w B v xs) (hx : xs ≠ []) : ∃ g cap, v = .slice (some ⟨g, 0, none⟩) xs.length cap ∧ B ≤ g ∧ g < w.heap.size ∧ BytesAt w g 0 xs ∧ xs.length ≤ cap ∧ cap ≤ maxLen := by
  rcases h.shape with ⟨_, rfl⟩ | h
  · exact absurd rfl hx
  · exact h
end

theorem Own.high {w : World} {B : Nat} {v : Value} {xs : List (BitVec 8)} (h : Own w B v xs) : ∀ k, v.ownBlock = some k → B ≤ k := fun k hk => (h.lt k hk).1

/-- A slice of bytes, wherever it lies. -/
def SliceIs (w : World) (sl : Value) (ys : List (BitVec 8)) : Prop :=
  (ys = [] ∧ (sl = .slice none 0 0 ∨ ∃ ad c, sl = .slice (some ad) 0 c)) ∨ ∃ b o c, sl = .slice (some ⟨b, o, none⟩) ys.length c ∧ b < w.heap.size ∧ BytesAt w b o ys

theorem Own.slice {w : World} {B : Nat} {v : Value} {xs : List (BitVec 8)} (h : Own w B v xs) : SliceIs w v xs := by
  rcases h.shape with ⟨rfl, rfl⟩ | ⟨g, cap, rfl, _, hl, hb, _⟩
  · exact .inl ⟨rfl, .inl rfl⟩
  · exact .inr ⟨g, 0, cap, rfl, hl, hb⟩

theorem SliceIs.below {w w' : World} {B : Nat} {sl : Value} {ys : List (BitVec 8)} (h : SliceIs w sl ys) (hb : Below B w w') (hB : ∀ b o c, sl = .slice (some ⟨b, o, none⟩) ys.length c → b < B) : SliceIs w' sl ys := by
  rcases h with h | ⟨b, o, c, rfl, hl, hy⟩
  · exact .inl h
  · exact .inr ⟨b, o, c, rfl, Nat.lt_of_lt_of_le hl hb.size, hy.below hb (hB b o c rfl)⟩
theorem SliceIs.low {w w' : World} {sl : Value} {ys : List (BitVec 8)} (h : SliceIs w sl ys) (hb : Below w.heap.size w w') : SliceIs w' sl ys := by
  rcases h with h | ⟨b, o, c, rfl, hl, hy⟩
  · exact .inl h
  · exact .inr ⟨b, o, c, rfl, Nat.lt_of_lt_of_le hl hb.size, hy.below hb hl⟩

theorem one_u8 (ys : List (BitVec 8)) : ∀ u ∈ ys.map vu8, u.oneCell' = true := fun u hu => by
  obtain ⟨x, _, rfl⟩ := List.mem_map.1 hu
  rfl

theorem info_u8 : ∃ i, Tryz.prog.info? 5 = some i ∧ i.zero = some (.int .u8 0) ∧ i.size = 1 ∧ i.bytes = 1 := by
  have h : (Tryz.prog.info? 5).map (fun i => (i.zero, i.size, i.bytes)) = some (some (.int .u8 0), 1, 1) := by kernel_rfl
  cases hi : Tryz.prog.info? 5 with
  | none => rw [hi] at h; cases h
  | some i =>
    rw [hi] at h
    simp only [Option.map_some, Option.some.injEq, Prod.mk.injEq] at h
    exact ⟨i, rfl, h.1, h.2.1, h.2.2⟩

/-- 'append(s, x...)', s the call's own. -/
theorem wpList_append_bytes {w : World} {ops : Array Oper} {rest : List Oper} {o : Oper} {a : Act} {Q : Exit → Act → World → Prop} (hgd : o.guard = none) (s x : Operand)
    (ho : o.op = .call { callee := .builtin .append, args := #[s, x], argTypes := #[30, 30] })
    (B : Nat) (v : Value) (xs : List (BitVec 8)) (hs : a.eval s = v) (hown : Own w B v xs)
    (sl : Value) (ys : List (BitVec 8)) (hx : a.eval x = sl) (hy : SliceIs w sl ys)
    (hlen : xs.length + ys.length ≤ 140737488355328) (hbase : B ≤ w.heap.size)
    (h : ∀ v' w', Own w' B v' (xs ++ ys) → w.grownBy w' v.ownBlock → wpList Tryz.prog ops Q rest (a.put o.dst v') w') : wpList Tryz.prog ops Q (o :: rest) a w := by
  obtain ⟨i, hi, hz, hsz, hby⟩ := info_u8
  have use : ∀ ad c, sl = .slice (some ad) ys.length c → (∀ j u, (ys.map vu8)[j]? = some u → w.cell? (ad.add j) = some u) → wpList Tryz.prog ops Q (o :: rest) a w := fun ad c hsl hcells =>
    wpList_append_own w hgd s x _ ho B _ i _ 1 1 Tryz.underlying30 hi hz hsz hby rfl (by decide) v xs.length (xs.map vu8) hs hown ad ys.length c (ys.map vu8) (hx.trans hsl) (by simp) hcells (one_u8 ys)
      (by simp only [maxLen]; omega) (by omega) hbase fun v' w' h1 h2 _ => h v' w' (by
        unfold Own
        rw [List.length_append, List.map_append]
        exact h1) h2
  rcases hy with ⟨rfl, rfl | ⟨ad, c, rfl⟩⟩ | ⟨b, of, c, rfl, _, hb⟩
  · refine wpList_append_own_none hgd s x _ ho B _ i 1 Tryz.underlying30 hi v xs.length (xs.map vu8) hs hown hx (h v w ?_ (World.grownBy.refl _ _))
    rw [List.append_nil]
    exact hown
  · exact use ad c rfl fun j u hu => by simp at hu
  · refine use ⟨b, of, none⟩ c rfl fun j u hu => ?_
    rw [List.getElem?_map] at hu
    rw [Addr.add_lit]
    cases hj : ys[j]? with
    | none => simp [hj] at hu
    | some y =>
      simp [hj] at hu
      rw [← hu]
      exact hb j y hj

theorem BytesAt.new (w : World) (t : TypeId) (y : BitVec 8) : BytesAt (w.alloc (.cells #[vu8 y] t)) w.heap.size 0 [y] := fun j x hx => by
  obtain ⟨rfl, rfl⟩ : j = 0 ∧ x = y := by
    have hj : j < 1 := (List.getElem?_eq_some_iff.1 hx).1
    obtain rfl : j = 0 := by omega
    simp at hx
    exact ⟨rfl, hx.symm⟩
  rw [(Whole.new w t #[vu8 x]).cell]
  rfl

theorem SliceIs.one (w : World) (t : TypeId) (c : Value) (y : BitVec 8) (hc : c = vu8 y) : SliceIs (w.alloc (.cells #[c] t)) (.slice (some ⟨w.heap.size, 0, none⟩) 1 1) [y] := by
  subst hc
  exact .inr ⟨w.heap.size, 0, 1, rfl, by simp, BytesAt.new w t y⟩

/-- 'append(s, c)', s the call's own. -/
theorem wpList_append_one {w : World} {ops : Array Oper} {rest : List Oper} {o : Oper} {a : Act} {Q : Exit → Act → World → Prop} (hgd : o.guard = none) (s x : Operand)
    (ho : o.op = .call { callee := .builtin .append, args := #[s, x], argTypes := #[30, 30] })
    (B : Nat) (v : Value) (xs : List (BitVec 8)) (hs : a.eval s = v) (hown : Own w B v xs) (c : Value) (y : BitVec 8) (hc : c = vu8 y)
    (hx : a.eval x = .slice (some ⟨w.heap.size, 0, none⟩) 1 1) (hlen : xs.length + 1 ≤ 140737488355328) (hbase : B ≤ w.heap.size)
    (h : ∀ v' w', Own w' B v' (xs ++ [y]) → w.grownBy w' v.ownBlock → wpList Tryz.prog ops Q rest (a.put o.dst v') w') :
    wpList Tryz.prog ops Q (o :: rest) a (w.alloc (.cells #[c] 5)) :=
  wpList_append_bytes hgd s x ho B v xs hs (hown.alloc _) _ [y] hx (SliceIs.one w _ c y hc) hlen (by simp; omega) fun v' w' h1 h2 =>
    h v' w' h1 (grown_trans (grown_alloc (World.grownBy.refl _ _) _) h2)

/-- The same at a step of a region that draws its order. -/
theorem step_append_bytes {w : World} {ops : Array Oper} {o : Oper} {a : Act} {K : Act → World → Prop} {Q : Exit → Act → World → Prop} {E : Prop} (hgd : o.guard = none) (s x : Operand)
    (ho : o.op = .call { callee := .builtin .append, args := #[s, x], argTypes := #[30, 30] })
    (B : Nat) (v : Value) (xs : List (BitVec 8)) (hs : a.eval s = v) (hown : Own w B v xs)
    (b of c : Nat) (ys : List (BitVec 8)) (hx : a.eval x = .slice (some ⟨b, of, none⟩) ys.length c) (hy : BytesAt w b of ys)
    (hlen : xs.length + ys.length ≤ 140737488355328) (hbase : B ≤ w.heap.size)
    (h : ∀ v' w', Own w' B v' (xs ++ ys) → w.grownBy w' v.ownBlock → K (a.put o.dst v') w') :
    if Region.wanted o (yielded ops a.tmps) = true then Oper.wp Tryz.prog o a w K Q else E := by
  obtain ⟨i, hi, hz, hsz, hby⟩ := info_u8
  have hw : Region.wanted o (yielded ops a.tmps) = true := by simp [Region.wanted, hgd]
  rw [if_pos hw]
  refine wp_append_own w s x _ ho B _ i _ 1 1 Tryz.underlying30 hi hz hsz hby rfl (by decide) v xs.length (xs.map vu8) hs hown ⟨b, of, none⟩ ys.length c (ys.map vu8) hx (by simp) (fun j u hu => ?_) (one_u8 ys)
      (by simp only [maxLen]; omega) (by omega) hbase fun v' w' h1 h2 _ => h v' w' (by
        unfold Own
        rw [List.length_append, List.map_append]
        exact h1) h2
  rw [List.getElem?_map] at hu
  rw [Addr.add_lit]
  cases hj : ys[j]? with
  | none => simp [hj] at hu
  | some y =>
    simp [hj] at hu
    rw [← hu]
    exact hy j y hj

end Go.Proofs.YtmmlpbepaefamaaGreatDoor
