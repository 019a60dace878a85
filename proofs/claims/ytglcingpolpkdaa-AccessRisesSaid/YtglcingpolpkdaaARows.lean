/- Rows of calls: one more; two exchanged. -/
import Derived.Test.YtglcingpolpkdaaALong
import Derived.Laws.AppendOwnNone
import Derived.Deep.RegionHeld3
import Derived.Deep.RegionHeldLaw
namespace Go.Proofs.Ytglcingpolpkdaa
open Go.RowKit

theorem info_ac : ∃ i, Try.prog.info? 38 = some i ∧ i.zero = some (.agg #[.int .u8 0, .string ⟨#[]⟩, .string ⟨#[]⟩, .string ⟨#[]⟩, .string ⟨#[]⟩, .int .i64 0, .string ⟨#[]⟩, .bool false, .int .i64 0, .string ⟨#[]⟩]) ∧ i.size = 10 ∧ i.bytes = 128 := info_of (by kernel_rfl)

theorem below_setCells {B : Nat} {a : World} (g : Nat) (hg : B ≤ g) : ∀ (vs : List Value) (o : Nat) (w : World), Below B a w → Below B a (w.setCells g o vs)
  | [], _, _, h => h
  | v :: vs, o, _, h => below_setCells g hg vs (o + 1) _ (h.setCell (p := ⟨g, o, none⟩) hg v)
theorem size_cells (g : Nat) : ∀ (vs : List Value) (o : Nat) (w : World), (w.setCells g o vs).heap.size = w.heap.size
  | [], _, _ => rfl
  | v :: vs, o, w => (size_cells g vs (o + 1) _).trans (by simp)

theorem flat_inv {α : Type} {f : α → List Value} {n : Nat} (hf : ∀ a, (f a).length = n) : ∀ (l : List α) (j : Nat) (x : Value), (l.flatMap f)[j]? = some x → ∃ i r a, j = i * n + r ∧ l[i]? = some a ∧ (f a)[r]? = some x
  | [], j, x, h => by simp at h
  | a :: l, j, x, h => by
    rw [List.flatMap_cons] at h
    by_cases hj : j < (f a).length
    · rw [List.getElem?_append_left hj] at h
      exact ⟨0, j, a, by simp, rfl, h⟩
    · rw [List.getElem?_append_right (by omega)] at h
      obtain ⟨i, r, b, h1, h2, h3⟩ := flat_inv hf l _ x h
      refine ⟨i + 1, r, b, ?_, by simpa using h2, h3⟩
      rw [hf] at h1 hj
      rw [Nat.succ_mul]
      omega
theorem flat_length (l : List Ac) : (l.flatMap Ac.cells).length = l.length * 10 := by
  induction l with
  | nil => rfl
  | cons a l ih => rw [List.flatMap_cons, List.length_append, ih, cells_ac, List.length_cons, Nat.succ_mul, Nat.add_comm]

/-- Calls in a block of their own: what can be appended. -/
def SrcA (w : World) (v : Value) (l : List Ac) : Prop :=
  (v = .slice none 0 0 ∧ l = []) ∨ ∃ g c, v = .slice (some ⟨g, 0, none⟩) l.length c ∧ g < w.heap.size ∧ ∀ i a, l[i]? = some a → w.rangeAt g (i * 10) a.cells
theorem SrcA.acts {w : World} {v : Value} {l : List Ac} (h : SrcA w v l) : ActsAt w v l := by
  rcases h with ⟨rfl, rfl⟩ | ⟨g, c, rfl, hg, hc⟩
  · exact .inl ⟨none, 0, rfl, rfl⟩
  · exact .inr ⟨g, 0, c, rfl, hg, fun i a ha => by rw [Nat.zero_add]; exact hc i a ha⟩
theorem SrcA.low {w w' : World} {v : Value} {l : List Ac} (h : SrcA w v l) (hb : Below w.heap.size w w') : SrcA w' v l := by
  rcases h with h | ⟨g, c, rfl, hg, hc⟩
  · exact .inl h
  · exact .inr ⟨g, c, rfl, Nat.lt_of_lt_of_le hg hb.size, fun i a ha j u hj => (hb.cell (p := ⟨g, i * 10 + j, none⟩) hg).trans (hc i a ha j u hj)⟩
theorem OwnA.src {w : World} {B : Nat} {v : Value} {l : List Ac} (h : OwnA w B v l) : SrcA w v l := by
  rcases row_shape h with ⟨rfl, hn⟩ | ⟨g, cap, rfl, _, hg, hc⟩
  · exact .inl ⟨rfl, List.eq_nil_of_length_eq_zero hn⟩
  · exact .inr ⟨g, cap, rfl, hg, fun i a ha j u hj => hc _ _ (flat_at cells_ac l i a j u ha hj)⟩
theorem SrcA.new (w : World) (a : Ac) : SrcA (w.alloc (.cells a.cells.toArray 38)) (.slice (some ⟨w.heap.size, 0, none⟩) 1 1) [a] := by
  refine .inr ⟨w.heap.size, 1, rfl, by simp, fun i b hb j u hj => ?_⟩
  have hi : i = 0 := by
    have := (List.getElem?_eq_some_iff.1 hb).1
    simpa using this
  subst hi
  have : a = b := by simpa using hb
  subst this
  rw [Nat.zero_mul, Nat.zero_add]
  rw [(Whole.new w 38 a.cells.toArray).cell]
  exact hj

theorem wpList_append_acts {w : World} {ops : Array Oper} {rest : List Oper} {o : Oper} {a : Act} {Q : Exit → Act → World → Prop} (hgd : o.guard = none) (s x : Operand)
    (ho : o.op = .call { callee := .builtin .append, args := #[s, x], argTypes := #[35, 35] })
    (B : Nat) (v u : Value) (l m : List Ac) (hs : a.eval s = v) (hown : OwnA w B v l) (hx : a.eval x = u) (hu : SrcA w u m) (hlen : l.length + m.length ≤ 1000000) (hbase : B ≤ w.heap.size)
    (h : ∀ v' w', OwnA w' B v' (l ++ m) → w.grownBy w' v.ownBlock → Moved w v v' → wpList Try.prog ops Q rest (a.put o.dst v') w') :
    wpList Try.prog ops Q (o :: rest) a w := by
  obtain ⟨i, hi, hz, hsz, hby⟩ := info_ac
  rcases hu with ⟨rfl, rfl⟩ | ⟨g, c, rfl, hg, hc⟩
  · refine wpList_append_own_none hgd s x _ ho B _ i 10 Try.underlying35 hi v l.length (l.flatMap Ac.cells) hs hown hx (h v w ?_ (World.grownBy.refl _ _) (.inl rfl))
    rw [List.append_nil]
    exact hown
  · refine wpList_append_own_at w hgd s x _ ho B _ i _ 10 128 Try.underlying35 hi hz hsz hby rfl (by decide) v l.length (l.flatMap Ac.cells) hs hown ⟨g, 0, none⟩ m.length c (m.flatMap Ac.cells) hx (flat_length m) (fun j y hj => ?_) (fun y hy => ?_) (by simp only [maxLen]; omega) (by omega) hbase fun v' w' h1 h2 _ h4 => h v' w' ?_ h2 (h4.imp id fun h => ⟨_, h, Nat.le_refl _⟩)
    · obtain ⟨k, r, b, rfl, hb, hr⟩ := flat_inv cells_ac m j y hj
      have := hc k b hb r y hr
      rwa [Addr.add_mid, Nat.zero_add]
    · obtain ⟨b, _, hb⟩ := List.mem_flatMap.1 hy
      exact cells_one b y hb
    · unfold OwnA
      rw [List.length_append, List.flatMap_append]
      exact h1

/-- Two rows of the law's own. -/
structure Two (W w : World) (u v : Value) (l m : List Ac) : Prop where
  a : OwnA w W.heap.size u l
  b : OwnA w W.heap.size v m
  ne : ∀ g, u.ownBlock = some g → v.ownBlock ≠ some g
  below : Below W.heap.size W w
theorem Two.symm {W w : World} {u v : Value} {l m : List Ac} (h : Two W w u v l m) : Two W w v u m l := ⟨h.b, h.a, fun g h1 h2 => h.ne g h2 h1, h.below⟩
theorem Two.on {W w w' : World} {u v : Value} {l m : List Ac} (h : Two W w u v l m) (hb : Below w.heap.size w w') : Two W w' u v l m := ⟨row_low h.a hb, row_low h.b hb, h.ne, h.below.trans (hb.mono h.below.size)⟩
theorem Two.more {W w w' : World} {u v u' : Value} {l l' m : List Ac} (h : Two W w u v l m) (ho : OwnA w' W.heap.size u' l') (hg : w.grownBy w' u.ownBlock) (hm : Moved w u u') : Two W w' u' v l' m := by
  have o := Only.of_grown hg
  refine ⟨ho, row_only h.b o fun g hg e => h.ne g e hg, fun g h1 h2 => ?_, h.below.trans (o.below h.below.size fun i _ e => own_ge h.a e)⟩
  rcases hm with hm | ⟨k, hk, hl⟩
  · exact h.ne g (hm ▸ h1) h2
  · rw [hk] at h1
    injection h1 with h1
    have := row_lt h.b h2
    omega

/-- Calls in block g, which can be written over. -/
def RowA (w : World) (g : Nat) (l : List Ac) : Prop := ∀ i a, l[i]? = some a → w.rangeAt g (i * 10) a.cells ∧ w.there g (i * 10) 10
theorem RowA.set {w : World} {g x : Nat} {l : List Ac} (h : RowA w g l) (hx : x < l.length) (a : Ac) : RowA (w.setCells g (x * 10) a.cells) g (l.set x a) := by
  intro i b hb
  have hi : i < l.length := by
    have := (List.getElem?_eq_some_iff.1 hb).1
    simpa using this
  obtain ⟨h1, h2⟩ := h i _ (List.getElem?_eq_getElem hi)
  have hl := cells_ac a
  generalize hcs : a.cells = cs at hl ⊢
  refine ⟨?_, World.there_setCells h2 g (x * 10) cs⟩
  by_cases hix : i = x
  · rw [hix, List.getElem?_set_self hx] at hb
    have hb := Option.some.inj hb
    rw [← hb, hcs, hix]
    rw [hix] at h2
    exact World.rangeAt_setCells_same w g (x * 10) cs (hl ▸ h2)
  · rw [List.getElem?_set_ne (Ne.symm hix), List.getElem?_eq_getElem hi] at hb
    have hb := Option.some.inj hb
    rw [← hb]
    exact World.rangeAt_setCells_apart h1 g (x * 10) cs (.inr (by rw [cells_ac, hl]; omega))
theorem OwnA.row {w : World} {B g n c : Nat} {l : List Ac} (h : OwnA w B (.slice (some ⟨g, 0, none⟩) n c) l) : RowA w g l := fun i a ha => by
  rcases h.2 with ⟨he, _⟩ | ⟨g', cap, cur, he, hb, hg, hle, hm, hsz, htk⟩
  · cases he
  · injection he with he _ _
    injection he with he
    injection he with he _ _
    subst he
    have hi : i < l.length := (List.getElem?_eq_some_iff.1 ha).1
    have hcell : ∀ j u, a.cells[j]? = some u → w.cell? ⟨g, i * 10 + j, none⟩ = some u := fun j u hj => by
      rw [cell_of_row w g _ cur _ _ hg]
      have h1 := flat_at cells_ac l i a j u ha hj
      have hj10 : j < 10 := by
        have := (List.getElem?_eq_some_iff.1 hj).1
        rwa [cells_ac] at this
      rw [← htk, List.getElem?_take, if_pos (by omega)] at h1
      simpa using h1
    exact ⟨hcell, fun j hj => ⟨by rw [hcell j _ (List.getElem?_eq_getElem (by rw [cells_ac]; exact hj))]; rfl, frozen_of_row w g _ cur _ hg⟩⟩

end Go.Proofs.Ytglcingpolpkdaa
