/- The disk's files: what they hold, and how they lie in memory. -/
import Derived.Deep.DeepCutAuto
import Derived.Deep.CutBlock
import Derived.StillTailTactics
import Derived.Lib.SliceRun
import Derived.Test.YtmmlpbepaefamaaGreatDoorGRowX3
import Derived.Test.YtmmlpbepaefamaaGreatDoorMemX6
namespace Go.Proofs.YtmmlpbepaefamaaGreatDoor
open Go.RowKit

/-- An operation under way. -/
inductive Dop where
  | add (b : List (BitVec 8))
  | cut (n : Nat)
def Dop.run : Dop → List (BitVec 8) → List (BitVec 8)
  | .add b, l => l ++ b
  | .cut n, l => l.take n
def runOps (l : List (BitVec 8)) (ops : List Dop) : List (BitVec 8) := ops.foldl (fun l o => o.run l) l
/-- No cut is longer than what there is; nothing is longer than a file may be. -/
def okOps : List (BitVec 8) → List Dop → Prop
  | _, [] => True
  | l, o :: os => (∀ n, o = .cut n → n ≤ l.length) ∧ (o.run l).length ≤ 1048576 ∧ okOps (o.run l) os
structure Dfile where
  safe : List (BitVec 8)
  ops : List Dop
  fresh : Bool
def Dfile.content (f : Dfile) : List (BitVec 8) := runOps f.safe f.ops
def Dfile.ok (f : Dfile) : Prop := f.safe.length ≤ 1048576 ∧ okOps f.safe f.ops
theorem runOps_add (l : List (BitVec 8)) (ops : List Dop) (o : Dop) : runOps l (ops ++ [o]) = o.run (runOps l ops) := by
  unfold runOps
  rw [List.foldl_append]
  rfl
theorem okOps_len : ∀ (ops : List Dop) (l : List (BitVec 8)), l.length ≤ 1048576 → okOps l ops → (runOps l ops).length ≤ 1048576
  | [], _, h, _ => h
  | o :: os, l, _, ⟨_, h2, h3⟩ => okOps_len os (o.run l) h2 h3
theorem okOps_add : ∀ (ops : List Dop) (l : List (BitVec 8)) (o : Dop), okOps l ops → (∀ n, o = .cut n → n ≤ (runOps l ops).length) → (o.run (runOps l ops)).length ≤ 1048576 → okOps l (ops ++ [o])
  | [], _, _, _, h1, h2 => ⟨h1, h2, trivial⟩
  | p :: os, l, o, ⟨a, b, c⟩, h1, h2 => ⟨a, b, okOps_add os (p.run l) o c h1 h2⟩
theorem okOps_take : ∀ (ops : List Dop) (l : List (BitVec 8)) (k : Nat), okOps l ops → okOps l (ops.take k)
  | _, _, 0, _ => trivial
  | [], _, _ + 1, _ => trivial
  | _ :: os, _, k + 1, ⟨a, b, c⟩ => ⟨a, b, okOps_take os _ k c⟩
theorem okOps_at : ∀ (ops : List Dop) (l : List (BitVec 8)) (k : Nat) (o : Dop), okOps l ops → ops[k]? = some o → (∀ n, o = .cut n → n ≤ (runOps l (ops.take k)).length) ∧ (runOps l (ops.take (k + 1))).length ≤ 1048576
  | [], _, _, _, _, h => by simp at h
  | p :: os, l, 0, o, ⟨a, b, c⟩, h => by
    obtain rfl : p = o := by simpa using h
    exact ⟨a, by simpa [runOps] using b⟩
  | p :: os, l, k + 1, o, ⟨a, b, c⟩, h => okOps_at os (p.run l) k o c (by simpa using h)
theorem runOps_step (l : List (BitVec 8)) (ops : List Dop) (k : Nat) (o : Dop) (h : ops[k]? = some o) : runOps l (ops.take (k + 1)) = o.run (runOps l (ops.take k)) := by
  rw [List.take_add_one, h, ← runOps_add]
  rfl

/-- An operation's cells: whether it cuts, to how much, its bytes. -/
def opC (p : Dop × Value) : List Value := match p.1 with
  | .add _ => [.bool false, .int .i64 0, p.2]
  | .cut n => [.bool true, .int .i64 n, p.2]
theorem opC_length (p : Dop × Value) : (opC p).length = 3 := by
  unfold opC
  split <;> rfl
/-- The operation's bytes lie in a block of its own, or it has none. -/
def OpAt (w : World) (B : Nat) (p : Dop × Value) : Prop := match p.1 with
  | .add b => Own w B p.2 b
  | .cut _ => p.2 = .slice none 0 0
theorem OpAt.own {w : World} {B : Nat} {p : Dop × Value} (h : OpAt w B p) : ∃ l, Own w B p.2 l := by
  unfold OpAt at h
  split at h
  · exact ⟨_, h⟩
  · rw [h]
    exact ⟨[], Own.nil _ _⟩
theorem OpAt.only {w w' : World} {B : Nat} {S : Nat → Prop} {p : Dop × Value} (h : OpAt w B p) (ho : Only w w' S) (hs : ∀ g, p.2.ownBlock = some g → ¬ S g) : OpAt w' B p := by
  unfold OpAt at h ⊢
  split at h
  · exact row_only h ho hs
  · exact h
theorem OpAt.one {w : World} {B : Nat} {p : Dop × Value} (h : OpAt w B p) : ∀ y ∈ opC p, y.oneCell' = true := by
  obtain ⟨l, hl⟩ := h.own
  obtain ⟨a, k, c, hv⟩ := slice_any hl
  intro y hy
  unfold opC at hy
  split at hy
  · simp at hy
    rcases hy with rfl | rfl | rfl
    · rfl
    · rfl
    · rw [hv]; rfl
  · simp at hy
    rcases hy with rfl | rfl | rfl
    · rfl
    · rfl
    · rw [hv]; rfl

/-- A file in memory; own: which file a block is of. -/
structure FileAt (w : World) (B : Nat) (own : Nat → Option Nat) (fb : Nat) (f : Dfile) (sv ov : Value) (l : List (Dop × Value)) : Prop where
  box : Whole w fb 121 [sv, ov, .bool f.fresh]
  safe : Own w B sv f.safe
  ops : l.map (·.1) = f.ops
  row : w.ownsRow B 123 3 ov l.length (l.flatMap opC)
  each : ∀ p ∈ l, OpAt w B p
  geb : B ≤ fb
  me : own fb = some fb
  mySafe : ∀ g, sv.ownBlock = some g → own g = some fb
  myOps : ∀ g, ov.ownBlock = some g → own g = some fb
  myEach : ∀ p ∈ l, ∀ g, p.2.ownBlock = some g → own g = some fb
  apart : ∀ p ∈ l, ∀ g, p.2.ownBlock = some g → sv.ownBlock ≠ some g
  okf : f.ok

theorem FileAt.only {w w' : World} {B fb : Nat} {own own' : Nat → Option Nat} {f : Dfile} {sv ov : Value} {l : List (Dop × Value)} {S : Nat → Prop} (h : FileAt w B own fb f sv ov l) (ho : Only w w' S) (hs : ∀ i, own i = some fb → ¬ S i) (he : ∀ i, i < w.heap.size → own' i = own i) : FileAt w' B own' fb f sv ov l :=
  ⟨h.box.only ho (hs _ h.me), row_only h.safe ho (fun g hg => hs _ (h.mySafe g hg)), h.ops, row_only h.row ho (fun g hg => hs _ (h.myOps g hg)), fun p hp => (h.each p hp).only ho (fun g hg => hs _ (h.myEach p hp g hg)), h.geb,
   (he _ h.box.lt).trans h.me, fun g hg => (he _ (row_lt h.safe hg)).trans (h.mySafe g hg), fun g hg => (he _ (row_lt h.row hg)).trans (h.myOps g hg),
   fun p hp g hg => by obtain ⟨l', hl'⟩ := (h.each p hp).own; exact (he _ (row_lt hl' hg)).trans (h.myEach p hp g hg), h.apart, h.okf⟩
theorem FileAt.low {w w' : World} {B fb : Nat} {own : Nat → Option Nat} {f : Dfile} {sv ov : Value} {l : List (Dop × Value)} (h : FileAt w B own fb f sv ov l) (hb : Below w.heap.size w w') : FileAt w' B own fb f sv ov l :=
  h.only (Only.of_below hb (fun _ => False)) (fun _ _ e => e) (fun _ _ => rfl)

set_option maxRecDepth 100000 in
set_option maxHeartbeats 1000000 in
theorem clone_calls (w : World) (v : Value) (l : List (BitVec 8)) (hv : SliceIs w v l) (hlen : l.length ≤ 140737488355328) :
    Calls Tryz.prog 32 #[v] w fun e w' => ∃ u, e = .returned u ∧ (∃ a n c, u = .slice a n c) ∧ Own w' w.heap.size u l ∧ Below w.heap.size w w' := by
  have b1 : Below w.heap.size w (w.alloc (.cells #[] 5)) := (Below.refl _ _).alloc (Nat.le_refl _) _
  have hne : ∀ ad n c, v = .slice (some ad) n c → Calls Tryz.prog 32 #[v] w fun e w' => ∃ u, e = .returned u ∧ (∃ a n c, u = .slice a n c) ∧ Own w' w.heap.size u l ∧ Below w.heap.size w w' := by
    rintro ad n c rfl
    have hv2 := hv.low b1
    have q0 := Lib.run_eql_slice_nil (P := Tryz.prog) w 30 5 (some ad) n c 0 0 Tryz.underlying30
    have hO : Own (w.alloc (.cells #[] 5)) w.heap.size (.slice (some ⟨w.heap.size, 0, none⟩) 0 0) [] := World.ownsRow_lit w #[] 0 (Nat.le_refl _) (by decide) (by simp)
    go_enter Tryz.func32, Tryz.ntmps32
    go_wp2_with (first
      | (refine wpList_append_bytes (w := w.alloc (.cells #[] 5)) (by rfl) _ _ (by rfl) w.heap.size _ [] (by rfl) hO _ l (by rfl) hv2 (by simpa using hlen) b1.size ?_; intro v3 w3 O3 G3)
      | fail)
    go_ret
    refine ⟨v3, rfl, slice_any O3, by simpa using O3, b1.grown G3 b1.size (fun i hi => Nat.le_of_eq (by simpa [Value.ownBlock] using hi))⟩
  rcases hv with ⟨rfl, rfl | ⟨ad, c, rfl⟩⟩ | ⟨b, o, c, rfl, _, _⟩
  · have q0 := Lib.run_eql_slice_nil (P := Tryz.prog) w 30 5 none 0 0 0 0 Tryz.underlying30
    go_enter Tryz.func32, Tryz.ntmps32
    go_wp2
    go_ret
    exact ⟨_, rfl, ⟨_, _, _, rfl⟩, Own.nil _ _, Below.refl _ _⟩
  · exact hne _ _ _ rfl
  · exact hne _ _ _ rfl

/-- 'append(s, x...)', s the call's own: the slice that comes lies where it lay, or is new. -/
theorem wp_append_bytesM {w : World} {o : Oper} {a : Act} {K : Act → World → Prop} {Q : Exit → Act → World → Prop} (s x : Operand)
    (ho : o.op = .call { callee := .builtin .append, args := #[s, x], argTypes := #[30, 30] })
    (B : Nat) (v : Value) (xs : List (BitVec 8)) (hs : a.eval s = v) (hown : Own w B v xs)
    (sl : Value) (ys : List (BitVec 8)) (hx : a.eval x = sl) (hy : SliceIs w sl ys)
    (hlen : xs.length + ys.length ≤ 140737488355328) (hbase : B ≤ w.heap.size)
    (h : ∀ v' w', Own w' B v' (xs ++ ys) → w.grownBy w' v.ownBlock → Moved w v v' → K (a.put o.dst v') w') : o.wp Tryz.prog a w K Q := by
  obtain ⟨i, hi, hz, hsz, hby⟩ := info_u8
  have use : ∀ ad c, sl = .slice (some ad) ys.length c → (∀ j u, (ys.map vu8)[j]? = some u → w.cell? (ad.add j) = some u) → o.wp Tryz.prog a w K Q := fun ad c hsl hcells =>
    wp_append_at w s x _ ho B _ i _ 1 1 Tryz.underlying30 hi hz hsz hby rfl (by decide) v xs.length (xs.map vu8) hs hown ad ys.length c (ys.map vu8) (hx.trans hsl) (by simp) hcells (one_u8 ys)
      (by simp only [maxLen]; omega) (by omega) hbase fun v' w' h1 h2 h3 => h v' w' (by
        unfold Own
        rw [List.length_append, List.map_append]
        exact h1) h2 h3
  rcases hy with ⟨rfl, rfl | ⟨ad, c, rfl⟩⟩ | ⟨b, of, c, rfl, _, hb⟩
  · have hrun := run_append_owned_none (P := Tryz.prog) (w := w) B 30 o.type 5 i 1 Tryz.underlying30 hi v xs.length (xs.map vu8) hown
    unfold Oper.wp execOp
    simp only [ho, resolve, invoke, builtin, Sem.run_bind, Sem.run_pure, Result.andThen_ok, List.map_toArray, List.map_cons, List.map_nil, hs, hx, hrun]
    exact h v w (by simpa using hown) (World.grownBy.refl _ _) (.inl rfl)
  · exact use ad c rfl fun j u hu => by simp at hu
  · refine use ⟨b, of, none⟩ c rfl fun j u hu => ?_
    rw [List.getElem?_map] at hu
    rw [Addr.add_lit]
    cases hj : ys[j]? with
    | none => simp [hj] at hu
    | some y =>
      simp [hj] at hu
      rw [← hu]
      exact hb j y hj
theorem wpList_append_bytesM {w : World} {ops : Array Oper} {rest : List Oper} {o : Oper} {a : Act} {Q : Exit → Act → World → Prop} (hgd : o.guard = none) (s x : Operand)
    (ho : o.op = .call { callee := .builtin .append, args := #[s, x], argTypes := #[30, 30] })
    (B : Nat) (v : Value) (xs : List (BitVec 8)) (hs : a.eval s = v) (hown : Own w B v xs)
    (sl : Value) (ys : List (BitVec 8)) (hx : a.eval x = sl) (hy : SliceIs w sl ys)
    (hlen : xs.length + ys.length ≤ 140737488355328) (hbase : B ≤ w.heap.size)
    (h : ∀ v' w', Own w' B v' (xs ++ ys) → w.grownBy w' v.ownBlock → Moved w v v' → wpList Tryz.prog ops Q rest (a.put o.dst v') w') : wpList Tryz.prog ops Q (o :: rest) a w :=
  wpList_plain hgd fun _ hK => wp_append_bytesM s x ho B v xs hs hown sl ys hx hy hlen hbase fun v' w' h1 h2 h3 => hK _ _ (h v' w' h1 h2 h3)

/-- What an operation makes of bytes of the call's own. -/
def After (w w' : World) (B : Nat) (v v' : Value) (l : List (BitVec 8)) : Prop := Own w' B v' l ∧ (Only w w' fun i => v.ownBlock = some i) ∧ (∀ g, v'.ownBlock = some g → v.ownBlock = some g ∨ w.heap.size ≤ g)

theorem Own.front {w : World} {B n k : Nat} {a : Option Addr} {c : Nat} {l : List (BitVec 8)} (h : Own w B (.slice a k c) l) (hn : n ≤ l.length) : Own w B (.slice a n c) (l.take n) := by
  rcases h.2 with ⟨he, h0⟩ | ⟨g, cap, cur, he, hb, hg, hle, hm, hsz, hcur⟩
  · injection he with h1 h2 h3
    subst h1 h3
    have : l = [] := List.eq_nil_of_length_eq_zero h0
    subst this
    obtain rfl : n = 0 := by simpa using hn
    exact Own.nil _ _
  · injection he with h1 h2 h3
    subst h1 h3
    have hl : (l.take n).length = n := by rw [List.length_take]; omega
    refine ⟨by simp, .inr ⟨g, c, cur, by rw [hl], hb, hg, by rw [hl]; omega, hm, hsz, ?_⟩⟩
    rw [hl, Nat.mul_one, List.map_take, ← hcur]
    rw [List.take_take, Nat.mul_one, Nat.min_eq_left hn]

theorem slice_look {w : World} {v : Value} {l : List (BitVec 8)} (h : SliceIs w v l) : ∃ a n c, v = .slice a n c := by
  rcases h with ⟨rfl, rfl | ⟨ad, c, rfl⟩⟩ | ⟨b, o, c, rfl, _, _⟩ <;> exact ⟨_, _, _, rfl⟩

set_option maxRecDepth 100000 in
set_option maxHeartbeats 1000000 in
theorem after_add (w : World) (B : Nat) (v bv : Value) (l b : List (BitVec 8)) (h : Own w B v l) (hb : SliceIs w bv b) (hlen : l.length + b.length ≤ 140737488355328) (hB : B ≤ w.heap.size) :
    Calls Tryz.prog 69 #[.agg #[.bool false, .int .i64 0, bv], v] w fun e w' => ∃ v', e = .returned v' ∧ (∃ a n c, v' = .slice a n c) ∧ After w w' B v v' (l ++ b) := by
  obtain ⟨a1, k1, c1, rfl⟩ := slice_any h
  obtain ⟨a2, k2, c2, rfl⟩ := slice_look hb
  have b1 : Below w.heap.size w (w.alloc (.cells #[.bool false, .int .i64 0, .slice a2 k2 c2] 123)) := (Below.refl _ _).alloc (Nat.le_refl _) _
  have h1 := row_low h b1
  have h2 := hb.low b1
  go_enter Tryz.func69, Tryz.ntmps69
  go_wp2_with (first
    | (refine wpList_append_bytesM (w := w.alloc (.cells #[.bool false, .int .i64 0, .slice a2 k2 c2] 123)) (by rfl) _ _ (by rfl) B _ l (by rfl) h1 _ b (by rfl) h2 hlen (Nat.le_trans hB b1.size) ?_; intro v3 w3 O3 G3 M3)
    | fail)
  go_ret
  refine ⟨v3, rfl, slice_any O3, O3, ((Only.of_below b1 (fun _ => False)).trans (Only.of_grown G3)).weak (fun i _ hi => hi.elim False.elim id), fun g hg => ?_⟩
  rcases M3 with M3 | ⟨g', M3, hg'⟩
  · exact .inl (M3 ▸ hg)
  · rw [M3] at hg
    injection hg with hg
    exact .inr (hg ▸ Nat.le_trans b1.size hg')

set_option maxRecDepth 100000 in
set_option maxHeartbeats 1000000 in
theorem after_cut (w : World) (B n : Nat) (v : Value) (l : List (BitVec 8)) (h : Own w B v l) (hn : n ≤ l.length) :
    Calls Tryz.prog 69 #[.agg #[.bool true, .int .i64 n, .slice none 0 0], v] w fun e w' => ∃ v', e = .returned v' ∧ (∃ a n c, v' = .slice a n c) ∧ After w w' B v v' (l.take n) := by
  obtain ⟨a1, c1, hv, hc⟩ : ∃ a c, v = .slice a l.length c ∧ l.length ≤ c := by
    rcases Own.shape h with ⟨rfl, rfl⟩ | ⟨g, cap, rfl, _, _, _, hc, _⟩
    · exact ⟨_, _, rfl, Nat.le_refl _⟩
    · exact ⟨_, _, rfl, hc⟩
  subst hv
  have b1 : Below w.heap.size w (w.alloc (.cells #[.bool true, .int .i64 n, .slice none 0 0] 123)) := (Below.refl _ _).alloc (Nat.le_refl _) _
  have h1 := Own.front (row_low h b1) hn
  have i1 : (0 : Int) ≤ (n : Int) := by omega
  have i2 : (n : Int) ≤ (c1 : Int) := by omega
  go_enter Tryz.func69, Tryz.ntmps69
  go_wp2
  go_ret
  refine ⟨_, rfl, ⟨_, _, _, rfl⟩, h1, Only.of_below b1 _, fun g hg => ?_⟩
  have hg2 : (Value.slice a1 n c1).ownBlock = some g := hg
  exact .inl (by cases a1 with | none => cases hg2 | some a => exact hg2)

end Go.Proofs.YtmmlpbepaefamaaGreatDoor

/- A file's size and its content. -/
namespace Go.Proofs.YtmmlpbepaefamaaGreatDoor
open Go.RowKit

/-- The k-th operation of a file. -/
theorem FileAt.op {w : World} {B fb n c k : Nat} {own : Nat → Option Nat} {f : Dfile} {sv : Value} {l : List (Dop × Value)} {a : Option Addr} (h : FileAt w B own fb f sv (.slice a n c) l) {p : Dop × Value} (hp : l[k]? = some p) :
    ∃ g, a = some ⟨g, 0, none⟩ ∧ w.rangeAt g (k * 3) (opC p) ∧ OpAt w B p ∧ f.ops[k]? = some p.1 := by
  obtain ⟨g, hg, hr⟩ := own_at opC_length h.row hp
  exact ⟨g, hg, hr, h.each p (List.mem_of_getElem? hp), by rw [← h.ops, List.getElem?_map, hp]; rfl⟩
theorem FileAt.slice {w : World} {B fb : Nat} {own : Nat → Option Nat} {f : Dfile} {sv ov : Value} {l : List (Dop × Value)} (h : FileAt w B own fb f sv ov l) : ∃ a c, ov = .slice a f.ops.length c := by
  obtain ⟨a, c, he⟩ := slice_of_row h.row
  exact ⟨a, c, by rw [he, ← h.ops, List.length_map]⟩
theorem FileAt.count {w : World} {B fb : Nat} {own : Nat → Option Nat} {f : Dfile} {sv ov : Value} {l : List (Dop × Value)} (h : FileAt w B own fb f sv ov l) : l.length = f.ops.length := by rw [← h.ops, List.length_map]

set_option maxRecDepth 100000 in
set_option maxHeartbeats 2000000 in
theorem size_calls (w : World) (B fb : Nat) (own : Nat → Option Nat) (f : Dfile) (sv ov : Value) (l : List (Dop × Value)) (h : FileAt w B own fb f sv ov l) (hlen : f.ops.length ≤ 100000) :
    Calls Tryz.prog 76 #[.pointer (some ⟨fb, 0, none⟩)] w fun e w' => e = .returned (.int .i64 f.content.length) ∧ Below w.heap.size w w' := by
  obtain ⟨sa, sc, hsv⟩ := slice_of_row h.safe
  obtain ⟨oa, oc, hov⟩ := h.slice
  subst hsv hov
  have c0 := h.box.cell 0
  have c1 := h.box.cell 1
  obtain ⟨N, hN⟩ : ∃ n, f.ops.length = n := ⟨_, rfl⟩
  rw [hN] at h c1 hlen
  have HF := Lib.hid h
  have HN := Lib.hid hN
  clear h hN
  go_enter Tryz.func76, Tryz.ntmps76
  go_wp2
  clear c0 c1
  go_loopw [3, 16] (fun x i wr => ∃ k : Nat, k ≤ N ∧ i = .int .i64 k ∧ x = .int .i64 (runOps f.safe (f.ops.take k)).length ∧ Below w.heap.size w wr) (fun _ i _ => N - (intOf i).toNat)
  case atStart => exact ⟨0, by omega, rfl, by rw [List.take_zero]; rfl, Below.refl _ _⟩
  case round =>
    obtain ⟨k, hk, rfl, rfl, hB⟩ := hrel
    by_cases hlt : k < N
    · obtain ⟨p, hp⟩ : ∃ p, l[k]? = some p := ⟨_, List.getElem?_eq_getElem (by rw [HF.out.count, HN.out]; exact hlt)⟩
      obtain ⟨g, rfl, hr, ho, hok⟩ := (HF.out.low hB).op hp
      have i1 : (k : Int) < (N : Int) := by omega
      have i2 : 0 ≤ (k : Int) ∧ (k : Int) < (N : Int) := by omega
      have b2 : IntKind.i64.wrap ((k : Int) + 1) = (k : Int) + 1 := IntWalk.i64_in _ (by omega)
      have hst := runOps_step f.safe f.ops k _ hok
      have hmx := (okOps_at f.ops f.safe k _ HF.out.okf.2 hok)
      obtain ⟨X, hX⟩ : ∃ x, runOps f.safe (f.ops.take k) = x := ⟨_, rfl⟩
      rw [hX] at hst hmx ⊢
      have HST := Lib.hid (And.intro hst (And.intro hmx.2 hmx.1))
      clear hX hp hok hst hmx
      have c0 := hr 0
      have c1 := hr 1
      have c2 := hr 2
      obtain ⟨o, bv⟩ := p
      cases o with
      | add b =>
        obtain ⟨ba, bc, hbv⟩ := slice_of_row (show Own wr B bv b from ho)
        subst hbv
        have c0 := c0 _ rfl
        have c1 := c1 _ rfl
        have c2 := c2 _ rfl
        have b4 : IntKind.i64.wrap ((X.length : Int) + (b.length : Int)) = (X.length : Int) + (b.length : Int) := IntWalk.i64_in _ (by have := HST.out.2.1; rw [HST.out.1] at this; simp [Dop.run] at this; omega)
        simp only [Nat.add_zero] at c0
        have hB2 := hB.trans (((Below.refl wr.heap.size wr).alloc (Nat.le_refl _) (.cells #[.bool false, .int .i64 0, .slice ba b.length bc] 123)).mono hB.size)
        clear hr ho
        go_wp2
        go_roundw
        case rel => exact ⟨k + 1, by omega, by go_num, by rw [HST.out.1]; simp [Dop.run], hB2⟩
        case measure => simp [intOf]; omega
      | cut n =>
        have hbv : bv = .slice Option.none 0 0 := ho
        subst hbv
        have c0 := c0 _ rfl
        have c1 := c1 _ rfl
        have c2 := c2 _ rfl
        simp only [Nat.add_zero] at c0
        have hB2 := hB.trans (((Below.refl wr.heap.size wr).alloc (Nat.le_refl _) (.cells #[.bool true, .int .i64 n, .slice Option.none 0 0] 123)).mono hB.size)
        clear hr ho
        go_wp2
        go_roundw
        case rel => exact ⟨k + 1, by omega, by go_num, by rw [HST.out.1]; simp only [Dop.run, List.length_take]; rw [Nat.min_eq_left (HST.out.2.2 n rfl)], hB2⟩
        case measure => simp [intOf]; omega
    · obtain rfl : k = N := by omega
      have i1 : ¬ (k : Int) < (k : Int) := by omega
      rw [List.take_of_length_le (Nat.le_of_eq HN.out)]
      go_wp2
      go_ret
      exact ⟨rfl, hB⟩

set_option maxRecDepth 100000 in
set_option maxHeartbeats 2000000 in
theorem content_calls (w : World) (B fb : Nat) (own : Nat → Option Nat) (f : Dfile) (sv ov : Value) (l : List (Dop × Value)) (h : FileAt w B own fb f sv ov l) (hlen : f.ops.length ≤ 100000) :
    Calls Tryz.prog 50 #[.pointer (some ⟨fb, 0, none⟩)] w fun e w' => ∃ u, e = .returned u ∧ Own w' w.heap.size u f.content ∧ Below w.heap.size w w' := by
  obtain ⟨sa, sc, hsv⟩ := slice_of_row h.safe
  obtain ⟨oa, oc, hov⟩ := h.slice
  subst hsv hov
  have c0 := h.box.cell 0
  have c1 := h.box.cell 1
  obtain ⟨N, hN⟩ : ∃ n, f.ops.length = n := ⟨_, rfl⟩
  rw [hN] at h c1 hlen
  have HF := Lib.hid h
  have HN := Lib.hid hN
  have HCL := Lib.hid (clone_calls w _ f.safe (Own.slice h.safe) (by have := h.okf.1; omega))
  clear h hN
  go_enter Tryz.func50, Tryz.ntmps50
  go_upto_region 2 with (first
    | (go_at_call 32; refine HCL.out.mono ?_; rintro e w1 ⟨_, rfl, ⟨ua, un, uc, rfl⟩, O1, b1⟩)
    | fail)
  have c1' := (b1.cell (p := ⟨fb, 1, none⟩) HF.out.box.lt).trans c1
  clear c0 c1
  go_wp2
  clear c1'
  go_loopw [3, 16] (fun x i wr => ∃ (k : Nat) (ua : Option Addr) (un uc : Nat), k ≤ N ∧ i = .int .i64 k ∧ x = .slice ua un uc ∧ Own wr w.heap.size (.slice ua un uc) (runOps f.safe (f.ops.take k)) ∧ Below w.heap.size w wr) (fun _ i _ => N - (intOf i).toNat)
  case atStart => exact ⟨0, _, _, _, by omega, rfl, rfl, by rw [List.take_zero]; exact O1, b1⟩
  case round =>
    clear O1 b1
    obtain ⟨k, ua, un, uc, hk, rfl, rfl, hO, hB⟩ := hrel
    by_cases hlt : k < N
    · obtain ⟨p, hp⟩ : ∃ p, l[k]? = some p := ⟨_, List.getElem?_eq_getElem (by rw [HF.out.count, HN.out]; exact hlt)⟩
      obtain ⟨g, rfl, hr, ho, hok⟩ := (HF.out.low hB).op hp
      have i1 : (k : Int) < (N : Int) := by omega
      have i2 : 0 ≤ (k : Int) ∧ (k : Int) < (N : Int) := by omega
      have b2 : IntKind.i64.wrap ((k : Int) + 1) = (k : Int) + 1 := IntWalk.i64_in _ (by omega)
      have hst := runOps_step f.safe f.ops k _ hok
      have hmx := (okOps_at f.ops f.safe k _ HF.out.okf.2 hok)
      obtain ⟨X, hX⟩ : ∃ x, runOps f.safe (f.ops.take k) = x := ⟨_, rfl⟩
      rw [hX] at hst hmx hO
      have HST := Lib.hid (And.intro hst (And.intro hmx.2 hmx.1))
      clear hX hp hok hst hmx
      have c0 := hr 0
      have c1 := hr 1
      have c2 := hr 2
      obtain ⟨o, bv⟩ := p
      cases o with
      | add b =>
        obtain ⟨ba, bc, hbv⟩ := slice_of_row (show Own wr B bv b from ho)
        subst hbv
        have c0 := c0 _ rfl
        have c1 := c1 _ rfl
        have c2 := c2 _ rfl
        simp only [Nat.add_zero] at c0
        have b3 : Below wr.heap.size wr (wr.alloc (.cells #[.bool false, .int .i64 0, .slice ba b.length bc] 123)) := (Below.refl _ _).alloc (Nat.le_refl _) _
        have HAF := Lib.hid (after_add (wr.alloc (.cells #[.bool false, .int .i64 0, .slice ba b.length bc] 123)) w.heap.size _ _ X b (row_low hO b3) ((Own.slice ho).low b3) (by have := HST.out.2.1; rw [HST.out.1] at this; simp [Dop.run] at this; omega) (Nat.le_trans hB.size b3.size))
        have hB3 := hB.trans (b3.mono hB.size)
        have hge := fun i hi => own_ge hO (x := i) hi
        clear hr ho hO b3
        go_wp2_with (first
          | (go_at_call 69; refine HAF.out.mono ?_; rintro e w4 ⟨_, rfl, ⟨a4, n4, c4, rfl⟩, O4, G4, _⟩)
          | fail)
        go_roundw
        case rel => exact ⟨k + 1, _, _, _, by omega, by go_num, rfl, by rw [HST.out.1]; exact O4, hB3.trans ((G4.below hB3.size (fun i _ hi => hge i hi)))⟩
        case measure => simp [intOf]; omega
      | cut n =>
        have hbv : bv = .slice Option.none 0 0 := ho
        subst hbv
        have c0 := c0 _ rfl
        have c1 := c1 _ rfl
        have c2 := c2 _ rfl
        simp only [Nat.add_zero] at c0
        have b3 : Below wr.heap.size wr (wr.alloc (.cells #[.bool true, .int .i64 n, .slice Option.none 0 0] 123)) := (Below.refl _ _).alloc (Nat.le_refl _) _
        have HAF := Lib.hid (after_cut (wr.alloc (.cells #[.bool true, .int .i64 n, .slice Option.none 0 0] 123)) w.heap.size n _ X (row_low hO b3) (HST.out.2.2 n rfl))
        have hB3 := hB.trans (b3.mono hB.size)
        have hge := fun i hi => own_ge hO (x := i) hi
        clear hr ho hO b3
        go_wp2_with (first
          | (go_at_call 69; refine HAF.out.mono ?_; rintro e w4 ⟨_, rfl, ⟨a4, n4, c4, rfl⟩, O4, G4, _⟩)
          | fail)
        go_roundw
        case rel => exact ⟨k + 1, _, _, _, by omega, by go_num, rfl, by rw [HST.out.1]; exact O4, hB3.trans ((G4.below hB3.size (fun i _ hi => hge i hi)))⟩
        case measure => simp [intOf]; omega
    · obtain rfl : k = N := by omega
      have i1 : ¬ (k : Int) < (k : Int) := by omega
      rw [List.take_of_length_le (Nat.le_of_eq HN.out)] at hO
      go_wp2
      go_ret
      exact ⟨_, rfl, hO, hB⟩

end Go.Proofs.YtmmlpbepaefamaaGreatDoor

/- A file's name. -/
namespace Go.Proofs.YtmmlpbepaefamaaGreatDoor
open Go.RowKit

/-- May a byte stand in a name? -/
def okB (y : BitVec 8) : Bool := (decide (97 ≤ y.toNat) && decide (y.toNat ≤ 122)) || (decide (48 ≤ y.toNat) && decide (y.toNat ≤ 57)) || decide (y.toNat = 46) || decide (y.toNat = 45)
theorem okB_iff (y : BitVec 8) : okB y = true ↔ ((97 ≤ y.toNat ∧ y.toNat ≤ 122) ∨ (48 ≤ y.toNat ∧ y.toNat ≤ 57) ∨ y.toNat = 46 ∨ y.toNat = 45) := by
  simp [okB, or_assoc]
def nameN (s : ByteArray) : Bool := (bytesB s).all okB && (decide (1 ≤ s.size) && decide (s.size ≤ 64))

set_option maxRecDepth 100000 in
set_option maxHeartbeats 2000000 in
theorem named_calls (w : World) (s : ByteArray) (hlen : s.size ≤ 9223372036854775806) : Calls Tryz.prog 75 #[.string s] w fun e w' => e = .returned (.bool (nameN s)) ∧ Below w.heap.size w w' := by
  obtain ⟨N, hN⟩ : ∃ n, s.size = n := ⟨_, rfl⟩
  have hbl : (bytesB s).length = N := by rw [bytesB_length, hN]
  have HN := Lib.hid (And.intro hN hbl)
  rw [hN] at hlen
  clear hN hbl
  go_enter Tryz.func75, Tryz.ntmps75
  go_wp2_with (first
    | (refine wpList_conv_text (by rfl) _ (by rfl) s (by rfl) ?_; intro g k w1 hS b1; rw [HN.out.1] at hS ⊢)
    | fail)
  go_loopw [8] (fun i wr => ∃ k : Nat, k ≤ N ∧ i = .int .i64 k ∧ ((bytesB s).take k).all okB = true ∧ w1 = wr) (fun i _ => N - (intOf i).toNat)
  case atStart => exact ⟨0, by omega, rfl, by simp, rfl⟩
  case round =>
    obtain ⟨j, hj, rfl, hall, rfl⟩ := hrel
    by_cases hlt : j < N
    · have hjl : j < (bytesB s).length := by rw [HN.out.2]; exact hlt
      have hc : w1.cell? ⟨g, j, none⟩ = some (vu8 ((bytesB s).getD j 0)) := by
        rcases hS with ⟨h0, _⟩ | ⟨b, o, c, he, _, hy⟩
        · rw [h0] at hjl
          simp at hjl
        · injection he with he _ _
          injection he with he
          injection he with he1 he2
          subst he1 he2
          have := hy.at_ hjl
          rwa [Nat.zero_add] at this
      have i1 : (j : Int) < (N : Int) := by omega
      have i2 : 0 ≤ (j : Int) ∧ (j : Int) < (N : Int) := by omega
      have b2 : IntKind.i64.wrap ((j : Int) + 1) = (j : Int) + 1 := IntWalk.i64_in _ (by omega)
      obtain ⟨y, hy⟩ : ∃ y, (bytesB s).getD j 0 = y := ⟨_, rfl⟩
      rw [hy] at hc
      have hnx : ((bytesB s).take (j + 1)).all okB = okB y := by
        rw [List.take_succ_eq_append_getElem hjl, List.all_append, hall, ← hy]
        simp [List.getElem?_eq_getElem hjl]
      have HX := Lib.hid (And.intro hnx hy)
      have HJ := Lib.hid hjl
      clear hall hnx hjl hy
      have hno : okB y = false → nameN s = false := fun h => by
        have hm : (bytesB s).all okB = false := by
          rw [← Bool.not_eq_true, List.all_eq_true]
          intro ha
          have hj2 := HJ.out
          have := ha y (by rw [← HX.out.2]; simp [List.getElem?_eq_getElem hj2])
          rw [h] at this
          cases this
        unfold nameN
        rw [hm]
        rfl
      by_cases hob : okB y = true
      · have HO := Lib.hid (And.intro hob (okB_iff y |>.1 hob))
        clear hob hno hS
        go_wp2
        all_goals first
          | (refine ⟨⟨j + 1, by omega, by go_num, by rw [HX.out.1]; exact HO.out.1, by trivial⟩, by simp [intOf]; omega⟩)
          | (exfalso; have hq := HO.out.2; simp at *; omega)
      · have HO := Lib.hid (And.intro (hno (by simpa using hob)) (fun h => hob (okB_iff y |>.2 h)))
        clear hob hno hS
        go_wp2
        all_goals first
          | (go_ret; exact ⟨by rw [HO.out.1] <;> rfl, b1⟩)
          | (exfalso; refine HO.out.2 ?_; simp at *; omega)
    · obtain rfl : j = N := by omega
      have i1 : ¬ (j : Int) < (j : Int) := by omega
      rw [List.take_of_length_le (Nat.le_of_eq HN.out.2)] at hall
      have HA := Lib.hid (show nameN s = (decide (1 ≤ s.size) && decide (s.size ≤ 64)) by unfold nameN; rw [hall]; rfl)
      rw [HN.out.1] at HA
      clear hall hS
      by_cases h1 : 1 ≤ j
      · have i2 : (1 : Int) ≤ (s.size : Int) := by rw [HN.out.1]; omega
        by_cases h2 : j ≤ 64
        · have i3 : (s.size : Int) ≤ 64 := by rw [HN.out.1]; omega
          go_wp2
          go_ret
          exact ⟨by rw [HA.out, decide_eq_true h1, decide_eq_true h2] <;> rfl, b1⟩
        · have i3 : ¬ (s.size : Int) ≤ 64 := by rw [HN.out.1]; omega
          go_wp2
          go_ret
          exact ⟨by rw [HA.out, decide_eq_false h2, Bool.and_false] <;> rfl, b1⟩
      · have i2 : ¬ (1 : Int) ≤ (s.size : Int) := by rw [HN.out.1]; omega
        go_wp2
        go_ret
        exact ⟨by rw [HA.out, decide_eq_false h1, Bool.false_and] <;> rfl, b1⟩

end Go.Proofs.YtmmlpbepaefamaaGreatDoor

/- A log's name. -/
namespace Go.Proofs.YtmmlpbepaefamaaGreatDoor
open Go.RowKit

set_option maxRecDepth 100000 in
set_option maxHeartbeats 2000000 in
theorem jnamed_calls (w : World) (s : ByteArray) (hlen : s.size ≤ 9223372036854775806) : Calls Tryz.prog 55 #[.string s] w fun e w' => e = .returned (.bool (nameN s)) ∧ Below w.heap.size w w' := by
  obtain ⟨N, hN⟩ : ∃ n, s.size = n := ⟨_, rfl⟩
  have hbl : (bytesB s).length = N := by rw [bytesB_length, hN]
  have HN := Lib.hid (And.intro hN hbl)
  rw [hN] at hlen
  clear hN hbl
  go_enter Tryz.func55, Tryz.ntmps55
  go_wp2_with (first
    | (refine wpList_conv_text (by rfl) _ (by rfl) s (by rfl) ?_; intro g k w1 hS b1; rw [HN.out.1] at hS ⊢)
    | fail)
  go_loopw [8] (fun i wr => ∃ k : Nat, k ≤ N ∧ i = .int .i64 k ∧ ((bytesB s).take k).all okB = true ∧ w1 = wr) (fun i _ => N - (intOf i).toNat)
  case atStart => exact ⟨0, by omega, rfl, by simp, rfl⟩
  case round =>
    obtain ⟨j, hj, rfl, hall, rfl⟩ := hrel
    by_cases hlt : j < N
    · have hjl : j < (bytesB s).length := by rw [HN.out.2]; exact hlt
      have hc : w1.cell? ⟨g, j, none⟩ = some (vu8 ((bytesB s).getD j 0)) := by
        rcases hS with ⟨h0, _⟩ | ⟨b, o, c, he, _, hy⟩
        · rw [h0] at hjl
          simp at hjl
        · injection he with he _ _
          injection he with he
          injection he with he1 he2
          subst he1 he2
          have := hy.at_ hjl
          rwa [Nat.zero_add] at this
      have i1 : (j : Int) < (N : Int) := by omega
      have i2 : 0 ≤ (j : Int) ∧ (j : Int) < (N : Int) := by omega
      have b2 : IntKind.i64.wrap ((j : Int) + 1) = (j : Int) + 1 := IntWalk.i64_in _ (by omega)
      obtain ⟨y, hy⟩ : ∃ y, (bytesB s).getD j 0 = y := ⟨_, rfl⟩
      rw [hy] at hc
      have hnx : ((bytesB s).take (j + 1)).all okB = okB y := by
        rw [List.take_succ_eq_append_getElem hjl, List.all_append, hall, ← hy]
        simp [List.getElem?_eq_getElem hjl]
      have HX := Lib.hid (And.intro hnx hy)
      have HJ := Lib.hid hjl
      clear hall hnx hjl hy
      have hno : okB y = false → nameN s = false := fun h => by
        have hm : (bytesB s).all okB = false := by
          rw [← Bool.not_eq_true, List.all_eq_true]
          intro ha
          have hj2 := HJ.out
          have := ha y (by rw [← HX.out.2]; simp [List.getElem?_eq_getElem hj2])
          rw [h] at this
          cases this
        unfold nameN
        rw [hm]
        rfl
      by_cases hob : okB y = true
      · have HO := Lib.hid (And.intro hob (okB_iff y |>.1 hob))
        clear hob hno hS
        go_wp2
        all_goals first
          | (refine ⟨⟨j + 1, by omega, by go_num, by rw [HX.out.1]; exact HO.out.1, by trivial⟩, by simp [intOf]; omega⟩)
          | (exfalso; have hq := HO.out.2; simp at *; omega)
      · have HO := Lib.hid (And.intro (hno (by simpa using hob)) (fun h => hob (okB_iff y |>.2 h)))
        clear hob hno hS
        go_wp2
        all_goals first
          | (go_ret; exact ⟨by rw [HO.out.1] <;> rfl, b1⟩)
          | (exfalso; refine HO.out.2 ?_; simp at *; omega)
    · obtain rfl : j = N := by omega
      have i1 : ¬ (j : Int) < (j : Int) := by omega
      rw [List.take_of_length_le (Nat.le_of_eq HN.out.2)] at hall
      have HA := Lib.hid (show nameN s = (decide (1 ≤ s.size) && decide (s.size ≤ 64)) by unfold nameN; rw [hall]; rfl)
      rw [HN.out.1] at HA
      clear hall hS
      by_cases h1 : 1 ≤ j
      · have i2 : (1 : Int) ≤ (s.size : Int) := by rw [HN.out.1]; omega
        by_cases h2 : j ≤ 64
        · have i3 : (s.size : Int) ≤ 64 := by rw [HN.out.1]; omega
          go_wp2
          go_ret
          exact ⟨by rw [HA.out, decide_eq_true h1, decide_eq_true h2] <;> rfl, b1⟩
        · have i3 : ¬ (s.size : Int) ≤ 64 := by rw [HN.out.1]; omega
          go_wp2
          go_ret
          exact ⟨by rw [HA.out, decide_eq_false h2, Bool.and_false] <;> rfl, b1⟩
      · have i2 : ¬ (1 : Int) ≤ (s.size : Int) := by rw [HN.out.1]; omega
        go_wp2
        go_ret
        exact ⟨by rw [HA.out, decide_eq_false h1, Bool.false_and] <;> rfl, b1⟩

end Go.Proofs.YtmmlpbepaefamaaGreatDoor

/- A store's name. -/
namespace Go.Proofs.YtmmlpbepaefamaaGreatDoor
open Go.RowKit

def nameS (s : ByteArray) : Bool := (bytesB s).all okB && (decide (1 ≤ s.size) && decide (s.size ≤ 40))

set_option maxRecDepth 100000 in
set_option maxHeartbeats 2000000 in
theorem snamed_calls (w : World) (s : ByteArray) (hlen : s.size ≤ 9223372036854775806) : Calls Tryz.prog 21 #[.string s] w fun e w' => e = .returned (.bool (nameS s)) ∧ Below w.heap.size w w' := by
  obtain ⟨N, hN⟩ : ∃ n, s.size = n := ⟨_, rfl⟩
  have hbl : (bytesB s).length = N := by rw [bytesB_length, hN]
  have HN := Lib.hid (And.intro hN hbl)
  rw [hN] at hlen
  clear hN hbl
  go_enter Tryz.func21, Tryz.ntmps21
  go_wp2_with (first
    | (refine wpList_conv_text (by rfl) _ (by rfl) s (by rfl) ?_; intro g k w1 hS b1; rw [HN.out.1] at hS ⊢)
    | fail)
  go_loopw [8] (fun i wr => ∃ k : Nat, k ≤ N ∧ i = .int .i64 k ∧ ((bytesB s).take k).all okB = true ∧ w1 = wr) (fun i _ => N - (intOf i).toNat)
  case atStart => exact ⟨0, by omega, rfl, by simp, rfl⟩
  case round =>
    obtain ⟨j, hj, rfl, hall, rfl⟩ := hrel
    by_cases hlt : j < N
    · have hjl : j < (bytesB s).length := by rw [HN.out.2]; exact hlt
      have hc : w1.cell? ⟨g, j, none⟩ = some (vu8 ((bytesB s).getD j 0)) := by
        rcases hS with ⟨h0, _⟩ | ⟨b, o, c, he, _, hy⟩
        · rw [h0] at hjl
          simp at hjl
        · injection he with he _ _
          injection he with he
          injection he with he1 he2
          subst he1 he2
          have := hy.at_ hjl
          rwa [Nat.zero_add] at this
      have i1 : (j : Int) < (N : Int) := by omega
      have i2 : 0 ≤ (j : Int) ∧ (j : Int) < (N : Int) := by omega
      have b2 : IntKind.i64.wrap ((j : Int) + 1) = (j : Int) + 1 := IntWalk.i64_in _ (by omega)
      obtain ⟨y, hy⟩ : ∃ y, (bytesB s).getD j 0 = y := ⟨_, rfl⟩
      rw [hy] at hc
      have hnx : ((bytesB s).take (j + 1)).all okB = okB y := by
        rw [List.take_succ_eq_append_getElem hjl, List.all_append, hall, ← hy]
        simp [List.getElem?_eq_getElem hjl]
      have HX := Lib.hid (And.intro hnx hy)
      have HJ := Lib.hid hjl
      clear hall hnx hjl hy
      have hno : okB y = false → nameS s = false := fun h => by
        have hm : (bytesB s).all okB = false := by
          rw [← Bool.not_eq_true, List.all_eq_true]
          intro ha
          have hj2 := HJ.out
          have := ha y (by rw [← HX.out.2]; simp [List.getElem?_eq_getElem hj2])
          rw [h] at this
          cases this
        unfold nameS
        rw [hm]
        rfl
      by_cases hob : okB y = true
      · have HO := Lib.hid (And.intro hob (okB_iff y |>.1 hob))
        clear hob hno hS
        go_wp2
        all_goals first
          | (refine ⟨⟨j + 1, by omega, by go_num, by rw [HX.out.1]; exact HO.out.1, by trivial⟩, by simp [intOf]; omega⟩)
          | (exfalso; have hq := HO.out.2; simp at *; omega)
      · have HO := Lib.hid (And.intro (hno (by simpa using hob)) (fun h => hob (okB_iff y |>.2 h)))
        clear hob hno hS
        go_wp2
        all_goals first
          | (go_ret; exact ⟨by rw [HO.out.1] <;> rfl, b1⟩)
          | (exfalso; refine HO.out.2 ?_; simp at *; omega)
    · obtain rfl : j = N := by omega
      have i1 : ¬ (j : Int) < (j : Int) := by omega
      rw [List.take_of_length_le (Nat.le_of_eq HN.out.2)] at hall
      have HA := Lib.hid (show nameS s = (decide (1 ≤ s.size) && decide (s.size ≤ 40)) by unfold nameS; rw [hall]; rfl)
      rw [HN.out.1] at HA
      clear hall hS
      by_cases h1 : 1 ≤ j
      · have i2 : (1 : Int) ≤ (s.size : Int) := by rw [HN.out.1]; omega
        by_cases h2 : j ≤ 40
        · have i3 : (s.size : Int) ≤ 40 := by rw [HN.out.1]; omega
          go_wp2
          go_ret
          exact ⟨by rw [HA.out, decide_eq_true h1, decide_eq_true h2] <;> rfl, b1⟩
        · have i3 : ¬ (s.size : Int) ≤ 40 := by rw [HN.out.1]; omega
          go_wp2
          go_ret
          exact ⟨by rw [HA.out, decide_eq_false h2, Bool.and_false] <;> rfl, b1⟩
      · have i2 : ¬ (1 : Int) ≤ (s.size : Int) := by rw [HN.out.1]; omega
        go_wp2
        go_ret
        exact ⟨by rw [HA.out, decide_eq_false h1, Bool.false_and] <;> rfl, b1⟩

end Go.Proofs.YtmmlpbepaefamaaGreatDoor
