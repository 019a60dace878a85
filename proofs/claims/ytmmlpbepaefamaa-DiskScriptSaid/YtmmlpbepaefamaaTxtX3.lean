/- Texts that lie in a slice, and lists of them that are the same. -/
import Derived.Test.YtmmlpbepaefamaaKD
namespace Go.Proofs.Ytmmlpbepaefamaa
open Go.RowKit Go.Maps Go.Sort Go.Shelf

/-- Texts lie in a slice. -/
def TxtAt (w : World) (v : Value) (l : List ByteArray) : Prop :=
  (∃ a c, v = .slice a 0 c ∧ l = []) ∨ ∃ b off c, v = .slice (some ⟨b, off, none⟩) l.length c ∧ b < w.heap.size ∧ ∀ j, j < l.length → w.cell? ⟨b, off + j, none⟩ = some (.string (l.getD j ByteArray.empty))
theorem TxtAt.low {w w' : World} {v : Value} {l : List ByteArray} (h : TxtAt w v l) (hb : Below w.heap.size w w') : TxtAt w' v l := by
  rcases h with h | ⟨b, off, c, rfl, hl, hc⟩
  · exact .inl h
  · exact .inr ⟨b, off, c, rfl, Nat.lt_of_lt_of_le hl hb.size, fun j hj => (hb.cell (p := ⟨b, off + j, none⟩) hl).trans (hc j hj)⟩
theorem TxtAt.of_row {w : World} {B : Nat} {v : Value} {ss : List (List UInt8)} (h : w.ownsRow B 9 1 v ss.length (ss.map encStr)) : TxtAt w v (ss.map fun x => ⟨x.toArray⟩) := by
  rcases row_shape h with ⟨rfl, h0⟩ | ⟨g, cap, rfl, _, hg, hc⟩
  · have : ss = [] := List.eq_nil_of_length_eq_zero h0
    subst this
    exact .inl ⟨_, _, rfl, rfl⟩
  · refine .inr ⟨g, 0, cap, by rw [List.length_map], hg, fun j hj => ?_⟩
    rw [List.length_map] at hj
    rw [Nat.zero_add]
    refine (hc j (encStr ss[j]) (by simp [hj])).trans ?_
    simp [hj]
theorem TxtAt.one (w : World) (s : ByteArray) : TxtAt (w.alloc (.cells #[.string s] 9)) (.slice (some ⟨w.heap.size, 0, none⟩) 1 1) [s] := by
  have hW := Whole.new w 9 #[.string s]
  refine .inr ⟨w.heap.size, 0, 1, rfl, hW.lt, fun j hj => ?_⟩
  have : j = 0 := by simp at hj; omega
  subst this
  exact hW.cell 0
theorem TxtAt.slice {w : World} {v : Value} {l : List ByteArray} (h : TxtAt w v l) : ∃ a c, v = .slice a l.length c := by
  rcases h with ⟨a, c, rfl, rfl⟩ | ⟨b, off, c, rfl, _, _⟩
  · exact ⟨a, c, rfl⟩
  · exact ⟨_, c, rfl⟩
theorem TxtAt.at {w : World} {p : Option Addr} {n c k : Nat} {l : List ByteArray} {y : ByteArray} (h : TxtAt w (.slice p n c) l) (hy : l[k]? = some y) : ∃ b off, p = some ⟨b, off, none⟩ ∧ w.cell? ⟨b, off + k, none⟩ = some (.string y) := by
  rcases h with ⟨a, c, he, rfl⟩ | ⟨b, off, c, he, _, hc⟩
  · simp at hy
  · injection he with he _ _
    refine ⟨b, off, he, ?_⟩
    rw [hc k (List.getElem?_eq_some_iff.1 hy).1, List.getD_eq_getElem?_getD, hy]
    rfl

set_option maxRecDepth 100000 in
set_option maxHeartbeats 1000000 in
theorem sametxt_calls (w : World) (u v : Value) (l : List ByteArray) (hu : TxtAt w u l) (hv : TxtAt w v l) (hl : l.length ≤ 1000000) :
    Calls Try.prog 25 #[u, v] w fun e w' => e = .returned (.bool true) ∧ Below w.heap.size w w' := by
  obtain ⟨N, hN⟩ : ∃ N, l.length = N := ⟨_, rfl⟩
  obtain ⟨p, c, hp⟩ := hu.slice
  obtain ⟨p2, c2, hp2⟩ := hv.slice
  rw [hN] at hp hp2 hl
  subst hp hp2
  have HN := Lib.hid hN
  have HU := Lib.hid hu
  have HV := Lib.hid hv
  clear hN hu hv
  go_enter Try.func25, Try.ntmps25
  go_wp2
  go_loopw [5] (fun i wr => ∃ k : Nat, k ≤ N ∧ i = .int .i64 k ∧ Below w.heap.size w wr) (fun i _ => N - (intOf i).toNat)
  case atStart => exact ⟨0, by omega, rfl, Below.refl _ _⟩
  case round =>
    obtain ⟨k, hk, rfl, hB⟩ := hrel
    by_cases hlt : k < N
    · obtain ⟨y, hy⟩ : ∃ y, l[k]? = some y := ⟨_, List.getElem?_eq_getElem (by rw [HN.out]; exact hlt)⟩
      obtain ⟨b, off, rfl, c0⟩ := (HU.out.low hB).at hy
      obtain ⟨b2, off2, rfl, d0⟩ := (HV.out.low hB).at hy
      have i1 : (k : Int) < (N : Int) := by omega
      have i2 : 0 ≤ (k : Int) ∧ (k : Int) < (N : Int) := by omega
      have s2 : IntKind.i64.wrap ((k : Int) + 1) = (k : Int) + 1 := IntWalk.i64_in _ (by omega)
      have hB2 := hB.trans (((Below.refl wr.heap.size wr).drew).mono hB.size)
      clear hy
      go_wp2
      go_still (by kernel_rfl)
      change Exit.then _ _ Exit.normal _ wr.drew
      clear c0 d0
      generalize wr.drew = w2 at hB2 ⊢
      go_wp2
      go_roundw
      case rel => exact ⟨k + 1, by omega, by go_num, hB2⟩
      case measure => simp [intOf]; omega
    · obtain rfl : k = N := by omega
      have i1 : ¬ (k : Int) < (k : Int) := by omega
      go_wp2
      go_ret
      exact ⟨rfl, hB⟩


/-- Bytes of the call's own that the disk does not touch. -/
def Free (w : World) (S : Nat → Prop) (v : Value) (xs : List (BitVec 8)) : Prop := (∃ B, Own w B v xs) ∧ ∀ g, v.ownBlock = some g → ¬ S g
theorem Free.new {w w' : World} {S : Nat → Prop} {v : Value} {xs : List (BitVec 8)} (h : Own w' w.heap.size v xs) (hS : ∀ i, S i → i < w.heap.size) : Free w' S v xs := ⟨⟨_, h⟩, fun g hg e => by
  have h1 := hS g e
  have h2 := own_ge h hg
  omega⟩
theorem Free.low {w w' : World} {S : Nat → Prop} {v : Value} {xs : List (BitVec 8)} (h : Free w S v xs) (hb : Below w.heap.size w w') : Free w' S v xs := by
  obtain ⟨⟨B, h1⟩, h2⟩ := h
  exact ⟨⟨B, row_low h1 hb⟩, h2⟩
theorem Free.on {w w' : World} {S S' : Nat → Prop} {v : Value} {xs : List (BitVec 8)} (h : Free w S v xs) (ho : Only w w' S) (hs : ∀ i, i < w.heap.size → S' i → S i) : Free w' S' v xs := by
  obtain ⟨⟨B, h1⟩, h2⟩ := h
  exact ⟨⟨B, row_only h1 ho h2⟩, fun g hg e => h2 g hg (hs g (row_lt h1 hg) e)⟩
theorem Free.slice {w : World} {S : Nat → Prop} {v : Value} {xs : List (BitVec 8)} (h : Free w S v xs) : SliceIs w v xs := by
  obtain ⟨⟨B, h1⟩, _⟩ := h
  exact Own.slice h1

/-- Texts of the call's own that the disk does not touch. -/
def FreeT (w : World) (S : Nat → Prop) (v : Value) (ss : List (List UInt8)) : Prop := (∃ B, w.ownsRow B 9 1 v ss.length (ss.map encStr)) ∧ ∀ g, v.ownBlock = some g → ¬ S g
theorem FreeT.new {w w' : World} {S : Nat → Prop} {v : Value} {ss : List (List UInt8)} (h : w'.ownsRow w.heap.size 9 1 v ss.length (ss.map encStr)) (hS : ∀ i, S i → i < w.heap.size) : FreeT w' S v ss := ⟨⟨_, h⟩, fun g hg e => by
  have h1 := hS g e
  have h2 := own_ge h hg
  omega⟩
theorem FreeT.low {w w' : World} {S : Nat → Prop} {v : Value} {ss : List (List UInt8)} (h : FreeT w S v ss) (hb : Below w.heap.size w w') : FreeT w' S v ss := by
  obtain ⟨⟨B, h1⟩, h2⟩ := h
  exact ⟨⟨B, row_low h1 hb⟩, h2⟩
theorem FreeT.on {w w' : World} {S S' : Nat → Prop} {v : Value} {ss : List (List UInt8)} (h : FreeT w S v ss) (ho : Only w w' S) (hs : ∀ i, i < w.heap.size → S' i → S i) : FreeT w' S' v ss := by
  obtain ⟨⟨B, h1⟩, h2⟩ := h
  exact ⟨⟨B, row_only h1 ho h2⟩, fun g hg e => h2 g hg (hs g (row_lt h1 hg) e)⟩
theorem FreeT.at {w : World} {S : Nat → Prop} {v : Value} {ss : List (List UInt8)} (h : FreeT w S v ss) : TxtAt w v (ss.map fun x => ⟨x.toArray⟩) := by
  obtain ⟨⟨B, h1⟩, _⟩ := h
  exact TxtAt.of_row h1

end Go.Proofs.Ytmmlpbepaefamaa

/- The document's disk in memory; whether an operation is refused; names; where a file stands. -/
namespace Go.Proofs.Ytmmlpbepaefamaa
open Go.RowKit

/-- A file of the document's disk, and where its parts lie. -/
structure Rx where
  name : ByteArray
  sv : Value
  ov : Value
  ops : List (Dop × Value)
  f : Dfile
def Rx.cells (x : Rx) : List Value := [.string x.name, x.sv, x.ov, .bool (!x.f.fresh)]
def Rx.view (x : Rx) : ByteArray × Dfile := (x.name, x.f)
theorem lenX (x : Rx) : x.cells.length = 4 := rfl
structure RxAt (w : World) (B : Nat) (T : Nat → Prop) (x : Rx) : Prop where
  safe : Own w B x.sv x.f.safe
  row : w.ownsRow B 120 3 x.ov x.ops.length (x.ops.flatMap opC)
  each : ∀ p ∈ x.ops, OpAt w B p
  ops : x.ops.map (·.1) = x.f.ops
  ts : ∀ g, x.sv.ownBlock = some g → T g
  tr : ∀ g, x.ov.ownBlock = some g → T g
  te : ∀ p ∈ x.ops, ∀ g, p.2.ownBlock = some g → T g
  okf : x.f.ok
/-- The document's disk: its files, the operations that are refused, how many there were; T: its blocks. -/
structure RD (w : World) (B m : Nat) (T : Nat → Prop) (fv rv : Value) (l : List Rx) (rl : List Int) (n : Nat) : Prop where
  box : Whole w m 99 [fv, rv, .int .i64 n]
  row : w.ownsRow B 116 4 fv l.length (l.flatMap Rx.cells)
  each : ∀ x ∈ l, RxAt w B T x
  ref : w.ownsRow B 3 1 rv rl.length (rl.map fun k => Value.int .i64 k)
  tm : T m
  tf : ∀ g, fv.ownBlock = some g → T g
  tv : ∀ g, rv.ownBlock = some g → T g
  old : ∀ i, T i → B ≤ i ∧ i < w.heap.size
theorem rows_apart {w : World} {B B' n n' z z' g : Nat} {e e' : TypeId} {v v' : Value} {xs xs' : List Value} (h : w.ownsRow B e z v n xs) (h' : w.ownsRow B' e' z' v' n' xs') (he : e ≠ e') (hg : v.ownBlock = some g) : v'.ownBlock ≠ some g := fun hg' => by
  obtain ⟨c1, h1⟩ := row_type h hg
  obtain ⟨c2, h2⟩ := row_type h' hg'
  rw [h1] at h2
  have h2 := Option.some.inj h2
  injection h2 with _ h2 _
  exact he h2
/-- A file stays while blocks of other types, and new ones, change. -/
theorem RxAt.only {w w' : World} {B : Nat} {T T' S : Nat → Prop} {x : Rx} (h : RxAt w B T x) (ho : Only w w' S) (hs : ∀ g, T g → S g → ∃ t cur, w.heap[g]? = some (.cells cur t (0, 0)) ∧ t ≠ 5 ∧ t ≠ 120) (hT : ∀ g, T g → T' g) : RxAt w' B T' x := by
  have no : ∀ {e z n v xs}, w.ownsRow B e z v n xs → (e = 5 ∨ e = 120) → (∀ g, v.ownBlock = some g → T g) → ∀ g, v.ownBlock = some g → ¬ S g := fun hr he ht g hg hS => by
    obtain ⟨t, cur, h1, h2, h3⟩ := hs g (ht g hg) hS
    obtain ⟨c2, h4⟩ := row_type hr hg
    rw [h1] at h4
    have h4 := Option.some.inj h4
    injection h4 with _ h4 _
    rcases he with he | he
    · exact h2 (h4.trans he)
    · exact h3 (h4.trans he)
  refine ⟨row_only h.safe ho (no h.safe (.inl rfl) h.ts), row_only h.row ho (no h.row (.inr rfl) h.tr), fun p hp => ?_, h.ops, fun g hg => hT g (h.ts g hg), fun g hg => hT g (h.tr g hg), fun p hp g hg => hT g (h.te p hp g hg), h.okf⟩
  obtain ⟨l', hl'⟩ := (h.each p hp).own
  exact (h.each p hp).only ho (no hl' (.inl rfl) (h.te p hp))
theorem RxAt.low {w w' : World} {B : Nat} {T : Nat → Prop} {x : Rx} (h : RxAt w B T x) (hb : Below w.heap.size w w') : RxAt w' B T x := h.only (Only.of_below hb (fun _ => False)) (fun _ _ e => e.elim) (fun _ e => e)
theorem RD.low {w w' : World} {B m n : Nat} {T : Nat → Prop} {fv rv : Value} {l : List Rx} {rl : List Int} (h : RD w B m T fv rv l rl n) (hb : Below w.heap.size w w') : RD w' B m T fv rv l rl n :=
  ⟨h.box.below hb h.box.lt, row_low h.row hb, fun x hx => (h.each x hx).low hb, row_low h.ref hb, h.tm, h.tf, h.tv, fun i hi => ⟨(h.old i hi).1, Nat.lt_of_lt_of_le (h.old i hi).2 hb.size⟩⟩
theorem RD.only {w w' : World} {S : Nat → Prop} {B m n : Nat} {T : Nat → Prop} {fv rv : Value} {l : List Rx} {rl : List Int} (h : RD w B m T fv rv l rl n) (ho : Only w w' S) (hS : ∀ i, T i → ¬ S i) : RD w' B m T fv rv l rl n :=
  ⟨h.box.only ho (hS m h.tm), row_only h.row ho (fun g hg => hS g (h.tf g hg)), fun x hx => (h.each x hx).only ho (fun g hg e => absurd e (hS g hg)) (fun _ e => e), row_only h.ref ho (fun g hg => hS g (h.tv g hg)), h.tm, h.tf, h.tv, fun i hi => ⟨(h.old i hi).1, Nat.lt_of_lt_of_le (h.old i hi).2 ho.size⟩⟩

theorem idx_b {s : ByteArray} {k : Nat} (hk : k < s.size) (w : World) : (Instr.index 9 (.string s) (.int .i64 k)).run Try.prog w = .ok (vu8 ((bytesB s).getD k 0)) w := by
  rw [run_index_string (P := Try.prog) w 9 s .i64 _ Try.underlying9, dif_pos (by omega)]
  have hk' : k < s.data.size := hk
  have e1 : (bytesB s).getD k 0 = (s[((k : Int)).toNat]'(by simpa using hk)).toBitVec := by
    unfold bytesB
    rw [List.getD_eq_getElem?_getD, List.getElem?_map, List.getElem?_eq_getElem (by simpa using hk')]
    rfl
  rw [e1]
  rfl

set_option maxRecDepth 100000 in
set_option maxHeartbeats 2000000 in
theorem rname_calls (w : World) (s : ByteArray) (hlen : s.size ≤ 9223372036854775806) : Calls Try.prog 77 #[.string s] w fun e w' => e = .returned (.bool (nameN s)) ∧ w = w' := by
  obtain ⟨N, hN⟩ : ∃ n, s.size = n := ⟨_, rfl⟩
  have hbl : (bytesB s).length = N := by rw [bytesB_length, hN]
  have HN := Lib.hid (And.intro hN hbl)
  rw [hN] at hlen
  clear hN hbl
  go_enter Try.func77, Try.ntmps77
  go_wp2
  go_loopw [3, 4] (fun i _ wr => ∃ k : Nat, k ≤ N ∧ i = .int .i64 k ∧ ((bytesB s).take k).all okB = true ∧ w = wr) (fun i _ _ => N - (intOf i).toNat)
  case atStart => exact ⟨0, by omega, rfl, by simp, rfl⟩
  case round =>
    obtain ⟨j, hj, rfl, hall, rfl⟩ := hrel
    by_cases hlt : j < N
    · have hjl : j < (bytesB s).length := by rw [HN.out.2]; exact hlt
      have hc := fun w => idx_b (s := s) (k := j) (by rw [HN.out.1]; exact hlt) w
      have i1 : (j : Int) < (s.size : Int) := by rw [HN.out.1]; omega
      have b2 : IntKind.i64.wrap ((j : Int) + 1) = (j : Int) + 1 := IntWalk.i64_in _ (by omega)
      obtain ⟨y, hy⟩ : ∃ y, (bytesB s).getD j 0 = y := ⟨_, rfl⟩
      rw [hy] at hc
      have hc : ∀ w, (Instr.index 9 (.string s) (.int .i64 j)).run Try.prog w = .ok (.int .u8 (y.toNat : Int)) w := hc
      have hnx : ((bytesB s).take (j + 1)).all okB = okB y := by
        rw [List.take_succ_eq_append_getElem hjl, List.all_append, hall, ← hy]
        simp [List.getElem?_eq_getElem hjl]
      have HX := Lib.hid (And.intro hnx hy)
      have HJ := Lib.hid hjl
      clear hall hnx hjl hy
      have hno : okB y = false → nameN s = false := fun h => by
        have hm : (bytesB s).all okB = false := by
          rw [← Bool.not_eq_true, List.all_eq_true]
          intro ha
          have hj2 := HJ.out
          have := ha y (by rw [← HX.out.2]; simp [List.getElem?_eq_getElem hj2])
          rw [h] at this
          cases this
        unfold nameN
        rw [hm]
        rfl
      by_cases hob : okB y = true
      · have HO := Lib.hid (And.intro hob (okB_iff y |>.1 hob))
        clear hob hno
        go_wp2
        all_goals first
          | (go_roundw; (case rel => exact ⟨j + 1, (by have h1 := HJ.out; rw [HN.out.2] at h1; exact h1), by go_num, (by rw [HX.out.1]; exact HO.out.1), trivial⟩); (case measure => (have h1 := HJ.out; rw [HN.out.2] at h1; simp [intOf]; omega)))
          | (exfalso; have hq := HO.out.2; simp at *; omega)
      · have HO := Lib.hid (And.intro (hno (by simpa using hob)) (fun h => hob (okB_iff y |>.2 h)))
        clear hob hno
        go_wp2
        all_goals first
          | (go_ret; exact ⟨by rw [HO.out.1] <;> rfl, rfl⟩)
          | (exfalso; refine HO.out.2 ?_; simp at *; omega)
    · obtain rfl : j = N := by omega
      have i1 : ¬ (j : Int) < (s.size : Int) := by rw [HN.out.1]; omega
      rw [List.take_of_length_le (Nat.le_of_eq HN.out.2)] at hall
      have HA := Lib.hid (show nameN s = (decide (1 ≤ s.size) && decide (s.size ≤ 64)) by unfold nameN; rw [hall]; rfl)
      rw [HN.out.1] at HA
      clear hall
      by_cases h1 : 1 ≤ j
      · have i2 : (1 : Int) ≤ (s.size : Int) := by rw [HN.out.1]; omega
        by_cases h2 : j ≤ 64
        · have i3 : (s.size : Int) ≤ 64 := by rw [HN.out.1]; omega
          go_wp2
          go_ret
          exact ⟨by rw [HA.out, decide_eq_true h1, decide_eq_true h2] <;> rfl, rfl⟩
        · have i3 : ¬ (s.size : Int) ≤ 64 := by rw [HN.out.1]; omega
          go_wp2
          go_ret
          exact ⟨by rw [HA.out, decide_eq_false h2, Bool.and_false] <;> rfl, rfl⟩
      · have i2 : ¬ (1 : Int) ≤ (s.size : Int) := by rw [HN.out.1]; omega
        go_wp2
        go_ret
        exact ⟨by rw [HA.out, decide_eq_false h1, Bool.false_and] <;> rfl, rfl⟩

end Go.Proofs.Ytmmlpbepaefamaa

/- The document's disk: op and at. -/
namespace Go.Proofs.Ytmmlpbepaefamaa
open Go.RowKit

theorem nm_eq {a b : ByteArray} (h : a.toList = b.toList) : a = b := by
  rw [Lib.toList_data, Lib.toList_data] at h
  exact Go.WideShapes.bytes_inj h
/-- Blocks that a change of the count, or of the files' row, touches. -/
theorem RD.other {w : World} {B m n : Nat} {T : Nat → Prop} {fv rv : Value} {l : List Rx} {rl : List Int} (h : RD w B m T fv rv l rl n) : ∀ g, (g = m ∨ fv.ownBlock = some g) → ∃ t cur, w.heap[g]? = some (.cells cur t (0, 0)) ∧ t ≠ 5 ∧ t ≠ 120 := fun g hg => by
  rcases hg with rfl | hg
  · exact ⟨_, _, h.box, by decide, by decide⟩
  · obtain ⟨c, hc⟩ := row_type h.row hg
    exact ⟨_, _, hc, by decide, by decide⟩
theorem RD.count {w : World} {B m n : Nat} {T : Nat → Prop} {fv rv : Value} {l : List Rx} {rl : List Int} (h : RD w B m T fv rv l rl n) : RD (w.setCell ⟨m, 2, none⟩ (.int .i64 ((n : Int) + 1))) B m T fv rv l rl (n + 1) := by
  have ho := Only.set w ⟨m, 2, none⟩ (.int .i64 ((n : Int) + 1))
  refine ⟨h.box.put 2 _, row_only h.row ho (fun g hg e => row_ne_whole h.row h.box (by decide) (hg.trans (congrArg some e))), fun x hx => (h.each x hx).only ho (fun g _ e => h.other g (.inl e)) (fun _ e => e), row_only h.ref ho (fun g hg e => row_ne_whole h.ref h.box (by decide) (hg.trans (congrArg some e))), h.tm, h.tf, h.tv, fun i hi => ⟨(h.old i hi).1, by simpa using (h.old i hi).2⟩⟩
theorem ints_at {w : World} {B n c k : Nat} {a : Option Addr} {rl : List Int} {z : Int} (h : w.ownsRow B 3 1 (.slice a n c) rl.length (rl.map fun k => Value.int .i64 k)) (hz : rl[k]? = some z) : ∃ g, a = some ⟨g, 0, none⟩ ∧ w.cell? ⟨g, k, none⟩ = some (.int .i64 z) := by
  rcases row_shape h with ⟨he, h0⟩ | ⟨g, cap, he, _, _, hc⟩
  · have : k < rl.length := (List.getElem?_eq_some_iff.1 hz).1
    omega
  · injection he with he
    exact ⟨g, he, hc k _ (by rw [List.getElem?_map, hz]; rfl)⟩

set_option maxRecDepth 100000 in
set_option maxHeartbeats 2000000 in
theorem rop_calls (w : World) (B m n : Nat) (T : Nat → Prop) (fv rv : Value) (l : List Rx) (rl : List Int) (h : RD w B m T fv rv l rl n) (hn : n ≤ 1000000000) (hr : rl.length ≤ 100000) :
    Calls Try.prog 76 #[.pointer (some ⟨m, 0, none⟩)] w fun e w' => e = .returned (.bool (refB rl n)) ∧ RD w' B m T fv rv l rl (n + 1) ∧ Only w w' fun i => i = m := by
  have c2 := h.box.cell 2
  have f2 := h.box.free 2
  have b1 : IntKind.i64.wrap ((n : Int) + 1) = (n : Int) + 1 := IntWalk.i64_in _ (by omega)
  have h1 := h.count
  have ho := Only.set w ⟨m, 2, none⟩ (.int .i64 ((n : Int) + 1))
  obtain ⟨ra, rc, hrv⟩ := slice_of_row h.ref
  obtain ⟨N, hN⟩ : ∃ k, rl.length = k := ⟨_, rfl⟩
  rw [hN] at hrv hr
  subst hrv
  have HN := Lib.hid hN
  clear h hN
  go_enter Try.func76, Try.ntmps76
  go_wp2
  clear c2 f2
  generalize w.setCell ⟨m, 2, none⟩ (.int .i64 ((n : Int) + 1)) = w1 at h1 ho ⊢
  go_loopw [3] (fun i wr => ∃ k : Nat, k ≤ N ∧ i = .int .i64 k ∧ (∀ j z, j < k → rl[j]? = some z → z ≠ (n : Int) + 1) ∧ Below w1.heap.size w1 wr) (fun i _ => N - (intOf i).toNat)
  case atStart => exact ⟨0, by omega, rfl, fun j z hj => absurd hj (Nat.not_lt_zero _), Below.refl _ _⟩
  case round =>
    obtain ⟨k, hk, rfl, hno, hB⟩ := hrel
    have hR := h1.low hB
    have hOr := (ho.trans (Only.of_below hB (fun _ => False))).weak (fun _ _ e => e.elim id False.elim)
    have c1 := hR.box.cell 1
    by_cases hlt : k < N
    · obtain ⟨z, hz⟩ : ∃ z, rl[k]? = some z := ⟨_, List.getElem?_eq_getElem (by rw [HN.out]; exact hlt)⟩
      obtain ⟨g, rfl, c0⟩ := ints_at hR.ref hz
      have c2 : wr.cell? ⟨m, 2, none⟩ = some (.int .i64 ((n : Int) + 1)) := hR.box.cell 2
      have i1 : (k : Int) < (N : Int) := by omega
      have i2 : 0 ≤ (k : Int) ∧ (k : Int) < (N : Int) := by omega
      have s2 : IntKind.i64.wrap ((k : Int) + 1) = (k : Int) + 1 := IntWalk.i64_in _ (by omega)
      have HZ := Lib.hid hz
      have HNO := Lib.hid hno
      clear hz hno
      obtain ⟨q, hq⟩ : ∃ q, (z == (n : Int) + 1) = q := ⟨_, rfl⟩
      have HQ := Lib.hid hq
      have hB2 := hB.trans (((Below.refl wr.heap.size wr).drew).mono hB.size)
      have hR2 := hR.low (Below.refl wr.heap.size wr).drew
      have hOr2 := (hOr.trans (Only.of_below ((Below.refl wr.heap.size wr).drew) (fun _ => False))).weak (fun _ _ e => e.elim id False.elim)
      cases q
      · have hne : ¬ z = (n : Int) + 1 := by simpa using hq
        clear hq
        go_wp2
        go_still (by kernel_rfl)
        change Exit.then _ _ Exit.normal _ wr.drew
        clear c0 c1 c2
        generalize wr.drew = w2 at hB2 hR2 hOr2 ⊢
        go_wp2
        go_roundw
        case rel => exact ⟨k + 1, by omega, by go_num, fun j y hj hy => by
          by_cases hjk : j = k
          · subst hjk
            rw [HZ.out] at hy
            injection hy with hy
            have := HQ.out
            rw [← hy]
            simpa using this
          · exact HNO.out j y (by omega) hy, hB2⟩
        case measure => simp [intOf]; omega
      · have he : z = (n : Int) + 1 := by simpa using hq
        subst he
        clear hq
        go_wp2
        go_still (by kernel_rfl)
        change Exit.then _ _ Exit.normal _ wr.drew
        clear c0 c1 c2
        generalize wr.drew = w2 at hB2 hR2 hOr2 ⊢
        go_wp2
        go_ret
        exact ⟨by rw [show refB rl n = true from decide_eq_true (List.mem_of_getElem? HZ.out)] <;> rfl, hR2, hOr2⟩
    · obtain rfl : k = N := by omega
      have i1 : ¬ (k : Int) < (k : Int) := by omega
      have HE := Lib.hid (show refB rl n = false from decide_eq_false fun hm => by
        obtain ⟨j, hj⟩ := List.mem_iff_getElem?.1 hm
        exact hno j _ (by have := (List.getElem?_eq_some_iff.1 hj).1; rw [HN.out] at this; exact this) hj rfl)
      clear hno
      go_wp2
      go_ret
      exact ⟨by rw [HE.out] <;> rfl, hR, hOr⟩

/-- Where a file stands; -1: there is none. -/
def posX (l : List Rx) (s : ByteArray) : Int := match l.findIdx? (fun x => x.name.toList == s.toList) with
  | some k => k
  | none => -1
theorem own_atX {w : World} {B k n c : Nat} {a : Option Addr} {l : List Rx} {x : Rx} (h : w.ownsRow B 116 4 (.slice a n c) l.length (l.flatMap Rx.cells)) (hx : l[k]? = some x) : ∃ g, a = some ⟨g, 0, none⟩ ∧ w.rangeAt g (k * 4) x.cells := own_at lenX h hx
set_option maxRecDepth 100000 in
set_option maxHeartbeats 2000000 in
theorem rat_calls (w : World) (B m n : Nat) (T : Nat → Prop) (fv rv : Value) (l : List Rx) (rl : List Int) (h : RD w B m T fv rv l rl n) (hl : l.length ≤ 100000) (s : ByteArray) :
    Calls Try.prog 78 #[.pointer (some ⟨m, 0, none⟩), .string s] w fun e w' => e = .returned (.int .i64 (posX l s)) ∧ w = w' := by
  have c0 := h.box.cell 0
  obtain ⟨fa, fc, hfv⟩ := slice_of_row h.row
  obtain ⟨N, hN⟩ : ∃ k, l.length = k := ⟨_, rfl⟩
  rw [hN] at hfv hl
  subst hfv
  have HN := Lib.hid hN
  have HR := Lib.hid h.row
  clear h hN
  go_enter Try.func78, Try.ntmps78
  go_wp2
  go_loopw [5] (fun i wr => ∃ k : Nat, k ≤ N ∧ i = .int .i64 k ∧ (∀ j x, j < k → l[j]? = some x → (x.name.toList == s.toList) = false) ∧ w = wr) (fun i _ => N - (intOf i).toNat)
  case atStart => exact ⟨0, by omega, rfl, fun j z hj => absurd hj (Nat.not_lt_zero _), rfl⟩
  case round =>
    obtain ⟨k, hk, rfl, hno, rfl⟩ := hrel
    by_cases hlt : k < N
    · obtain ⟨x, hx⟩ : ∃ x, l[k]? = some x := ⟨_, List.getElem?_eq_getElem (by rw [HN.out]; exact hlt)⟩
      obtain ⟨g, rfl, hr⟩ := own_atX HR.out hx
      have c1 := hr 0 _ rfl
      simp only [Nat.add_zero] at c1
      have i1 : (k : Int) < (N : Int) := by omega
      have i2 : 0 ≤ (k : Int) ∧ (k : Int) < (N : Int) := by omega
      have s2 : IntKind.i64.wrap ((k : Int) + 1) = (k : Int) + 1 := IntWalk.i64_in _ (by omega)
      have HX := Lib.hid hx
      have HNO := Lib.hid hno
      clear hx hno hr
      obtain ⟨q, hq⟩ : ∃ q, (x.name.toList == s.toList) = q := ⟨_, rfl⟩
      have HQ := Lib.hid hq
      obtain ⟨nm, sv, ov, ops, f⟩ := x
      simp only [] at hq c1
      cases q
      · go_wp2
        go_roundw
        case rel => exact ⟨k + 1, by omega, by go_num, fun j y hj hy => by
          by_cases hjk : j = k
          · subst hjk
            rw [HX.out] at hy
            injection hy with hy
            rw [← hy]
            exact HQ.out
          · exact HNO.out j y (by omega) hy, trivial⟩
        case measure => simp [intOf]; omega
      · go_wp2
        go_ret
        refine ⟨?_, rfl⟩
        have : l.findIdx? (fun x => x.name.toList == s.toList) = some k := by
          rw [List.findIdx?_eq_some_iff_getElem]
          obtain ⟨h1, h2⟩ := List.getElem?_eq_some_iff.1 HX.out
          exact ⟨h1, by rw [h2]; exact HQ.out, fun j hj => by rw [HNO.out j _ hj (List.getElem?_eq_getElem _)]; decide⟩
        unfold posX
        rw [this]
        rfl
    · obtain rfl : k = N := by omega
      have i1 : ¬ (k : Int) < (k : Int) := by omega
      have HE := Lib.hid (show posX l s = -1 from by
        have : l.findIdx? (fun x => x.name.toList == s.toList) = none := by
          rw [List.findIdx?_eq_none_iff]
          intro x hx
          obtain ⟨j, hj⟩ := List.mem_iff_getElem?.1 hx
          exact hno j x (by have := (List.getElem?_eq_some_iff.1 hj).1; rw [HN.out] at this; exact this) hj
        unfold posX
        rw [this])
      clear hno
      go_wp2
      go_ret
      exact ⟨by rw [HE.out] <;> rfl, rfl⟩

end Go.Proofs.Ytmmlpbepaefamaa
