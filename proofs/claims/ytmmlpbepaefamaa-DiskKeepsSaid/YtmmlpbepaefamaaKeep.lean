/- keep: what a crash keeps of a file. -/
import Derived.Test.YtmmlpbepaefamaaGRow
import Derived.Deep.DeepCutAuto
import Derived.Shelf.Abstract
namespace Go.Proofs.Ytmmlpbepaefamaa
open Go.RowKit

/-- What a crash keeps of one file. -/
structure Kp where
  name : ByteArray
  ops : Int
  bytes : Int
def Kp.cells (k : Kp) : List Value := [.string k.name, .int .i64 k.ops, .int .i64 k.bytes]
/-- Is the keep of this file? -/
def isK (s : ByteArray) (k : Kp) : Bool := k.name.toList == s.toList
def keepOf (ks : List Kp) (s : ByteArray) : Int × Int := match ks.find? (isK s) with
  | some k => (max k.ops 0, max k.bytes 0)
  | none => (0, 0)
/-- Keeps that lie somewhere. -/
def KeepsAt (w : World) (v : Value) (ks : List Kp) : Prop :=
  (ks = [] ∧ ∃ a c, v = .slice a 0 c) ∨ ∃ g o c, v = .slice (some ⟨g, o, none⟩) ks.length c ∧ g < w.heap.size ∧ ∀ (k : Nat) (x : Kp), ks[k]? = some x → w.rangeAt g (o + k * 3) (Kp.cells x)
theorem rangeAt_low {w w' : World} {g o : Nat} {l : List Value} (h : w.rangeAt g o l) (hg : g < w.heap.size) (hb : Below w.heap.size w w') : w'.rangeAt g o l := fun j u hj => (hb.cell (p := ⟨g, o + j, none⟩) hg).trans (h j u hj)
theorem KeepsAt.low {w w' : World} {v : Value} {ks : List Kp} (h : KeepsAt w v ks) (hb : Below w.heap.size w w') : KeepsAt w' v ks := by
  rcases h with h | ⟨g, o, c, h1, h2, h3⟩
  · exact .inl h
  · exact .inr ⟨g, o, c, h1, Nat.lt_of_lt_of_le h2 hb.size, fun k x hx => rangeAt_low (h3 k x hx) h2 hb⟩
theorem KeepsAt.len {w : World} {v : Value} {ks : List Kp} (h : KeepsAt w v ks) : ∃ a c, v = .slice a ks.length c := by
  rcases h with ⟨rfl, a, c, rfl⟩ | ⟨g, o, c, h1, _, _⟩
  · exact ⟨a, c, rfl⟩
  · exact ⟨_, c, h1⟩
theorem KeepsAt.at {w : World} {a : Option Addr} {n c k : Nat} {ks : List Kp} {x : Kp} (h : KeepsAt w (.slice a n c) ks) (hx : ks[k]? = some x) : ∃ g o, a = some ⟨g, o, none⟩ ∧ g < w.heap.size ∧ w.rangeAt g (o + k * 3) (Kp.cells x) := by
  rcases h with ⟨rfl, _⟩ | ⟨g, o, c', h1, h2, h3⟩
  · simp at hx
  · injection h1 with h1
    exact ⟨g, o, h1, h2, h3 k x hx⟩

/-- One keep in a new row. -/
theorem KeepsAt.one {w w' : World} {S : Nat → Prop} (x : Kp) (ho : Only (w.alloc (.cells (Kp.cells x).toArray 38)) w' S) (hs : ¬ S w.heap.size) : KeepsAt w' (.slice (some ⟨w.heap.size, 0, none⟩) 1 1) [x] := by
  have hW : Whole w' w.heap.size 38 (Kp.cells x) := (Whole.new w 38 (Kp.cells x).toArray).only ho hs
  refine .inr ⟨_, 0, 1, rfl, hW.lt, fun k y hk j u hj => ?_⟩
  have hk1 : k < 1 := (List.getElem?_eq_some_iff.1 hk).1
  obtain rfl : k = 0 := by omega
  obtain rfl : x = y := by simpa using hk
  rw [hW.cell]
  simpa using hj
theorem zeroK : (Try.prog.info? 38).map (fun i => (i.zero, i.size)) = some (some (.agg #[.string ⟨#[]⟩, .int .i64 0, .int .i64 0]), 3) := by kernel_rfl
theorem lenK (a : Kp) : (Kp.cells a).length = 3 := rfl
theorem oneK (a : Kp) : (Kp.cells a).toArray.all (·.oneCell') = true := all_oneCell_toArray fun u hu => by
  simp [Kp.cells] at hu
  rcases hu with rfl | rfl | rfl <;> rfl
theorem sizeK : (Try.prog.info? 38).map (·.size) = some 3 := by kernel_rfl
theorem wpList_load_K {w : World} {ops : Array Oper} {rest : List Oper} {op : Oper} {a : Act} {Q : Exit → Act → World → Prop} (hgd : op.guard = none) (x : Operand) (ho : op.op = .load 38 x) (b o : Nat) (hx : a.eval x = .pointer (some ⟨b, o, none⟩)) (q : Kp) (hc : w.rangeAt b o (Kp.cells q))
    (h : wpList Try.prog ops Q rest (a.put op.dst (.agg (Kp.cells q).toArray)) w) : wpList Try.prog ops Q (op :: rest) a w := wpList_load_mid hgd 38 x ho b o hx (Kp.cells q) _ hc Try.underlying38 (by rfl) sizeK h

set_option maxRecDepth 100000 in
set_option maxHeartbeats 1000000 in
theorem closure_K (w : World) (R : Nat) (x : Kp) (s : ByteArray) (hR : Whole w R 9 [.string s]) :
    Calls Try.prog 72 #[.agg (Kp.cells x).toArray, .pointer (some ⟨R, 0, none⟩)] w fun e w' => e = .returned (.bool (isK s x)) ∧ Below w.heap.size w w' := by
  obtain ⟨nm, x1, x2⟩ := x
  have hBA : Below w.heap.size w (w.alloc (.cells #[.string nm, .int .i64 x1, .int .i64 x2] 38)) := (Below.refl _ _).alloc (Nat.le_refl _) _
  have hX := Whole.new w 38 #[.string nm, .int .i64 x1, .int .i64 x2]
  have hR0 := hR.alloc (.cells #[.string nm, .int .i64 x1, .int .i64 x2] 38)
  have y0 := hX.cell 0
  have r0 := hR0.cell 0
  clear hX hR0 hR
  obtain ⟨q, hq⟩ : ∃ q, (nm.toList == s.toList) = q := ⟨_, rfl⟩
  show Calls Try.prog 72 #[.agg #[.string nm, .int .i64 x1, .int .i64 x2], .pointer (some ⟨R, 0, none⟩)] w fun e w' => e = .returned (.bool (nm.toList == s.toList)) ∧ Below w.heap.size w w'
  rw [hq]
  generalize hw : (w.alloc (.cells #[.string nm, .int .i64 x1, .int .i64 x2] 38)) = w0 at *
  go_enter Try.func72, Try.ntmps72
  go_wp2_with (refine wpList_box_cells (by rfl) 38 _ (by rfl) #[.string nm, .int .i64 x1, .int .i64 x2] (by rfl) ?_; rw [hw])
  go_ret
  exact ⟨rfl, hBA⟩

set_option maxRecDepth 100000 in
set_option maxHeartbeats 2000000 in
theorem indexfunc_K (w : World) (R : Nat) (v : Value) (l : List Kp) (s : ByteArray) (hv : KeepsAt w v l) (hR : Whole w R 9 [.string s]) (hlen : l.length ≤ 9223372036854775806) :
    Calls Try.prog 71 #[v, .func (.func 72) #[] #[.pointer (some ⟨R, 0, none⟩)]] w fun e w' => ∃ i : Int, e = .returned (.int .i64 i) ∧ ((i = -1 ∧ l.find? (isK s) = none) ∨ ∃ (k : Nat) (x : Kp), i = k ∧ k < l.length ∧ l[k]? = some x ∧ l.find? (isK s) = some x) ∧ Below w.heap.size w w' := by
  obtain ⟨N, hN⟩ : ∃ N, l.length = N := ⟨_, rfl⟩
  obtain ⟨p, c, hp⟩ := hv.len
  rw [hN] at hp hlen
  subst hp
  have HN := Lib.hid hN
  have HV := Lib.hid hv
  have HR := Lib.hid hR
  have eg : ∀ args w, (callFunc 72 args).run Try.prog w = .ok (.enter 72 args) w := enters_of Try.func72 (by kernel_rfl) rfl
  clear hN hv hR
  go_enter Try.func71, Try.ntmps71
  go_wp2
  go_loopw [8] (fun i wr => ∃ k : Nat, k ≤ N ∧ i = .int .i64 k ∧ (∀ j x, j < k → l[j]? = some x → isK s x = false) ∧ Below w.heap.size w wr) (fun i _ => N - (intOf i).toNat)
  case atStart => exact ⟨0, by omega, rfl, fun j x hj => absurd hj (Nat.not_lt_zero _), Below.refl _ _⟩
  case round =>
    obtain ⟨k, hkN, rfl, hno, hB⟩ := hrel
    by_cases hlt : k < N
    · obtain ⟨x, hx⟩ : ∃ x, l[k]? = some x := ⟨_, List.getElem?_eq_getElem (by rw [HN.out]; exact hlt)⟩
      obtain ⟨g, o, rfl, hg, hrng⟩ := (HV.out.low hB).at hx
      have i1 : (k : Int) < (N : Int) := by omega
      have i2 : 0 ≤ (k : Int) ∧ (k : Int) < (N : Int) := by omega
      have b2 : IntKind.i64.wrap ((k : Int) + 1) = (k : Int) + 1 := IntWalk.i64_in _ (by omega)
      obtain ⟨a, ha⟩ : ∃ a, isK s x = a := ⟨_, rfl⟩
      have HCL := Lib.hid (ha ▸ closure_K wr R x s (HR.out.below hB HR.out.lt))
      have HX := Lib.hid (And.intro hx ha)
      have HNO := Lib.hid hno
      clear hx ha hno hg
      cases a
      · go_wp2_with (first
          | (refine wpList_load_K (by rfl) _ (by rfl) g (o + k * 3) (by rfl) x hrng ?_)
          | (go_at_fn 72; refine HCL.out.mono ?_; rintro e w2 ⟨rfl, hB2⟩))
        go_roundw
        case rel => exact ⟨k + 1, by omega, by go_num, fun j y hj hy => by
          by_cases hjk : j = k
          · subst hjk
            rw [HX.out.1] at hy
            injection hy with hy
            exact hy ▸ HX.out.2
          · exact HNO.out j y (by omega) hy, hB.trans (hB2.mono hB.size)⟩
        case measure => simp [intOf]; omega
      · go_wp2_with (first
          | (refine wpList_load_K (by rfl) _ (by rfl) g (o + k * 3) (by rfl) x hrng ?_)
          | (go_at_fn 72; refine HCL.out.mono ?_; rintro e w2 ⟨rfl, hB2⟩))
        go_ret
        refine ⟨k, rfl, .inr ⟨k, x, rfl, by rw [HN.out]; exact hlt, HX.out.1, ?_⟩, hB.trans (hB2.mono hB.size)⟩
        rw [List.find?_eq_some_iff_getElem]
        obtain ⟨h1, h2⟩ := List.getElem?_eq_some_iff.1 HX.out.1
        exact ⟨HX.out.2, k, h1, h2, fun j hj => by rw [HNO.out j _ hj (List.getElem?_eq_getElem _)]; rfl⟩
    · obtain rfl : k = N := by omega
      have i1 : ¬ (k : Int) < (k : Int) := by omega
      have hall := Lib.hid <| show l.find? (isK s) = none from List.find?_eq_none.2 fun x hx => by
        obtain ⟨j, hj⟩ := List.mem_iff_getElem?.1 hx
        rw [hno j x (by have := (List.getElem?_eq_some_iff.1 hj).1; rw [HN.out] at this; exact this) hj]
        exact Bool.false_ne_true
      go_wp2
      go_ret
      exact ⟨-1, rfl, .inl ⟨rfl, fun x hx => by simpa using List.find?_eq_none.1 hall.out x hx⟩, hB⟩

set_option maxRecDepth 100000 in
set_option maxHeartbeats 2000000 in
theorem keep_calls (w : World) (v : Value) (ks : List Kp) (s : ByteArray) (h : KeepsAt w v ks) (hlen : ks.length ≤ 9223372036854775806) :
    Calls Try.prog 41 #[v, .string s] w fun e w' => e = .returned (.tuple #[.int .i64 (keepOf ks s).1, .int .i64 (keepOf ks s).2]) ∧ Below w.heap.size w w' := by
  have b0 : Below w.heap.size w (w.alloc (.cells #[.string s] 9)) := (Below.refl _ _).alloc (Nat.le_refl _) _
  have HIX := Lib.hid (indexfunc_K (w.alloc (.cells #[.string s] 9)) w.heap.size v ks s (h.low b0) (Whole.new w 9 #[.string s]) hlen)
  obtain ⟨p, c, rfl⟩ := h.len
  have HV := Lib.hid h
  have HB := Lib.hid b0
  clear h b0
  generalize hw : w.alloc (.cells #[.string s] 9) = w0 at HIX HB
  go_enter Try.func41, Try.ntmps41
  go_upto_region 2 with (first
    | (go_at_fn 71; refine HIX.out.mono ?_; rintro e w1 ⟨i, rfl, hi, b1⟩)
    | (go_at_call 71; refine HIX.out.mono ?_; rintro e w1 ⟨i, rfl, hi, b1⟩)
    | fail)
  have B1 := HB.out.trans (b1.mono HB.out.size)
  rcases hi with ⟨rfl, hf⟩ | ⟨k, x, rfl, hk, hx, hf⟩
  · have HF := Lib.hid (show keepOf ks s = (0, 0) by unfold keepOf; rw [hf])
    clear hf
    go_wp2
    go_ret2
    exact ⟨by rw [HF.out]; rfl, B1⟩
  · obtain ⟨g, o, rfl, hg, hr⟩ := (HV.out.low B1).at hx
    have HF := Lib.hid (show keepOf ks s = (max x.ops 0, max x.bytes 0) by unfold keepOf; rw [hf])
    have i1 : ¬ (k : Int) < 0 := by omega
    have i2 : 0 ≤ (k : Int) ∧ (k : Int) < (ks.length : Int) := by omega
    have c1 : w1.cell? ⟨g, o + k * 3 + 1, none⟩ = some (.int .i64 x.ops) := hr 1 _ rfl
    have c2 : w1.cell? ⟨g, o + k * 3 + 2, none⟩ = some (.int .i64 x.bytes) := hr 2 _ rfl
    have m1 : (if x.ops < 0 then (0 : Int) else x.ops) = max x.ops 0 := by split <;> omega
    have m2 : (if x.bytes < 0 then (0 : Int) else x.bytes) = max x.bytes 0 := by split <;> omega
    generalize max x.ops 0 = M1 at m1 HF
    generalize max x.bytes 0 = M2 at m2 HF
    clear hf hr hx
    go_wp2
    go_still (by kernel_rfl)
    change Exit.then _ _ Exit.normal _ w1.drew
    go_wp2
    go_ret2
    exact ⟨by rw [HF.out]; rfl, B1.drew⟩

end Go.Proofs.Ytmmlpbepaefamaa
