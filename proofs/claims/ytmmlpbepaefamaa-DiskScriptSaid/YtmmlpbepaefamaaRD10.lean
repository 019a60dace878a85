/- The document's disk: Names, New, Spoil. -/
import Derived.Test.YtmmlpbepaefamaaRD9
namespace Go.Proofs.Ytmmlpbepaefamaa
open Go.RowKit

theorem own_poke {w : World} {B g c n i : Nat} {l : List (BitVec 8)} (h : Own w B (.slice (some ⟨g, 0, none⟩) n c) l) (hi : i < l.length) (y : BitVec 8) :
    w.cell? ⟨g, i, none⟩ = some (vu8 (l.getD i 0)) ∧ w.frozen? ⟨g, i, none⟩ = false ∧ Own (w.setCell ⟨g, i, none⟩ (vu8 y)) B (.slice (some ⟨g, 0, none⟩) n c) (l.set i y) := by
  obtain ⟨p1, p2, p3⟩ := own_put (u := vu8 y) h (j := i) (by rw [List.length_map]; exact hi)
  refine ⟨?_, p2, ?_⟩
  · rw [p3, List.getElem?_map, List.getElem?_eq_getElem hi, List.getD_eq_getElem?_getD, List.getElem?_eq_getElem hi]
    rfl
  · unfold Own
    rw [List.length_set, List.map_set]
    exact p1
/-- A bit of bytes is turned. -/
def spoilT (l : List (BitVec 8)) (c : Nat) : List (BitVec 8) := l.set (c / 8) (l.getD (c / 8) 0 ^^^ BitVec.ofInt 8 ((2 : Int) ^ (c % 8)))
theorem spoilT_len (l : List (BitVec 8)) (c : Nat) : (spoilT l c).length = l.length := List.length_set
def strC (s : ByteArray) : List Value := [.string s]
theorem lenS (s : ByteArray) : (strC s).length = 1 := rfl
theorem TxtAt.of_gen {w : World} {B : Nat} {v : Value} {l : List ByteArray} (h : w.ownsRow B 9 1 v l.length (l.flatMap strC)) : TxtAt w v l := by
  rcases row_shape h with ⟨rfl, h0⟩ | ⟨g, cap, rfl, _, hg, hc⟩
  · exact .inl ⟨_, _, rfl, List.eq_nil_of_length_eq_zero h0⟩
  · refine .inr ⟨g, 0, cap, rfl, hg, fun j hj => ?_⟩
    rw [Nat.zero_add]
    have := flat_at lenS l j l[j] 0 (.string l[j]) (List.getElem?_eq_getElem hj) rfl
    rw [Nat.mul_one, Nat.add_zero] at this
    refine (hc j _ this).trans ?_
    rw [List.getD_eq_getElem?_getD, List.getElem?_eq_getElem hj]
    rfl
theorem info_str : ∃ i, Try.prog.info? 9 = some i ∧ i.zero = some (.string ⟨#[]⟩) ∧ i.size = 1 ∧ i.bytes = 16 := info_of (by kernel_rfl)
theorem info_int : ∃ i, Try.prog.info? 3 = some i ∧ i.zero = some (.int .i64 0) ∧ i.size = 1 ∧ i.bytes = 8 := info_of (by kernel_rfl)
def intC (z : Int) : List Value := [.int .i64 z]
theorem lenI (z : Int) : (intC z).length = 1 := rfl
theorem flat_int : ∀ l : List Int, l.flatMap intC = l.map fun k => Value.int .i64 k
  | [] => rfl
  | y :: l => by
    rw [List.flatMap_cons, flat_int l]
    rfl
/-- Numbers that can be appended. -/
def NumSrc (w : World) (v : Value) (l : List Int) : Prop :=
  (v = .slice none 0 0 ∧ l = []) ∨ (∃ a c, v = .slice (some a) 0 c ∧ l = []) ∨ ∃ g o c, v = .slice (some ⟨g, o, none⟩) l.length c ∧ g < w.heap.size ∧ ∀ i z, l[i]? = some z → w.cell? ⟨g, o + i, none⟩ = some (.int .i64 z)
theorem NumSrc.low {w w' : World} {v : Value} {l : List Int} (h : NumSrc w v l) (hb : Below w.heap.size w w') : NumSrc w' v l := by
  rcases h with h | h | ⟨g, o, c, rfl, hg, hc⟩
  · exact .inl h
  · exact .inr (.inl h)
  · exact .inr (.inr ⟨g, o, c, rfl, Nat.lt_of_lt_of_le hg hb.size, fun i a ha => (hb.cell (p := ⟨g, o + i, none⟩) hg).trans (hc i a ha)⟩)
theorem NumSrc.at {w : World} {v : Value} {l : List Int} (h : NumSrc w v l) : NumsAt w v l := by
  rcases h with ⟨rfl, rfl⟩ | ⟨a, c, rfl, rfl⟩ | ⟨g, o, c, rfl, hg, hc⟩
  · exact .inl ⟨_, _, rfl, rfl⟩
  · exact .inl ⟨_, _, rfl, rfl⟩
  · exact .inr ⟨g, o, c, rfl, hg, fun j z hz => hc j z hz⟩
theorem wpList_append_ints {w : World} {ops : Array Oper} {rest : List Oper} {o : Oper} {a : Act} {Q : Exit → Act → World → Prop} (hgd : o.guard = none) (s x : Operand)
    (ho : o.op = .call { callee := .builtin .append, args := #[s, x], argTypes := #[54, 54] })
    (B : Nat) (v u : Value) (l m : List Int) (hs : a.eval s = v) (hown : w.ownsRow B 3 1 v l.length (l.flatMap intC)) (hx : a.eval x = u) (hu : NumSrc w u m) (hlen : l.length + m.length ≤ 100000) (hbase : B ≤ w.heap.size)
    (h : ∀ v' w', w'.ownsRow B 3 1 v' (l ++ m).length ((l ++ m).flatMap intC) → w.grownBy w' v.ownBlock → Moved w v v' → wpList Try.prog ops Q rest (a.put o.dst v') w') :
    wpList Try.prog ops Q (o :: rest) a w := by
  refine wpList_plain hgd fun K hK => ?_
  obtain ⟨i, hi, hz, hsz, hbys⟩ := info_int
  rcases hu with ⟨rfl, rfl⟩ | ⟨a0, c, rfl, rfl⟩ | ⟨g, off, c, rfl, hg, hc⟩
  · have hrun := run_append_owned_none (P := Try.prog) (w := w) B 54 o.type 3 i 1 Try.underlying54 hi v l.length (l.flatMap intC) hown
    unfold Oper.wp execOp
    simp only [ho, resolve, invoke, builtin, Sem.run_bind, Sem.run_pure, Result.andThen_ok, List.map_toArray, List.map_cons, List.map_nil, hs, hx, hrun]
    exact hK _ _ (h v w (by simpa using hown) (World.grownBy.refl _ _) (.inl rfl))
  · refine wp_append_at w s x 54 ho B 3 i _ 1 8 Try.underlying54 hi hz hsz hbys rfl (by decide) v l.length (l.flatMap intC) hs hown a0 0 c [] hx rfl (fun j y hj => by simp at hj) (fun y hy => by cases hy) (by simp only [maxLen]; simp only [List.length_nil] at hlen; omega) (Nat.le_trans (Nat.mul_le_mul hlen (Nat.le_refl 8)) (by decide)) hbase fun v' w' h1 h2 h4 => hK _ _ (h v' w' ?_ h2 h4)
    simpa using h1
  · refine wp_append_at w s x 54 ho B 3 i _ 1 8 Try.underlying54 hi hz hsz hbys rfl (by decide) v l.length (l.flatMap intC) hs hown ⟨g, off, none⟩ m.length c (m.flatMap intC) hx (flat_len lenI m) (fun j y hj => ?_) (fun y hy => ?_) (by simp only [maxLen]; omega) (Nat.le_trans (Nat.mul_le_mul hlen (Nat.le_refl 8)) (by decide)) hbase fun v' w' h1 h2 h4 => hK _ _ (h v' w' ?_ h2 h4)
    · rw [flat_int, List.getElem?_map] at hj
      cases hm : m[j]? with
      | none => rw [hm] at hj; cases hj
      | some z =>
        rw [hm] at hj
        obtain rfl : Value.int .i64 z = y := Option.some.inj hj
        rw [Addr.add_lit]
        exact hc j z hm
    · obtain ⟨b, _, hb⟩ := List.mem_flatMap.1 hy
      obtain rfl : y = .int .i64 b := by simpa [intC] using hb
      rfl
    · rw [List.length_append, List.flatMap_append]
      exact h1

set_option maxRecDepth 100000 in
set_option maxHeartbeats 4000000 in
theorem rnames_calls (w : World) (B m n : Nat) (T : Nat → Prop) (fv rv : Value) (l : List Rx) (rl : List Int) (h : RD w B m T fv rv l rl n) (hl : l.length ≤ 1000) :
    Calls Try.prog 64 #[.pointer (some ⟨m, 0, none⟩)] w fun e w' => ∃ v, e = .returned v ∧ TxtAt w' v ((viewX l).map (·.1)) ∧ Below w.heap.size w w' := by
  obtain ⟨fa, fc, hfv⟩ := slice_of_row h.row
  obtain ⟨N, hN⟩ : ∃ k, l.length = k := ⟨_, rfl⟩
  rw [hN] at hfv hl
  subst hfv
  have HN := Lib.hid hN
  have H := Lib.hid h
  clear h hN
  go_enter Try.func64, Try.ntmps64
  go_wp2
  go_loopw [3, 4] (fun x i wr => ∃ (k : Nat) (ua : Option Addr) (un uc : Nat), k ≤ N ∧ i = .int .i64 k ∧ x = .slice ua un uc ∧ wr.ownsRow w.heap.size 9 1 (.slice ua un uc) ((l.take k).map Rx.name).length (((l.take k).map Rx.name).flatMap strC) ∧ Below w.heap.size w wr) (fun _ i _ => N - (intOf i).toNat)
  case atStart => exact ⟨0, none, 0, 0, by omega, rfl, rfl, World.ownsRow_nil w _ _ _, Below.refl _ _⟩
  case round =>
    obtain ⟨k, ua, un, uc, hk, rfl, rfl, hO, hB⟩ := hrel
    have hR := H.out.low hB
    have c0 := hR.box.cell 0
    by_cases hlt : k < N
    · obtain ⟨x, hx⟩ : ∃ x, l[k]? = some x := ⟨_, List.getElem?_eq_getElem (by rw [HN.out]; exact hlt)⟩
      obtain ⟨g, rfl, hr⟩ := own_atX hR.row hx
      have c1 := hr 0 _ rfl
      simp only [Nat.add_zero] at c1
      have i1 : (k : Int) < (N : Int) := by omega
      have i2 : 0 ≤ (k : Int) ∧ (k : Int) < (N : Int) := by omega
      have s2 : IntKind.i64.wrap ((k : Int) + 1) = (k : Int) + 1 := IntWalk.i64_in _ (by omega)
      have hst : (l.take (k + 1)).map Rx.name = (l.take k).map Rx.name ++ [x.name] := by
        rw [List.take_add_one, hx, List.map_append]
        rfl
      have HST := Lib.hid hst
      have HL := Lib.hid (show ((l.take k).map Rx.name).length ≤ 1000 by rw [List.length_map, List.length_take]; omega)
      clear hx hR hst hr
      generalize x.name = nx at c1 HST
      have hb2 : Below wr.heap.size wr (wr.alloc (.cells (strC nx).toArray 9)) := (Below.refl _ _).alloc (Nat.le_refl _) _
      have s8 := src_new (f := strC) (n := 1) wr 9 nx
      have hO2 := row_low hO hb2
      have HB := Lib.hid hB
      clear hO
      go_wp2_with (first
        | (refine wpList_append_gen (f := strC) (n := 1) (w := wr.alloc (.cells (strC nx).toArray 9)) (by rfl) _ _ 48 9 (by rfl) _ 16 Try.underlying48 info_str rfl (by decide) (by decide) lenS w.heap.size _ _ ((l.take k).map Rx.name) [nx] (by rfl) hO2 (by rfl) s8 (fun q hq y hy => by (obtain rfl : y = .string q := by simpa [strC] using hy); rfl) (by have := HL.out; simp only [List.length_cons, List.length_nil]; omega) (Nat.le_trans HB.out.size hb2.size) ?_; intro v9 w9 O9 G9 M9; obtain ⟨a9, n9, c9, he9⟩ := slice_any O9; subst he9)
        | fail)
      go_roundw
      case rel => exact ⟨k + 1, _, _, _, by omega, by go_num, rfl, by rw [HST.out]; exact O9, (HB.out.trans (hb2.mono HB.out.size)).grown G9 (Nat.le_trans HB.out.size hb2.size) (fun i hi => own_ge hO2 hi)⟩
      case measure => simp [intOf]; omega
    · obtain rfl : k = N := by omega
      have i1 : ¬ (k : Int) < (k : Int) := by omega
      rw [List.take_of_length_le (Nat.le_of_eq HN.out)] at hO
      have HT := Lib.hid (show TxtAt wr (.slice ua un uc) ((viewX l).map (·.1)) from by
        have := TxtAt.of_gen hO
        unfold viewX
        rw [List.map_map]
        exact this)
      clear hO hR
      go_wp2
      go_ret
      exact ⟨_, rfl, HT.out, hB⟩

set_option maxRecDepth 100000 in
set_option maxHeartbeats 4000000 in
theorem rnew_long (w : World) (v : Value) (l : List Int) (hv : NumsAt w v l) (hl : 4096 < l.length) :
    Calls Try.prog 27 #[v] w fun e w' => e = .returned (.tuple #[.pointer none, .int .i64 3]) ∧ w = w' := by
  obtain ⟨a, c, rfl⟩ := hv.len
  have g1 : (4096 : Int) < (l.length : Int) := by omega
  clear hv
  go_enter Try.func27, Try.ntmps27
  go_wp2
  go_ret2
  exact ⟨rfl, rfl⟩
set_option maxRecDepth 100000 in
set_option maxHeartbeats 4000000 in
theorem rnew_calls (w : World) (v : Value) (l : List Int) (hv : NumSrc w v l) (hl : l.length ≤ 4096) :
    Calls Try.prog 27 #[v] w fun e w' => ∃ m, e = .returned (.tuple #[.pointer (some ⟨m, 0, none⟩), .int .i64 0]) ∧ (∃ T, RK w' w.heap.size m T [] l 0) ∧ Below w.heap.size w w' := by
  obtain ⟨a, c, rfl⟩ := hv.at.len
  have g1 : ¬ (4096 : Int) < (l.length : Int) := by omega
  have b1 : Below w.heap.size w (w.alloc (.cells #[] 3)) := (Below.refl _ _).alloc (Nat.le_refl _) _
  have hE : (w.alloc (.cells #[] 3)).ownsRow w.heap.size 3 1 (.slice (some ⟨w.heap.size, 0, none⟩) 0 0) ([] : List Int).length (([] : List Int).flatMap intC) := own_empty w 3
  have s1 := hv.low b1
  have HL := Lib.hid hl
  clear hv
  go_enter Try.func27, Try.ntmps27
  go_wp2_with (first
    | (refine wpList_box_any (by rfl) 99 _ (by rfl) #[.slice none 0 0, .slice a9 n9 c9, .int .i64 0] (by rfl) ?_)
    | (refine wpList_append_ints (w := w.alloc (.cells #[] 3)) (by rfl) _ _ (by rfl) w.heap.size _ _ [] l (by rfl) hE (by rfl) s1 (by have := HL.out; simp only [List.length_nil]; omega) b1.size ?_; intro v9 w9 O9 G9 M9; obtain ⟨a9, n9, c9, he9⟩ := slice_any O9; subst he9)
    | fail)
  have b9 := b1.grown G9 b1.size (fun i hi => own_ge hE hi)
  rw [List.nil_append] at O9
  have hX := Whole.new w9 99 #[.slice none 0 0, .slice a9 n9 c9, .int .i64 0]
  have b10 : Below w9.heap.size w9 (w9.alloc (.cells #[.slice none 0 0, .slice a9 n9 c9, .int .i64 0] 99)) := (Below.refl _ _).alloc (Nat.le_refl _) _
  go_ret2
  refine ⟨w9.heap.size, rfl, ⟨fun i => w.heap.size ≤ i ∧ i < w9.heap.size + 1, .slice none 0 0, .slice a9 n9 c9, [], ⟨hX, World.ownsRow_nil _ _ _ _, fun x hx => (by cases hx), by rw [← flat_int]; exact row_low O9 b10, ⟨b9.size, by omega⟩, fun g hg => (by cases hg), fun g hg => ⟨own_ge O9 hg, by have := row_lt O9 hg; omega⟩, fun i hi => ⟨hi.1, by have := hi.2; simp; omega⟩⟩, rfl⟩, b9.trans (b10.mono b9.size)⟩

set_option maxRecDepth 100000 in
set_option maxHeartbeats 4000000 in
theorem rspoil_none (w : World) (B m n : Nat) (T : Nat → Prop) (fv rv : Value) (l : List Rx) (rl : List Int) (h : RD w B m T fv rv l rl n) (hl : l.length ≤ 1000) (s : ByteArray) (z : Int) (hg : getA (viewX l) s = none) :
    Calls Try.prog 63 #[.pointer (some ⟨m, 0, none⟩), .string s, .int .i64 z] w fun e w' => e = .returned (.int .i64 6) ∧ w = w' := by
  have hp := posX_neg hg
  clear hg
  go_enter Try.func63, Try.ntmps63
  go_wp2_with (first
    | (go_at_call 78; refine (rat_calls w B m _ T _ _ l rl h (by omega) s).mono ?_; rintro e wa ⟨rfl, rfl⟩; rw [hp])
    | fail)
  go_ret
  exact ⟨rfl, rfl⟩

set_option maxRecDepth 100000 in
set_option maxHeartbeats 4000000 in
theorem rspoil_state (w : World) (B m n : Nat) (T : Nat → Prop) (fv rv : Value) (l : List Rx) (rl : List Int) (h : RD w B m T fv rv l rl n) (hl : l.length ≤ 1000) (s : ByteArray) (z : Int) (f : Dfile) (hg : getA (viewX l) s = some f) (ho : f.ops.length ≠ 0) :
    Calls Try.prog 63 #[.pointer (some ⟨m, 0, none⟩), .string s, .int .i64 z] w fun e w' => e = .returned (.int .i64 10) ∧ w = w' := by
  obtain ⟨k, x, hk, hx, hxn, hxf, hset⟩ := posX_some hg
  have hp := posX_pos hk
  clear hg hk
  obtain ⟨fa, fc, hfv⟩ := slice_of_row h.row
  subst hfv
  obtain ⟨g, hg0, hrg⟩ := own_atX h.row hx
  subst hg0
  have hxa := h.each x (List.mem_of_getElem? hx)
  have c0 := h.box.cell 0
  have i2 : 0 ≤ (k : Int) ∧ (k : Int) < (l.length : Int) := by have := (List.getElem?_eq_some_iff.1 hx).1; omega
  have i4 : ¬ (k : Int) < 0 := by omega
  have hcnt : x.ops.length = f.ops.length := by rw [← hxf, ← hxa.ops]; simp
  obtain ⟨oa, oc, hov⟩ := slice_of_row hxa.row
  obtain ⟨sa, sc, hsv⟩ := slice_of_row hxa.safe
  have d2 := hrg 2 _ rfl
  rw [hov, hcnt] at d2
  have d1 := hrg 1 _ rfl
  rw [hsv, hxf] at d1
  have g1 : 0 < (f.ops.length : Int) := by omega
  clear hset hxa hxf hxn hx hov hcnt hsv hrg
  go_enter Try.func63, Try.ntmps63
  go_wp2_with (first
    | (go_at_call 78; refine (rat_calls w B m _ T _ _ l rl h (by omega) s).mono ?_; rintro e wa ⟨rfl, rfl⟩; rw [hp])
    | fail)
  go_ret
  exact ⟨rfl, rfl⟩

set_option maxRecDepth 100000 in
set_option maxHeartbeats 4000000 in
theorem rspoil_neg (w : World) (B m n : Nat) (T : Nat → Prop) (fv rv : Value) (l : List Rx) (rl : List Int) (h : RD w B m T fv rv l rl n) (hl : l.length ≤ 1000) (s : ByteArray) (z : Int) (f : Dfile) (hg : getA (viewX l) s = some f) (ho : f.ops = []) (hz : z < 0) :
    Calls Try.prog 63 #[.pointer (some ⟨m, 0, none⟩), .string s, .int .i64 z] w fun e w' => e = .returned (.int .i64 2) ∧ w = w' := by
  obtain ⟨k, x, hk, hx, hxn, hxf, hset⟩ := posX_some hg
  have hp := posX_pos hk
  clear hg hk
  obtain ⟨fa, fc, hfv⟩ := slice_of_row h.row
  subst hfv
  obtain ⟨g, hg0, hrg⟩ := own_atX h.row hx
  subst hg0
  have hxa := h.each x (List.mem_of_getElem? hx)
  have c0 := h.box.cell 0
  have i2 : 0 ≤ (k : Int) ∧ (k : Int) < (l.length : Int) := by have := (List.getElem?_eq_some_iff.1 hx).1; omega
  have i4 : ¬ (k : Int) < 0 := by omega
  have hcnt : x.ops.length = f.ops.length := by rw [← hxf, ← hxa.ops]; simp
  obtain ⟨oa, oc, hov⟩ := slice_of_row hxa.row
  obtain ⟨sa, sc, hsv⟩ := slice_of_row hxa.safe
  have d2 := hrg 2 _ rfl
  rw [hov, hcnt] at d2
  have d1 := hrg 1 _ rfl
  rw [hsv, hxf] at d1
  rw [ho, List.length_nil] at d2
  clear hset hxa hxf hxn hx hov hcnt hsv hrg
  go_enter Try.func63, Try.ntmps63
  go_wp2_with (first
    | (go_at_call 78; refine (rat_calls w B m _ T _ _ l rl h (by omega) s).mono ?_; rintro e wa ⟨rfl, rfl⟩; rw [hp])
    | fail)
  go_ret
  exact ⟨rfl, rfl⟩

set_option maxRecDepth 100000 in
set_option maxHeartbeats 4000000 in
theorem rspoil_far (w : World) (B m n : Nat) (T : Nat → Prop) (fv rv : Value) (l : List Rx) (rl : List Int) (h : RD w B m T fv rv l rl n) (hl : l.length ≤ 1000) (s : ByteArray) (c : Nat) (hc : c ≤ 9223372036854775807) (f : Dfile) (hg : getA (viewX l) s = some f) (ho : f.ops = []) (hz : f.safe.length ≤ c / 8) :
    Calls Try.prog 63 #[.pointer (some ⟨m, 0, none⟩), .string s, .int .i64 c] w fun e w' => e = .returned (.int .i64 2) ∧ w = w' := by
  obtain ⟨k, x, hk, hx, hxn, hxf, hset⟩ := posX_some hg
  have hp := posX_pos hk
  clear hg hk
  obtain ⟨fa, fc, hfv⟩ := slice_of_row h.row
  subst hfv
  obtain ⟨g, hg0, hrg⟩ := own_atX h.row hx
  subst hg0
  have hxa := h.each x (List.mem_of_getElem? hx)
  have c0 := h.box.cell 0
  have i2 : 0 ≤ (k : Int) ∧ (k : Int) < (l.length : Int) := by have := (List.getElem?_eq_some_iff.1 hx).1; omega
  have i4 : ¬ (k : Int) < 0 := by omega
  have hcnt : x.ops.length = f.ops.length := by rw [← hxf, ← hxa.ops]; simp
  obtain ⟨oa, oc, hov⟩ := slice_of_row hxa.row
  obtain ⟨sa, sc, hsv⟩ := slice_of_row hxa.safe
  have d2 := hrg 2 _ rfl
  rw [hov, hcnt] at d2
  have d1 := hrg 1 _ rfl
  rw [hsv, hxf] at d1
  rw [ho, List.length_nil] at d2
  have j1 : ¬ (c : Int) < 0 := by omega
  obtain ⟨q, hq⟩ : ∃ x, c / 8 = x := ⟨_, rfl⟩
  have e1 : IntKind.i64.wrap ((c : Int) / 8) = (q : Int) := by rw [IntWalk.i64_in _ (by omega)]; omega
  have j2 : (f.safe.length : Int) ≤ (q : Int) := by omega
  clear hz hq
  clear hset hxa hxf hxn hx hov hcnt hsv hrg
  go_enter Try.func63, Try.ntmps63
  go_wp2_with (first
    | (go_at_call 78; refine (rat_calls w B m _ T _ _ l rl h (by omega) s).mono ?_; rintro e wa ⟨rfl, rfl⟩; rw [hp])
    | fail)
  go_ret
  exact ⟨rfl, rfl⟩

set_option maxRecDepth 100000 in
set_option maxHeartbeats 4000000 in
theorem rspoil_there (w : World) (B m n : Nat) (T : Nat → Prop) (fv rv : Value) (l : List Rx) (rl : List Int) (h : RD w B m T fv rv l rl n) (hl : l.length ≤ 1000) (s : ByteArray) (c : Nat) (hc : c ≤ 9223372036854775807) (f : Dfile) (hg : getA (viewX l) s = some f) (ho : f.ops = []) (hz : c / 8 < f.safe.length) :
    Calls Try.prog 63 #[.pointer (some ⟨m, 0, none⟩), .string s, .int .i64 c] w fun e w' => e = .returned (.int .i64 0) ∧ RX w w' B m T (setA (viewX l) s ⟨spoilT f.safe c, [], f.fresh⟩) rl n := by
  obtain ⟨k, x, hk, hx, hxn, hxf, hset⟩ := posX_some hg
  have hp := posX_pos hk
  clear hg hk
  obtain ⟨fa, fc, hfv⟩ := slice_of_row h.row
  subst hfv
  obtain ⟨g, hg0, hrg⟩ := own_atX h.row hx
  subst hg0
  have hxa := h.each x (List.mem_of_getElem? hx)
  have c0 := h.box.cell 0
  have i2 : 0 ≤ (k : Int) ∧ (k : Int) < (l.length : Int) := by have := (List.getElem?_eq_some_iff.1 hx).1; omega
  have i4 : ¬ (k : Int) < 0 := by omega
  have hcnt : x.ops.length = f.ops.length := by rw [← hxf, ← hxa.ops]; simp
  obtain ⟨oa, oc, hov⟩ := slice_of_row hxa.row
  obtain ⟨sa, sc, hsv⟩ := slice_of_row hxa.safe
  have d2 := hrg 2 _ rfl
  rw [hov, hcnt] at d2
  have d1 := hrg 1 _ rfl
  rw [hsv, hxf] at d1
  rw [ho, List.length_nil] at d2
  have j1 : ¬ (c : Int) < 0 := by omega
  obtain ⟨q, hq⟩ : ∃ x, c / 8 = x := ⟨_, rfl⟩
  obtain ⟨mm, hm8⟩ : ∃ x, c % 8 = x := ⟨_, rfl⟩
  have e1 : IntKind.i64.wrap ((c : Int) / 8) = (q : Int) := by rw [IntWalk.i64_in _ (by omega)]; omega
  have e2 : (c : Int).tmod 8 = (mm : Int) := by rw [Int.tmod_eq_emod_of_nonneg (by omega)]; omega
  have j2 : ¬ (f.safe.length : Int) ≤ (q : Int) := by omega
  have hql : q < f.safe.length := by omega
  have hm7 : mm < 8 := by omega
  have HQ := Lib.hid (And.intro hq hm8)
  have HO := Lib.hid ho
  have S4 : SliceIs w (.slice sa f.safe.length sc) f.safe := by
    have := Own.slice hxa.safe
    rw [hsv, hxf] at this
    exact this
  have hsl : f.safe.length ≤ 1048576 := by rw [← hxf]; exact hxa.okf.1
  have HX := Lib.hid (And.intro hx (And.intro hxn (And.intro hxf (And.intro hset hxa))))
  have b4 : Below w.heap.size w (w.alloc (.cells #[] 5)) := (Below.refl _ _).alloc (Nat.le_refl _) _
  have hE := made_empty w
  replace S4 := S4.low b4
  have c0' := (b4.cell (p := ⟨m, 0, none⟩) (h.old m h.tm).2).trans c0
  have d1' := (b4.cell (p := ⟨g, k * 4 + 1, none⟩) (row_lt h.row rfl)).trans d1
  clear hset hxa hxf hxn hx hov hcnt hsv hrg hq hm8 hz ho
  go_enter Try.func63, Try.ntmps63
  go_upto_region 9 with (first
    | (go_at_call 78; refine (rat_calls w B m _ T _ _ l rl h (by omega) s).mono ?_; rintro e wa ⟨rfl, rfl⟩; rw [hp])
    | (refine wpList_append_bytes (w := w.alloc (.cells #[] 5)) (by rfl) _ _ (by rfl) w.heap.size _ [] (by rfl) hE _ f.safe (by rfl) S4 (by simp only [List.length_nil]; omega) b4.size ?_; intro v3 w3 O3 G3; rw [List.nil_append] at O3; obtain ⟨a3, c3, e3⟩ := slice_of_row O3; subst e3)
    | fail)
  have b5 := b4.grown G3 b4.size (fun i hi => own_ge hE hi)
  obtain ⟨g9, rfl⟩ : ∃ g, a3 = some ⟨g, 0, none⟩ := by
    obtain ⟨g, c4, h4, _⟩ := Own.full O3 (by intro e; rw [e] at hql; simp at hql)
    injection h4 with h4
    exact ⟨g, h4⟩
  have i8 : 0 ≤ (q : Int) ∧ (q : Int) < (f.safe.length : Int) := by omega
  have HG9 := Lib.hid (show w.heap.size ≤ g9 from own_ge O3 rfl)
  clear G3 S4 c0 c0' d1'
  refine wp_region_noPanic ?_
  refine wp_region_held_drew (S := fun _ => True) (by kernel_rfl) (trivial) (fun hhS => ?_)
  have hTr : True := trivial
  have hBd : Below w3.heap.size w3 w3.drew := (Below.refl _ _).drew
  replace O3 := row_low O3 hBd
  have b3 := b5.trans (hBd.mono b5.size)
  clear b5
  generalize w3.drew = we at O3 b3 hBd ⊢
  obtain ⟨y0, y1, P9⟩ := own_poke O3 (i := q) hql (f.safe.getD q 0 ^^^ BitVec.ofInt 8 ((2 : Int) ^ mm))
  obtain ⟨y, hyq⟩ : ∃ x, f.safe.getD q 0 = x := ⟨_, rfl⟩
  rw [hyq] at y0 P9
  refine wpAnyH_take (i := 0) (oi := ⟨some 50, _, _, _, _, _⟩) (v := ?_) rfl (by kernel_rfl) (by kernel_rfl) (by kernel_rfl) (fun _ _ _ h => h) (Or.inl ⟨by rfl, ?_⟩) (by assumption) ?_
  rotate_left
  · intro w hSw
    (try dsimp only at hSw)
    go_simp
    all_goals (with_reducible rfl)
  try simp only [Act.put, List.setIfInBounds_toArray, List.set_cons_zero, List.set_cons_succ]
  refine wpAnyH_take (i := 1) (oi := ⟨some 51, _, _, _, _, _⟩) (v := ?_) rfl (by kernel_rfl) (by kernel_rfl) (by kernel_rfl) (fun _ _ _ h => h) (Or.inl ⟨by rfl, ?_⟩) (by assumption) ?_
  rotate_left
  · intro w hSw
    (try dsimp only at hSw)
    go_simp
    all_goals (with_reducible rfl)
  try simp only [Act.put, List.setIfInBounds_toArray, List.set_cons_zero, List.set_cons_succ]
  refine wpAnyH_take (i := 2) (oi := ⟨some 52, _, _, _, _, _⟩) (v := ?_) rfl (by kernel_rfl) (by kernel_rfl) (by kernel_rfl) (fun _ _ _ h => h) (Or.inl ⟨by rfl, ?_⟩) (by assumption) ?_
  rotate_left
  · intro w hSw
    (try dsimp only at hSw)
    go_simp
    all_goals (with_reducible rfl)
  try simp only [Act.put, List.setIfInBounds_toArray, List.set_cons_zero, List.set_cons_succ]
  refine wpAnyH_take (i := 3) (oi := ⟨some 53, _, _, _, _, _⟩) (v := ?_) rfl (by kernel_rfl) (by kernel_rfl) (by kernel_rfl) (fun _ _ _ h => h) (Or.inl ⟨by rfl, ?_⟩) (by assumption) ?_
  rotate_left
  · intro w hSw
    (try dsimp only at hSw)
    go_simp
    all_goals (with_reducible rfl)
  try simp only [Act.put, List.setIfInBounds_toArray, List.set_cons_zero, List.set_cons_succ]
  refine wpAnyH_take (i := 4) (oi := ⟨some 54, _, _, _, _, _⟩) (v := ?_) rfl (by kernel_rfl) (by kernel_rfl) (by kernel_rfl) (fun _ _ _ h => h) (Or.inl ⟨by rfl, ?_⟩) (by assumption) ?_
  rotate_left
  · intro w hSw
    (try dsimp only at hSw)
    go_simp
    all_goals (with_reducible rfl)
  try simp only [Act.put, List.setIfInBounds_toArray, List.set_cons_zero, List.set_cons_succ]
  refine wpAnyH_take (i := 5) (oi := ⟨some 55, _, _, _, _, _⟩) (v := ?_) rfl (by kernel_rfl) (by kernel_rfl) (by kernel_rfl) (fun _ _ _ h => h) (Or.inl ⟨by rfl, ?_⟩) (by assumption) ?_
  rotate_left
  · intro w hSw
    (try dsimp only at hSw)
    go_simp
    all_goals (with_reducible rfl)
  try simp only [Act.put, List.setIfInBounds_toArray, List.set_cons_zero, List.set_cons_succ]
  refine wpAnyH_take (i := 6) (oi := ⟨some 56, _, _, _, _, _⟩) (v := ?_) rfl (by kernel_rfl) (by kernel_rfl) (by kernel_rfl) (fun _ _ _ h => h) (Or.inl ⟨by rfl, ?_⟩) (by assumption) ?_
  rotate_left
  · intro w hSw
    (try dsimp only at hSw)
    go_simp
    all_goals (with_reducible rfl)
  try simp only [Act.put, List.setIfInBounds_toArray, List.set_cons_zero, List.set_cons_succ]
  refine wpAnyH_take (i := 8) (oi := ⟨some 58, _, _, _, _, _⟩) (v := ?_) rfl (by kernel_rfl) (by kernel_rfl) (by kernel_rfl) (fun _ _ _ h => h) (Or.inl ⟨by rfl, ?_⟩) (by assumption) ?_
  rotate_left
  · intro w hSw
    (try dsimp only at hSw)
    go_simp
    all_goals (with_reducible rfl)
  try simp only [Act.put, List.setIfInBounds_toArray, List.set_cons_zero, List.set_cons_succ]
  refine wpAnyH_take (i := 9) (oi := ⟨some 59, _, _, _, _, _⟩) (v := ?_) rfl (by kernel_rfl) (by kernel_rfl) (by kernel_rfl) (fun _ _ _ h => h) (Or.inl ⟨by rfl, ?_⟩) (by assumption) ?_
  rotate_left
  · intro w hSw
    (try dsimp only at hSw)
    go_simp
    all_goals (with_reducible rfl)
  try simp only [Act.put, List.setIfInBounds_toArray, List.set_cons_zero, List.set_cons_succ]
  refine wpAnyH_take (i := 10) (oi := ⟨some 60, _, _, _, _, _⟩) (v := ?_) rfl (by kernel_rfl) (by kernel_rfl) (by kernel_rfl) (fun _ _ _ h => h) (Or.inl ⟨by rfl, ?_⟩) (by assumption) ?_
  rotate_left
  · intro w hSw
    (try dsimp only at hSw)
    go_simp
    all_goals (with_reducible rfl)
  try simp only [Act.put, List.setIfInBounds_toArray, List.set_cons_zero, List.set_cons_succ]
  refine wpAnyH_ready (rs := [7]) (by kernel_rfl) (by simp) ?_
  refine AllReadyH.cons (o := ⟨some 57, _, _, _, _, _⟩) rfl (fun K hK => ?_) AllReadyH.nil
  go_simp
  refine hK.out _ _ (trivial) (fun _ => ?_)
  clear hK K
  try simp only [Act.put, List.setIfInBounds_toArray, List.set_cons_zero, List.set_cons_succ]
  refine wpAnyH_take (i := 11) (oi := ⟨some 61, _, _, _, _, _⟩) (v := ?_) rfl (by kernel_rfl) (by kernel_rfl) (by kernel_rfl) (fun _ _ _ h => h) (Or.inl ⟨by rfl, ?_⟩) (by assumption) ?_
  rotate_left
  · intro w hSw
    (try dsimp only at hSw)
    go_simp
    all_goals (with_reducible rfl)
  try simp only [Act.put, List.setIfInBounds_toArray, List.set_cons_zero, List.set_cons_succ]
  refine wpAnyH_take (i := 12) (oi := ⟨some 62, _, _, _, _, _⟩) (v := ?_) rfl (by kernel_rfl) (by kernel_rfl) (by kernel_rfl) (fun _ _ _ h => h) (Or.inl ⟨by rfl, ?_⟩) (by assumption) ?_
  rotate_left
  · intro w hSw
    (try dsimp only at hSw)
    go_simp
    all_goals (with_reducible rfl)
  try simp only [Act.put, List.setIfInBounds_toArray, List.set_cons_zero, List.set_cons_succ]
  refine wpAnyH_ready (rs := [13]) (by kernel_rfl) (by simp) ?_
  refine AllReadyH.cons (o := ⟨none, _, _, _, _, _⟩) rfl (fun K hK => ?_) AllReadyH.nil
  go_simp
  refine hK.out _ _ (trivial) (fun _ => ?_)
  clear hK K
  try simp only [Act.put]
  refine wpAnyH_done (by kernel_rfl) ?_ _
  refine NoPanic.normal ?_
  clear y0 y1 O3 hBd
  have b10 : Below w.heap.size w (we.setCell ⟨g9, q, none⟩ (vu8 (y ^^^ BitVec.ofInt 8 ((2 : Int) ^ mm)))) := b3.setCell HG9.out _
  generalize we.setCell ⟨g9, q, none⟩ (vu8 (y ^^^ BitVec.ofInt 8 ((2 : Int) ^ mm))) = wf at P9 b10 ⊢
  rw [← hyq, ← HQ.out.1, ← HQ.out.2] at P9
  have hxw := HX.out.2.2.2.2.low b10
  have hB : B ≤ w.heap.size := by have := h.old m h.tm; omega
  have hnew : RxAt wf B (TX T w.heap.size wf.heap.size) ⟨x.name, .slice (some ⟨g9, 0, none⟩) f.safe.length c3, x.ov, x.ops, ⟨spoilT f.safe c, x.f.ops, x.f.fresh⟩⟩ := ⟨own_down hB P9, hxw.row, hxw.each, hxw.ops, fun i hi => .inr ⟨own_ge P9 hi, row_lt P9 hi⟩, fun i hi => .inl (hxw.tr i hi), fun p hp i hi => .inl (hxw.te p hp i hi), ⟨by (have := hxw.okf.1; rw [HX.out.2.2.1] at this; show (spoilT f.safe c).length ≤ 1048576; rw [spoilT_len]; exact this), by (show okOps _ x.f.ops; rw [HX.out.2.2.1, HO.out]; trivial)⟩⟩
  obtain ⟨r1, r2, r3, r4⟩ := h.poke b10 HX.out.1 (by decide : 1 < 4) (x' := ⟨x.name, .slice (some ⟨g9, 0, none⟩) f.safe.length c3, x.ov, x.ops, ⟨spoilT f.safe c, x.f.ops, x.f.fresh⟩⟩) rfl hnew
  have q1 := r2.trans (show _ = some x.sv from rfl)
  have c0 := (h.low b10).box.cell 0
  have HF := Lib.hid (And.intro r3 r4)
  clear r2 r3 r4 hnew hxw P9 b10 b3 d1 d2 b4 hE
  go_wp2
  go_ret
  refine ⟨rfl, RX.of HF.out.1 ?_ HF.out.2 (fun i _ e => h.tf i (congrArg some e.symm)) (fun i e => e.elim .inl (fun e => .inr e.1))⟩
  refine (HX.out.2.2.2.1 ⟨x.name, .slice (some ⟨g9, 0, none⟩) f.safe.length c3, x.ov, x.ops, ⟨spoilT f.safe c, x.f.ops, x.f.fresh⟩⟩ HX.out.2.1).trans ?_
  show setA _ _ ⟨_, x.f.ops, x.f.fresh⟩ = _
  rw [HX.out.2.2.1, HO.out]

end Go.Proofs.Ytmmlpbepaefamaa
