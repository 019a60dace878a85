/- Some notes of a trail, in new memory. -/
import Derived.Test.YtglcingpolpkdaaDoorTAt
namespace Go.Proofs.YtglcingpolpkdaaDoor
open Go.RowKit

theorem wpList_build_one {P : Program} {ops : Array Oper} {rest : List Oper} {o : Oper} {a : Act} {w : World} {Q : Exit → Act → World → Prop} (hgd : o.guard = none) (t e : TypeId) (x : Operand) (ho : o.op = .buildSlice t 1 #[(0, x)])
    (cells : List Value) (z : Value) (n bytes : Nat) (hu : P.underlying t = some (.slice e)) (hi : ∃ i, P.info? e = some i ∧ i.zero = some z ∧ i.size = n ∧ i.bytes = bytes)
    (hl : cells.length = n) (hn : 0 < n) (hn2 : n ≤ 1000) (hx : a.eval x = .agg cells.toArray)
    (h : wpList P ops Q rest (a.put o.dst (.slice (some ⟨w.heap.size, 0, none⟩) 1 1)) (w.alloc (.cells cells.toArray e))) : wpList P ops Q (o :: rest) a w :=
  wpList_plain hgd fun _ hK => wp_build_one t e x ho cells z n bytes hu hi hl hn hn2 hx (hK _ _ h)
theorem range_as {w : World} {g a b : Nat} {l : List Value} (h : w.rangeAt g a l) (e : a = b) : w.rangeAt g b l := e ▸ h
theorem own_lit {w : World} {B n k m : Nat} {e : TypeId} {v : Value} {xs : List Value} (h : m = k) (ho : w.ownsRow B e n v k xs) : w.ownsRow B e n v m xs := h ▸ ho
theorem TrP.appended {W w w' : World} {tb B k n : Nat} {e : TypeId} {lv v : Value} {ns : List Nt} {xs : List Value} (h : TrP W w tb lv ns) (hr : w.ownsRow B e n v k xs) (hG : w.grownBy w' v.ownBlock) (h1 : e ≠ 60) (h2 : e ≠ 74) (hB : W.heap.size ≤ B) : TrP W w' tb lv ns :=
  h.only (Only.of_grown hG) (fun s => row_ne_whole hr h.box h1 s) (fun g hg s => by
    obtain ⟨cur, hc⟩ := row_type h.row hg
    obtain ⟨cur', hc'⟩ := row_type hr s
    rw [hc] at hc'
    have hc' := Option.some.inj hc'
    injection hc' with _ hc' _
    exact h2 hc'.symm) (fun i _ s => Nat.le_trans hB (own_ge hr s))

set_option maxRecDepth 100000 in
set_option maxHeartbeats 2000000 in
theorem tnotes_not (W w : World) (tb c : Nat) (p : Option Addr) (f t : Int) (ns : List Nt) (h : TrP W w tb (.slice p ns.length c) ns) (hx : f < 0 ∨ t < f ∨ (ns.length : Int) < t) :
    Calls Tryd.prog 17 #[.pointer (some ⟨tb, 0, none⟩), .int .i64 f, .int .i64 t] w fun e w' => e = .returned (.tuple #[.slice none 0 0, .int .i64 2]) ∧ w = w' := by
  have HY := Lib.hid (tnone_yes w tb (h.box.cell 1))
  have c0 := h.box.cell 0
  clear h
  go_enter Tryd.func17, Tryd.ntmps17
  go_upto_region 3 with (go_at_call 27; refine HY.out.mono ?_; rintro e w' ⟨rfl, rfl⟩)
  by_cases h0 : f < 0
  · clear hx
    go_wp2
    go_ret2
    exact ⟨rfl, rfl⟩
  · by_cases h1 : t < f
    · clear hx
      go_wp2
      go_ret2
      exact ⟨rfl, rfl⟩
    · have h2 : (ns.length : Int) < t := (hx.resolve_left h0).resolve_left h1
      clear hx
      go_wp2
      go_ret2
      exact ⟨rfl, rfl⟩

set_option maxRecDepth 100000 in
set_option maxHeartbeats 2000000 in
theorem tnotes_some (W w : World) (tb c f t N g : Nat) (ns : List Nt) (h : TrP W w tb (.slice (some ⟨g, 0, none⟩) ns.length c) ns) (hlen : ns.length ≤ 1000) (hf : f + N = t) (ht : t ≤ ns.length) (hc : ns.length ≤ c ∧ c ≤ maxLen) :
    Calls Tryd.prog 17 #[.pointer (some ⟨tb, 0, none⟩), .int .i64 f, .int .i64 t] w fun e w' => ∃ v, e = .returned (.tuple #[v, .int .i64 0]) ∧ w'.ownsRow w.heap.size 36 6 v N (((ns.drop f).take N).flatMap Nt.cells) ∧ Below w.heap.size w w' := by
  have HY := Lib.hid (tnone_yes w tb (h.box.cell 1))
  have c0 := h.box.cell 0
  have HW := Lib.hid h.below.size
  have HH := Lib.hid h
  clear h
  have i0 : ¬ (f : Int) < 0 := by omega
  have i1 : ¬ (t : Int) < (f : Int) := by omega
  have i2 : ¬ (ns.length : Int) < (t : Int) := by omega
  go_enter Tryd.func17, Tryd.ntmps17
  go_upto_region 5 with (go_at_call 27; refine HY.out.mono ?_; rintro e w' ⟨rfl, rfl⟩)
  clear i0 i1 i2
  have j1 : (0 : Int) ≤ (f : Int) ∧ (f : Int) ≤ (t : Int) ∧ (t : Int) ≤ (c : Int) := by omega
  go_upto_block 0 with fail
  clear j1
  obtain ⟨A, hA⟩ : ∃ A, (if c = f then some (⟨g, 0, none⟩ : Addr) else some ⟨g, f * 38, none⟩) = A := ⟨_, rfl⟩
  have e1 : t - f = N := by omega
  rw [hA, e1]
  have HA := Lib.hid (show 0 < N → A = some ⟨g, f * 38, none⟩ from fun h => by rw [← hA, if_neg (by omega)])
  have HF := Lib.hid (show f + N ≤ ns.length by omega)
  have hN : N ≤ 1000 := by omega
  clear e1 hA hf ht hc c0
  generalize decide (t < f) = q1
  generalize decide (ns.length < t) = q2
  generalize decide ((f : Int) < 0) = q3
  go_wp2
  go_loopw [8, 37] (fun v i wr => ∃ k : Nat, k ≤ N ∧ i = .int .i64 k ∧ TrP W wr tb (.slice (some ⟨g, 0, none⟩) ns.length c) ns ∧ wr.ownsRow w.heap.size 36 6 v k (((ns.drop f).take k).flatMap Nt.cells) ∧ Below w.heap.size w wr) (fun _ i _ => N - (intOf i).toNat)
  case atStart => exact ⟨0, by omega, rfl, HH.out, ⟨by simp, .inl ⟨rfl, rfl⟩⟩, Below.refl _ _⟩
  case round =>
    clear HH
    obtain ⟨k, hk, rfl, hT, hO, hB⟩ := hrel
    by_cases hlt : k < N
    · obtain ⟨n, hx⟩ : ∃ n, ns[f + k]? = some n := ⟨_, List.getElem?_eq_getElem (by have := HF.out; omega)⟩
      obtain rfl := HA.out (by omega)
      have HX := Lib.hid hx
      have HR := Lib.hid (hT.link_at hx)
      have HL := Lib.hid (show ((ns.drop f).take k).length = k by rw [List.length_take, List.length_drop]; have := HF.out; omega)
      clear hx
      obtain ⟨E, hE⟩ : ∃ E, headG (ns.take (f + k + 1)) = E := ⟨_, rfl⟩
      rw [hE] at HR
      clear hE
      have i1 : (k : Int) < (N : Int) := by omega
      have i2 : 0 ≤ (k : Int) ∧ (k : Int) < (N : Int) := by omega
      have b2 : IntKind.i64.wrap ((k : Int) + 1) = (k : Int) + 1 := IntWalk.i64_in _ (by omega)
      have b3 : IntKind.i64.wrap (k : Int) = (k : Int) := IntWalk.i64_in _ (by omega)
      have HZ := Lib.hid (And.intro hT (And.intro hO hB))
      clear hT hO hB
      go_wp2_with (first
        | (refine wpList_load_mid (by rfl) 74 _ (by rfl) g (f * 38 + k * 38) (by rfl) (linkCells (n, E)) _ (range_as HR.out (Nat.add_mul ..)) Tryd.underlying74 (by rfl) (by rw [size_link, linkCells_length]) ?_)
        | (refine wpList_alloc_row (by rfl) 74 (by rfl) _ _ (info_of2 info_link) ?_)
        | (refine wpList_store_new (by rfl) 74 _ _ (by rfl) (zeroNote ++ zeroNums .u8 32).toArray (linkCells (n, E)).toArray 74 (by rfl) (by rfl) (by rw [size_link]; simp [linkCells_length]) (by simp [linkCells_length, zeroNote, zeroNums]) (all_oneCell_toArray (link_ones _)) ?_; have hX4 := Whole.new wr 74 (linkCells (n, E)).toArray; have b4 : Below wr.heap.size wr (wr.alloc (.cells (linkCells (n, E)).toArray 74)) := (Below.refl _ _).alloc (Nat.le_refl _) _; generalize wr.alloc (.cells (linkCells (n, E)).toArray 74) = w4 at hX4 b4 ⊢; obtain ⟨X, hX⟩ : ∃ x, wr.heap.size = x := ⟨_, rfl⟩; rw [hX] at hX4 ⊢; clear hX)
        | (refine wpList_load_mid (by rfl) 36 _ (by rfl) X 0 (by rfl) n.cells _ (range_front (whole_rangeG hX4)) Tryd.underlying36 (by rfl) (by rw [size_n]; rfl) ?_; clear hX4)
        | (refine wpList_build_one (by rfl) 22 36 _ (by rfl) n.cells _ 6 72 Tryd.underlying22 info_note (Nt.cells_length _) (by decide) (by decide) (by rfl) ?_; have hU := src_new (f := Nt.cells) (n := 6) w4 36 n; have b5 := b4.trans (((Below.refl _ _).alloc (Nat.le_refl w4.heap.size) (.cells n.cells.toArray 36)).mono b4.size); clear b4; generalize w4.alloc (.cells n.cells.toArray 36) = w5 at hU b5 ⊢)
        | (refine wpList_append_gen (f := Nt.cells) (n := 6) (by rfl) _ _ 22 36 (by rfl) _ 72 Tryd.underlying22 info_note rfl (by decide) (by decide) Nt.cells_length w.heap.size _ _ ((ns.drop f).take k) [n] (by rfl) (own_lit HL.out (row_low HZ.out.2.1 b5)) (by rfl) hU (fun b _ => note_ones b) (by simp; omega) (Nat.le_trans HZ.out.2.2.size b5.size) ?_; intro v9 w9 hO9 hG9 _)
        | fail)
      go_roundw
      case rel =>
        have hT5 := HZ.out.1.on b5
        have hO5 := row_low HZ.out.2.1 b5
        have hB5 := HZ.out.2.2.trans (b5.mono HZ.out.2.2.size)
        refine ⟨k + 1, by omega, by go_num, hT5.appended hO5 hG9 (by decide) (by decide) HW.out, ?_, hB5.grown hG9 hB5.size (fun i hi => own_ge hO5 hi)⟩
        have hm : (ns.drop f).take (k + 1) = (ns.drop f).take k ++ [n] := by
          rw [List.take_add_one, List.getElem?_drop, HX.out]
          rfl
        have hl : ((ns.drop f).take k ++ [n]).length = k + 1 := by
          rw [List.length_append, HL.out]
          rfl
        rw [hm, ← hl]
        exact hO9
      case measure => simp [intOf]; omega
    · obtain rfl : k = N := by omega
      have i1 : ¬ (k : Int) < (k : Int) := by omega
      go_wp2
      go_ret2
      exact ⟨_, rfl, hO, hB⟩

set_option maxRecDepth 100000 in
set_option maxHeartbeats 2000000 in
theorem tnotes_nil (W w : World) (tb : Nat) (h : TrP W w tb (.slice none 0 0) []) :
    Calls Tryd.prog 17 #[.pointer (some ⟨tb, 0, none⟩), .int .i64 0, .int .i64 0] w fun e w' => e = .returned (.tuple #[.slice none 0 0, .int .i64 0]) ∧ w = w' := by
  have HY := Lib.hid (tnone_yes w tb (h.box.cell 1))
  have c0 := h.box.cell 0
  clear h
  go_enter Tryd.func17, Tryd.ntmps17
  go_upto_block 0 with (go_at_call 27; refine HY.out.mono ?_; rintro e w' ⟨rfl, rfl⟩)
  clear c0
  go_wp2
  go_loopw [8, 37] (fun v i wr => v = .slice none 0 0 ∧ i = .int .i64 0 ∧ w = wr) (fun _ _ _ => 0)
  case atStart => exact ⟨rfl, rfl, rfl⟩
  case round =>
    obtain ⟨rfl, rfl, rfl⟩ := hrel
    go_wp2
    go_ret2
    exact ⟨rfl, rfl⟩

/-- What Notes answers. -/
def notesT (ns : List Nt) (f t : Int) : List Nt × Int := if 0 ≤ f ∧ f ≤ t ∧ t ≤ ns.length then ((ns.drop f.toNat).take (t.toNat - f.toNat), 0) else ([], 2)
theorem tnotes_calls (W w : World) (tb : Nat) (lv : Value) (f t : Int) (ns : List Nt) (h : TrP W w tb lv ns) (hlen : ns.length ≤ 1000) :
    Calls Tryd.prog 17 #[.pointer (some ⟨tb, 0, none⟩), .int .i64 f, .int .i64 t] w fun e w' => ∃ v, e = .returned (.tuple #[v, .int .i64 (notesT ns f t).2]) ∧ w'.ownsRow w.heap.size 36 6 v (notesT ns f t).1.length ((notesT ns f t).1.flatMap Nt.cells) ∧ Below w.heap.size w w' := by
  unfold notesT
  by_cases hx : 0 ≤ f ∧ f ≤ t ∧ t ≤ ns.length
  · rw [if_pos hx]
    obtain ⟨h1, h2, h3⟩ := hx
    obtain ⟨a, rfl⟩ := Int.eq_ofNat_of_zero_le h1
    obtain ⟨b, rfl⟩ := Int.eq_ofNat_of_zero_le (Int.le_trans h1 h2)
    rw [Int.toNat_natCast, Int.toNat_natCast]
    have hl : ((ns.drop a).take (b - a)).length = b - a := by
      rw [List.length_take, List.length_drop]
      omega
    rcases row_shape h.row with ⟨rfl, hn⟩ | ⟨g, c, rfl, _, _, _⟩
    · obtain rfl := List.eq_nil_of_length_eq_zero hn
      have ha : a = 0 := by simp at h3; omega
      have hb : b = 0 := by simp at h3; omega
      subst ha hb
      refine (tnotes_nil W w tb h).mono ?_
      rintro e w' ⟨rfl, rfl⟩
      exact ⟨_, rfl, ⟨rfl, .inl ⟨rfl, rfl⟩⟩, Below.refl _ _⟩
    · obtain ⟨cap, cur, he, _, _, h4, h5, _⟩ := own_full h.row rfl
      obtain rfl : c = cap := by injection he
      have := tnotes_some W w tb c a b (b - a) g ns h hlen (by omega) (by omega) ⟨h4, h5⟩
      rw [← hl] at this
      simp only [hl] at this ⊢
      exact this
  · rw [if_neg hx]
    obtain ⟨p, c, rfl⟩ := h.shape
    refine (tnotes_not W w tb c p f t ns h (by omega)).mono ?_
    rintro e w' ⟨rfl, rfl⟩
    exact ⟨_, rfl, ⟨rfl, .inl ⟨rfl, rfl⟩⟩, Below.refl _ _⟩

end Go.Proofs.YtglcingpolpkdaaDoor
