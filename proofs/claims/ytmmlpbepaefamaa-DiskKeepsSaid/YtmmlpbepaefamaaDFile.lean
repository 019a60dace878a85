/- A file's size and its content. -/
import Derived.Test.YtmmlpbepaefamaaDBase
namespace Go.Proofs.Ytmmlpbepaefamaa
open Go.RowKit

/-- The k-th operation of a file. -/
theorem FileAt.op {w : World} {B fb n c k : Nat} {own : Nat → Option Nat} {f : Dfile} {sv : Value} {l : List (Dop × Value)} {a : Option Addr} (h : FileAt w B own fb f sv (.slice a n c) l) {p : Dop × Value} (hp : l[k]? = some p) :
    ∃ g, a = some ⟨g, 0, none⟩ ∧ w.rangeAt g (k * 3) (opC p) ∧ OpAt w B p ∧ f.ops[k]? = some p.1 := by
  obtain ⟨g, hg, hr⟩ := own_at opC_length h.row hp
  exact ⟨g, hg, hr, h.each p (List.mem_of_getElem? hp), by rw [← h.ops, List.getElem?_map, hp]; rfl⟩
theorem FileAt.slice {w : World} {B fb : Nat} {own : Nat → Option Nat} {f : Dfile} {sv ov : Value} {l : List (Dop × Value)} (h : FileAt w B own fb f sv ov l) : ∃ a c, ov = .slice a f.ops.length c := by
  obtain ⟨a, c, he⟩ := slice_of_row h.row
  exact ⟨a, c, by rw [he, ← h.ops, List.length_map]⟩
theorem FileAt.count {w : World} {B fb : Nat} {own : Nat → Option Nat} {f : Dfile} {sv ov : Value} {l : List (Dop × Value)} (h : FileAt w B own fb f sv ov l) : l.length = f.ops.length := by rw [← h.ops, List.length_map]

set_option maxRecDepth 100000 in
set_option maxHeartbeats 2000000 in
theorem size_calls (w : World) (B fb : Nat) (own : Nat → Option Nat) (f : Dfile) (sv ov : Value) (l : List (Dop × Value)) (h : FileAt w B own fb f sv ov l) (hlen : f.ops.length ≤ 100000) :
    Calls Try.prog 45 #[.pointer (some ⟨fb, 0, none⟩)] w fun e w' => e = .returned (.int .i64 f.content.length) ∧ Below w.heap.size w w' := by
  obtain ⟨sa, sc, hsv⟩ := slice_of_row h.safe
  obtain ⟨oa, oc, hov⟩ := h.slice
  subst hsv hov
  have c0 := h.box.cell 0
  have c1 := h.box.cell 1
  obtain ⟨N, hN⟩ : ∃ n, f.ops.length = n := ⟨_, rfl⟩
  rw [hN] at h c1 hlen
  have HF := Lib.hid h
  have HN := Lib.hid hN
  clear h hN
  go_enter Try.func45, Try.ntmps45
  go_wp2
  clear c0 c1
  go_loopw [3, 16] (fun x i wr => ∃ k : Nat, k ≤ N ∧ i = .int .i64 k ∧ x = .int .i64 (runOps f.safe (f.ops.take k)).length ∧ Below w.heap.size w wr) (fun _ i _ => N - (intOf i).toNat)
  case atStart => exact ⟨0, by omega, rfl, by rw [List.take_zero]; rfl, Below.refl _ _⟩
  case round =>
    obtain ⟨k, hk, rfl, rfl, hB⟩ := hrel
    by_cases hlt : k < N
    · obtain ⟨p, hp⟩ : ∃ p, l[k]? = some p := ⟨_, List.getElem?_eq_getElem (by rw [HF.out.count, HN.out]; exact hlt)⟩
      obtain ⟨g, rfl, hr, ho, hok⟩ := (HF.out.low hB).op hp
      have i1 : (k : Int) < (N : Int) := by omega
      have i2 : 0 ≤ (k : Int) ∧ (k : Int) < (N : Int) := by omega
      have b2 : IntKind.i64.wrap ((k : Int) + 1) = (k : Int) + 1 := IntWalk.i64_in _ (by omega)
      have hst := runOps_step f.safe f.ops k _ hok
      have hmx := (okOps_at f.ops f.safe k _ HF.out.okf.2 hok)
      obtain ⟨X, hX⟩ : ∃ x, runOps f.safe (f.ops.take k) = x := ⟨_, rfl⟩
      rw [hX] at hst hmx ⊢
      have HST := Lib.hid (And.intro hst (And.intro hmx.2 hmx.1))
      clear hX hp hok hst hmx
      have c0 := hr 0
      have c1 := hr 1
      have c2 := hr 2
      obtain ⟨o, bv⟩ := p
      cases o with
      | add b =>
        obtain ⟨ba, bc, hbv⟩ := slice_of_row (show Own wr B bv b from ho)
        subst hbv
        have c0 := c0 _ rfl
        have c1 := c1 _ rfl
        have c2 := c2 _ rfl
        have b4 : IntKind.i64.wrap ((X.length : Int) + (b.length : Int)) = (X.length : Int) + (b.length : Int) := IntWalk.i64_in _ (by have := HST.out.2.1; rw [HST.out.1] at this; simp [Dop.run] at this; omega)
        simp only [Nat.add_zero] at c0
        have hB2 := hB.trans (((Below.refl wr.heap.size wr).alloc (Nat.le_refl _) (.cells #[.bool false, .int .i64 0, .slice ba b.length bc] 91)).mono hB.size)
        clear hr ho
        go_wp2
        go_roundw
        case rel => exact ⟨k + 1, by omega, by go_num, by rw [HST.out.1]; simp [Dop.run], hB2⟩
        case measure => simp [intOf]; omega
      | cut n =>
        have hbv : bv = .slice Option.none 0 0 := ho
        subst hbv
        have c0 := c0 _ rfl
        have c1 := c1 _ rfl
        have c2 := c2 _ rfl
        simp only [Nat.add_zero] at c0
        have hB2 := hB.trans (((Below.refl wr.heap.size wr).alloc (Nat.le_refl _) (.cells #[.bool true, .int .i64 n, .slice Option.none 0 0] 91)).mono hB.size)
        clear hr ho
        go_wp2
        go_roundw
        case rel => exact ⟨k + 1, by omega, by go_num, by rw [HST.out.1]; simp only [Dop.run, List.length_take]; rw [Nat.min_eq_left (HST.out.2.2 n rfl)], hB2⟩
        case measure => simp [intOf]; omega
    · obtain rfl : k = N := by omega
      have i1 : ¬ (k : Int) < (k : Int) := by omega
      rw [List.take_of_length_le (Nat.le_of_eq HN.out)]
      go_wp2
      go_ret
      exact ⟨rfl, hB⟩

set_option maxRecDepth 100000 in
set_option maxHeartbeats 2000000 in
theorem content_calls (w : World) (B fb : Nat) (own : Nat → Option Nat) (f : Dfile) (sv ov : Value) (l : List (Dop × Value)) (h : FileAt w B own fb f sv ov l) (hlen : f.ops.length ≤ 100000) :
    Calls Try.prog 48 #[.pointer (some ⟨fb, 0, none⟩)] w fun e w' => ∃ u, e = .returned u ∧ Own w' w.heap.size u f.content ∧ Below w.heap.size w w' := by
  obtain ⟨sa, sc, hsv⟩ := slice_of_row h.safe
  obtain ⟨oa, oc, hov⟩ := h.slice
  subst hsv hov
  have c0 := h.box.cell 0
  have c1 := h.box.cell 1
  obtain ⟨N, hN⟩ : ∃ n, f.ops.length = n := ⟨_, rfl⟩
  rw [hN] at h c1 hlen
  have HF := Lib.hid h
  have HN := Lib.hid hN
  have HCL := Lib.hid (clone_calls w _ f.safe (Own.slice h.safe) (by have := h.okf.1; omega))
  clear h hN
  go_enter Try.func48, Try.ntmps48
  go_upto_region 2 with (first
    | (go_at_call 46; refine HCL.out.mono ?_; rintro e w1 ⟨_, rfl, ⟨ua, un, uc, rfl⟩, O1, b1⟩)
    | fail)
  have c1' := (b1.cell (p := ⟨fb, 1, none⟩) HF.out.box.lt).trans c1
  clear c0 c1
  go_wp2
  clear c1'
  go_loopw [3, 16] (fun x i wr => ∃ (k : Nat) (ua : Option Addr) (un uc : Nat), k ≤ N ∧ i = .int .i64 k ∧ x = .slice ua un uc ∧ Own wr w.heap.size (.slice ua un uc) (runOps f.safe (f.ops.take k)) ∧ Below w.heap.size w wr) (fun _ i _ => N - (intOf i).toNat)
  case atStart => exact ⟨0, _, _, _, by omega, rfl, rfl, by rw [List.take_zero]; exact O1, b1⟩
  case round =>
    clear O1 b1
    obtain ⟨k, ua, un, uc, hk, rfl, rfl, hO, hB⟩ := hrel
    by_cases hlt : k < N
    · obtain ⟨p, hp⟩ : ∃ p, l[k]? = some p := ⟨_, List.getElem?_eq_getElem (by rw [HF.out.count, HN.out]; exact hlt)⟩
      obtain ⟨g, rfl, hr, ho, hok⟩ := (HF.out.low hB).op hp
      have i1 : (k : Int) < (N : Int) := by omega
      have i2 : 0 ≤ (k : Int) ∧ (k : Int) < (N : Int) := by omega
      have b2 : IntKind.i64.wrap ((k : Int) + 1) = (k : Int) + 1 := IntWalk.i64_in _ (by omega)
      have hst := runOps_step f.safe f.ops k _ hok
      have hmx := (okOps_at f.ops f.safe k _ HF.out.okf.2 hok)
      obtain ⟨X, hX⟩ : ∃ x, runOps f.safe (f.ops.take k) = x := ⟨_, rfl⟩
      rw [hX] at hst hmx hO
      have HST := Lib.hid (And.intro hst (And.intro hmx.2 hmx.1))
      clear hX hp hok hst hmx
      have c0 := hr 0
      have c1 := hr 1
      have c2 := hr 2
      obtain ⟨o, bv⟩ := p
      cases o with
      | add b =>
        obtain ⟨ba, bc, hbv⟩ := slice_of_row (show Own wr B bv b from ho)
        subst hbv
        have c0 := c0 _ rfl
        have c1 := c1 _ rfl
        have c2 := c2 _ rfl
        simp only [Nat.add_zero] at c0
        have b3 : Below wr.heap.size wr (wr.alloc (.cells #[.bool false, .int .i64 0, .slice ba b.length bc] 91)) := (Below.refl _ _).alloc (Nat.le_refl _) _
        have HAF := Lib.hid (after_add (wr.alloc (.cells #[.bool false, .int .i64 0, .slice ba b.length bc] 91)) w.heap.size _ _ X b (row_low hO b3) ((Own.slice ho).low b3) (by have := HST.out.2.1; rw [HST.out.1] at this; simp [Dop.run] at this; omega) (Nat.le_trans hB.size b3.size))
        have hB3 := hB.trans (b3.mono hB.size)
        have hge := fun i hi => own_ge hO (x := i) hi
        clear hr ho hO b3
        go_wp2_with (first
          | (go_at_call 47; refine HAF.out.mono ?_; rintro e w4 ⟨_, rfl, ⟨a4, n4, c4, rfl⟩, O4, G4, _⟩)
          | fail)
        go_roundw
        case rel => exact ⟨k + 1, _, _, _, by omega, by go_num, rfl, by rw [HST.out.1]; exact O4, hB3.trans ((G4.below hB3.size (fun i _ hi => hge i hi)))⟩
        case measure => simp [intOf]; omega
      | cut n =>
        have hbv : bv = .slice Option.none 0 0 := ho
        subst hbv
        have c0 := c0 _ rfl
        have c1 := c1 _ rfl
        have c2 := c2 _ rfl
        simp only [Nat.add_zero] at c0
        have b3 : Below wr.heap.size wr (wr.alloc (.cells #[.bool true, .int .i64 n, .slice Option.none 0 0] 91)) := (Below.refl _ _).alloc (Nat.le_refl _) _
        have HAF := Lib.hid (after_cut (wr.alloc (.cells #[.bool true, .int .i64 n, .slice Option.none 0 0] 91)) w.heap.size n _ X (row_low hO b3) (HST.out.2.2 n rfl))
        have hB3 := hB.trans (b3.mono hB.size)
        have hge := fun i hi => own_ge hO (x := i) hi
        clear hr ho hO b3
        go_wp2_with (first
          | (go_at_call 47; refine HAF.out.mono ?_; rintro e w4 ⟨_, rfl, ⟨a4, n4, c4, rfl⟩, O4, G4, _⟩)
          | fail)
        go_roundw
        case rel => exact ⟨k + 1, _, _, _, by omega, by go_num, rfl, by rw [HST.out.1]; exact O4, hB3.trans ((G4.below hB3.size (fun i _ hi => hge i hi)))⟩
        case measure => simp [intOf]; omega
    · obtain rfl : k = N := by omega
      have i1 : ¬ (k : Int) < (k : Int) := by omega
      rw [List.take_of_length_le (Nat.le_of_eq HN.out)] at hO
      go_wp2
      go_ret
      exact ⟨_, rfl, hO, hB⟩

end Go.Proofs.Ytmmlpbepaefamaa
