/- Two lists that are the same; a copy of rules; the book's Tenants and Rules. -/
import Derived.Test.YtglcingpolpkdaaABookFX2
namespace Go.Proofs.Ytglcingpolpkdaa
open Go.RowKit

theorem TextsAt.slice {w : World} {v : Value} {l : List ByteArray} (h : TextsAt w v l) : ∃ a c, v = .slice a l.length c := by
  rcases h with ⟨a, c, rfl, rfl⟩ | ⟨b, off, c, rfl, _, _⟩
  · exact ⟨a, c, rfl⟩
  · exact ⟨_, c, rfl⟩
theorem TextsAt.at {w : World} {p : Option Addr} {n c k : Nat} {l : List ByteArray} {y : ByteArray} (h : TextsAt w (.slice p n c) l) (hy : l[k]? = some y) : ∃ b off, p = some ⟨b, off, none⟩ ∧ w.cell? ⟨b, off + k, none⟩ = some (.string y) := by
  rcases h with ⟨a, c, he, rfl⟩ | ⟨b, off, c, he, _, hc⟩
  · simp at hy
  · injection he with he _ _
    refine ⟨b, off, he, ?_⟩
    rw [hc k (List.getElem?_eq_some_iff.1 hy).1, List.getD_eq_getElem?_getD, hy]
    rfl

set_option maxRecDepth 100000 in
set_option maxHeartbeats 1000000 in
theorem sametexts_calls (w : World) (u v : Value) (l : List ByteArray) (hu : TextsAt w u l) (hv : TextsAt w v l) (hl : l.length ≤ 1000000) :
    Calls Try.prog 66 #[u, v] w fun e w' => e = .returned (.bool true) ∧ Below w.heap.size w w' := by
  obtain ⟨N, hN⟩ : ∃ N, l.length = N := ⟨_, rfl⟩
  obtain ⟨p, c, hp⟩ := hu.slice
  obtain ⟨p2, c2, hp2⟩ := hv.slice
  rw [hN] at hp hp2 hl
  subst hp hp2
  have HN := Lib.hid hN
  have HU := Lib.hid hu
  have HV := Lib.hid hv
  clear hN hu hv
  go_enter Try.func66, Try.ntmps66
  go_wp2
  go_loopw [5] (fun i wr => ∃ k : Nat, k ≤ N ∧ i = .int .i64 k ∧ Below w.heap.size w wr) (fun i _ => N - (intOf i).toNat)
  case atStart => exact ⟨0, by omega, rfl, Below.refl _ _⟩
  case round =>
    obtain ⟨k, hk, rfl, hB⟩ := hrel
    by_cases hlt : k < N
    · obtain ⟨y, hy⟩ : ∃ y, l[k]? = some y := ⟨_, List.getElem?_eq_getElem (by rw [HN.out]; exact hlt)⟩
      obtain ⟨b, off, rfl, c0⟩ := (HU.out.low hB).at hy
      obtain ⟨b2, off2, rfl, d0⟩ := (HV.out.low hB).at hy
      have i1 : (k : Int) < (N : Int) := by omega
      have i2 : 0 ≤ (k : Int) ∧ (k : Int) < (N : Int) := by omega
      have s2 : IntKind.i64.wrap ((k : Int) + 1) = (k : Int) + 1 := IntWalk.i64_in _ (by omega)
      have hB2 := hB.trans (((Below.refl wr.heap.size wr).drew).mono hB.size)
      clear hy
      go_wp2
      go_still (by kernel_rfl)
      change Exit.then _ _ Exit.normal _ wr.drew
      clear c0 d0
      generalize wr.drew = w2 at hB2 ⊢
      go_wp2
      go_roundw
      case rel => exact ⟨k + 1, by omega, by go_num, hB2⟩
      case measure => simp [intOf]; omega
    · obtain rfl : k = N := by omega
      have i1 : ¬ (k : Int) < (k : Int) := by omega
      go_wp2
      go_ret
      exact ⟨rfl, hB⟩

set_option maxRecDepth 100000 in
set_option maxHeartbeats 1000000 in
theorem samerules_calls (w : World) (B B2 : Nat) (u v : Value) (l : List Rl) (hu : OwnR w B u l) (hv : OwnR w B2 v l) (hl : l.length ≤ 1000000) :
    Calls Try.prog 64 #[u, v] w fun e w' => e = .returned (.bool true) ∧ Below w.heap.size w w' := by
  obtain ⟨N, hN⟩ : ∃ N, l.length = N := ⟨_, rfl⟩
  obtain ⟨p, c, hp⟩ := slice_of_row hu
  obtain ⟨p2, cq, hp2⟩ := slice_of_row hv
  rw [hN] at hp hp2 hl
  subst hp hp2
  have HN := Lib.hid hN
  have HU := Lib.hid hu
  have HV := Lib.hid hv
  clear hN hu hv
  go_enter Try.func64, Try.ntmps64
  go_wp2
  go_loopw [5] (fun i wr => ∃ k : Nat, k ≤ N ∧ i = .int .i64 k ∧ Below w.heap.size w wr) (fun i _ => N - (intOf i).toNat)
  case atStart => exact ⟨0, by omega, rfl, Below.refl _ _⟩
  case round =>
    obtain ⟨k, hk, rfl, hB⟩ := hrel
    by_cases hlt : k < N
    · obtain ⟨⟨who, what, key, deny⟩, hy⟩ : ∃ y, l[k]? = some y := ⟨_, List.getElem?_eq_getElem (by rw [HN.out]; exact hlt)⟩
      obtain ⟨g, cap, he, _, c0, c1, c2, c3⟩ := (show OwnR wr B (.slice p N c) l from row_low HU.out hB).four hy
      obtain ⟨g2, cap2, he2, _, d0, d1, d2, d3⟩ := (show OwnR wr B2 (.slice p2 N cq) l from row_low HV.out hB).four hy
      have he : p = some ⟨g, 0, none⟩ := by injection he
      have he2 : p2 = some ⟨g2, 0, none⟩ := by injection he2
      subst he he2
      have hq : ∀ w, (Op.equalIn 10000 29 (.agg #[.string who, .int .i64 what, .string key, .bool deny]) (.agg #[.string who, .int .i64 what, .string key, .bool deny])).run Try.prog w = .ok true w := fun w => by
        rw [← eqR_iff.2 (rfl : (⟨who, what, key, deny⟩ : Rl) = ⟨who, what, key, deny⟩)]
        exact eql_rule w _ _ _ _ _ _ _ _
      have hgd : Try.prog.eqGuardType Try.prog.depth 29 = false := by kernel_rfl
      have i1 : (k : Int) < (N : Int) := by omega
      have i2 : 0 ≤ (k : Int) ∧ (k : Int) < (N : Int) := by omega
      have s2 : IntKind.i64.wrap ((k : Int) + 1) = (k : Int) + 1 := IntWalk.i64_in _ (by omega)
      have hB2 := hB.trans (((Below.refl wr.heap.size wr).drew).mono hB.size)
      clear hy
      go_wp2
      go_still (by kernel_rfl)
      change Exit.then _ _ Exit.normal _ wr.drew
      clear c0 c1 c2 c3 d0 d1 d2 d3
      generalize wr.drew = w2 at hB2 ⊢
      go_wp2
      go_roundw
      case rel => exact ⟨k + 1, by omega, by go_num, hB2⟩
      case measure => simp [intOf]; omega
    · obtain rfl : k = N := by omega
      have i1 : ¬ (k : Int) < (k : Int) := by omega
      go_wp2
      go_ret
      exact ⟨rfl, hB⟩

set_option maxRecDepth 100000 in
set_option maxHeartbeats 1000000 in
/-- slices.Clone of rules. -/
theorem clonerules_calls (w : World) (B : Nat) (v : Value) (l : List Rl) (hv : OwnR w B v l) (hl : l.length ≤ 1000) :
    Calls Try.prog 57 #[v] w fun e w' => ∃ v', e = .returned v' ∧ OwnR w' w.heap.size v' l ∧ Below w.heap.size w w' := by
  rcases row_shape hv with ⟨rfl, hn⟩ | ⟨g, cap, rfl, _, hg, hc⟩
  · obtain rfl : l = [] := List.eq_nil_of_length_eq_zero hn
    have q0 := Lib.run_eql_slice_nil (P := Try.prog) w 49 29 none 0 0 0 0 Try.underlying49
    clear hv hn
    go_enter Try.func57, Try.ntmps57
    go_wp2
    go_ret
    exact ⟨_, rfl, World.ownsRow_nil _ _ _ _, Below.refl _ _⟩
  · have hA1 : Below w.heap.size w (w.alloc (.cells #[] 29)) := (Below.refl _ _).alloc (Nat.le_refl _) _
    have hsrc : SrcG Rl.cells 4 (w.alloc (.cells #[] 29)) (.slice (some ⟨g, 0, none⟩) l.length cap) l := (src_of_own lenR hv).low hA1
    have q0 := Lib.run_eql_slice_nil (P := Try.prog) w 49 29 (some ⟨g, 0, none⟩) l.length cap 0 0 Try.underlying49
    clear hv hc hg
    go_enter Try.func57, Try.ntmps57
    go_wp2_with (refine wpList_append_gen (f := Rl.cells) (n := 4) (by rfl) _ _ _ 29 (by rfl) _ 48 Try.underlying49 info_rule rfl (by decide) (by decide) lenR w.heap.size _ _ [] l (by rfl) (own_empty w _) (by rfl) hsrc (fun b _ y hy => by simp [Rl.cells] at hy; rcases hy with rfl | rfl | rfl | rfl <;> rfl) (by simp; omega) (by simp) ?_; intro v5 w5 hO5 hG5 hM5; have hB5 : Below w.heap.size w w5 := hA1.trans ((Only.of_grown hG5).below (by simp) fun _ _ e => own_ge (own_empty (f := Rl.cells) (n := 4) w 29) e))
    go_ret
    exact ⟨_, rfl, hO5, hB5⟩

end Go.Proofs.Ytglcingpolpkdaa
