/- The book's Tenants, Rules and Members. -/
import Derived.Test.YtglcingpolpkdaaASame
import Derived.Test.YtglcingpolpkdaaRTell
namespace Go.Proofs.Ytglcingpolpkdaa
open Go.RowKit

theorem clonetexts_calls (w : World) (B : Nat) (v : Value) (l : List ByteArray) (hv : OwnS w B v l) (hl : l.length ≤ 1000) :
    Calls Try.prog 56 #[v] w fun e w' => ∃ v', e = .returned v' ∧ OwnS w' w.heap.size v' l ∧ Below w.heap.size w w' := by
  have ht := hv.texts
  rcases row_shape hv with ⟨rfl, hn⟩ | ⟨g, cap, rfl, _, hg, _⟩
  · obtain rfl : l = [] := List.eq_nil_of_length_eq_zero hn
    refine (slices_Clone_string_nil 0 0 w).mono ?_
    rintro e w' ⟨rfl, rfl⟩
    exact ⟨_, rfl, OwnS.nil _ _, Below.refl _ _⟩
  · by_cases h0 : l.length = 0
    · obtain rfl : l = [] := List.eq_nil_of_length_eq_zero h0
      refine (slices_Clone_string_zero ⟨g, 0, none⟩ cap w).mono ?_
      rintro e w' ⟨v', rfl, h1, _, h2⟩
      exact ⟨v', rfl, h1, h2⟩
    · rcases ht with ⟨_, _, he, hl0⟩ | ⟨b, off, c, he, _, hc⟩
      · rw [hl0] at h0
        exact absurd rfl h0
      · injection he with he _ hcap
        injection he with he
        injection he with hb ho _
        subst hb ho hcap
        refine (slices_Clone_string g 0 l.length cap l w (Nat.le_refl _) (by omega) (fun j hj => hc j hj)).mono ?_
        rintro e w' ⟨v', rfl, h1, _, h2⟩
        rw [List.take_length] at h1
        exact ⟨v', rfl, h1, h2⟩

set_option maxRecDepth 100000 in
set_option maxHeartbeats 1000000 in
theorem tenants_calls (W w : World) (b m : Nat) (nv : Value) (ts : List Tn) (ads : List Ad) (h : Books W w b m nv ts ads) (hc : Cap ts) :
    Calls Try.prog 23 #[.pointer (some ⟨b, 0, none⟩)] w fun e w' => ∃ v, e = .returned v ∧ OwnS w' w.heap.size v (ts.map Tn.name) ∧ Below w.heap.size w w' := by
  have mk := made_calls w b m (h.book.book.cell 1)
  have c0 := h.book.book.cell 0
  have HC := Lib.hid (clonetexts_calls w W.heap.size nv _ h.book.names (by have := hc.len; simp; omega))
  clear h hc
  go_enter Try.func23, Try.ntmps23
  go_wp2_with (first
    | (go_at_call 42; refine mk.mono ?_; rintro e w' ⟨rfl, hw⟩; rw [hw]; clear hw)
    | (go_at_call 56; refine HC.out.mono ?_; rintro e w1 ⟨v, rfl, hO, hB⟩))
  go_ret
  exact ⟨_, rfl, hO, hB⟩

set_option maxRecDepth 100000 in
set_option maxHeartbeats 1000000 in
theorem rules_calls (W w : World) (b m : Nat) (nv : Value) (ts : List Tn) (ads : List Ad) (name : ByteArray) (h : Books W w b m nv ts ads) (hc : Cap ts) :
    Calls Try.prog 24 #[.pointer (some ⟨b, 0, none⟩), .string name] w fun e w' => ∃ v, e = .returned v ∧ OwnR w' w.heap.size v (rulesT ts name) ∧ Below w.heap.size w w' := by
  have mk := made_calls w b m (h.book.book.cell 1)
  have c1 := h.book.book.cell 1
  have hz : ∀ w : World, (zeroValue 97).run Try.prog w = .ok (.pointer none) w := fun w => by kernel_rfl
  have hlk := look_S Try.underlying44 Try.underlying9 h.book.all name (hz w)
  unfold rulesT
  cases hg : getT ts name with
  | none =>
    rw [find_none h hg] at hlk
    clear h hc hz hg
    go_enter Try.func24, Try.ntmps24
    go_wp2_with (go_at_call 42; refine mk.mono ?_; rintro e w' ⟨rfl, hw⟩; rw [hw]; clear hw)
    go_ret
    exact ⟨_, rfl, World.ownsRow_nil _ _ _ _, Below.refl _ _⟩
  | some p =>
    obtain ⟨i, t⟩ := p
    obtain ⟨a, ht, _, _, hf, hT⟩ := find_book h hg
    rw [hf] at hlk
    have t0 := hT.ten.cell 0
    have HC := Lib.hid (clonerules_calls w W.heap.size a.rv t.rules hT.rules (by have := hc.rules t (List.mem_of_getElem? ht); omega))
    clear h hc hz hg hT hf ht
    go_enter Try.func24, Try.ntmps24
    go_wp2_with (first
      | (go_at_call 42; refine mk.mono ?_; rintro e w' ⟨rfl, hw⟩; rw [hw]; clear hw)
      | (go_at_call 57; refine HC.out.mono ?_; rintro e w1 ⟨v, rfl, hO, hB⟩))
    go_ret
    exact ⟨_, rfl, hO, hB⟩

set_option maxRecDepth 100000 in
set_option maxHeartbeats 2000000 in
theorem members_calls (W w : World) (b m : Nat) (nv : Value) (ts : List Tn) (ads : List Ad) (name role : ByteArray) (h : Books W w b m nv ts ads) (hc : Cap ts) :
    Calls Try.prog 25 #[.pointer (some ⟨b, 0, none⟩), .string name, .string role] w fun e w' => ∃ v, e = .returned v ∧ OwnS w' w.heap.size v (whoHas (memsT ts name) role) ∧ Below w.heap.size w w' := by
  have mk := made_calls w b m (h.book.book.cell 1)
  have c1 := h.book.book.cell 1
  have hz : ∀ w : World, (zeroValue 97).run Try.prog w = .ok (.pointer none) w := fun w => by kernel_rfl
  have hlk := look_S Try.underlying44 Try.underlying9 h.book.all name (hz w)
  unfold memsT
  cases hg : getT ts name with
  | none =>
    rw [find_none h hg] at hlk
    clear h hc hz hg
    go_enter Try.func25, Try.ntmps25
    go_wp2_with (go_at_call 42; refine mk.mono ?_; rintro e w' ⟨rfl, hw⟩; rw [hw]; clear hw)
    go_ret
    exact ⟨_, rfl, OwnS.nil _ _, Below.refl _ _⟩
  | some p =>
    obtain ⟨i, t⟩ := p
    obtain ⟨a, ht, _, _, hf, hT⟩ := find_book h hg
    rw [hf] at hlk
    have t1 := hT.ten.cell 1
    have hml := hc.ms t (List.mem_of_getElem? ht)
    obtain ⟨N, hN⟩ : ∃ N, t.ms.length = N := ⟨_, rfl⟩
    obtain ⟨q, cm, hv⟩ := slice_of_row hT.mems
    rw [hN] at hv hml
    rw [hv] at t1
    have hM : OwnM w W.heap.size (.slice q N cm) t.ms := hv ▸ hT.mems
    have HM := Lib.hid hM
    have HN := Lib.hid hN
    clear h hc hz hg hT hf ht hN hv hM
    go_enter Try.func25, Try.ntmps25
    go_wp2_with (go_at_call 42; refine mk.mono ?_; rintro e w' ⟨rfl, hw⟩; rw [hw]; clear hw)
    go_loopw [7, 31] (fun v j wr => ∃ k : Nat, k ≤ N ∧ j = .int .i64 k ∧ OwnS wr w.heap.size v (whoHas (t.ms.take k) role) ∧ Below w.heap.size w wr) (fun _ j _ => N - (intOf j).toNat)
    case atStart => exact ⟨0, by omega, rfl, by simpa [whoHas] using OwnS.nil w _, Below.refl _ _⟩
    case round =>
      obtain ⟨k, hk, rfl, hO, hBr⟩ := hrel
      by_cases hlt : k < N
      · obtain ⟨⟨mr, mem⟩, hp⟩ : ∃ p, t.ms[k]? = some p := ⟨_, List.getElem?_eq_getElem (by rw [HN.out]; exact hlt)⟩
        obtain ⟨mg, cap, he, hmg, h0, h1⟩ := HM.out.two hp
        have he : q = some ⟨mg, 0, none⟩ := by injection he
        subst he
        have d0 : wr.cell? ⟨mg, k * 2, none⟩ = some (.string mr) := (hBr.cell (p := ⟨mg, k * 2, none⟩) hmg).trans h0
        have d1 : wr.cell? ⟨mg, k * 2 + 1, none⟩ = some (.string mem) := (hBr.cell (p := ⟨mg, k * 2 + 1, none⟩) hmg).trans h1
        have i1 : (k : Int) < (N : Int) := by omega
        have i2 : 0 ≤ (k : Int) ∧ (k : Int) < (N : Int) := by omega
        have b2 : IntKind.i64.wrap ((k : Int) + 1) = (k : Int) + 1 := IntWalk.i64_in _ (by omega)
        have hnx := whoHas_next role hp
        have hle := whoHas_le (t.ms.take k) role
        have hlk2 : (t.ms.take k).length ≤ k := by simp; omega
        have HP := Lib.hid (And.intro hnx (And.intro hle hlk2))
        have HO := Lib.hid (World.ownsRow.alloc hO (.cells #[.string mr, .string mem] 106))
        have HG := Lib.hid (fun (x : Nat) hx => own_ge (x := x) hO hx)
        clear hnx hle hlk2 hp hO h0 h1
        go_wp2_with (refine wpList_append_str (w := wr.alloc (.cells #[.string mr, .string mem] 106)) (by rfl) _ _ (by rfl) w.heap.size (wr.heap.size + 1) _ _ (by rfl) HO.out mem (by rfl) (by simp) (by have := HP.out; omega) (by have := hBr.size; simp; omega) ?_; intro v1 w1 hO1 hG1)
        · have hmw : mr.toList = role.toList := by simpa using (by assumption : (mr.toList == role.toList) = true)
          go_roundw
          case rel => exact ⟨k + 1, by omega, by go_num, by rw [HP.out.1, if_pos hmw]; exact hO1, (hBr.alloc hBr.size _).grown hG1 (by have := hBr.size; simp; omega) (fun j hj => HG.out j hj)⟩
          case measure => simp [intOf]; omega
        · have hmw : ¬ mr.toList = role.toList := by first | (simpa using (by assumption : ¬ (mr.toList == role.toList) = true)) | (simpa using (by assumption : (mr.toList == role.toList) = false)) | assumption
          go_roundw
          case rel => exact ⟨k + 1, by omega, by go_num, by rw [HP.out.1, if_neg hmw, List.append_nil]; exact HO.out, hBr.alloc hBr.size _⟩
          case measure => simp [intOf]; omega
      · obtain rfl : k = N := by omega
        rw [← HN.out, List.take_length] at hO
        have i1 : ¬ (k : Int) < (k : Int) := by omega
        go_wp2
        go_ret
        exact ⟨_, rfl, hO, hBr⟩

end Go.Proofs.Ytglcingpolpkdaa
