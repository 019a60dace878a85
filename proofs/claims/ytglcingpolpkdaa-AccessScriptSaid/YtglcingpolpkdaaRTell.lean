/- The reference's Tenants, Rules, Members. -/
import Derived.Test.YtglcingpolpkdaaRIxX2
namespace Go.Proofs.Ytglcingpolpkdaa
open Go.RowKit

/-- A tenant of the reference's book, where it lies. -/
structure TenR (B : Nat) (w : World) (m g i NT c : Nat) (mv rv : Value) (t : Tn) : Prop where
  book : w.cell? ⟨m, 0, none⟩ = some (.slice (some ⟨g, 0, none⟩) NT c)
  c0 : w.cell? ⟨g, i * 3, none⟩ = some (.string t.name)
  c1 : w.cell? ⟨g, i * 3 + 1, none⟩ = some mv
  c2 : w.cell? ⟨g, i * 3 + 2, none⟩ = some rv
  mems : OwnN w B mv t.ms
  rules : OwnR w B rv t.rules
  ltm : m < w.heap.size
  ltg : g < w.heap.size
  lti : i < NT
theorem TenR.on {B : Nat} {w w' : World} {m g i NT c : Nat} {mv rv : Value} {t : Tn} (h : TenR B w m g i NT c mv rv t) (hb : Below w.heap.size w w') : TenR B w' m g i NT c mv rv t :=
  ⟨(hb.cell (p := ⟨m, 0, none⟩) h.ltm).trans h.book, (hb.cell (p := ⟨g, i * 3, none⟩) h.ltg).trans h.c0, (hb.cell (p := ⟨g, i * 3 + 1, none⟩) h.ltg).trans h.c1, (hb.cell (p := ⟨g, i * 3 + 2, none⟩) h.ltg).trans h.c2, row_low h.mems hb, row_low h.rules hb, Nat.lt_of_lt_of_le h.ltm hb.size, Nat.lt_of_lt_of_le h.ltg hb.size, h.lti⟩
theorem RefIs.ten {W w : World} {m i : Nat} {ts : List Tn} {t : Tn} (h : RefIs W w m ts) (ht : ts[i]? = some t) : ∃ g c mv rv, TenR W.heap.size w m g i ts.length c mv rv t := by
  obtain ⟨lv, xs, h⟩ := h
  have hi : i < xs.length := by rw [h.len]; exact (List.getElem?_eq_some_iff.1 ht).1
  have hx := List.getElem?_eq_getElem hi
  obtain ⟨h1, h2, h3⟩ := h.each i _ t hx ht
  rcases row_shape h.row with ⟨_, hn⟩ | ⟨g, cap, hv, _, hg, hc⟩
  · omega
  · subst hv
    have d0 := hc _ _ (flat_at lenT xs i _ 0 _ hx rfl)
    have d1 := hc _ _ (flat_at lenT xs i _ 1 _ hx rfl)
    have d2 := hc _ _ (flat_at lenT xs i _ 2 _ hx rfl)
    rw [h1] at d0
    exact ⟨g, cap, _, _, ⟨by rw [← h.len]; exact h.book.cell 0, d0, d1, d2, h2, h3, h.book.lt, hg, by rw [← h.len]; exact hi⟩⟩
theorem OwnN.two {w : World} {B k : Nat} {v : Value} {l : List (ByteArray × ByteArray)} {p : ByteArray × ByteArray} (h : OwnN w B v l) (hp : l[k]? = some p) :
    ∃ g cap, v = .slice (some ⟨g, 0, none⟩) l.length cap ∧ g < w.heap.size ∧ w.cell? ⟨g, k * 2, none⟩ = some (.string p.1) ∧ w.cell? ⟨g, k * 2 + 1, none⟩ = some (.string p.2) := by
  rcases row_shape h with ⟨rfl, hn⟩ | ⟨g, cap, rfl, _, hg, hc⟩
  · rw [List.eq_nil_of_length_eq_zero hn] at hp
    simp at hp
  · exact ⟨g, cap, rfl, hg, hc _ _ (flat_at (n := 2) (fun _ => rfl) l k p 0 _ hp rfl), hc _ _ (flat_at (n := 2) (fun _ => rfl) l k p 1 _ hp rfl)⟩

set_option maxRecDepth 100000 in
set_option maxHeartbeats 1000000 in
theorem reftenants_calls (W w : World) (m : Nat) (ts : List Tn) (h : RefIs W w m ts) (hlen : ts.length ≤ 1000) :
    Calls Try.prog 67 #[.pointer (some ⟨m, 0, none⟩)] w fun e w' => ∃ v, e = .returned v ∧ OwnS w' w.heap.size v (ts.map Tn.name) ∧ Below w.heap.size w w' := by
  obtain ⟨N, hN⟩ : ∃ N, ts.length = N := ⟨_, rfl⟩
  obtain ⟨lv, xs, hx⟩ := h
  obtain ⟨p, c, hv⟩ := slice_of_row hx.row
  rw [hx.len, hN] at hv
  subst hv
  have hc0 := hx.book.cell 0
  have HM := Lib.hid (show RefIs W w m ts from ⟨_, _, hx⟩)
  have HC := Lib.hid (And.intro hc0 hx.book.lt)
  have HN := Lib.hid hN
  rw [hN] at hlen
  clear hN hx
  go_enter Try.func67, Try.ntmps67
  go_wp2
  clear hc0
  go_loopw [3, 4] (fun v i wr => ∃ k : Nat, k ≤ N ∧ i = .int .i64 k ∧ OwnS wr w.heap.size v ((ts.take k).map Tn.name) ∧ Below w.heap.size w wr) (fun _ i _ => N - (intOf i).toNat)
  case atStart => exact ⟨0, by omega, rfl, OwnS.nil w _, Below.refl _ _⟩
  case round =>
    obtain ⟨k, hk, rfl, hO, hBr⟩ := hrel
    have q0 := (hBr.cell (p := ⟨m, 0, none⟩) HC.out.2).trans HC.out.1
    by_cases hlt : k < N
    · obtain ⟨t, ht⟩ : ∃ t, ts[k]? = some t := ⟨_, List.getElem?_eq_getElem (by rw [HN.out]; exact hlt)⟩
      obtain ⟨g, c', mv, rv, hT⟩ := (HM.out.on hBr).ten ht
      have hb := hT.book
      rw [q0] at hb
      injection hb with hb
      injection hb with hp _ _
      subst hp
      have c0 := hT.c0
      have i1 : (k : Int) < (N : Int) := by omega
      have i2 : 0 ≤ (k : Int) ∧ (k : Int) < (N : Int) := by omega
      have b2 : IntKind.i64.wrap ((k : Int) + 1) = (k : Int) + 1 := IntWalk.i64_in _ (by omega)
      have HP := Lib.hid (show (ts.take (k + 1)).map Tn.name = (ts.take k).map Tn.name ++ [t.name] ∧ ((ts.take k).map Tn.name).length ≤ k from by
        have hk' : k < ts.length := (List.getElem?_eq_some_iff.1 ht).1
        refine ⟨?_, by simp; omega⟩
        rw [List.take_succ_eq_append_getElem hk', (List.getElem?_eq_some_iff.1 ht).2, List.map_append]
        rfl)
      have HO := Lib.hid hO
      have HG := Lib.hid (fun (x : Nat) hx => own_ge (x := x) hO hx)
      clear hT ht hO
      go_wp2_with (refine wpList_append_str (w := wr) (by rfl) _ _ (by rfl) w.heap.size wr.heap.size _ _ (by rfl) HO.out t.name (by rfl) (by simp) (by have := HP.out; omega) hBr.size ?_; intro v1 w1 hO1 hG1)
      go_roundw
      case rel => exact ⟨k + 1, by omega, by go_num, by rw [HP.out.1]; exact hO1, hBr.grown hG1 hBr.size (fun j hj => HG.out j hj)⟩
      case measure => simp [intOf]; omega
    · obtain rfl : k = N := by omega
      rw [← HN.out, List.take_length] at hO
      have i1 : ¬ (k : Int) < (k : Int) := by omega
      go_wp2
      go_ret
      exact ⟨_, rfl, hO, hBr⟩

set_option maxRecDepth 100000 in
set_option maxHeartbeats 1000000 in
theorem refrules_calls (W w : World) (m : Nat) (ts : List Tn) (n : ByteArray) (h : RefIs W w m ts) (hlen : ts.length ≤ 1000) (hr : ∀ t ∈ ts, t.rules.length ≤ 1000) :
    Calls Try.prog 65 #[.pointer (some ⟨m, 0, none⟩), .string n] w fun e w' => ∃ v, e = .returned v ∧ OwnR w' w.heap.size v (rulesT ts n) ∧ Below w.heap.size w w' := by
  have HAT := Lib.hid (refat_calls W w m ts n h hlen)
  unfold rulesT
  unfold atT at HAT
  cases hg : getT ts n with
  | none =>
    rw [hg] at HAT
    clear h hg
    go_enter Try.func65, Try.ntmps65
    go_wp2_with (go_at_call 93; refine HAT.out.mono ?_; rintro e w' ⟨rfl, hw⟩; rw [hw]; clear hw)
    go_ret
    exact ⟨_, rfl, World.ownsRow_nil _ _ _ _, Below.refl _ _⟩
  | some q =>
    obtain ⟨i, t⟩ := q
    rw [hg] at HAT
    have hti := (getT_at hg).1
    obtain ⟨g, c, mv, rv, hT⟩ := h.ten hti
    obtain ⟨N, hN⟩ : ∃ N, ts.length = N := ⟨_, rfl⟩
    rw [hN] at hT
    have hrl := hr t (List.mem_of_getElem? hti)
    have hA1 : Below w.heap.size w (w.alloc (.cells #[] 29)) := (Below.refl _ _).alloc (Nat.le_refl _) _
    have hT1 := hT.on hA1
    have b0 := hT1.book
    have b2 := hT1.c2
    have i1 : ¬ (i : Int) < 0 := by omega
    have i2 : 0 ≤ (i : Int) ∧ (i : Int) < (N : Int) := by have := hT.lti; omega
    have hsrc : SrcG Rl.cells 4 (w.alloc (.cells #[] 29)) rv t.rules := src_of_own lenR hT1.rules
    clear h hg hT hT1
    go_enter Try.func65, Try.ntmps65
    go_wp2_with (first
      | (refine wpList_append_gen (f := Rl.cells) (n := 4) (by rfl) _ _ _ 29 (by rfl) _ 48 Try.underlying49 info_rule rfl (by decide) (by decide) lenR w.heap.size _ _ [] t.rules (by rfl) (own_empty w _) (by rfl) hsrc (fun b _ y hy => by simp [Rl.cells] at hy; rcases hy with rfl | rfl | rfl | rfl <;> rfl) (by simp; omega) (by simp) ?_; intro v5 w5 hO5 hG5 hM5; have hB5 : Below w.heap.size w w5 := hA1.trans ((Only.of_grown hG5).below (by simp) fun _ _ e => own_ge (own_empty (f := Rl.cells) (n := 4) w 29) e))
      | (go_at_call 93; refine HAT.out.mono ?_; rintro e w' ⟨rfl, hw⟩; rw [hw]; clear hw))
    go_ret
    exact ⟨_, rfl, hO5, hB5⟩

def whoHas (ms : List (ByteArray × ByteArray)) (role : ByteArray) : List ByteArray := (ms.filter fun p => decide (p.1.toList = role.toList)).map Prod.snd
theorem whoHas_next {ms : List (ByteArray × ByteArray)} {k : Nat} {p : ByteArray × ByteArray} (role : ByteArray) (hp : ms[k]? = some p) :
    whoHas (ms.take (k + 1)) role = whoHas (ms.take k) role ++ (if p.1.toList = role.toList then [p.2] else []) := by
  have hk : k < ms.length := (List.getElem?_eq_some_iff.1 hp).1
  rw [List.take_succ_eq_append_getElem hk, (List.getElem?_eq_some_iff.1 hp).2]
  unfold whoHas
  rw [List.filter_append, List.map_append]
  congr 1
  by_cases h : p.1.toList = role.toList <;> simp [h]
theorem whoHas_le (ms : List (ByteArray × ByteArray)) (role : ByteArray) : (whoHas ms role).length ≤ ms.length := by
  unfold whoHas
  rw [List.length_map]
  exact List.length_filter_le _ _

set_option maxRecDepth 100000 in
set_option maxHeartbeats 2000000 in
theorem refmembers_calls (W w : World) (m : Nat) (ts : List Tn) (n role : ByteArray) (h : RefIs W w m ts) (hlen : ts.length ≤ 1000) (hr : ∀ t ∈ ts, t.ms.length ≤ 1000) :
    Calls Try.prog 68 #[.pointer (some ⟨m, 0, none⟩), .string n, .string role] w fun e w' => ∃ v, e = .returned v ∧ OwnS w' w.heap.size v (whoHas (memsT ts n) role) ∧ Below w.heap.size w w' := by
  have HAT := Lib.hid (refat_calls W w m ts n h hlen)
  unfold memsT
  unfold atT at HAT
  cases hg : getT ts n with
  | none =>
    rw [hg] at HAT
    clear h hg
    go_enter Try.func68, Try.ntmps68
    go_wp2_with (go_at_call 93; refine HAT.out.mono ?_; rintro e w' ⟨rfl, hw⟩; rw [hw]; clear hw)
    go_loopw [8, 9] (fun v i wr => v = .slice none 0 0 ∧ i = .int .i64 0 ∧ wr = w) (fun _ _ _ => 0)
    case atStart => exact ⟨rfl, rfl, rfl⟩
    case round =>
      obtain ⟨rfl, rfl, rfl⟩ := hrel
      go_wp2
      go_ret
      exact ⟨_, rfl, OwnS.nil _ _, Below.refl _ _⟩
  | some q =>
    obtain ⟨i, t⟩ := q
    rw [hg] at HAT
    have hti := (getT_at hg).1
    obtain ⟨g, c, mv, rv, hT⟩ := h.ten hti
    obtain ⟨NT, hNT⟩ : ∃ N, ts.length = N := ⟨_, rfl⟩
    rw [hNT] at hT
    have hml := hr t (List.mem_of_getElem? hti)
    obtain ⟨N, hN⟩ : ∃ N, t.ms.length = N := ⟨_, rfl⟩
    obtain ⟨p, cm, hv⟩ := slice_of_row hT.mems
    rw [hN] at hv hml
    subst hv
    have i0 : (0 : Int) ≤ (i : Int) := by omega
    have i3 : 0 ≤ (i : Int) ∧ (i : Int) < (NT : Int) := by have := hT.lti; omega
    have HT := Lib.hid hT
    have HN := Lib.hid hN
    clear h hg hT hN hNT hti
    go_enter Try.func68, Try.ntmps68
    go_wp2_with (go_at_call 93; refine HAT.out.mono ?_; rintro e w' ⟨rfl, hw⟩; rw [hw]; clear hw)
    go_loopw [8, 9] (fun v j wr => ∃ k : Nat, k ≤ N ∧ j = .int .i64 k ∧ OwnS wr w.heap.size v (whoHas (t.ms.take k) role) ∧ Below w.heap.size w wr) (fun _ j _ => N - (intOf j).toNat)
    case atStart => exact ⟨0, by omega, rfl, by simpa [whoHas] using OwnS.nil w _, Below.refl _ _⟩
    case round =>
      obtain ⟨k, hk, rfl, hO, hBr⟩ := hrel
      have hTr := HT.out.on hBr
      have q0 := hTr.book
      have q1 := hTr.c1
      by_cases hlt : k < N
      · obtain ⟨⟨mr, mem⟩, hp⟩ : ∃ p, t.ms[k]? = some p := ⟨_, List.getElem?_eq_getElem (by rw [HN.out]; exact hlt)⟩
        obtain ⟨mg, cap, he, hmg, h0, h1⟩ := hTr.mems.two hp
        have he : p = some ⟨mg, 0, none⟩ := by injection he
        subst he
        have i1 : (k : Int) < (N : Int) := by omega
        have i2 : 0 ≤ (k : Int) ∧ (k : Int) < (N : Int) := by omega
        have b2 : IntKind.i64.wrap ((k : Int) + 1) = (k : Int) + 1 := IntWalk.i64_in _ (by omega)
        have hnx := whoHas_next role hp
        have hle := whoHas_le (t.ms.take k) role
        have hlk : (t.ms.take k).length ≤ k := by simp; omega
        have HP := Lib.hid (And.intro hnx (And.intro hle hlk))
        have HO := Lib.hid hO
        have HG := Lib.hid (fun (x : Nat) hx => own_ge (x := x) hO hx)
        clear hnx hle hlk hp hTr hO
        by_cases hmw : mr.toList = role.toList
        · have hq : (mr.toList == role.toList) = true := by simpa using hmw
          go_wp2_with (refine wpList_append_str (w := wr) (by rfl) _ _ (by rfl) w.heap.size wr.heap.size _ _ (by rfl) HO.out mem (by rfl) (by simp) (by have := HP.out; omega) hBr.size ?_; intro v1 w1 hO1 hG1)
          go_roundw
          case rel => exact ⟨k + 1, by omega, by go_num, by rw [HP.out.1, if_pos hmw]; exact hO1, hBr.grown hG1 hBr.size (fun j hj => HG.out j hj)⟩
          case measure => simp [intOf]; omega
        · have hq : (mr.toList == role.toList) = false := by simpa using hmw
          go_wp2
          go_roundw
          case rel => exact ⟨k + 1, by omega, by go_num, by rw [HP.out.1, if_neg hmw, List.append_nil]; exact HO.out, hBr⟩
          case measure => simp [intOf]; omega
      · obtain rfl : k = N := by omega
        rw [← HN.out, List.take_length] at hO
        have i1 : ¬ (k : Int) < (k : Int) := by omega
        go_wp2
        go_ret
        exact ⟨_, rfl, hO, hBr⟩

end Go.Proofs.Ytglcingpolpkdaa
