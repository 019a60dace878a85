/- A checkpoint read back. -/
import Derived.Test.YtmmlpbepaefamaaGreatDoorJPlain
import Derived.Test.YtmmlpbepaefamaaGreatDoorSDoX2
namespace Go.Proofs.YtmmlpbepaefamaaGreatDoor
open Go.RowKit Go.MapKept

/-- The pairs put one behind the other. -/
def setP (F : ByteArray → Option (List (BitVec 8))) (p : ByteArray × List (BitVec 8)) : ByteArray → Option (List (BitVec 8)) := fun k => if k = p.1 then some p.2 else F k
def getP (P : List (ByteArray × List (BitVec 8))) : ByteArray → Option (List (BitVec 8)) := P.foldl setP fun _ => none
theorem getP_next {P : List (ByteArray × List (BitVec 8))} {k : Nat} {p : ByteArray × List (BitVec 8)} (h : P[k]? = some p) : getP (P.take (k + 1)) = setP (getP (P.take k)) p := by
  unfold getP
  rw [List.take_add_one, h, List.foldl_append]
  rfl
/-- The frames of a checkpoint. -/
def laidL (g : Nat) (P : List (ByteArray × List (BitVec 8))) : List (List (BitVec 8)) := putN 8 (g + 1 : Nat) :: P.map fun p => fieldsB [bytesB p.1, p.2]
theorem laidB_frames (g : Nat) (P : List (ByteArray × List (BitVec 8))) : laidB g P = (laidL g P).flatMap frameC := by
  unfold laidB laidL
  rw [List.flatMap_cons, List.flatMap_map]
  rfl
theorem readC_laid {g : Nat} {P : List (ByteArray × List (BitVec 8))} (h : ∀ p ∈ P, p.1.size + p.2.length ≤ 900) : readC (laidB g P) = some (laidL g P, (laidB g P).length) := by
  have hs : ∀ x ∈ laidL g P, x.length ≤ 65536 := fun x hx => by
    unfold laidL at hx
    rcases List.mem_cons.1 hx with rfl | hx
    · rw [putN_length]
      decide
    · obtain ⟨p, hp, rfl⟩ := List.mem_map.1 hx
      have := h p hp
      rw [fieldsB_length]
      simp [sizeF, bytesB_length]
      omega
  have h0 := readC_frames (laidL g P) [] hs
  rw [List.append_nil, ← laidB_frames] at h0
  rw [h0]
  have hn : readC [] = some ([], 0) := by
    unfold readC
    rfl
  rw [hn]
  simp [laidB_frames]

theorem listsown_slice {w : World} {B n : Nat} {v : Value} {bs : List (List (BitVec 8))} (h : ListsOwn w B v bs) (hn : bs.length = n) : ∃ a c, v = .slice a n c := by
  obtain ⟨vs, h1, h2, _⟩ := h.row
  obtain ⟨a, c, e⟩ := slice_of_row h2
  exact ⟨a, c, by rw [e, h1, hn]⟩
theorem listsown_each {w : World} {B n c : Nat} {a : Option Addr} {bs : List (List (BitVec 8))} (h : ListsOwn w B (.slice a n c) bs) (hn : bs ≠ []) : ∃ g0, a = some ⟨g0, 0, none⟩ ∧ B ≤ g0 ∧ g0 < w.heap.size ∧ n ≤ c ∧ ∀ (i : Nat) (x : List (BitVec 8)), bs[i]? = some x → ∃ u, w.cell? ⟨g0, i, none⟩ = some u ∧ Own w B u x := by
  obtain ⟨vs, h1, h2, h3⟩ := h.row
  rcases row_shape h2 with ⟨he, h0⟩ | ⟨g, cap, he, _, hg, hc⟩
  · exact absurd (List.eq_nil_of_length_eq_zero (by omega)) hn
  · injection he with e1 e2 e3
    subst e1 e2 e3
    refine ⟨g, rfl, own_ge h2 rfl, hg, ?_, fun i x hx => ?_⟩
    · rcases h2.2 with ⟨e, _⟩ | ⟨g', cap', cur, e, _, _, hle, _⟩
      · cases e
      · injection e with _ _ e3
        omega
    · obtain ⟨u, h4, h5⟩ := h3 i x hx
      refine ⟨u, hc i u ?_, h5⟩
      have := flat_at (f := fun x : Value => [x]) (n := 1) (fun _ => rfl) vs i u 0 u h4 rfl
      simpa using this

set_option maxRecDepth 100000 in
set_option maxHeartbeats 8000000 in
theorem ssnap_calls (w : World) (lo mb s d : Nat) (S : Nat → Prop) (base : ByteArray) (q : Int) (j : Value) (hW : Whole w s 64 (storC d base q j mb)) (hV : VM w lo S mb []) (hlo : lo ≤ w.heap.size) (hS : ∀ i, S i → i < w.heap.size) (v : Value) (g : Nat) (P : List (ByteArray × List (BitVec 8))) (hv : SliceR w v (laidB g P)) (hg : g < 1000) (hl : P.length ≤ 1000) (hA : AscP P) (hb : ∀ p ∈ P, 1 ≤ p.1.size ∧ p.1.size ≤ 128 ∧ p.1.size + p.2.length ≤ 900) :
    Calls Tryz.prog 22 #[.pointer (some ⟨s, 0, none⟩), v] w fun r w' => r = .returned (.bool true) ∧ ∃ M', Whole w' s 64 (storC d base ((g : Int) + 1) j mb) ∧ VM w' lo S mb M' ∧ (∀ k, getM M' k = getP P k) ∧ M'.length ≤ P.length ∧ Only w w' fun i => i = s ∨ i = mb := by
  have hb9 : ∀ p ∈ P, p.1.size + p.2.length ≤ 900 := fun p hp => (hb p hp).2.2
  have hln := laidB_len (g := g) hb9 hl
  have HRD := Lib.hid (topread_some w v (laidB g P) hv (by omega) (readC_laid hb9))
  obtain ⟨pv, cv, rfl, _⟩ := hv.2
  obtain ⟨R, hR⟩ : ∃ R, (laidB g P).length = R := ⟨_, rfl⟩
  obtain ⟨N, hN⟩ : ∃ N, P.length = N := ⟨_, rfl⟩
  have hll : (laidL g P).length = N + 1 := by unfold laidL; rw [List.length_cons, List.length_map, hN]
  rw [hR, hll] at HRD
  rw [hR]
  rw [hN] at hl ⊢
  have HN := Lib.hid hN
  have HW := Lib.hid hW
  have HV := Lib.hid hV
  have HS := Lib.hid hS
  have HA := Lib.hid hA
  have HBD := Lib.hid hb
  have g1 : ¬ (4096 : Int) < (N : Int) := by omega
  have g2 : ((N : Int) + 1 == 0) = false := by
    have : ¬ (N : Int) + 1 = 0 := by omega
    simpa using this
  have g3 : decide ((4096 : Int) < (N : Int)) = false := decide_eq_false g1
  have s1 : IntKind.i64.wrap (((N + 1 : Nat) : Int) - 1) = ((N + 1 : Nat) : Int) - 1 := IntWalk.i64_in _ (by omega)
  clear hW hV hS hv hA hb hb9 hln hR hN hll
  go_enter Tryz.func22, Tryz.ntmps22
  go_upto_region 4 with (first
    | (go_at_call 51; refine HRD.out.mono ?_; rintro r w2 ⟨hb2, _, rfl, ⟨ua, uc, rfl⟩, hU⟩)
    | fail)
  obtain ⟨g0, rfl, hgB, hg0, hnc, hcell⟩ := listsown_each hU (by unfold laidL; exact fun e => by cases e)
  obtain ⟨u0, hu0, ho0⟩ := hcell 0 (putN 8 (g + 1 : Nat)) rfl
  have HRI := Lib.hid (readint_calls w2 u0 (g + 1) ho0.room (by omega))
  obtain ⟨a0, n0, c0, rfl⟩ := slice_any ho0
  have HC := Lib.hid (show ∀ (i : Nat) (p : ByteArray × List (BitVec 8)), P[i]? = some p → ∃ u, w2.cell? ⟨g0, i + 1, none⟩ = some u ∧ Own w2 w.heap.size u (fieldsB [bytesB p.1, p.2]) from fun i p hp => hcell (i + 1) _ (by unfold laidL; rw [List.getElem?_cons_succ, List.getElem?_map, hp]; rfl))
  have hcast : ((g + 1 : Nat) : Int) = (g : Int) + 1 := by omega
  rw [hcast] at HRI
  clear hU hcell ho0
  go_upto_region 7 with (first
    | (go_at_call 52; refine HRI.out.mono ?_; rintro r w3 ⟨rfl, hb3⟩)
    | fail)
  have hb03 := hb2.trans (hb3.mono hb2.size)
  have HB03 := Lib.hid hb03
  have HB3 := Lib.hid hb3
  have hW3 := HW.out.below hb03 HW.out.lt
  have HW3 := Lib.hid hW3
  have x2 : w3.cell? ⟨s, 2, none⟩ = some (.int .i64 q) := hW3.cell 2
  have x2f := hW3.free 2
  clear hb2 hb3 hb03 hW3 hu0 HRI HRD
  go_upto_block 0 with fail
  have hW4 : Whole (w3.setCell ⟨s, 2, none⟩ (.int .i64 ((g : Int) + 1))) s 64 (storC d base ((g : Int) + 1) j mb) := HW3.out.put 2 (.int .i64 ((g : Int) + 1))
  have ho4 := Only.set w3 ⟨s, 2, none⟩ (.int .i64 ((g : Int) + 1))
  have hV4 := (HV.out.low HB03.out).only (S' := S) ho4 ((HV.out.low HB03.out).cells HW3.out (by decide)).1 (fun x hx => by cases hx) (fun _ _ e => e)
  have ho04 := (Only.of_below HB03.out fun i => i = s ∨ i = mb).trans ho4
  clear x2 x2f
  generalize w3.setCell ⟨s, 2, none⟩ (.int .i64 ((g : Int) + 1)) = w4 at hW4 ho4 hV4 ho04 ⊢
  obtain ⟨bp, hbp⟩ : ∃ bp, (if uc = 1 then some (⟨g0, 0, none⟩ : Addr) else some ⟨g0, 1, none⟩) = bp := ⟨_, rfl⟩
  have HBP := Lib.hid (show N ≠ 0 → bp = some ⟨g0, 1, none⟩ from fun h => by rw [← hbp]; exact if_neg (by omega))
  go_wp2
  go_loopw [9, 55] (fun u i wr => ∃ (k : Nat) (last : ByteArray) (M' : List Ent), k ≤ N ∧ i = .int .i64 k ∧ u = .string last ∧ (∀ p, P[k]? = some p → leqB p.1 last = false) ∧ VM wr lo S mb M' ∧ (∀ j, getM M' j = getP (P.take k) j) ∧ M'.length ≤ k ∧ Only w4 wr fun i => i = mb) (fun _ i _ => N - (intOf i).toNat)
  case atStart => exact ⟨0, _, [], by omega, rfl, rfl, fun p hp => leqB_first (HBD.out p (List.mem_of_getElem? hp)).1, hV4, fun _ => rfl, Nat.le_refl _, ⟨rfl, rfl, rfl, Nat.le_refl _, fun _ _ _ => rfl⟩⟩
  case round =>
    obtain ⟨k, last, M', hk, rfl, rfl, hlast, hV, hF, hM, hO⟩ := hrel
    by_cases hlt : k < N
    · have i1 : (k : Int) < (N : Int) := by omega
      have i2 : 0 ≤ (k : Int) ∧ (k : Int) < (N : Int) := by omega
      have s2 : IntKind.i64.wrap ((k : Int) + 1) = (k : Int) + 1 := IntWalk.i64_in _ (by omega)
      obtain ⟨x, hx⟩ : ∃ x, P[k]? = some x := ⟨_, List.getElem?_eq_getElem (by rw [HN.out]; exact hlt)⟩
      have hp := HBD.out x (List.mem_of_getElem? hx)
      have hle := hlast x hx
      have hnx := getP_next hx
      have HNE := Lib.hid (show ∀ p, P[k + 1]? = some p → leqB p.1 x.1 = false from fun y hy => by
        obtain ⟨h1, e1⟩ := List.getElem?_eq_some_iff.1 hx
        obtain ⟨h2, e2⟩ := List.getElem?_eq_some_iff.1 hy
        rw [← e1, ← e2]
        exact leqB_lt (List.pairwise_iff_getElem.1 HA.out k (k + 1) h1 h2 (Nat.lt_succ_self k)))
      obtain ⟨u, hu, hou⟩ := HC.out k x hx
      have hmw : mb < w.heap.size := HV.out.map.lt
      have hsw : s < w.heap.size := HW.out.lt
      have ho24 : Only w2 wr fun i => i = s ∨ i = mb := (((Only.of_below HB3.out fun i => i = s).trans ho4).trans hO).weak fun i _ e => by
        rcases e with (e | e) | e
        · exact .inl e
        · exact .inl e
        · exact .inr e
      have hfar : ∀ b, w.heap.size ≤ b → ¬ (b = s ∨ b = mb) := fun b hb e => by rcases e with e | e <;> omega
      have hc1 : wr.cell? ⟨g0, k + 1, none⟩ = some u := by
        have := ho24.block g0 hg0 (hfar g0 hgB)
        rw [← hu]
        simp [World.cell?, this]
      have hou2 : Own wr w.heap.size u (fieldsB [bytesB x.1, x.2]) := row_only hou ho24 fun b hb => hfar b (own_ge hou hb)
      have hbp2 := HBP.out (by omega)
      subst hbp2
      have HRF := Lib.hid (readfields_calls wr u [bytesB x.1, x.2] hou2.room (by simp) (by simp [sizeF, bytesB_length]; omega))
      obtain ⟨au, nu, cu, rfl⟩ := slice_any hou2
      obtain ⟨key, val⟩ := x
      dsimp only at hp hle hnx HRF
      have HNX := Lib.hid hnx
      have HF := Lib.hid hF
      have HM := Lib.hid hM
      have HLE := Lib.hid hle
      have c1 : wr.cell? ⟨g0, 1 + k, none⟩ = some (.slice au nu cu) := by rw [Nat.add_comm]; exact hc1
      clear hx hnx hF hM hle hlast hu hou hou2 hc1 ho24 hfar
      go_upto_region 13 with (first
        | (go_at_call 53; refine HRF.out.mono ?_; rintro r w5 ⟨_, rfl, hU5, hb5⟩; obtain ⟨a5, c5, he5⟩ := listsown_slice hU5 rfl; subst he5)
        | fail)
      obtain ⟨g5, rfl, hgB5, hg5, _, hcell5⟩ := listsown_each hU5 (by simp)
      obtain ⟨v1, hv1, ho1⟩ := hcell5 0 (bytesB key) rfl
      obtain ⟨v2, hv2, ho2⟩ := hcell5 1 val rfl
      obtain ⟨a1, kn, k1, rfl⟩ := slice_any ho1
      obtain ⟨a2, vn, k2, rfl⟩ := slice_any ho2
      have hvn : vn ≤ 8192 := by
        obtain ⟨_, _, h3⟩ := slice_of_row ho2
        injection h3 with _ h4 _
        omega
      have hk1 := hp.1
      have hk2 := hp.2.1
      have hd5 := (Below.refl w5.heap.size w5).drew
      have HS5 := Lib.hid (show w5.drew.cell? ⟨g5, 0, none⟩ = some (.slice a1 kn k1) ∧ w5.drew.cell? ⟨g5, 1, none⟩ = some (.slice a2 vn k2) ∧ SliceIs w5.drew (.slice a1 kn k1) (bytesB key) from ⟨(hd5.cell (p := ⟨g5, 0, none⟩) hg5).trans hv1, (hd5.cell (p := ⟨g5, 1, none⟩) hg5).trans hv2, ho1.slice.low hd5⟩)
      have HO1 := Lib.hid ho1.slice
      have HO2 := Lib.hid ho2
      clear hp hcell5 hU5 ho1 ho2
      refine wp_region_noPanic ?_
      refine wp_region_held_drew (S := fun w' => w'.cell? ⟨g5, 0, none⟩ = some (.slice a1 kn k1) ∧ w'.cell? ⟨g5, 1, none⟩ = some (.slice a2 vn k2) ∧ SliceIs w' (.slice a1 kn k1) (bytesB key)) (by kernel_rfl) (HS5.out) (fun hhS => ?_)
      generalize w5.drew = wd at hd5 HS5 hhS ⊢
      refine wpAnyH_take (i := 0) (oi := ⟨some 64, _, _, _, _, _⟩) (v := ?_) rfl (by kernel_rfl) (by kernel_rfl) (by kernel_rfl) (fun _ _ _ h => h) (Or.inl ⟨by rfl, ?_⟩) (by assumption) ?_
      rotate_left
      · intro w hSw
        (try dsimp only at hSw)
        go_simp
        all_goals (with_reducible rfl)
      try simp only [Act.put, List.setIfInBounds_toArray, List.set_cons_zero, List.set_cons_succ]
      refine wpAnyH_take (i := 1) (oi := ⟨some 65, _, _, _, _, _⟩) (v := ?_) rfl (by kernel_rfl) (by kernel_rfl) (by kernel_rfl) (fun _ _ _ h => h) (Or.inl ⟨by rfl, ?_⟩) (by assumption) ?_
      rotate_left
      · intro w hSw
        (try dsimp only at hSw)
        go_simp
        all_goals (with_reducible rfl)
      try simp only [Act.put, List.setIfInBounds_toArray, List.set_cons_zero, List.set_cons_succ]
      refine wpAnyH_take (i := 2) (oi := ⟨some 66, _, _, _, _, _⟩) (v := ?_) rfl (by kernel_rfl) (by kernel_rfl) (by kernel_rfl) (fun _ _ _ h => h) (Or.inl ⟨by rfl, ?_⟩) (by assumption) ?_
      rotate_left
      · intro w hSw
        (try dsimp only at hSw)
        go_simp
        all_goals (with_reducible rfl)
      try simp only [Act.put, List.setIfInBounds_toArray, List.set_cons_zero, List.set_cons_succ]
      refine wpAnyH_take (i := 3) (oi := ⟨some 67, _, _, _, _, _⟩) (v := ?_) rfl (by kernel_rfl) (by kernel_rfl) (by kernel_rfl) (fun _ _ _ h => h) (Or.inl ⟨by rfl, ?_⟩) (by assumption) ?_
      rotate_left
      · intro w hSw
        (try dsimp only at hSw)
        go_simp
        all_goals (with_reducible rfl)
      try simp only [Act.put, List.setIfInBounds_toArray, List.set_cons_zero, List.set_cons_succ]
      refine wpAnyH_take (i := 4) (oi := ⟨some 68, _, _, _, _, _⟩) (v := ?_) rfl (by kernel_rfl) (by kernel_rfl) (by kernel_rfl) (fun _ _ _ h => h) (Or.inl ⟨by rfl, ?_⟩) (by assumption) ?_
      rotate_left
      · intro w hSw
        (try dsimp only at hSw)
        go_simp
        all_goals (with_reducible rfl)
      try simp only [Act.put, List.setIfInBounds_toArray, List.set_cons_zero, List.set_cons_succ]
      refine wpAnyH_take (i := 5) (oi := ⟨some 69, _, _, _, _, _⟩) (v := (.bool false)) rfl (by kernel_rfl) (by kernel_rfl) (by kernel_rfl) (fun _ _ _ h => h) (Or.inl ⟨by rfl, ?_⟩) (by assumption) ?_
      · intro w hSw
        (try dsimp only at hSw)
        go_simp
        all_goals (first | done | simp)
      try simp only [Act.put, List.setIfInBounds_toArray, List.set_cons_zero, List.set_cons_succ]
      refine wpAnyH_take (i := 6) (oi := ⟨some 70, _, _, _, _, _⟩) (v := (.bool false)) rfl (by kernel_rfl) (by kernel_rfl) (by kernel_rfl) (fun _ _ _ h => h) (Or.inl ⟨by rfl, ?_⟩) (by assumption) ?_
      · intro w hSw
        (try dsimp only at hSw)
        go_simp
        all_goals (first | done | simp)
      try simp only [Act.put, List.setIfInBounds_toArray, List.set_cons_zero, List.set_cons_succ]
      refine wpAnyH_take (i := 7) (oi := ⟨some 71, _, _, _, _, _⟩) (v := ?_) rfl (by kernel_rfl) (by kernel_rfl) (by kernel_rfl) (fun _ _ _ h => h) (Or.inl ⟨by rfl, ?_⟩) (by assumption) ?_
      rotate_left
      · intro w hSw
        (try dsimp only at hSw)
        go_simp
        all_goals (with_reducible rfl)
      try simp only [Act.put, List.setIfInBounds_toArray, List.set_cons_zero, List.set_cons_succ]
      refine wpAnyH_take (i := 8) (oi := ⟨some 72, _, _, _, _, _⟩) (v := ?_) rfl (by kernel_rfl) (by kernel_rfl) (by kernel_rfl) (fun _ _ _ h => h) (Or.inl ⟨by rfl, ?_⟩) (by assumption) ?_
      rotate_left
      · intro w hSw
        (try dsimp only at hSw)
        go_simp
        all_goals (with_reducible rfl)
      try simp only [Act.put, List.setIfInBounds_toArray, List.set_cons_zero, List.set_cons_succ]
      refine wpAnyH_take (i := 9) (oi := ⟨some 73, _, _, _, _, _⟩) (v := ?_) rfl (by kernel_rfl) (by kernel_rfl) (by kernel_rfl) (fun _ _ _ h => h) (Or.inl ⟨by rfl, ?_⟩) (by assumption) ?_
      rotate_left
      · intro w hSw
        (try dsimp only at hSw)
        go_simp
        all_goals (with_reducible rfl)
      try simp only [Act.put, List.setIfInBounds_toArray, List.set_cons_zero, List.set_cons_succ]
      refine wpAnyH_take (i := 10) (oi := ⟨some 74, _, _, _, _, _⟩) (v := ?_) rfl (by kernel_rfl) (by kernel_rfl) (by kernel_rfl) (fun _ _ _ h => h) (Or.inl ⟨by rfl, ?_⟩) (by assumption) ?_
      rotate_left
      · intro w hSw
        (try dsimp only at hSw)
        have y0 := hSw.1
        have y1 := hSw.2.1
        go_simp
        all_goals (with_reducible rfl)
      try simp only [Act.put, List.setIfInBounds_toArray, List.set_cons_zero, List.set_cons_succ]
      refine wpAnyH_take (i := 11) (oi := ⟨some 75, _, _, _, _, _⟩) (v := (.string key)) rfl (by kernel_rfl) (by kernel_rfl) (by kernel_rfl) (fun _ _ _ h => h) (Or.inl ⟨by rfl, ?_⟩) (by assumption) ?_
      · intro w hSw
        (try dsimp only at hSw)
        have y0 := hSw.1
        have y1 := hSw.2.1
        have hcv := run_convert_slice w _ _ hSw.2.2
        rw [textOf_bytesB] at hcv
        go_simp
        all_goals (first | done | simp)
      try simp only [Act.put, List.setIfInBounds_toArray, List.set_cons_zero, List.set_cons_succ]
      refine wpAnyH_take (i := 12) (oi := ⟨some 76, _, _, _, _, _⟩) (v := ?_) rfl (by kernel_rfl) (by kernel_rfl) (by kernel_rfl) (fun _ _ _ h => h) (Or.inl ⟨by rfl, ?_⟩) (by assumption) ?_
      rotate_left
      · intro w hSw
        (try dsimp only at hSw)
        go_simp
        all_goals (with_reducible rfl)
      try simp only [Act.put, List.setIfInBounds_toArray, List.set_cons_zero, List.set_cons_succ]
      refine wpAnyH_take (i := 13) (oi := ⟨some 77, _, _, _, _, _⟩) (v := ?_) rfl (by kernel_rfl) (by kernel_rfl) (by kernel_rfl) (fun _ _ _ h => h) (Or.inl ⟨by rfl, ?_⟩) (by assumption) ?_
      rotate_left
      · intro w hSw
        (try dsimp only at hSw)
        go_simp
        all_goals (with_reducible rfl)
      try simp only [Act.put, List.setIfInBounds_toArray, List.set_cons_zero, List.set_cons_succ]
      refine wpAnyH_take (i := 14) (oi := ⟨some 78, _, _, _, _, _⟩) (v := ?_) rfl (by kernel_rfl) (by kernel_rfl) (by kernel_rfl) (fun _ _ _ h => h) (Or.inl ⟨by rfl, ?_⟩) (by assumption) ?_
      rotate_left
      · intro w hSw
        (try dsimp only at hSw)
        have y0 := hSw.1
        have y1 := hSw.2.1
        go_simp
        all_goals (with_reducible rfl)
      try simp only [Act.put, List.setIfInBounds_toArray, List.set_cons_zero, List.set_cons_succ]
      refine wpAnyH_ready (rs := [15]) (by kernel_rfl) (by simp) ?_
      refine AllReadyH.cons (o := ⟨some 79, _, _, _, _, _⟩) rfl (fun K hK => ?_) AllReadyH.nil
      go_simp
      refine (bounds_yes _ key a2 vn k2 hk1 hk2 hvn).mono ?_
      rintro r w6 ⟨rfl, rfl⟩
      refine hK.out _ _ (hhS) (fun _ => ?_)
      clear hK K
      try simp only [Act.put, List.setIfInBounds_toArray, List.set_cons_zero, List.set_cons_succ]
      refine wpAnyH_take (i := 16) (oi := ⟨some 80, _, _, _, _, _⟩) (v := ?_) rfl (by kernel_rfl) (by kernel_rfl) (by kernel_rfl) (fun _ _ _ h => h) (Or.inl ⟨by rfl, ?_⟩) (by assumption) ?_
      rotate_left
      · intro w hSw
        (try dsimp only at hSw)
        go_simp
        all_goals (with_reducible rfl)
      try simp only [Act.put, List.setIfInBounds_toArray, List.set_cons_zero, List.set_cons_succ]
      refine wpAnyH_take (i := 17) (oi := ⟨some 81, _, _, _, _, _⟩) (v := (.bool false)) rfl (by kernel_rfl) (by kernel_rfl) (by kernel_rfl) (fun _ _ _ h => h) (Or.inl ⟨by rfl, ?_⟩) (by assumption) ?_
      · intro w hSw
        (try dsimp only at hSw)
        go_simp
        all_goals (first | done | simp)
      try simp only [Act.put, List.setIfInBounds_toArray, List.set_cons_zero, List.set_cons_succ]
      refine wpAnyH_take (i := 18) (oi := ⟨some 82, _, _, _, _, _⟩) (v := ?_) rfl (by kernel_rfl) (by kernel_rfl) (by kernel_rfl) (fun _ _ _ h => h) (Or.inl ⟨by rfl, ?_⟩) (by assumption) ?_
      rotate_left
      · intro w hSw
        (try dsimp only at hSw)
        go_simp
        all_goals (with_reducible rfl)
      try simp only [Act.put, List.setIfInBounds_toArray, List.set_cons_zero, List.set_cons_succ]
      refine wpAnyH_take (i := 19) (oi := ⟨some 83, _, _, _, _, _⟩) (v := ?_) rfl (by kernel_rfl) (by kernel_rfl) (by kernel_rfl) (fun _ _ _ h => h) (Or.inl ⟨by rfl, ?_⟩) (by assumption) ?_
      rotate_left
      · intro w hSw
        (try dsimp only at hSw)
        go_simp
        all_goals (with_reducible rfl)
      try simp only [Act.put, List.setIfInBounds_toArray, List.set_cons_zero, List.set_cons_succ]
      refine wpAnyH_take (i := 20) (oi := ⟨some 84, _, _, _, _, _⟩) (v := ?_) rfl (by kernel_rfl) (by kernel_rfl) (by kernel_rfl) (fun _ _ _ h => h) (Or.inl ⟨by rfl, ?_⟩) (by assumption) ?_
      rotate_left
      · intro w hSw
        (try dsimp only at hSw)
        go_simp
        all_goals (with_reducible rfl)
      try simp only [Act.put, List.setIfInBounds_toArray, List.set_cons_zero, List.set_cons_succ]
      refine wpAnyH_take (i := 21) (oi := ⟨some 85, _, _, _, _, _⟩) (v := ?_) rfl (by kernel_rfl) (by kernel_rfl) (by kernel_rfl) (fun _ _ _ h => h) (Or.inl ⟨by rfl, ?_⟩) (by assumption) ?_
      rotate_left
      · intro w hSw
        (try dsimp only at hSw)
        have y0 := hSw.1
        have y1 := hSw.2.1
        go_simp
        all_goals (with_reducible rfl)
      try simp only [Act.put, List.setIfInBounds_toArray, List.set_cons_zero, List.set_cons_succ]
      refine wpAnyH_take (i := 22) (oi := ⟨some 86, _, _, _, _, _⟩) (v := (.string key)) rfl (by kernel_rfl) (by kernel_rfl) (by kernel_rfl) (fun _ _ _ h => h) (Or.inl ⟨by rfl, ?_⟩) (by assumption) ?_
      · intro w hSw
        (try dsimp only at hSw)
        have y0 := hSw.1
        have y1 := hSw.2.1
        have hcv := run_convert_slice w _ _ hSw.2.2
        rw [textOf_bytesB] at hcv
        go_simp
        all_goals (first | done | simp)
      try simp only [Act.put, List.setIfInBounds_toArray, List.set_cons_zero, List.set_cons_succ]
      refine wpAnyH_take (i := 23) (oi := ⟨some 87, _, _, _, _, _⟩) (v := ?_) rfl (by kernel_rfl) (by kernel_rfl) (by kernel_rfl) (fun _ _ _ h => h) (Or.inl ⟨by rfl, ?_⟩) (by assumption) ?_
      rotate_left
      · intro w hSw
        (try dsimp only at hSw)
        go_simp
        all_goals (with_reducible rfl)
      try simp only [Act.put, List.setIfInBounds_toArray, List.set_cons_zero, List.set_cons_succ]
      refine wpAnyH_take (i := 24) (oi := ⟨some 88, _, _, _, _, _⟩) (v := (.bool false)) rfl (by kernel_rfl) (by kernel_rfl) (by kernel_rfl) (fun _ _ _ h => h) (Or.inl ⟨by rfl, ?_⟩) (by assumption) ?_
      · intro w hSw
        (try dsimp only at hSw)
        have hq : (Op.bytesLess key.toList last.toList || key.toList == last.toList) = false := HLE.out
        go_simp
        all_goals (first | done | simp)
      try simp only [Act.put, List.setIfInBounds_toArray, List.set_cons_zero, List.set_cons_succ]
      refine wpAnyH_take (i := 25) (oi := ⟨some 89, _, _, _, _, _⟩) (v := (.bool false)) rfl (by kernel_rfl) (by kernel_rfl) (by kernel_rfl) (fun _ _ _ h => h) (Or.inl ⟨by rfl, ?_⟩) (by assumption) ?_
      · intro w hSw
        (try dsimp only at hSw)
        go_simp
        all_goals (first | done | simp)
      try simp only [Act.put, List.setIfInBounds_toArray, List.set_cons_zero, List.set_cons_succ]
      refine wpAnyH_done (by kernel_rfl) ?_ _
      refine NoPanic.normal ?_
      have hcv := run_convert_slice wd _ _ hhS.2.2
      rw [textOf_bytesB] at hcv
      have y0 := hhS.1
      go_upto_region 16 with fail
      have hb5d := hb5.trans ((hd5.trans (Below.refl wd.heap.size wd |>.drew |>.mono hd5.size)).mono hb5.size)
      have hd6 := hd5.trans (((Below.refl wd.heap.size wd).drew).mono hd5.size)
      have hV6 := (hV.low hb5).low hd6
      have ho2' : Own wd.drew lo (.slice a2 vn k2) val := own_down (Nat.le_trans hlo (Nat.le_trans ho04.size hO.size)) (row_low HO2.out hd6)
      have hS2 : ∀ b, (Value.slice a2 vn k2).ownBlock = some b → ¬ S b := fun b hb e => by
        have h1 := HS.out b e
        have h2 := own_ge HO2.out hb
        have h3 := ho04.size
        have h4 := hO.size
        omega
      have HW6 := Lib.hid ((hW4.only hO (fun e : s = mb => (hV4.cells hW4 (by decide)).1 e.symm)).below (hb5.trans (hd6.mono hb5.size)) (Nat.lt_of_lt_of_le hW4.lt hO.size))
      have z0 : wd.drew.cell? ⟨s, 4, none⟩ = some (.map (some mb)) := HW6.out.cell 4
      have z1 : wd.drew.cell? ⟨g5, 1, none⟩ = some (.slice a2 vn k2) := (hd6.cell (p := ⟨g5, 1, none⟩) hg5).trans hv2
      have hbb := hb5.trans (hd6.mono hb5.size)
      clear hcv y0 hhS hb5d
      refine wp_region_noPanic ?_
      refine wp_region_held_drew (S := fun w' => w'.cell? ⟨s, 4, none⟩ = some (.map (some mb)) ∧ w'.cell? ⟨g5, 1, none⟩ = some (.slice a2 vn k2)) (by kernel_rfl) (⟨z0, z1⟩) (fun hhS => ?_)
      have hg6 : g5 < wd.drew.heap.size := Nat.lt_of_lt_of_le hg5 hd6.size
      have hgm : ¬ g5 = mb := fun e => by have h1 := HV.out.map.lt; have h2 := hgB5; have h3 := ho04.size; have h4 := hO.size; omega
      generalize wd.drew = wd at hV6 ho2' HW6 z0 z1 hbb hg6 hhS hd6 ⊢
      refine wpAnyH_take (i := 0) (oi := ⟨some 94, _, _, _, _, _⟩) (v := ?_) rfl (by kernel_rfl) (by kernel_rfl) (by kernel_rfl) (fun _ _ _ h => h) (Or.inl ⟨by rfl, ?_⟩) (by assumption) ?_
      rotate_left
      · intro w hSw
        (try dsimp only at hSw)
        go_simp
        all_goals (with_reducible rfl)
      try simp only [Act.put, List.setIfInBounds_toArray, List.set_cons_zero, List.set_cons_succ]
      refine wpAnyH_take (i := 1) (oi := ⟨some 95, _, _, _, _, _⟩) (v := ?_) rfl (by kernel_rfl) (by kernel_rfl) (by kernel_rfl) (fun _ _ _ h => h) (Or.inl ⟨by rfl, ?_⟩) (by assumption) ?_
      rotate_left
      · intro w hSw
        (try dsimp only at hSw)
        go_simp
        all_goals (with_reducible rfl)
      try simp only [Act.put, List.setIfInBounds_toArray, List.set_cons_zero, List.set_cons_succ]
      refine wpAnyH_take (i := 2) (oi := ⟨some 96, _, _, _, _, _⟩) (v := ?_) rfl (by kernel_rfl) (by kernel_rfl) (by kernel_rfl) (fun _ _ _ h => h) (Or.inl ⟨by rfl, ?_⟩) (by assumption) ?_
      rotate_left
      · intro w hSw
        (try dsimp only at hSw)
        go_simp
        all_goals (with_reducible rfl)
      try simp only [Act.put, List.setIfInBounds_toArray, List.set_cons_zero, List.set_cons_succ]
      refine wpAnyH_take (i := 3) (oi := ⟨some 97, _, _, _, _, _⟩) (v := ?_) rfl (by kernel_rfl) (by kernel_rfl) (by kernel_rfl) (fun _ _ _ h => h) (Or.inl ⟨by rfl, ?_⟩) (by assumption) ?_
      rotate_left
      · intro w hSw
        (try dsimp only at hSw)
        have y0 := hSw.1
        have y1 := hSw.2
        go_simp
        all_goals (with_reducible rfl)
      try simp only [Act.put, List.setIfInBounds_toArray, List.set_cons_zero, List.set_cons_succ]
      refine wpAnyH_take (i := 4) (oi := ⟨some 98, _, _, _, _, _⟩) (v := ?_) rfl (by kernel_rfl) (by kernel_rfl) (by kernel_rfl) (fun _ _ _ h => h) (Or.inl ⟨by rfl, ?_⟩) (by assumption) ?_
      rotate_left
      · intro w hSw
        (try dsimp only at hSw)
        go_simp
        all_goals (with_reducible rfl)
      try simp only [Act.put, List.setIfInBounds_toArray, List.set_cons_zero, List.set_cons_succ]
      refine wpAnyH_take (i := 5) (oi := ⟨some 99, _, _, _, _, _⟩) (v := ?_) rfl (by kernel_rfl) (by kernel_rfl) (by kernel_rfl) (fun _ _ _ h => h) (Or.inl ⟨by rfl, ?_⟩) (by assumption) ?_
      rotate_left
      · intro w hSw
        (try dsimp only at hSw)
        go_simp
        all_goals (with_reducible rfl)
      try simp only [Act.put, List.setIfInBounds_toArray, List.set_cons_zero, List.set_cons_succ]
      refine wpAnyH_take (i := 6) (oi := ⟨some 100, _, _, _, _, _⟩) (v := ?_) rfl (by kernel_rfl) (by kernel_rfl) (by kernel_rfl) (fun _ _ _ h => h) (Or.inl ⟨by rfl, ?_⟩) (by assumption) ?_
      rotate_left
      · intro w hSw
        (try dsimp only at hSw)
        go_simp
        all_goals (with_reducible rfl)
      try simp only [Act.put, List.setIfInBounds_toArray, List.set_cons_zero, List.set_cons_succ]
      refine wpAnyH_take (i := 7) (oi := ⟨some 101, _, _, _, _, _⟩) (v := ?_) rfl (by kernel_rfl) (by kernel_rfl) (by kernel_rfl) (fun _ _ _ h => h) (Or.inl ⟨by rfl, ?_⟩) (by assumption) ?_
      rotate_left
      · intro w hSw
        (try dsimp only at hSw)
        have y0 := hSw.1
        have y1 := hSw.2
        go_simp
        all_goals (with_reducible rfl)
      try simp only [Act.put, List.setIfInBounds_toArray, List.set_cons_zero, List.set_cons_succ]
      refine wpAnyH_ready (rs := [8]) (by kernel_rfl) (by simp) ?_
      refine AllReadyH.cons (o := ⟨none, _, _, _, _, _⟩) rfl (fun K hK => ?_) AllReadyH.nil
      obtain ⟨w7, hr7, hV7, hO7, hz7⟩ := put_VM hV6 key _ val ho2' hS2
      have hz1 : w7.cell? ⟨g5, 1, none⟩ = some (.slice a2 vn k2) := by
          have := hO7.block g5 hg6 hgm
          rw [← z1]
          simp [World.cell?, this]
      go_simp
      refine hK.out _ _ (⟨(HW6.out.only hO7 (fun e : s = mb => (hV4.cells hW4 (by decide)).1 e.symm)).cell 4, hz1⟩) (fun _ => ?_)
      clear hK K
      try simp only [Act.put]
      refine wpAnyH_done (by kernel_rfl) ?_ _
      refine NoPanic.normal ?_
      go_wp2
      go_roundw
      case rel =>
        refine ⟨k + 1, key, putM M' key (.slice a2 vn k2) val, by omega, by go_num, rfl, fun p hp => ?_, hV7, fun i => ?_, ?_, ((hO.trans (Only.of_below hbb fun i => i = mb)).trans hO7).weak fun i _ e => by rcases e with (e | e) | e <;> exact e⟩
        · exact HNE.out p hp
        · rw [get_putM, HNX.out]
          unfold setP
          by_cases hi : i = key
          · rw [if_pos hi, if_pos hi]
          · rw [if_neg hi, if_neg hi, HF.out i]
        · exact Nat.le_trans (putM_len _ _ _ _) (Nat.succ_le_succ HM.out)
      case measure => simp [intOf]; omega
    · obtain rfl : k = N := by omega
      rw [List.take_of_length_le (Nat.le_of_eq HN.out)] at hF
      have HF := Lib.hid hF
      have HM := Lib.hid hM
      clear hF hM hlast
      go_wp2
      go_ret
      refine ⟨rfl, M', hW4.only hO (fun e : s = mb => (hV4.cells hW4 (by decide)).1 e.symm), hV, HF.out, HM.out, (ho04.trans hO).weak fun i _ e => ?_⟩
      rcases e with (e | e) | e
      · exact e
      · exact .inl e
      · exact .inr e

end Go.Proofs.YtmmlpbepaefamaaGreatDoor
