/- (*Book).Revoke: what it answers, and what it leaves. -/
import Derived.Test.YtglcingpolpkdaaADelM
import Derived.Test.YtglcingpolpkdaaAThereX3
namespace Go.Proofs.Ytglcingpolpkdaa
open Go.RowKit

theorem revoke_mem {W wd w7 : World} {b m R t mi : Nat} {nv rv mv v7 : Value} {names : List ByteArray} {l : List (ByteArray × Value)} {rules rules' : List Rl} {ms : List (ByteArray × ByteArray)} {rc : List Value} (hB : BookAt W wd b m nv names l) (hT : TenOwn W wd t rv mv mi rules ms) (hR : Whole wd R 29 rc) (hRt : R ≠ t)
    (hRv : rv.ownBlock ≠ some R) (hO : OwnR w7 W.heap.size v7 rules') (hG : Only wd w7 fun i => rv.ownBlock = some i) :
    w7.cell? ⟨t, 0, none⟩ = some rv ∧ w7.frozen? ⟨t, 0, none⟩ = false ∧ Whole w7 R 29 rc ∧ Whole (w7.setCell ⟨t, 0, none⟩ v7) R 29 rc ∧ BookAt W (w7.setCell ⟨t, 0, none⟩ v7) b m nv names l ∧ TenOwn W (w7.setCell ⟨t, 0, none⟩ v7) t v7 mv mi rules' ms ∧ Only wd (w7.setCell ⟨t, 0, none⟩ v7) (fun i => i = t ∨ rv.ownBlock = some i) := by
  have o1 := hG
  have o2 := Only.set w7 ⟨t, 0, none⟩ v7
  have tv : rv.ownBlock ≠ some t := row_ne_whole hT.rules hT.ten (by decide)
  have t1 := hT.ten.only o1 (fun h => tv h)
  have t2 : Whole (w7.setCell ⟨t, 0, none⟩ v7) t 101 [v7, mv, .map (some mi)] := t1.put 0 v7
  have r1 := hR.only o1 (fun h => hRv h)
  have r2 := r1.only o2 (fun h => hRt h)
  have oA := o1.trans o2
  obtain ⟨em, cm, hm, _⟩ := hB.all
  obtain ⟨ei, ci, hi, _⟩ := hT.isIn
  have bne : b ≠ t := fun e => by
    subst e
    have h1 := hB.book
    have h2 := hT.ten
    unfold Whole at h1 h2
    rw [h1] at h2
    injection h2 with h2
    injection h2 with _ h2 _
    exact absurd h2 (by decide)
  have hTm := whole_ne_map hT.ten hm
  have hTi := whole_ne_map hT.ten hi
  have hoff : ∀ g, (rv.ownBlock = some g ∨ g = t) → W.heap.size ≤ g := fun g h => by
    rcases h with h | rfl
    · exact own_ge hT.rules h
    · exact hT.get
  have nt : ∀ g, nv.ownBlock = some g → ¬ (rv.ownBlock = some g ∨ g = t) := fun g hg h => by
    obtain ⟨c1, h1⟩ := row_type hB.names hg
    rcases h with h | rfl
    · obtain ⟨c2, h2⟩ := row_type hT.rules h
      rw [h1] at h2
      injection h2 with h2
      injection h2 with _ h2 _
      exact absurd h2 (by decide)
    · exact row_ne_whole hB.names hT.ten (by decide) hg
  have nm : ∀ g, mv.ownBlock = some g → ¬ (rv.ownBlock = some g ∨ g = t) := fun g hg h => by
    obtain ⟨c1, h1⟩ := row_type hT.mems hg
    rcases h with h | rfl
    · obtain ⟨c2, h2⟩ := row_type hT.rules h
      rw [h1] at h2
      injection h2 with h2
      injection h2 with _ h2 _
      exact absurd h2 (by decide)
    · exact row_ne_whole hT.mems hT.ten (by decide) hg
  have v7t : ∀ g, v7.ownBlock = some g → ¬ g = t := fun g hg e => by
    subst e
    exact row_ne_whole hO t1 (by decide) hg
  refine ⟨t1.cell 0, t1.free 0, r1, r2, ⟨hB.book.only oA (fun h => ?_), row_only hB.names oA nt, hB.all.only oA (fun h => ?_), hB.geb, hB.gem, hB.below.trans (oA.below hB.below.size fun i _ h => hoff i h)⟩, ⟨t2, row_only hO o2 v7t, row_only hT.mems oA nm, hT.isIn.only oA (fun h => ?_), hT.get, hT.gei⟩, oA.weak fun i _ h => h.symm⟩
  · rcases h with h | h
    · exact row_ne_whole hT.rules hB.book (by decide) h
    · exact bne h
  · rcases h with h | h
    · exact row_ne_map hT.rules hm h
    · exact hTm h.symm
  · rcases h with h | h
    · exact row_ne_map hT.rules hi h
    · exact hTi h.symm

set_option maxRecDepth 100000 in
set_option maxHeartbeats 4000000 in
theorem revoke_bad (W w : World) (b m : Nat) (nv : Value) (names : List ByteArray) (l : List (ByteArray × Value)) (name who key : ByteArray) (what : Int) (deny : Bool) (hB : BookAt W w b m nv names l) (hmay : mayB ⟨who, what, key, deny⟩ = false) (hsz : key.size ≤ 9223372036854775807) :
    Calls Try.prog 21 #[.pointer (some ⟨b, 0, none⟩), .string name, .agg #[.string who, .int .i64 what, .string key, .bool deny]] w fun e w' => e = .returned (.int .i64 2) ∧ Below w.heap.size w w' := by
  have hBA : Below w.heap.size w (w.alloc (.cells #[.string who, .int .i64 what, .string key, .bool deny] 29)) := (Below.refl _ _).alloc (Nat.le_refl _) _
  have hR := Whole.new w 29 #[.string who, .int .i64 what, .string key, .bool deny]
  have hB0 := hB.on hBA
  have r0 := hR.cell 0
  have r1 := hR.cell 1
  have r2 := hR.cell 2
  have r3 := hR.cell 3
  have c1 := hB0.book.cell 1
  have hz : ∀ w : World, (zeroValue 97).run Try.prog w = .ok (.pointer none) w := fun w => by kernel_rfl
  have hlk := look_S Try.underlying44 Try.underlying9 hB0.all name (hz _)
  generalize (findS l name).getD (.pointer none) = v at hlk
  have mk := made_calls (w.alloc (.cells #[.string who, .int .i64 what, .string key, .bool deny] 29)) b m c1
  have MC := Lib.hid (hmay ▸ may_calls (w.alloc (.cells #[.string who, .int .i64 what, .string key, .bool deny] 29)) who key what deny hsz)
  clear hz hR hB0 hB
  go_enter Try.func21, Try.ntmps21
  go_wp2_with (first
    | (refine wpList_box_cells (by rfl) 29 _ (by rfl) #[.string who, .int .i64 what, .string key, .bool deny] (by rfl) ?_)
    | (go_at_call 42; refine mk.mono ?_; rintro e w' ⟨rfl, hw⟩; rw [hw]; clear hw)
    | (go_at_call 44; refine MC.out.mono ?_; rintro e w1 ⟨rfl, hB1⟩))
  go_ret
  exact ⟨rfl, hBA.trans (hB1.mono hBA.size)⟩

set_option maxRecDepth 100000 in
set_option maxHeartbeats 4000000 in
theorem revoke_missing (W w : World) (b m : Nat) (nv : Value) (names : List ByteArray) (l : List (ByteArray × Value)) (name who key : ByteArray) (what : Int) (deny : Bool) (hB : BookAt W w b m nv names l) (hl : findS l name = none) (hmay : mayB ⟨who, what, key, deny⟩ = true) (hsz : key.size ≤ 9223372036854775807) :
    Calls Try.prog 21 #[.pointer (some ⟨b, 0, none⟩), .string name, .agg #[.string who, .int .i64 what, .string key, .bool deny]] w fun e w' => e = .returned (.int .i64 6) ∧ Below w.heap.size w w' := by
  have hBA : Below w.heap.size w (w.alloc (.cells #[.string who, .int .i64 what, .string key, .bool deny] 29)) := (Below.refl _ _).alloc (Nat.le_refl _) _
  have hR := Whole.new w 29 #[.string who, .int .i64 what, .string key, .bool deny]
  have hB0 := hB.on hBA
  have r0 := hR.cell 0
  have r1 := hR.cell 1
  have r2 := hR.cell 2
  have r3 := hR.cell 3
  have c1 := hB0.book.cell 1
  have hz : ∀ w : World, (zeroValue 97).run Try.prog w = .ok (.pointer none) w := fun w => by kernel_rfl
  have hlk := look_S Try.underlying44 Try.underlying9 hB0.all name (hz _)
  rw [hl] at hlk
  have mk := made_calls (w.alloc (.cells #[.string who, .int .i64 what, .string key, .bool deny] 29)) b m c1
  have MC := Lib.hid (hmay ▸ may_calls (w.alloc (.cells #[.string who, .int .i64 what, .string key, .bool deny] 29)) who key what deny hsz)
  clear hz hR hB0 hB hl
  go_enter Try.func21, Try.ntmps21
  go_wp2_with (first
    | (refine wpList_box_cells (by rfl) 29 _ (by rfl) #[.string who, .int .i64 what, .string key, .bool deny] (by rfl) ?_)
    | (go_at_call 42; refine mk.mono ?_; rintro e w' ⟨rfl, hw⟩; rw [hw]; clear hw)
    | (go_at_call 44; refine MC.out.mono ?_; rintro e w1 ⟨rfl, hB1⟩))
  refine wp_region_noPanic ?_
  refine wp_region_held_drew (S := fun _ => True) (by kernel_rfl) trivial (fun hhS => ?_)
  refine wpAnyH_take (i := 0) (oi := ⟨some 21, _, _, _, _, _⟩) (v := ?_) rfl (by kernel_rfl) (by kernel_rfl) (by kernel_rfl) (fun _ _ _ h => h) (Or.inl ⟨by rfl, ?_⟩) (by assumption) ?_
  rotate_left
  · intro w hSw
    (try dsimp only at hSw)
    go_simp
    all_goals (with_reducible rfl)
  try simp only [Act.put, List.setIfInBounds_toArray, List.set_cons_zero, List.set_cons_succ]
  refine wpAnyH_take (i := 1) (oi := ⟨some 22, _, _, _, _, _⟩) (v := ?_) rfl (by kernel_rfl) (by kernel_rfl) (by kernel_rfl) (fun _ _ _ h => h) (Or.inl ⟨by rfl, ?_⟩) (by assumption) ?_
  rotate_left
  · intro w hSw
    (try dsimp only at hSw)
    go_simp
    all_goals (with_reducible rfl)
  try simp only [Act.put, List.setIfInBounds_toArray, List.set_cons_zero, List.set_cons_succ]
  refine wpAnyH_take (i := 2) (oi := ⟨some 23, _, _, _, _, _⟩) (v := ?_) rfl (by kernel_rfl) (by kernel_rfl) (by kernel_rfl) (fun _ _ _ h => h) (Or.inl ⟨by rfl, ?_⟩) (by assumption) ?_
  rotate_left
  · intro w hSw
    (try dsimp only at hSw)
    go_simp
    all_goals (with_reducible rfl)
  try simp only [Act.put, List.setIfInBounds_toArray, List.set_cons_zero, List.set_cons_succ]
  refine wpAnyH_take (i := 3) (oi := ⟨some 24, _, _, _, _, _⟩) (v := undef) rfl (by kernel_rfl) (by kernel_rfl) (by kernel_rfl) (fun _ _ _ h => h) (Or.inr ⟨by rfl, rfl⟩) (by assumption) ?_
  try simp only [Act.put, List.setIfInBounds_toArray, List.set_cons_zero, List.set_cons_succ]
  refine wpAnyH_take (i := 4) (oi := ⟨some 25, _, _, _, _, _⟩) (v := undef) rfl (by kernel_rfl) (by kernel_rfl) (by kernel_rfl) (fun _ _ _ h => h) (Or.inr ⟨by rfl, rfl⟩) (by assumption) ?_
  try simp only [Act.put, List.setIfInBounds_toArray, List.set_cons_zero, List.set_cons_succ]
  refine wpAnyH_take (i := 5) (oi := ⟨some 26, _, _, _, _, _⟩) (v := undef) rfl (by kernel_rfl) (by kernel_rfl) (by kernel_rfl) (fun _ _ _ h => h) (Or.inr ⟨by rfl, rfl⟩) (by assumption) ?_
  try simp only [Act.put, List.setIfInBounds_toArray, List.set_cons_zero, List.set_cons_succ]
  refine wpAnyH_take (i := 6) (oi := ⟨some 27, _, _, _, _, _⟩) (v := undef) rfl (by kernel_rfl) (by kernel_rfl) (by kernel_rfl) (fun _ _ _ h => h) (Or.inr ⟨by rfl, rfl⟩) (by assumption) ?_
  try simp only [Act.put, List.setIfInBounds_toArray, List.set_cons_zero, List.set_cons_succ]
  refine wpAnyH_take (i := 7) (oi := ⟨some 28, _, _, _, _, _⟩) (v := undef) rfl (by kernel_rfl) (by kernel_rfl) (by kernel_rfl) (fun _ _ _ h => h) (Or.inr ⟨by rfl, rfl⟩) (by assumption) ?_
  try simp only [Act.put, List.setIfInBounds_toArray, List.set_cons_zero, List.set_cons_succ]
  refine wpAnyH_take (i := 8) (oi := ⟨some 29, _, _, _, _, _⟩) (v := undef) rfl (by kernel_rfl) (by kernel_rfl) (by kernel_rfl) (fun _ _ _ h => h) (Or.inr ⟨by rfl, rfl⟩) (by assumption) ?_
  try simp only [Act.put, List.setIfInBounds_toArray, List.set_cons_zero, List.set_cons_succ]
  refine wpAnyH_take (i := 9) (oi := ⟨some 30, _, _, _, _, _⟩) (v := undef) rfl (by kernel_rfl) (by kernel_rfl) (by kernel_rfl) (fun _ _ _ h => h) (Or.inr ⟨by rfl, rfl⟩) (by assumption) ?_
  try simp only [Act.put, List.setIfInBounds_toArray, List.set_cons_zero, List.set_cons_succ]
  refine wpAnyH_take (i := 10) (oi := ⟨some 31, _, _, _, _, _⟩) (v := ?_) rfl (by kernel_rfl) (by kernel_rfl) (by kernel_rfl) (fun _ _ _ h => h) (Or.inl ⟨by rfl, ?_⟩) (by assumption) ?_
  rotate_left
  · intro w hSw
    (try dsimp only at hSw)
    go_simp
    all_goals (with_reducible rfl)
  try simp only [Act.put, List.setIfInBounds_toArray, List.set_cons_zero, List.set_cons_succ]
  refine wpAnyH_take (i := 11) (oi := ⟨some 20, _, _, _, _, _⟩) (v := ?_) rfl (by kernel_rfl) (by kernel_rfl) (by kernel_rfl) (fun _ _ _ h => h) (Or.inl ⟨by rfl, ?_⟩) (by assumption) ?_
  rotate_left
  · intro w hSw
    (try dsimp only at hSw)
    go_simp
    all_goals (with_reducible rfl)
  try simp only [Act.put, List.setIfInBounds_toArray, List.set_cons_zero, List.set_cons_succ]
  refine wpAnyH_done (by kernel_rfl) ?_ _
  refine NoPanic.normal ?_
  go_wp2
  go_ret
  exact ⟨rfl, (hBA.trans (hB1.mono hBA.size)).drew⟩

set_option maxRecDepth 100000 in
set_option maxHeartbeats 4000000 in
theorem revoke_not (W w : World) (b m t mi : Nat) (nv rv mv : Value) (names : List ByteArray) (l : List (ByteArray × Value)) (name : ByteArray) (rules : List Rl) (ms : List (ByteArray × ByteArray)) (who key : ByteArray) (what : Int) (deny : Bool) (hB : BookAt W w b m nv names l) (hT : TenOwn W w t rv mv mi rules ms) (hl : findS l name = some (.pointer (some ⟨t, 0, none⟩))) (hmay : mayB ⟨who, what, key, deny⟩ = true) (hnew : hasR rules ⟨who, what, key, deny⟩ = false) (hlen : rules.length ≤ 1000) (hsz : key.size ≤ 9223372036854775807) :
    Calls Try.prog 21 #[.pointer (some ⟨b, 0, none⟩), .string name, .agg #[.string who, .int .i64 what, .string key, .bool deny]] w fun e w' => e = .returned (.int .i64 6) ∧ Below w.heap.size w w' := by
  have hBA : Below w.heap.size w (w.alloc (.cells #[.string who, .int .i64 what, .string key, .bool deny] 29)) := (Below.refl _ _).alloc (Nat.le_refl _) _
  have hR := Whole.new w 29 #[.string who, .int .i64 what, .string key, .bool deny]
  have hB0 := hB.on hBA
  have hT0 := hT.on hBA
  obtain ⟨R, hReq⟩ : ∃ R, w.heap.size = R := ⟨_, rfl⟩
  have hRt : R ≠ t := by
    have := hT.ten.lt
    omega
  have hRv : rv.ownBlock ≠ some R := fun h => by
    obtain ⟨cur, hc⟩ := row_type hT.rules h
    have := (Array.getElem?_eq_some_iff.1 hc).1
    omega
  have hG0 : GK W (w.alloc (.cells #[.string who, .int .i64 what, .string key, .bool deny] 29)) b m R t mi nv rv mv names l rules ms who key what deny := ⟨hB0, hT0, hReq ▸ hR⟩
  obtain ⟨t0, r0, r1, r2, r3⟩ := hG0.facts
  have c1 := hB0.book.cell 1
  have hz : ∀ w : World, (zeroValue 97).run Try.prog w = .ok (.pointer none) w := fun w => by kernel_rfl
  have hlk := look_S Try.underlying44 Try.underlying9 hB0.all name (hz _)
  rw [hl] at hlk
  have mk := made_calls (w.alloc (.cells #[.string who, .int .i64 what, .string key, .bool deny] 29)) b m c1
  have MC := Lib.hid (hmay ▸ may_calls (w.alloc (.cells #[.string who, .int .i64 what, .string key, .bool deny] 29)) who key what deny hsz)
  have CR := Lib.hid (fun (wx : World) (h : OwnR wx W.heap.size rv rules) => hnew ▸ contains_rule wx W.heap.size rv rules who key what deny h (by omega))
  obtain ⟨xr, kr, yr, hrv⟩ := slice_any hT.rules
  subst hrv
  have HG := Lib.hid hG0
  have HRT := Lib.hid (And.intro hRt hRv)
  have HLEN := Lib.hid hlen
  clear hz hR hB0 hT0 hG0 hB hT hl hmay hnew hRt hRv hlen
  go_enter Try.func21, Try.ntmps21
  go_wp2_with (first
    | (refine wpList_box_cells (by rfl) 29 _ (by rfl) #[.string who, .int .i64 what, .string key, .bool deny] (by rfl) ?_; rw [hReq])
    | (go_at_call 42; refine mk.mono ?_; rintro e w' ⟨rfl, hw⟩; rw [hw]; clear hw)
    | (go_at_call 44; refine MC.out.mono ?_; rintro e w1 ⟨rfl, hB1⟩))
  have hG := HG.out.on hB1
  have hOld1 : Below w.heap.size w w1 := hBA.trans (hB1.mono hBA.size)
  refine wp_region_noPanic ?_
  refine wp_region_held_drew (S := fun w' => GK W w' b m R t mi nv (.slice xr kr yr) mv names l rules ms who key what deny) (by kernel_rfl) (hG.on ((Below.refl _ _).drew)) (fun hhS => ?_)
  refine wpAnyH_take (i := 0) (oi := ⟨some 21, _, _, _, _, _⟩) (v := ?_) rfl (by kernel_rfl) (by kernel_rfl) (by kernel_rfl) (fun _ _ _ h => h) (Or.inl ⟨by rfl, ?_⟩) (by assumption) ?_
  rotate_left
  · intro w hSw
    (try dsimp only at hSw)
    go_simp
    all_goals (with_reducible rfl)
  try simp only [Act.put, List.setIfInBounds_toArray, List.set_cons_zero, List.set_cons_succ]
  refine wpAnyH_take (i := 1) (oi := ⟨some 22, _, _, _, _, _⟩) (v := ?_) rfl (by kernel_rfl) (by kernel_rfl) (by kernel_rfl) (fun _ _ _ h => h) (Or.inl ⟨by rfl, ?_⟩) (by assumption) ?_
  rotate_left
  · intro w hSw
    (try dsimp only at hSw)
    go_simp
    all_goals (with_reducible rfl)
  try simp only [Act.put, List.setIfInBounds_toArray, List.set_cons_zero, List.set_cons_succ]
  refine wpAnyH_take (i := 2) (oi := ⟨some 23, _, _, _, _, _⟩) (v := ?_) rfl (by kernel_rfl) (by kernel_rfl) (by kernel_rfl) (fun _ _ _ h => h) (Or.inl ⟨by rfl, ?_⟩) (by assumption) ?_
  rotate_left
  · intro w hSw
    (try dsimp only at hSw)
    go_simp
    all_goals (with_reducible rfl)
  try simp only [Act.put, List.setIfInBounds_toArray, List.set_cons_zero, List.set_cons_succ]
  refine wpAnyH_take (i := 3) (oi := ⟨some 24, _, _, _, _, _⟩) (v := ?_) rfl (by kernel_rfl) (by kernel_rfl) (by kernel_rfl) (fun _ _ _ h => h) (Or.inl ⟨by rfl, ?_⟩) (by assumption) ?_
  rotate_left
  · intro w hSw
    (try dsimp only at hSw)
    go_simp
    all_goals (with_reducible rfl)
  try simp only [Act.put, List.setIfInBounds_toArray, List.set_cons_zero, List.set_cons_succ]
  refine wpAnyH_take (i := 4) (oi := ⟨some 25, _, _, _, _, _⟩) (v := ?_) rfl (by kernel_rfl) (by kernel_rfl) (by kernel_rfl) (fun _ _ _ h => h) (Or.inl ⟨by rfl, ?_⟩) (by assumption) ?_
  rotate_left
  · intro w hSw
    (try dsimp only at hSw)
    go_simp
    all_goals (with_reducible rfl)
  try simp only [Act.put, List.setIfInBounds_toArray, List.set_cons_zero, List.set_cons_succ]
  refine wpAnyH_take (i := 5) (oi := ⟨some 26, _, _, _, _, _⟩) (v := ?_) rfl (by kernel_rfl) (by kernel_rfl) (by kernel_rfl) (fun _ _ _ h => h) (Or.inl ⟨by rfl, ?_⟩) (by assumption) ?_
  rotate_left
  · intro w hSw
    (try dsimp only at hSw)
    go_simp
    all_goals (with_reducible rfl)
  try simp only [Act.put, List.setIfInBounds_toArray, List.set_cons_zero, List.set_cons_succ]
  refine wpAnyH_take (i := 6) (oi := ⟨some 27, _, _, _, _, _⟩) (v := ?_) rfl (by kernel_rfl) (by kernel_rfl) (by kernel_rfl) (fun _ _ _ h => h) (Or.inl ⟨by rfl, ?_⟩) (by assumption) ?_
  rotate_left
  · intro w hSw
    (try dsimp only at hSw)
    obtain ⟨t0, x0, x1, x2, x3⟩ := hSw.facts
    go_simp
    all_goals (with_reducible rfl)
  try simp only [Act.put, List.setIfInBounds_toArray, List.set_cons_zero, List.set_cons_succ]
  refine wpAnyH_take (i := 7) (oi := ⟨some 28, _, _, _, _, _⟩) (v := ?_) rfl (by kernel_rfl) (by kernel_rfl) (by kernel_rfl) (fun _ _ _ h => h) (Or.inl ⟨by rfl, ?_⟩) (by assumption) ?_
  rotate_left
  · intro w hSw
    (try dsimp only at hSw)
    obtain ⟨t0, x0, x1, x2, x3⟩ := hSw.facts
    go_simp
    all_goals (with_reducible rfl)
  try simp only [Act.put, List.setIfInBounds_toArray, List.set_cons_zero, List.set_cons_succ]
  refine wpAnyH_ready (rs := [8]) (by kernel_rfl) (by simp) ?_
  refine AllReadyH.cons (o := ⟨some 29, _, _, _, _, _⟩) rfl (fun K hK => ?_) AllReadyH.nil
  go_simp
  refine (CR.out _ hhS.ten.rules).mono ?_
  rintro e w5 ⟨rfl, hB5⟩
  refine hK.out _ _ (hhS.on hB5) (fun hh5 => ?_)
  clear hK K
  try simp only [Act.put, List.setIfInBounds_toArray, List.set_cons_zero, List.set_cons_succ]
  refine wpAnyH_take (i := 9) (oi := ⟨some 30, _, _, _, _, _⟩) (v := ?_) rfl (by kernel_rfl) (by kernel_rfl) (by kernel_rfl) (fun _ _ _ h => h) (Or.inl ⟨by rfl, ?_⟩) (by assumption) ?_
  rotate_left
  · intro w hSw
    (try dsimp only at hSw)
    go_simp
    all_goals (with_reducible rfl)
  try simp only [Act.put, List.setIfInBounds_toArray, List.set_cons_zero, List.set_cons_succ]
  refine wpAnyH_take (i := 10) (oi := ⟨some 31, _, _, _, _, _⟩) (v := ?_) rfl (by kernel_rfl) (by kernel_rfl) (by kernel_rfl) (fun _ _ _ h => h) (Or.inl ⟨by rfl, ?_⟩) (by assumption) ?_
  rotate_left
  · intro w hSw
    (try dsimp only at hSw)
    go_simp
    all_goals (with_reducible rfl)
  try simp only [Act.put, List.setIfInBounds_toArray, List.set_cons_zero, List.set_cons_succ]
  refine wpAnyH_take (i := 11) (oi := ⟨some 20, _, _, _, _, _⟩) (v := ?_) rfl (by kernel_rfl) (by kernel_rfl) (by kernel_rfl) (fun _ _ _ h => h) (Or.inl ⟨by rfl, ?_⟩) (by assumption) ?_
  rotate_left
  · intro w hSw
    (try dsimp only at hSw)
    go_simp
    all_goals (with_reducible rfl)
  try simp only [Act.put, List.setIfInBounds_toArray, List.set_cons_zero, List.set_cons_succ]
  refine wpAnyH_done (by kernel_rfl) ?_ _
  refine NoPanic.normal ?_
  have hOld := hOld1.trans ((((Below.refl w1.heap.size w1).drew).trans hB5).mono hOld1.size)
  go_wp2
  go_ret
  exact ⟨rfl, hOld⟩

set_option maxRecDepth 100000 in
set_option maxHeartbeats 4000000 in
theorem revoke_new (W w : World) (b m t mi : Nat) (nv rv mv : Value) (names : List ByteArray) (l : List (ByteArray × Value)) (name : ByteArray) (rules : List Rl) (ms : List (ByteArray × ByteArray)) (who key : ByteArray) (what : Int) (deny : Bool) (hB : BookAt W w b m nv names l) (hT : TenOwn W w t rv mv mi rules ms) (hl : findS l name = some (.pointer (some ⟨t, 0, none⟩))) (hmay : mayB ⟨who, what, key, deny⟩ = true) (hnew : hasR rules ⟨who, what, key, deny⟩ = true) (hlen : rules.length ≤ 1000) (hsz : key.size ≤ 9223372036854775807) :
    Calls Try.prog 21 #[.pointer (some ⟨b, 0, none⟩), .string name, .agg #[.string who, .int .i64 what, .string key, .bool deny]] w fun e w' => e = .returned (.int .i64 0) ∧ BookAt W w' b m nv names l ∧ (∃ rv', TenOwn W w' t rv' mv mi (rules.filter fun x => !eqR x ⟨who, what, key, deny⟩) ms ∧ rv'.ownBlock = rv.ownBlock) ∧ Only w w' (fun i => i = t ∨ rv.ownBlock = some i) := by
  have hBA : Below w.heap.size w (w.alloc (.cells #[.string who, .int .i64 what, .string key, .bool deny] 29)) := (Below.refl _ _).alloc (Nat.le_refl _) _
  have hR := Whole.new w 29 #[.string who, .int .i64 what, .string key, .bool deny]
  have hB0 := hB.on hBA
  have hT0 := hT.on hBA
  obtain ⟨R, hReq⟩ : ∃ R, w.heap.size = R := ⟨_, rfl⟩
  have hRt : R ≠ t := by
    have := hT.ten.lt
    omega
  have hRv : rv.ownBlock ≠ some R := fun h => by
    obtain ⟨cur, hc⟩ := row_type hT.rules h
    have := (Array.getElem?_eq_some_iff.1 hc).1
    omega
  have hG0 : GK W (w.alloc (.cells #[.string who, .int .i64 what, .string key, .bool deny] 29)) b m R t mi nv rv mv names l rules ms who key what deny := ⟨hB0, hT0, hReq ▸ hR⟩
  obtain ⟨t0, r0, r1, r2, r3⟩ := hG0.facts
  have c1 := hB0.book.cell 1
  have hz : ∀ w : World, (zeroValue 97).run Try.prog w = .ok (.pointer none) w := fun w => by kernel_rfl
  have hlk := look_S Try.underlying44 Try.underlying9 hB0.all name (hz _)
  rw [hl] at hlk
  have mk := made_calls (w.alloc (.cells #[.string who, .int .i64 what, .string key, .bool deny] 29)) b m c1
  have MC := Lib.hid (hmay ▸ may_calls (w.alloc (.cells #[.string who, .int .i64 what, .string key, .bool deny] 29)) who key what deny hsz)
  have CR := Lib.hid (fun (wx : World) (h : OwnR wx W.heap.size rv rules) => hnew ▸ contains_rule wx W.heap.size rv rules who key what deny h (by omega))
  have hin : ∃ x ∈ rules, eqR x ⟨who, what, key, deny⟩ = true := ⟨_, hasR_iff.1 hnew, eqR_iff.2 rfl⟩
  obtain ⟨g, hgo⟩ : ∃ g, rv.ownBlock = some g := by
    rcases row_shape hT.rules with ⟨_, hn⟩ | ⟨g, cap, hv, _⟩
    · obtain ⟨x, hx, _⟩ := hin
      rw [List.eq_nil_of_length_eq_zero hn] at hx
      cases hx
    · exact ⟨g, by rw [hv]; rfl⟩
  have hgR : g ≠ R := fun e => hRv (e ▸ hgo)
  have HIN := Lib.hid (And.intro hin hgR)
  clear hin hgR
  obtain ⟨xr, kr, yr, hrv⟩ := slice_any hT.rules
  subst hrv
  have HG := Lib.hid hG0
  have HRT := Lib.hid (And.intro hRt hRv)
  have HLEN := Lib.hid hlen
  clear hz hR hB0 hT0 hG0 hB hT hl hmay hnew hRt hRv hlen
  go_enter Try.func21, Try.ntmps21
  go_wp2_with (first
    | (refine wpList_box_cells (by rfl) 29 _ (by rfl) #[.string who, .int .i64 what, .string key, .bool deny] (by rfl) ?_; rw [hReq])
    | (go_at_call 42; refine mk.mono ?_; rintro e w' ⟨rfl, hw⟩; rw [hw]; clear hw)
    | (go_at_call 44; refine MC.out.mono ?_; rintro e w1 ⟨rfl, hB1⟩))
  have hG := HG.out.on hB1
  have hOld1 : Below w.heap.size w w1 := hBA.trans (hB1.mono hBA.size)
  refine wp_region_noPanic ?_
  refine wp_region_held_drew (S := fun w' => GK W w' b m R t mi nv (.slice xr kr yr) mv names l rules ms who key what deny) (by kernel_rfl) (hG.on ((Below.refl _ _).drew)) (fun hhS => ?_)
  refine wpAnyH_take (i := 0) (oi := ⟨some 21, _, _, _, _, _⟩) (v := ?_) rfl (by kernel_rfl) (by kernel_rfl) (by kernel_rfl) (fun _ _ _ h => h) (Or.inl ⟨by rfl, ?_⟩) (by assumption) ?_
  rotate_left
  · intro w hSw
    (try dsimp only at hSw)
    go_simp
    all_goals (with_reducible rfl)
  try simp only [Act.put, List.setIfInBounds_toArray, List.set_cons_zero, List.set_cons_succ]
  refine wpAnyH_take (i := 1) (oi := ⟨some 22, _, _, _, _, _⟩) (v := ?_) rfl (by kernel_rfl) (by kernel_rfl) (by kernel_rfl) (fun _ _ _ h => h) (Or.inl ⟨by rfl, ?_⟩) (by assumption) ?_
  rotate_left
  · intro w hSw
    (try dsimp only at hSw)
    go_simp
    all_goals (with_reducible rfl)
  try simp only [Act.put, List.setIfInBounds_toArray, List.set_cons_zero, List.set_cons_succ]
  refine wpAnyH_take (i := 2) (oi := ⟨some 23, _, _, _, _, _⟩) (v := ?_) rfl (by kernel_rfl) (by kernel_rfl) (by kernel_rfl) (fun _ _ _ h => h) (Or.inl ⟨by rfl, ?_⟩) (by assumption) ?_
  rotate_left
  · intro w hSw
    (try dsimp only at hSw)
    go_simp
    all_goals (with_reducible rfl)
  try simp only [Act.put, List.setIfInBounds_toArray, List.set_cons_zero, List.set_cons_succ]
  refine wpAnyH_take (i := 3) (oi := ⟨some 24, _, _, _, _, _⟩) (v := ?_) rfl (by kernel_rfl) (by kernel_rfl) (by kernel_rfl) (fun _ _ _ h => h) (Or.inl ⟨by rfl, ?_⟩) (by assumption) ?_
  rotate_left
  · intro w hSw
    (try dsimp only at hSw)
    go_simp
    all_goals (with_reducible rfl)
  try simp only [Act.put, List.setIfInBounds_toArray, List.set_cons_zero, List.set_cons_succ]
  refine wpAnyH_take (i := 4) (oi := ⟨some 25, _, _, _, _, _⟩) (v := ?_) rfl (by kernel_rfl) (by kernel_rfl) (by kernel_rfl) (fun _ _ _ h => h) (Or.inl ⟨by rfl, ?_⟩) (by assumption) ?_
  rotate_left
  · intro w hSw
    (try dsimp only at hSw)
    go_simp
    all_goals (with_reducible rfl)
  try simp only [Act.put, List.setIfInBounds_toArray, List.set_cons_zero, List.set_cons_succ]
  refine wpAnyH_take (i := 5) (oi := ⟨some 26, _, _, _, _, _⟩) (v := ?_) rfl (by kernel_rfl) (by kernel_rfl) (by kernel_rfl) (fun _ _ _ h => h) (Or.inl ⟨by rfl, ?_⟩) (by assumption) ?_
  rotate_left
  · intro w hSw
    (try dsimp only at hSw)
    go_simp
    all_goals (with_reducible rfl)
  try simp only [Act.put, List.setIfInBounds_toArray, List.set_cons_zero, List.set_cons_succ]
  refine wpAnyH_take (i := 6) (oi := ⟨some 27, _, _, _, _, _⟩) (v := ?_) rfl (by kernel_rfl) (by kernel_rfl) (by kernel_rfl) (fun _ _ _ h => h) (Or.inl ⟨by rfl, ?_⟩) (by assumption) ?_
  rotate_left
  · intro w hSw
    (try dsimp only at hSw)
    obtain ⟨t0, x0, x1, x2, x3⟩ := hSw.facts
    go_simp
    all_goals (with_reducible rfl)
  try simp only [Act.put, List.setIfInBounds_toArray, List.set_cons_zero, List.set_cons_succ]
  refine wpAnyH_take (i := 7) (oi := ⟨some 28, _, _, _, _, _⟩) (v := ?_) rfl (by kernel_rfl) (by kernel_rfl) (by kernel_rfl) (fun _ _ _ h => h) (Or.inl ⟨by rfl, ?_⟩) (by assumption) ?_
  rotate_left
  · intro w hSw
    (try dsimp only at hSw)
    obtain ⟨t0, x0, x1, x2, x3⟩ := hSw.facts
    go_simp
    all_goals (with_reducible rfl)
  try simp only [Act.put, List.setIfInBounds_toArray, List.set_cons_zero, List.set_cons_succ]
  refine wpAnyH_ready (rs := [8]) (by kernel_rfl) (by simp) ?_
  refine AllReadyH.cons (o := ⟨some 29, _, _, _, _, _⟩) rfl (fun K hK => ?_) AllReadyH.nil
  go_simp
  refine (CR.out _ hhS.ten.rules).mono ?_
  rintro e w5 ⟨rfl, hB5⟩
  refine hK.out _ _ (hhS.on hB5) (fun hh5 => ?_)
  clear hK K
  try simp only [Act.put, List.setIfInBounds_toArray, List.set_cons_zero, List.set_cons_succ]
  refine wpAnyH_take (i := 9) (oi := ⟨some 30, _, _, _, _, _⟩) (v := ?_) rfl (by kernel_rfl) (by kernel_rfl) (by kernel_rfl) (fun _ _ _ h => h) (Or.inl ⟨by rfl, ?_⟩) (by assumption) ?_
  rotate_left
  · intro w hSw
    (try dsimp only at hSw)
    go_simp
    all_goals (with_reducible rfl)
  try simp only [Act.put, List.setIfInBounds_toArray, List.set_cons_zero, List.set_cons_succ]
  refine wpAnyH_take (i := 10) (oi := ⟨some 31, _, _, _, _, _⟩) (v := ?_) rfl (by kernel_rfl) (by kernel_rfl) (by kernel_rfl) (fun _ _ _ h => h) (Or.inl ⟨by rfl, ?_⟩) (by assumption) ?_
  rotate_left
  · intro w hSw
    (try dsimp only at hSw)
    go_simp
    all_goals (with_reducible rfl)
  try simp only [Act.put, List.setIfInBounds_toArray, List.set_cons_zero, List.set_cons_succ]
  refine wpAnyH_take (i := 11) (oi := ⟨some 20, _, _, _, _, _⟩) (v := ?_) rfl (by kernel_rfl) (by kernel_rfl) (by kernel_rfl) (fun _ _ _ h => h) (Or.inl ⟨by rfl, ?_⟩) (by assumption) ?_
  rotate_left
  · intro w hSw
    (try dsimp only at hSw)
    go_simp
    all_goals (with_reducible rfl)
  try simp only [Act.put, List.setIfInBounds_toArray, List.set_cons_zero, List.set_cons_succ]
  refine wpAnyH_done (by kernel_rfl) ?_ _
  refine NoPanic.normal ?_
  have hOld := hOld1.trans ((((Below.refl w1.heap.size w1).drew).trans hB5).mono hOld1.size)
  obtain ⟨e0, x0, x1, x2, x3⟩ := hh5.facts
  go_wp2_with (go_at_call 52; refine (deletefunc_R _ W.heap.size R g _ rules ⟨who, what, key, deny⟩ hh5.ten.rules hgo hh5.rule HIN.out.2 HLEN.out HIN.out.1).mono ?_; rintro e w7 ⟨v7, rfl, hO7, hv7, hOn7⟩; obtain ⟨x7, k7, y7, he7⟩ := slice_any hO7; subst he7; have hOn8 := hOn7.weak (T := fun i => (Value.slice xr kr yr).ownBlock = some i) (fun i _ e => by rw [e]; exact hgo); obtain ⟨f0, f1, _, _, hB8, hT8, hO8⟩ := revoke_mem hh5.book hh5.ten hh5.rule HRT.out.1 HRT.out.2 hO7 hOn8)
  go_ret
  exact ⟨rfl, hB8, ⟨_, hT8, hv7.trans hgo.symm⟩, ((Only.of_below hOld (fun _ => False)).trans hO8).weak fun i _ h => h.elim False.elim id⟩

end Go.Proofs.Ytglcingpolpkdaa
