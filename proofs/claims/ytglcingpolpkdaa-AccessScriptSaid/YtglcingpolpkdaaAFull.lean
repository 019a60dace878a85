/- Answers of full books, and what is there already, however long the lists are. -/
import Derived.Test.YtglcingpolpkdaaABookMore
namespace Go.Proofs.Ytglcingpolpkdaa
open Go.RowKit

set_option maxRecDepth 100000 in
set_option maxHeartbeats 4000000 in
theorem open_full (W w : World) (b m : Nat) (nv : Value) (names : List ByteArray) (l : List (ByteArray × Value)) (name : ByteArray)  (hB : BookAt W w b m nv names l) (hname : nameB name = true) (hn : findS l name = none) (hfull : 64 ≤ names.length) (hlen : names.length ≤ 1000) :
    Calls Try.prog 13 #[.pointer (some ⟨b, 0, none⟩), .string name] w fun e w' => e = .returned (.int .i64 8) ∧ Below w.heap.size w w' := by
  have hz : ∀ w : World, (zeroValue 97).run Try.prog w = .ok (.pointer none) w := fun w => by kernel_rfl
  have NC := Lib.hid (fun (w : World) => hname ▸ name_calls w name)
  have mk := made_calls w b m (hB.book.cell 1)
  obtain ⟨xr, kr, yr, hrv⟩ := slice_any hB.names
  have hkr : kr = names.length := by
    obtain ⟨a, c, h⟩ := slice_of_row hB.names
    rw [hrv] at h
    injection h
  subst hrv
  have i1 : (64 : Int) ≤ (kr : Int) := by omega
  clear hkr hfull hlen
  have HB := Lib.hid hB
  have HN := Lib.hid hn
  clear hB hn hname
  go_enter Try.func13, Try.ntmps13
  go_wp2_with (first
    | (go_at_call 42; refine mk.mono ?_; rintro e w' ⟨rfl, hw⟩; rw [hw]; clear hw)
    | (go_at_call 43; refine (NC.out _).mono ?_; rintro e w1 ⟨rfl, hB1⟩; have hK := HB.out.on hB1; have c0 := hK.book.cell 0; have c1 := hK.book.cell 1; have hlk := look_S Try.underlying44 Try.underlying9 hK.all name (hz w1); rw [HN.out] at hlk))
  go_ret
  exact ⟨rfl, hB1⟩

set_option maxRecDepth 100000 in
set_option maxHeartbeats 4000000 in
theorem grant_there2 (W w : World) (b m t mi : Nat) (nv rv mv : Value) (names : List ByteArray) (l : List (ByteArray × Value)) (name : ByteArray) (rules : List Rl) (ms : List (ByteArray × ByteArray)) (who key : ByteArray) (what : Int) (deny : Bool) (hB : BookAt W w b m nv names l) (hT : TenOwn W w t rv mv mi rules ms) (hl : findS l name = some (.pointer (some ⟨t, 0, none⟩))) (hmay : mayB ⟨who, what, key, deny⟩ = true) (hnew : hasR rules ⟨who, what, key, deny⟩ = true) (hlen : rules.length ≤ 1000) (hsz : key.size ≤ 9223372036854775807) :
    Calls Try.prog 14 #[.pointer (some ⟨b, 0, none⟩), .string name, .agg #[.string who, .int .i64 what, .string key, .bool deny]] w fun e w' => e = .returned (.int .i64 7) ∧ Below w.heap.size w w' := by
  have hBA : Below w.heap.size w (w.alloc (.cells #[.string who, .int .i64 what, .string key, .bool deny] 29)) := (Below.refl _ _).alloc (Nat.le_refl _) _
  have hR := Whole.new w 29 #[.string who, .int .i64 what, .string key, .bool deny]
  have hB0 := hB.on hBA
  have hT0 := hT.on hBA
  obtain ⟨R, hReq⟩ : ∃ R, w.heap.size = R := ⟨_, rfl⟩
  have hRt : R ≠ t := by
    have := hT.ten.lt
    omega
  have hRv : rv.ownBlock ≠ some R := fun h => by
    obtain ⟨cur, hc⟩ := row_type hT.rules h
    have := (Array.getElem?_eq_some_iff.1 hc).1
    omega
  have hG0 : GK W (w.alloc (.cells #[.string who, .int .i64 what, .string key, .bool deny] 29)) b m R t mi nv rv mv names l rules ms who key what deny := ⟨hB0, hT0, hReq ▸ hR⟩
  obtain ⟨t0, r0, r1, r2, r3⟩ := hG0.facts
  have c1 := hB0.book.cell 1
  have hz : (zeroValue 97).run Try.prog (w.alloc (.cells #[.string who, .int .i64 what, .string key, .bool deny] 29)) = .ok (.pointer none) (w.alloc (.cells #[.string who, .int .i64 what, .string key, .bool deny] 29)) := by kernel_rfl
  have hlk := look_S Try.underlying44 Try.underlying9 hB0.all name hz
  rw [hl] at hlk
  have mk := made_calls (w.alloc (.cells #[.string who, .int .i64 what, .string key, .bool deny] 29)) b m c1
  have MC := Lib.hid (hmay ▸ may_calls (w.alloc (.cells #[.string who, .int .i64 what, .string key, .bool deny] 29)) who key what deny hsz)
  have CR := Lib.hid (fun (wx : World) (h : OwnR wx W.heap.size rv rules) => hnew ▸ contains_rule wx W.heap.size rv rules who key what deny h (by omega))
  obtain ⟨xr, kr, yr, hrv⟩ := slice_any hT.rules
  subst hrv
  have HG := Lib.hid hG0
  have HRT := Lib.hid (And.intro hRt hRv)
  clear hz hR hB0 hT0 hG0 hB hT hl hmay hnew hRt hRv hlen
  go_enter Try.func14, Try.ntmps14
  go_wp2_with (first
    | (refine wpList_box_cells (by rfl) 29 _ (by rfl) #[.string who, .int .i64 what, .string key, .bool deny] (by rfl) ?_; rw [hReq])
    | (go_at_call 42; refine mk.mono ?_; rintro e w' ⟨rfl, hw⟩; rw [hw]; clear hw)
    | (go_at_call 44; refine MC.out.mono ?_; rintro e w1 ⟨rfl, hB1⟩))
  have hG := HG.out.on hB1
  have hOld1 : Below w.heap.size w w1 := hBA.trans (hB1.mono hBA.size)
  refine wp_region_noPanic ?_
  refine wp_region_held_drew (S := fun w' => GK W w' b m R t mi nv (.slice xr kr yr) mv names l rules ms who key what deny) (by kernel_rfl) (hG.on ((Below.refl _ _).drew)) (fun hhS => ?_)
  refine wpAnyH_take (i := 0) (oi := ⟨some 24, _, _, _, _, _⟩) (v := ?_) rfl (by kernel_rfl) (by kernel_rfl) (by kernel_rfl) (fun _ _ _ h => h) (Or.inl ⟨by rfl, ?_⟩) (by assumption) ?_
  rotate_left
  · intro w hSw
    (try dsimp only at hSw)
    go_simp
    all_goals (with_reducible rfl)
  try simp only [Act.put, List.setIfInBounds_toArray, List.set_cons_zero, List.set_cons_succ]
  refine wpAnyH_take (i := 1) (oi := ⟨some 25, _, _, _, _, _⟩) (v := ?_) rfl (by kernel_rfl) (by kernel_rfl) (by kernel_rfl) (fun _ _ _ h => h) (Or.inl ⟨by rfl, ?_⟩) (by assumption) ?_
  rotate_left
  · intro w hSw
    (try dsimp only at hSw)
    go_simp
    all_goals (with_reducible rfl)
  try simp only [Act.put, List.setIfInBounds_toArray, List.set_cons_zero, List.set_cons_succ]
  refine wpAnyH_take (i := 2) (oi := ⟨some 26, _, _, _, _, _⟩) (v := ?_) rfl (by kernel_rfl) (by kernel_rfl) (by kernel_rfl) (fun _ _ _ h => h) (Or.inl ⟨by rfl, ?_⟩) (by assumption) ?_
  rotate_left
  · intro w hSw
    (try dsimp only at hSw)
    go_simp
    all_goals (with_reducible rfl)
  try simp only [Act.put, List.setIfInBounds_toArray, List.set_cons_zero, List.set_cons_succ]
  refine wpAnyH_take (i := 3) (oi := ⟨some 27, _, _, _, _, _⟩) (v := ?_) rfl (by kernel_rfl) (by kernel_rfl) (by kernel_rfl) (fun _ _ _ h => h) (Or.inl ⟨by rfl, ?_⟩) (by assumption) ?_
  rotate_left
  · intro w hSw
    (try dsimp only at hSw)
    obtain ⟨t0, x0, x1, x2, x3⟩ := hSw.facts
    go_simp
    all_goals (with_reducible rfl)
  try simp only [Act.put, List.setIfInBounds_toArray, List.set_cons_zero, List.set_cons_succ]
  refine wpAnyH_take (i := 4) (oi := ⟨some 28, _, _, _, _, _⟩) (v := ?_) rfl (by kernel_rfl) (by kernel_rfl) (by kernel_rfl) (fun _ _ _ h => h) (Or.inl ⟨by rfl, ?_⟩) (by assumption) ?_
  rotate_left
  · intro w hSw
    (try dsimp only at hSw)
    obtain ⟨t0, x0, x1, x2, x3⟩ := hSw.facts
    go_simp
    all_goals (with_reducible rfl)
  try simp only [Act.put, List.setIfInBounds_toArray, List.set_cons_zero, List.set_cons_succ]
  refine wpAnyH_ready (rs := [5]) (by kernel_rfl) (by simp) ?_
  refine AllReadyH.cons (o := ⟨some 29, _, _, _, _, _⟩) rfl (fun K hK => ?_) AllReadyH.nil
  go_simp
  refine (CR.out _ hhS.ten.rules).mono ?_
  rintro e w5 ⟨rfl, hB5⟩
  refine hK.out _ _ (hhS.on hB5) (fun hh5 => ?_)
  clear hK K
  try simp only [Act.put, List.setIfInBounds_toArray, List.set_cons_zero, List.set_cons_succ]
  refine wpAnyH_take (i := 6) (oi := ⟨some 23, _, _, _, _, _⟩) (v := ?_) rfl (by kernel_rfl) (by kernel_rfl) (by kernel_rfl) (fun _ _ _ h => h) (Or.inl ⟨by rfl, ?_⟩) (by assumption) ?_
  rotate_left
  · intro w hSw
    (try dsimp only at hSw)
    go_simp
    all_goals (with_reducible rfl)
  try simp only [Act.put, List.setIfInBounds_toArray, List.set_cons_zero, List.set_cons_succ]
  refine wpAnyH_done (by kernel_rfl) ?_ _
  refine NoPanic.normal ?_
  have hOld := hOld1.trans ((((Below.refl w1.heap.size w1).drew).trans hB5).mono hOld1.size)
  go_wp2
  go_ret
  exact ⟨rfl, hOld⟩

set_option maxRecDepth 100000 in
set_option maxHeartbeats 4000000 in
theorem grant_full (W w : World) (b m t mi : Nat) (nv rv mv : Value) (names : List ByteArray) (l : List (ByteArray × Value)) (name : ByteArray) (rules : List Rl) (ms : List (ByteArray × ByteArray)) (who key : ByteArray) (what : Int) (deny : Bool) (hB : BookAt W w b m nv names l) (hT : TenOwn W w t rv mv mi rules ms) (hl : findS l name = some (.pointer (some ⟨t, 0, none⟩))) (hmay : mayB ⟨who, what, key, deny⟩ = true) (hnew : hasR rules ⟨who, what, key, deny⟩ = false) (hlen : rules.length ≤ 1000) (hfull : 128 ≤ rules.length) (hsz : key.size ≤ 9223372036854775807) :
    Calls Try.prog 14 #[.pointer (some ⟨b, 0, none⟩), .string name, .agg #[.string who, .int .i64 what, .string key, .bool deny]] w fun e w' => e = .returned (.int .i64 8) ∧ Below w.heap.size w w' := by
  have hBA : Below w.heap.size w (w.alloc (.cells #[.string who, .int .i64 what, .string key, .bool deny] 29)) := (Below.refl _ _).alloc (Nat.le_refl _) _
  have hR := Whole.new w 29 #[.string who, .int .i64 what, .string key, .bool deny]
  have hB0 := hB.on hBA
  have hT0 := hT.on hBA
  obtain ⟨R, hReq⟩ : ∃ R, w.heap.size = R := ⟨_, rfl⟩
  have hRt : R ≠ t := by
    have := hT.ten.lt
    omega
  have hRv : rv.ownBlock ≠ some R := fun h => by
    obtain ⟨cur, hc⟩ := row_type hT.rules h
    have := (Array.getElem?_eq_some_iff.1 hc).1
    omega
  have hG0 : GK W (w.alloc (.cells #[.string who, .int .i64 what, .string key, .bool deny] 29)) b m R t mi nv rv mv names l rules ms who key what deny := ⟨hB0, hT0, hReq ▸ hR⟩
  obtain ⟨t0, r0, r1, r2, r3⟩ := hG0.facts
  have c1 := hB0.book.cell 1
  have hz : (zeroValue 97).run Try.prog (w.alloc (.cells #[.string who, .int .i64 what, .string key, .bool deny] 29)) = .ok (.pointer none) (w.alloc (.cells #[.string who, .int .i64 what, .string key, .bool deny] 29)) := by kernel_rfl
  have hlk := look_S Try.underlying44 Try.underlying9 hB0.all name hz
  rw [hl] at hlk
  have mk := made_calls (w.alloc (.cells #[.string who, .int .i64 what, .string key, .bool deny] 29)) b m c1
  have MC := Lib.hid (hmay ▸ may_calls (w.alloc (.cells #[.string who, .int .i64 what, .string key, .bool deny] 29)) who key what deny hsz)
  have CR := Lib.hid (fun (wx : World) (h : OwnR wx W.heap.size rv rules) => hnew ▸ contains_rule wx W.heap.size rv rules who key what deny h (by omega))
  obtain ⟨xr, kr, yr, hrv⟩ := slice_any hT.rules
  have hkr : kr = rules.length := by
    obtain ⟨a, c, h⟩ := slice_of_row hT.rules
    rw [hrv] at h
    injection h
  subst hrv
  have i1 : (128 : Int) ≤ (kr : Int) := by omega
  clear hkr hfull
  have HG := Lib.hid hG0
  have HRT := Lib.hid (And.intro hRt hRv)
  clear hz hR hB0 hT0 hG0 hB hT hl hmay hnew hRt hRv hlen
  go_enter Try.func14, Try.ntmps14
  go_wp2_with (first
    | (refine wpList_box_cells (by rfl) 29 _ (by rfl) #[.string who, .int .i64 what, .string key, .bool deny] (by rfl) ?_; rw [hReq])
    | (go_at_call 42; refine mk.mono ?_; rintro e w' ⟨rfl, hw⟩; rw [hw]; clear hw)
    | (go_at_call 44; refine MC.out.mono ?_; rintro e w1 ⟨rfl, hB1⟩))
  have hG := HG.out.on hB1
  have hOld1 : Below w.heap.size w w1 := hBA.trans (hB1.mono hBA.size)
  refine wp_region_noPanic ?_
  refine wp_region_held_drew (S := fun w' => GK W w' b m R t mi nv (.slice xr kr yr) mv names l rules ms who key what deny) (by kernel_rfl) (hG.on ((Below.refl _ _).drew)) (fun hhS => ?_)
  refine wpAnyH_take (i := 0) (oi := ⟨some 24, _, _, _, _, _⟩) (v := ?_) rfl (by kernel_rfl) (by kernel_rfl) (by kernel_rfl) (fun _ _ _ h => h) (Or.inl ⟨by rfl, ?_⟩) (by assumption) ?_
  rotate_left
  · intro w hSw
    (try dsimp only at hSw)
    go_simp
    all_goals (with_reducible rfl)
  try simp only [Act.put, List.setIfInBounds_toArray, List.set_cons_zero, List.set_cons_succ]
  refine wpAnyH_take (i := 1) (oi := ⟨some 25, _, _, _, _, _⟩) (v := ?_) rfl (by kernel_rfl) (by kernel_rfl) (by kernel_rfl) (fun _ _ _ h => h) (Or.inl ⟨by rfl, ?_⟩) (by assumption) ?_
  rotate_left
  · intro w hSw
    (try dsimp only at hSw)
    go_simp
    all_goals (with_reducible rfl)
  try simp only [Act.put, List.setIfInBounds_toArray, List.set_cons_zero, List.set_cons_succ]
  refine wpAnyH_take (i := 2) (oi := ⟨some 26, _, _, _, _, _⟩) (v := ?_) rfl (by kernel_rfl) (by kernel_rfl) (by kernel_rfl) (fun _ _ _ h => h) (Or.inl ⟨by rfl, ?_⟩) (by assumption) ?_
  rotate_left
  · intro w hSw
    (try dsimp only at hSw)
    go_simp
    all_goals (with_reducible rfl)
  try simp only [Act.put, List.setIfInBounds_toArray, List.set_cons_zero, List.set_cons_succ]
  refine wpAnyH_take (i := 3) (oi := ⟨some 27, _, _, _, _, _⟩) (v := ?_) rfl (by kernel_rfl) (by kernel_rfl) (by kernel_rfl) (fun _ _ _ h => h) (Or.inl ⟨by rfl, ?_⟩) (by assumption) ?_
  rotate_left
  · intro w hSw
    (try dsimp only at hSw)
    obtain ⟨t0, x0, x1, x2, x3⟩ := hSw.facts
    go_simp
    all_goals (with_reducible rfl)
  try simp only [Act.put, List.setIfInBounds_toArray, List.set_cons_zero, List.set_cons_succ]
  refine wpAnyH_take (i := 4) (oi := ⟨some 28, _, _, _, _, _⟩) (v := ?_) rfl (by kernel_rfl) (by kernel_rfl) (by kernel_rfl) (fun _ _ _ h => h) (Or.inl ⟨by rfl, ?_⟩) (by assumption) ?_
  rotate_left
  · intro w hSw
    (try dsimp only at hSw)
    obtain ⟨t0, x0, x1, x2, x3⟩ := hSw.facts
    go_simp
    all_goals (with_reducible rfl)
  try simp only [Act.put, List.setIfInBounds_toArray, List.set_cons_zero, List.set_cons_succ]
  refine wpAnyH_ready (rs := [5]) (by kernel_rfl) (by simp) ?_
  refine AllReadyH.cons (o := ⟨some 29, _, _, _, _, _⟩) rfl (fun K hK => ?_) AllReadyH.nil
  go_simp
  refine (CR.out _ hhS.ten.rules).mono ?_
  rintro e w5 ⟨rfl, hB5⟩
  refine hK.out _ _ (hhS.on hB5) (fun hh5 => ?_)
  clear hK K
  try simp only [Act.put, List.setIfInBounds_toArray, List.set_cons_zero, List.set_cons_succ]
  refine wpAnyH_take (i := 6) (oi := ⟨some 23, _, _, _, _, _⟩) (v := ?_) rfl (by kernel_rfl) (by kernel_rfl) (by kernel_rfl) (fun _ _ _ h => h) (Or.inl ⟨by rfl, ?_⟩) (by assumption) ?_
  rotate_left
  · intro w hSw
    (try dsimp only at hSw)
    go_simp
    all_goals (with_reducible rfl)
  try simp only [Act.put, List.setIfInBounds_toArray, List.set_cons_zero, List.set_cons_succ]
  refine wpAnyH_done (by kernel_rfl) ?_ _
  refine NoPanic.normal ?_
  have hOld := hOld1.trans ((((Below.refl w1.heap.size w1).drew).trans hB5).mono hOld1.size)
  obtain ⟨e0, x0, x1, x2, x3⟩ := hh5.facts
  go_wp2
  go_ret
  exact ⟨rfl, hOld⟩

set_option maxRecDepth 100000 in
set_option maxHeartbeats 4000000 in
theorem join_there2 (W w : World) (b m t mi : Nat) (nv rv mv : Value) (names : List ByteArray) (l : List (ByteArray × Value)) (name role who : ByteArray) (rules : List Rl) (ms : List (ByteArray × ByteArray))
    (hB : BookAt W w b m nv names l) (hT : TenOwn W w t rv mv mi rules ms) (hl : findS l name = some (.pointer (some ⟨t, 0, none⟩))) (hr : nameB role = true) (hw : nameB who = true) (hnew : hasM ms (role, who) = true) (_ : ms.length ≤ 1000) :
    Calls Try.prog 16 #[.pointer (some ⟨b, 0, none⟩), .string name, .string role, .string who] w fun e w' => e = .returned (.int .i64 7) ∧ Below w.heap.size w w' := by
  have hz : ∀ w : World, (zeroValue 97).run Try.prog w = .ok (.pointer none) w := fun w => by kernel_rfl
  have c1 := hB.book.cell 1
  have mk := made_calls w b m c1
  have NR := Lib.hid (fun (w : World) => hr ▸ name_calls w role)
  have NW := Lib.hid (fun (w : World) => hw ▸ name_calls w who)
  obtain ⟨xr, kr, yr, hrv⟩ := slice_any hT.mems
  subst hrv
  have hne : m ≠ mi := map_ne hB.all hT.isIn (by rintro rfl; cases hl)
  have HNEW := Lib.hid hnew
  have HB := Lib.hid hB
  have HT := Lib.hid hT
  have HL := Lib.hid hl
  have HNE := Lib.hid hne
  clear hB hT hl hr hw hnew hne
  go_enter Try.func16, Try.ntmps16
  go_wp2_with (first
    | (go_at_call 42; refine mk.mono ?_; rintro e w' ⟨rfl, hw⟩; rw [hw]; clear hw)
    | (go_at_call 43; refine (NW.out w1).mono ?_; rintro e w2 ⟨rfl, hB2⟩; have hBk := HB.out.on (hB1.trans (hB2.mono hB1.size)); have hlk := look_S Try.underlying44 Try.underlying9 hBk.all name (hz w2); rw [HL.out] at hlk; have d1 := hBk.book.cell 1; have hTk := Lib.hid (HT.out.on (hB1.trans (hB2.mono hB1.size))); have HBk := Lib.hid hBk; clear hBk)
    | (go_at_call 43; refine (NR.out _).mono ?_; rintro e w1 ⟨rfl, hB1⟩))
  have hBA : Below w2.heap.size w2 (w2.alloc (.cells #[.string role, .string who] 106)) := (Below.refl _ _).alloc (Nat.le_refl _) _
  obtain ⟨M, hM⟩ : ∃ M, w2.heap.size = M := ⟨_, rfl⟩
  have hMt : M ≠ t := by
    have := hTk.out.ten.lt
    omega
  have hMv : (Value.slice xr kr yr).ownBlock ≠ some M := fun h => by
    obtain ⟨cur, hc⟩ := row_type hTk.out.mems h
    have := (Array.getElem?_eq_some_iff.1 hc).1
    omega
  have hJ : JK W (w2.alloc (.cells #[.string role, .string who] 106)) b m M t mi nv rv (.slice xr kr yr) names l rules ms role who := ⟨HBk.out.on hBA, hTk.out.on hBA, hM ▸ Whole.new w2 106 #[.string role, .string who]⟩
  rw [hM]
  have hOld3 : Below w.heap.size w (w2.alloc (.cells #[.string role, .string who] 106)) := (hB1.trans (hB2.mono hB1.size)).trans (hBA.mono (Nat.le_trans hB1.size hB2.size))
  clear hBA hlk d1
  generalize (w2.alloc (.cells #[.string role, .string who] 106)) = w3 at hJ hOld3 ⊢
  refine wp_region_noPanic ?_
  refine wp_region_held_drew (S := fun w' => JK W w' b m M t mi nv rv (.slice xr kr yr) names l rules ms role who) (by kernel_rfl) (hJ.on ((Below.refl _ _).drew)) (fun hhS => ?_)
  refine wpAnyH_take (i := 0) (oi := ⟨some 34, _, _, _, _, _⟩) (v := ?_) rfl (by kernel_rfl) (by kernel_rfl) (by kernel_rfl) (fun _ _ _ h => h) (Or.inl ⟨by rfl, ?_⟩) (by assumption) ?_
  rotate_left
  · intro w hSw
    (try dsimp only at hSw)
    go_simp
    all_goals (with_reducible rfl)
  try simp only [Act.put, List.setIfInBounds_toArray, List.set_cons_zero, List.set_cons_succ]
  refine wpAnyH_take (i := 1) (oi := ⟨some 35, _, _, _, _, _⟩) (v := ?_) rfl (by kernel_rfl) (by kernel_rfl) (by kernel_rfl) (fun _ _ _ h => h) (Or.inl ⟨by rfl, ?_⟩) (by assumption) ?_
  rotate_left
  · intro w hSw
    (try dsimp only at hSw)
    go_simp
    all_goals (with_reducible rfl)
  try simp only [Act.put, List.setIfInBounds_toArray, List.set_cons_zero, List.set_cons_succ]
  refine wpAnyH_take (i := 2) (oi := ⟨some 36, _, _, _, _, _⟩) (v := ?_) rfl (by kernel_rfl) (by kernel_rfl) (by kernel_rfl) (fun _ _ _ h => h) (Or.inl ⟨by rfl, ?_⟩) (by assumption) ?_
  rotate_left
  · intro w hSw
    (try dsimp only at hSw)
    go_simp
    all_goals (with_reducible rfl)
  try simp only [Act.put, List.setIfInBounds_toArray, List.set_cons_zero, List.set_cons_succ]
  refine wpAnyH_take (i := 3) (oi := ⟨some 37, _, _, _, _, _⟩) (v := ?_) rfl (by kernel_rfl) (by kernel_rfl) (by kernel_rfl) (fun _ _ _ h => h) (Or.inl ⟨by rfl, ?_⟩) (by assumption) ?_
  rotate_left
  · intro w hSw
    (try dsimp only at hSw)
    obtain ⟨t1, t2, x0, x1⟩ := hSw.facts
    go_simp
    all_goals (with_reducible rfl)
  try simp only [Act.put, List.setIfInBounds_toArray, List.set_cons_zero, List.set_cons_succ]
  refine wpAnyH_take (i := 4) (oi := ⟨some 38, _, _, _, _, _⟩) (v := ?_) rfl (by kernel_rfl) (by kernel_rfl) (by kernel_rfl) (fun _ _ _ h => h) (Or.inl ⟨by rfl, ?_⟩) (by assumption) ?_
  rotate_left
  · intro w hSw
    (try dsimp only at hSw)
    obtain ⟨t1, t2, x0, x1⟩ := hSw.facts
    go_simp
    all_goals (with_reducible rfl)
  try simp only [Act.put, List.setIfInBounds_toArray, List.set_cons_zero, List.set_cons_succ]
  refine wpAnyH_take (i := 5) (oi := ⟨some 39, _, _, _, _, _⟩) (v := ?_) rfl (by kernel_rfl) (by kernel_rfl) (by kernel_rfl) (fun _ _ _ h => h) (Or.inl ⟨by rfl, ?_⟩) (by assumption) ?_
  rotate_left
  · intro w hSw
    (try dsimp only at hSw)
    have lk := look_M hSw.ten.isIn role who
    rw [HNEW.out] at lk
    go_simp
    all_goals (with_reducible rfl)
  try simp only [Act.put, List.setIfInBounds_toArray, List.set_cons_zero, List.set_cons_succ]
  refine wpAnyH_take (i := 6) (oi := ⟨some 33, _, _, _, _, _⟩) (v := ?_) rfl (by kernel_rfl) (by kernel_rfl) (by kernel_rfl) (fun _ _ _ h => h) (Or.inl ⟨by rfl, ?_⟩) (by assumption) ?_
  rotate_left
  · intro w hSw
    (try dsimp only at hSw)
    go_simp
    all_goals (with_reducible rfl)
  try simp only [Act.put, List.setIfInBounds_toArray, List.set_cons_zero, List.set_cons_succ]
  refine wpAnyH_done (by kernel_rfl) ?_ _
  refine NoPanic.normal ?_
  have hJ8 := hhS
  have hOld : Below w.heap.size w w3.drew := hOld3.drew
  generalize w3.drew = w8 at hJ8 hOld ⊢
  go_wp2
  go_ret
  exact ⟨rfl, hOld⟩

set_option maxRecDepth 100000 in
set_option maxHeartbeats 4000000 in
theorem join_full (W w : World) (b m t mi : Nat) (nv rv mv : Value) (names : List ByteArray) (l : List (ByteArray × Value)) (name role who : ByteArray) (rules : List Rl) (ms : List (ByteArray × ByteArray))
    (hB : BookAt W w b m nv names l) (hT : TenOwn W w t rv mv mi rules ms) (hl : findS l name = some (.pointer (some ⟨t, 0, none⟩))) (hr : nameB role = true) (hw : nameB who = true) (hnew : hasM ms (role, who) = false) (hlen : ms.length ≤ 1000) (hfull : 256 ≤ ms.length) :
    Calls Try.prog 16 #[.pointer (some ⟨b, 0, none⟩), .string name, .string role, .string who] w fun e w' => e = .returned (.int .i64 8) ∧ Below w.heap.size w w' := by
  have hz : ∀ w : World, (zeroValue 97).run Try.prog w = .ok (.pointer none) w := fun w => by kernel_rfl
  have c1 := hB.book.cell 1
  have mk := made_calls w b m c1
  have NR := Lib.hid (fun (w : World) => hr ▸ name_calls w role)
  have NW := Lib.hid (fun (w : World) => hw ▸ name_calls w who)
  obtain ⟨xr, kr, yr, hrv⟩ := slice_any hT.mems
  have hkr : kr = ms.length := by
    obtain ⟨a, c, h⟩ := slice_of_row hT.mems
    rw [hrv] at h
    injection h
  subst hrv
  have i1 : (256 : Int) ≤ (kr : Int) := by omega
  clear hkr hfull
  have hne : m ≠ mi := map_ne hB.all hT.isIn (by rintro rfl; cases hl)
  have HNEW := Lib.hid hnew
  have HB := Lib.hid hB
  have HT := Lib.hid hT
  have HL := Lib.hid hl
  have HNE := Lib.hid hne
  clear hB hT hl hr hw hnew hlen hne
  go_enter Try.func16, Try.ntmps16
  go_wp2_with (first
    | (go_at_call 42; refine mk.mono ?_; rintro e w' ⟨rfl, hw⟩; rw [hw]; clear hw)
    | (go_at_call 43; refine (NW.out w1).mono ?_; rintro e w2 ⟨rfl, hB2⟩; have hBk := HB.out.on (hB1.trans (hB2.mono hB1.size)); have hlk := look_S Try.underlying44 Try.underlying9 hBk.all name (hz w2); rw [HL.out] at hlk; have d1 := hBk.book.cell 1; have hTk := Lib.hid (HT.out.on (hB1.trans (hB2.mono hB1.size))); have HBk := Lib.hid hBk; clear hBk)
    | (go_at_call 43; refine (NR.out _).mono ?_; rintro e w1 ⟨rfl, hB1⟩))
  have hBA : Below w2.heap.size w2 (w2.alloc (.cells #[.string role, .string who] 106)) := (Below.refl _ _).alloc (Nat.le_refl _) _
  obtain ⟨M, hM⟩ : ∃ M, w2.heap.size = M := ⟨_, rfl⟩
  have hMt : M ≠ t := by
    have := hTk.out.ten.lt
    omega
  have hMv : (Value.slice xr kr yr).ownBlock ≠ some M := fun h => by
    obtain ⟨cur, hc⟩ := row_type hTk.out.mems h
    have := (Array.getElem?_eq_some_iff.1 hc).1
    omega
  have hJ : JK W (w2.alloc (.cells #[.string role, .string who] 106)) b m M t mi nv rv (.slice xr kr yr) names l rules ms role who := ⟨HBk.out.on hBA, hTk.out.on hBA, hM ▸ Whole.new w2 106 #[.string role, .string who]⟩
  rw [hM]
  have hOld3 : Below w.heap.size w (w2.alloc (.cells #[.string role, .string who] 106)) := (hB1.trans (hB2.mono hB1.size)).trans (hBA.mono (Nat.le_trans hB1.size hB2.size))
  clear hBA hlk d1
  generalize (w2.alloc (.cells #[.string role, .string who] 106)) = w3 at hJ hOld3 ⊢
  refine wp_region_noPanic ?_
  refine wp_region_held_drew (S := fun w' => JK W w' b m M t mi nv rv (.slice xr kr yr) names l rules ms role who) (by kernel_rfl) (hJ.on ((Below.refl _ _).drew)) (fun hhS => ?_)
  refine wpAnyH_take (i := 0) (oi := ⟨some 34, _, _, _, _, _⟩) (v := ?_) rfl (by kernel_rfl) (by kernel_rfl) (by kernel_rfl) (fun _ _ _ h => h) (Or.inl ⟨by rfl, ?_⟩) (by assumption) ?_
  rotate_left
  · intro w hSw
    (try dsimp only at hSw)
    go_simp
    all_goals (with_reducible rfl)
  try simp only [Act.put, List.setIfInBounds_toArray, List.set_cons_zero, List.set_cons_succ]
  refine wpAnyH_take (i := 1) (oi := ⟨some 35, _, _, _, _, _⟩) (v := ?_) rfl (by kernel_rfl) (by kernel_rfl) (by kernel_rfl) (fun _ _ _ h => h) (Or.inl ⟨by rfl, ?_⟩) (by assumption) ?_
  rotate_left
  · intro w hSw
    (try dsimp only at hSw)
    go_simp
    all_goals (with_reducible rfl)
  try simp only [Act.put, List.setIfInBounds_toArray, List.set_cons_zero, List.set_cons_succ]
  refine wpAnyH_take (i := 2) (oi := ⟨some 36, _, _, _, _, _⟩) (v := ?_) rfl (by kernel_rfl) (by kernel_rfl) (by kernel_rfl) (fun _ _ _ h => h) (Or.inl ⟨by rfl, ?_⟩) (by assumption) ?_
  rotate_left
  · intro w hSw
    (try dsimp only at hSw)
    go_simp
    all_goals (with_reducible rfl)
  try simp only [Act.put, List.setIfInBounds_toArray, List.set_cons_zero, List.set_cons_succ]
  refine wpAnyH_take (i := 3) (oi := ⟨some 37, _, _, _, _, _⟩) (v := ?_) rfl (by kernel_rfl) (by kernel_rfl) (by kernel_rfl) (fun _ _ _ h => h) (Or.inl ⟨by rfl, ?_⟩) (by assumption) ?_
  rotate_left
  · intro w hSw
    (try dsimp only at hSw)
    obtain ⟨t1, t2, x0, x1⟩ := hSw.facts
    go_simp
    all_goals (with_reducible rfl)
  try simp only [Act.put, List.setIfInBounds_toArray, List.set_cons_zero, List.set_cons_succ]
  refine wpAnyH_take (i := 4) (oi := ⟨some 38, _, _, _, _, _⟩) (v := ?_) rfl (by kernel_rfl) (by kernel_rfl) (by kernel_rfl) (fun _ _ _ h => h) (Or.inl ⟨by rfl, ?_⟩) (by assumption) ?_
  rotate_left
  · intro w hSw
    (try dsimp only at hSw)
    obtain ⟨t1, t2, x0, x1⟩ := hSw.facts
    go_simp
    all_goals (with_reducible rfl)
  try simp only [Act.put, List.setIfInBounds_toArray, List.set_cons_zero, List.set_cons_succ]
  refine wpAnyH_take (i := 5) (oi := ⟨some 39, _, _, _, _, _⟩) (v := ?_) rfl (by kernel_rfl) (by kernel_rfl) (by kernel_rfl) (fun _ _ _ h => h) (Or.inl ⟨by rfl, ?_⟩) (by assumption) ?_
  rotate_left
  · intro w hSw
    (try dsimp only at hSw)
    have lk := look_M hSw.ten.isIn role who
    rw [HNEW.out] at lk
    go_simp
    all_goals (with_reducible rfl)
  try simp only [Act.put, List.setIfInBounds_toArray, List.set_cons_zero, List.set_cons_succ]
  refine wpAnyH_take (i := 6) (oi := ⟨some 33, _, _, _, _, _⟩) (v := ?_) rfl (by kernel_rfl) (by kernel_rfl) (by kernel_rfl) (fun _ _ _ h => h) (Or.inl ⟨by rfl, ?_⟩) (by assumption) ?_
  rotate_left
  · intro w hSw
    (try dsimp only at hSw)
    go_simp
    all_goals (with_reducible rfl)
  try simp only [Act.put, List.setIfInBounds_toArray, List.set_cons_zero, List.set_cons_succ]
  refine wpAnyH_done (by kernel_rfl) ?_ _
  refine NoPanic.normal ?_
  have hJ8 := hhS
  have hOld : Below w.heap.size w w3.drew := hOld3.drew
  generalize w3.drew = w8 at hJ8 hOld ⊢
  obtain ⟨t1, t2, x0, x1⟩ := hJ8.facts
  go_wp2
  go_ret
  exact ⟨rfl, hOld⟩

end Go.Proofs.Ytglcingpolpkdaa
