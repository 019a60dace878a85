/- (*Book).Leave: what it answers, and what it leaves. -/
import Derived.Test.YtglcingpolpkdaaARevoke
namespace Go.Proofs.Ytglcingpolpkdaa
open Go.RowKit

theorem erase_map {α β : Type} (f : α → β) : ∀ (l : List α) (k : Nat), (l.eraseIdx k).map f = (l.map f).eraseIdx k
  | [], _ => rfl
  | _ :: _, 0 => rfl
  | a :: l, k + 1 => by
    rw [List.map_cons, List.eraseIdx_cons_succ, List.eraseIdx_cons_succ, List.map_cons, erase_map f l k]
theorem find_M (w : World) (a b : ByteArray) : ∀ (es : List MapEntry) (ms : List (ByteArray × ByteArray)) (i : Nat), es.map (fun e => (e.key, e.val)) = ms.map (fun p => (Value.agg #[.string p.1, .string p.2], Value.bool true)) → ms.Nodup → hasM ms (a, b) = true →
    ∃ k v, (Instr.findAsking 106 (.agg #[.string a, .string b]) es i).run Try.prog w = .ok (some (i + k, v)) w ∧ k < es.length ∧ ms.eraseIdx k = ms.filter fun x => !eqM x (a, b)
  | [], [], _, _, _, h => by simp [hasM] at h
  | [], _ :: _, _, h, _, _ => by simp at h
  | _ :: _, [], _, h, _, _ => by simp at h
  | e :: es, p :: ms, i, h, hn, hh => by
    simp only [List.map_cons, List.cons.injEq, Prod.mk.injEq] at h
    obtain ⟨⟨h1, h2⟩, h3⟩ := h
    have he := eql_mem w a b p.1 p.2
    rw [← h1] at he
    obtain ⟨hn1, hn2⟩ := List.nodup_cons.1 hn
    by_cases hk : eqM (a, b) p = true
    · have hk' : eqM (a, b) (p.1, p.2) = true := hk
      have hp : (a, b) = p := eqM_iff.1 hk
      refine ⟨0, e.val, by simp [Instr.findAsking, he, hk'], by simp, ?_⟩
      rw [List.eraseIdx_cons_zero, List.filter_cons_of_neg (by rw [hp, eqM_iff.2 rfl]; simp)]
      refine (List.filter_eq_self.2 fun x hx => ?_).symm
      cases hq : eqM x (a, b) with
      | false => rfl
      | true =>
        have := eqM_iff.1 hq
        rw [this, hp] at hx
        exact absurd hx hn1
    · have hk' : eqM (a, b) (p.1, p.2) = false := by
        have : eqM (a, b) p = false := by simpa using hk
        exact this
      have hh2 : hasM ms (a, b) = true := by
        unfold hasM at hh ⊢
        rw [List.any_cons] at hh
        simpa [show eqM (a, b) p = false from hk'] using hh
      obtain ⟨k, v, hr, hlt, hx⟩ := find_M w a b es ms (i + 1) h3 hn2 hh2
      refine ⟨k + 1, v, ?_, by simpa using hlt, ?_⟩
      · simp [Instr.findAsking, he, hk', hr]
        omega
      · rw [List.eraseIdx_cons_succ, List.filter_cons_of_pos, hx]
        cases hq : eqM p (a, b) with
        | false => rfl
        | true =>
          have := eqM_iff.1 hq
          rw [this] at hk
          exact absurd (eqM_iff.2 rfl) hk

set_option maxRecDepth 100000 in
theorem drop_M {w : World} {m : Nat} {ms : List (ByteArray × ByteArray)} (h : MapM w m ms) (a b : ByteArray) (hh : hasM ms (a, b) = true) (hn : ms.Nodup) :
    ∃ w', (∀ ty, (Builtin.delete_ #[98, 106] ty #[.map (some m), .agg #[.string a, .string b]]).run Try.prog w = .ok (.tuple #[]) w') ∧ MapM w' m (ms.filter fun x => !eqM x (a, b)) ∧ w.grownBy w' (some m) := by
  obtain ⟨ents, c, hm, hl⟩ := h
  obtain ⟨k, v, hr, hlt, hx⟩ := find_M w a b ents.toList ms 0 hl hn hh
  rw [Nat.zero_add] at hr
  have hlt' : k < ents.size := by simpa using hlt
  have hlt2 : m < w.heap.size := (Array.getElem?_eq_some_iff.1 hm).1
  have he : ents.eraseIdxIfInBounds k = ents.eraseIdx k := by
    unfold Array.eraseIdxIfInBounds
    rw [dif_pos hlt']
  refine ⟨{ w with heap := w.heap.setIfInBounds m (.map (ents.eraseIdxIfInBounds k) c) }, fun ty => ?_, ⟨ents.eraseIdxIfInBounds k, c, ?_, ?_⟩, ⟨rfl, rfl, rfl, by simp, fun i hi hne => ?_⟩⟩
  · unfold Builtin.delete_
    simp [run_underlying Try.underlying98, MapKept.run_getObj_map hm, check_mem, find_mem, hr, MapKept.run_setObj_map _ hm]
  · simp [hlt2]
  · rw [he, ← hx]
    simp only [Array.toList_eraseIdx]
    rw [erase_map, hl, erase_map]
  · have : m ≠ i := fun h => hne (by rw [h])
    simp [this]

theorem leave_mem {W wd w7 : World} {b m M t mi : Nat} {nv rv mv v7 : Value} {names : List ByteArray} {l : List (ByteArray × Value)} {rules : List Rl} {ms ms' : List (ByteArray × ByteArray)} {mc : List Value} (hB : BookAt W wd b m nv names l) (hT : TenOwn W wd t rv mv mi rules ms) (hM : Whole wd M 106 mc) (hMt : M ≠ t)
    (hMv : mv.ownBlock ≠ some M) (hO : OwnM w7 W.heap.size v7 ms') (hG : Only wd w7 fun i => mv.ownBlock = some i) :
    w7.cell? ⟨t, 1, none⟩ = some mv ∧ w7.frozen? ⟨t, 1, none⟩ = false ∧ Whole w7 M 106 mc ∧ Whole (w7.setCell ⟨t, 1, none⟩ v7) M 106 mc ∧ BookAt W (w7.setCell ⟨t, 1, none⟩ v7) b m nv names l ∧ TenJ W (w7.setCell ⟨t, 1, none⟩ v7) t rv v7 mi rules ms' ms ∧ Only wd (w7.setCell ⟨t, 1, none⟩ v7) (fun i => i = t ∨ mv.ownBlock = some i) := by
  have o1 := hG
  have o2 := Only.set w7 ⟨t, 1, none⟩ v7
  have tv : mv.ownBlock ≠ some t := row_ne_whole hT.mems hT.ten (by decide)
  have t1 := hT.ten.only o1 (fun h => tv h)
  have t2 : Whole (w7.setCell ⟨t, 1, none⟩ v7) t 101 [rv, v7, .map (some mi)] := t1.put 1 v7
  have r1 := hM.only o1 (fun h => hMv h)
  have r2 := r1.only o2 (fun h => hMt h)
  have oA := o1.trans o2
  obtain ⟨em, cm, hm, _⟩ := hB.all
  obtain ⟨ei, ci, hi, _⟩ := hT.isIn
  have bne := book_ne_ten hB hT.ten
  have hTm := whole_ne_map hT.ten hm
  have hTi := whole_ne_map hT.ten hi
  have hoff : ∀ g, (mv.ownBlock = some g ∨ g = t) → W.heap.size ≤ g := fun g h => by
    rcases h with h | rfl
    · exact own_ge hT.mems h
    · exact hT.get
  have nt : ∀ g, nv.ownBlock = some g → ¬ (mv.ownBlock = some g ∨ g = t) := fun g hg h => by
    obtain ⟨c1, h1⟩ := row_type hB.names hg
    rcases h with h | rfl
    · obtain ⟨c2, h2⟩ := row_type hT.mems h
      rw [h1] at h2
      injection h2 with h2
      injection h2 with _ h2 _
      exact absurd h2 (by decide)
    · exact row_ne_whole hB.names hT.ten (by decide) hg
  have nr : ∀ g, rv.ownBlock = some g → ¬ (mv.ownBlock = some g ∨ g = t) := fun g hg h => by
    obtain ⟨c1, h1⟩ := row_type hT.rules hg
    rcases h with h | rfl
    · obtain ⟨c2, h2⟩ := row_type hT.mems h
      rw [h1] at h2
      injection h2 with h2
      injection h2 with _ h2 _
      exact absurd h2 (by decide)
    · exact row_ne_whole hT.rules hT.ten (by decide) hg
  have v7t : ∀ g, v7.ownBlock = some g → ¬ g = t := fun g hg e => by
    subst e
    exact row_ne_whole hO t1 (by decide) hg
  refine ⟨t1.cell 1, t1.free 1, r1, r2, ⟨hB.book.only oA (fun h => ?_), row_only hB.names oA nt, hB.all.only oA (fun h => ?_), hB.geb, hB.gem, hB.below.trans (oA.below hB.below.size fun i _ h => hoff i h)⟩, ⟨t2, row_only hT.rules oA nr, row_only hO o2 v7t, hT.isIn.only oA (fun h => ?_), hT.get, hT.gei⟩, oA.weak fun i _ h => h.symm⟩
  · rcases h with h | h
    · exact row_ne_whole hT.mems hB.book (by decide) h
    · exact bne h
  · rcases h with h | h
    · exact row_ne_map hT.mems hm h
    · exact hTm h.symm
  · rcases h with h | h
    · exact row_ne_map hT.mems hi h
    · exact hTi h.symm

set_option maxRecDepth 100000 in
set_option maxHeartbeats 4000000 in
theorem leave_bad (W w : World) (b m : Nat) (nv : Value) (names : List ByteArray) (l : List (ByteArray × Value)) (name role who : ByteArray) (hB : BookAt W w b m nv names l) (hbad : (nameB role && nameB who) = false) :
    Calls Try.prog 22 #[.pointer (some ⟨b, 0, none⟩), .string name, .string role, .string who] w fun e w' => e = .returned (.int .i64 2) ∧ Below w.heap.size w w' := by
  have mk := made_calls w b m (hB.book.cell 1)
  obtain ⟨x, hx⟩ : ∃ x, nameB role = x := ⟨_, rfl⟩
  obtain ⟨y, hy⟩ : ∃ y, nameB who = y := ⟨_, rfl⟩
  rw [hx, hy] at hbad
  have NR := Lib.hid (fun (w : World) => hx ▸ name_calls w role)
  have NW := Lib.hid (fun (w : World) => hy ▸ name_calls w who)
  clear hB hx hy
  cases x
  · go_enter Try.func22, Try.ntmps22
    go_wp2_with (first
      | (go_at_call 42; refine mk.mono ?_; rintro e w' ⟨rfl, hw⟩; rw [hw]; clear hw)
      | (go_at_call 43; refine (NR.out _).mono ?_; rintro e w1 ⟨rfl, hB1⟩))
    go_ret
    exact ⟨rfl, hB1⟩
  · obtain rfl : y = false := by simpa using hbad
    go_enter Try.func22, Try.ntmps22
    go_wp2_with (first
      | (go_at_call 42; refine mk.mono ?_; rintro e w' ⟨rfl, hw⟩; rw [hw]; clear hw)
      | (go_at_call 43; refine (NW.out w1).mono ?_; rintro e w2 ⟨rfl, hB2⟩)
      | (go_at_call 43; refine (NR.out _).mono ?_; rintro e w1 ⟨rfl, hB1⟩))
    go_ret
    exact ⟨rfl, hB1.trans (hB2.mono hB1.size)⟩

set_option maxRecDepth 100000 in
set_option maxHeartbeats 4000000 in
theorem leave_missing (W w : World) (b m : Nat) (nv : Value) (names : List ByteArray) (l : List (ByteArray × Value)) (name role who : ByteArray) (hB : BookAt W w b m nv names l) (hl : findS l name = none) (hr : nameB role = true) (hw : nameB who = true) :
    Calls Try.prog 22 #[.pointer (some ⟨b, 0, none⟩), .string name, .string role, .string who] w fun e w' => e = .returned (.int .i64 6) ∧ Below w.heap.size w w' := by
  have hz : ∀ w : World, (zeroValue 97).run Try.prog w = .ok (.pointer none) w := fun w => by kernel_rfl
  have mk := made_calls w b m (hB.book.cell 1)
  have NR := Lib.hid (fun (w : World) => hr ▸ name_calls w role)
  have NW := Lib.hid (fun (w : World) => hw ▸ name_calls w who)
  have HB := Lib.hid hB
  have HL := Lib.hid hl
  clear hB hl hr hw
  go_enter Try.func22, Try.ntmps22
  go_wp2_with (first
    | (go_at_call 42; refine mk.mono ?_; rintro e w' ⟨rfl, hw⟩; rw [hw]; clear hw)
    | (go_at_call 43; refine (NW.out w1).mono ?_; rintro e w2 ⟨rfl, hB2⟩; have hBk := HB.out.on (hB1.trans (hB2.mono hB1.size)); have hlk := look_S Try.underlying44 Try.underlying9 hBk.all name (hz w2); rw [HL.out] at hlk; have d1 := hBk.book.cell 1)
    | (go_at_call 43; refine (NR.out _).mono ?_; rintro e w1 ⟨rfl, hB1⟩))
  have hOld3 : Below w.heap.size w (w2.alloc (.cells #[.string role, .string who] 106)) := (hB1.trans (hB2.mono hB1.size)).alloc (Nat.le_trans hB1.size hB2.size) _
  clear hlk d1
  generalize (w2.alloc (.cells #[.string role, .string who] 106)) = w3 at hOld3 ⊢
  refine wp_region_noPanic ?_
  refine wp_region_held_drew (S := fun _ => True) (by kernel_rfl) trivial (fun hhS => ?_)
  refine wpAnyH_take (i := 0) (oi := ⟨some 30, _, _, _, _, _⟩) (v := ?_) rfl (by kernel_rfl) (by kernel_rfl) (by kernel_rfl) (fun _ _ _ h => h) (Or.inl ⟨by rfl, ?_⟩) (by assumption) ?_
  rotate_left
  · intro w hSw
    (try dsimp only at hSw)
    go_simp
    all_goals (with_reducible rfl)
  try simp only [Act.put, List.setIfInBounds_toArray, List.set_cons_zero, List.set_cons_succ]
  refine wpAnyH_take (i := 1) (oi := ⟨some 31, _, _, _, _, _⟩) (v := ?_) rfl (by kernel_rfl) (by kernel_rfl) (by kernel_rfl) (fun _ _ _ h => h) (Or.inl ⟨by rfl, ?_⟩) (by assumption) ?_
  rotate_left
  · intro w hSw
    (try dsimp only at hSw)
    go_simp
    all_goals (with_reducible rfl)
  try simp only [Act.put, List.setIfInBounds_toArray, List.set_cons_zero, List.set_cons_succ]
  refine wpAnyH_take (i := 2) (oi := ⟨some 32, _, _, _, _, _⟩) (v := ?_) rfl (by kernel_rfl) (by kernel_rfl) (by kernel_rfl) (fun _ _ _ h => h) (Or.inl ⟨by rfl, ?_⟩) (by assumption) ?_
  rotate_left
  · intro w hSw
    (try dsimp only at hSw)
    go_simp
    all_goals (with_reducible rfl)
  try simp only [Act.put, List.setIfInBounds_toArray, List.set_cons_zero, List.set_cons_succ]
  refine wpAnyH_take (i := 3) (oi := ⟨some 33, _, _, _, _, _⟩) (v := undef) rfl (by kernel_rfl) (by kernel_rfl) (by kernel_rfl) (fun _ _ _ h => h) (Or.inr ⟨by rfl, rfl⟩) (by assumption) ?_
  try simp only [Act.put, List.setIfInBounds_toArray, List.set_cons_zero, List.set_cons_succ]
  refine wpAnyH_take (i := 4) (oi := ⟨some 34, _, _, _, _, _⟩) (v := undef) rfl (by kernel_rfl) (by kernel_rfl) (by kernel_rfl) (fun _ _ _ h => h) (Or.inr ⟨by rfl, rfl⟩) (by assumption) ?_
  try simp only [Act.put, List.setIfInBounds_toArray, List.set_cons_zero, List.set_cons_succ]
  refine wpAnyH_take (i := 5) (oi := ⟨some 35, _, _, _, _, _⟩) (v := undef) rfl (by kernel_rfl) (by kernel_rfl) (by kernel_rfl) (fun _ _ _ h => h) (Or.inr ⟨by rfl, rfl⟩) (by assumption) ?_
  try simp only [Act.put, List.setIfInBounds_toArray, List.set_cons_zero, List.set_cons_succ]
  refine wpAnyH_take (i := 6) (oi := ⟨some 36, _, _, _, _, _⟩) (v := undef) rfl (by kernel_rfl) (by kernel_rfl) (by kernel_rfl) (fun _ _ _ h => h) (Or.inr ⟨by rfl, rfl⟩) (by assumption) ?_
  try simp only [Act.put, List.setIfInBounds_toArray, List.set_cons_zero, List.set_cons_succ]
  refine wpAnyH_take (i := 7) (oi := ⟨some 37, _, _, _, _, _⟩) (v := undef) rfl (by kernel_rfl) (by kernel_rfl) (by kernel_rfl) (fun _ _ _ h => h) (Or.inr ⟨by rfl, rfl⟩) (by assumption) ?_
  try simp only [Act.put, List.setIfInBounds_toArray, List.set_cons_zero, List.set_cons_succ]
  refine wpAnyH_take (i := 8) (oi := ⟨some 38, _, _, _, _, _⟩) (v := undef) rfl (by kernel_rfl) (by kernel_rfl) (by kernel_rfl) (fun _ _ _ h => h) (Or.inr ⟨by rfl, rfl⟩) (by assumption) ?_
  try simp only [Act.put, List.setIfInBounds_toArray, List.set_cons_zero, List.set_cons_succ]
  refine wpAnyH_take (i := 9) (oi := ⟨some 39, _, _, _, _, _⟩) (v := undef) rfl (by kernel_rfl) (by kernel_rfl) (by kernel_rfl) (fun _ _ _ h => h) (Or.inr ⟨by rfl, rfl⟩) (by assumption) ?_
  try simp only [Act.put, List.setIfInBounds_toArray, List.set_cons_zero, List.set_cons_succ]
  refine wpAnyH_take (i := 10) (oi := ⟨some 40, _, _, _, _, _⟩) (v := ?_) rfl (by kernel_rfl) (by kernel_rfl) (by kernel_rfl) (fun _ _ _ h => h) (Or.inl ⟨by rfl, ?_⟩) (by assumption) ?_
  rotate_left
  · intro w hSw
    (try dsimp only at hSw)
    go_simp
    all_goals (with_reducible rfl)
  try simp only [Act.put, List.setIfInBounds_toArray, List.set_cons_zero, List.set_cons_succ]
  refine wpAnyH_done (by kernel_rfl) ?_ _
  refine NoPanic.normal ?_
  go_wp2
  go_ret
  exact ⟨rfl, hOld3.drew⟩

set_option maxRecDepth 100000 in
set_option maxHeartbeats 4000000 in
theorem leave_not (W w : World) (b m t mi : Nat) (nv rv mv : Value) (names : List ByteArray) (l : List (ByteArray × Value)) (name role who : ByteArray) (rules : List Rl) (ms : List (ByteArray × ByteArray)) (hB : BookAt W w b m nv names l) (hT : TenOwn W w t rv mv mi rules ms) (hl : findS l name = some (.pointer (some ⟨t, 0, none⟩))) (hr : nameB role = true) (hw : nameB who = true) (hnew : hasM ms (role, who) = false) :
    Calls Try.prog 22 #[.pointer (some ⟨b, 0, none⟩), .string name, .string role, .string who] w fun e w' => e = .returned (.int .i64 6) ∧ Below w.heap.size w w' := by
  have hz : ∀ w : World, (zeroValue 97).run Try.prog w = .ok (.pointer none) w := fun w => by kernel_rfl
  have c1 := hB.book.cell 1
  have mk := made_calls w b m c1
  have NR := Lib.hid (fun (w : World) => hr ▸ name_calls w role)
  have NW := Lib.hid (fun (w : World) => hw ▸ name_calls w who)
  obtain ⟨xr, kr, yr, hrv⟩ := slice_any hT.mems
  subst hrv
  have hne : m ≠ mi := map_ne hB.all hT.isIn (by rintro rfl; cases hl)
  have HNEW := Lib.hid hnew
  have HB := Lib.hid hB
  have HT := Lib.hid hT
  have HL := Lib.hid hl
  have HNE := Lib.hid hne
  clear hB hT hl hr hw hnew hne
  go_enter Try.func22, Try.ntmps22
  go_wp2_with (first
    | (go_at_call 42; refine mk.mono ?_; rintro e w' ⟨rfl, hw⟩; rw [hw]; clear hw)
    | (go_at_call 43; refine (NW.out w1).mono ?_; rintro e w2 ⟨rfl, hB2⟩; have hBk := HB.out.on (hB1.trans (hB2.mono hB1.size)); have hlk := look_S Try.underlying44 Try.underlying9 hBk.all name (hz w2); rw [HL.out] at hlk; have d1 := hBk.book.cell 1; have hTk := Lib.hid (HT.out.on (hB1.trans (hB2.mono hB1.size))); have HBk := Lib.hid hBk; clear hBk)
    | (go_at_call 43; refine (NR.out _).mono ?_; rintro e w1 ⟨rfl, hB1⟩))
  have hBA : Below w2.heap.size w2 (w2.alloc (.cells #[.string role, .string who] 106)) := (Below.refl _ _).alloc (Nat.le_refl _) _
  obtain ⟨M, hM⟩ : ∃ M, w2.heap.size = M := ⟨_, rfl⟩
  have hMt : M ≠ t := by
    have := hTk.out.ten.lt
    omega
  have hMv : (Value.slice xr kr yr).ownBlock ≠ some M := fun h => by
    obtain ⟨cur, hc⟩ := row_type hTk.out.mems h
    have := (Array.getElem?_eq_some_iff.1 hc).1
    omega
  have hJ : JK W (w2.alloc (.cells #[.string role, .string who] 106)) b m M t mi nv rv (.slice xr kr yr) names l rules ms role who := ⟨HBk.out.on hBA, hTk.out.on hBA, hM ▸ Whole.new w2 106 #[.string role, .string who]⟩
  rw [hM]
  have hOld3 : Below w.heap.size w (w2.alloc (.cells #[.string role, .string who] 106)) := (hB1.trans (hB2.mono hB1.size)).trans (hBA.mono (Nat.le_trans hB1.size hB2.size))
  clear hBA hlk d1
  generalize (w2.alloc (.cells #[.string role, .string who] 106)) = w3 at hJ hOld3 ⊢
  refine wp_region_noPanic ?_
  refine wp_region_held_drew (S := fun w' => JK W w' b m M t mi nv rv (.slice xr kr yr) names l rules ms role who) (by kernel_rfl) (hJ.on ((Below.refl _ _).drew)) (fun hhS => ?_)
  refine wpAnyH_take (i := 0) (oi := ⟨some 30, _, _, _, _, _⟩) (v := ?_) rfl (by kernel_rfl) (by kernel_rfl) (by kernel_rfl) (fun _ _ _ h => h) (Or.inl ⟨by rfl, ?_⟩) (by assumption) ?_
  rotate_left
  · intro w hSw
    (try dsimp only at hSw)
    go_simp
    all_goals (with_reducible rfl)
  try simp only [Act.put, List.setIfInBounds_toArray, List.set_cons_zero, List.set_cons_succ]
  refine wpAnyH_take (i := 1) (oi := ⟨some 31, _, _, _, _, _⟩) (v := ?_) rfl (by kernel_rfl) (by kernel_rfl) (by kernel_rfl) (fun _ _ _ h => h) (Or.inl ⟨by rfl, ?_⟩) (by assumption) ?_
  rotate_left
  · intro w hSw
    (try dsimp only at hSw)
    go_simp
    all_goals (with_reducible rfl)
  try simp only [Act.put, List.setIfInBounds_toArray, List.set_cons_zero, List.set_cons_succ]
  refine wpAnyH_take (i := 2) (oi := ⟨some 32, _, _, _, _, _⟩) (v := ?_) rfl (by kernel_rfl) (by kernel_rfl) (by kernel_rfl) (fun _ _ _ h => h) (Or.inl ⟨by rfl, ?_⟩) (by assumption) ?_
  rotate_left
  · intro w hSw
    (try dsimp only at hSw)
    go_simp
    all_goals (with_reducible rfl)
  try simp only [Act.put, List.setIfInBounds_toArray, List.set_cons_zero, List.set_cons_succ]
  refine wpAnyH_take (i := 3) (oi := ⟨some 33, _, _, _, _, _⟩) (v := ?_) rfl (by kernel_rfl) (by kernel_rfl) (by kernel_rfl) (fun _ _ _ h => h) (Or.inl ⟨by rfl, ?_⟩) (by assumption) ?_
  rotate_left
  · intro w hSw
    (try dsimp only at hSw)
    go_simp
    all_goals (with_reducible rfl)
  try simp only [Act.put, List.setIfInBounds_toArray, List.set_cons_zero, List.set_cons_succ]
  refine wpAnyH_take (i := 4) (oi := ⟨some 34, _, _, _, _, _⟩) (v := ?_) rfl (by kernel_rfl) (by kernel_rfl) (by kernel_rfl) (fun _ _ _ h => h) (Or.inl ⟨by rfl, ?_⟩) (by assumption) ?_
  rotate_left
  · intro w hSw
    (try dsimp only at hSw)
    go_simp
    all_goals (with_reducible rfl)
  try simp only [Act.put, List.setIfInBounds_toArray, List.set_cons_zero, List.set_cons_succ]
  refine wpAnyH_take (i := 5) (oi := ⟨some 35, _, _, _, _, _⟩) (v := ?_) rfl (by kernel_rfl) (by kernel_rfl) (by kernel_rfl) (fun _ _ _ h => h) (Or.inl ⟨by rfl, ?_⟩) (by assumption) ?_
  rotate_left
  · intro w hSw
    (try dsimp only at hSw)
    go_simp
    all_goals (with_reducible rfl)
  try simp only [Act.put, List.setIfInBounds_toArray, List.set_cons_zero, List.set_cons_succ]
  refine wpAnyH_take (i := 6) (oi := ⟨some 36, _, _, _, _, _⟩) (v := ?_) rfl (by kernel_rfl) (by kernel_rfl) (by kernel_rfl) (fun _ _ _ h => h) (Or.inl ⟨by rfl, ?_⟩) (by assumption) ?_
  rotate_left
  · intro w hSw
    (try dsimp only at hSw)
    obtain ⟨t1, t2, x0, x1⟩ := hSw.facts
    go_simp
    all_goals (with_reducible rfl)
  try simp only [Act.put, List.setIfInBounds_toArray, List.set_cons_zero, List.set_cons_succ]
  refine wpAnyH_take (i := 7) (oi := ⟨some 37, _, _, _, _, _⟩) (v := ?_) rfl (by kernel_rfl) (by kernel_rfl) (by kernel_rfl) (fun _ _ _ h => h) (Or.inl ⟨by rfl, ?_⟩) (by assumption) ?_
  rotate_left
  · intro w hSw
    (try dsimp only at hSw)
    obtain ⟨t1, t2, x0, x1⟩ := hSw.facts
    go_simp
    all_goals (with_reducible rfl)
  try simp only [Act.put, List.setIfInBounds_toArray, List.set_cons_zero, List.set_cons_succ]
  refine wpAnyH_take (i := 8) (oi := ⟨some 38, _, _, _, _, _⟩) (v := ?_) rfl (by kernel_rfl) (by kernel_rfl) (by kernel_rfl) (fun _ _ _ h => h) (Or.inl ⟨by rfl, ?_⟩) (by assumption) ?_
  rotate_left
  · intro w hSw
    (try dsimp only at hSw)
    have lk := look_M hSw.ten.isIn role who
    rw [HNEW.out] at lk
    go_simp
    all_goals (with_reducible rfl)
  try simp only [Act.put, List.setIfInBounds_toArray, List.set_cons_zero, List.set_cons_succ]
  refine wpAnyH_take (i := 9) (oi := ⟨some 39, _, _, _, _, _⟩) (v := ?_) rfl (by kernel_rfl) (by kernel_rfl) (by kernel_rfl) (fun _ _ _ h => h) (Or.inl ⟨by rfl, ?_⟩) (by assumption) ?_
  rotate_left
  · intro w hSw
    (try dsimp only at hSw)
    go_simp
    all_goals (with_reducible rfl)
  try simp only [Act.put, List.setIfInBounds_toArray, List.set_cons_zero, List.set_cons_succ]
  refine wpAnyH_take (i := 10) (oi := ⟨some 40, _, _, _, _, _⟩) (v := ?_) rfl (by kernel_rfl) (by kernel_rfl) (by kernel_rfl) (fun _ _ _ h => h) (Or.inl ⟨by rfl, ?_⟩) (by assumption) ?_
  rotate_left
  · intro w hSw
    (try dsimp only at hSw)
    go_simp
    all_goals (with_reducible rfl)
  try simp only [Act.put, List.setIfInBounds_toArray, List.set_cons_zero, List.set_cons_succ]
  refine wpAnyH_done (by kernel_rfl) ?_ _
  refine NoPanic.normal ?_
  have hJ8 := hhS
  have hOld : Below w.heap.size w w3.drew := hOld3.drew
  generalize w3.drew = w8 at hJ8 hOld ⊢
  go_wp2
  go_ret
  exact ⟨rfl, hOld⟩

set_option maxRecDepth 100000 in
set_option maxHeartbeats 4000000 in
theorem leave_new (W w : World) (b m t mi : Nat) (nv rv mv : Value) (names : List ByteArray) (l : List (ByteArray × Value)) (name role who : ByteArray) (rules : List Rl) (ms : List (ByteArray × ByteArray)) (hB : BookAt W w b m nv names l) (hT : TenOwn W w t rv mv mi rules ms) (hl : findS l name = some (.pointer (some ⟨t, 0, none⟩))) (hr : nameB role = true) (hw : nameB who = true) (hnew : hasM ms (role, who) = true) (hnd : ms.Nodup) (hlen : ms.length ≤ 1000) :
    Calls Try.prog 22 #[.pointer (some ⟨b, 0, none⟩), .string name, .string role, .string who] w fun e w' => e = .returned (.int .i64 0) ∧ BookAt W w' b m nv names l ∧ (∃ mv', TenOwn W w' t rv mv' mi rules (ms.filter fun x => !eqM x (role, who)) ∧ mv'.ownBlock = mv.ownBlock) ∧ Only w w' (fun i => (i = t ∨ mv.ownBlock = some i) ∨ i = mi) := by
  have hz : ∀ w : World, (zeroValue 97).run Try.prog w = .ok (.pointer none) w := fun w => by kernel_rfl
  have c1 := hB.book.cell 1
  have mk := made_calls w b m c1
  have NR := Lib.hid (fun (w : World) => hr ▸ name_calls w role)
  have NW := Lib.hid (fun (w : World) => hw ▸ name_calls w who)
  have hin : ∃ x ∈ ms, eqM x (role, who) = true := ⟨_, hasM_iff.1 hnew, eqM_iff.2 rfl⟩
  obtain ⟨g, hgo⟩ : ∃ g, mv.ownBlock = some g := by
    rcases row_shape hT.mems with ⟨_, hn⟩ | ⟨g, cap, hv, _⟩
    · obtain ⟨x, hx, _⟩ := hin
      rw [List.eq_nil_of_length_eq_zero hn] at hx
      cases hx
    · exact ⟨g, by rw [hv]; rfl⟩
  have HIN := Lib.hid hin
  have HND := Lib.hid hnd
  clear hin hnd
  obtain ⟨xr, kr, yr, hrv⟩ := slice_any hT.mems
  subst hrv
  have hne : m ≠ mi := map_ne hB.all hT.isIn (by rintro rfl; cases hl)
  have HNEW := Lib.hid hnew
  have HB := Lib.hid hB
  have HT := Lib.hid hT
  have HL := Lib.hid hl
  have HNE := Lib.hid hne
  clear hB hT hl hr hw hnew hne
  go_enter Try.func22, Try.ntmps22
  go_wp2_with (first
    | (go_at_call 42; refine mk.mono ?_; rintro e w' ⟨rfl, hw⟩; rw [hw]; clear hw)
    | (go_at_call 43; refine (NW.out w1).mono ?_; rintro e w2 ⟨rfl, hB2⟩; have hBk := HB.out.on (hB1.trans (hB2.mono hB1.size)); have hlk := look_S Try.underlying44 Try.underlying9 hBk.all name (hz w2); rw [HL.out] at hlk; have d1 := hBk.book.cell 1; have hTk := Lib.hid (HT.out.on (hB1.trans (hB2.mono hB1.size))); have HBk := Lib.hid hBk; clear hBk)
    | (go_at_call 43; refine (NR.out _).mono ?_; rintro e w1 ⟨rfl, hB1⟩))
  have hBA : Below w2.heap.size w2 (w2.alloc (.cells #[.string role, .string who] 106)) := (Below.refl _ _).alloc (Nat.le_refl _) _
  obtain ⟨M, hM⟩ : ∃ M, w2.heap.size = M := ⟨_, rfl⟩
  have hMt : M ≠ t := by
    have := hTk.out.ten.lt
    omega
  have hMv : (Value.slice xr kr yr).ownBlock ≠ some M := fun h => by
    obtain ⟨cur, hc⟩ := row_type hTk.out.mems h
    have := (Array.getElem?_eq_some_iff.1 hc).1
    omega
  have hJ : JK W (w2.alloc (.cells #[.string role, .string who] 106)) b m M t mi nv rv (.slice xr kr yr) names l rules ms role who := ⟨HBk.out.on hBA, hTk.out.on hBA, hM ▸ Whole.new w2 106 #[.string role, .string who]⟩
  rw [hM]
  have hOld3 : Below w.heap.size w (w2.alloc (.cells #[.string role, .string who] 106)) := (hB1.trans (hB2.mono hB1.size)).trans (hBA.mono (Nat.le_trans hB1.size hB2.size))
  clear hBA hlk d1
  generalize (w2.alloc (.cells #[.string role, .string who] 106)) = w3 at hJ hOld3 ⊢
  refine wp_region_noPanic ?_
  refine wp_region_held_drew (S := fun w' => JK W w' b m M t mi nv rv (.slice xr kr yr) names l rules ms role who) (by kernel_rfl) (hJ.on ((Below.refl _ _).drew)) (fun hhS => ?_)
  refine wpAnyH_take (i := 0) (oi := ⟨some 30, _, _, _, _, _⟩) (v := ?_) rfl (by kernel_rfl) (by kernel_rfl) (by kernel_rfl) (fun _ _ _ h => h) (Or.inl ⟨by rfl, ?_⟩) (by assumption) ?_
  rotate_left
  · intro w hSw
    (try dsimp only at hSw)
    go_simp
    all_goals (with_reducible rfl)
  try simp only [Act.put, List.setIfInBounds_toArray, List.set_cons_zero, List.set_cons_succ]
  refine wpAnyH_take (i := 1) (oi := ⟨some 31, _, _, _, _, _⟩) (v := ?_) rfl (by kernel_rfl) (by kernel_rfl) (by kernel_rfl) (fun _ _ _ h => h) (Or.inl ⟨by rfl, ?_⟩) (by assumption) ?_
  rotate_left
  · intro w hSw
    (try dsimp only at hSw)
    go_simp
    all_goals (with_reducible rfl)
  try simp only [Act.put, List.setIfInBounds_toArray, List.set_cons_zero, List.set_cons_succ]
  refine wpAnyH_take (i := 2) (oi := ⟨some 32, _, _, _, _, _⟩) (v := ?_) rfl (by kernel_rfl) (by kernel_rfl) (by kernel_rfl) (fun _ _ _ h => h) (Or.inl ⟨by rfl, ?_⟩) (by assumption) ?_
  rotate_left
  · intro w hSw
    (try dsimp only at hSw)
    go_simp
    all_goals (with_reducible rfl)
  try simp only [Act.put, List.setIfInBounds_toArray, List.set_cons_zero, List.set_cons_succ]
  refine wpAnyH_take (i := 3) (oi := ⟨some 33, _, _, _, _, _⟩) (v := ?_) rfl (by kernel_rfl) (by kernel_rfl) (by kernel_rfl) (fun _ _ _ h => h) (Or.inl ⟨by rfl, ?_⟩) (by assumption) ?_
  rotate_left
  · intro w hSw
    (try dsimp only at hSw)
    go_simp
    all_goals (with_reducible rfl)
  try simp only [Act.put, List.setIfInBounds_toArray, List.set_cons_zero, List.set_cons_succ]
  refine wpAnyH_take (i := 4) (oi := ⟨some 34, _, _, _, _, _⟩) (v := ?_) rfl (by kernel_rfl) (by kernel_rfl) (by kernel_rfl) (fun _ _ _ h => h) (Or.inl ⟨by rfl, ?_⟩) (by assumption) ?_
  rotate_left
  · intro w hSw
    (try dsimp only at hSw)
    go_simp
    all_goals (with_reducible rfl)
  try simp only [Act.put, List.setIfInBounds_toArray, List.set_cons_zero, List.set_cons_succ]
  refine wpAnyH_take (i := 5) (oi := ⟨some 35, _, _, _, _, _⟩) (v := ?_) rfl (by kernel_rfl) (by kernel_rfl) (by kernel_rfl) (fun _ _ _ h => h) (Or.inl ⟨by rfl, ?_⟩) (by assumption) ?_
  rotate_left
  · intro w hSw
    (try dsimp only at hSw)
    go_simp
    all_goals (with_reducible rfl)
  try simp only [Act.put, List.setIfInBounds_toArray, List.set_cons_zero, List.set_cons_succ]
  refine wpAnyH_take (i := 6) (oi := ⟨some 36, _, _, _, _, _⟩) (v := ?_) rfl (by kernel_rfl) (by kernel_rfl) (by kernel_rfl) (fun _ _ _ h => h) (Or.inl ⟨by rfl, ?_⟩) (by assumption) ?_
  rotate_left
  · intro w hSw
    (try dsimp only at hSw)
    obtain ⟨t1, t2, x0, x1⟩ := hSw.facts
    go_simp
    all_goals (with_reducible rfl)
  try simp only [Act.put, List.setIfInBounds_toArray, List.set_cons_zero, List.set_cons_succ]
  refine wpAnyH_take (i := 7) (oi := ⟨some 37, _, _, _, _, _⟩) (v := ?_) rfl (by kernel_rfl) (by kernel_rfl) (by kernel_rfl) (fun _ _ _ h => h) (Or.inl ⟨by rfl, ?_⟩) (by assumption) ?_
  rotate_left
  · intro w hSw
    (try dsimp only at hSw)
    obtain ⟨t1, t2, x0, x1⟩ := hSw.facts
    go_simp
    all_goals (with_reducible rfl)
  try simp only [Act.put, List.setIfInBounds_toArray, List.set_cons_zero, List.set_cons_succ]
  refine wpAnyH_take (i := 8) (oi := ⟨some 38, _, _, _, _, _⟩) (v := ?_) rfl (by kernel_rfl) (by kernel_rfl) (by kernel_rfl) (fun _ _ _ h => h) (Or.inl ⟨by rfl, ?_⟩) (by assumption) ?_
  rotate_left
  · intro w hSw
    (try dsimp only at hSw)
    have lk := look_M hSw.ten.isIn role who
    rw [HNEW.out] at lk
    go_simp
    all_goals (with_reducible rfl)
  try simp only [Act.put, List.setIfInBounds_toArray, List.set_cons_zero, List.set_cons_succ]
  refine wpAnyH_take (i := 9) (oi := ⟨some 39, _, _, _, _, _⟩) (v := ?_) rfl (by kernel_rfl) (by kernel_rfl) (by kernel_rfl) (fun _ _ _ h => h) (Or.inl ⟨by rfl, ?_⟩) (by assumption) ?_
  rotate_left
  · intro w hSw
    (try dsimp only at hSw)
    go_simp
    all_goals (with_reducible rfl)
  try simp only [Act.put, List.setIfInBounds_toArray, List.set_cons_zero, List.set_cons_succ]
  refine wpAnyH_take (i := 10) (oi := ⟨some 40, _, _, _, _, _⟩) (v := ?_) rfl (by kernel_rfl) (by kernel_rfl) (by kernel_rfl) (fun _ _ _ h => h) (Or.inl ⟨by rfl, ?_⟩) (by assumption) ?_
  rotate_left
  · intro w hSw
    (try dsimp only at hSw)
    go_simp
    all_goals (with_reducible rfl)
  try simp only [Act.put, List.setIfInBounds_toArray, List.set_cons_zero, List.set_cons_succ]
  refine wpAnyH_done (by kernel_rfl) ?_ _
  refine NoPanic.normal ?_
  have hJ8 := hhS
  have hOld : Below w.heap.size w w3.drew := hOld3.drew
  generalize w3.drew = w8 at hJ8 hOld ⊢
  obtain ⟨t1, t2, x0, x1⟩ := hJ8.facts
  have hgM : g ≠ M := fun e => hMv (e ▸ hgo)
  go_wp2_with (go_at_call 54; refine (deletefunc_M _ W.heap.size M g _ ms (role, who) hJ8.ten.mems hgo hJ8.mem hgM hlen HIN.out).mono ?_; rintro e w7 ⟨v7, rfl, hO7, hv7, hOn7⟩; obtain ⟨x7, k7, y7, he7⟩ := slice_any hO7; subst he7; have hOn8 := hOn7.weak (T := fun i => (Value.slice xr kr yr).ownBlock = some i) (fun i _ e => by rw [e]; exact hgo); obtain ⟨f0, f1, _, hM9, hB9, hT9, hO9⟩ := leave_mem hJ8.book hJ8.ten hJ8.mem hMt hMv hO7 hOn8)
  generalize (w7.setCell ⟨t, 1, none⟩ (.slice x7 k7 y7)) = w9 at hM9 hB9 hT9 hO9 ⊢
  refine wp_region_noPanic ?_
  refine wp_region_held_drew (S := fun w' => Whole w' t 101 [rv, .slice x7 k7 y7, .map (some mi)] ∧ Whole w' M 106 [.string role, .string who]) (by kernel_rfl) ⟨hT9.ten, hM9⟩ (fun hhS => ?_)
  have hgB := hB9.on ((Below.refl _ _).drew)
  have hgT := hT9.on ((Below.refl _ _).drew)
  have hD : Below w9.heap.size w9 w9.drew := (Below.refl _ _).drew
  generalize w9.drew = wd at hgB hgT hD hhS ⊢
  refine wpAnyH_take (i := 0) (oi := ⟨some 50, _, _, _, _, _⟩) (v := ?_) rfl (by kernel_rfl) (by kernel_rfl) (by kernel_rfl) (fun _ _ _ h => h) (Or.inl ⟨by rfl, ?_⟩) (by assumption) ?_
  rotate_left
  · intro w hSw
    (try dsimp only at hSw)
    go_simp
    all_goals (with_reducible rfl)
  try simp only [Act.put, List.setIfInBounds_toArray, List.set_cons_zero, List.set_cons_succ]
  refine wpAnyH_take (i := 1) (oi := ⟨some 51, _, _, _, _, _⟩) (v := ?_) rfl (by kernel_rfl) (by kernel_rfl) (by kernel_rfl) (fun _ _ _ h => h) (Or.inl ⟨by rfl, ?_⟩) (by assumption) ?_
  rotate_left
  · intro w hSw
    (try dsimp only at hSw)
    go_simp
    all_goals (with_reducible rfl)
  try simp only [Act.put, List.setIfInBounds_toArray, List.set_cons_zero, List.set_cons_succ]
  refine wpAnyH_take (i := 2) (oi := ⟨some 52, _, _, _, _, _⟩) (v := ?_) rfl (by kernel_rfl) (by kernel_rfl) (by kernel_rfl) (fun _ _ _ h => h) (Or.inl ⟨by rfl, ?_⟩) (by assumption) ?_
  rotate_left
  · intro w hSw
    (try dsimp only at hSw)
    go_simp
    all_goals (with_reducible rfl)
  try simp only [Act.put, List.setIfInBounds_toArray, List.set_cons_zero, List.set_cons_succ]
  refine wpAnyH_take (i := 3) (oi := ⟨some 53, _, _, _, _, _⟩) (v := ?_) rfl (by kernel_rfl) (by kernel_rfl) (by kernel_rfl) (fun _ _ _ h => h) (Or.inl ⟨by rfl, ?_⟩) (by assumption) ?_
  rotate_left
  · intro w hSw
    (try dsimp only at hSw)
    have x2 := hSw.1.cell 2
    go_simp
    all_goals (with_reducible rfl)
  try simp only [Act.put, List.setIfInBounds_toArray, List.set_cons_zero, List.set_cons_succ]
  refine wpAnyH_take (i := 4) (oi := ⟨some 54, _, _, _, _, _⟩) (v := ?_) rfl (by kernel_rfl) (by kernel_rfl) (by kernel_rfl) (fun _ _ _ h => h) (Or.inl ⟨by rfl, ?_⟩) (by assumption) ?_
  rotate_left
  · intro w hSw
    (try dsimp only at hSw)
    have x0 := hSw.2.cell 0
    have x1 := hSw.2.cell 1
    go_simp
    all_goals (with_reducible rfl)
  try simp only [Act.put, List.setIfInBounds_toArray, List.set_cons_zero, List.set_cons_succ]
  obtain ⟨w5, hrun, hM5, hG5⟩ := drop_M hgT.isIn role who HNEW.out HND.out
  obtain ⟨hS5, hB5, ⟨ht5, hr5, hm5⟩, hO5⟩ := join_put hgB hgT hhS.2 HNE.out hM5 hG5
  refine wpAnyH_ready (rs := [5]) (by kernel_rfl) (by simp) ?_
  refine AllReadyH.cons (o := ⟨none, _, _, _, _, _⟩) rfl (fun K hK => ?_) AllReadyH.nil
  go_simp
  refine hK.out _ _ hS5 (fun hh5 => ?_)
  clear hK K
  try simp only [Act.put]
  refine wpAnyH_done (by kernel_rfl) ?_ _
  refine NoPanic.normal ?_
  go_wp2
  go_ret
  exact ⟨rfl, hB5, ⟨_, ⟨ht5, hr5, hm5, hM5, hgT.get, hgT.gei⟩, hv7.trans hgo.symm⟩, (((Only.of_below hOld (fun _ => False)).trans (hO9.trans ((Only.of_below hD (fun _ => False)).trans hO5)))).weak fun i _ h => h.elim False.elim fun h => h.elim Or.inl fun h => h.elim False.elim Or.inr⟩

end Go.Proofs.Ytglcingpolpkdaa
