/- The five steps of a checkpoint. -/
import Derived.Test.YtmmlpbepaefamaaGreatDoorSFs
import Derived.Test.YtmmlpbepaefamaaGreatDoorSMoreX2
namespace Go.Proofs.YtmmlpbepaefamaaGreatDoor
open Go.RowKit Go.MapKept

theorem KX.drew {W w w' : World} {d n : Nat} {S : Nat → Prop} {A : Fs} {ks : List Int} (h : KX W w.drew w' d S A ks n) : KX W w w' d S A ks n := by
  obtain ⟨S', hD, ho, hs⟩ := h
  have hb := (Below.refl w.heap.size w).drew
  exact ⟨S', hD, ((Only.of_below hb S).trans ho).weak fun i _ e => e.elim id id, fun i hi e => hs i (Nat.lt_of_lt_of_le hi hb.size) e⟩

theorem tmpN_size (base : ByteArray) : (tmpN base).size = base.size + 4 := by
  unfold tmpN
  rw [ByteArray.size_append]
  rfl
theorem snapN_size (base : ByteArray) : (snapN base).size = base.size + 5 := by
  unfold snapN
  rw [ByteArray.size_append]
  rfl
/-- What the closures hold: the store, the name of the file that is laid down, its bytes. -/
structure CkC (w : World) (s d g mb : Nat) (base : ByteArray) (j : Value) (b1 t c : Nat) (u : Value) : Prop where
  box : Whole w s 64 (storC d base g j mb)
  st : Whole w b1 26 [.pointer (some ⟨s, 0, none⟩)]
  tm : Whole w t 9 [.string (tmpN base)]
  by' : Whole w c 30 [u]
theorem CkC.low {w w' : World} {s d g mb b1 t c : Nat} {base : ByteArray} {j u : Value} (h : CkC w s d g mb base j b1 t c u) (hb : Below w.heap.size w w') : CkC w' s d g mb base j b1 t c u :=
  ⟨h.box.below hb h.box.lt, h.st.below hb h.st.lt, h.tm.below hb h.tm.lt, h.by'.below hb h.by'.lt⟩
theorem CkC.only {w w' : World} {s d g mb b1 t c : Nat} {base : ByteArray} {j u : Value} {Z : Nat → Prop} (h : CkC w s d g mb base j b1 t c u) (ho : Only w w' Z) (h1 : ¬ Z s) (h2 : ¬ Z b1) (h3 : ¬ Z t) (h4 : ¬ Z c) : CkC w' s d g mb base j b1 t c u :=
  ⟨h.box.only ho h1, h.st.only ho h2, h.tm.only ho h3, h.by'.only ho h4⟩

set_option maxRecDepth 100000 in
set_option maxHeartbeats 4000000 in
theorem ck1_none (W w : World) (d n s g mb b1 t c : Nat) (S : Nat → Prop) (A : Fs) (ks : List Int) (base : ByteArray) (j u : Value) (h : KD W w d S A ks n) (hC : CkC w s d g mb base j b1 t c u) (ht : getA A (tmpN base) = none) :
    Calls Tryz.prog 40 #[.pointer (some ⟨b1, 0, none⟩), .pointer (some ⟨t, 0, none⟩)] w fun r w' => r = .returned (.int .i64 0) ∧ w = w' := by
  have HC := Lib.hid (sclear_none W w d n s g mb S A ks base j g h hC.box (tmpN base) ht)
  have c1 : w.cell? ⟨b1, 0, none⟩ = some (.pointer (some ⟨s, 0, none⟩)) := hC.st.cell 0
  have c2 : w.cell? ⟨t, 0, none⟩ = some (.string (tmpN base)) := hC.tm.cell 0
  clear h hC ht
  go_enter Tryz.func40, Tryz.ntmps40
  go_wp2_with (first
    | (go_at_call 41; refine HC.out.mono ?_; rintro r w1 ⟨rfl, rfl⟩)
    | fail)
  go_ret
  exact ⟨rfl, rfl⟩

set_option maxRecDepth 100000 in
set_option maxHeartbeats 4000000 in
theorem ck1_some (W w : World) (d n s g mb b1 t c : Nat) (S : Nat → Prop) (A A' : Fs) (ks : List Int) (base : ByteArray) (j u : Value) (e : Int) (h : KD W w d S A ks n) (hC : CkC w s d g mb base j b1 t c u) (hA : okA A) (hn : n ≤ 1000000) (f : Dfile) (ht : getA A (tmpN base) = some f) (hr : remR A (refB ks n) (tmpN base) = (e, A')) :
    Calls Tryz.prog 40 #[.pointer (some ⟨b1, 0, none⟩), .pointer (some ⟨t, 0, none⟩)] w fun r w' => r = .returned (.int .i64 e) ∧ KX W w w' d S A' ks (n + 1) := by
  have HC := Lib.hid (sclear_some W w d n s g mb S A A' ks base j g e h hA hn hC.box (tmpN base) f ht hr)
  have c1 : w.cell? ⟨b1, 0, none⟩ = some (.pointer (some ⟨s, 0, none⟩)) := hC.st.cell 0
  have c2 : w.cell? ⟨t, 0, none⟩ = some (.string (tmpN base)) := hC.tm.cell 0
  clear h hC ht hr
  go_enter Tryz.func40, Tryz.ntmps40
  go_wp2_with (first
    | (go_at_call 41; refine HC.out.mono ?_; rintro r w1 ⟨rfl, hx⟩)
    | fail)
  go_ret
  exact ⟨rfl, hx⟩

set_option maxRecDepth 100000 in
set_option maxHeartbeats 4000000 in
theorem ck2_none (W w : World) (d n s g mb b1 t c : Nat) (S : Nat → Prop) (A : Fs) (ks : List Int) (base : ByteArray) (j u : Value) (h : KD W w d S A ks n) (hC : CkC w s d g mb base j b1 t c u) (hg : g < 99) (hbs : base.size ≤ 900) (ht : getA A (logN base (g + 1)) = none) :
    Calls Tryz.prog 42 #[.pointer (some ⟨b1, 0, none⟩)] w fun r w' => r = .returned (.int .i64 0) ∧ Below w.heap.size w w' := by
  have s1 : IntKind.i64.wrap ((g : Int) + 1) = ((g + 1 : Nat) : Int) := by rw [IntWalk.i64_in _ (by omega)]; omega
  have hd := (Below.refl w.heap.size w).drew
  have HL := Lib.hid (logname_calls w.drew s d mb (g + 1) base g j (hC.low hd).box (by omega) (by omega))
  have HC := Lib.hid (fun w5 (hb : Below w.drew.heap.size w.drew w5) => sclear_none W w5 d n s g mb S A ks base j g ((h.low hd).low hb) ((hC.low hd).low hb).box (logN base (g + 1)) ht)
  have x0 : w.drew.cell? ⟨b1, 0, none⟩ = some (.pointer (some ⟨s, 0, none⟩)) := (hC.low hd).st.cell 0
  have x2 : w.drew.cell? ⟨s, 2, none⟩ = some (.int .i64 g) := (hC.low hd).box.cell 2
  have hbl := hC.st.lt
  have hsl := hC.box.lt
  clear h hC ht
  go_enter Tryz.func42, Tryz.ntmps42
  go_wp2
  refine wp_region_noPanic ?_
  refine wp_region_held_drew (S := fun w' => w'.cell? ⟨b1, 0, none⟩ = some (.pointer (some ⟨s, 0, none⟩)) ∧ w'.cell? ⟨s, 2, none⟩ = some (.int .i64 g)) (by kernel_rfl) (⟨x0, x2⟩) (fun hhS => ?_)
  generalize w.drew = wd at HL HC hhS hd x0 x2 ⊢
  refine wpAnyH_take (i := 0) (oi := ⟨some 2, _, _, _, _, _⟩) (v := ?_) rfl (by kernel_rfl) (by kernel_rfl) (by kernel_rfl) (fun _ _ _ h => h) (Or.inl ⟨by rfl, ?_⟩) (by assumption) ?_
  rotate_left
  · intro w hSw
    (try dsimp only at hSw)
    have y0 := hSw.1
    have y2 := hSw.2
    go_simp
    all_goals (with_reducible rfl)
  try simp only [Act.put, List.setIfInBounds_toArray, List.set_cons_zero, List.set_cons_succ]
  refine wpAnyH_take (i := 1) (oi := ⟨some 3, _, _, _, _, _⟩) (v := ?_) rfl (by kernel_rfl) (by kernel_rfl) (by kernel_rfl) (fun _ _ _ h => h) (Or.inl ⟨by rfl, ?_⟩) (by assumption) ?_
  rotate_left
  · intro w hSw
    (try dsimp only at hSw)
    have y0 := hSw.1
    have y2 := hSw.2
    go_simp
    all_goals (with_reducible rfl)
  try simp only [Act.put, List.setIfInBounds_toArray, List.set_cons_zero, List.set_cons_succ]
  refine wpAnyH_take (i := 2) (oi := ⟨some 4, _, _, _, _, _⟩) (v := ?_) rfl (by kernel_rfl) (by kernel_rfl) (by kernel_rfl) (fun _ _ _ h => h) (Or.inl ⟨by rfl, ?_⟩) (by assumption) ?_
  rotate_left
  · intro w hSw
    (try dsimp only at hSw)
    have y0 := hSw.1
    have y2 := hSw.2
    go_simp
    all_goals (with_reducible rfl)
  try simp only [Act.put, List.setIfInBounds_toArray, List.set_cons_zero, List.set_cons_succ]
  refine wpAnyH_take (i := 3) (oi := ⟨some 5, _, _, _, _, _⟩) (v := ?_) rfl (by kernel_rfl) (by kernel_rfl) (by kernel_rfl) (fun _ _ _ h => h) (Or.inl ⟨by rfl, ?_⟩) (by assumption) ?_
  rotate_left
  · intro w hSw
    (try dsimp only at hSw)
    go_simp
    all_goals (with_reducible rfl)
  try simp only [Act.put, List.setIfInBounds_toArray, List.set_cons_zero, List.set_cons_succ]
  refine wpAnyH_take (i := 4) (oi := ⟨some 6, _, _, _, _, _⟩) (v := ?_) rfl (by kernel_rfl) (by kernel_rfl) (by kernel_rfl) (fun _ _ _ h => h) (Or.inl ⟨by rfl, ?_⟩) (by assumption) ?_
  rotate_left
  · intro w hSw
    (try dsimp only at hSw)
    go_simp
    all_goals (with_reducible rfl)
  try simp only [Act.put, List.setIfInBounds_toArray, List.set_cons_zero, List.set_cons_succ]
  refine wpAnyH_take (i := 5) (oi := ⟨some 7, _, _, _, _, _⟩) (v := ?_) rfl (by kernel_rfl) (by kernel_rfl) (by kernel_rfl) (fun _ _ _ h => h) (Or.inl ⟨by rfl, ?_⟩) (by assumption) ?_
  rotate_left
  · intro w hSw
    (try dsimp only at hSw)
    have y0 := hSw.1
    have y2 := hSw.2
    go_simp
    all_goals (with_reducible rfl)
  try simp only [Act.put, List.setIfInBounds_toArray, List.set_cons_zero, List.set_cons_succ]
  refine wpAnyH_take (i := 6) (oi := ⟨some 8, _, _, _, _, _⟩) (v := ?_) rfl (by kernel_rfl) (by kernel_rfl) (by kernel_rfl) (fun _ _ _ h => h) (Or.inl ⟨by rfl, ?_⟩) (by assumption) ?_
  rotate_left
  · intro w hSw
    (try dsimp only at hSw)
    go_simp
    all_goals (with_reducible rfl)
  try simp only [Act.put, List.setIfInBounds_toArray, List.set_cons_zero, List.set_cons_succ]
  refine wpAnyH_ready (rs := [7]) (by kernel_rfl) (by simp) ?_
  refine AllReadyH.cons (o := ⟨some 9, _, _, _, _, _⟩) rfl (fun K hK => ?_) AllReadyH.nil
  go_simp
  refine HL.out.mono ?_
  rintro r w5 ⟨rfl, hb5⟩
  refine hK.out _ _ (⟨(hb5.cell (p := ⟨b1, 0, none⟩) (Nat.lt_of_lt_of_le hbl hd.size)).trans hhS.1, (hb5.cell (p := ⟨s, 2, none⟩) (Nat.lt_of_lt_of_le hsl hd.size)).trans hhS.2⟩) (fun _ => ?_)
  clear hK K
  try simp only [Act.put, List.setIfInBounds_toArray, List.set_cons_zero, List.set_cons_succ]
  refine wpAnyH_ready (rs := [8]) (by kernel_rfl) (by simp) ?_
  refine AllReadyH.cons (o := ⟨some 10, _, _, _, _, _⟩) rfl (fun K hK => ?_) AllReadyH.nil
  go_simp
  refine (HC.out w5 hb5).mono ?_
  rintro r w6 ⟨rfl, rfl⟩
  refine hK.out _ _ (⟨(hb5.cell (p := ⟨b1, 0, none⟩) (Nat.lt_of_lt_of_le hbl hd.size)).trans hhS.1, (hb5.cell (p := ⟨s, 2, none⟩) (Nat.lt_of_lt_of_le hsl hd.size)).trans hhS.2⟩) (fun _ => ?_)
  clear hK K
  try simp only [Act.put, List.setIfInBounds_toArray, List.set_cons_zero, List.set_cons_succ]
  refine wpAnyH_take (i := 9) (oi := ⟨some 1, _, _, _, _, _⟩) (v := ?_) rfl (by kernel_rfl) (by kernel_rfl) (by kernel_rfl) (fun _ _ _ h => h) (Or.inl ⟨by rfl, ?_⟩) (by assumption) ?_
  rotate_left
  · intro w hSw
    (try dsimp only at hSw)
    go_simp
    all_goals (with_reducible rfl)
  try simp only [Act.put, List.setIfInBounds_toArray, List.set_cons_zero, List.set_cons_succ]
  refine wpAnyH_done (by kernel_rfl) ?_ _
  refine NoPanic.normal ?_
  go_wp2
  go_ret
  exact ⟨rfl, hd.trans (hb5.mono hd.size)⟩

set_option maxRecDepth 100000 in
set_option maxHeartbeats 4000000 in
theorem ck3_calls (W w : World) (d n s g mb b1 t c : Nat) (S : Nat → Prop) (A A' : Fs) (ks : List Int) (base : ByteArray) (j u : Value) (e : Int) (h : KD W w d S A ks n) (hC : CkC w s d g mb base j b1 t c u) (hA : okA A) (hn : n ≤ 1000000) (hSs : ¬ S s) (hS1 : ¬ S b1) (hSt : ¬ S t) (hSc : ¬ S c) (hbs : base.size ≤ 900) (b : List (BitVec 8)) (hu : SliceIs w u b) (hul : ∃ a k q, u = .slice a k q) (hbd : b ≠ [] → ∀ g o c, u = .slice (some ⟨g, o, none⟩) b.length c → ¬ S g) (hbl : b.length ≤ 4611686018427387904) (hr : appR A (refB ks n) (tmpN base) b = (e, A')) :
    Calls Tryz.prog 43 #[.pointer (some ⟨b1, 0, none⟩), .pointer (some ⟨t, 0, none⟩), .pointer (some ⟨c, 0, none⟩)] w fun r w' => r = .returned (.int .i64 e) ∧ KX W w w' d S A' ks (n + 1) := by
  have hd := (Below.refl w.heap.size w).drew
  obtain ⟨ua, uk, uq, rfl⟩ := hul
  have HC := Lib.hid (kd_append_at (h.low hd) hA hn (tmpN base) (by have := tmpN_size base; omega) _ b (hu.low hd) hbd hbl hr)
  have HX := Lib.hid (hC.low hd)
  have x0 : w.drew.cell? ⟨b1, 0, none⟩ = some (.pointer (some ⟨s, 0, none⟩)) := HX.out.st.cell 0
  have x1 : w.drew.cell? ⟨s, 0, none⟩ = some (.pointer (some ⟨d, 0, none⟩)) := HX.out.box.cell 0
  have x2 : w.drew.cell? ⟨t, 0, none⟩ = some (.string (tmpN base)) := HX.out.tm.cell 0
  have x3 : w.drew.cell? ⟨c, 0, none⟩ = some (.slice ua uk uq) := HX.out.by'.cell 0
  have x4 : w.drew.cell? ⟨s, 1, none⟩ = some (.string base) := HX.out.box.cell 1
  clear h hC
  go_enter Tryz.func43, Tryz.ntmps43
  go_wp2
  refine wp_region_noPanic ?_
  refine wp_region_held_drew (S := fun w' => w'.cell? ⟨b1, 0, none⟩ = some (.pointer (some ⟨s, 0, none⟩)) ∧ w'.cell? ⟨s, 0, none⟩ = some (.pointer (some ⟨d, 0, none⟩)) ∧ w'.cell? ⟨t, 0, none⟩ = some (.string (tmpN base)) ∧ w'.cell? ⟨c, 0, none⟩ = some (.slice ua uk uq)) (by kernel_rfl) (⟨x0, x1, x2, x3⟩) (fun hhS => ?_)
  refine wpAnyH_take (i := 0) (oi := ⟨some 4, _, _, _, _, _⟩) (v := ?_) rfl (by kernel_rfl) (by kernel_rfl) (by kernel_rfl) (fun _ _ _ h => h) (Or.inl ⟨by rfl, ?_⟩) (by assumption) ?_
  rotate_left
  · intro w hSw
    (try dsimp only at hSw)
    have y0 := hSw.1
    have y1 := hSw.2.1
    have y2 := hSw.2.2.1
    have y3 := hSw.2.2.2
    go_simp
    all_goals (with_reducible rfl)
  try simp only [Act.put, List.setIfInBounds_toArray, List.set_cons_zero, List.set_cons_succ]
  refine wpAnyH_take (i := 1) (oi := ⟨some 5, _, _, _, _, _⟩) (v := ?_) rfl (by kernel_rfl) (by kernel_rfl) (by kernel_rfl) (fun _ _ _ h => h) (Or.inl ⟨by rfl, ?_⟩) (by assumption) ?_
  rotate_left
  · intro w hSw
    (try dsimp only at hSw)
    go_simp
    all_goals (with_reducible rfl)
  try simp only [Act.put, List.setIfInBounds_toArray, List.set_cons_zero, List.set_cons_succ]
  refine wpAnyH_take (i := 2) (oi := ⟨some 6, _, _, _, _, _⟩) (v := ?_) rfl (by kernel_rfl) (by kernel_rfl) (by kernel_rfl) (fun _ _ _ h => h) (Or.inl ⟨by rfl, ?_⟩) (by assumption) ?_
  rotate_left
  · intro w hSw
    (try dsimp only at hSw)
    go_simp
    all_goals (with_reducible rfl)
  try simp only [Act.put, List.setIfInBounds_toArray, List.set_cons_zero, List.set_cons_succ]
  refine wpAnyH_take (i := 3) (oi := ⟨some 7, _, _, _, _, _⟩) (v := ?_) rfl (by kernel_rfl) (by kernel_rfl) (by kernel_rfl) (fun _ _ _ h => h) (Or.inl ⟨by rfl, ?_⟩) (by assumption) ?_
  rotate_left
  · intro w hSw
    (try dsimp only at hSw)
    have y0 := hSw.1
    have y1 := hSw.2.1
    have y2 := hSw.2.2.1
    have y3 := hSw.2.2.2
    go_simp
    all_goals (with_reducible rfl)
  try simp only [Act.put, List.setIfInBounds_toArray, List.set_cons_zero, List.set_cons_succ]
  refine wpAnyH_take (i := 4) (oi := ⟨some 8, _, _, _, _, _⟩) (v := ?_) rfl (by kernel_rfl) (by kernel_rfl) (by kernel_rfl) (fun _ _ _ h => h) (Or.inl ⟨by rfl, ?_⟩) (by assumption) ?_
  rotate_left
  · intro w hSw
    (try dsimp only at hSw)
    have y0 := hSw.1
    have y1 := hSw.2.1
    have y2 := hSw.2.2.1
    have y3 := hSw.2.2.2
    go_simp
    all_goals (with_reducible rfl)
  try simp only [Act.put, List.setIfInBounds_toArray, List.set_cons_zero, List.set_cons_succ]
  refine wpAnyH_take (i := 5) (oi := ⟨some 9, _, _, _, _, _⟩) (v := ?_) rfl (by kernel_rfl) (by kernel_rfl) (by kernel_rfl) (fun _ _ _ h => h) (Or.inl ⟨by rfl, ?_⟩) (by assumption) ?_
  rotate_left
  · intro w hSw
    (try dsimp only at hSw)
    have y0 := hSw.1
    have y1 := hSw.2.1
    have y2 := hSw.2.2.1
    have y3 := hSw.2.2.2
    go_simp
    all_goals (with_reducible rfl)
  try simp only [Act.put, List.setIfInBounds_toArray, List.set_cons_zero, List.set_cons_succ]
  refine wpAnyH_ready (rs := [6]) (by kernel_rfl) (by simp) ?_
  refine AllReadyH.cons (o := ⟨some 10, _, _, _, _, _⟩) rfl (fun K hK => ?_) AllReadyH.nil
  go_simp
  refine HC.out.mono ?_
  rintro r w5 ⟨rfl, hx5⟩
  have HX5 := HX.out.only hx5.choose_spec.2.1 hSs hS1 hSt hSc
  refine hK.out _ _ (⟨HX5.st.cell 0, HX5.box.cell 0, HX5.tm.cell 0, HX5.by'.cell 0⟩) (fun _ => ?_)
  clear hK K
  try simp only [Act.put, List.setIfInBounds_toArray, List.set_cons_zero, List.set_cons_succ]
  refine wpAnyH_take (i := 7) (oi := ⟨some 3, _, _, _, _, _⟩) (v := ?_) rfl (by kernel_rfl) (by kernel_rfl) (by kernel_rfl) (fun _ _ _ h => h) (Or.inl ⟨by rfl, ?_⟩) (by assumption) ?_
  rotate_left
  · intro w hSw
    (try dsimp only at hSw)
    go_simp
    all_goals (with_reducible rfl)
  try simp only [Act.put, List.setIfInBounds_toArray, List.set_cons_zero, List.set_cons_succ]
  refine wpAnyH_done (by kernel_rfl) ?_ _
  refine NoPanic.normal ?_
  go_wp2
  go_ret
  exact ⟨rfl, hx5.drew⟩

set_option maxRecDepth 100000 in
set_option maxHeartbeats 4000000 in
theorem ck4_calls (W w : World) (d n s g mb b1 t c : Nat) (S : Nat → Prop) (A A' : Fs) (ks : List Int) (base : ByteArray) (j u : Value) (e : Int) (h : KD W w d S A ks n) (hC : CkC w s d g mb base j b1 t c u) (hA : okA A) (hn : n ≤ 1000000) (hSs : ¬ S s) (hS1 : ¬ S b1) (hSt : ¬ S t) (hSc : ¬ S c) (hr : syncR A (refB ks n) (tmpN base) = (e, A')) :
    Calls Tryz.prog 45 #[.pointer (some ⟨b1, 0, none⟩), .pointer (some ⟨t, 0, none⟩)] w fun r w' => r = .returned (.int .i64 e) ∧ KX W w w' d S A' ks (n + 1) := by
  have hd := (Below.refl w.heap.size w).drew
  have HC := Lib.hid (kd_sync_at (h.low hd) hA hn (tmpN base) hr)
  have HX := Lib.hid (hC.low hd)
  have x0 : w.drew.cell? ⟨b1, 0, none⟩ = some (.pointer (some ⟨s, 0, none⟩)) := HX.out.st.cell 0
  have x1 : w.drew.cell? ⟨s, 0, none⟩ = some (.pointer (some ⟨d, 0, none⟩)) := HX.out.box.cell 0
  have x2 : w.drew.cell? ⟨t, 0, none⟩ = some (.string (tmpN base)) := HX.out.tm.cell 0
  have x3 : w.drew.cell? ⟨c, 0, none⟩ = some (u) := HX.out.by'.cell 0
  have x4 : w.drew.cell? ⟨s, 1, none⟩ = some (.string base) := HX.out.box.cell 1
  clear h hC
  go_enter Tryz.func45, Tryz.ntmps45
  go_wp2
  refine wp_region_noPanic ?_
  refine wp_region_held_drew (S := fun w' => w'.cell? ⟨b1, 0, none⟩ = some (.pointer (some ⟨s, 0, none⟩)) ∧ w'.cell? ⟨s, 0, none⟩ = some (.pointer (some ⟨d, 0, none⟩)) ∧ w'.cell? ⟨t, 0, none⟩ = some (.string (tmpN base))) (by kernel_rfl) (⟨x0, x1, x2⟩) (fun hhS => ?_)
  refine wpAnyH_take (i := 0) (oi := ⟨some 3, _, _, _, _, _⟩) (v := ?_) rfl (by kernel_rfl) (by kernel_rfl) (by kernel_rfl) (fun _ _ _ h => h) (Or.inl ⟨by rfl, ?_⟩) (by assumption) ?_
  rotate_left
  · intro w hSw
    (try dsimp only at hSw)
    have y0 := hSw.1
    have y1 := hSw.2.1
    have y2 := hSw.2.2
    go_simp
    all_goals (with_reducible rfl)
  try simp only [Act.put, List.setIfInBounds_toArray, List.set_cons_zero, List.set_cons_succ]
  refine wpAnyH_take (i := 1) (oi := ⟨some 4, _, _, _, _, _⟩) (v := ?_) rfl (by kernel_rfl) (by kernel_rfl) (by kernel_rfl) (fun _ _ _ h => h) (Or.inl ⟨by rfl, ?_⟩) (by assumption) ?_
  rotate_left
  · intro w hSw
    (try dsimp only at hSw)
    go_simp
    all_goals (with_reducible rfl)
  try simp only [Act.put, List.setIfInBounds_toArray, List.set_cons_zero, List.set_cons_succ]
  refine wpAnyH_take (i := 2) (oi := ⟨some 5, _, _, _, _, _⟩) (v := ?_) rfl (by kernel_rfl) (by kernel_rfl) (by kernel_rfl) (fun _ _ _ h => h) (Or.inl ⟨by rfl, ?_⟩) (by assumption) ?_
  rotate_left
  · intro w hSw
    (try dsimp only at hSw)
    go_simp
    all_goals (with_reducible rfl)
  try simp only [Act.put, List.setIfInBounds_toArray, List.set_cons_zero, List.set_cons_succ]
  refine wpAnyH_take (i := 3) (oi := ⟨some 6, _, _, _, _, _⟩) (v := ?_) rfl (by kernel_rfl) (by kernel_rfl) (by kernel_rfl) (fun _ _ _ h => h) (Or.inl ⟨by rfl, ?_⟩) (by assumption) ?_
  rotate_left
  · intro w hSw
    (try dsimp only at hSw)
    have y0 := hSw.1
    have y1 := hSw.2.1
    have y2 := hSw.2.2
    go_simp
    all_goals (with_reducible rfl)
  try simp only [Act.put, List.setIfInBounds_toArray, List.set_cons_zero, List.set_cons_succ]
  refine wpAnyH_take (i := 4) (oi := ⟨some 7, _, _, _, _, _⟩) (v := ?_) rfl (by kernel_rfl) (by kernel_rfl) (by kernel_rfl) (fun _ _ _ h => h) (Or.inl ⟨by rfl, ?_⟩) (by assumption) ?_
  rotate_left
  · intro w hSw
    (try dsimp only at hSw)
    have y0 := hSw.1
    have y1 := hSw.2.1
    have y2 := hSw.2.2
    go_simp
    all_goals (with_reducible rfl)
  try simp only [Act.put, List.setIfInBounds_toArray, List.set_cons_zero, List.set_cons_succ]
  refine wpAnyH_ready (rs := [5]) (by kernel_rfl) (by simp) ?_
  refine AllReadyH.cons (o := ⟨some 8, _, _, _, _, _⟩) rfl (fun K hK => ?_) AllReadyH.nil
  go_simp
  refine HC.out.mono ?_
  rintro r w5 ⟨rfl, hx5⟩
  have HX5 := HX.out.only hx5.choose_spec.2.1 hSs hS1 hSt hSc
  refine hK.out _ _ (⟨HX5.st.cell 0, HX5.box.cell 0, HX5.tm.cell 0⟩) (fun _ => ?_)
  clear hK K
  try simp only [Act.put, List.setIfInBounds_toArray, List.set_cons_zero, List.set_cons_succ]
  refine wpAnyH_take (i := 6) (oi := ⟨some 2, _, _, _, _, _⟩) (v := ?_) rfl (by kernel_rfl) (by kernel_rfl) (by kernel_rfl) (fun _ _ _ h => h) (Or.inl ⟨by rfl, ?_⟩) (by assumption) ?_
  rotate_left
  · intro w hSw
    (try dsimp only at hSw)
    go_simp
    all_goals (with_reducible rfl)
  try simp only [Act.put, List.setIfInBounds_toArray, List.set_cons_zero, List.set_cons_succ]
  refine wpAnyH_done (by kernel_rfl) ?_ _
  refine NoPanic.normal ?_
  go_wp2
  go_ret
  exact ⟨rfl, hx5.drew⟩

set_option maxRecDepth 100000 in
set_option maxHeartbeats 4000000 in
theorem ck5_calls (W w : World) (d n s g mb b1 t c : Nat) (S : Nat → Prop) (A A' : Fs) (ks : List Int) (base : ByteArray) (j u : Value) (e : Int) (h : KD W w d S A ks n) (hC : CkC w s d g mb base j b1 t c u) (_hA : okA A) (hn : n ≤ 1000000) (hSs : ¬ S s) (hS1 : ¬ S b1) (hSt : ¬ S t) (hSc : ¬ S c) (hbs : base.size ≤ 900) (hr : renR A (refB ks n) (tmpN base) (snapN base) = (e, A')) :
    Calls Tryz.prog 47 #[.pointer (some ⟨b1, 0, none⟩), .pointer (some ⟨t, 0, none⟩)] w fun r w' => r = .returned (.int .i64 e) ∧ KX W w w' d S A' ks (n + 1) := by
  have hd := (Below.refl w.heap.size w).drew
  have g1 : ¬ 9223372036854775807 < base.size + 5 := by omega
  have HC := Lib.hid (kd_rename_at (h.low hd) hn (tmpN base) (snapN base) (by have := snapN_size base; omega) hr)
  have HX := Lib.hid (hC.low hd)
  have x0 : w.drew.cell? ⟨b1, 0, none⟩ = some (.pointer (some ⟨s, 0, none⟩)) := HX.out.st.cell 0
  have x1 : w.drew.cell? ⟨s, 0, none⟩ = some (.pointer (some ⟨d, 0, none⟩)) := HX.out.box.cell 0
  have x2 : w.drew.cell? ⟨t, 0, none⟩ = some (.string (tmpN base)) := HX.out.tm.cell 0
  have x3 : w.drew.cell? ⟨c, 0, none⟩ = some (u) := HX.out.by'.cell 0
  have x4 : w.drew.cell? ⟨s, 1, none⟩ = some (.string base) := HX.out.box.cell 1
  clear h hC
  go_enter Tryz.func47, Tryz.ntmps47
  go_wp2
  refine wp_region_noPanic ?_
  refine wp_region_held_drew (S := fun w' => w'.cell? ⟨b1, 0, none⟩ = some (.pointer (some ⟨s, 0, none⟩)) ∧ w'.cell? ⟨s, 0, none⟩ = some (.pointer (some ⟨d, 0, none⟩)) ∧ w'.cell? ⟨t, 0, none⟩ = some (.string (tmpN base)) ∧ w'.cell? ⟨s, 1, none⟩ = some (.string base)) (by kernel_rfl) (⟨x0, x1, x2, x4⟩) (fun hhS => ?_)
  refine wpAnyH_take (i := 0) (oi := ⟨some 3, _, _, _, _, _⟩) (v := ?_) rfl (by kernel_rfl) (by kernel_rfl) (by kernel_rfl) (fun _ _ _ h => h) (Or.inl ⟨by rfl, ?_⟩) (by assumption) ?_
  rotate_left
  · intro w hSw
    (try dsimp only at hSw)
    have y0 := hSw.1
    have y1 := hSw.2.1
    have y2 := hSw.2.2.1
    have y3 := hSw.2.2.2
    go_simp
    all_goals (with_reducible rfl)
  try simp only [Act.put, List.setIfInBounds_toArray, List.set_cons_zero, List.set_cons_succ]
  refine wpAnyH_take (i := 1) (oi := ⟨some 4, _, _, _, _, _⟩) (v := ?_) rfl (by kernel_rfl) (by kernel_rfl) (by kernel_rfl) (fun _ _ _ h => h) (Or.inl ⟨by rfl, ?_⟩) (by assumption) ?_
  rotate_left
  · intro w hSw
    (try dsimp only at hSw)
    go_simp
    all_goals (with_reducible rfl)
  try simp only [Act.put, List.setIfInBounds_toArray, List.set_cons_zero, List.set_cons_succ]
  refine wpAnyH_take (i := 2) (oi := ⟨some 5, _, _, _, _, _⟩) (v := ?_) rfl (by kernel_rfl) (by kernel_rfl) (by kernel_rfl) (fun _ _ _ h => h) (Or.inl ⟨by rfl, ?_⟩) (by assumption) ?_
  rotate_left
  · intro w hSw
    (try dsimp only at hSw)
    go_simp
    all_goals (with_reducible rfl)
  try simp only [Act.put, List.setIfInBounds_toArray, List.set_cons_zero, List.set_cons_succ]
  refine wpAnyH_take (i := 3) (oi := ⟨some 6, _, _, _, _, _⟩) (v := ?_) rfl (by kernel_rfl) (by kernel_rfl) (by kernel_rfl) (fun _ _ _ h => h) (Or.inl ⟨by rfl, ?_⟩) (by assumption) ?_
  rotate_left
  · intro w hSw
    (try dsimp only at hSw)
    have y0 := hSw.1
    have y1 := hSw.2.1
    have y2 := hSw.2.2.1
    have y3 := hSw.2.2.2
    go_simp
    all_goals (with_reducible rfl)
  try simp only [Act.put, List.setIfInBounds_toArray, List.set_cons_zero, List.set_cons_succ]
  refine wpAnyH_take (i := 4) (oi := ⟨some 7, _, _, _, _, _⟩) (v := ?_) rfl (by kernel_rfl) (by kernel_rfl) (by kernel_rfl) (fun _ _ _ h => h) (Or.inl ⟨by rfl, ?_⟩) (by assumption) ?_
  rotate_left
  · intro w hSw
    (try dsimp only at hSw)
    have y0 := hSw.1
    have y1 := hSw.2.1
    have y2 := hSw.2.2.1
    have y3 := hSw.2.2.2
    go_simp
    all_goals (with_reducible rfl)
  try simp only [Act.put, List.setIfInBounds_toArray, List.set_cons_zero, List.set_cons_succ]
  refine wpAnyH_take (i := 5) (oi := ⟨some 8, _, _, _, _, _⟩) (v := ?_) rfl (by kernel_rfl) (by kernel_rfl) (by kernel_rfl) (fun _ _ _ h => h) (Or.inl ⟨by rfl, ?_⟩) (by assumption) ?_
  rotate_left
  · intro w hSw
    (try dsimp only at hSw)
    have y0 := hSw.1
    have y1 := hSw.2.1
    have y2 := hSw.2.2.1
    have y3 := hSw.2.2.2
    go_simp
    all_goals (with_reducible rfl)
  try simp only [Act.put, List.setIfInBounds_toArray, List.set_cons_zero, List.set_cons_succ]
  refine wpAnyH_take (i := 6) (oi := ⟨some 9, _, _, _, _, _⟩) (v := ?_) rfl (by kernel_rfl) (by kernel_rfl) (by kernel_rfl) (fun _ _ _ h => h) (Or.inl ⟨by rfl, ?_⟩) (by assumption) ?_
  rotate_left
  · intro w hSw
    (try dsimp only at hSw)
    go_simp
    all_goals (with_reducible rfl)
  try simp only [Act.put, List.setIfInBounds_toArray, List.set_cons_zero, List.set_cons_succ]
  refine wpAnyH_take (i := 7) (oi := ⟨some 10, _, _, _, _, _⟩) (v := ?_) rfl (by kernel_rfl) (by kernel_rfl) (by kernel_rfl) (fun _ _ _ h => h) (Or.inl ⟨by rfl, ?_⟩) (by assumption) ?_
  rotate_left
  · intro w hSw
    (try dsimp only at hSw)
    go_simp
    all_goals (with_reducible rfl)
  try simp only [Act.put, List.setIfInBounds_toArray, List.set_cons_zero, List.set_cons_succ]
  refine wpAnyH_take (i := 8) (oi := ⟨some 11, _, _, _, _, _⟩) (v := ?_) rfl (by kernel_rfl) (by kernel_rfl) (by kernel_rfl) (fun _ _ _ h => h) (Or.inl ⟨by rfl, ?_⟩) (by assumption) ?_
  rotate_left
  · intro w hSw
    (try dsimp only at hSw)
    have y0 := hSw.1
    have y1 := hSw.2.1
    have y2 := hSw.2.2.1
    have y3 := hSw.2.2.2
    go_simp
    all_goals (with_reducible rfl)
  try simp only [Act.put, List.setIfInBounds_toArray, List.set_cons_zero, List.set_cons_succ]
  refine wpAnyH_take (i := 9) (oi := ⟨some 12, _, _, _, _, _⟩) (v := (.string (base ++ ⟨#[46, 115, 110, 97, 112]⟩))) rfl (by kernel_rfl) (by kernel_rfl) (by kernel_rfl) (fun _ _ _ h => h) (Or.inl ⟨by rfl, ?_⟩) (by assumption) ?_
  · intro w hSw
    (try dsimp only at hSw)
    go_simp
    all_goals (first | done | simp)
  try simp only [Act.put, List.setIfInBounds_toArray, List.set_cons_zero, List.set_cons_succ]
  refine wpAnyH_ready (rs := [10]) (by kernel_rfl) (by simp) ?_
  refine AllReadyH.cons (o := ⟨some 13, _, _, _, _, _⟩) rfl (fun K hK => ?_) AllReadyH.nil
  go_simp
  refine HC.out.mono ?_
  rintro r w5 ⟨rfl, hx5⟩
  have HX5 := HX.out.only hx5.choose_spec.2.1 hSs hS1 hSt hSc
  refine hK.out _ _ (⟨HX5.st.cell 0, HX5.box.cell 0, HX5.tm.cell 0, HX5.box.cell 1⟩) (fun _ => ?_)
  clear hK K
  try simp only [Act.put, List.setIfInBounds_toArray, List.set_cons_zero, List.set_cons_succ]
  refine wpAnyH_take (i := 11) (oi := ⟨some 2, _, _, _, _, _⟩) (v := ?_) rfl (by kernel_rfl) (by kernel_rfl) (by kernel_rfl) (fun _ _ _ h => h) (Or.inl ⟨by rfl, ?_⟩) (by assumption) ?_
  rotate_left
  · intro w hSw
    (try dsimp only at hSw)
    go_simp
    all_goals (with_reducible rfl)
  try simp only [Act.put, List.setIfInBounds_toArray, List.set_cons_zero, List.set_cons_succ]
  refine wpAnyH_done (by kernel_rfl) ?_ _
  refine NoPanic.normal ?_
  go_wp2
  go_ret
  exact ⟨rfl, hx5.drew⟩

end Go.Proofs.YtmmlpbepaefamaaGreatDoor
