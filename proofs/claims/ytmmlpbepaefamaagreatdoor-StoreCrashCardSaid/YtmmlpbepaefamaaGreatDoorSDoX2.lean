/- Open takes one record in. -/
import Derived.Test.YtmmlpbepaefamaaGreatDoorSRead
namespace Go.Proofs.YtmmlpbepaefamaaGreatDoor
open Go.RowKit Go.MapKept

theorem applyB_say : ∀ {L L' : List Chg} (f : ByteArray → Option (List (BitVec 8))), L'.map Chg.say = L.map Chg.say → applyB f L' = applyB f L
  | [], [], f, _ => rfl
  | [], c :: L', f, h => by simp at h
  | c :: L, [], f, h => by simp at h
  | c :: L, c' :: L', f, h => by
    rw [List.map_cons, List.map_cons] at h
    injection h with h1 h2
    have e : applyC f c' = applyC f c := by
      unfold Chg.say at h1
      injection h1 with h3 h4
      injection h4 with h4 h5
      unfold applyC
      rw [h3, h4, h5]
    show applyB (applyC f c') L' = applyB (applyC f c) L
    rw [e]
    exact applyB_say _ h2
/-- What it leaves. -/
def DoX (w w' : World) (lo _mb s d : Nat) (S : Nat → Prop) (M : List Ent) (base : ByteArray) (g : Int) (j : Value) (L : List Chg) : Prop := ∃ mb' M', w.heap.size ≤ mb' ∧ Whole w' s 64 (storC d base g j mb') ∧ VM w' lo S mb' M' ∧ (∀ k, getM M' k = applyB (getM M) L k) ∧ M'.length ≤ M.length + L.length ∧ Only w w' fun i => i = s
theorem say_len {L L' : List Chg} (h : L'.map Chg.say = L.map Chg.say) : L'.length = L.length := by
  have := congrArg List.length h
  rwa [List.length_map, List.length_map] at this
theorem say_val {L L' : List Chg} (h : L'.map Chg.say = L.map Chg.say) {c : Chg} (hc : c ∈ L') : ∃ x ∈ L, x.say = c.say := by
  have : c.say ∈ L.map Chg.say := by rw [← h]; exact List.mem_map_of_mem hc
  obtain ⟨x, hx, e⟩ := List.mem_map.1 this
  exact ⟨x, hx, e⟩

set_option maxRecDepth 100000 in
set_option maxHeartbeats 8000000 in
theorem sdo_calls (w : World) (lo mb s d b6 : Nat) (S : Nat → Prop) (M : List Ent) (base : ByteArray) (g : Int) (j : Value) (hB : Whole w b6 26 [.pointer (some ⟨s, 0, none⟩)]) (hW : Whole w s 64 (storC d base g j mb)) (hV : VM w lo S mb M) (hlo : lo ≤ w.heap.size) (hS : ∀ i, S i → i < w.heap.size) (v : Value) (L : List Chg) (hv : SliceR w v (recB L)) (hw : wrongE L = 0) (hz : sizeF (recL L) ≤ 65536) (hM : M.length + L.length ≤ 4096) :
    Calls Tryz.prog 25 #[v, .pointer (some ⟨b6, 0, none⟩)] w fun r w' => r = .returned (.bool true) ∧ DoX w w' lo mb s d S M base g j L := by
  have HRD := Lib.hid (sread_calls w v L hv hw hz)
  obtain ⟨hl64, hce⟩ := wrongE_zero hw
  obtain ⟨pv, cv, rfl, _⟩ := hv.2
  obtain ⟨R, hR⟩ : ∃ R, (recB L).length = R := ⟨_, rfl⟩
  rw [hR] at HRD ⊢
  have HB := Lib.hid hB
  have HW := Lib.hid hW
  have HV := Lib.hid hV
  have HS := Lib.hid hS
  have HCE := Lib.hid hce
  clear hB hW hV hv hw hz hS hR hce
  go_enter Tryz.func25, Tryz.ntmps25
  go_upto_region 4 with (first
    | (go_at_call 26; refine HRD.out.mono ?_; rintro r w2 ⟨_, L', rfl, ⟨a2, k2, c2, rfl⟩, hC2, hsay, hb2⟩)
    | fail)
  have hd := hb2.trans (((Below.refl w2.heap.size w2).drew).mono hb2.size)
  have hL := say_len hsay
  have HAF := Lib.hid (after_calls w2.drew lo mb S M _ L' (HV.out.low hd) (hC2.low ((Below.refl w2.heap.size w2).drew)) (Nat.le_trans hlo hd.size) (fun i hi => Nat.lt_of_lt_of_le (HS.out i hi) hd.size) (by omega) (fun c hc => by
    obtain ⟨x, hx, e⟩ := say_val hsay hc
    have h1 := chgE_zero (HCE.out x hx)
    have h2 : x.val = c.val := congrArg (fun p : ByteArray × List (BitVec 8) × Bool => p.2.1) e
    rw [← h2]
    omega))
  have HSY := Lib.hid hsay
  have HL' := Lib.hid hL
  have x0 : w2.drew.cell? ⟨b6, 0, none⟩ = some (.pointer (some ⟨s, 0, none⟩)) := (HB.out.below hd HB.out.lt).cell 0
  have x4 : w2.drew.cell? ⟨s, 4, none⟩ = some (.map (some mb)) := (HW.out.below hd HW.out.lt).cell 4
  clear hC2 hsay hb2 hL
  refine wp_region_noPanic ?_
  refine wp_region_held_drew (S := fun w' => w'.cell? ⟨b6, 0, none⟩ = some (.pointer (some ⟨s, 0, none⟩))) (by kernel_rfl) (x0) (fun hhS => ?_)
  generalize w2.drew = wd at HAF hd hhS x0 x4 ⊢
  refine wpAnyH_take (i := 0) (oi := ⟨some 14, _, _, _, _, _⟩) (v := ?_) rfl (by kernel_rfl) (by kernel_rfl) (by kernel_rfl) (fun _ _ _ h => h) (Or.inl ⟨by rfl, ?_⟩) (by assumption) ?_
  rotate_left
  · intro w hSw
    (try dsimp only at hSw)
    have y0 := hSw
    go_simp
    all_goals (with_reducible rfl)
  try simp only [Act.put, List.setIfInBounds_toArray, List.set_cons_zero, List.set_cons_succ]
  refine wpAnyH_take (i := 1) (oi := ⟨some 15, _, _, _, _, _⟩) (v := ?_) rfl (by kernel_rfl) (by kernel_rfl) (by kernel_rfl) (fun _ _ _ h => h) (Or.inl ⟨by rfl, ?_⟩) (by assumption) ?_
  rotate_left
  · intro w hSw
    (try dsimp only at hSw)
    have y0 := hSw
    go_simp
    all_goals (with_reducible rfl)
  try simp only [Act.put, List.setIfInBounds_toArray, List.set_cons_zero, List.set_cons_succ]
  refine wpAnyH_take (i := 2) (oi := ⟨some 16, _, _, _, _, _⟩) (v := ?_) rfl (by kernel_rfl) (by kernel_rfl) (by kernel_rfl) (fun _ _ _ h => h) (Or.inl ⟨by rfl, ?_⟩) (by assumption) ?_
  rotate_left
  · intro w hSw
    (try dsimp only at hSw)
    go_simp
    all_goals (with_reducible rfl)
  try simp only [Act.put, List.setIfInBounds_toArray, List.set_cons_zero, List.set_cons_succ]
  refine wpAnyH_take (i := 3) (oi := ⟨some 17, _, _, _, _, _⟩) (v := ?_) rfl (by kernel_rfl) (by kernel_rfl) (by kernel_rfl) (fun _ _ _ h => h) (Or.inl ⟨by rfl, ?_⟩) (by assumption) ?_
  rotate_left
  · intro w hSw
    (try dsimp only at hSw)
    go_simp
    all_goals (with_reducible rfl)
  try simp only [Act.put, List.setIfInBounds_toArray, List.set_cons_zero, List.set_cons_succ]
  refine wpAnyH_take (i := 5) (oi := ⟨some 19, _, _, _, _, _⟩) (v := ?_) rfl (by kernel_rfl) (by kernel_rfl) (by kernel_rfl) (fun _ _ _ h => h) (Or.inl ⟨by rfl, ?_⟩) (by assumption) ?_
  rotate_left
  · intro w hSw
    (try dsimp only at hSw)
    go_simp
    all_goals (with_reducible rfl)
  try simp only [Act.put, List.setIfInBounds_toArray, List.set_cons_zero, List.set_cons_succ]
  refine wpAnyH_ready (rs := [4]) (by kernel_rfl) (by simp) ?_
  refine AllReadyH.cons (o := ⟨some 18, _, _, _, _, _⟩) rfl (fun K hK => ?_) AllReadyH.nil
  go_simp
  refine hK.out _ _ (hhS) (fun _ => ?_)
  clear hK K
  try simp only [Act.put, List.setIfInBounds_toArray, List.set_cons_zero, List.set_cons_succ]
  refine wpAnyH_ready (rs := [6]) (by kernel_rfl) (by simp) ?_
  refine AllReadyH.cons (o := ⟨some 20, _, _, _, _, _⟩) rfl (fun K hK => ?_) AllReadyH.nil
  go_simp
  refine HAF.out.mono ?_
  rintro r w5 ⟨mb', M', rfl, hmb, hV5, hF5, hM5, hb5⟩
  rw [show decide ((M'.length : Int) ≤ 4096) = true from decide_eq_true (by have := HL'.out; omega)]
  have hb05 := hd.trans (hb5.mono hd.size)
  have hW5 := HW.out.below hb05 HW.out.lt
  have hB5 := HB.out.below hb05 HB.out.lt
  have y4f := hW5.free 4
  have y4 : w5.cell? ⟨s, 4, none⟩ = some (.map (some mb)) := hW5.cell 4
  refine hK.out _ _ (hB5.cell 0) (fun _ => ?_)
  clear hK K
  try simp only [Act.put, List.setIfInBounds_toArray, List.set_cons_zero, List.set_cons_succ]
  refine wpAnyH_take (i := 7) (oi := ⟨some 13, _, _, _, _, _⟩) (v := ?_) rfl (by kernel_rfl) (by kernel_rfl) (by kernel_rfl) (fun _ _ _ h => h) (Or.inl ⟨by rfl, ?_⟩) (by assumption) ?_
  rotate_left
  · intro w hSw
    (try dsimp only at hSw)
    go_simp
    all_goals (with_reducible rfl)
  try simp only [Act.put, List.setIfInBounds_toArray, List.set_cons_zero, List.set_cons_succ]
  refine wpAnyH_take (i := 8) (oi := ⟨some 21, _, _, _, _, _⟩) (v := ?_) rfl (by kernel_rfl) (by kernel_rfl) (by kernel_rfl) (fun _ _ _ h => h) (Or.inl ⟨by rfl, ?_⟩) (by assumption) ?_
  rotate_left
  · intro w hSw
    (try dsimp only at hSw)
    go_simp
    all_goals (with_reducible rfl)
  try simp only [Act.put, List.setIfInBounds_toArray, List.set_cons_zero, List.set_cons_succ]
  refine wpAnyH_take (i := 9) (oi := ⟨some 22, _, _, _, _, _⟩) (v := ?_) rfl (by kernel_rfl) (by kernel_rfl) (by kernel_rfl) (fun _ _ _ h => h) (Or.inl ⟨by rfl, ?_⟩) (by assumption) ?_
  rotate_left
  · intro w hSw
    (try dsimp only at hSw)
    go_simp
    all_goals (with_reducible rfl)
  try simp only [Act.put, List.setIfInBounds_toArray, List.set_cons_zero, List.set_cons_succ]
  refine wpAnyH_take (i := 10) (oi := ⟨some 23, _, _, _, _, _⟩) (v := ?_) rfl (by kernel_rfl) (by kernel_rfl) (by kernel_rfl) (fun _ _ _ h => h) (Or.inl ⟨by rfl, ?_⟩) (by assumption) ?_
  rotate_left
  · intro w hSw
    (try dsimp only at hSw)
    go_simp
    all_goals (with_reducible rfl)
  try simp only [Act.put, List.setIfInBounds_toArray, List.set_cons_zero, List.set_cons_succ]
  refine wpAnyH_take (i := 11) (oi := ⟨some 24, _, _, _, _, _⟩) (v := ?_) rfl (by kernel_rfl) (by kernel_rfl) (by kernel_rfl) (fun _ _ _ h => h) (Or.inl ⟨by rfl, ?_⟩) (by assumption) ?_
  rotate_left
  · intro w hSw
    (try dsimp only at hSw)
    go_simp
    all_goals (with_reducible rfl)
  try simp only [Act.put, List.setIfInBounds_toArray, List.set_cons_zero, List.set_cons_succ]
  refine wpAnyH_ready (rs := [12]) (by kernel_rfl) (by simp) ?_
  refine AllReadyH.cons (o := ⟨none, _, _, _, _, _⟩) rfl (fun K hK => ?_) AllReadyH.nil
  go_simp
  have hW6 : Whole (w5.setCell ⟨s, 4, none⟩ (.map (some mb'))) s 64 (storC d base g j mb') := hW5.put 4 (.map (some mb'))
  have ho6 := Only.set w5 ⟨s, 4, none⟩ (.map (some mb'))
  have hB6 := hB5.only ho6 (fun e : b6 = s => whole_ne hB5 hW5 (by decide) e)
  refine hK.out _ _ (hB6.cell 0) (fun _ => ?_)
  clear hK K
  try simp only [Act.put]
  refine wpAnyH_take (i := 13) (oi := ⟨some 5, _, _, _, _, _⟩) (v := ?_) rfl (by kernel_rfl) (by kernel_rfl) (by kernel_rfl) (fun _ _ _ h => h) (Or.inl ⟨by rfl, ?_⟩) (by assumption) ?_
  rotate_left
  · intro w hSw
    (try dsimp only at hSw)
    go_simp
    all_goals (with_reducible rfl)
  try simp only [Act.put, List.setIfInBounds_toArray, List.set_cons_zero, List.set_cons_succ]
  refine wpAnyH_done (by kernel_rfl) ?_ _
  refine NoPanic.normal ?_
  have hV6 := hV5.only (S' := S) ho6 (hV5.cells hW5 (by decide)).1 (fun x hx g0 hg0 => (hV5.cells hW5 (by decide)).2 x hx g0 hg0) (fun _ _ e => e)
  have HF := Lib.hid hF5
  clear hF5
  go_wp2
  go_ret
  exact ⟨rfl, mb', M', Nat.le_trans hd.size hmb, hW6, hV6, fun k => by rw [HF.out k, applyB_say _ HSY.out], by have := HL'.out; omega, ((Only.of_below hb05 fun i => i = s).trans ho6).weak fun i _ e => e.elim id id⟩

end Go.Proofs.YtmmlpbepaefamaaGreatDoor

/- The keys of a checkpoint ascend. -/
namespace Go.Proofs.YtmmlpbepaefamaaGreatDoor
open Go.RowKit Go.MapKept Go.Sort

/-- Does a text not come behind another? (what '<=' gives) -/
def leqB (a b : ByteArray) : Bool := Op.bytesLess a.toList b.toList || a.toList == b.toList
theorem leqB_lt {a b : ByteArray} (h : b.data.toList < a.data.toList) : leqB a b = false := by
  unfold leqB
  rw [bytesLess_eq, Lib.toList_data, Lib.toList_data, Bool.or_eq_false_iff]
  have hn : ¬ a.data.toList < b.data.toList := fun e => by
    have := List.lt_trans e h
    exact absurd this (List.lt_irrefl _)
  have hne : a.data.toList ≠ b.data.toList := fun e => by
    rw [e] at h
    exact absurd h (List.lt_irrefl _)
  exact ⟨by simpa using hn, by simpa using hne⟩
theorem leqB_first {a : ByteArray} (h : 1 ≤ a.size) : leqB a ⟨#[]⟩ = false := by
  refine leqB_lt ?_
  obtain ⟨⟨l⟩⟩ := a
  cases l with
  | nil => exact absurd h (by decide)
  | cons x l => exact List.Lex.nil

/-- Pairs as a store gives them: the keys ascend. -/
def AscP (P : List (ByteArray × List (BitVec 8))) : Prop := P.Pairwise fun x y => x.1.data.toList < y.1.data.toList
theorem keysOf_asc {M : List Ent} (h : (M.map (·.1)).Nodup) : (keysOf M).Pairwise fun x y => x < y := by
  have hn : (keysOf M).Nodup := by
    unfold keysOf
    refine (List.mergeSort_perm _ _).nodup_iff.2 ?_
    rw [show M.map (fun x : Ent => x.1.data.toList) = (M.map (·.1)).map fun k => k.data.toList by rw [List.map_map]; rfl]
    unfold List.Nodup at h ⊢
    rw [List.pairwise_map]
    exact h.imp fun {a b} hab e => hab (by
      obtain ⟨⟨a⟩⟩ := a
      obtain ⟨⟨b⟩⟩ := b
      have e : a = b := e
      rw [e])
  have hs : (keysOf M).Pairwise fun x y => x ≤ y := by
    have := List.pairwise_mergeSort (le := fun (x y : List UInt8) => decide (x ≤ y)) (fun a b c h1 h2 => by
      simp only [decide_eq_true_iff] at h1 h2 ⊢
      exact List.le_trans h1 h2) (fun a b => by
      simp only [Bool.or_eq_true, decide_eq_true_iff]
      exact List.le_total a b) (M.map (·.1.data.toList))
    unfold keysOf
    exact this.imp fun h => by simpa using h
  exact (hs.and hn).imp fun ⟨h1, h2⟩ => by
    rcases List.le_iff_lt_or_eq.1 h1 with h | h
    · exact h
    · exact absurd h h2
theorem pairsOf_asc {M : List Ent} (h : (M.map (·.1)).Nodup) : AscP (pairsOf M) := by
  unfold AscP pairsOf
  rw [List.pairwise_map]
  exact (keysOf_asc h).imp fun h => by simpa [arrB] using h

end Go.Proofs.YtmmlpbepaefamaaGreatDoor
