/- Disk.Spoil that succeeds; the answers of Spoil. -/
import Derived.Test.YtmmlpbepaefamaaRD10
namespace Go.Proofs.Ytmmlpbepaefamaa
open Go.RowKit Go.MapKept

set_option maxRecDepth 100000 in
set_option maxHeartbeats 4000000 in
theorem dspoil_there (W w : World) (d fm rm n : Nat) (own : Nat → Option Nat) (L : List (ByteArray × Nat × Dfile)) (ks : List Int) (h : DiskAt W w d fm rm own L ks n) (s : ByteArray) (c : Nat) (hc : c ≤ 9223372036854775807) (fb : Nat) (f : Dfile) (hg : getL L s = some (fb, f)) (he : f.ops = []) (hc2 : c / 8 < f.safe.length) :
    Calls Try.prog 62 #[.pointer (some ⟨d, 0, none⟩), .string s, .int .i64 c] w fun e w' => e = .returned (.int .i64 0) ∧ ∃ own', DiskAt W w' d fm rm own' (setL L s ⟨spoilT f.safe c, [], f.fresh⟩) ks n ∧ (∀ i, i < w.heap.size → own' i = own i) ∧ Only w w' fun i => own i ≠ none := by
  have HN := Lib.hid (dnone_calls w d fm (h.box.cell 0))
  have hz : ∀ w : World, (zeroValue 83).run Try.prog w = .ok (.pointer none) w := fun w => by kernel_rfl
  go_enter Try.func62, Try.ntmps62
  go_upto_region 3 with (first
    | (go_at_call 40; refine HN.out.mono ?_; rintro e wc ⟨rfl, hwc⟩; subst hwc)
    | fail)
  have c0 := h.box.cell 0
  have hlk := look_N (P := Try.prog) Try.underlying71 Try.underlying9 h.all s (hz _)
  rw [getL_find, hg] at hlk
  obtain ⟨sv, ov, l, hf⟩ := h.get hg
  have hl0 : l = [] := by
    have := hf.ops
    rw [he] at this
    simpa using this
  subst hl0
  obtain ⟨oa, oc, rfl⟩ := hf.slice
  obtain ⟨sa, sc, rfl⟩ := slice_of_row hf.safe
  obtain ⟨g9, rfl⟩ : ∃ g, sa = some ⟨g, 0, none⟩ := by
    obtain ⟨g, c4, h4, _⟩ := Own.full hf.safe (by intro e; rw [e] at hc2; simp at hc2)
    injection h4 with h4
    exact ⟨g, h4⟩
  have g1 : ¬ (0 : Int) < (f.ops.length : Int) := by rw [he]; decide
  have c1 := hf.box.cell 1
  have c2 := hf.box.cell 0
  have hsl := hf.okf.1
  obtain ⟨q, hq⟩ : ∃ x, c / 8 = x := ⟨_, rfl⟩
  obtain ⟨mm, hm8⟩ : ∃ x, c % 8 = x := ⟨_, rfl⟩
  have g3 : IntKind.i64.wrap (8 * (f.safe.length : Int)) = 8 * (f.safe.length : Int) := IntWalk.i64_in _ (by omega)
  have g4 : ¬ (c : Int) < 0 := by omega
  have g5 : ¬ 8 * (f.safe.length : Int) ≤ (c : Int) := by omega
  have e1 : IntKind.i64.wrap ((c : Int) / 8) = (q : Int) := by rw [IntWalk.i64_in _ (by omega)]; omega
  have e2 : (c : Int).tmod 8 = (mm : Int) := by rw [Int.tmod_eq_emod_of_nonneg (by omega)]; omega
  have hql : q < f.safe.length := by omega
  have hm7 : mm < 8 := by omega
  have i8 : 0 ≤ (q : Int) ∧ (q : Int) < (f.safe.length : Int) := by omega
  have HQ := Lib.hid (And.intro hq hm8)
  have HZ := Lib.hid (show f.ops.length = 0 by rw [he]; rfl)
  have HF0 := Lib.hid hf
  have HD := Lib.hid h
  have HG := Lib.hid hg
  clear hf he hq hm8 hc2 hc h hg
  go_upto_region 10 with fail
  clear g1 g3 g4 g5
  refine wp_region_noPanic ?_
  refine wp_region_held_drew (S := fun _ => True) (by kernel_rfl) (trivial) (fun hhS => ?_)
  have hTr : True := trivial
  have hBd : Below w.heap.size w w.drew := (Below.refl _ _).drew
  have hFd := HF0.out.low hBd
  clear hhS c0 c1 c2 hlk
  generalize w.drew = we at hFd hBd ⊢
  have z0 : we.cell? ⟨fb, 0, none⟩ = some (.slice (some ⟨g9, 0, none⟩) f.safe.length sc) := hFd.box.cell 0
  obtain ⟨y0, y1, P9⟩ := own_poke hFd.safe (i := q) hql (f.safe.getD q 0 ^^^ BitVec.ofInt 8 ((2 : Int) ^ mm))
  obtain ⟨y, hyq⟩ : ∃ x, f.safe.getD q 0 = x := ⟨_, rfl⟩
  rw [hyq] at y0 P9
  refine wpAnyH_take (i := 0) (oi := ⟨some 39, _, _, _, _, _⟩) (v := ?_) rfl (by kernel_rfl) (by kernel_rfl) (by kernel_rfl) (fun _ _ _ h => h) (Or.inl ⟨by rfl, ?_⟩) (by assumption) ?_
  rotate_left
  · intro w hSw
    (try dsimp only at hSw)
    go_simp
    all_goals (with_reducible rfl)
  try simp only [Act.put, List.setIfInBounds_toArray, List.set_cons_zero, List.set_cons_succ]
  refine wpAnyH_take (i := 1) (oi := ⟨some 40, _, _, _, _, _⟩) (v := ?_) rfl (by kernel_rfl) (by kernel_rfl) (by kernel_rfl) (fun _ _ _ h => h) (Or.inl ⟨by rfl, ?_⟩) (by assumption) ?_
  rotate_left
  · intro w hSw
    (try dsimp only at hSw)
    go_simp
    all_goals (with_reducible rfl)
  try simp only [Act.put, List.setIfInBounds_toArray, List.set_cons_zero, List.set_cons_succ]
  refine wpAnyH_take (i := 2) (oi := ⟨some 41, _, _, _, _, _⟩) (v := ?_) rfl (by kernel_rfl) (by kernel_rfl) (by kernel_rfl) (fun _ _ _ h => h) (Or.inl ⟨by rfl, ?_⟩) (by assumption) ?_
  rotate_left
  · intro w hSw
    (try dsimp only at hSw)
    go_simp
    all_goals (with_reducible rfl)
  try simp only [Act.put, List.setIfInBounds_toArray, List.set_cons_zero, List.set_cons_succ]
  refine wpAnyH_take (i := 4) (oi := ⟨some 43, _, _, _, _, _⟩) (v := ?_) rfl (by kernel_rfl) (by kernel_rfl) (by kernel_rfl) (fun _ _ _ h => h) (Or.inl ⟨by rfl, ?_⟩) (by assumption) ?_
  rotate_left
  · intro w hSw
    (try dsimp only at hSw)
    go_simp
    all_goals (with_reducible rfl)
  try simp only [Act.put, List.setIfInBounds_toArray, List.set_cons_zero, List.set_cons_succ]
  refine wpAnyH_take (i := 5) (oi := ⟨some 44, _, _, _, _, _⟩) (v := ?_) rfl (by kernel_rfl) (by kernel_rfl) (by kernel_rfl) (fun _ _ _ h => h) (Or.inl ⟨by rfl, ?_⟩) (by assumption) ?_
  rotate_left
  · intro w hSw
    (try dsimp only at hSw)
    go_simp
    all_goals (with_reducible rfl)
  try simp only [Act.put, List.setIfInBounds_toArray, List.set_cons_zero, List.set_cons_succ]
  refine wpAnyH_take (i := 8) (oi := ⟨some 47, _, _, _, _, _⟩) (v := ?_) rfl (by kernel_rfl) (by kernel_rfl) (by kernel_rfl) (fun _ _ _ h => h) (Or.inl ⟨by rfl, ?_⟩) (by assumption) ?_
  rotate_left
  · intro w hSw
    (try dsimp only at hSw)
    go_simp
    all_goals (with_reducible rfl)
  try simp only [Act.put, List.setIfInBounds_toArray, List.set_cons_zero, List.set_cons_succ]
  refine wpAnyH_take (i := 9) (oi := ⟨some 48, _, _, _, _, _⟩) (v := ?_) rfl (by kernel_rfl) (by kernel_rfl) (by kernel_rfl) (fun _ _ _ h => h) (Or.inl ⟨by rfl, ?_⟩) (by assumption) ?_
  rotate_left
  · intro w hSw
    (try dsimp only at hSw)
    go_simp
    all_goals (with_reducible rfl)
  try simp only [Act.put, List.setIfInBounds_toArray, List.set_cons_zero, List.set_cons_succ]
  refine wpAnyH_take (i := 10) (oi := ⟨some 49, _, _, _, _, _⟩) (v := ?_) rfl (by kernel_rfl) (by kernel_rfl) (by kernel_rfl) (fun _ _ _ h => h) (Or.inl ⟨by rfl, ?_⟩) (by assumption) ?_
  rotate_left
  · intro w hSw
    (try dsimp only at hSw)
    go_simp
    all_goals (with_reducible rfl)
  try simp only [Act.put, List.setIfInBounds_toArray, List.set_cons_zero, List.set_cons_succ]
  refine wpAnyH_ready (rs := [3]) (by kernel_rfl) (by simp) ?_
  refine AllReadyH.cons (o := ⟨some 42, _, _, _, _, _⟩) rfl (fun K hK => ?_) AllReadyH.nil
  go_simp
  refine hK.out _ _ (trivial) (fun _ => ?_)
  clear hK K
  try simp only [Act.put, List.setIfInBounds_toArray, List.set_cons_zero, List.set_cons_succ]
  refine wpAnyH_take (i := 6) (oi := ⟨some 45, _, _, _, _, _⟩) (v := ?_) rfl (by kernel_rfl) (by kernel_rfl) (by kernel_rfl) (fun _ _ _ h => h) (Or.inl ⟨by rfl, ?_⟩) (by assumption) ?_
  rotate_left
  · intro w hSw
    (try dsimp only at hSw)
    go_simp
    all_goals (with_reducible rfl)
  try simp only [Act.put, List.setIfInBounds_toArray, List.set_cons_zero, List.set_cons_succ]
  refine wpAnyH_ready (rs := [7]) (by kernel_rfl) (by simp) ?_
  refine AllReadyH.cons (o := ⟨some 46, _, _, _, _, _⟩) rfl (fun K hK => ?_) AllReadyH.nil
  go_simp
  refine hK.out _ _ (trivial) (fun _ => ?_)
  clear hK K
  try simp only [Act.put, List.setIfInBounds_toArray, List.set_cons_zero, List.set_cons_succ]
  refine wpAnyH_take (i := 11) (oi := ⟨some 50, _, _, _, _, _⟩) (v := ?_) rfl (by kernel_rfl) (by kernel_rfl) (by kernel_rfl) (fun _ _ _ h => h) (Or.inl ⟨by rfl, ?_⟩) (by assumption) ?_
  rotate_left
  · intro w hSw
    (try dsimp only at hSw)
    go_simp
    all_goals (with_reducible rfl)
  try simp only [Act.put, List.setIfInBounds_toArray, List.set_cons_zero, List.set_cons_succ]
  refine wpAnyH_take (i := 12) (oi := ⟨some 51, _, _, _, _, _⟩) (v := ?_) rfl (by kernel_rfl) (by kernel_rfl) (by kernel_rfl) (fun _ _ _ h => h) (Or.inl ⟨by rfl, ?_⟩) (by assumption) ?_
  rotate_left
  · intro w hSw
    (try dsimp only at hSw)
    go_simp
    all_goals (with_reducible rfl)
  try simp only [Act.put, List.setIfInBounds_toArray, List.set_cons_zero, List.set_cons_succ]
  refine wpAnyH_ready (rs := [13]) (by kernel_rfl) (by simp) ?_
  refine AllReadyH.cons (o := ⟨none, _, _, _, _, _⟩) rfl (fun K hK => ?_) AllReadyH.nil
  go_simp
  refine hK.out _ _ (trivial) (fun _ => ?_)
  clear hK K
  try simp only [Act.put]
  refine wpAnyH_done (by kernel_rfl) ?_ _
  refine NoPanic.normal ?_
  clear y0 y1 z0
  have ho := (Only.of_below hBd (fun _ => False)).trans (Only.set we ⟨g9, q, none⟩ (vu8 (y ^^^ BitVec.ofInt 8 ((2 : Int) ^ mm))))
  have hfb := hFd.box.only (Only.set we ⟨g9, q, none⟩ (vu8 (y ^^^ BitVec.ofInt 8 ((2 : Int) ^ mm)))) (fun e => row_ne_whole hFd.safe hFd.box (by decide) (congrArg some e.symm))
  have hrow := row_only hFd.row (Only.set we ⟨g9, q, none⟩ (vu8 (y ^^^ BitVec.ofInt 8 ((2 : Int) ^ mm)))) (fun i hi e => by (obtain ⟨cc, h1⟩ := row_type hFd.row hi; obtain ⟨c2, h2⟩ := row_type hFd.safe (congrArg some e.symm); rw [h1] at h2; have h2 := Option.some.inj h2; injection h2 with _ h2 _; exact absurd h2 (by decide)))
  have hsz : we.heap.size = (we.setCell ⟨g9, q, none⟩ (vu8 (y ^^^ BitVec.ofInt 8 ((2 : Int) ^ mm)))).heap.size := by simp
  generalize we.setCell ⟨g9, q, none⟩ (vu8 (y ^^^ BitVec.ofInt 8 ((2 : Int) ^ mm))) = wf at P9 ho hfb hrow hsz ⊢
  rw [← hyq, ← HQ.out.1, ← HQ.out.2] at P9
  have hown : ∀ i, own i = some fb → ownG own w.heap.size wf.heap.size fb i = some fb := fun i hi => by (rw [ownG_old _ _ _ _ (HD.out.old i fb hi).2]; exact hi)
  have hnf : FileAt wf W.heap.size (ownG own w.heap.size wf.heap.size fb) fb ⟨spoilT f.safe c, [], f.fresh⟩ (.slice (some ⟨g9, 0, none⟩) f.safe.length sc) (.slice oa f.ops.length oc) [] := ⟨hfb, P9, rfl, HZ.out ▸ hrow, (fun p hp => by cases hp), hFd.geb, hown _ hFd.me, fun g hg => hown g (hFd.mySafe g hg), fun g hg => hown g (hFd.myOps g hg), (fun p hp => by cases hp), (fun p hp => by cases hp), ⟨(by rw [spoilT_len]; exact hFd.okf.1), trivial⟩⟩
  have hD := HD.out.file HG.out (ho.weak fun i _ e => e.elim False.elim (fun e => hFd.mySafe i (congrArg some e.symm))) hnf
  have HF := Lib.hid (And.intro hD (And.intro ho (hFd.mySafe g9 rfl)))
  clear hD ho hfb hrow hnf P9 hFd hown hBd
  go_wp2
  go_ret
  refine ⟨rfl, _, HF.out.1, fun i hi => ownG_old _ _ _ _ hi, HF.out.2.1.weak fun i _ e => e.elim False.elim (fun e => by (show own i ≠ Option.none; rw [show i = g9 from e, HF.out.2.2]; exact fun e => by cases e))⟩

/-- What Spoil answers. -/
def spoR (A : Fs) (s : ByteArray) (k : Int) : Int × Fs := match getA A s with
  | none => (6, A)
  | some f => if f.ops.length ≠ 0 then (10, A) else if k < 0 ∨ 8 * (f.safe.length : Int) ≤ k then (2, A) else (0, setA A s ⟨spoilT f.safe k.toNat, [], f.fresh⟩)
theorem kd_spoil (W w : World) (d n : Nat) (S : Nat → Prop) (A : Fs) (ks : List Int) (h : KD W w d S A ks n) (s : ByteArray) (k : Int) (hk : k ≤ 9223372036854775807) :
    Calls Try.prog 62 #[.pointer (some ⟨d, 0, none⟩), .string s, .int .i64 k] w fun e w' => e = .returned (.int .i64 (spoR A s k).1) ∧ KX W w w' d S (spoR A s k).2 ks n := by
  obtain ⟨fm, rm, own, L, h1, rfl, hS⟩ := h
  unfold spoR
  cases hg : getA (viewL L) s with
  | none =>
    refine (dspoil_missing W w d fm rm n own L ks h1 s k (view_none hg)).mono ?_
    rintro e w' ⟨rfl, h2, ho⟩
    exact ⟨rfl, KX.same hS h2 (ho.weak fun _ _ e => e.elim)⟩
  | some f =>
    obtain ⟨fb, hg2⟩ := view_some hg
    simp only []
    by_cases ho : f.ops.length ≠ 0
    · rw [if_pos ho]
      refine (dspoil_state W w d fm rm n own L ks h1 s k fb f hg2 (fun e => ho (by rw [e]; rfl))).mono ?_
      rintro e w' ⟨rfl, h2, ho⟩
      exact ⟨rfl, KX.same hS h2 (ho.weak fun _ _ e => e.elim)⟩
    rw [if_neg ho]
    have he : f.ops = [] := List.eq_nil_of_length_eq_zero (by omega)
    by_cases hk1 : k < 0
    · rw [if_pos (.inl hk1)]
      refine (dspoil_neg W w d fm rm n own L ks h1 s k fb f hg2 he hk1).mono ?_
      rintro e w' ⟨rfl, h2, ho⟩
      exact ⟨rfl, KX.same hS h2 (ho.weak fun _ _ e => e.elim)⟩
    by_cases hk2 : 8 * (f.safe.length : Int) ≤ k
    · rw [if_pos (.inr hk2)]
      refine (dspoil_far W w d fm rm n own L ks h1 s k fb f hg2 he hk1 hk2).mono ?_
      rintro e w' ⟨rfl, h2, ho⟩
      exact ⟨rfl, KX.same hS h2 (ho.weak fun _ _ e => e.elim)⟩
    rw [if_neg (by omega)]
    obtain ⟨m, rfl⟩ := Int.eq_ofNat_of_zero_le (by omega : 0 ≤ k)
    refine (dspoil_there W w d fm rm n own L ks h1 s m (by omega) fb f hg2 he (by omega)).mono ?_
    rintro e w' ⟨rfl, own', h2, he2, ho2⟩
    refine ⟨rfl, ?_⟩
    have := KX.of hS h2 he2 (ho2.weak fun i _ e => .inr (.inr e))
    rwa [view_set] at this

end Go.Proofs.Ytmmlpbepaefamaa
