/- Open of a store: over the plain law, with every outcome. -/
import Derived.Test.YtmmlpbepaefamaaGreatDoorSOpL
namespace Go.Proofs.YtmmlpbepaefamaaGreatDoor
open Go.RowKit Go.MapKept

theorem kv_named : nameS kvB = true := by decide +kernel
/-- What Open leaves. -/
def OX (W w w' : World) (d : Nat) (S : Nat → Prop) (A : Fs) (ks : List Int) (g : Nat) (F0 : KV) (Ls : List (List Chg)) (torn : List (BitVec 8)) (n kk : Nat) (r : Ending) : Prop :=
  (∃ A' n' torn' j, r = .returned (.tuple #[.pointer none, .int .i64 13]) ∧ KX W w w' d S A' ks n' ∧ CS A' g F0 Ls torn' ∧ okS (kk + 2) A' ∧ n' ≤ n + 2 ∧ n < j ∧ j ≤ n' ∧ ((j : Nat) : Int) ∈ ks ∧ torn ≠ []) ∨
  (∃ A' n' S' s jb mb M, r = .returned (.tuple #[.pointer (some ⟨s, 0, none⟩), .int .i64 0]) ∧ KD W w' d S' A' ks n' ∧ Only w w' S ∧ (∀ i, i < w.heap.size → S' i → S i) ∧ CS A' g F0 Ls [] ∧ okS (kk + 2) A' ∧ n' ≤ n + 2 ∧ (torn = [] → A' = A ∧ n' = n) ∧ ST w' W.heap.size S' d s kvB g jb mb M ∧ w.heap.size ≤ s ∧ (∀ k, getM M k = foldB F0 Ls k) ∧ M.length ≤ 1000 + 10 * Ls.length)

/-- What Open lays before it reads. -/
theorem open_start (w : World) (d : Nat) (x : ByteArray) : ∃ s b6 w3, s = w.heap.size + 1 ∧ b6 = w.heap.size + 1 + 1 ∧ w3 = ((w.alloc (.map #[] 0)).alloc (.cells #[.pointer (some ⟨d, 0, none⟩), .string x, .int .i64 0, .pointer none, .map (some w.heap.size)] 64)).alloc (.cells #[.pointer (some ⟨w.heap.size + 1, 0, none⟩)] 26) ∧
    Whole w3 s 64 (storC d x 0 (.pointer none) w.heap.size) ∧ Whole w3 b6 26 [.pointer (some ⟨s, 0, none⟩)] ∧ (∀ lo S, VM w3 lo S w.heap.size []) ∧ Below w.heap.size w w3 := by
  have hm := MapN.new w
  have h1 := Whole.new (w.alloc (.map #[] 0)) 64 #[.pointer (some ⟨d, 0, none⟩), .string x, .int .i64 0, .pointer none, .map (some w.heap.size)]
  have hb1 : Below (w.alloc (.map #[] 0)).heap.size (w.alloc (.map #[] 0)) ((w.alloc (.map #[] 0)).alloc (.cells #[.pointer (some ⟨d, 0, none⟩), .string x, .int .i64 0, .pointer none, .map (some w.heap.size)] 64)) := (Below.refl _ _).alloc (Nat.le_refl _) _
  generalize hw2 : (w.alloc (.map #[] 0)).alloc (.cells #[.pointer (some ⟨d, 0, none⟩), .string x, .int .i64 0, .pointer none, .map (some w.heap.size)] 64) = w2 at h1 hb1
  have h2 := Whole.new w2 26 #[.pointer (some ⟨w.heap.size + 1, 0, none⟩)]
  have hb2 : Below w2.heap.size w2 (w2.alloc (.cells #[.pointer (some ⟨w.heap.size + 1, 0, none⟩)] 26)) := (Below.refl _ _).alloc (Nat.le_refl _) _
  have hsz : w2.heap.size = w.heap.size + 1 + 1 := by rw [← hw2]; simp
  have hsz1 : (w.alloc (.map #[] 0)).heap.size = w.heap.size + 1 := by simp
  rw [hsz1] at h1
  rw [hsz] at h2
  have hm3 : MapN (w2.alloc (.cells #[.pointer (some ⟨w.heap.size + 1, 0, none⟩)] 26)) w.heap.size (entsN []) := (hm.low hb1 hm.lt).low hb2 (by omega)
  refine ⟨_, _, _, rfl, rfl, rfl, h1.below hb2 h1.lt, h2, fun lo S => ⟨hm3, fun y hy => by cases hy⟩, ?_⟩
  have hb0 : Below w.heap.size w (w.alloc (.map #[] 0)) := (Below.refl _ _).alloc (Nat.le_refl _) _
  exact (hb0.trans (hb1.mono hb0.size)).trans (hb2.mono (by omega))

theorem LX.only {W w w' : World} {d : Nat} {S : Nat → Prop} {A : Fs} {ks : List Int} {g : Nat} {F0 : KV} {Ls : List (List Chg)} {torn : List (BitVec 8)} {n kk : Nat} {p v : Value} {e : Int} (h : LX W w w' d S A ks g F0 Ls torn n kk p v e) : Only w w' S := by
  rcases h with ⟨_, _, _, _, _, _, _, ⟨_, _, h, _⟩, _⟩ | ⟨_, _, _, _, _, _, _, h, _⟩ <;> exact h
theorem foldB_next {F : KV} {Ls : List (List Chg)} {k : Nat} {L : List Chg} (h : Ls[k]? = some L) : foldB F (Ls.take (k + 1)) = applyB (foldB F (Ls.take k)) L := by
  rw [List.take_add_one, h]
  exact foldB_add F _ L

set_option maxRecDepth 100000 in
set_option maxHeartbeats 8000000 in
theorem sopen_fresh (W w : World) (d n kk : Nat) (S : Nat → Prop) (A : Fs) (ks : List Int) (h : KD W w d S A ks n) (hk : okS kk A) (hkk : kk ≤ 800) (hn : n ≤ 800000) (g : Nat) (hg : g < 59) (F0 : KV) (Ls : List (List Chg)) (hL : ∀ L ∈ Ls, okL L) (hLs : Ls.length ≤ 40) (torn : List (BitVec 8)) (hC : CS A g F0 Ls torn) (x : ByteArray) (hx : x = kvB) (hg0 : g = 0) (hF0 : F0 = kv0) (hsn : getA A (snapN kvB) = none) :
    Calls Tryz.prog 6 #[.pointer (some ⟨d, 0, none⟩), .string x] w fun r w' => OX W w w' d S A ks g F0 Ls torn n kk r := by
  have hmm : ∀ w : World, (Instr.makeMap 61 none).run Tryz.prog w = .ok (.map (some w.heap.size)) (w.alloc (.map #[] 0)) := fun w => run_makeMap _ w
  have hsx : ¬ (9223372036854775807 : Int) < (x.size : Int) + 5 := by rw [hx]; decide
  have HSZ := Lib.hid (show x.size ≤ 900 by rw [hx]; decide)
  have HNA := Lib.hid (fun w => snamed_calls w x (by rw [hx]; decide))
  rw [show nameS x = true by rw [hx]; exact kv_named] at HNA
  have HOL := Lib.hid (show ∀ (w' : World) (hb : Below w.heap.size w w'), Calls Tryz.prog 23 #[.pointer (some ⟨d, 0, none⟩), .string (logN x g)] w' fun r w6 => ∃ p v e, r = .returned (.tuple #[p, v, .int .i64 e]) ∧ LX W w' w6 d S A ks g F0 Ls torn n kk p v e from fun w' hb => by rw [hx]; exact log_open W w' d n kk S A ks (h.low hb) hk (by omega) (by omega) g (by omega) F0 Ls hL hLs torn hC)
  have hWw := h.below.size
  have HX := Lib.hid hx
  have HD := Lib.hid h
  have HL := Lib.hid hL
  have hSlt : ∀ i, S i → i < w.heap.size := fun i e => (HD.out.old e).1
  have HSL := Lib.hid hSlt
  obtain ⟨s, b6, w3, hs, hb6, hw3, hW3, hB3, hV3, hb3⟩ := open_start w d x
  have hsS : ¬ S s := fun e => by have := HSL.out s e; omega
  have hbS : ¬ S b6 := fun e => by have := HSL.out b6 e; omega
  have HSS := Lib.hid (And.intro hsS hbS)
  have HLEN := Lib.hid (And.intro hLs hg)
  have HR := Lib.hid (show ∀ (w' : World) (hb : Below w.heap.size w w'), Calls Tryz.prog 20 #[.pointer (some ⟨d, 0, none⟩), .string (x ++ ⟨#[46, 115, 110, 97, 112]⟩)] w' fun e' w2 => e' = .returned (.tuple #[.slice none 0 0, .int .i64 6]) ∧ w' = w2 from fun w' hb => by rw [hx]; exact kd_read_none (h.low hb) (snapN kvB) hsn)
  clear h hk hL hC hx hLs hSlt hsS hbS
  go_enter Tryz.func6, Tryz.ntmps6
  go_upto_region 2 with fail
  rw [← hw3]
  rw [← hb6, ← hs]
  clear hw3
  obtain ⟨mb0, hm0⟩ : ∃ m, w.heap.size = m := ⟨_, rfl⟩
  rw [hm0] at hW3 hV3
  have HSB := Lib.hid (And.intro hm0 (And.intro hs (And.intro hb6 hWw)))
  have HB3 := Lib.hid hB3
  have HW3 := Lib.hid hW3
  have HV3 := Lib.hid hV3
  have HB0 := Lib.hid hb3
  have x6 := hB3.cell 0
  clear hb3 hW3 hB3 hV3 hs hb6 hm0 hWw
  go_upto_region 9 with (first
    | (go_at_call 21; refine (HNA.out w3).mono ?_; rintro r w4 ⟨rfl, hb4⟩)
    | (go_at_call 20; refine (HR.out w3 HB0.out).mono ?_; rintro r w4 ⟨rfl, rfl⟩)
    | fail)
  obtain ⟨gi, hgi⟩ : ∃ gi : Int, ((g : Nat) : Int) = gi := ⟨_, rfl⟩
  have HGI := Lib.hid hgi
  obtain ⟨wX, hwX⟩ : ∃ wX, w4 = wX := ⟨_, rfl⟩
  have HW := Lib.hid (show Whole wX s 64 (storC d x gi (.pointer none) mb0) from by rw [← hwX, ← hgi, hg0]; exact HW3.out.below hb4 HW3.out.lt)
  have HB := Lib.hid (show Whole wX b6 26 [.pointer (some ⟨s, 0, none⟩)] from by rw [← hwX]; exact HB3.out.below hb4 HB3.out.lt)
  obtain ⟨M0, hM0⟩ : ∃ M0 : List Ent, M0 = [] := ⟨_, rfl⟩
  have HV := Lib.hid (show VM wX W.heap.size S mb0 M0 from by rw [← hwX, hM0]; exact (HV3.out _ _).low hb4)
  have HF := Lib.hid (show ∀ j, getM M0 j = foldB F0 (Ls.take 0) j from fun j => by rw [hM0, hF0, List.take_zero]; rfl)
  have HM0 := Lib.hid (show M0.length ≤ 1000 + 10 * 0 by rw [hM0]; simp)
  have HBX := Lib.hid (show Below w.heap.size w wX from by rw [← hwX]; exact HB0.out.trans (hb4.mono HB0.out.size))
  have HMS := Lib.hid (show ¬ S mb0 from fun e => by have := HSL.out mb0 e; have := HSB.out.1; omega)
  rw [hwX]
  clear hwX hb4 x6 hgi hg0 hF0 hM0
  have hdr := (Below.refl wX.heap.size wX).drew
  have x6 : wX.drew.cell? ⟨b6, 0, none⟩ = some (.pointer (some ⟨s, 0, none⟩)) := (HB.out.below hdr HB.out.lt).cell 0
  have x2 : wX.drew.cell? ⟨s, 2, none⟩ = some (.int .i64 gi) := (HW.out.below hdr HW.out.lt).cell 2
  have HLN := Lib.hid (logname_calls wX.drew s d mb0 g x gi (.pointer none) (HW.out.below hdr HW.out.lt) (by have := HLEN.out.2; omega) (by have := HSZ.out; omega))
  rw [HGI.out] at HLN
  refine wp_region_noPanic ?_
  refine wp_region_held_drew (S := fun w' => w'.cell? ⟨b6, 0, none⟩ = some (.pointer (some ⟨s, 0, none⟩)) ∧ w'.cell? ⟨s, 2, none⟩ = some (.int .i64 gi)) (by kernel_rfl) (⟨x6, x2⟩) (fun hhS => ?_)
  generalize wX.drew = wd at hdr hhS x6 x2 HLN ⊢
  refine wpAnyH_take (i := 0) (oi := ⟨some 44, _, _, _, _, _⟩) (v := ?_) rfl (by kernel_rfl) (by kernel_rfl) (by kernel_rfl) (fun _ _ _ h => h) (Or.inl ⟨by rfl, ?_⟩) (by assumption) ?_
  rotate_left
  · intro w hSw
    (try dsimp only at hSw)
    go_simp
    all_goals (with_reducible rfl)
  try simp only [Act.put, List.setIfInBounds_toArray, List.set_cons_zero, List.set_cons_succ]
  refine wpAnyH_take (i := 1) (oi := ⟨some 45, _, _, _, _, _⟩) (v := ?_) rfl (by kernel_rfl) (by kernel_rfl) (by kernel_rfl) (fun _ _ _ h => h) (Or.inl ⟨by rfl, ?_⟩) (by assumption) ?_
  rotate_left
  · intro w hSw
    (try dsimp only at hSw)
    have y0 := hSw.1
    have y2 := hSw.2
    go_simp
    all_goals (with_reducible rfl)
  try simp only [Act.put, List.setIfInBounds_toArray, List.set_cons_zero, List.set_cons_succ]
  refine wpAnyH_take (i := 2) (oi := ⟨some 46, _, _, _, _, _⟩) (v := ?_) rfl (by kernel_rfl) (by kernel_rfl) (by kernel_rfl) (fun _ _ _ h => h) (Or.inl ⟨by rfl, ?_⟩) (by assumption) ?_
  rotate_left
  · intro w hSw
    (try dsimp only at hSw)
    have y0 := hSw.1
    have y2 := hSw.2
    go_simp
    all_goals (with_reducible rfl)
  try simp only [Act.put, List.setIfInBounds_toArray, List.set_cons_zero, List.set_cons_succ]
  refine wpAnyH_take (i := 3) (oi := ⟨some 47, _, _, _, _, _⟩) (v := ?_) rfl (by kernel_rfl) (by kernel_rfl) (by kernel_rfl) (fun _ _ _ h => h) (Or.inl ⟨by rfl, ?_⟩) (by assumption) ?_
  rotate_left
  · intro w hSw
    (try dsimp only at hSw)
    go_simp
    all_goals (with_reducible rfl)
  try simp only [Act.put, List.setIfInBounds_toArray, List.set_cons_zero, List.set_cons_succ]
  refine wpAnyH_take (i := 4) (oi := ⟨some 48, _, _, _, _, _⟩) (v := ?_) rfl (by kernel_rfl) (by kernel_rfl) (by kernel_rfl) (fun _ _ _ h => h) (Or.inl ⟨by rfl, ?_⟩) (by assumption) ?_
  rotate_left
  · intro w hSw
    (try dsimp only at hSw)
    go_simp
    all_goals (with_reducible rfl)
  try simp only [Act.put, List.setIfInBounds_toArray, List.set_cons_zero, List.set_cons_succ]
  refine wpAnyH_take (i := 5) (oi := ⟨some 49, _, _, _, _, _⟩) (v := ?_) rfl (by kernel_rfl) (by kernel_rfl) (by kernel_rfl) (fun _ _ _ h => h) (Or.inl ⟨by rfl, ?_⟩) (by assumption) ?_
  rotate_left
  · intro w hSw
    (try dsimp only at hSw)
    have y0 := hSw.1
    have y2 := hSw.2
    go_simp
    all_goals (with_reducible rfl)
  try simp only [Act.put, List.setIfInBounds_toArray, List.set_cons_zero, List.set_cons_succ]
  refine wpAnyH_ready (rs := [6]) (by kernel_rfl) (by simp) ?_
  refine AllReadyH.cons (o := ⟨some 50, _, _, _, _, _⟩) rfl (fun K hK => ?_) AllReadyH.nil
  go_simp
  refine HLN.out.mono ?_
  rintro r w5 ⟨rfl, hb5⟩
  have hb35 := hdr.trans (hb5.mono hdr.size)
  have hb05 := HBX.out.trans (hb35.mono HBX.out.size)
  have hW5 := HW.out.below hb35 HW.out.lt
  have hB5 := HB.out.below hb35 HB.out.lt
  refine hK.out _ _ (⟨hB5.cell 0, hW5.cell 2⟩) (fun _ => ?_)
  clear hK K
  try simp only [Act.put, List.setIfInBounds_toArray, List.set_cons_zero, List.set_cons_succ]
  refine wpAnyH_ready (rs := [7]) (by kernel_rfl) (by simp) ?_
  refine AllReadyH.cons (o := ⟨some 51, _, _, _, _, _⟩) rfl (fun K hK => ?_) AllReadyH.nil
  go_simp
  refine (HOL.out w5 hb05).mono ?_
  rintro r w6 ⟨pj, uj, ej, rfl, hX6⟩
  have hO6 := hX6.only
  have hW6 := hW5.only hO6 HSS.out.1
  have hB6 := hB5.only hO6 HSS.out.2
  have HX6 := Lib.hid hX6
  clear hX6
  refine hK.out _ _ (⟨hB6.cell 0, hW6.cell 2⟩) (fun _ => ?_)
  clear hK K
  try simp only [Act.put, List.setIfInBounds_toArray, List.set_cons_zero, List.set_cons_succ]
  refine wpAnyH_take (i := 8) (oi := ⟨some 43, _, _, _, _, _⟩) (v := ?_) rfl (by kernel_rfl) (by kernel_rfl) (by kernel_rfl) (fun _ _ _ h => h) (Or.inl ⟨by rfl, ?_⟩) (by assumption) ?_
  rotate_left
  · intro w hSw
    (try dsimp only at hSw)
    go_simp
    all_goals (with_reducible rfl)
  try simp only [Act.put, List.setIfInBounds_toArray, List.set_cons_zero, List.set_cons_succ]
  refine wpAnyH_take (i := 9) (oi := ⟨some 52, _, _, _, _, _⟩) (v := ?_) rfl (by kernel_rfl) (by kernel_rfl) (by kernel_rfl) (fun _ _ _ h => h) (Or.inl ⟨by rfl, ?_⟩) (by assumption) ?_
  rotate_left
  · intro w hSw
    (try dsimp only at hSw)
    go_simp
    all_goals (with_reducible rfl)
  try simp only [Act.put, List.setIfInBounds_toArray, List.set_cons_zero, List.set_cons_succ]
  refine wpAnyH_take (i := 10) (oi := ⟨some 53, _, _, _, _, _⟩) (v := ?_) rfl (by kernel_rfl) (by kernel_rfl) (by kernel_rfl) (fun _ _ _ h => h) (Or.inl ⟨by rfl, ?_⟩) (by assumption) ?_
  rotate_left
  · intro w hSw
    (try dsimp only at hSw)
    go_simp
    all_goals (with_reducible rfl)
  try simp only [Act.put, List.setIfInBounds_toArray, List.set_cons_zero, List.set_cons_succ]
  refine wpAnyH_take (i := 11) (oi := ⟨some 54, _, _, _, _, _⟩) (v := ?_) rfl (by kernel_rfl) (by kernel_rfl) (by kernel_rfl) (fun _ _ _ h => h) (Or.inl ⟨by rfl, ?_⟩) (by assumption) ?_
  rotate_left
  · intro w hSw
    (try dsimp only at hSw)
    go_simp
    all_goals (with_reducible rfl)
  try simp only [Act.put, List.setIfInBounds_toArray, List.set_cons_zero, List.set_cons_succ]
  refine wpAnyH_take (i := 12) (oi := ⟨some 9, _, _, _, _, _⟩) (v := ?_) rfl (by kernel_rfl) (by kernel_rfl) (by kernel_rfl) (fun _ _ _ h => h) (Or.inl ⟨by rfl, ?_⟩) (by assumption) ?_
  rotate_left
  · intro w hSw
    (try dsimp only at hSw)
    go_simp
    all_goals (with_reducible rfl)
  try simp only [Act.put, List.setIfInBounds_toArray, List.set_cons_zero, List.set_cons_succ]
  refine wpAnyH_take (i := 13) (oi := ⟨some 10, _, _, _, _, _⟩) (v := ?_) rfl (by kernel_rfl) (by kernel_rfl) (by kernel_rfl) (fun _ _ _ h => h) (Or.inl ⟨by rfl, ?_⟩) (by assumption) ?_
  rotate_left
  · intro w hSw
    (try dsimp only at hSw)
    go_simp
    all_goals (with_reducible rfl)
  try simp only [Act.put, List.setIfInBounds_toArray, List.set_cons_zero, List.set_cons_succ]
  refine wpAnyH_take (i := 14) (oi := ⟨some 8, _, _, _, _, _⟩) (v := ?_) rfl (by kernel_rfl) (by kernel_rfl) (by kernel_rfl) (fun _ _ _ h => h) (Or.inl ⟨by rfl, ?_⟩) (by assumption) ?_
  rotate_left
  · intro w hSw
    (try dsimp only at hSw)
    go_simp
    all_goals (with_reducible rfl)
  try simp only [Act.put, List.setIfInBounds_toArray, List.set_cons_zero, List.set_cons_succ]
  refine wpAnyH_done (by kernel_rfl) ?_ _
  refine NoPanic.normal ?_
  have hX6 := HX6.out
  have hB6b := HSB.out
  have hsz5 := hb05.size
  rcases hX6 with ⟨A', n', torn', j, rfl, rfl, rfl, ⟨S', hD6, _, hs6⟩, hC', hok', hn', hj1, hj2, hj3⟩ | ⟨A', n', S', jb, rfl, rfl, hD6, _, hs6, hC', hok', hn1, hn2, ht, hJ6, hjb, hjS, hR6⟩
  · have HF := Lib.hid (show OX W w w6 d S A ks g F0 Ls torn n kk (.returned (.tuple #[.pointer none, .int .i64 13])) from .inl ⟨A', n', torn', j, rfl, ⟨S', hD6, ((Only.of_below hb05 S).trans hO6).weak fun i _ e => e.elim id id, fun i hi e => hs6 i (Nat.lt_of_lt_of_le hi hsz5) e⟩, hC', hok', hn', hj1, hj2, hj3⟩)
    clear hD6 hC' hok' hn' hj1 hj2 hj3 hs6 HX6 hO6 hW6 hB6 hW5 hB5 hb05 hb35 x6 x2 hb5 hdr hhS hB6b hsz5
    go_wp2
    go_ret2
    exact HF.out
  · obtain ⟨⟨ua, uc, rfl⟩, hRL⟩ := hR6
    obtain ⟨N, hN⟩ : ∃ N, Ls.length = N := ⟨_, rfl⟩
    rw [hN]
    have hsz35 := hb35.size
    have hV5 := (HV.out.low hb35)
    have hV6 := hV5.only (S' := S') hO6 HMS.out (fun y hy g1 hg1 => (hV5.vals y hy).2 g1 hg1) hs6
    have hW7 : Whole (w6.setCell ⟨s, 3, none⟩ (.pointer (some ⟨jb, 0, none⟩))) s 64 (storC d x gi (.pointer (some ⟨jb, 0, none⟩)) mb0) := hW6.put 3 (.pointer (some ⟨jb, 0, none⟩))
    have ho7 := Only.set w6 ⟨s, 3, none⟩ (.pointer (some ⟨jb, 0, none⟩))
    have hB7 := hB6.only ho7 (fun e : b6 = s => whole_ne hB6 hW6 (by decide) e)
    have hc6 := hV6.cells hW6 (by decide)
    have hV7 := hV6.only (S' := S') ho7 hc6.1 hc6.2 (fun _ _ e => e)
    have hs5 : s < w5.heap.size := hW5.lt
    have hm5 : mb0 < w5.heap.size := hV5.map.lt
    have hSs : ¬ S' s := fun e => HSS.out.1 (hs6 s hs5 e)
    have hSm : ¬ S' mb0 := fun e => HMS.out (hs6 mb0 hm5 e)
    have hsW : w.heap.size ≤ s := by omega
    have y3 : w6.cell? ⟨s, 3, none⟩ = some (.pointer none) := hW6.cell 3
    have y3f := hW6.free 3
    have y6 : w6.cell? ⟨b6, 0, none⟩ = some (.pointer (some ⟨s, 0, none⟩)) := hB6.cell 0
    have HD6 := Lib.hid hD6
    have HS6 := Lib.hid hs6
    have HRL := Lib.hid hRL
    have HV7 := Lib.hid hV7
    have HW7 := Lib.hid hW7
    have HB7 := Lib.hid hB7
    have HO7 := Lib.hid ho7
    have HO6 := Lib.hid hO6
    have HJ6 := Lib.hid hJ6
    have HS := Lib.hid (And.intro hSs (And.intro hSm (And.intro hsW (And.intro hjb (And.intro hs5 (And.intro hjS hN))))))
    have HZ := Lib.hid (And.intro hC' (And.intro hok' (And.intro hn1 ht)))
    have HB05 := Lib.hid hb05
    clear hD6 hs6 hRL hV7 hV6 hV5 hW7 hB7 ho7 hO6 hJ6 hSs hSm hsW hjb hs5 hjS hC' hok' hn1 hn2 ht hm5 hc6 hb05 hb35 hW5 hB5 hW6 hB6 HX6 x6 x2 hb5 hdr hhS hB6b hsz5 hsz35 hN
    have hN40 : N ≤ 40 := by have := HLEN.out.1; have := HS.out.2.2.2.2.2.2; omega
    go_upto_block 1 with fail
    obtain ⟨w7, hw7⟩ : ∃ w7, w6.setCell ⟨s, 3, none⟩ (.pointer (some ⟨jb, 0, none⟩)) = w7 := ⟨_, rfl⟩
    rw [hw7] at HV7 HW7 HB7 HO7
    rw [hw7]
    clear hw7 y3 y3f y6
    go_wp2
    go_loopw [65] (fun i wr => ∃ (k mbk : Nat) (Mk : List Ent), k ≤ N ∧ i = .int .i64 k ∧ Whole wr s 64 (storC d x gi (.pointer (some ⟨jb, 0, none⟩)) mbk) ∧ VM wr W.heap.size S' mbk Mk ∧ (∀ j, getM Mk j = foldB F0 (Ls.take k) j) ∧ Mk.length ≤ 1000 + 10 * k ∧ ¬ S' mbk ∧ Only w7 wr fun i => i = s) (fun i _ => N - (intOf i).toNat)
    case atStart => exact ⟨0, mb0, M0, by omega, rfl, HW7.out, HV7.out, HF.out, HM0.out, HS.out.2.1, ⟨rfl, rfl, rfl, Nat.le_refl _, fun _ _ _ => rfl⟩⟩
    case round =>
      obtain ⟨k, mbk, Mk, hk, rfl, hWr, hVr, hFr, hMr, hSr, hOr⟩ := hrel
      have ho6r := HO7.out.trans hOr
      replace ho6r : Only w6 wr fun i => i = s := ho6r.weak fun i _ e => e.elim id id
      have hBr := HB7.out.only hOr (fun e : b6 = s => whole_ne HB7.out HW7.out (by decide) e)
      by_cases hlt : k < N
      · have i1 : (k : Int) < (N : Int) := by omega
        have i2 : 0 ≤ (k : Int) ∧ (k : Int) < (N : Int) := by omega
        have s2 : IntKind.i64.wrap ((k : Int) + 1) = (k : Int) + 1 := IntWalk.i64_in _ (by omega)
        have hlen := HS.out.2.2.2.2.2.2
        obtain ⟨L, hLk⟩ : ∃ L, Ls[k]? = some L := ⟨_, List.getElem?_eq_getElem (by omega)⟩
        have hoL := HL.out L (List.mem_of_getElem? hLk)
        have hnx := foldB_next (F := F0) hLk
        have hne : Ls ≠ [] := fun e => by rw [e] at hLk; simp at hLk
        have hRL := HRL.out hne
        rw [hlen] at hRL
        obtain ⟨g0, rfl, hgB, hg0, _, hcell⟩ := listsown_each hRL (by simpa using hne)
        obtain ⟨u, hu, hou⟩ := hcell k (recB L) (by rw [List.getElem?_map, hLk]; rfl)
        have hfar : ∀ b, w5.heap.size ≤ b → ¬ b = s := fun b hb e => by have := HS.out.2.2.2.2.1; omega
        have c1 : wr.cell? ⟨g0, k, none⟩ = some u := by
          have := ho6r.block g0 hg0 (hfar g0 hgB)
          rw [← hu]
          simp [World.cell?, this]
        have hou2 : Own wr w5.heap.size u (recB L) := row_only hou ho6r fun b hb => hfar b (own_ge hou hb)
        have hszr := ho6r.size
        have hszb := HB05.out.size
        have HSD := Lib.hid (sdo_calls wr W.heap.size mbk s d b6 S' Mk x gi (.pointer (some ⟨jb, 0, none⟩)) hBr hWr hVr (by have := HSB.out; have := HO6.out.size; omega) (fun i e => by have := (HD6.out.old e).1; omega) u L hou2.room hoL.1 (by have := hoL.rec.2; omega) (by have := hoL.2.1; omega))
        obtain ⟨au, nu, cu, rfl⟩ := slice_any hou2
        have HNX := Lib.hid hnx
        have HFR := Lib.hid hFr
        have HOL2 := Lib.hid hoL.2.1
        have HMR := Lib.hid hMr
        have HOR := Lib.hid hOr
        have HSR := Lib.hid (fun i (e : S' i) => show i < wr.heap.size by have := (HD6.out.old e).1; omega)
        clear hWr hVr hFr hMr hSr hOr ho6r hBr hLk hoL hnx hne hRL hcell hu hou hfar hou2 hszr hszb hlen
        go_wp2_with (first
          | (go_at_call 25; refine HSD.out.mono ?_; rintro r w8 ⟨rfl, mb8, M8, hmb8, hW8, hV8, hF8, hM8, hO8⟩; have H8 := Lib.hid (And.intro hmb8 (And.intro hW8 (And.intro hV8 (And.intro hF8 (And.intro hM8 hO8))))); clear hmb8 hW8 hV8 hF8 hM8 hO8)
          | fail)
        go_roundw
        case rel =>
          obtain ⟨hmb8, hW8, hV8, hF8, hM8, hO8⟩ := H8.out
          refine ⟨k + 1, mb8, M8, by omega, by go_num, hW8, hV8, fun j => ?_, by have := HMR.out; have := HOL2.out; omega, fun e => by have := HSR.out mb8 e; omega, (HOR.out.trans hO8).weak fun i _ e => e.elim id id⟩
          rw [hF8 j, HNX.out, show getM Mk = foldB F0 (Ls.take k) from funext HFR.out]
        case measure => simp [intOf]; omega
      · obtain rfl : k = N := by omega
        have i1 : ¬ (k : Int) < (k : Int) := by omega
        have y6 := hBr.cell 0
        have hTk : Ls.take k = Ls := List.take_of_length_le (by have := HS.out.2.2.2.2.2.2; omega)
        rw [hTk] at hFr
        obtain ⟨hSs, hSm, hsW, hjb, hs5, hjS, hN⟩ := HS.out
        obtain ⟨hC', hok', hn1, ht⟩ := HZ.out
        have hWs : W.heap.size ≤ s := by have := HSB.out; omega
        have hDr := HD6.out.only ho6r (fun i _ e => e ▸ hSs) (fun i _ e => e ▸ hWs)
        have hOO : Only w wr S := (((Only.of_below HB05.out S).trans HO6.out).trans ho6r).weak fun i hi e => by
          rcases e with (e | e) | e
          · exact e
          · exact e
          · omega
        have hSTr : ST wr W.heap.size S' d s kvB g jb mbk Mk := by
          have := HX.out
          subst this
          have hg := HGI.out
          subst hg
          exact ⟨hWr, HJ6.out.only ho6r (fun e => by omega), hVr, hSs, hjS, hSr, hWs, by have := HB05.out.size; omega⟩
        have HE := Lib.hid (show OX W w wr d S A ks g F0 Ls torn n kk (.returned (.tuple #[.pointer (some ⟨s, 0, none⟩), .int .i64 0])) from .inr ⟨A', n', S', s, jb, mbk, Mk, rfl, hDr, hOO, fun i hi e => HS6.out i (Nat.lt_of_lt_of_le hi HB05.out.size) e, hC', hok', hn1, ht, hSTr, hsW, hFr, by rw [hN]; exact hMr⟩)
        clear hWr hVr hFr hMr hSr hOr ho6r hBr hDr hOO hSTr hC' hok' hn1 ht hN hTk
        go_wp2
        go_ret2
        exact HE.out

set_option maxRecDepth 100000 in
set_option maxHeartbeats 8000000 in
theorem sopen_snap (W w : World) (d n kk : Nat) (S : Nat → Prop) (A : Fs) (ks : List Int) (h : KD W w d S A ks n) (hk : okS kk A) (hkk : kk ≤ 800) (hn : n ≤ 800000) (g : Nat) (hg : g < 59) (F0 : KV) (Ls : List (List Chg)) (hL : ∀ L ∈ Ls, okL L) (hLs : Ls.length ≤ 40) (torn : List (BitVec 8)) (hC : CS A g F0 Ls torn) (x : ByteArray) (hx : x = kvB) (g0 : Nat) (P : List (ByteArray × List (BitVec 8))) (hg0 : g = g0 + 1) (hF0 : getP P = F0) (hP : PairsOk P) (hsn : getA A (snapN kvB) = some ⟨laidB g0 P, [], false⟩) :
    Calls Tryz.prog 6 #[.pointer (some ⟨d, 0, none⟩), .string x] w fun r w' => OX W w w' d S A ks g F0 Ls torn n kk r := by
  have hmm : ∀ w : World, (Instr.makeMap 61 none).run Tryz.prog w = .ok (.map (some w.heap.size)) (w.alloc (.map #[] 0)) := fun w => run_makeMap _ w
  have hsx : ¬ (9223372036854775807 : Int) < (x.size : Int) + 5 := by rw [hx]; decide
  have HSZ := Lib.hid (show x.size ≤ 900 by rw [hx]; decide)
  have HNA := Lib.hid (fun w => snamed_calls w x (by rw [hx]; decide))
  rw [show nameS x = true by rw [hx]; exact kv_named] at HNA
  have HOL := Lib.hid (show ∀ (w' : World) (hb : Below w.heap.size w w'), Calls Tryz.prog 23 #[.pointer (some ⟨d, 0, none⟩), .string (logN x g)] w' fun r w6 => ∃ p v e, r = .returned (.tuple #[p, v, .int .i64 e]) ∧ LX W w' w6 d S A ks g F0 Ls torn n kk p v e from fun w' hb => by rw [hx]; exact log_open W w' d n kk S A ks (h.low hb) hk (by omega) (by omega) g (by omega) F0 Ls hL hLs torn hC)
  have hWw := h.below.size
  have HX := Lib.hid hx
  have HD := Lib.hid h
  have HL := Lib.hid hL
  have hSlt : ∀ i, S i → i < w.heap.size := fun i e => (HD.out.old e).1
  have HSL := Lib.hid hSlt
  obtain ⟨s, b6, w3, hs, hb6, hw3, hW3, hB3, hV3, hb3⟩ := open_start w d x
  have hsS : ¬ S s := fun e => by have := HSL.out s e; omega
  have hbS : ¬ S b6 := fun e => by have := HSL.out b6 e; omega
  have HSS := Lib.hid (And.intro hsS hbS)
  have HLEN := Lib.hid (And.intro hLs hg)
  have HR := Lib.hid (show ∀ (w' : World) (hb : Below w.heap.size w w'), Calls Tryz.prog 20 #[.pointer (some ⟨d, 0, none⟩), .string (x ++ ⟨#[46, 115, 110, 97, 112]⟩)] w' fun e' w2 => ∃ u, e' = .returned (.tuple #[u, .int .i64 0]) ∧ (∃ a c, u = .slice a (laidB g0 P).length c) ∧ Own w2 w'.heap.size u (laidB g0 P) ∧ Below w'.heap.size w' w2 from fun w' hb => by rw [hx]; exact kd_read_at (h.low hb) (hk.ok (by omega)) (snapN kvB) _ hsn)
  have HSN := Lib.hid (fun (w' : World) (mb : Nat) (v : Value) (hW : Whole w' s 64 (storC d x 0 (.pointer none) mb)) (hV : VM w' W.heap.size S mb []) (hb : Below w.heap.size w w') (hv : SliceR w' v (laidB g0 P)) => ssnap_calls w' W.heap.size mb s d S x 0 (.pointer none) hW hV (Nat.le_trans hWw hb.size) (fun i e => Nat.lt_of_lt_of_le (HSL.out i e) hb.size) v g0 P hv (by omega) hP.len hP.asc hP.all)
  have HPL := Lib.hid hP.len
  obtain ⟨R, hR⟩ : ∃ R, (laidB g0 P).length = R := ⟨_, rfl⟩
  rw [hR] at HR
  clear hP hR
  clear h hk hL hC hx hLs hSlt hsS hbS
  go_enter Tryz.func6, Tryz.ntmps6
  go_upto_region 2 with fail
  rw [← hw3]
  rw [← hb6, ← hs]
  clear hw3
  obtain ⟨mb0, hm0⟩ : ∃ m, w.heap.size = m := ⟨_, rfl⟩
  rw [hm0] at hW3 hV3
  have HSB := Lib.hid (And.intro hm0 (And.intro hs (And.intro hb6 hWw)))
  have HB3 := Lib.hid hB3
  have HW3 := Lib.hid hW3
  have HV3 := Lib.hid hV3
  have HB0 := Lib.hid hb3
  have x6 := hB3.cell 0
  clear hb3 hW3 hB3 hV3 hs hb6 hm0 hWw
  go_upto_region 9 with (first
    | (go_at_call 22; refine (HSN.out w5 mb0 _ (HW3.out.below hb35 HW3.out.lt) ((HV3.out _ _).low hb35) hb05 hv5.out).mono ?_; rintro r w6 ⟨rfl, M0, hW6, hV6, hF6, hM6, hO6⟩; have HS6 := Lib.hid (And.intro hW6 (And.intro hV6 (And.intro hF6 (And.intro hM6 hO6)))); clear hW6 hV6 hF6 hM6 hO6)
    | (go_at_call 21; refine (HNA.out w4).mono ?_; rintro r w5 ⟨rfl, hb5⟩; have hb35 := hb4.trans (hb5.mono hb4.size); have hb05 := HB0.out.trans (hb35.mono HB0.out.size); have hv5 := HO4.out.room.low hb5; replace hv5 := Lib.hid hv5; clear x6; have x6 := (HB3.out.below hb35 HB3.out.lt).cell 0)
    | (go_at_call 20; refine (HR.out w3 HB0.out).mono ?_; rintro r w4 ⟨_, rfl, ⟨ua, uc, rfl⟩, hO4, hb4⟩; have HO4 := Lib.hid hO4; clear hO4; clear x6; have x6 := (HB3.out.below hb4 HB3.out.lt).cell 0)
    | fail)
  obtain ⟨hW6, hV6, hF6, hM6, hO6⟩ := HS6.out
  obtain ⟨gi, hgi⟩ : ∃ gi : Int, ((g : Nat) : Int) = gi := ⟨_, rfl⟩
  have HGI := Lib.hid hgi
  obtain ⟨wX, hwX⟩ : ∃ wX, w6 = wX := ⟨_, rfl⟩
  have hgc : ((g0 : Nat) : Int) + 1 = gi := by omega
  rw [hgc, hwX] at hW6
  rw [hwX] at hV6 hO6
  have HW := Lib.hid hW6
  have HV := Lib.hid hV6
  have hbs : ¬ (b6 = s ∨ b6 = mb0) := fun e => by have := HSB.out; omega
  have HB := Lib.hid ((HB3.out.below hb35 HB3.out.lt).only hO6 hbs)
  have HF := Lib.hid (show ∀ j, getM M0 j = foldB F0 (Ls.take 0) j from fun j => by rw [hF6 j, hF0, List.take_zero]; rfl)
  have HM0 := Lib.hid (show M0.length ≤ 1000 + 10 * 0 by have := HPL.out; omega)
  have HBX := Lib.hid (hb05.trans (hO6.below hb05.size fun i _ e => by have := HSB.out; omega))
  have HMS := Lib.hid (show ¬ S mb0 from fun e => by have := HSL.out mb0 e; have := HSB.out.1; omega)
  rw [hwX]
  clear hwX hb4 hb5 hb35 hb05 hv5 hgi hgc hg0 hF0 hF6 hM6 hO6 hbs hW6 hV6 HS6
  have hdr := (Below.refl wX.heap.size wX).drew
  have x6 : wX.drew.cell? ⟨b6, 0, none⟩ = some (.pointer (some ⟨s, 0, none⟩)) := (HB.out.below hdr HB.out.lt).cell 0
  have x2 : wX.drew.cell? ⟨s, 2, none⟩ = some (.int .i64 gi) := (HW.out.below hdr HW.out.lt).cell 2
  have HLN := Lib.hid (logname_calls wX.drew s d mb0 g x gi (.pointer none) (HW.out.below hdr HW.out.lt) (by have := HLEN.out.2; omega) (by have := HSZ.out; omega))
  rw [HGI.out] at HLN
  refine wp_region_noPanic ?_
  refine wp_region_held_drew (S := fun w' => w'.cell? ⟨b6, 0, none⟩ = some (.pointer (some ⟨s, 0, none⟩)) ∧ w'.cell? ⟨s, 2, none⟩ = some (.int .i64 gi)) (by kernel_rfl) (⟨x6, x2⟩) (fun hhS => ?_)
  generalize wX.drew = wd at hdr hhS x6 x2 HLN ⊢
  refine wpAnyH_take (i := 0) (oi := ⟨some 44, _, _, _, _, _⟩) (v := ?_) rfl (by kernel_rfl) (by kernel_rfl) (by kernel_rfl) (fun _ _ _ h => h) (Or.inl ⟨by rfl, ?_⟩) (by assumption) ?_
  rotate_left
  · intro w hSw
    (try dsimp only at hSw)
    go_simp
    all_goals (with_reducible rfl)
  try simp only [Act.put, List.setIfInBounds_toArray, List.set_cons_zero, List.set_cons_succ]
  refine wpAnyH_take (i := 1) (oi := ⟨some 45, _, _, _, _, _⟩) (v := ?_) rfl (by kernel_rfl) (by kernel_rfl) (by kernel_rfl) (fun _ _ _ h => h) (Or.inl ⟨by rfl, ?_⟩) (by assumption) ?_
  rotate_left
  · intro w hSw
    (try dsimp only at hSw)
    have y0 := hSw.1
    have y2 := hSw.2
    go_simp
    all_goals (with_reducible rfl)
  try simp only [Act.put, List.setIfInBounds_toArray, List.set_cons_zero, List.set_cons_succ]
  refine wpAnyH_take (i := 2) (oi := ⟨some 46, _, _, _, _, _⟩) (v := ?_) rfl (by kernel_rfl) (by kernel_rfl) (by kernel_rfl) (fun _ _ _ h => h) (Or.inl ⟨by rfl, ?_⟩) (by assumption) ?_
  rotate_left
  · intro w hSw
    (try dsimp only at hSw)
    have y0 := hSw.1
    have y2 := hSw.2
    go_simp
    all_goals (with_reducible rfl)
  try simp only [Act.put, List.setIfInBounds_toArray, List.set_cons_zero, List.set_cons_succ]
  refine wpAnyH_take (i := 3) (oi := ⟨some 47, _, _, _, _, _⟩) (v := ?_) rfl (by kernel_rfl) (by kernel_rfl) (by kernel_rfl) (fun _ _ _ h => h) (Or.inl ⟨by rfl, ?_⟩) (by assumption) ?_
  rotate_left
  · intro w hSw
    (try dsimp only at hSw)
    go_simp
    all_goals (with_reducible rfl)
  try simp only [Act.put, List.setIfInBounds_toArray, List.set_cons_zero, List.set_cons_succ]
  refine wpAnyH_take (i := 4) (oi := ⟨some 48, _, _, _, _, _⟩) (v := ?_) rfl (by kernel_rfl) (by kernel_rfl) (by kernel_rfl) (fun _ _ _ h => h) (Or.inl ⟨by rfl, ?_⟩) (by assumption) ?_
  rotate_left
  · intro w hSw
    (try dsimp only at hSw)
    go_simp
    all_goals (with_reducible rfl)
  try simp only [Act.put, List.setIfInBounds_toArray, List.set_cons_zero, List.set_cons_succ]
  refine wpAnyH_take (i := 5) (oi := ⟨some 49, _, _, _, _, _⟩) (v := ?_) rfl (by kernel_rfl) (by kernel_rfl) (by kernel_rfl) (fun _ _ _ h => h) (Or.inl ⟨by rfl, ?_⟩) (by assumption) ?_
  rotate_left
  · intro w hSw
    (try dsimp only at hSw)
    have y0 := hSw.1
    have y2 := hSw.2
    go_simp
    all_goals (with_reducible rfl)
  try simp only [Act.put, List.setIfInBounds_toArray, List.set_cons_zero, List.set_cons_succ]
  refine wpAnyH_ready (rs := [6]) (by kernel_rfl) (by simp) ?_
  refine AllReadyH.cons (o := ⟨some 50, _, _, _, _, _⟩) rfl (fun K hK => ?_) AllReadyH.nil
  go_simp
  refine HLN.out.mono ?_
  rintro r w5 ⟨rfl, hb5⟩
  have hb35 := hdr.trans (hb5.mono hdr.size)
  have hb05 := HBX.out.trans (hb35.mono HBX.out.size)
  have hW5 := HW.out.below hb35 HW.out.lt
  have hB5 := HB.out.below hb35 HB.out.lt
  refine hK.out _ _ (⟨hB5.cell 0, hW5.cell 2⟩) (fun _ => ?_)
  clear hK K
  try simp only [Act.put, List.setIfInBounds_toArray, List.set_cons_zero, List.set_cons_succ]
  refine wpAnyH_ready (rs := [7]) (by kernel_rfl) (by simp) ?_
  refine AllReadyH.cons (o := ⟨some 51, _, _, _, _, _⟩) rfl (fun K hK => ?_) AllReadyH.nil
  go_simp
  refine (HOL.out w5 hb05).mono ?_
  rintro r w6 ⟨pj, uj, ej, rfl, hX6⟩
  have hO6 := hX6.only
  have hW6 := hW5.only hO6 HSS.out.1
  have hB6 := hB5.only hO6 HSS.out.2
  have HX6 := Lib.hid hX6
  clear hX6
  refine hK.out _ _ (⟨hB6.cell 0, hW6.cell 2⟩) (fun _ => ?_)
  clear hK K
  try simp only [Act.put, List.setIfInBounds_toArray, List.set_cons_zero, List.set_cons_succ]
  refine wpAnyH_take (i := 8) (oi := ⟨some 43, _, _, _, _, _⟩) (v := ?_) rfl (by kernel_rfl) (by kernel_rfl) (by kernel_rfl) (fun _ _ _ h => h) (Or.inl ⟨by rfl, ?_⟩) (by assumption) ?_
  rotate_left
  · intro w hSw
    (try dsimp only at hSw)
    go_simp
    all_goals (with_reducible rfl)
  try simp only [Act.put, List.setIfInBounds_toArray, List.set_cons_zero, List.set_cons_succ]
  refine wpAnyH_take (i := 9) (oi := ⟨some 52, _, _, _, _, _⟩) (v := ?_) rfl (by kernel_rfl) (by kernel_rfl) (by kernel_rfl) (fun _ _ _ h => h) (Or.inl ⟨by rfl, ?_⟩) (by assumption) ?_
  rotate_left
  · intro w hSw
    (try dsimp only at hSw)
    go_simp
    all_goals (with_reducible rfl)
  try simp only [Act.put, List.setIfInBounds_toArray, List.set_cons_zero, List.set_cons_succ]
  refine wpAnyH_take (i := 10) (oi := ⟨some 53, _, _, _, _, _⟩) (v := ?_) rfl (by kernel_rfl) (by kernel_rfl) (by kernel_rfl) (fun _ _ _ h => h) (Or.inl ⟨by rfl, ?_⟩) (by assumption) ?_
  rotate_left
  · intro w hSw
    (try dsimp only at hSw)
    go_simp
    all_goals (with_reducible rfl)
  try simp only [Act.put, List.setIfInBounds_toArray, List.set_cons_zero, List.set_cons_succ]
  refine wpAnyH_take (i := 11) (oi := ⟨some 54, _, _, _, _, _⟩) (v := ?_) rfl (by kernel_rfl) (by kernel_rfl) (by kernel_rfl) (fun _ _ _ h => h) (Or.inl ⟨by rfl, ?_⟩) (by assumption) ?_
  rotate_left
  · intro w hSw
    (try dsimp only at hSw)
    go_simp
    all_goals (with_reducible rfl)
  try simp only [Act.put, List.setIfInBounds_toArray, List.set_cons_zero, List.set_cons_succ]
  refine wpAnyH_take (i := 12) (oi := ⟨some 9, _, _, _, _, _⟩) (v := ?_) rfl (by kernel_rfl) (by kernel_rfl) (by kernel_rfl) (fun _ _ _ h => h) (Or.inl ⟨by rfl, ?_⟩) (by assumption) ?_
  rotate_left
  · intro w hSw
    (try dsimp only at hSw)
    go_simp
    all_goals (with_reducible rfl)
  try simp only [Act.put, List.setIfInBounds_toArray, List.set_cons_zero, List.set_cons_succ]
  refine wpAnyH_take (i := 13) (oi := ⟨some 10, _, _, _, _, _⟩) (v := ?_) rfl (by kernel_rfl) (by kernel_rfl) (by kernel_rfl) (fun _ _ _ h => h) (Or.inl ⟨by rfl, ?_⟩) (by assumption) ?_
  rotate_left
  · intro w hSw
    (try dsimp only at hSw)
    go_simp
    all_goals (with_reducible rfl)
  try simp only [Act.put, List.setIfInBounds_toArray, List.set_cons_zero, List.set_cons_succ]
  refine wpAnyH_take (i := 14) (oi := ⟨some 8, _, _, _, _, _⟩) (v := ?_) rfl (by kernel_rfl) (by kernel_rfl) (by kernel_rfl) (fun _ _ _ h => h) (Or.inl ⟨by rfl, ?_⟩) (by assumption) ?_
  rotate_left
  · intro w hSw
    (try dsimp only at hSw)
    go_simp
    all_goals (with_reducible rfl)
  try simp only [Act.put, List.setIfInBounds_toArray, List.set_cons_zero, List.set_cons_succ]
  refine wpAnyH_done (by kernel_rfl) ?_ _
  refine NoPanic.normal ?_
  have hX6 := HX6.out
  have hB6b := HSB.out
  have hsz5 := hb05.size
  rcases hX6 with ⟨A', n', torn', j, rfl, rfl, rfl, ⟨S', hD6, _, hs6⟩, hC', hok', hn', hj1, hj2, hj3⟩ | ⟨A', n', S', jb, rfl, rfl, hD6, _, hs6, hC', hok', hn1, hn2, ht, hJ6, hjb, hjS, hR6⟩
  · have HF := Lib.hid (show OX W w w6 d S A ks g F0 Ls torn n kk (.returned (.tuple #[.pointer none, .int .i64 13])) from .inl ⟨A', n', torn', j, rfl, ⟨S', hD6, ((Only.of_below hb05 S).trans hO6).weak fun i _ e => e.elim id id, fun i hi e => hs6 i (Nat.lt_of_lt_of_le hi hsz5) e⟩, hC', hok', hn', hj1, hj2, hj3⟩)
    clear hD6 hC' hok' hn' hj1 hj2 hj3 hs6 HX6 hO6 hW6 hB6 hW5 hB5 hb05 hb35 x6 x2 hb5 hdr hhS hB6b hsz5
    go_wp2
    go_ret2
    exact HF.out
  · obtain ⟨⟨ua, uc, rfl⟩, hRL⟩ := hR6
    obtain ⟨N, hN⟩ : ∃ N, Ls.length = N := ⟨_, rfl⟩
    rw [hN]
    have hsz35 := hb35.size
    have hV5 := (HV.out.low hb35)
    have hV6 := hV5.only (S' := S') hO6 HMS.out (fun y hy g1 hg1 => (hV5.vals y hy).2 g1 hg1) hs6
    have hW7 : Whole (w6.setCell ⟨s, 3, none⟩ (.pointer (some ⟨jb, 0, none⟩))) s 64 (storC d x gi (.pointer (some ⟨jb, 0, none⟩)) mb0) := hW6.put 3 (.pointer (some ⟨jb, 0, none⟩))
    have ho7 := Only.set w6 ⟨s, 3, none⟩ (.pointer (some ⟨jb, 0, none⟩))
    have hB7 := hB6.only ho7 (fun e : b6 = s => whole_ne hB6 hW6 (by decide) e)
    have hc6 := hV6.cells hW6 (by decide)
    have hV7 := hV6.only (S' := S') ho7 hc6.1 hc6.2 (fun _ _ e => e)
    have hs5 : s < w5.heap.size := hW5.lt
    have hm5 : mb0 < w5.heap.size := hV5.map.lt
    have hSs : ¬ S' s := fun e => HSS.out.1 (hs6 s hs5 e)
    have hSm : ¬ S' mb0 := fun e => HMS.out (hs6 mb0 hm5 e)
    have hsW : w.heap.size ≤ s := by omega
    have y3 : w6.cell? ⟨s, 3, none⟩ = some (.pointer none) := hW6.cell 3
    have y3f := hW6.free 3
    have y6 : w6.cell? ⟨b6, 0, none⟩ = some (.pointer (some ⟨s, 0, none⟩)) := hB6.cell 0
    have HD6 := Lib.hid hD6
    have HS6 := Lib.hid hs6
    have HRL := Lib.hid hRL
    have HV7 := Lib.hid hV7
    have HW7 := Lib.hid hW7
    have HB7 := Lib.hid hB7
    have HO7 := Lib.hid ho7
    have HO6 := Lib.hid hO6
    have HJ6 := Lib.hid hJ6
    have HS := Lib.hid (And.intro hSs (And.intro hSm (And.intro hsW (And.intro hjb (And.intro hs5 (And.intro hjS hN))))))
    have HZ := Lib.hid (And.intro hC' (And.intro hok' (And.intro hn1 ht)))
    have HB05 := Lib.hid hb05
    clear hD6 hs6 hRL hV7 hV6 hV5 hW7 hB7 ho7 hO6 hJ6 hSs hSm hsW hjb hs5 hjS hC' hok' hn1 hn2 ht hm5 hc6 hb05 hb35 hW5 hB5 hW6 hB6 HX6 x6 x2 hb5 hdr hhS hB6b hsz5 hsz35 hN
    have hN40 : N ≤ 40 := by have := HLEN.out.1; have := HS.out.2.2.2.2.2.2; omega
    go_upto_block 1 with fail
    obtain ⟨w7, hw7⟩ : ∃ w7, w6.setCell ⟨s, 3, none⟩ (.pointer (some ⟨jb, 0, none⟩)) = w7 := ⟨_, rfl⟩
    rw [hw7] at HV7 HW7 HB7 HO7
    rw [hw7]
    clear hw7 y3 y3f y6
    go_wp2
    go_loopw [65] (fun i wr => ∃ (k mbk : Nat) (Mk : List Ent), k ≤ N ∧ i = .int .i64 k ∧ Whole wr s 64 (storC d x gi (.pointer (some ⟨jb, 0, none⟩)) mbk) ∧ VM wr W.heap.size S' mbk Mk ∧ (∀ j, getM Mk j = foldB F0 (Ls.take k) j) ∧ Mk.length ≤ 1000 + 10 * k ∧ ¬ S' mbk ∧ Only w7 wr fun i => i = s) (fun i _ => N - (intOf i).toNat)
    case atStart => exact ⟨0, mb0, M0, by omega, rfl, HW7.out, HV7.out, HF.out, HM0.out, HS.out.2.1, ⟨rfl, rfl, rfl, Nat.le_refl _, fun _ _ _ => rfl⟩⟩
    case round =>
      obtain ⟨k, mbk, Mk, hk, rfl, hWr, hVr, hFr, hMr, hSr, hOr⟩ := hrel
      have ho6r := HO7.out.trans hOr
      replace ho6r : Only w6 wr fun i => i = s := ho6r.weak fun i _ e => e.elim id id
      have hBr := HB7.out.only hOr (fun e : b6 = s => whole_ne HB7.out HW7.out (by decide) e)
      by_cases hlt : k < N
      · have i1 : (k : Int) < (N : Int) := by omega
        have i2 : 0 ≤ (k : Int) ∧ (k : Int) < (N : Int) := by omega
        have s2 : IntKind.i64.wrap ((k : Int) + 1) = (k : Int) + 1 := IntWalk.i64_in _ (by omega)
        have hlen := HS.out.2.2.2.2.2.2
        obtain ⟨L, hLk⟩ : ∃ L, Ls[k]? = some L := ⟨_, List.getElem?_eq_getElem (by omega)⟩
        have hoL := HL.out L (List.mem_of_getElem? hLk)
        have hnx := foldB_next (F := F0) hLk
        have hne : Ls ≠ [] := fun e => by rw [e] at hLk; simp at hLk
        have hRL := HRL.out hne
        rw [hlen] at hRL
        obtain ⟨g0, rfl, hgB, hg0, _, hcell⟩ := listsown_each hRL (by simpa using hne)
        obtain ⟨u, hu, hou⟩ := hcell k (recB L) (by rw [List.getElem?_map, hLk]; rfl)
        have hfar : ∀ b, w5.heap.size ≤ b → ¬ b = s := fun b hb e => by have := HS.out.2.2.2.2.1; omega
        have c1 : wr.cell? ⟨g0, k, none⟩ = some u := by
          have := ho6r.block g0 hg0 (hfar g0 hgB)
          rw [← hu]
          simp [World.cell?, this]
        have hou2 : Own wr w5.heap.size u (recB L) := row_only hou ho6r fun b hb => hfar b (own_ge hou hb)
        have hszr := ho6r.size
        have hszb := HB05.out.size
        have HSD := Lib.hid (sdo_calls wr W.heap.size mbk s d b6 S' Mk x gi (.pointer (some ⟨jb, 0, none⟩)) hBr hWr hVr (by have := HSB.out; have := HO6.out.size; omega) (fun i e => by have := (HD6.out.old e).1; omega) u L hou2.room hoL.1 (by have := hoL.rec.2; omega) (by have := hoL.2.1; omega))
        obtain ⟨au, nu, cu, rfl⟩ := slice_any hou2
        have HNX := Lib.hid hnx
        have HFR := Lib.hid hFr
        have HOL2 := Lib.hid hoL.2.1
        have HMR := Lib.hid hMr
        have HOR := Lib.hid hOr
        have HSR := Lib.hid (fun i (e : S' i) => show i < wr.heap.size by have := (HD6.out.old e).1; omega)
        clear hWr hVr hFr hMr hSr hOr ho6r hBr hLk hoL hnx hne hRL hcell hu hou hfar hou2 hszr hszb hlen
        go_wp2_with (first
          | (go_at_call 25; refine HSD.out.mono ?_; rintro r w8 ⟨rfl, mb8, M8, hmb8, hW8, hV8, hF8, hM8, hO8⟩; have H8 := Lib.hid (And.intro hmb8 (And.intro hW8 (And.intro hV8 (And.intro hF8 (And.intro hM8 hO8))))); clear hmb8 hW8 hV8 hF8 hM8 hO8)
          | fail)
        go_roundw
        case rel =>
          obtain ⟨hmb8, hW8, hV8, hF8, hM8, hO8⟩ := H8.out
          refine ⟨k + 1, mb8, M8, by omega, by go_num, hW8, hV8, fun j => ?_, by have := HMR.out; have := HOL2.out; omega, fun e => by have := HSR.out mb8 e; omega, (HOR.out.trans hO8).weak fun i _ e => e.elim id id⟩
          rw [hF8 j, HNX.out, show getM Mk = foldB F0 (Ls.take k) from funext HFR.out]
        case measure => simp [intOf]; omega
      · obtain rfl : k = N := by omega
        have i1 : ¬ (k : Int) < (k : Int) := by omega
        have y6 := hBr.cell 0
        have hTk : Ls.take k = Ls := List.take_of_length_le (by have := HS.out.2.2.2.2.2.2; omega)
        rw [hTk] at hFr
        obtain ⟨hSs, hSm, hsW, hjb, hs5, hjS, hN⟩ := HS.out
        obtain ⟨hC', hok', hn1, ht⟩ := HZ.out
        have hWs : W.heap.size ≤ s := by have := HSB.out; omega
        have hDr := HD6.out.only ho6r (fun i _ e => e ▸ hSs) (fun i _ e => e ▸ hWs)
        have hOO : Only w wr S := (((Only.of_below HB05.out S).trans HO6.out).trans ho6r).weak fun i hi e => by
          rcases e with (e | e) | e
          · exact e
          · exact e
          · omega
        have hSTr : ST wr W.heap.size S' d s kvB g jb mbk Mk := by
          have := HX.out
          subst this
          have hg := HGI.out
          subst hg
          exact ⟨hWr, HJ6.out.only ho6r (fun e => by omega), hVr, hSs, hjS, hSr, hWs, by have := HB05.out.size; omega⟩
        have HE := Lib.hid (show OX W w wr d S A ks g F0 Ls torn n kk (.returned (.tuple #[.pointer (some ⟨s, 0, none⟩), .int .i64 0])) from .inr ⟨A', n', S', s, jb, mbk, Mk, rfl, hDr, hOO, fun i hi e => HS6.out i (Nat.lt_of_lt_of_le hi HB05.out.size) e, hC', hok', hn1, ht, hSTr, hsW, hFr, by rw [hN]; exact hMr⟩)
        clear hWr hVr hFr hMr hSr hOr ho6r hBr hDr hOO hSTr hC' hok' hn1 ht hN hTk
        go_wp2
        go_ret2
        exact HE.out

theorem sopen_calls (W w : World) (d n kk : Nat) (S : Nat → Prop) (A : Fs) (ks : List Int) (h : KD W w d S A ks n) (hk : okS kk A) (hkk : kk ≤ 800) (hn : n ≤ 800000) (g : Nat) (hg : g < 59) (F0 : KV) (Ls : List (List Chg)) (hL : ∀ L ∈ Ls, okL L) (hLs : Ls.length ≤ 40) (torn : List (BitVec 8)) (hC : CS A g F0 Ls torn) :
    Calls Tryz.prog 6 #[.pointer (some ⟨d, 0, none⟩), .string kvB] w fun r w' => OX W w w' d S A ks g F0 Ls torn n kk r := by
  rcases hC.snap with ⟨h1, h2, h3⟩ | ⟨g0, P, h1, h2, h3, h4⟩
  · exact sopen_fresh W w d n kk S A ks h hk hkk hn g hg F0 Ls hL hLs torn hC kvB rfl h1 h3 h2
  · exact sopen_snap W w d n kk S A ks h hk hkk hn g hg F0 Ls hL hLs torn hC kvB rfl g0 P h1 h4 h3 h2

end Go.Proofs.YtmmlpbepaefamaaGreatDoor
