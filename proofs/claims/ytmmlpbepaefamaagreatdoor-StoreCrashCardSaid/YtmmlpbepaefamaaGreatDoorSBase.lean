/- The store's small functions: its files' names, none, Generation, Len, bounds. -/
import Derived.Test.YtmmlpbepaefamaaGreatDoorDBaseX5
import Derived.Test.YtmmlpbepaefamaaGreatDoorSMapX2
namespace Go.Proofs.YtmmlpbepaefamaaGreatDoor
open Go.RowKit Go.MapKept

def digits36 : ByteArray := ⟨[48, 49, 50, 51, 52, 53, 54, 55, 56, 57, 97, 98, 99, 100, 101, 102, 103, 104, 105, 106, 107, 108, 109, 110, 111, 112, 113, 114, 115, 116, 117, 118, 119, 120, 121, 122].toArray⟩
def pairs100 : ByteArray := ⟨[48, 48, 48, 49, 48, 50, 48, 51, 48, 52, 48, 53, 48, 54, 48, 55, 48, 56, 48, 57, 49, 48, 49, 49, 49, 50, 49, 51, 49, 52, 49, 53, 49, 54, 49, 55, 49, 56, 49, 57, 50, 48, 50, 49, 50, 50, 50, 51, 50, 52, 50, 53, 50, 54, 50, 55, 50, 56, 50, 57, 51, 48, 51, 49, 51, 50, 51, 51, 51, 52, 51, 53, 51, 54, 51, 55, 51, 56, 51, 57, 52, 48, 52, 49, 52, 50, 52, 51, 52, 52, 52, 53, 52, 54, 52, 55, 52, 56, 52, 57, 53, 48, 53, 49, 53, 50, 53, 51, 53, 52, 53, 53, 53, 54, 53, 55, 53, 56, 53, 57, 54, 48, 54, 49, 54, 50, 54, 51, 54, 52, 54, 53, 54, 54, 54, 55, 54, 56, 54, 57, 55, 48, 55, 49, 55, 50, 55, 51, 55, 52, 55, 53, 55, 54, 55, 55, 55, 56, 55, 57, 56, 48, 56, 49, 56, 50, 56, 51, 56, 52, 56, 53, 56, 54, 56, 55, 56, 56, 56, 57, 57, 48, 57, 49, 57, 50, 57, 51, 57, 52, 57, 53, 57, 54, 57, 55, 57, 56, 57, 57].toArray⟩
/-- A small number's text. -/
def itoaB (n : Nat) : ByteArray := if n < 10 then digits36.extract n (n + 1) else pairs100.extract (n * 2) (n * 2 + 2)

set_option maxRecDepth 100000 in
set_option maxHeartbeats 2000000 in
theorem small_calls (w : World) (n : Nat) (h : n < 100) : Calls Tryz.prog 102 #[.int .i64 n] w fun e w' => e = .returned (.string (itoaB n)) ∧ w = w' := by
  by_cases h10 : n < 10
  · have i1 : (n : Int) < 10 := by omega
    have s1 : IntKind.i64.wrap ((n : Int) + 1) = (n : Int) + 1 := IntWalk.i64_in _ (by omega)
    go_enter Tryz.func102, Tryz.ntmps102
    go_wp2
    go_ret
    exact ⟨by unfold itoaB; rw [if_pos h10]; rfl, rfl⟩
  · have i1 : ¬ (n : Int) < 10 := by omega
    have s1 : IntKind.i64.wrap ((n : Int) * 2) = ((n * 2 : Nat) : Int) := by rw [IntWalk.i64_in _ (by omega)]; omega
    have s2 : IntKind.i64.wrap (((n * 2 : Nat) : Int) + 2) = ((n * 2 + 2 : Nat) : Int) := by rw [IntWalk.i64_in _ (by omega)]; omega
    obtain ⟨m, hm⟩ : ∃ m, n * 2 = m := ⟨_, rfl⟩
    rw [hm] at s1 s2
    have g1 : m + 2 ≤ 200 := by omega
    go_enter Tryz.func102, Tryz.ntmps102
    go_wp2
    go_ret
    exact ⟨by unfold itoaB; rw [if_neg h10, hm]; rfl, rfl⟩
set_option maxRecDepth 100000 in
set_option maxHeartbeats 2000000 in
theorem formatint_calls (w : World) (n : Nat) (h : n < 100) : Calls Tryz.prog 90 #[.int .i64 n, .int .i64 10] w fun e w' => e = .returned (.string (itoaB n)) ∧ w = w' := by
  have HS := Lib.hid (small_calls w n h)
  have i1 : (0 : Int) ≤ (n : Int) := by omega
  have i2 : (n : Int) < 100 := by omega
  go_enter Tryz.func90, Tryz.ntmps90
  go_wp2_with (go_at_call 102; refine HS.out.mono ?_; rintro e w1 ⟨rfl, rfl⟩)
  go_ret
  exact ⟨rfl, rfl⟩
set_option maxRecDepth 100000 in
set_option maxHeartbeats 2000000 in
theorem iitoa_calls (w : World) (n : Nat) (h : n < 100) : Calls Tryz.prog 83 #[.int .i64 n] w fun e w' => e = .returned (.string (itoaB n)) ∧ w = w' := by
  have HS := Lib.hid (formatint_calls w n h)
  go_enter Tryz.func83, Tryz.ntmps83
  go_wp2_with (go_at_call 90; refine HS.out.mono ?_; rintro e w1 ⟨rfl, rfl⟩)
  go_ret
  exact ⟨rfl, rfl⟩
set_option maxRecDepth 100000 in
set_option maxHeartbeats 2000000 in
theorem itoa_calls (w : World) (n : Nat) (h : n < 100) : Calls Tryz.prog 59 #[.int .i64 n] w fun e w' => e = .returned (.string (itoaB n)) ∧ w = w' := by
  have HS := Lib.hid (iitoa_calls w n h)
  go_enter Tryz.func59, Tryz.ntmps59
  go_wp2_with (go_at_call 83; refine HS.out.mono ?_; rintro e w1 ⟨rfl, rfl⟩)
  go_ret
  exact ⟨rfl, rfl⟩

/-- The log's name of a generation; the checkpoint's; the one that is laid down. -/
def logN (base : ByteArray) (g : Nat) : ByteArray := (base ++ ⟨#[46, 108, 111, 103, 46]⟩) ++ itoaB g
def snapN (base : ByteArray) : ByteArray := base ++ ⟨#[46, 115, 110, 97, 112]⟩
def tmpN (base : ByteArray) : ByteArray := base ++ ⟨#[46, 116, 109, 112]⟩
def kvB : ByteArray := ⟨#[107, 118]⟩
theorem itoaB_size : ∀ n, n < 100 → (itoaB n).size ≤ 2 := by decide +kernel
theorem kv_logs : ∀ g, g < 60 → nameN (logN kvB g) = true := by decide +kernel
theorem kv_apart : ∀ g, g < 60 → ∀ h, h < 60 → logN kvB g = logN kvB h → g = h := by decide +kernel
theorem kv_snap : nameN (snapN kvB) = true ∧ nameN (tmpN kvB) = true ∧ snapN kvB ≠ tmpN kvB := by decide +kernel
theorem kv_others : ∀ g, g < 60 → logN kvB g ≠ snapN kvB ∧ logN kvB g ≠ tmpN kvB := by decide +kernel

/-- A store's own block. -/
def storC (d : Nat) (base : ByteArray) (g : Int) (j : Value) (mb : Nat) : List Value := [.pointer (some ⟨d, 0, none⟩), .string base, .int .i64 g, j, .map (some mb)]
set_option maxRecDepth 100000 in
set_option maxHeartbeats 2000000 in
theorem logname_calls (w : World) (s d mb g : Nat) (base : ByteArray) (q : Int) (j : Value) (hW : Whole w s 64 (storC d base q j mb)) (hg : g < 100) (hb : base.size ≤ 1000) : Calls Tryz.prog 24 #[.pointer (some ⟨s, 0, none⟩), .int .i64 g] w fun e w' => e = .returned (.string (logN base g)) ∧ Below w.heap.size w w' := by
  have c1 := hW.cell 1
  have HI := Lib.hid (fun w => itoa_calls w g hg)
  have hi := itoaB_size g hg
  have g1 : ¬ 9223372036854775807 < base.size + 5 := by omega
  have g2 : ¬ 9223372036854775807 < base.size + 5 + (itoaB g).size := by omega
  have hd := (Below.refl w.heap.size w).drew
  have HW := Lib.hid hW
  clear hW c1
  go_enter Tryz.func24, Tryz.ntmps24
  go_wp2
  refine wp_region_noPanic ?_
  refine wp_region_held_drew (S := fun w' => Whole w' s 64 (storC d base q j mb)) (by kernel_rfl) (HW.out.drew) (fun hhS => ?_)
  generalize w.drew = wd at hd hhS ⊢
  refine wpAnyH_take (i := 0) (oi := ⟨some 5, _, _, _, _, _⟩) (v := ?_) rfl (by kernel_rfl) (by kernel_rfl) (by kernel_rfl) (fun _ _ _ h => h) (Or.inl ⟨by rfl, ?_⟩) (by assumption) ?_
  rotate_left
  · intro w hSw
    (try dsimp only at hSw)
    go_simp
    all_goals (with_reducible rfl)
  try simp only [Act.put, List.setIfInBounds_toArray, List.set_cons_zero, List.set_cons_succ]
  refine wpAnyH_take (i := 1) (oi := ⟨some 6, _, _, _, _, _⟩) (v := ?_) rfl (by kernel_rfl) (by kernel_rfl) (by kernel_rfl) (fun _ _ _ h => h) (Or.inl ⟨by rfl, ?_⟩) (by assumption) ?_
  rotate_left
  · intro w hSw
    (try dsimp only at hSw)
    go_simp
    all_goals (with_reducible rfl)
  try simp only [Act.put, List.setIfInBounds_toArray, List.set_cons_zero, List.set_cons_succ]
  refine wpAnyH_take (i := 2) (oi := ⟨some 7, _, _, _, _, _⟩) (v := ?_) rfl (by kernel_rfl) (by kernel_rfl) (by kernel_rfl) (fun _ _ _ h => h) (Or.inl ⟨by rfl, ?_⟩) (by assumption) ?_
  rotate_left
  · intro w hSw
    (try dsimp only at hSw)
    go_simp
    all_goals (with_reducible rfl)
  try simp only [Act.put, List.setIfInBounds_toArray, List.set_cons_zero, List.set_cons_succ]
  refine wpAnyH_take (i := 3) (oi := ⟨some 8, _, _, _, _, _⟩) (v := ?_) rfl (by kernel_rfl) (by kernel_rfl) (by kernel_rfl) (fun _ _ _ h => h) (Or.inl ⟨by rfl, ?_⟩) (by assumption) ?_
  rotate_left
  · intro w hSw
    (try dsimp only at hSw)
    have x1 : w.cell? ⟨s, 1, none⟩ = some (.string base) := hSw.cell 1
    go_simp
    all_goals (with_reducible rfl)
  try simp only [Act.put, List.setIfInBounds_toArray, List.set_cons_zero, List.set_cons_succ]
  refine wpAnyH_take (i := 4) (oi := ⟨some 9, _, _, _, _, _⟩) (v := (.string (base ++ ⟨#[46, 108, 111, 103, 46]⟩))) rfl (by kernel_rfl) (by kernel_rfl) (by kernel_rfl) (fun _ _ _ h => h) (Or.inl ⟨by rfl, ?_⟩) (by assumption) ?_
  · intro w hSw
    (try dsimp only at hSw)
    go_simp
    all_goals (first | done | simp)
  try simp only [Act.put, List.setIfInBounds_toArray, List.set_cons_zero, List.set_cons_succ]
  refine wpAnyH_take (i := 5) (oi := ⟨some 10, _, _, _, _, _⟩) (v := ?_) rfl (by kernel_rfl) (by kernel_rfl) (by kernel_rfl) (fun _ _ _ h => h) (Or.inl ⟨by rfl, ?_⟩) (by assumption) ?_
  rotate_left
  · intro w hSw
    (try dsimp only at hSw)
    go_simp
    all_goals (with_reducible rfl)
  try simp only [Act.put, List.setIfInBounds_toArray, List.set_cons_zero, List.set_cons_succ]
  refine wpAnyH_ready (rs := [6]) (by kernel_rfl) (by simp) ?_
  refine AllReadyH.cons (o := ⟨some 11, _, _, _, _, _⟩) rfl (fun K hK => ?_) AllReadyH.nil
  go_simp
  refine (HI.out _).mono ?_
  rintro r w5 ⟨rfl, rfl⟩
  refine hK.out _ _ (hhS) (fun _ => ?_)
  clear hK K
  try simp only [Act.put, List.setIfInBounds_toArray, List.set_cons_zero, List.set_cons_succ]
  refine wpAnyH_take (i := 7) (oi := ⟨some 12, _, _, _, _, _⟩) (v := (.string ((base ++ ⟨#[46, 108, 111, 103, 46]⟩) ++ itoaB g))) rfl (by kernel_rfl) (by kernel_rfl) (by kernel_rfl) (fun _ _ _ h => h) (Or.inl ⟨by rfl, ?_⟩) (by assumption) ?_
  · intro w hSw
    (try dsimp only at hSw)
    go_simp
    all_goals (first | done | simp)
  try simp only [Act.put, List.setIfInBounds_toArray, List.set_cons_zero, List.set_cons_succ]
  refine wpAnyH_take (i := 8) (oi := ⟨some 4, _, _, _, _, _⟩) (v := ?_) rfl (by kernel_rfl) (by kernel_rfl) (by kernel_rfl) (fun _ _ _ h => h) (Or.inl ⟨by rfl, ?_⟩) (by assumption) ?_
  rotate_left
  · intro w hSw
    (try dsimp only at hSw)
    go_simp
    all_goals (with_reducible rfl)
  try simp only [Act.put, List.setIfInBounds_toArray, List.set_cons_zero, List.set_cons_succ]
  refine wpAnyH_done (by kernel_rfl) ?_ _
  refine NoPanic.normal ?_
  go_wp2
  go_ret
  exact ⟨rfl, hd⟩

set_option maxRecDepth 100000 in
set_option maxHeartbeats 2000000 in
theorem snone_calls (w : World) (s d mb jb : Nat) (base : ByteArray) (g : Int) (hW : Whole w s 64 (storC d base g (.pointer (some ⟨jb, 0, none⟩)) mb)) : Calls Tryz.prog 28 #[.pointer (some ⟨s, 0, none⟩)] w fun e w' => e = .returned (.bool false) ∧ w = w' := by
  have c3 : w.cell? ⟨s, 3, none⟩ = some (.pointer (some ⟨jb, 0, none⟩)) := hW.cell 3
  clear hW
  go_enter Tryz.func28, Tryz.ntmps28
  go_wp2
  go_ret
  exact ⟨rfl, rfl⟩
set_option maxRecDepth 100000 in
set_option maxHeartbeats 2000000 in
theorem sgen_calls (w : World) (s d mb jb : Nat) (base : ByteArray) (g : Int) (hW : Whole w s 64 (storC d base g (.pointer (some ⟨jb, 0, none⟩)) mb)) : Calls Tryz.prog 17 #[.pointer (some ⟨s, 0, none⟩)] w fun e w' => e = .returned (.int .i64 g) ∧ w = w' := by
  have HN := Lib.hid (snone_calls w s d mb jb base g hW)
  have c2 : w.cell? ⟨s, 2, none⟩ = some (.int .i64 g) := hW.cell 2
  clear hW
  go_enter Tryz.func17, Tryz.ntmps17
  go_wp2_with (go_at_call 28; refine HN.out.mono ?_; rintro e w1 ⟨rfl, rfl⟩)
  go_ret
  exact ⟨rfl, rfl⟩
set_option maxRecDepth 100000 in
set_option maxHeartbeats 2000000 in
theorem slen_calls (w : World) (lo : Nat) (S : Nat → Prop) (M : List Ent) (s d mb jb : Nat) (base : ByteArray) (g : Int) (hW : Whole w s 64 (storC d base g (.pointer (some ⟨jb, 0, none⟩)) mb)) (hV : VM w lo S mb M) : Calls Tryz.prog 13 #[.pointer (some ⟨s, 0, none⟩)] w fun e w' => e = .returned (.int .i64 M.length) ∧ w = w' := by
  have HN := Lib.hid (snone_calls w s d mb jb base g hW)
  have c4 : w.cell? ⟨s, 4, none⟩ = some (.map (some mb)) := hW.cell 4
  obtain ⟨ents, clk, hmm, hst, hml⟩ := hV.map
  have hsz : ents.size = M.length := by
    have := congrArg List.length hml
    simpa [entsN] using this
  have hlm := run_len_map (P := Tryz.prog) (w := w) 61 3 mb ents clk (by kernel_rfl) hmm
  rw [hsz] at hlm
  clear hW hV hmm hst hml hsz
  go_enter Tryz.func13, Tryz.ntmps13
  go_wp2_with (go_at_call 28; refine HN.out.mono ?_; rintro e w1 ⟨rfl, rfl⟩)
  go_ret
  exact ⟨rfl, rfl⟩
set_option maxRecDepth 100000 in
set_option maxHeartbeats 2000000 in
theorem bounds_yes (w : World) (key : ByteArray) (a : Option Addr) (n c : Nat) (h1 : 1 ≤ key.size) (h2 : key.size ≤ 128) (h3 : n ≤ 8192) : Calls Tryz.prog 54 #[.string key, .slice a n c] w fun e w' => e = .returned (.bool true) ∧ w = w' := by
  have g1 : (1 : Int) ≤ (key.size : Int) := by omega
  have g2 : (key.size : Int) ≤ 128 := by omega
  have g3 : (n : Int) ≤ 8192 := by omega
  go_enter Tryz.func54, Tryz.ntmps54
  go_wp2
  go_ret
  exact ⟨rfl, rfl⟩

end Go.Proofs.YtmmlpbepaefamaaGreatDoor
