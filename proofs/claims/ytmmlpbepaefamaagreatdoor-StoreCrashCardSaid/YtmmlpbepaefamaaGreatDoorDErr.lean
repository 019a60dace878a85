/- What the disk answers when it refuses. -/
import Derived.Test.YtmmlpbepaefamaaGreatDoorDApp
namespace Go.Proofs.YtmmlpbepaefamaaGreatDoor
open Go.RowKit Go.MapKept

set_option maxRecDepth 100000 in
set_option maxHeartbeats 4000000 in
theorem dapp_refused (W w : World) (d fm rm n : Nat) (own : Nat → Option Nat) (L : List (ByteArray × Nat × Dfile)) (ks : List Int) (h : DiskAt W w d fm rm own L ks n) (hn : n ≤ 1000000000) (hq : ((n : Int) + 1) ∈ ks) (s : ByteArray) (ba : Option Addr) (bl bc : Nat) :
    Calls Tryz.prog 44 #[.pointer (some ⟨d, 0, none⟩), .string s, .slice ba bl bc] w fun e w' => e = .returned (.int .i64 13) ∧ DiskAt W w' d fm rm own L ks (n + 1) ∧ Only w w' (fun i => i = d) := by
  have HN := Lib.hid (count_calls W w d fm rm n own L ks h hn true (decide_eq_true hq))
  clear h
  go_enter Tryz.func44, Tryz.ntmps44
  go_wp2_with (first
    | (go_at_call 74; refine HN.out.mono ?_; rintro e wc ⟨rfl, h, hO⟩)
    | fail)
  go_ret
  exact ⟨rfl, h, hO⟩

set_option maxRecDepth 100000 in
set_option maxHeartbeats 4000000 in
theorem dapp_arg (W w : World) (d fm rm n : Nat) (own : Nat → Option Nat) (L : List (ByteArray × Nat × Dfile)) (ks : List Int) (h : DiskAt W w d fm rm own L ks n) (hn : n ≤ 1000000000) (hq : ((n : Int) + 1) ∉ ks) (s : ByteArray) (ba : Option Addr) (bl bc : Nat) (hnm : nameN s = false) (hs : s.size ≤ 9223372036854775806) :
    Calls Tryz.prog 44 #[.pointer (some ⟨d, 0, none⟩), .string s, .slice ba bl bc] w fun e w' => e = .returned (.int .i64 2) ∧ DiskAt W w' d fm rm own L ks (n + 1) ∧ Only w w' (fun i => i = d) := by
  have HN := Lib.hid (count_calls W w d fm rm n own L ks h hn false (decide_eq_false hq))
  have HNM := Lib.hid (fun w => hnm ▸ named_calls w s hs)
  clear h
  have hz : ∀ w : World, (zeroValue 84).run Tryz.prog w = .ok (.pointer none) w := fun w => by kernel_rfl
  go_enter Tryz.func44, Tryz.ntmps44
  go_upto_region 4 with (first
    | (go_at_call 74; refine HN.out.mono ?_; rintro e wc ⟨rfl, h, hO⟩)
    | fail)
  have c0 := h.box.cell 0
  have hlk := look_N (P := Tryz.prog) Tryz.underlying57 Tryz.underlying9 h.all s (hz _)
  generalize (findN _ s).getD _ = pv at hlk
  go_wp2_with (first
    | (go_at_call 75; refine (HNM.out _).mono ?_; rintro e wn ⟨rfl, bn⟩; replace h := h.low bn; replace hO := (hO.trans (Only.of_below bn (fun _ => False))).weak fun _ _ e => e.elim id False.elim)
    | fail)
  go_ret
  exact ⟨rfl, h, hO⟩

set_option maxRecDepth 100000 in
set_option maxHeartbeats 4000000 in
theorem dapp_full (W w : World) (d fm rm n : Nat) (own : Nat → Option Nat) (L : List (ByteArray × Nat × Dfile)) (ks : List Int) (h : DiskAt W w d fm rm own L ks n) (hn : n ≤ 1000000000) (hq : ((n : Int) + 1) ∉ ks) (s : ByteArray) (ba : Option Addr) (bl bc : Nat) (hnm : nameN s = true) (hs : s.size ≤ 9223372036854775806) (hg : getL L s = none) (hl : 64 ≤ L.length) :
    Calls Tryz.prog 44 #[.pointer (some ⟨d, 0, none⟩), .string s, .slice ba bl bc] w fun e w' => e = .returned (.int .i64 8) ∧ DiskAt W w' d fm rm own L ks (n + 1) ∧ Only w w' (fun i => i = d) := by
  have HN := Lib.hid (count_calls W w d fm rm n own L ks h hn false (decide_eq_false hq))
  have HNM := Lib.hid (fun w => hnm ▸ named_calls w s hs)
  clear h
  have hz : ∀ w : World, (zeroValue 84).run Tryz.prog w = .ok (.pointer none) w := fun w => by kernel_rfl
  go_enter Tryz.func44, Tryz.ntmps44
  go_upto_region 4 with (first
    | (go_at_call 74; refine HN.out.mono ?_; rintro e wc ⟨rfl, h, hO⟩)
    | fail)
  have c0 := h.box.cell 0
  have hlk := look_N (P := Tryz.prog) Tryz.underlying57 Tryz.underlying9 h.all s (hz _)
  rw [getL_find, hg] at hlk
  have HG := Lib.hid hg
  go_upto_region 5 with fail
  clear hlk c0
  go_upto_region 7 with (first
    | (go_at_call 75; refine (HNM.out _).mono ?_; rintro e wn ⟨rfl, bn⟩; replace h := h.low bn; replace hO := (hO.trans (Only.of_below bn (fun _ => False))).weak fun _ _ e => e.elim id False.elim)
    | fail)
  obtain ⟨ents, clk, hme, _, hml⟩ := h.all
  have hsz : ents.size = L.length := by
    have := congrArg List.length hml
    simpa using this
  have hlm := run_len_map (P := Tryz.prog) (w := wn) 57 3 fm ents clk (by kernel_rfl) hme
  rw [hsz] at hlm
  have c0 := h.box.cell 0
  clear hg hsz hml hme
  have g1 : (64 : Int) ≤ (L.length : Int) := by omega
  go_wp2
  go_ret
  exact ⟨rfl, h, hO⟩

set_option maxRecDepth 100000 in
set_option maxHeartbeats 4000000 in
theorem dapp_long (W w : World) (d fm rm n : Nat) (own : Nat → Option Nat) (L : List (ByteArray × Nat × Dfile)) (ks : List Int) (h : DiskAt W w d fm rm own L ks n) (hn : n ≤ 1000000000) (hq : ((n : Int) + 1) ∉ ks) (s : ByteArray) (ba : Option Addr) (bl bc : Nat) (hnm : nameN s = true) (hs : s.size ≤ 9223372036854775806) (hg : getL L s = none) (hl : L.length < 64) (hbl : 1048576 < bl) :
    Calls Tryz.prog 44 #[.pointer (some ⟨d, 0, none⟩), .string s, .slice ba bl bc] w fun e w' => e = .returned (.int .i64 3) ∧ DiskAt W w' d fm rm own L ks (n + 1) ∧ Only w w' (fun i => i = d) := by
  have HN := Lib.hid (count_calls W w d fm rm n own L ks h hn false (decide_eq_false hq))
  have HNM := Lib.hid (fun w => hnm ▸ named_calls w s hs)
  clear h
  have hz : ∀ w : World, (zeroValue 84).run Tryz.prog w = .ok (.pointer none) w := fun w => by kernel_rfl
  go_enter Tryz.func44, Tryz.ntmps44
  go_upto_region 4 with (first
    | (go_at_call 74; refine HN.out.mono ?_; rintro e wc ⟨rfl, h, hO⟩)
    | fail)
  have c0 := h.box.cell 0
  have hlk := look_N (P := Tryz.prog) Tryz.underlying57 Tryz.underlying9 h.all s (hz _)
  rw [getL_find, hg] at hlk
  have HG := Lib.hid hg
  go_upto_region 5 with fail
  clear hlk c0
  go_upto_region 7 with (first
    | (go_at_call 75; refine (HNM.out _).mono ?_; rintro e wn ⟨rfl, bn⟩; replace h := h.low bn; replace hO := (hO.trans (Only.of_below bn (fun _ => False))).weak fun _ _ e => e.elim id False.elim)
    | fail)
  obtain ⟨ents, clk, hme, _, hml⟩ := h.all
  have hsz : ents.size = L.length := by
    have := congrArg List.length hml
    simpa using this
  have hlm := run_len_map (P := Tryz.prog) (w := wn) 57 3 fm ents clk (by kernel_rfl) hme
  rw [hsz] at hlm
  have c0 := h.box.cell 0
  clear hg hsz hml hme
  have g1 : ¬ (64 : Int) ≤ (L.length : Int) := by omega
  have g2 : (1048576 : Int) < (bl : Int) := by omega
  go_wp2
  go_ret
  exact ⟨rfl, h, hO⟩

set_option maxRecDepth 100000 in
set_option maxHeartbeats 4000000 in
theorem dapp_long2 (W w : World) (d fm rm n : Nat) (own : Nat → Option Nat) (L : List (ByteArray × Nat × Dfile)) (ks : List Int) (h : DiskAt W w d fm rm own L ks n) (hn : n ≤ 1000000000) (hq : ((n : Int) + 1) ∉ ks) (s : ByteArray) (ba : Option Addr) (bl bc : Nat) (hnm : nameN s = true) (hs : s.size ≤ 9223372036854775806) (fb : Nat) (f : Dfile) (hg : getL L s = some (fb, f)) (hlen : f.ops.length ≤ 100000) (hbl : 1048576 < f.content.length + bl) (hb2 : bl ≤ 4611686018427387904) :
    Calls Tryz.prog 44 #[.pointer (some ⟨d, 0, none⟩), .string s, .slice ba bl bc] w fun e w' => e = .returned (.int .i64 3) ∧ DiskAt W w' d fm rm own L ks (n + 1) ∧ Only w w' (fun i => i = d) := by
  have HN := Lib.hid (count_calls W w d fm rm n own L ks h hn false (decide_eq_false hq))
  have HNM := Lib.hid (fun w => hnm ▸ named_calls w s hs)
  clear h
  have hz : ∀ w : World, (zeroValue 84).run Tryz.prog w = .ok (.pointer none) w := fun w => by kernel_rfl
  go_enter Tryz.func44, Tryz.ntmps44
  go_upto_region 4 with (first
    | (go_at_call 74; refine HN.out.mono ?_; rintro e wc ⟨rfl, h, hO⟩)
    | fail)
  have c0 := h.box.cell 0
  have hlk := look_N (P := Tryz.prog) Tryz.underlying57 Tryz.underlying9 h.all s (hz _)
  rw [getL_find, hg] at hlk
  obtain ⟨sv, ov, l, hf⟩ := h.get hg
  have HSZ := Lib.hid (fun wx (b : Below wc.heap.size wc wx) => size_calls wx W.heap.size fb own f sv ov l (hf.low b) hlen)
  have hcl := okOps_len _ _ hf.okf.1 hf.okf.2
  have g2 : (1048576 : Int) < (f.content.length : Int) + (bl : Int) := by omega
  have g3 : IntKind.i64.wrap ((f.content.length : Int) + (bl : Int)) = (f.content.length : Int) + (bl : Int) := IntWalk.i64_in _ (by (have : f.content.length ≤ 1048576 := hcl); omega)
  clear hf hcl
  go_wp2_with (first
    | (go_at_call 75; refine (HNM.out _).mono ?_; rintro e wn ⟨rfl, bn⟩; have Bn := bn; replace h := h.low bn; replace hO := (hO.trans (Only.of_below bn (fun _ => False))).weak fun _ _ e => e.elim id False.elim)
    | (go_at_call 76; refine (HSZ.out _ Bn).mono ?_; rintro e ws ⟨rfl, bs⟩; replace h := h.low bs; replace hO := (hO.trans (Only.of_below bs (fun _ => False))).weak fun _ _ e => e.elim id False.elim)
    | fail)
  go_ret
  exact ⟨rfl, h, hO⟩

set_option maxRecDepth 100000 in
set_option maxHeartbeats 4000000 in
theorem dcut_refused (W w : World) (d fm rm n : Nat) (own : Nat → Option Nat) (L : List (ByteArray × Nat × Dfile)) (ks : List Int) (h : DiskAt W w d fm rm own L ks n) (hn : n ≤ 1000000000) (hq : ((n : Int) + 1) ∈ ks) (s : ByteArray) (k : Int) :
    Calls Tryz.prog 58 #[.pointer (some ⟨d, 0, none⟩), .string s, .int .i64 k] w fun e w' => e = .returned (.int .i64 13) ∧ DiskAt W w' d fm rm own L ks (n + 1) ∧ Only w w' (fun i => i = d) := by
  have HN := Lib.hid (count_calls W w d fm rm n own L ks h hn true (decide_eq_true hq))
  clear h
  go_enter Tryz.func58, Tryz.ntmps58
  go_wp2_with (first
    | (go_at_call 74; refine HN.out.mono ?_; rintro e wc ⟨rfl, h, hO⟩)
    | fail)
  go_ret
  exact ⟨rfl, h, hO⟩

set_option maxRecDepth 100000 in
set_option maxHeartbeats 4000000 in
theorem dcut_missing (W w : World) (d fm rm n : Nat) (own : Nat → Option Nat) (L : List (ByteArray × Nat × Dfile)) (ks : List Int) (h : DiskAt W w d fm rm own L ks n) (hn : n ≤ 1000000000) (hq : ((n : Int) + 1) ∉ ks) (s : ByteArray) (k : Int) (hg : getL L s = none) :
    Calls Tryz.prog 58 #[.pointer (some ⟨d, 0, none⟩), .string s, .int .i64 k] w fun e w' => e = .returned (.int .i64 6) ∧ DiskAt W w' d fm rm own L ks (n + 1) ∧ Only w w' (fun i => i = d) := by
  have HN := Lib.hid (count_calls W w d fm rm n own L ks h hn false (decide_eq_false hq))
  clear h
  have hz : ∀ w : World, (zeroValue 84).run Tryz.prog w = .ok (.pointer none) w := fun w => by kernel_rfl
  go_enter Tryz.func58, Tryz.ntmps58
  go_upto_region 4 with (first
    | (go_at_call 74; refine HN.out.mono ?_; rintro e wc ⟨rfl, h, hO⟩)
    | fail)
  have c0 := h.box.cell 0
  have hlk := look_N (P := Tryz.prog) Tryz.underlying57 Tryz.underlying9 h.all s (hz _)
  rw [getL_find, hg] at hlk
  go_wp2
  go_ret
  exact ⟨rfl, h, hO⟩

set_option maxRecDepth 100000 in
set_option maxHeartbeats 4000000 in
theorem dcut_neg (W w : World) (d fm rm n : Nat) (own : Nat → Option Nat) (L : List (ByteArray × Nat × Dfile)) (ks : List Int) (h : DiskAt W w d fm rm own L ks n) (hn : n ≤ 1000000000) (hq : ((n : Int) + 1) ∉ ks) (s : ByteArray) (k : Int) (fb : Nat) (f : Dfile) (hg : getL L s = some (fb, f)) (hk : k < 0) :
    Calls Tryz.prog 58 #[.pointer (some ⟨d, 0, none⟩), .string s, .int .i64 k] w fun e w' => e = .returned (.int .i64 2) ∧ DiskAt W w' d fm rm own L ks (n + 1) ∧ Only w w' (fun i => i = d) := by
  have HN := Lib.hid (count_calls W w d fm rm n own L ks h hn false (decide_eq_false hq))
  clear h
  have hz : ∀ w : World, (zeroValue 84).run Tryz.prog w = .ok (.pointer none) w := fun w => by kernel_rfl
  go_enter Tryz.func58, Tryz.ntmps58
  go_upto_region 4 with (first
    | (go_at_call 74; refine HN.out.mono ?_; rintro e wc ⟨rfl, h, hO⟩)
    | fail)
  have c0 := h.box.cell 0
  have hlk := look_N (P := Tryz.prog) Tryz.underlying57 Tryz.underlying9 h.all s (hz _)
  rw [getL_find, hg] at hlk
  go_wp2
  go_ret
  exact ⟨rfl, h, hO⟩

set_option maxRecDepth 100000 in
set_option maxHeartbeats 4000000 in
theorem dcut_far (W w : World) (d fm rm n : Nat) (own : Nat → Option Nat) (L : List (ByteArray × Nat × Dfile)) (ks : List Int) (h : DiskAt W w d fm rm own L ks n) (hn : n ≤ 1000000000) (hq : ((n : Int) + 1) ∉ ks) (s : ByteArray) (k : Int) (fb : Nat) (f : Dfile) (hg : getL L s = some (fb, f)) (hlen : f.ops.length ≤ 100000) (hk0 : ¬ k < 0) (hk : (f.content.length : Int) < k) :
    Calls Tryz.prog 58 #[.pointer (some ⟨d, 0, none⟩), .string s, .int .i64 k] w fun e w' => e = .returned (.int .i64 2) ∧ DiskAt W w' d fm rm own L ks (n + 1) ∧ Only w w' (fun i => i = d) := by
  have HN := Lib.hid (count_calls W w d fm rm n own L ks h hn false (decide_eq_false hq))
  clear h
  have hz : ∀ w : World, (zeroValue 84).run Tryz.prog w = .ok (.pointer none) w := fun w => by kernel_rfl
  go_enter Tryz.func58, Tryz.ntmps58
  go_upto_region 4 with (first
    | (go_at_call 74; refine HN.out.mono ?_; rintro e wc ⟨rfl, h, hO⟩)
    | fail)
  have c0 := h.box.cell 0
  have hlk := look_N (P := Tryz.prog) Tryz.underlying57 Tryz.underlying9 h.all s (hz _)
  rw [getL_find, hg] at hlk
  obtain ⟨sv, ov, l, hf⟩ := h.get hg
  have HSZ := Lib.hid (fun wx (b : Below wc.heap.size wc wx) => size_calls wx W.heap.size fb own f sv ov l (hf.low b) hlen)
  have Bn := Below.refl wc.heap.size wc
  clear hf
  go_wp2_with (first
    | (go_at_call 76; refine (HSZ.out _ Bn).mono ?_; rintro e ws ⟨rfl, bs⟩; replace h := h.low bs; replace hO := (hO.trans (Only.of_below bs (fun _ => False))).weak fun _ _ e => e.elim id False.elim)
    | fail)
  go_ret
  exact ⟨rfl, h, hO⟩

set_option maxRecDepth 100000 in
set_option maxHeartbeats 4000000 in
theorem dren_refused (W w : World) (d fm rm n : Nat) (own : Nat → Option Nat) (L : List (ByteArray × Nat × Dfile)) (ks : List Int) (h : DiskAt W w d fm rm own L ks n) (hn : n ≤ 1000000000) (hq : ((n : Int) + 1) ∈ ks) (s t : ByteArray) :
    Calls Tryz.prog 48 #[.pointer (some ⟨d, 0, none⟩), .string s, .string t] w fun e w' => e = .returned (.int .i64 13) ∧ DiskAt W w' d fm rm own L ks (n + 1) ∧ Only w w' (fun i => i = d) := by
  have HN := Lib.hid (count_calls W w d fm rm n own L ks h hn true (decide_eq_true hq))
  clear h
  go_enter Tryz.func48, Tryz.ntmps48
  go_wp2_with (first
    | (go_at_call 74; refine HN.out.mono ?_; rintro e wc ⟨rfl, h, hO⟩)
    | fail)
  go_ret
  exact ⟨rfl, h, hO⟩

set_option maxRecDepth 100000 in
set_option maxHeartbeats 4000000 in
theorem dren_arg (W w : World) (d fm rm n : Nat) (own : Nat → Option Nat) (L : List (ByteArray × Nat × Dfile)) (ks : List Int) (h : DiskAt W w d fm rm own L ks n) (hn : n ≤ 1000000000) (hq : ((n : Int) + 1) ∉ ks) (s t : ByteArray) (hnm : nameN t = false) (hs : t.size ≤ 9223372036854775806) :
    Calls Tryz.prog 48 #[.pointer (some ⟨d, 0, none⟩), .string s, .string t] w fun e w' => e = .returned (.int .i64 2) ∧ DiskAt W w' d fm rm own L ks (n + 1) ∧ Only w w' (fun i => i = d) := by
  have HN := Lib.hid (count_calls W w d fm rm n own L ks h hn false (decide_eq_false hq))
  have HNM := Lib.hid (fun w => hnm ▸ named_calls w t hs)
  clear h
  have hz : ∀ w : World, (zeroValue 84).run Tryz.prog w = .ok (.pointer none) w := fun w => by kernel_rfl
  go_enter Tryz.func48, Tryz.ntmps48
  go_upto_region 4 with (first
    | (go_at_call 74; refine HN.out.mono ?_; rintro e wc ⟨rfl, h, hO⟩)
    | fail)
  have c0 := h.box.cell 0
  have hlk := look_N (P := Tryz.prog) Tryz.underlying57 Tryz.underlying9 h.all s (hz _)
  generalize (findN _ s).getD _ = pv at hlk
  go_wp2_with (first
    | (go_at_call 75; refine (HNM.out _).mono ?_; rintro e wn ⟨rfl, bn⟩; replace h := h.low bn; replace hO := (hO.trans (Only.of_below bn (fun _ => False))).weak fun _ _ e => e.elim id False.elim)
    | fail)
  go_ret
  exact ⟨rfl, h, hO⟩

set_option maxRecDepth 100000 in
set_option maxHeartbeats 4000000 in
theorem dren_missing (W w : World) (d fm rm n : Nat) (own : Nat → Option Nat) (L : List (ByteArray × Nat × Dfile)) (ks : List Int) (h : DiskAt W w d fm rm own L ks n) (hn : n ≤ 1000000000) (hq : ((n : Int) + 1) ∉ ks) (s t : ByteArray) (hnm : nameN t = true) (hs : t.size ≤ 9223372036854775806) (hg : getL L s = none) :
    Calls Tryz.prog 48 #[.pointer (some ⟨d, 0, none⟩), .string s, .string t] w fun e w' => e = .returned (.int .i64 6) ∧ DiskAt W w' d fm rm own L ks (n + 1) ∧ Only w w' (fun i => i = d) := by
  have HN := Lib.hid (count_calls W w d fm rm n own L ks h hn false (decide_eq_false hq))
  have HNM := Lib.hid (fun w => hnm ▸ named_calls w t hs)
  clear h
  have hz : ∀ w : World, (zeroValue 84).run Tryz.prog w = .ok (.pointer none) w := fun w => by kernel_rfl
  go_enter Tryz.func48, Tryz.ntmps48
  go_upto_region 4 with (first
    | (go_at_call 74; refine HN.out.mono ?_; rintro e wc ⟨rfl, h, hO⟩)
    | fail)
  have c0 := h.box.cell 0
  have hlk := look_N (P := Tryz.prog) Tryz.underlying57 Tryz.underlying9 h.all s (hz _)
  rw [getL_find, hg] at hlk
  go_wp2_with (first
    | (go_at_call 75; refine (HNM.out _).mono ?_; rintro e wn ⟨rfl, bn⟩; replace h := h.low bn; replace hO := (hO.trans (Only.of_below bn (fun _ => False))).weak fun _ _ e => e.elim id False.elim)
    | fail)
  go_ret
  exact ⟨rfl, h, hO⟩

set_option maxRecDepth 100000 in
set_option maxHeartbeats 4000000 in
theorem dren_state (W w : World) (d fm rm n : Nat) (own : Nat → Option Nat) (L : List (ByteArray × Nat × Dfile)) (ks : List Int) (h : DiskAt W w d fm rm own L ks n) (hn : n ≤ 1000000000) (hq : ((n : Int) + 1) ∉ ks) (s t : ByteArray) (hnm : nameN t = true) (hs : t.size ≤ 9223372036854775806) (fb : Nat) (f : Dfile) (hg : getL L s = some (fb, f)) (hne : f.ops ≠ []) :
    Calls Tryz.prog 48 #[.pointer (some ⟨d, 0, none⟩), .string s, .string t] w fun e w' => e = .returned (.int .i64 10) ∧ DiskAt W w' d fm rm own L ks (n + 1) ∧ Only w w' (fun i => i = d) := by
  have HN := Lib.hid (count_calls W w d fm rm n own L ks h hn false (decide_eq_false hq))
  have HNM := Lib.hid (fun w => hnm ▸ named_calls w t hs)
  clear h
  have hz : ∀ w : World, (zeroValue 84).run Tryz.prog w = .ok (.pointer none) w := fun w => by kernel_rfl
  go_enter Tryz.func48, Tryz.ntmps48
  go_upto_region 4 with (first
    | (go_at_call 74; refine HN.out.mono ?_; rintro e wc ⟨rfl, h, hO⟩)
    | fail)
  have c0 := h.box.cell 0
  have hlk := look_N (P := Tryz.prog) Tryz.underlying57 Tryz.underlying9 h.all s (hz _)
  rw [getL_find, hg] at hlk
  obtain ⟨sv, ov, l, hf⟩ := h.get hg
  obtain ⟨oa, oc, rfl⟩ := hf.slice
  have g1 : (0 : Int) < (f.ops.length : Int) := by have := List.length_pos_iff.2 hne; omega
  have HB1 := Lib.hid (fun wx (b : Below wc.heap.size wc wx) => (hf.low b).box.cell 1)
  clear hf hne
  go_wp2_with (first
    | (go_at_call 75; refine (HNM.out _).mono ?_; rintro e wn ⟨rfl, bn⟩; have c1 := HB1.out _ bn; replace h := h.low bn; replace hO := (hO.trans (Only.of_below bn (fun _ => False))).weak fun _ _ e => e.elim id False.elim)
    | fail)
  go_ret
  exact ⟨rfl, h, hO⟩

set_option maxRecDepth 100000 in
set_option maxHeartbeats 4000000 in
theorem drem_refused (W w : World) (d fm rm n : Nat) (own : Nat → Option Nat) (L : List (ByteArray × Nat × Dfile)) (ks : List Int) (h : DiskAt W w d fm rm own L ks n) (hn : n ≤ 1000000000) (hq : ((n : Int) + 1) ∈ ks) (s : ByteArray) :
    Calls Tryz.prog 73 #[.pointer (some ⟨d, 0, none⟩), .string s] w fun e w' => e = .returned (.int .i64 13) ∧ DiskAt W w' d fm rm own L ks (n + 1) ∧ Only w w' (fun i => i = d) := by
  have HN := Lib.hid (count_calls W w d fm rm n own L ks h hn true (decide_eq_true hq))
  clear h
  go_enter Tryz.func73, Tryz.ntmps73
  go_wp2_with (first
    | (go_at_call 74; refine HN.out.mono ?_; rintro e wc ⟨rfl, h, hO⟩)
    | fail)
  go_ret
  exact ⟨rfl, h, hO⟩

set_option maxRecDepth 100000 in
set_option maxHeartbeats 4000000 in
theorem drem_missing (W w : World) (d fm rm n : Nat) (own : Nat → Option Nat) (L : List (ByteArray × Nat × Dfile)) (ks : List Int) (h : DiskAt W w d fm rm own L ks n) (hn : n ≤ 1000000000) (hq : ((n : Int) + 1) ∉ ks) (s : ByteArray) (hg : getL L s = none) :
    Calls Tryz.prog 73 #[.pointer (some ⟨d, 0, none⟩), .string s] w fun e w' => e = .returned (.int .i64 6) ∧ DiskAt W w' d fm rm own L ks (n + 1) ∧ Only w w' (fun i => i = d) := by
  have HN := Lib.hid (count_calls W w d fm rm n own L ks h hn false (decide_eq_false hq))
  clear h
  have hz : ∀ w : World, (zeroValue 84).run Tryz.prog w = .ok (.pointer none) w := fun w => by kernel_rfl
  go_enter Tryz.func73, Tryz.ntmps73
  go_upto_region 4 with (first
    | (go_at_call 74; refine HN.out.mono ?_; rintro e wc ⟨rfl, h, hO⟩)
    | fail)
  have c0 := h.box.cell 0
  have hlk := look_N (P := Tryz.prog) Tryz.underlying57 Tryz.underlying9 h.all s (hz _)
  rw [getL_find, hg] at hlk
  go_wp2
  go_ret
  exact ⟨rfl, h, hO⟩

end Go.Proofs.YtmmlpbepaefamaaGreatDoor
