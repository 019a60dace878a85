/- What the disk answers when it refuses. -/
import Derived.Test.YtmmlpbepaefamaaDApp
namespace Go.Proofs.Ytmmlpbepaefamaa
open Go.RowKit Go.MapKept

set_option maxRecDepth 100000 in
set_option maxHeartbeats 4000000 in
theorem dapp_refused (W w : World) (d fm rm n : Nat) (own : Nat → Option Nat) (L : List (ByteArray × Nat × Dfile)) (ks : List Int) (h : DiskAt W w d fm rm own L ks n) (hn : n ≤ 1000000000) (hq : ((n : Int) + 1) ∈ ks) (s : ByteArray) (ba : Option Addr) (bl bc : Nat) :
    Calls Try.prog 17 #[.pointer (some ⟨d, 0, none⟩), .string s, .slice ba bl bc] w fun e w' => e = .returned (.int .i64 13) ∧ DiskAt W w' d fm rm own L ks (n + 1) ∧ Only w w' (fun i => i = d) := by
  have HN := Lib.hid (count_calls W w d fm rm n own L ks h hn true (decide_eq_true hq))
  clear h
  go_enter Try.func17, Try.ntmps17
  go_wp2_with (first
    | (go_at_call 43; refine HN.out.mono ?_; rintro e wc ⟨rfl, h, hO⟩)
    | fail)
  go_ret
  exact ⟨rfl, h, hO⟩

set_option maxRecDepth 100000 in
set_option maxHeartbeats 4000000 in
theorem dapp_arg (W w : World) (d fm rm n : Nat) (own : Nat → Option Nat) (L : List (ByteArray × Nat × Dfile)) (ks : List Int) (h : DiskAt W w d fm rm own L ks n) (hn : n ≤ 1000000000) (hq : ((n : Int) + 1) ∉ ks) (s : ByteArray) (ba : Option Addr) (bl bc : Nat) (hnm : nameN s = false) (hs : s.size ≤ 9223372036854775806) :
    Calls Try.prog 17 #[.pointer (some ⟨d, 0, none⟩), .string s, .slice ba bl bc] w fun e w' => e = .returned (.int .i64 2) ∧ DiskAt W w' d fm rm own L ks (n + 1) ∧ Only w w' (fun i => i = d) := by
  have HN := Lib.hid (count_calls W w d fm rm n own L ks h hn false (decide_eq_false hq))
  have HNM := Lib.hid (fun w => hnm ▸ named_calls w s hs)
  clear h
  have hz : ∀ w : World, (zeroValue 83).run Try.prog w = .ok (.pointer none) w := fun w => by kernel_rfl
  go_enter Try.func17, Try.ntmps17
  go_upto_region 4 with (first
    | (go_at_call 43; refine HN.out.mono ?_; rintro e wc ⟨rfl, h, hO⟩)
    | fail)
  have c0 := h.box.cell 0
  have hlk := look_N (P := Try.prog) Try.underlying71 Try.underlying9 h.all s (hz _)
  generalize (findN _ s).getD _ = pv at hlk
  go_wp2_with (first
    | (go_at_call 44; refine (HNM.out _).mono ?_; rintro e wn ⟨rfl, bn⟩; replace h := h.low bn; replace hO := (hO.trans (Only.of_below bn (fun _ => False))).weak fun _ _ e => e.elim id False.elim)
    | fail)
  go_ret
  exact ⟨rfl, h, hO⟩

set_option maxRecDepth 100000 in
set_option maxHeartbeats 4000000 in
theorem dapp_full (W w : World) (d fm rm n : Nat) (own : Nat → Option Nat) (L : List (ByteArray × Nat × Dfile)) (ks : List Int) (h : DiskAt W w d fm rm own L ks n) (hn : n ≤ 1000000000) (hq : ((n : Int) + 1) ∉ ks) (s : ByteArray) (ba : Option Addr) (bl bc : Nat) (hnm : nameN s = true) (hs : s.size ≤ 9223372036854775806) (hg : getL L s = none) (hl : 64 ≤ L.length) :
    Calls Try.prog 17 #[.pointer (some ⟨d, 0, none⟩), .string s, .slice ba bl bc] w fun e w' => e = .returned (.int .i64 8) ∧ DiskAt W w' d fm rm own L ks (n + 1) ∧ Only w w' (fun i => i = d) := by
  have HN := Lib.hid (count_calls W w d fm rm n own L ks h hn false (decide_eq_false hq))
  have HNM := Lib.hid (fun w => hnm ▸ named_calls w s hs)
  clear h
  have hz : ∀ w : World, (zeroValue 83).run Try.prog w = .ok (.pointer none) w := fun w => by kernel_rfl
  go_enter Try.func17, Try.ntmps17
  go_upto_region 4 with (first
    | (go_at_call 43; refine HN.out.mono ?_; rintro e wc ⟨rfl, h, hO⟩)
    | fail)
  have c0 := h.box.cell 0
  have hlk := look_N (P := Try.prog) Try.underlying71 Try.underlying9 h.all s (hz _)
  rw [getL_find, hg] at hlk
  have HG := Lib.hid hg
  go_upto_region 5 with fail
  clear hlk c0
  go_upto_region 7 with (first
    | (go_at_call 44; refine (HNM.out _).mono ?_; rintro e wn ⟨rfl, bn⟩; replace h := h.low bn; replace hO := (hO.trans (Only.of_below bn (fun _ => False))).weak fun _ _ e => e.elim id False.elim)
    | fail)
  obtain ⟨ents, clk, hme, _, hml⟩ := h.all
  have hsz : ents.size = L.length := by
    have := congrArg List.length hml
    simpa using this
  have hlm := run_len_map (P := Try.prog) (w := wn) 71 3 fm ents clk (by kernel_rfl) hme
  rw [hsz] at hlm
  have c0 := h.box.cell 0
  clear hg hsz hml hme
  have g1 : (64 : Int) ≤ (L.length : Int) := by omega
  go_wp2
  go_ret
  exact ⟨rfl, h, hO⟩

set_option maxRecDepth 100000 in
set_option maxHeartbeats 4000000 in
theorem dapp_long (W w : World) (d fm rm n : Nat) (own : Nat → Option Nat) (L : List (ByteArray × Nat × Dfile)) (ks : List Int) (h : DiskAt W w d fm rm own L ks n) (hn : n ≤ 1000000000) (hq : ((n : Int) + 1) ∉ ks) (s : ByteArray) (ba : Option Addr) (bl bc : Nat) (hnm : nameN s = true) (hs : s.size ≤ 9223372036854775806) (hg : getL L s = none) (hl : L.length < 64) (hbl : 1048576 < bl) :
    Calls Try.prog 17 #[.pointer (some ⟨d, 0, none⟩), .string s, .slice ba bl bc] w fun e w' => e = .returned (.int .i64 3) ∧ DiskAt W w' d fm rm own L ks (n + 1) ∧ Only w w' (fun i => i = d) := by
  have HN := Lib.hid (count_calls W w d fm rm n own L ks h hn false (decide_eq_false hq))
  have HNM := Lib.hid (fun w => hnm ▸ named_calls w s hs)
  clear h
  have hz : ∀ w : World, (zeroValue 83).run Try.prog w = .ok (.pointer none) w := fun w => by kernel_rfl
  go_enter Try.func17, Try.ntmps17
  go_upto_region 4 with (first
    | (go_at_call 43; refine HN.out.mono ?_; rintro e wc ⟨rfl, h, hO⟩)
    | fail)
  have c0 := h.box.cell 0
  have hlk := look_N (P := Try.prog) Try.underlying71 Try.underlying9 h.all s (hz _)
  rw [getL_find, hg] at hlk
  have HG := Lib.hid hg
  go_upto_region 5 with fail
  clear hlk c0
  go_upto_region 7 with (first
    | (go_at_call 44; refine (HNM.out _).mono ?_; rintro e wn ⟨rfl, bn⟩; replace h := h.low bn; replace hO := (hO.trans (Only.of_below bn (fun _ => False))).weak fun _ _ e => e.elim id False.elim)
    | fail)
  obtain ⟨ents, clk, hme, _, hml⟩ := h.all
  have hsz : ents.size = L.length := by
    have := congrArg List.length hml
    simpa using this
  have hlm := run_len_map (P := Try.prog) (w := wn) 71 3 fm ents clk (by kernel_rfl) hme
  rw [hsz] at hlm
  have c0 := h.box.cell 0
  clear hg hsz hml hme
  have g1 : ¬ (64 : Int) ≤ (L.length : Int) := by omega
  have g2 : (1048576 : Int) < (bl : Int) := by omega
  go_wp2
  go_ret
  exact ⟨rfl, h, hO⟩

set_option maxRecDepth 100000 in
set_option maxHeartbeats 4000000 in
theorem dapp_long2 (W w : World) (d fm rm n : Nat) (own : Nat → Option Nat) (L : List (ByteArray × Nat × Dfile)) (ks : List Int) (h : DiskAt W w d fm rm own L ks n) (hn : n ≤ 1000000000) (hq : ((n : Int) + 1) ∉ ks) (s : ByteArray) (ba : Option Addr) (bl bc : Nat) (hnm : nameN s = true) (hs : s.size ≤ 9223372036854775806) (fb : Nat) (f : Dfile) (hg : getL L s = some (fb, f)) (hlen : f.ops.length ≤ 100000) (hbl : 1048576 < f.content.length + bl) (hb2 : bl ≤ 4611686018427387904) :
    Calls Try.prog 17 #[.pointer (some ⟨d, 0, none⟩), .string s, .slice ba bl bc] w fun e w' => e = .returned (.int .i64 3) ∧ DiskAt W w' d fm rm own L ks (n + 1) ∧ Only w w' (fun i => i = d) := by
  have HN := Lib.hid (count_calls W w d fm rm n own L ks h hn false (decide_eq_false hq))
  have HNM := Lib.hid (fun w => hnm ▸ named_calls w s hs)
  clear h
  have hz : ∀ w : World, (zeroValue 83).run Try.prog w = .ok (.pointer none) w := fun w => by kernel_rfl
  go_enter Try.func17, Try.ntmps17
  go_upto_region 4 with (first
    | (go_at_call 43; refine HN.out.mono ?_; rintro e wc ⟨rfl, h, hO⟩)
    | fail)
  have c0 := h.box.cell 0
  have hlk := look_N (P := Try.prog) Try.underlying71 Try.underlying9 h.all s (hz _)
  rw [getL_find, hg] at hlk
  obtain ⟨sv, ov, l, hf⟩ := h.get hg
  have HSZ := Lib.hid (fun wx (b : Below wc.heap.size wc wx) => size_calls wx W.heap.size fb own f sv ov l (hf.low b) hlen)
  have hcl := okOps_len _ _ hf.okf.1 hf.okf.2
  have g2 : (1048576 : Int) < (f.content.length : Int) + (bl : Int) := by omega
  have g3 : IntKind.i64.wrap ((f.content.length : Int) + (bl : Int)) = (f.content.length : Int) + (bl : Int) := IntWalk.i64_in _ (by (have : f.content.length ≤ 1048576 := hcl); omega)
  clear hf hcl
  go_wp2_with (first
    | (go_at_call 44; refine (HNM.out _).mono ?_; rintro e wn ⟨rfl, bn⟩; have Bn := bn; replace h := h.low bn; replace hO := (hO.trans (Only.of_below bn (fun _ => False))).weak fun _ _ e => e.elim id False.elim)
    | (go_at_call 45; refine (HSZ.out _ Bn).mono ?_; rintro e ws ⟨rfl, bs⟩; replace h := h.low bs; replace hO := (hO.trans (Only.of_below bs (fun _ => False))).weak fun _ _ e => e.elim id False.elim)
    | fail)
  go_ret
  exact ⟨rfl, h, hO⟩

set_option maxRecDepth 100000 in
set_option maxHeartbeats 4000000 in
theorem dcut_refused (W w : World) (d fm rm n : Nat) (own : Nat → Option Nat) (L : List (ByteArray × Nat × Dfile)) (ks : List Int) (h : DiskAt W w d fm rm own L ks n) (hn : n ≤ 1000000000) (hq : ((n : Int) + 1) ∈ ks) (s : ByteArray) (k : Int) :
    Calls Try.prog 22 #[.pointer (some ⟨d, 0, none⟩), .string s, .int .i64 k] w fun e w' => e = .returned (.int .i64 13) ∧ DiskAt W w' d fm rm own L ks (n + 1) ∧ Only w w' (fun i => i = d) := by
  have HN := Lib.hid (count_calls W w d fm rm n own L ks h hn true (decide_eq_true hq))
  clear h
  go_enter Try.func22, Try.ntmps22
  go_wp2_with (first
    | (go_at_call 43; refine HN.out.mono ?_; rintro e wc ⟨rfl, h, hO⟩)
    | fail)
  go_ret
  exact ⟨rfl, h, hO⟩

set_option maxRecDepth 100000 in
set_option maxHeartbeats 4000000 in
theorem dcut_missing (W w : World) (d fm rm n : Nat) (own : Nat → Option Nat) (L : List (ByteArray × Nat × Dfile)) (ks : List Int) (h : DiskAt W w d fm rm own L ks n) (hn : n ≤ 1000000000) (hq : ((n : Int) + 1) ∉ ks) (s : ByteArray) (k : Int) (hg : getL L s = none) :
    Calls Try.prog 22 #[.pointer (some ⟨d, 0, none⟩), .string s, .int .i64 k] w fun e w' => e = .returned (.int .i64 6) ∧ DiskAt W w' d fm rm own L ks (n + 1) ∧ Only w w' (fun i => i = d) := by
  have HN := Lib.hid (count_calls W w d fm rm n own L ks h hn false (decide_eq_false hq))
  clear h
  have hz : ∀ w : World, (zeroValue 83).run Try.prog w = .ok (.pointer none) w := fun w => by kernel_rfl
  go_enter Try.func22, Try.ntmps22
  go_upto_region 4 with (first
    | (go_at_call 43; refine HN.out.mono ?_; rintro e wc ⟨rfl, h, hO⟩)
    | fail)
  have c0 := h.box.cell 0
  have hlk := look_N (P := Try.prog) Try.underlying71 Try.underlying9 h.all s (hz _)
  rw [getL_find, hg] at hlk
  go_wp2
  go_ret
  exact ⟨rfl, h, hO⟩

set_option maxRecDepth 100000 in
set_option maxHeartbeats 4000000 in
theorem dcut_neg (W w : World) (d fm rm n : Nat) (own : Nat → Option Nat) (L : List (ByteArray × Nat × Dfile)) (ks : List Int) (h : DiskAt W w d fm rm own L ks n) (hn : n ≤ 1000000000) (hq : ((n : Int) + 1) ∉ ks) (s : ByteArray) (k : Int) (fb : Nat) (f : Dfile) (hg : getL L s = some (fb, f)) (hk : k < 0) :
    Calls Try.prog 22 #[.pointer (some ⟨d, 0, none⟩), .string s, .int .i64 k] w fun e w' => e = .returned (.int .i64 2) ∧ DiskAt W w' d fm rm own L ks (n + 1) ∧ Only w w' (fun i => i = d) := by
  have HN := Lib.hid (count_calls W w d fm rm n own L ks h hn false (decide_eq_false hq))
  clear h
  have hz : ∀ w : World, (zeroValue 83).run Try.prog w = .ok (.pointer none) w := fun w => by kernel_rfl
  go_enter Try.func22, Try.ntmps22
  go_upto_region 4 with (first
    | (go_at_call 43; refine HN.out.mono ?_; rintro e wc ⟨rfl, h, hO⟩)
    | fail)
  have c0 := h.box.cell 0
  have hlk := look_N (P := Try.prog) Try.underlying71 Try.underlying9 h.all s (hz _)
  rw [getL_find, hg] at hlk
  go_wp2
  go_ret
  exact ⟨rfl, h, hO⟩

set_option maxRecDepth 100000 in
set_option maxHeartbeats 4000000 in
theorem dcut_far (W w : World) (d fm rm n : Nat) (own : Nat → Option Nat) (L : List (ByteArray × Nat × Dfile)) (ks : List Int) (h : DiskAt W w d fm rm own L ks n) (hn : n ≤ 1000000000) (hq : ((n : Int) + 1) ∉ ks) (s : ByteArray) (k : Int) (fb : Nat) (f : Dfile) (hg : getL L s = some (fb, f)) (hlen : f.ops.length ≤ 100000) (hk0 : ¬ k < 0) (hk : (f.content.length : Int) < k) :
    Calls Try.prog 22 #[.pointer (some ⟨d, 0, none⟩), .string s, .int .i64 k] w fun e w' => e = .returned (.int .i64 2) ∧ DiskAt W w' d fm rm own L ks (n + 1) ∧ Only w w' (fun i => i = d) := by
  have HN := Lib.hid (count_calls W w d fm rm n own L ks h hn false (decide_eq_false hq))
  clear h
  have hz : ∀ w : World, (zeroValue 83).run Try.prog w = .ok (.pointer none) w := fun w => by kernel_rfl
  go_enter Try.func22, Try.ntmps22
  go_upto_region 4 with (first
    | (go_at_call 43; refine HN.out.mono ?_; rintro e wc ⟨rfl, h, hO⟩)
    | fail)
  have c0 := h.box.cell 0
  have hlk := look_N (P := Try.prog) Try.underlying71 Try.underlying9 h.all s (hz _)
  rw [getL_find, hg] at hlk
  obtain ⟨sv, ov, l, hf⟩ := h.get hg
  have HSZ := Lib.hid (fun wx (b : Below wc.heap.size wc wx) => size_calls wx W.heap.size fb own f sv ov l (hf.low b) hlen)
  have Bn := Below.refl wc.heap.size wc
  clear hf
  go_wp2_with (first
    | (go_at_call 45; refine (HSZ.out _ Bn).mono ?_; rintro e ws ⟨rfl, bs⟩; replace h := h.low bs; replace hO := (hO.trans (Only.of_below bs (fun _ => False))).weak fun _ _ e => e.elim id False.elim)
    | fail)
  go_ret
  exact ⟨rfl, h, hO⟩

set_option maxRecDepth 100000 in
set_option maxHeartbeats 4000000 in
theorem dren_refused (W w : World) (d fm rm n : Nat) (own : Nat → Option Nat) (L : List (ByteArray × Nat × Dfile)) (ks : List Int) (h : DiskAt W w d fm rm own L ks n) (hn : n ≤ 1000000000) (hq : ((n : Int) + 1) ∈ ks) (s t : ByteArray) :
    Calls Try.prog 23 #[.pointer (some ⟨d, 0, none⟩), .string s, .string t] w fun e w' => e = .returned (.int .i64 13) ∧ DiskAt W w' d fm rm own L ks (n + 1) ∧ Only w w' (fun i => i = d) := by
  have HN := Lib.hid (count_calls W w d fm rm n own L ks h hn true (decide_eq_true hq))
  clear h
  go_enter Try.func23, Try.ntmps23
  go_wp2_with (first
    | (go_at_call 43; refine HN.out.mono ?_; rintro e wc ⟨rfl, h, hO⟩)
    | fail)
  go_ret
  exact ⟨rfl, h, hO⟩

set_option maxRecDepth 100000 in
set_option maxHeartbeats 4000000 in
theorem dren_arg (W w : World) (d fm rm n : Nat) (own : Nat → Option Nat) (L : List (ByteArray × Nat × Dfile)) (ks : List Int) (h : DiskAt W w d fm rm own L ks n) (hn : n ≤ 1000000000) (hq : ((n : Int) + 1) ∉ ks) (s t : ByteArray) (hnm : nameN t = false) (hs : t.size ≤ 9223372036854775806) :
    Calls Try.prog 23 #[.pointer (some ⟨d, 0, none⟩), .string s, .string t] w fun e w' => e = .returned (.int .i64 2) ∧ DiskAt W w' d fm rm own L ks (n + 1) ∧ Only w w' (fun i => i = d) := by
  have HN := Lib.hid (count_calls W w d fm rm n own L ks h hn false (decide_eq_false hq))
  have HNM := Lib.hid (fun w => hnm ▸ named_calls w t hs)
  clear h
  have hz : ∀ w : World, (zeroValue 83).run Try.prog w = .ok (.pointer none) w := fun w => by kernel_rfl
  go_enter Try.func23, Try.ntmps23
  go_upto_region 4 with (first
    | (go_at_call 43; refine HN.out.mono ?_; rintro e wc ⟨rfl, h, hO⟩)
    | fail)
  have c0 := h.box.cell 0
  have hlk := look_N (P := Try.prog) Try.underlying71 Try.underlying9 h.all s (hz _)
  generalize (findN _ s).getD _ = pv at hlk
  go_wp2_with (first
    | (go_at_call 44; refine (HNM.out _).mono ?_; rintro e wn ⟨rfl, bn⟩; replace h := h.low bn; replace hO := (hO.trans (Only.of_below bn (fun _ => False))).weak fun _ _ e => e.elim id False.elim)
    | fail)
  go_ret
  exact ⟨rfl, h, hO⟩

set_option maxRecDepth 100000 in
set_option maxHeartbeats 4000000 in
theorem dren_missing (W w : World) (d fm rm n : Nat) (own : Nat → Option Nat) (L : List (ByteArray × Nat × Dfile)) (ks : List Int) (h : DiskAt W w d fm rm own L ks n) (hn : n ≤ 1000000000) (hq : ((n : Int) + 1) ∉ ks) (s t : ByteArray) (hnm : nameN t = true) (hs : t.size ≤ 9223372036854775806) (hg : getL L s = none) :
    Calls Try.prog 23 #[.pointer (some ⟨d, 0, none⟩), .string s, .string t] w fun e w' => e = .returned (.int .i64 6) ∧ DiskAt W w' d fm rm own L ks (n + 1) ∧ Only w w' (fun i => i = d) := by
  have HN := Lib.hid (count_calls W w d fm rm n own L ks h hn false (decide_eq_false hq))
  have HNM := Lib.hid (fun w => hnm ▸ named_calls w t hs)
  clear h
  have hz : ∀ w : World, (zeroValue 83).run Try.prog w = .ok (.pointer none) w := fun w => by kernel_rfl
  go_enter Try.func23, Try.ntmps23
  go_upto_region 4 with (first
    | (go_at_call 43; refine HN.out.mono ?_; rintro e wc ⟨rfl, h, hO⟩)
    | fail)
  have c0 := h.box.cell 0
  have hlk := look_N (P := Try.prog) Try.underlying71 Try.underlying9 h.all s (hz _)
  rw [getL_find, hg] at hlk
  go_wp2_with (first
    | (go_at_call 44; refine (HNM.out _).mono ?_; rintro e wn ⟨rfl, bn⟩; replace h := h.low bn; replace hO := (hO.trans (Only.of_below bn (fun _ => False))).weak fun _ _ e => e.elim id False.elim)
    | fail)
  go_ret
  exact ⟨rfl, h, hO⟩

set_option maxRecDepth 100000 in
set_option maxHeartbeats 4000000 in
theorem dren_state (W w : World) (d fm rm n : Nat) (own : Nat → Option Nat) (L : List (ByteArray × Nat × Dfile)) (ks : List Int) (h : DiskAt W w d fm rm own L ks n) (hn : n ≤ 1000000000) (hq : ((n : Int) + 1) ∉ ks) (s t : ByteArray) (hnm : nameN t = true) (hs : t.size ≤ 9223372036854775806) (fb : Nat) (f : Dfile) (hg : getL L s = some (fb, f)) (hne : f.ops ≠ []) :
    Calls Try.prog 23 #[.pointer (some ⟨d, 0, none⟩), .string s, .string t] w fun e w' => e = .returned (.int .i64 10) ∧ DiskAt W w' d fm rm own L ks (n + 1) ∧ Only w w' (fun i => i = d) := by
  have HN := Lib.hid (count_calls W w d fm rm n own L ks h hn false (decide_eq_false hq))
  have HNM := Lib.hid (fun w => hnm ▸ named_calls w t hs)
  clear h
  have hz : ∀ w : World, (zeroValue 83).run Try.prog w = .ok (.pointer none) w := fun w => by kernel_rfl
  go_enter Try.func23, Try.ntmps23
  go_upto_region 4 with (first
    | (go_at_call 43; refine HN.out.mono ?_; rintro e wc ⟨rfl, h, hO⟩)
    | fail)
  have c0 := h.box.cell 0
  have hlk := look_N (P := Try.prog) Try.underlying71 Try.underlying9 h.all s (hz _)
  rw [getL_find, hg] at hlk
  obtain ⟨sv, ov, l, hf⟩ := h.get hg
  obtain ⟨oa, oc, rfl⟩ := hf.slice
  have g1 : (0 : Int) < (f.ops.length : Int) := by have := List.length_pos_iff.2 hne; omega
  have HB1 := Lib.hid (fun wx (b : Below wc.heap.size wc wx) => (hf.low b).box.cell 1)
  clear hf hne
  go_wp2_with (first
    | (go_at_call 44; refine (HNM.out _).mono ?_; rintro e wn ⟨rfl, bn⟩; have c1 := HB1.out _ bn; replace h := h.low bn; replace hO := (hO.trans (Only.of_below bn (fun _ => False))).weak fun _ _ e => e.elim id False.elim)
    | fail)
  go_ret
  exact ⟨rfl, h, hO⟩

set_option maxRecDepth 100000 in
set_option maxHeartbeats 4000000 in
theorem drem_refused (W w : World) (d fm rm n : Nat) (own : Nat → Option Nat) (L : List (ByteArray × Nat × Dfile)) (ks : List Int) (h : DiskAt W w d fm rm own L ks n) (hn : n ≤ 1000000000) (hq : ((n : Int) + 1) ∈ ks) (s : ByteArray) :
    Calls Try.prog 58 #[.pointer (some ⟨d, 0, none⟩), .string s] w fun e w' => e = .returned (.int .i64 13) ∧ DiskAt W w' d fm rm own L ks (n + 1) ∧ Only w w' (fun i => i = d) := by
  have HN := Lib.hid (count_calls W w d fm rm n own L ks h hn true (decide_eq_true hq))
  clear h
  go_enter Try.func58, Try.ntmps58
  go_wp2_with (first
    | (go_at_call 43; refine HN.out.mono ?_; rintro e wc ⟨rfl, h, hO⟩)
    | fail)
  go_ret
  exact ⟨rfl, h, hO⟩

set_option maxRecDepth 100000 in
set_option maxHeartbeats 4000000 in
theorem drem_missing (W w : World) (d fm rm n : Nat) (own : Nat → Option Nat) (L : List (ByteArray × Nat × Dfile)) (ks : List Int) (h : DiskAt W w d fm rm own L ks n) (hn : n ≤ 1000000000) (hq : ((n : Int) + 1) ∉ ks) (s : ByteArray) (hg : getL L s = none) :
    Calls Try.prog 58 #[.pointer (some ⟨d, 0, none⟩), .string s] w fun e w' => e = .returned (.int .i64 6) ∧ DiskAt W w' d fm rm own L ks (n + 1) ∧ Only w w' (fun i => i = d) := by
  have HN := Lib.hid (count_calls W w d fm rm n own L ks h hn false (decide_eq_false hq))
  clear h
  have hz : ∀ w : World, (zeroValue 83).run Try.prog w = .ok (.pointer none) w := fun w => by kernel_rfl
  go_enter Try.func58, Try.ntmps58
  go_upto_region 4 with (first
    | (go_at_call 43; refine HN.out.mono ?_; rintro e wc ⟨rfl, h, hO⟩)
    | fail)
  have c0 := h.box.cell 0
  have hlk := look_N (P := Try.prog) Try.underlying71 Try.underlying9 h.all s (hz _)
  rw [getL_find, hg] at hlk
  go_wp2
  go_ret
  exact ⟨rfl, h, hO⟩

set_option maxRecDepth 100000 in
set_option maxHeartbeats 4000000 in
theorem dspoil_missing (W w : World) (d fm rm n : Nat) (own : Nat → Option Nat) (L : List (ByteArray × Nat × Dfile)) (ks : List Int) (h : DiskAt W w d fm rm own L ks n) (s : ByteArray) (k : Int) (hg : getL L s = none) :
    Calls Try.prog 62 #[.pointer (some ⟨d, 0, none⟩), .string s, .int .i64 k] w fun e w' => e = .returned (.int .i64 6) ∧ DiskAt W w' d fm rm own L ks n ∧ Only w w' (fun _ => False) := by
  have HN := Lib.hid (dnone_calls w d fm (h.box.cell 0))
  have hz : ∀ w : World, (zeroValue 83).run Try.prog w = .ok (.pointer none) w := fun w => by kernel_rfl
  go_enter Try.func62, Try.ntmps62
  go_upto_region 3 with (first
    | (go_at_call 40; refine HN.out.mono ?_; rintro e wc ⟨rfl, hwc⟩; subst hwc)
    | fail)
  have hO : Only w w (fun _ => False) := Only.of_below (Below.refl _ _) _
  have c0 := h.box.cell 0
  have hlk := look_N (P := Try.prog) Try.underlying71 Try.underlying9 h.all s (hz _)
  rw [getL_find, hg] at hlk
  go_wp2
  go_ret
  exact ⟨rfl, h, hO⟩

set_option maxRecDepth 100000 in
set_option maxHeartbeats 4000000 in
theorem dspoil_state (W w : World) (d fm rm n : Nat) (own : Nat → Option Nat) (L : List (ByteArray × Nat × Dfile)) (ks : List Int) (h : DiskAt W w d fm rm own L ks n) (s : ByteArray) (k : Int) (fb : Nat) (f : Dfile) (hg : getL L s = some (fb, f)) (hne : f.ops ≠ []) :
    Calls Try.prog 62 #[.pointer (some ⟨d, 0, none⟩), .string s, .int .i64 k] w fun e w' => e = .returned (.int .i64 10) ∧ DiskAt W w' d fm rm own L ks n ∧ Only w w' (fun _ => False) := by
  have HN := Lib.hid (dnone_calls w d fm (h.box.cell 0))
  have hz : ∀ w : World, (zeroValue 83).run Try.prog w = .ok (.pointer none) w := fun w => by kernel_rfl
  go_enter Try.func62, Try.ntmps62
  go_upto_region 3 with (first
    | (go_at_call 40; refine HN.out.mono ?_; rintro e wc ⟨rfl, hwc⟩; subst hwc)
    | fail)
  have hO : Only w w (fun _ => False) := Only.of_below (Below.refl _ _) _
  have c0 := h.box.cell 0
  have hlk := look_N (P := Try.prog) Try.underlying71 Try.underlying9 h.all s (hz _)
  rw [getL_find, hg] at hlk
  obtain ⟨sv, ov, l, hf⟩ := h.get hg
  obtain ⟨oa, oc, rfl⟩ := hf.slice
  have g1 : (0 : Int) < (f.ops.length : Int) := by have := List.length_pos_iff.2 hne; omega
  have c1 := hf.box.cell 1
  clear hf hne
  go_wp2
  go_ret
  exact ⟨rfl, h, hO⟩

set_option maxRecDepth 100000 in
set_option maxHeartbeats 4000000 in
theorem dspoil_neg (W w : World) (d fm rm n : Nat) (own : Nat → Option Nat) (L : List (ByteArray × Nat × Dfile)) (ks : List Int) (h : DiskAt W w d fm rm own L ks n) (s : ByteArray) (k : Int) (fb : Nat) (f : Dfile) (hg : getL L s = some (fb, f)) (he : f.ops = []) (hk : k < 0) :
    Calls Try.prog 62 #[.pointer (some ⟨d, 0, none⟩), .string s, .int .i64 k] w fun e w' => e = .returned (.int .i64 2) ∧ DiskAt W w' d fm rm own L ks n ∧ Only w w' (fun _ => False) := by
  have HN := Lib.hid (dnone_calls w d fm (h.box.cell 0))
  have hz : ∀ w : World, (zeroValue 83).run Try.prog w = .ok (.pointer none) w := fun w => by kernel_rfl
  go_enter Try.func62, Try.ntmps62
  go_upto_region 3 with (first
    | (go_at_call 40; refine HN.out.mono ?_; rintro e wc ⟨rfl, hwc⟩; subst hwc)
    | fail)
  have hO : Only w w (fun _ => False) := Only.of_below (Below.refl _ _) _
  have c0 := h.box.cell 0
  have hlk := look_N (P := Try.prog) Try.underlying71 Try.underlying9 h.all s (hz _)
  rw [getL_find, hg] at hlk
  obtain ⟨sv, ov, l, hf⟩ := h.get hg
  obtain ⟨oa, oc, rfl⟩ := hf.slice
  obtain ⟨sa, sc, rfl⟩ := slice_of_row hf.safe
  have g1 : ¬ (0 : Int) < (f.ops.length : Int) := by rw [he]; decide
  have c1 := hf.box.cell 1
  have c2 := hf.box.cell 0
  have hsl := hf.okf.1
  have g3 : IntKind.i64.wrap (8 * (f.safe.length : Int)) = 8 * (f.safe.length : Int) := IntWalk.i64_in _ (by omega)
  clear hf he
  go_wp2
  go_ret
  exact ⟨rfl, h, hO⟩

set_option maxRecDepth 100000 in
set_option maxHeartbeats 4000000 in
theorem dspoil_far (W w : World) (d fm rm n : Nat) (own : Nat → Option Nat) (L : List (ByteArray × Nat × Dfile)) (ks : List Int) (h : DiskAt W w d fm rm own L ks n) (s : ByteArray) (k : Int) (fb : Nat) (f : Dfile) (hg : getL L s = some (fb, f)) (he : f.ops = []) (hk : ¬ k < 0) (hk2 : 8 * (f.safe.length : Int) ≤ k) :
    Calls Try.prog 62 #[.pointer (some ⟨d, 0, none⟩), .string s, .int .i64 k] w fun e w' => e = .returned (.int .i64 2) ∧ DiskAt W w' d fm rm own L ks n ∧ Only w w' (fun _ => False) := by
  have HN := Lib.hid (dnone_calls w d fm (h.box.cell 0))
  have hz : ∀ w : World, (zeroValue 83).run Try.prog w = .ok (.pointer none) w := fun w => by kernel_rfl
  go_enter Try.func62, Try.ntmps62
  go_upto_region 3 with (first
    | (go_at_call 40; refine HN.out.mono ?_; rintro e wc ⟨rfl, hwc⟩; subst hwc)
    | fail)
  have hO : Only w w (fun _ => False) := Only.of_below (Below.refl _ _) _
  have c0 := h.box.cell 0
  have hlk := look_N (P := Try.prog) Try.underlying71 Try.underlying9 h.all s (hz _)
  rw [getL_find, hg] at hlk
  obtain ⟨sv, ov, l, hf⟩ := h.get hg
  obtain ⟨oa, oc, rfl⟩ := hf.slice
  obtain ⟨sa, sc, rfl⟩ := slice_of_row hf.safe
  have g1 : ¬ (0 : Int) < (f.ops.length : Int) := by rw [he]; decide
  have c1 := hf.box.cell 1
  have c2 := hf.box.cell 0
  have hsl := hf.okf.1
  have g3 : IntKind.i64.wrap (8 * (f.safe.length : Int)) = 8 * (f.safe.length : Int) := IntWalk.i64_in _ (by omega)
  clear hf he
  go_wp2
  go_ret
  exact ⟨rfl, h, hO⟩

set_option maxRecDepth 100000 in
theorem dops_calls (W w : World) (d fm rm n : Nat) (own : Nat → Option Nat) (L : List (ByteArray × Nat × Dfile)) (ks : List Int) (h : DiskAt W w d fm rm own L ks n) :
    Calls Try.prog 66 #[.pointer (some ⟨d, 0, none⟩)] w fun e w' => e = .returned (.int .i64 n) ∧ w = w' := by
  have HN := Lib.hid (dnone_calls w d fm (h.box.cell 0))
  have c2 := h.box.cell 2
  go_enter Try.func66, Try.ntmps66
  go_wp2_with (first
    | (go_at_call 40; refine HN.out.mono ?_; rintro e w' ⟨rfl, rfl⟩)
    | fail)
  go_ret
  exact ⟨rfl, rfl⟩

end Go.Proofs.Ytmmlpbepaefamaa
