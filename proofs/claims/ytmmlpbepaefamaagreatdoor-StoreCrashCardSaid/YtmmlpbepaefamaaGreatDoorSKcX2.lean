/- StoreKnown's calls, with what is written out. -/
import Derived.Test.YtmmlpbepaefamaaGreatDoorSKn
import Derived.Test.YtmmlpbepaefamaaGreatDoorSLiveX2
namespace Go.Proofs.YtmmlpbepaefamaaGreatDoor
open Go.RowKit Go.MapKept Go.Maps Go.Sort Go.Shelf

theorem chgs_lit (w : World) (L : List Chg) (hv : ∀ x ∈ L, SliceIs w x.v x.val) (cs : Array Value) (hc : cs = (L.flatMap Chg.cells).toArray) (n : Nat) (hn : n = L.length) : ChgsAt (w.alloc (.cells cs 32)) (.slice (some ⟨w.heap.size, 0, none⟩) n n) L := by
  subst hc hn
  have hW := Whole.new w 32 (L.flatMap Chg.cells).toArray
  have hb : Below w.heap.size w (w.alloc (.cells (L.flatMap Chg.cells).toArray 32)) := (Below.refl _ _).alloc (Nat.le_refl _) _
  refine .inr ⟨w.heap.size, 0, _, rfl, hW.lt, fun k x hx => ⟨fun j v hj => ?_, (hv x (List.mem_of_getElem? hx)).low hb⟩⟩
  rw [Nat.zero_add]
  exact (hW.cell _).trans (flat_at lenChg L k x j v hx hj)

def kA : ByteArray := ⟨#[97]⟩
def kB : ByteArray := ⟨#[98]⟩
def kC : ByteArray := ⟨#[99]⟩
def k1L (p q : Nat) : List Chg := [⟨kA, .slice (some ⟨p, 0, none⟩) 1 1, [1#8], false⟩, ⟨kB, .slice (some ⟨q, 0, none⟩) 1 1, [2#8], false⟩]
def k2L (p : Nat) : List Chg := [⟨kA, .slice none 0 0, [], true⟩, ⟨kC, .slice (some ⟨p, 0, none⟩) 1 1, [3#8], false⟩]
def kPut (key : ByteArray) (v : Value) (x : BitVec 8) : List Chg := [⟨key, v, [x], false⟩]
theorem k1_ok (p q : Nat) : okL (k1L p q) := by
  refine ⟨wrongE_none (by unfold k1L; simp) fun c hc => ?_, by unfold k1L; simp, fun c hc => ?_⟩
  · unfold k1L at hc
    rcases List.mem_cons.1 hc with rfl | hc
    · rfl
    · obtain rfl : c = _ := by simpa using hc
      rfl
  · unfold k1L at hc
    rcases List.mem_cons.1 hc with rfl | hc
    · show kA.size + 1 ≤ 200; decide
    · obtain rfl : c = _ := by simpa using hc
      show kB.size + 1 ≤ 200; decide
theorem k2_ok (p : Nat) : okL (k2L p) := by
  refine ⟨wrongE_none (by unfold k2L; simp) fun c hc => ?_, by unfold k2L; simp, fun c hc => ?_⟩
  · unfold k2L at hc
    rcases List.mem_cons.1 hc with rfl | hc
    · rfl
    · obtain rfl : c = _ := by simpa using hc
      rfl
  · unfold k2L at hc
    rcases List.mem_cons.1 hc with rfl | hc
    · show kA.size + 0 ≤ 200; decide
    · obtain rfl : c = _ := by simpa using hc
      show kC.size + 1 ≤ 200; decide
theorem kPut_ok (v : Value) (x : BitVec 8) : okL (kPut kA v x) := by
  refine ⟨wrongE_none (by unfold kPut; simp) fun c hc => ?_, by unfold kPut; simp, fun c hc => ?_⟩
  · unfold kPut at hc
    obtain rfl : c = _ := by simpa using hc
    rfl
  · unfold kPut at hc
    obtain rfl : c = _ := by simpa using hc
    show kA.size + 1 ≤ 200; decide

def kF1 : KV := fun k => if k = kB then some [2#8] else if k = kA then some [1#8] else none
def kF2 : KV := fun k => if k = kC then some [3#8] else if k = kA then none else kF1 k
def kF3 (x : BitVec 8) : KV := fun k => if k = kA then some [x] else none
theorem kF1_of (p q : Nat) : applyB kv0 (k1L p q) = kF1 := rfl
theorem kF2_of (p : Nat) : applyB kF1 (k2L p) = kF2 := rfl
theorem kF3_of (v : Value) (x : BitVec 8) : applyB kv0 (kPut kA v x) = kF3 x := rfl
theorem kF4_of (v : Value) (x y : BitVec 8) : applyB (kF3 x) (kPut kA v y) = kF3 y := by
  funext k
  show (if k = kA then some [y] else if k = kA then some [x] else none) = if k = kA then some [y] else none
  split <;> rfl
theorem kAB : ¬ kA = kB := by decide
theorem kAC : ¬ kA = kC := by decide
theorem kBC : ¬ kB = kC := by decide
theorem kF1_a : kF1 kA = some [1#8] := by unfold kF1; rw [if_neg kAB, if_pos rfl]
theorem kF2_ok : okF kF2 := fun k b h => by
  unfold kF2 at h
  split at h
  · rename_i e
    injection h with h
    subst h e
    decide
  split at h
  · cases h
  unfold kF1 at h
  split at h
  · rename_i e
    injection h with h
    subst h e
    decide
  · cases h
theorem kF3_ok (x : BitVec 8) : okF (kF3 x) := fun k b h => by
  unfold kF3 at h
  split at h
  · rename_i e
    injection h with h
    subst h e
    exact ⟨by decide, by decide, by show kA.size + 1 ≤ 200; decide⟩
  · cases h
def k2M : List Ent := [(kB, undef, [2#8]), (kC, undef, [3#8])]
theorem k2M_get : ∀ k, getM k2M k = kF2 k := fun k => by
  show (if kB = k then some [2#8] else if kC = k then some [3#8] else none) = if k = kC then some [3#8] else if k = kA then none else if k = kB then some [2#8] else if k = kA then some [1#8] else none
  by_cases h1 : kB = k
  · subst h1
    rw [if_pos rfl, if_neg kBC, if_neg (fun e => kAB e.symm), if_pos rfl]
  · rw [if_neg h1]
    by_cases h2 : kC = k
    · subst h2
      rw [if_pos rfl, if_pos rfl]
    · rw [if_neg h2, if_neg (fun e => h2 e.symm)]
      by_cases h3 : k = kA
      · rw [if_pos h3]
      · rw [if_neg h3, if_neg (fun e => h1 e.symm), if_neg h3]
theorem k2M_nodup : (k2M.map (·.1)).Nodup := by
  show [kB, kC].Nodup
  simp [kBC]
theorem k2_pairs : IsP kF2 [(kB, [2#8]), (kC, [3#8])] := by
  refine ⟨k2M, k2M_nodup, k2M_get, ?_⟩
  have hk : keysOf k2M = [[98], [99]] := by
    unfold keysOf
    exact List.mergeSort_of_pairwise (by decide)
  unfold pairsOf
  rw [hk]
  show _ = [(kB, (getM k2M kB).getD []), (kC, (getM k2M kC).getD [])]
  rw [k2M_get, k2M_get]
  have e1 : kF2 kB = some [2#8] := by unfold kF2 kF1; rw [if_neg kBC, if_neg (fun e => kAB e.symm), if_pos rfl]
  have e2 : kF2 kC = some [3#8] := by unfold kF2; rw [if_pos rfl]
  rw [e1, e2]
  rfl
theorem k3M_get (x : BitVec 8) : ∀ k, getM [(kA, undef, [x])] k = kF3 x k := fun k => by
  show (if kA = k then some [x] else none) = if k = kA then some [x] else none
  by_cases h : kA = k
  · rw [if_pos h, if_pos h.symm]
  · rw [if_neg h, if_neg (fun e => h e.symm)]

theorem k1_world (w : World) : Below w.heap.size w (((w.alloc (.cells #[.int .u8 1] 5)).alloc (.cells #[.int .u8 2] 5)).alloc (.cells #[.string ⟨#[97]⟩, .slice (some ⟨w.heap.size, 0, none⟩) 1 1, .bool false, .string ⟨#[98]⟩, .slice (some ⟨w.heap.size + 1, 0, none⟩) 1 1, .bool false] 32)) ∧ ChgsAt (((w.alloc (.cells #[.int .u8 1] 5)).alloc (.cells #[.int .u8 2] 5)).alloc (.cells #[.string ⟨#[97]⟩, .slice (some ⟨w.heap.size, 0, none⟩) 1 1, .bool false, .string ⟨#[98]⟩, .slice (some ⟨w.heap.size + 1, 0, none⟩) 1 1, .bool false] 32)) (.slice (some ⟨w.heap.size + 1 + 1, 0, none⟩) 2 2) (k1L w.heap.size (w.heap.size + 1)) := by
  have b1 : Below w.heap.size w (w.alloc (.cells #[.int .u8 1] 5)) := (Below.refl _ _).alloc (Nat.le_refl _) _
  have v1 := lit_bytes w [1#8] #[.int .u8 1] lit_1 (by decide)
  have z1 : (w.alloc (.cells #[.int .u8 1] 5)).heap.size = w.heap.size + 1 := by simp
  generalize w.alloc (.cells #[.int .u8 1] 5) = w1 at b1 v1 z1 ⊢
  have b2 : Below w1.heap.size w1 (w1.alloc (.cells #[.int .u8 2] 5)) := (Below.refl _ _).alloc (Nat.le_refl _) _
  have v2 := lit_bytes w1 [2#8] #[.int .u8 2] lit_2 (by decide)
  have v1' := v1.low b2
  have z2 : (w1.alloc (.cells #[.int .u8 2] 5)).heap.size = w.heap.size + 1 + 1 := by simp [z1]
  rw [z1] at v2
  generalize w1.alloc (.cells #[.int .u8 2] 5) = w2 at b2 v2 v1' z2 ⊢
  rw [← z2]
  refine ⟨(b1.trans (b2.mono b1.size)).alloc (by omega) _, chgs_lit w2 _ (fun x hx => ?_) _ rfl 2 rfl⟩
  unfold k1L at hx
  rcases List.mem_cons.1 hx with rfl | hx
  · exact v1'
  · obtain rfl : x = _ := by simpa using hx
    exact v2
theorem k2_world (w : World) : Below w.heap.size w ((w.alloc (.cells #[.int .u8 3] 5)).alloc (.cells #[.string ⟨#[97]⟩, .slice none 0 0, .bool true, .string ⟨#[99]⟩, .slice (some ⟨w.heap.size, 0, none⟩) 1 1, .bool false] 32)) ∧ ChgsAt ((w.alloc (.cells #[.int .u8 3] 5)).alloc (.cells #[.string ⟨#[97]⟩, .slice none 0 0, .bool true, .string ⟨#[99]⟩, .slice (some ⟨w.heap.size, 0, none⟩) 1 1, .bool false] 32)) (.slice (some ⟨w.heap.size + 1, 0, none⟩) 2 2) (k2L w.heap.size) := by
  have b1 : Below w.heap.size w (w.alloc (.cells #[.int .u8 3] 5)) := (Below.refl _ _).alloc (Nat.le_refl _) _
  have v1 := lit_bytes w [3#8] #[.int .u8 3] lit_3 (by decide)
  have z1 : (w.alloc (.cells #[.int .u8 3] 5)).heap.size = w.heap.size + 1 := by simp
  generalize w.alloc (.cells #[.int .u8 3] 5) = w1 at b1 v1 z1 ⊢
  rw [← z1]
  refine ⟨b1.alloc (by omega) _, chgs_lit w1 _ (fun x hx => ?_) _ rfl 2 rfl⟩
  unfold k2L at hx
  rcases List.mem_cons.1 hx with rfl | hx
  · exact .inl ⟨rfl, .inl rfl⟩
  · obtain rfl : x = _ := by simpa using hx
    exact v1

set_option maxRecDepth 100000 in
set_option maxHeartbeats 2000000 in
theorem kput1_calls (w : World) (key : ByteArray) : Calls Tryz.prog 14 #[.string key, .int .u8 1] w fun r w' => ∃ p u, r = .returned (.slice (some ⟨p, 0, none⟩) 1 1) ∧ ChgsAt w' (.slice (some ⟨p, 0, none⟩) 1 1) (kPut key u 1#8) ∧ Below w.heap.size w w' := by
  have b1 : Below w.heap.size w (w.alloc (.cells #[.int .u8 1] 5)) := (Below.refl _ _).alloc (Nat.le_refl _) _
  have v1 := lit_bytes w [1#8] #[.int .u8 1] lit_1 (by decide)
  have z1 : (w.alloc (.cells #[.int .u8 1] 5)).heap.size = w.heap.size + 1 := by simp
  have h2 := chgs_lit (w.alloc (.cells #[.int .u8 1] 5)) (kPut key (.slice (some ⟨w.heap.size, 0, none⟩) 1 1) 1#8) (fun y hy => by
    unfold kPut at hy
    obtain rfl : y = _ := by simpa using hy
    exact v1) _ rfl 1 rfl
  rw [z1] at h2
  have hb := b1.alloc (Nat.le_of_lt (by rw [z1]; exact Nat.lt_succ_self _)) (.cells #[.string key, .slice (some ⟨w.heap.size, 0, none⟩) 1 1, .bool false] 32)
  have H := Lib.hid (And.intro h2 hb)
  clear h2 hb z1 v1 b1
  go_enter Tryz.func14, Tryz.ntmps14
  go_wp2
  go_ret
  exact ⟨_, _, rfl, H.out.1, H.out.2⟩
set_option maxRecDepth 100000 in
set_option maxHeartbeats 2000000 in
theorem kput2_calls (w : World) (key : ByteArray) : Calls Tryz.prog 14 #[.string key, .int .u8 2] w fun r w' => ∃ p u, r = .returned (.slice (some ⟨p, 0, none⟩) 1 1) ∧ ChgsAt w' (.slice (some ⟨p, 0, none⟩) 1 1) (kPut key u 2#8) ∧ Below w.heap.size w w' := by
  have b1 : Below w.heap.size w (w.alloc (.cells #[.int .u8 2] 5)) := (Below.refl _ _).alloc (Nat.le_refl _) _
  have v1 := lit_bytes w [2#8] #[.int .u8 2] lit_2 (by decide)
  have z1 : (w.alloc (.cells #[.int .u8 2] 5)).heap.size = w.heap.size + 1 := by simp
  have h2 := chgs_lit (w.alloc (.cells #[.int .u8 2] 5)) (kPut key (.slice (some ⟨w.heap.size, 0, none⟩) 1 1) 2#8) (fun y hy => by
    unfold kPut at hy
    obtain rfl : y = _ := by simpa using hy
    exact v1) _ rfl 1 rfl
  rw [z1] at h2
  have hb := b1.alloc (Nat.le_of_lt (by rw [z1]; exact Nat.lt_succ_self _)) (.cells #[.string key, .slice (some ⟨w.heap.size, 0, none⟩) 1 1, .bool false] 32)
  have H := Lib.hid (And.intro h2 hb)
  clear h2 hb z1 v1 b1
  go_enter Tryz.func14, Tryz.ntmps14
  go_wp2
  go_ret
  exact ⟨_, _, rfl, H.out.1, H.out.2⟩

/-- Changes without anything, so many that they are too many. -/
theorem make65 (w : World) : ∃ w', (Instr.makeSlice 33 (.int .i64 65) (.int .i64 65)).run Tryz.prog w = .ok (.slice (some ⟨w.heap.size, 0, none⟩) 65 65) w' ∧ Below w.heap.size w w' := by
  obtain ⟨i0, hi, hz0, hz1, hz2⟩ := info_chg
  obtain ⟨w', h1, h2, h3⟩ := run_makeSlice_full (P := Tryz.prog) w w.heap.size 33 32 i0 _ 3 Tryz.underlying33 hi hz0 hz1 .i64 .i64 65 (by decide) (by rw [hz2]; decide) (by simp only [maxLen]; omega) (Nat.le_refl _)
  exact ⟨w', h1, grown_below h3⟩
theorem wrong_long (w : World) (a : Option Addr) (c : Nat) : Calls Tryz.prog 29 #[.slice a 65 c] w fun r w' => r = .returned (.int .i64 3) ∧ w = w' := by
  go_enter Tryz.func29, Tryz.ntmps29
  go_wp2
  go_ret
  exact ⟨rfl, rfl⟩
set_option maxRecDepth 100000 in
set_option maxHeartbeats 2000000 in
theorem live_long {W w : World} {d s g n c : Nat} {T : Nat → Prop} {A : Fs} {ks : List Int} {F : KV} (h : Live W w d s g n T A ks F c) (a : Option Addr) (q : Nat) : Calls Tryz.prog 7 #[.pointer (some ⟨s, 0, none⟩), .slice a 65 q] w fun r w' => r = .returned (.int .i64 3) ∧ w = w' := by
  obtain ⟨S, jb, mb, M, h1, h2, h3, h4, h5⟩ := h
  have HN := Lib.hid (snone_calls w s d mb jb kvB g h2.box)
  have HW := Lib.hid (wrong_long w a q)
  clear h1 h2 h3 h4 h5
  go_enter Tryz.func7, Tryz.ntmps7
  go_wp2_with (first
    | (go_at_call 29; refine HW.out.mono ?_; rintro r w2 ⟨rfl, rfl⟩)
    | (go_at_call 28; refine HN.out.mono ?_; rintro r w1 ⟨rfl, rfl⟩)
    | fail)
  go_ret
  exact ⟨rfl, rfl⟩
theorem upA : nameS ⟨#[65]⟩ = false := by decide +kernel
theorem upA_snap : ¬ snapN kvB = (⟨#[65]⟩ ++ ⟨#[46, 115, 110, 97, 112]⟩ : ByteArray) := by decide +kernel
set_option maxRecDepth 100000 in
set_option maxHeartbeats 4000000 in
theorem sopen_arg (W w : World) (d n : Nat) (S : Nat → Prop) (f : Dfile) (ks : List Int) (h : KD W w d S [(snapN kvB, f)] ks n) : Calls Tryz.prog 6 #[.pointer (some ⟨d, 0, none⟩), .string ⟨#[65]⟩] w fun r w' => r = .returned (.tuple #[.pointer none, .int .i64 2]) ∧ Below w.heap.size w w' := by
  have hmm : ∀ w : World, (Instr.makeMap 61 none).run Tryz.prog w = .ok (.map (some w.heap.size)) (w.alloc (.map #[] 0)) := fun w => run_makeMap _ w
  obtain ⟨x, hx⟩ : ∃ x : ByteArray, x = ⟨#[65]⟩ := ⟨_, rfl⟩
  rw [← hx]
  have hsx : ¬ (9223372036854775807 : Int) < (x.size : Int) + 5 := by rw [hx]; decide
  have HNA := Lib.hid (fun w => snamed_calls w x (by rw [hx]; decide))
  rw [show nameS x = false by rw [hx]; exact upA] at HNA
  have HR := Lib.hid (show ∀ (w' : World) (hb : Below w.heap.size w w'), Calls Tryz.prog 20 #[.pointer (some ⟨d, 0, none⟩), .string (x ++ ⟨#[46, 115, 110, 97, 112]⟩)] w' fun e' w2 => e' = .returned (.tuple #[.slice none 0 0, .int .i64 6]) ∧ w' = w2 from fun w' hb => by
    rw [hx]
    exact kd_read_none (h.low hb) _ (by rw [get_one, if_neg upA_snap]))
  obtain ⟨s, b6, w3, hs, hb6, hw3, _, _, _, hb3⟩ := open_start w d x
  clear h hx
  go_enter Tryz.func6, Tryz.ntmps6
  go_upto_region 2 with fail
  rw [← hw3]
  clear hw3 hs hb6
  have HB3 := Lib.hid hb3
  clear hb3
  go_wp2_with (first
    | (go_at_call 21; refine (HNA.out w3).mono ?_; rintro r w4 ⟨rfl, hb4⟩)
    | (go_at_call 20; refine (HR.out w3 HB3.out).mono ?_; rintro r w4 ⟨rfl, rfl⟩)
    | fail)
  go_ret2
  exact ⟨rfl, HB3.out.trans (hb4.mono HB3.out.size)⟩
theorem snap_lit : snapN kvB = ⟨#[107, 118, 46, 115, 110, 97, 112]⟩ := by decide +kernel
theorem names_snap (f : Dfile) : namesA [(snapN kvB, f)] = [[107, 118, 46, 115, 110, 97, 112]] := by
  rw [snap_lit]
  unfold namesA
  simp

end Go.Proofs.YtmmlpbepaefamaaGreatDoor

/- StoreKnown's walk. -/
namespace Go.Proofs.YtmmlpbepaefamaaGreatDoor
open Go.RowKit Go.MapKept Go.Maps Go.Sort Go.Shelf

theorem kframe {L : List Chg} (h : okL L) : (frameC (recB L)).length ≤ 3012 := by
  rw [frameC_length]
  have := h.rec.1
  omega
theorem pairs_world (w : World) : Below w.heap.size w (((w.alloc (.cells #[.int .u8 2] 5)).alloc (.cells #[.int .u8 3] 5)).alloc (.cells #[.string ⟨#[98]⟩, .slice (some ⟨w.heap.size, 0, none⟩) 1 1, .string ⟨#[99]⟩, .slice (some ⟨w.heap.size + 1, 0, none⟩) 1 1] 41)) ∧ PairsAt (((w.alloc (.cells #[.int .u8 2] 5)).alloc (.cells #[.int .u8 3] 5)).alloc (.cells #[.string ⟨#[98]⟩, .slice (some ⟨w.heap.size, 0, none⟩) 1 1, .string ⟨#[99]⟩, .slice (some ⟨w.heap.size + 1, 0, none⟩) 1 1] 41)) (.slice (some ⟨w.heap.size + 1 + 1, 0, none⟩) 2 2) [(kB, [2#8]), (kC, [3#8])] := by
  have b1 : Below w.heap.size w (w.alloc (.cells #[.int .u8 2] 5)) := (Below.refl _ _).alloc (Nat.le_refl _) _
  have v1 := lit_bytes w [2#8] #[.int .u8 2] lit_2 (by decide)
  have z1 : (w.alloc (.cells #[.int .u8 2] 5)).heap.size = w.heap.size + 1 := by simp
  generalize w.alloc (.cells #[.int .u8 2] 5) = w1 at b1 v1 z1 ⊢
  have b2 : Below w1.heap.size w1 (w1.alloc (.cells #[.int .u8 3] 5)) := (Below.refl _ _).alloc (Nat.le_refl _) _
  have v2 := lit_bytes w1 [3#8] #[.int .u8 3] lit_3 (by decide)
  have v1' := v1.low b2
  have z2 : (w1.alloc (.cells #[.int .u8 3] 5)).heap.size = w.heap.size + 1 + 1 := by simp [z1]
  rw [z1] at v2
  generalize w1.alloc (.cells #[.int .u8 3] 5) = w2 at b2 v2 v1' z2 ⊢
  rw [← z2]
  have hW := Whole.new w2 41 #[.string ⟨#[98]⟩, .slice (some ⟨w.heap.size, 0, none⟩) 1 1, .string ⟨#[99]⟩, .slice (some ⟨w.heap.size + 1, 0, none⟩) 1 1]
  have b3 : Below w2.heap.size w2 (w2.alloc (.cells #[.string ⟨#[98]⟩, .slice (some ⟨w.heap.size, 0, none⟩) 1 1, .string ⟨#[99]⟩, .slice (some ⟨w.heap.size + 1, 0, none⟩) 1 1] 41)) := (Below.refl _ _).alloc (Nat.le_refl _) _
  refine ⟨(b1.trans (b2.mono b1.size)).alloc (by omega) _, .inr ⟨w2.heap.size, 0, 2, rfl, hW.lt, fun k x hx => ?_⟩⟩
  match k, hx with
  | 0, hx =>
    obtain rfl : (kB, [2#8]) = x := by simpa using hx
    refine ⟨.slice (some ⟨w.heap.size, 0, none⟩) 1 1, fun j v hj => ?_, v1'.low b3⟩
    match j, hj with
    | 0, hj =>
      obtain rfl : Value.string kB = v := by simpa using hj
      exact hW.cell 0
    | 1, hj =>
      obtain rfl : Value.slice (some ⟨w.heap.size, 0, none⟩) 1 1 = v := by simpa using hj
      exact hW.cell 1
    | j + 2, hj => simp at hj
  | 1, hx =>
    obtain rfl : (kC, [3#8]) = x := by simpa using hx
    refine ⟨.slice (some ⟨w.heap.size + 1, 0, none⟩) 1 1, fun j v hj => ?_, v2.low b3⟩
    match j, hj with
    | 0, hj =>
      obtain rfl : Value.string kC = v := by simpa using hj
      exact hW.cell 2
    | 1, hj =>
      obtain rfl : Value.slice (some ⟨w.heap.size + 1, 0, none⟩) 1 1 = v := by simpa using hj
      exact hW.cell 3
    | j + 2, hj => simp at hj
  | k + 2, hx => simp at hx
theorem live_put {W w : World} {d s g n c : Nat} {T : Nat → Prop} {A : Fs} {ks : List Int} {F : KV} (h : Live W w d s g n T A ks F c) (hA : okA A) (hn : n ≤ 1000000) (hg : g < 60) (v : Value) (L : List Chg) (hL : ChgsAt w v L) (hb : okL L) (hc : c ≤ 4000) {A' : Fs} (hr : appR A (refB ks n) (logN kvB g) (frameC (recB L)) = (0, A')) :
    Calls Tryz.prog 7 #[.pointer (some ⟨s, 0, none⟩), v] w fun r w' => r = .returned (.int .i64 0) ∧ LiveX W w w' d s g (n + 1) T A' ks (applyB F L) (c + L.length) := live_commit h hA hn hg v L hL hb hc hr
theorem ok_one (f : Dfile) (h : f.ops.length ≤ 5) : okA [(l0, f)] := (kok_one l0 f l0_size h).ok (by decide)
/-- The log with one record is opened. -/
theorem k3_cs (L : List Chg) : CS [(l0, ⟨frameC (recB L), [], false⟩)] 0 kv0 [L] [] := by
  refine ⟨.inl ⟨rfl, by rw [get_one, if_neg l0_snap], rfl⟩, .inr ⟨_, by rw [get_one]; exact if_pos rfl, ?_⟩, fun k hk hk2 => ?_, readC_nil, by simp⟩
  · show frameC (recB L) = _
    simp
  · rw [get_one, if_neg fun e => by have := kv_apart 0 (by omega) k hk2 e; omega]
theorem own_past {w w' : World} {T : Nat → Prop} {B : Nat} {v : Value} {l : List (BitVec 8)} (h : Own w B v l) (ho : Only w w' T) (hT : ∀ i, T i → i < B) : Own w' B v l := row_only h ho fun g hg e => by
  have := own_ge h hg
  have := hT g e
  omega

set_option maxRecDepth 100000 in
set_option maxHeartbeats 8000000 in
theorem sknown_calls (W : World) : Calls Tryz.prog 3 #[] W fun r w' => r = .returned (.bool true) ∧ Below W.heap.size W w' := by
  have HNEW := Lib.hid (kd_new W (.slice none 0 0) [] (.inl ⟨none, 0, rfl, rfl⟩) (by decide))
  go_enter Tryz.func3, Tryz.ntmps3
  go_upto_region 2 with (first
    | (go_at_call 5; refine HNEW.out.mono ?_; rintro e w1 ⟨d, S1, ks, rfl, hD1, hks⟩)
    | fail)
  have hno : ∀ k, ¬ k ∈ ks := fun k e => by have := (hks k).1 e; simp at this
  have HQ := Lib.hid (fun n => kfree hno n)
  have HNO := Lib.hid hno
  have HOP := Lib.hid (live_open hD1 okS.nil (by omega) (by omega) (g := 0) (by omega) (fun L h => by cases h) (by simp) (ds_crash_nil (A := []) DS.new List.nodup_nil))
  clear hks hno hD1 HNEW
  go_upto_region 5 with (first
    | (go_at_call 6; refine HOP.out.mono ?_; rintro r w2 ⟨s, T2, rfl, hL2, hO2⟩)
    | fail)
  replace hL2 : Live W w2 d s 0 0 T2 [] ks kv0 0 := hL2.cap [] (by simp) (fun _ => rfl)
  have HL2 := Lib.hid hL2
  have HC1 := Lib.hid (live_put (hL2.low (k1_world w2).1) (by decide) (by omega) (by omega) _ _ (k1_world w2).2 (k1_ok _ _) (by omega) ((congrArg (fun q => appR _ q _ _) (HQ.out _)).trans (kapp_new _ (by have := kframe (k1_ok w2.heap.size (w2.heap.size + 1)); omega))))
  clear hO2 HOP hL2
  go_upto_region 6 with (first
    | (go_at_call 7; refine HC1.out.mono ?_; rintro r w3 ⟨rfl, T3, hL3, -, -⟩)
    | fail)
  obtain ⟨f1, hf1, hL3⟩ : ∃ f1, f1.length ≤ 3012 ∧ Live W w3 d s 0 (0 + 1) T3 [(l0, ⟨[], [.add f1], true⟩)] ks kF1 (0 + 2) := ⟨_, kframe (k1_ok _ _), hL3⟩
  have HGT := live_get hL3 kA (by rw [kF1_a]; decide)
  rw [kF1_a] at HGT
  replace HGT := Lib.hid HGT
  have HL3 := Lib.hid hL3
  have HF1 := Lib.hid hf1
  clear HC1 HL2 hL3 hf1
  go_upto_region 7 with (first
    | (go_at_call 8; refine HGT.out.mono ?_; rintro r w4 ⟨_, rfl, ⟨ua, un, uc, rfl⟩, O4, b4⟩)
    | fail)
  have hL4 := HL3.out.low b4
  have HC2 := Lib.hid (live_put (hL4.low (k2_world w4).1) (ok_one _ (by simp)) (by omega) (by omega) _ _ (k2_world w4).2 (k2_ok _) (by omega) ((congrArg (fun q => appR _ q _ _) (HQ.out _)).trans (kapp_one ⟨[], [.add f1], true⟩ _ (by have := kframe (k2_ok w4.heap.size); have := HF1.out; have e : (⟨[], [.add f1], true⟩ : Dfile).content = f1 := rfl; rw [e]; omega))))
  have HO4 := Lib.hid (And.intro (row_low O4 (k2_world w4).1) (fun i (e : T3 i) => (HL3.out.old e).1))
  clear HGT O4 b4 hL4
  go_upto_region 8 with (first
    | (go_at_call 7; refine HC2.out.mono ?_; rintro r w5 ⟨rfl, T5, hL5, hO5, -⟩)
    | fail)
  obtain ⟨f2, hL5⟩ : ∃ f2, Live W w5 d s 0 (0 + 1 + 1) T5 [(l0, ⟨[], [.add f1] ++ [.add f2], true⟩)] ks kF2 (0 + 2 + 2) := ⟨_, hL5⟩
  have hO5 : Own w5 w3.heap.size (.slice ua un uc) [1#8] := own_past HO4.out.1 hO5 HO4.out.2
  have HPR := Lib.hid (live_pairs hL5 (by omega) kF2_ok)
  have HL5 := Lib.hid hL5
  have HO5 := Lib.hid hO5
  clear HC2 HO4 HL3 hL5 hO5
  go_upto_region 9 with (first
    | (go_at_call 9; refine HPR.out.mono ?_; rintro r w6 ⟨_, P6, E6, rfl, ⟨pa, pn, pc, rfl⟩, hE6, hP6, hI6, -, b6⟩)
    | fail)
  have hp6 := hE6.at
  rw [hP6, hI6.eq k2_pairs] at hp6
  have HP6 := Lib.hid hp6
  have HL6 := Lib.hid (HL5.out.low b6)
  have HS1 := Lib.hid (same_true (w6.alloc (.cells #[.int .u8 1] 5)) _ _ [1#8] ((show Own w6 w3.heap.size (.slice ua un uc) [1#8] from row_low HO5.out b6).slice.low ((Below.refl w6.heap.size w6).alloc (Nat.le_refl _) _)) (lit_bytes w6 [1#8] #[.int .u8 1] lit_1 (by decide)))
  have hb67 : Below w6.heap.size w6 (w6.alloc (.cells #[.int .u8 1] 5)) := (Below.refl w6.heap.size w6).alloc (Nat.le_refl _) _
  have HB67 := Lib.hid hb67
  clear hE6 hP6 hI6 b6 HPR HL5 HO5 hp6 hb67
  go_upto_region 11 with (first
    | (go_at_call 11; refine (samepairs_calls _ _ _ _ _ (HP6.out.low (HB7.out.trans ((pairs_world w7).1.mono HB7.out.size))) (pairs_world w7).2 (by decide) (by decide)).mono ?_; rintro r w8 ⟨rfl, b8⟩; rw [decide_eq_true (rfl : [(kB, [2#8]), (kC, [3#8])] = [(kB, [2#8]), (kC, [3#8])])]; have HB8 := Lib.hid (HB7.out.trans (((pairs_world w7).1.trans (b8.mono (pairs_world w7).1.size)).mono HB7.out.size)); clear b8)
    | (go_at_call 10; refine HS1.out.mono ?_; rintro r w7 ⟨rfl, hw7⟩; have HB7 := Lib.hid (hw7 ▸ HB67.out); clear hw7)
    | fail)
  have HL8 := Lib.hid (HL6.out.low HB8.out)
  clear HL6 HB8 HS1 HP6 HB67 HB7
  obtain ⟨S8, hD8, -⟩ := HL8.out.kd
  have HCR := Lib.hid (crash_nil hD8 (ok_one _ (by simp)) ((kcrash_one _).trans (if_pos rfl)))
  clear hD8 HL8
  go_upto_region 12 with (first
    | (go_at_call 12; refine HCR.out.mono ?_; rintro r w9 ⟨rfl, S9, hD9, -, -⟩)
    | fail)
  have HOP := Lib.hid (live_open hD9 okS.nil (by omega) (by omega) (g := 0) (by omega) (fun L h => by cases h) (by simp) (ds_crash_nil (A := []) DS.new List.nodup_nil))
  clear hD9 HCR
  go_upto_region 13 with (first
    | (go_at_call 6; refine HOP.out.mono ?_; rintro r w10 ⟨t, T10, rfl, hL10, hO10⟩)
    | fail)
  replace hL10 : Live W w10 d t 0 (0 + 1 + 1) T10 [] ks kv0 0 := hL10.cap [] (by simp) (fun _ => rfl)
  have HLN := Lib.hid (live_len hL10 (fun _ => rfl))
  have HL10 := Lib.hid hL10
  clear hO10 HOP hL10
  go_upto_region 15 with (first
    | (go_at_call 13; refine HLN.out.mono ?_; rintro r w11 ⟨rfl, rfl⟩)
    | fail)
  clear HLN
  go_upto_region 16 with (first
    | (go_at_call 7; refine (live_put (HL13.out.low b14) (ok_one _ (by simp)) (by omega) (by omega) _ _ hC14 (kPut_ok _ _) (by omega) ((congrArg (fun q => appR _ q _ _) (HQ.out _)).trans (kapp_one ⟨f3, [], false⟩ _ (by have := kframe (kPut_ok u14 2#8); have := HF3.out; have e : (⟨f3, [], false⟩ : Dfile).content = f3 := rfl; rw [e]; omega)))).mono ?_; rintro r w15 ⟨rfl, T15, hL15, -, -⟩)
    | (go_at_call 14; refine (kput2_calls w13 kA).mono ?_; rintro r w14 ⟨p14, u14, rfl, hC14, b14⟩)
    | (go_at_call 15; refine (live_sync HL12.out (ok_one _ (by simp)) (by omega) (by show ((getA [(l0, (⟨[], [.add f3], true⟩ : Dfile))] l0).map fun f => f.ops.length).getD 0 ≠ 0; rw [get_one, if_pos rfl]; simp) ((congrArg (fun q => syncR _ q _) (HQ.out _)).trans (ksync_one ⟨[], [.add f3], true⟩))).mono ?_; rintro r w13 ⟨rfl, T13, hL13, -, -⟩; replace hL13 : Live W w13 d t 0 (0 + 1 + 1 + 1 + 1) T13 [(l0, ⟨f3, [], false⟩)] ks (kF3 1#8) (0 + 1) := hL13; have HL13 := Lib.hid hL13; clear hL13)
    | (go_at_call 7; refine (live_put (HL10.out.low b11) (by decide) (by omega) (by omega) _ _ hC11 (kPut_ok _ _) (by omega) ((congrArg (fun q => appR _ q _ _) (HQ.out _)).trans (kapp_new _ (by have := kframe (kPut_ok u11 1#8); omega)))).mono ?_; rintro r w12 ⟨rfl, T12, hL12, -, -⟩; obtain ⟨f3, hf3, hL12⟩ : ∃ f3, f3 = frameC (recB (kPut kA u11 1#8)) ∧ Live W w12 d t 0 (0 + 1 + 1 + 1) T12 [(l0, ⟨[], [.add f3], true⟩)] ks (kF3 1#8) (0 + 1) := ⟨_, rfl, hL12⟩; have HF3E := Lib.hid hf3; have HF3 := Lib.hid (show f3.length ≤ 3012 by rw [hf3]; exact kframe (kPut_ok _ _)); have HL12 := Lib.hid hL12; clear hf3 hL12)
    | (go_at_call 14; refine (kput1_calls w10 kA).mono ?_; rintro r w11 ⟨p11, u11, rfl, hC11, b11⟩)
    | fail)
  obtain ⟨f4, hL15⟩ : ∃ f4, Live W w15 d t 0 (0 + 1 + 1 + 1 + 1 + 1) T15 [(l0, ⟨f3, [] ++ [.add f4], false⟩)] ks (kF3 2#8) (0 + 1 + 1) := ⟨frameC (recB (kPut kA u14 2#8)), by rw [← kF4_of u14 1#8 2#8]; exact hL15⟩
  obtain ⟨S15, hD15, -⟩ := hL15.kd
  have HCR := Lib.hid (crash_nil hD15 (ok_one _ (by simp)) ((kcrash_one _).trans (if_neg (by simp))))
  clear hL15 hD15 hC14 b14 hC11 b11 HL10 HL12 HL13
  go_upto_region 17 with (first
    | (go_at_call 12; refine HCR.out.mono ?_; rintro r w16 ⟨rfl, S16, hD16, -, -⟩)
    | fail)
  replace hD16 : KD W w16 d S16 [(l0, ⟨f3, [], false⟩)] ks (0 + 1 + 1 + 1 + 1 + 1) := hD16
  have HOP := Lib.hid (live_open hD16 (kok_one l0 _ l0_size (by simp)) (by omega) (by omega) (g := 0) (by omega) (F0 := kv0) (Ls := [kPut kA u11 1#8]) (fun L h => (List.mem_singleton.1 h) ▸ kPut_ok _ _) (by simp) (by rw [HF3E.out]; exact k3_cs _))
  clear hD16 HCR
  go_upto_region 20 with (first
    | (go_at_call 6; refine HOP.out.mono ?_; rintro r w17 ⟨u, T17, rfl, hL17, hO17⟩)
    | fail)
  replace hL17 : Live W w17 d u 0 (0 + 1 + 1 + 1 + 1 + 1) T17 [(l0, ⟨f3, [], false⟩)] ks (kF3 1#8) 1 := hL17.cap [(kA, undef, [1#8])] (by simp) (k3M_get _)
  have hka : kF3 1#8 kA = some [1#8] := if_pos rfl
  have HGT := live_get hL17 kA (by rw [hka]; decide)
  rw [hka] at HGT
  replace HGT := Lib.hid HGT
  have HL17 := Lib.hid hL17
  clear hO17 HOP hL17 hka
  go_upto_region 21 with (first
    | (go_at_call 8; refine HGT.out.mono ?_; rintro r w18 ⟨_, rfl, ⟨ba, bn, bc, rfl⟩, O18, b18⟩)
    | fail)
  have hL18 := HL17.out.low b18
  have HCK := Lib.hid (live_ckpt hL18 (kok_one l0 _ l0_size (by simp)) (by omega) (by omega) (by omega) (by omega) (kF3_ok _) (by rw [get_one, if_neg fun e => by have := kv_apart 0 (by omega) (0 + 1) (by omega) e; omega]))
  have HO18 := Lib.hid (And.intro O18 (fun i (e : T17 i) => (HL17.out.old e).1))
  clear hL18 O18 b18 HGT
  go_upto_region 22 with (first
    | (go_at_call 16; refine HCK.out.mono ?_; rintro r w19 ⟨e19, g19, A19, n19, P19, rfl, hck, hp1, -, T19, hL19, hO19, -⟩; obtain ⟨rfl, rfl, rfl⟩ := kck HNO.out _ _ (by have := laidB_len (g := 0) (fun p hp => (hp1.all p hp).2.2) hp1.len; omega) hck)
    | fail)
  have hO19 : Own w19 w17.heap.size (.slice ba bn bc) [1#8] := own_past HO18.out.1 hO19 HO18.out.2
  obtain ⟨f19, hL19⟩ : ∃ f19, Live W w19 d u 1 n19 T19 [(snapN kvB, f19)] ks (kF3 1#8) 1 ∧ f19.ops.length ≤ 5 := ⟨_, hL19, by simp⟩
  obtain ⟨S19, hD19, -⟩ := hL19.1.kd
  have HOA := Lib.hid (sopen_arg W w19 d n19 S19 f19 ks hD19)
  have HL19 := Lib.hid hL19
  have HO19 := Lib.hid hO19
  clear hck hp1 hL19 hO19 hD19 HCK HO18 HL17
  go_upto_region 23 with (first
    | (go_at_call 6; refine HOA.out.mono ?_; rintro r w20 ⟨rfl, b20⟩)
    | fail)
  have hb21 : Below w20.heap.size w20 (w20.alloc (.cells #[.int .u8 1] 5)) := (Below.refl w20.heap.size w20).alloc (Nat.le_refl _) _
  have HS1 := Lib.hid (same_true (w20.alloc (.cells #[.int .u8 1] 5)) _ _ [1#8] ((show Own w20 w17.heap.size (.slice ba bn bc) [1#8] from row_low HO19.out b20).slice.low hb21) (lit_bytes w20 [1#8] #[.int .u8 1] lit_1 (by decide)))
  have HL21 := Lib.hid ((HL19.out.1.low b20).low hb21)
  have hg1 : ((1 : Nat) : Int) = 1 := rfl
  have HGN := Lib.hid (show ∀ w', Live W w' d u 1 n19 T19 [(snapN kvB, f19)] ks (kF3 1#8) 1 → Calls Tryz.prog 17 #[.pointer (some ⟨u, 0, none⟩)] w' fun r w'' => r = .returned (.int .i64 1) ∧ w' = w'' from fun w' h => live_gen h)
  have HNM := Lib.hid (show ∀ w', Live W w' d u 1 n19 T19 [(snapN kvB, f19)] ks (kF3 1#8) 1 → Calls Tryz.prog 19 #[.pointer (some ⟨d, 0, none⟩)] w' fun r w'' => ∃ a c, r = .returned (.slice a 1 c) ∧ w''.ownsRow w'.heap.size 9 1 (.slice a 1 c) 1 ([[107, 118, 46, 115, 110, 97, 112]].map encStr) ∧ Below w'.heap.size w' w'' from fun w' h => by
    obtain ⟨S', hD', -⟩ := h.kd
    refine (kd_names W w' d n19 S' _ ks hD' ((kok_one _ _ snap_size HL19.out.2).ok (by decide))).mono ?_
    rintro r w'' ⟨v, rfl, ⟨a, c, rfl⟩, hO, hb⟩
    rw [names_snap] at hO
    exact ⟨a, c, rfl, hO, hb⟩)
  have HWR := Lib.hid (show ∀ w' p v, Live W w' d u 1 n19 T19 [(snapN kvB, f19)] ks (kF3 1#8) 1 → ChgsAt w' p (kPut ⟨#[]⟩ v 1#8) → Calls Tryz.prog 7 #[.pointer (some ⟨u, 0, none⟩), p] w' fun r w'' => r = .returned (.int .i64 2) ∧ Below w'.heap.size w' w'' from fun w' p v h hC => live_wrong h p _ hC (by unfold kPut; simp) (fun c hc => by
    unfold kPut at hc
    obtain rfl : c = _ := by simpa using hc
    exact ⟨by simp, by show (0 : Nat) ≤ 9223372036854775807; omega⟩) (show (2 : Int) ≠ 0 by decide))
  clear hb21 b20 HOA HL19 HO19
  go_wp2_with (first
    | (go_at_call 7; refine (live_long HL27.out _ _).mono ?_; rintro r w28 ⟨rfl, rfl⟩)
    | (go_at_call 7; refine (HWR.out w25 _ _ HL25.out HC25.out).mono ?_; rintro r w26 ⟨rfl, b26⟩; obtain ⟨w27, hmk, b27⟩ := make65 w26; have HL27 := Lib.hid ((HL25.out.low b26).low b27); clear b26 b27)
    | (go_at_call 14; refine (kput1_calls w24 ⟨#[]⟩).mono ?_; rintro r w25 ⟨p25, u25, rfl, hC25, b25⟩; have HL25 := Lib.hid (HL24.out.low b25); have HC25 := Lib.hid hC25; clear hC25 b25)
    | (go_at_call 18; refine (sametxt_calls (w23.alloc (.cells #[.string ⟨#[107, 118, 46, 115, 110, 97, 112]⟩] 9)) _ _ [⟨#[107, 118, 46, 115, 110, 97, 112]⟩] HT23.out (TxtAt.one w23 ⟨#[107, 118, 46, 115, 110, 97, 112]⟩) (by decide)).mono ?_; rintro r w24 ⟨rfl, b24⟩; have HL24 := Lib.hid ((HL23.out.low ((Below.refl w23.heap.size w23).alloc (Nat.le_refl _) (.cells #[.string ⟨#[107, 118, 46, 115, 110, 97, 112]⟩] 9))).low b24); clear b24)
    | (go_at_call 19; refine (HNM.out w22 HL22.out).mono ?_; rintro r w23 ⟨na, nc, rfl, hO23, b23⟩; have HL23 := Lib.hid (HL22.out.low b23); have HT23 := Lib.hid (show TxtAt (w23.alloc (.cells #[.string ⟨#[107, 118, 46, 115, 110, 97, 112]⟩] 9)) (.slice na 1 nc) [⟨#[107, 118, 46, 115, 110, 97, 112]⟩] from (TxtAt.of_row (ss := [[107, 118, 46, 115, 110, 97, 112]]) hO23).low ((Below.refl w23.heap.size w23).alloc (Nat.le_refl _) _)); clear hO23 b23)
    | (go_at_call 17; refine (HGN.out w22 HL22.out).mono ?_; rintro r w22b ⟨rfl, rfl⟩)
    | (go_at_call 10; refine HS1.out.mono ?_; rintro r w22 ⟨rfl, hw22⟩; have HL22 := Lib.hid (hw22 ▸ HL21.out); clear hw22)
    | fail)
  go_ret
  exact ⟨rfl, HL27.out.below⟩

end Go.Proofs.YtmmlpbepaefamaaGreatDoor
