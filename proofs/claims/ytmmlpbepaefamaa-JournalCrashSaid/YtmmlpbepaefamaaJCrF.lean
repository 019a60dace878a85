/- JournalCrash: what the log's file holds, what a crash leaves of it, and how it is opened once more. -/
import Derived.Test.YtmmlpbepaefamaaJShort
import Derived.Test.YtmmlpbepaefamaaJKnown
import Derived.Test.YtmmlpbepaefamaaJTorn
import Derived.Test.YtmmlpbepaefamaaDCra
namespace Go.Proofs.Ytmmlpbepaefamaa
open Go.RowKit

/-- The log's file: k records, of which a are synced. -/
def jf (ls : List (List (BitVec 8))) (a k : Nat) : Dfile := ⟨(ls.take a).flatMap frameC, ((ls.take k).drop a).map fun x => .add (frameC x), decide (a = 0)⟩
def jfiles (s : ByteArray) (fb : Nat) (ls : List (List (BitVec 8))) (a k : Nat) : List (ByteArray × Nat × Dfile) := if k = 0 then [] else [(s, fb, jf ls a k)]
theorem runOps_adds : ∀ (xs : List (List (BitVec 8))) (l : List (BitVec 8)), runOps l (xs.map fun x => Dop.add (frameC x)) = l ++ xs.flatMap frameC
  | [], l => by simp [runOps]
  | x :: xs, l => by
    have ih := runOps_adds xs (l ++ frameC x)
    unfold runOps at ih ⊢
    rw [List.map_cons, List.foldl_cons, List.flatMap_cons, ← List.append_assoc, ← ih]
    rfl
theorem jf_content (ls : List (List (BitVec 8))) (a k : Nat) (h : a ≤ k) : (jf ls a k).content = (ls.take k).flatMap frameC := by
  unfold Dfile.content jf
  rw [runOps_adds]
  have : ls.take a = (ls.take k).take a := by rw [List.take_take, Nat.min_eq_left h]
  rw [this, ← List.flatMap_append, List.take_append_drop]
theorem jf_add (ls : List (List (BitVec 8))) (a k : Nat) (x : List (BitVec 8)) (h : a ≤ k) (hx : ls[k]? = some x) : (⟨(jf ls a k).safe, (jf ls a k).ops ++ [.add (frameC x)], (jf ls a k).fresh⟩ : Dfile) = jf ls a (k + 1) := by
  unfold jf
  have hl : k < ls.length := (List.getElem?_eq_some_iff.1 hx).1
  have : (ls.take (k + 1)).drop a = (ls.take k).drop a ++ [x] := by
    rw [List.take_add_one, hx, List.drop_append_of_le_length (by rw [List.length_take]; omega)]
    rfl
  rw [this, List.map_append]
  rfl
theorem jf_sync (ls : List (List (BitVec 8))) (a k : Nat) (h : a ≤ k) (hk : k ≠ 0) : (⟨(jf ls a k).content, [], false⟩ : Dfile) = jf ls k k := by
  rw [jf_content ls a k h]
  unfold jf
  rw [List.drop_of_length_le (by rw [List.length_take]; omega), decide_eq_false hk]
  rfl
theorem jf_ops (ls : List (List (BitVec 8))) (a k : Nat) : (jf ls a k).ops.length ≤ ls.length := by
  unfold jf
  simp
  omega
theorem frames_take_len (ls : List (List (BitVec 8))) (hs : shortL ls) (k : Nat) : ((ls.take k).flatMap frameC).length ≤ 15360 := by
  have h1 := frames_len (ls.take k) (fun x hx => hs.2 x (List.mem_of_mem_take hx))
  have h2 := hs.1
  rw [List.length_take] at h1
  have : 512 * min k ls.length ≤ 512 * 30 := Nat.mul_le_mul_left _ (by omega)
  omega

/-- One record more. -/
theorem jr_append (W w : World) (jb d fm rm c fb a k : Nat) (own : Nat → Option Nat) (s : ByteArray) (ls : List (List (BitVec 8))) (hs : shortL ls) (x : List (BitVec 8)) (hx : ls[k]? = some x) (ha : a ≤ k) (hk0 : k = 0 → a = 0) (hnm : nameN s = true) (hsz : s.size ≤ 9223372036854775806) (hc : c ≤ 100)
    (h : LogAt W w jb d fm rm own (jfiles s fb ls a k) [] c s (k : Nat) (((ls.take k).flatMap frameC).length : Nat)) (v : Value) (hv : SliceIs w v x) :
    Calls Try.prog 12 #[.pointer (some ⟨jb, 0, none⟩), v] w fun e w' => e = .returned (.int .i64 0) ∧ ∃ own' fb', LogAt W w' jb d fm rm own' (jfiles s fb' ls a (k + 1)) [] (c + 1) s ((k + 1 : Nat) : Int) ((((ls.take (k + 1)).flatMap frameC).length : Nat) : Int) := by
  have hl : k < ls.length := (List.getElem?_eq_some_iff.1 hx).1
  have hk30 : k < 30 := Nat.lt_of_lt_of_le hl hs.1
  have hx5 : x.length ≤ 500 := hs.2 x (List.mem_of_getElem? hx)
  have hfl := frames_take_len ls hs k
  have hz : (((ls.take (k + 1)).flatMap frameC).length : Int) = (((ls.take k).flatMap frameC).length : Int) + ((x.length : Int) + 12) := by
    rw [frames_take ls k x hx, List.length_append, frameC_length]
    omega
  have hk1 : ((k + 1 : Nat) : Int) = (k : Int) + 1 := by omega
  rw [hz, hk1]
  by_cases h0 : k = 0
  · obtain rfl := hk0 h0
    subst h0
    have hL : jfiles s fb ls 0 0 = [] := rfl
    rw [hL] at h
    refine (japp_new W w jb d fm rm c own [] [] s 0 _ h (by decide) (by omega) (by omega) (by simp) hnm hsz v x hv (by omega) rfl (by decide)).mono ?_
    rintro e w' ⟨rfl, own', fb', h2, _⟩
    refine ⟨rfl, own', fb', ?_⟩
    have hf : ([] ++ [(s, fb', (⟨[], [.add (frameC x)], true⟩ : Dfile))] : List (ByteArray × Nat × Dfile)) = jfiles s fb' ls 0 (0 + 1) := by
      unfold jfiles
      rw [if_neg (by decide), ← jf_add ls 0 0 x (Nat.le_refl _) hx]
      simp [jf]
    rw [hf] at h2
    exact h2
  · have hL : jfiles s fb ls a k = [(s, fb, jf ls a k)] := if_neg h0
    rw [hL] at h
    have hg : getL [(s, fb, jf ls a k)] s = some (fb, jf ls a k) := if_pos rfl
    refine (japp_there W w jb d fm rm c own _ [] s k _ h (by omega) (by omega) (by omega) (by simp) hnm hsz v x hv (by omega) hg (by have := jf_ops ls a k; have := hs.1; omega) (by rw [jf_content ls a k ha]; omega)).mono ?_
    rintro e w' ⟨rfl, own', h2, _⟩
    refine ⟨rfl, own', fb, ?_⟩
    have hf : setL [(s, fb, jf ls a k)] s ⟨(jf ls a k).safe, (jf ls a k).ops ++ [.add (frameC x)], (jf ls a k).fresh⟩ = jfiles s fb ls a (k + 1) := by
      unfold setL jfiles
      rw [if_pos rfl, if_neg (by omega), jf_add ls a k x ha hx]
    rw [hf] at h2
    exact h2
/-- All records are made safe. -/
theorem jr_sync (W w : World) (jb d fm rm c fb k : Nat) (own : Nat → Option Nat) (s : ByteArray) (ls : List (List (BitVec 8))) (hs : shortL ls) (hk : k < ls.length) (hc : c ≤ 100) (z : Nat)
    (h : LogAt W w jb d fm rm own (jfiles s fb ls 0 (k + 1)) [] c s ((k + 1 : Nat) : Int) (z : Nat)) :
    Calls Try.prog 13 #[.pointer (some ⟨jb, 0, none⟩)] w fun e w' => e = .returned (.int .i64 0) ∧ ∃ own', LogAt W w' jb d fm rm own' (jfiles s fb ls (k + 1) (k + 1)) [] (c + 1) s ((k + 1 : Nat) : Int) (z : Nat) := by
  have hL : jfiles s fb ls 0 (k + 1) = [(s, fb, jf ls 0 (k + 1))] := if_neg (by omega)
  rw [hL] at h
  have hg : getL [(s, fb, jf ls 0 (k + 1))] s = some (fb, jf ls 0 (k + 1)) := if_pos rfl
  refine (jsync_there W w jb d fm rm c own _ [] s (k + 1) z h hg (by have := jf_ops ls 0 (k + 1); have := hs.1; omega) (fun e => ?_) (by omega) (by simp)).mono ?_
  · have := congrArg List.length e
    have hl : (jf ls 0 (k + 1)).ops.length = k + 1 := by
      unfold jf
      rw [List.length_map, List.length_drop, List.length_take]
      omega
    rw [hl] at this
    cases this
  · rintro e w' ⟨rfl, own', h2, _⟩
    refine ⟨rfl, own', ?_⟩
    have hf : setL [(s, fb, jf ls 0 (k + 1))] s ⟨(jf ls 0 (k + 1)).content, [], false⟩ = jfiles s fb ls (k + 1) (k + 1) := by
      unfold setL jfiles
      rw [if_pos rfl, if_neg (by omega), jf_sync ls 0 (k + 1) (by omega) (by omega)]
    rw [hf] at h2
    exact h2

/-- What a crash leaves of the log: the first so many records, and a torn end. -/
theorem jf_crash (ls : List (List (BitVec 8))) (a : Nat) (ha : a ≤ ls.length) (x y : Int) :
    ∃ m torn, a ≤ m ∧ m ≤ ls.length ∧ crashS (jf ls a ls.length) x y = (ls.take m).flatMap frameC ++ torn ∧ (torn = [] ∨ ∃ z ∈ ls, ∃ t, t < z.length + 12 ∧ torn = (frameC z).take t) := by
  have hops : (jf ls a ls.length).ops = (ls.drop a).map fun x => Dop.add (frameC x) := by
    unfold jf
    rw [List.take_length]
  have hK : crashK (jf ls a ls.length) x ≤ ls.length - a := by
    unfold crashK
    rw [hops, List.length_map, List.length_drop]
    omega
  generalize hk : crashK (jf ls a ls.length) x = K at hK
  have hrun : runOps (jf ls a ls.length).safe ((jf ls a ls.length).ops.take K) = (ls.take (a + K)).flatMap frameC := by
    rw [hops, ← List.map_take, runOps_adds]
    show (ls.take a).flatMap frameC ++ _ = _
    rw [← List.flatMap_append, List.take_add]
  have hat : (jf ls a ls.length).ops[K]? = (ls[a + K]?).map fun x => Dop.add (frameC x) := by
    rw [hops, List.getElem?_map, List.getElem?_drop]
  unfold crashS
  rw [hk, hrun, hat]
  cases hz : ls[a + K]? with
  | none =>
    refine ⟨a + K, [], by omega, by omega, ?_, .inl rfl⟩
    simp
  | some z =>
    have hlt : a + K < ls.length := (List.getElem?_eq_some_iff.1 hz).1
    simp only [Option.map_some]
    by_cases ht : min y.toNat (frameC z).length < z.length + 12
    · exact ⟨a + K, _, by omega, by omega, rfl, .inr ⟨z, List.mem_of_getElem? hz, _, ht, rfl⟩⟩
    · refine ⟨a + K + 1, [], by omega, by omega, ?_, .inl rfl⟩
      rw [frames_take ls (a + K) z hz, List.append_nil, List.take_of_length_le (i := min y.toNat (frameC z).length) (by rw [frameC_length] at ht ⊢; omega)]
theorem read_crash (ls : List (List (BitVec 8))) (hs : shortL ls) (m : Nat) (torn : List (BitVec 8)) (ht : torn = [] ∨ ∃ z ∈ ls, ∃ t, t < z.length + 12 ∧ torn = (frameC z).take t) : readC ((ls.take m).flatMap frameC ++ torn) = some (ls.take m, ((ls.take m).flatMap frameC).length) := by
  rw [readC_frames (ls.take m) torn (fun x hx => by have := hs.2 x (List.mem_of_mem_take hx); omega)]
  have : readC torn = some ([], 0) := by
    rcases ht with rfl | ⟨z, hz, t, h1, rfl⟩
    · exact readC_nil
    · exact readC_torn z t h1 (by have := hs.2 z hz; omega)
  rw [this]
  simp
theorem torn_len (ls : List (List (BitVec 8))) (hs : shortL ls) (torn : List (BitVec 8)) (ht : torn = [] ∨ ∃ z ∈ ls, ∃ t, t < z.length + 12 ∧ torn = (frameC z).take t) : torn.length ≤ 512 := by
  rcases ht with rfl | ⟨z, hz, t, h1, rfl⟩
  · simp
  · have := hs.2 z hz
    rw [List.length_take]
    omega

/-- The files behind the crash, once the log is opened. -/
def jback (s : ByteArray) (fb m : Nat) (ls : List (List (BitVec 8))) (L : List (ByteArray × Nat × Dfile)) : Prop := L = [] ∨ L = [(s, fb, ⟨(ls.take m).flatMap frameC, [], false⟩)]
/-- The log is opened once more. -/
theorem jr_open (W w : World) (d fm rm c fb a : Nat) (own : Nat → Option Nat) (s : ByteArray) (ls : List (List (BitVec 8))) (hs : shortL ls) (ha : a ≤ ls.length) (hnm : nameN s = true) (hsz : s.size ≤ 9223372036854775806) (hc : c ≤ 100) (ks : List Kp)
    (h : DiskAt W w d fm rm own (crashed ks (jfiles s fb ls a ls.length)) [] c) :
    Calls Try.prog 10 #[.pointer (some ⟨d, 0, none⟩), .string s] w fun e w' => ∃ jb m u own' L' c' z, e = .returned (.tuple #[.pointer (some ⟨jb, 0, none⟩), u, .int .i64 0]) ∧ a ≤ m ∧ m ≤ ls.length ∧ (∃ p cap, u = .slice p m cap) ∧ LogAt W w' jb d fm rm own' L' [] c' s (m : Nat) (z : Nat) ∧ jback s fb m ls L' ∧ c' ≤ 102 ∧ z ≤ 15360 ∧ ListsAt w' u (ls.take m) := by
  by_cases hL : crashed ks (jfiles s fb ls a ls.length) = []
  · have h0 : a = 0 := by
      refine Classical.byContradiction fun h0 => ?_
      have hn : ls.length ≠ 0 := by omega
      unfold jfiles at hL
      rw [if_neg hn] at hL
      unfold crashed crash1 at hL
      have hb : crashB (jf ls a ls.length) (keepOf ks s).1 (keepOf ks s).2 = true := by
        unfold crashB jf
        rw [decide_eq_false h0]
        rfl
      rw [if_pos hb] at hL
      simp at hL
    rw [hL] at h
    refine (jopen_missing W w d fm rm c own [] [] h s hnm hsz rfl).mono ?_
    rintro e w' ⟨jb, ⟨ua, uc, rfl⟩, hJ, hjb, hB⟩
    exact ⟨jb, 0, _, own, [], c, 0, rfl, by omega, by omega, ⟨_, _, rfl⟩, hJ, .inl rfl, by omega, by omega, ⟨ua, uc, by rw [List.take_zero]; rfl, by rw [List.take_zero]; exact Nat.zero_le _, fun hne => absurd (List.take_zero (l := ls)) hne⟩⟩
  · have hn : ls.length ≠ 0 := fun e => hL (by unfold jfiles; rw [if_pos e]; rfl)
    obtain ⟨m, torn, h1, h2, h3, h4⟩ := jf_crash ls a ha (keepOf ks s).1 (keepOf ks s).2
    have hL2 : crashed ks (jfiles s fb ls a ls.length) = [(s, fb, ⟨(ls.take m).flatMap frameC ++ torn, [], false⟩)] := by
      unfold jfiles at hL ⊢
      rw [if_neg hn] at hL ⊢
      unfold crashed crash1 at hL ⊢
      by_cases hb : crashB (jf ls a ls.length) (keepOf ks s).1 (keepOf ks s).2 = true
      · rw [if_pos hb, ← h3]
        rfl
      · rw [if_neg hb] at hL
        exact absurd rfl hL
    rw [hL2] at h
    have hlen := frames_take_len ls hs m
    have htl := torn_len ls hs torn h4
    have hrd := read_crash ls hs m torn h4
    have hg : getL [(s, fb, (⟨(ls.take m).flatMap frameC ++ torn, [], false⟩ : Dfile))] s = some (fb, ⟨(ls.take m).flatMap frameC ++ torn, [], false⟩) := if_pos rfl
    have hcont : (⟨(ls.take m).flatMap frameC ++ torn, [], false⟩ : Dfile).content = (ls.take m).flatMap frameC ++ torn := rfl
    have hml : (ls.take m).length = m := by rw [List.length_take]; omega
    by_cases ht : torn = []
    · subst ht
      rw [List.append_nil] at h hrd hcont hg
      refine (jopen_whole W w d fm rm c own _ [] h s hnm hsz hg (by simp) (bs := ls.take m) (by rw [hcont]; exact hrd)).mono ?_
      rintro e w' ⟨jb, u, rfl, hJ, hjb, hU, hB⟩
      rw [hml, hcont] at hJ
      obtain ⟨p, cap, hp⟩ := hU.shape
      rw [hml] at hp
      exact ⟨jb, m, u, own, _, c, _, rfl, h1, h2, ⟨p, cap, hp⟩, hJ, .inr rfl, by omega, by omega, hU.lists⟩
    · have hpos : 0 < torn.length := List.length_pos_iff.2 ht
      refine (jopen_torn W w d fm rm c own _ [] h s hnm hsz hg (by simp) (bs := ls.take m) (by rw [hcont]; exact hrd) (by rw [hcont, List.length_append]; omega) (by omega) (by simp) (by simp)).mono ?_
      rintro e w' ⟨jb, u, rfl, own', hJ, hjb, hU, _, _⟩
      rw [hml, hcont, List.take_left] at hJ
      have hf : setL [(s, fb, (⟨(ls.take m).flatMap frameC ++ torn, [], false⟩ : Dfile))] s ⟨(ls.take m).flatMap frameC, [], false⟩ = [(s, fb, ⟨(ls.take m).flatMap frameC, [], false⟩)] := by
        unfold setL
        rw [if_pos rfl]
      rw [hf] at hJ
      obtain ⟨p, cap, hp⟩ := hU.shape
      rw [hml] at hp
      exact ⟨jb, m, u, own', _, c + 2, _, rfl, h1, h2, ⟨p, cap, hp⟩, hJ, .inr rfl, by omega, by omega, hU.lists⟩
/-- One record behind the crash. -/
theorem jr_more (W w : World) (jb d fm rm c fb m z : Nat) (own : Nat → Option Nat) (s : ByteArray) (ls : List (List (BitVec 8))) (L : List (ByteArray × Nat × Dfile)) (hs : shortL ls) (hm : m ≤ ls.length) (hL : jback s fb m ls L) (hnm : nameN s = true) (hsz : s.size ≤ 9223372036854775806) (hc : c ≤ 102) (hz : z ≤ 15360)
    (h : LogAt W w jb d fm rm own L [] c s (m : Nat) (z : Nat)) (v : Value) (x : List (BitVec 8)) (hv : SliceIs w v x) (hx : x.length ≤ 500) :
    Calls Try.prog 12 #[.pointer (some ⟨jb, 0, none⟩), v] w fun e w' => e = .returned (.int .i64 0) ∧ (∃ own' L' c', LogAt W w' jb d fm rm own' L' [] c' s ((m : Int) + 1) ((z : Int) + ((x.length : Int) + 12))) := by
  have hm30 : m ≤ 30 := Nat.le_trans hm hs.1
  rcases hL with rfl | rfl
  · refine (japp_new W w jb d fm rm c own [] [] s m z h (by omega) (by omega) (by omega) (by simp) hnm hsz v x hv (by omega) rfl (by decide)).mono ?_
    rintro e w' ⟨rfl, own', fb', h2, _⟩
    exact ⟨rfl, own', _, _, h2⟩
  · have hg : getL [(s, fb, (⟨(ls.take m).flatMap frameC, [], false⟩ : Dfile))] s = some (fb, ⟨(ls.take m).flatMap frameC, [], false⟩) := if_pos rfl
    have hlen := frames_take_len ls hs m
    have hcont : (⟨(ls.take m).flatMap frameC, [], false⟩ : Dfile).content = (ls.take m).flatMap frameC := rfl
    refine (japp_there W w jb d fm rm c own _ [] s m z h (by omega) (by omega) (by omega) (by simp) hnm hsz v x hv (by omega) hg (by simp) (by rw [hcont]; omega)).mono ?_
    rintro e w' ⟨rfl, own', h2, _⟩
    exact ⟨rfl, own', _, _, h2⟩

end Go.Proofs.Ytmmlpbepaefamaa
