/- A store's log as a file: k records, of which a are synced; what a crash leaves of it. No program in sight. -/
import Derived.Test.YtmmlpbepaefamaaGreatDoorSCkpt
import Derived.Test.YtmmlpbepaefamaaGreatDoorSSnap
namespace Go.Proofs.YtmmlpbepaefamaaGreatDoor
open Go.RowKit Go.MapKept

/-- The log's file: k records, of which a are synced. -/
def jf (ls : List (List (BitVec 8))) (a k : Nat) : Dfile := ⟨(ls.take a).flatMap frameC, ((ls.take k).drop a).map fun x => .add (frameC x), decide (a = 0)⟩
theorem runOps_adds : ∀ (xs : List (List (BitVec 8))) (l : List (BitVec 8)), runOps l (xs.map fun x => Dop.add (frameC x)) = l ++ xs.flatMap frameC
  | [], l => by simp [runOps]
  | x :: xs, l => by
    have ih := runOps_adds xs (l ++ frameC x)
    unfold runOps at ih ⊢
    rw [List.map_cons, List.foldl_cons, List.flatMap_cons, ← List.append_assoc, ← ih]
    rfl
theorem jf_content (ls : List (List (BitVec 8))) (a k : Nat) (h : a ≤ k) : (jf ls a k).content = (ls.take k).flatMap frameC := by
  unfold Dfile.content jf
  rw [runOps_adds]
  have : ls.take a = (ls.take k).take a := by rw [List.take_take, Nat.min_eq_left h]
  rw [this, ← List.flatMap_append, List.take_append_drop]
theorem jf_more (ls : List (List (BitVec 8))) (a : Nat) (x : List (BitVec 8)) (h : a ≤ ls.length) : (⟨(jf ls a ls.length).safe, (jf ls a ls.length).ops ++ [.add (frameC x)], (jf ls a ls.length).fresh⟩ : Dfile) = jf (ls ++ [x]) a (ls ++ [x]).length := by
  unfold jf
  rw [List.take_length, List.take_length, List.drop_append_of_le_length h, List.map_append, List.take_append_of_le_length h]
  rfl
theorem jf_sync (ls : List (List (BitVec 8))) (a : Nat) (h : a ≤ ls.length) (hk : ls ≠ []) : (⟨(jf ls a ls.length).content, [], false⟩ : Dfile) = jf ls ls.length ls.length := by
  rw [jf_content ls a _ h]
  unfold jf
  rw [List.drop_of_length_le (by rw [List.length_take]; omega), decide_eq_false (fun e => hk (List.eq_nil_of_length_eq_zero e))]
  rfl
theorem jf_ops (ls : List (List (BitVec 8))) (a : Nat) : (jf ls a ls.length).ops.length = ls.length - a := by
  unfold jf
  rw [List.length_map, List.length_drop, List.take_length]
/-- What a crash leaves of the log: the first so many records, and a torn end. -/
def Torn (ls : List (List (BitVec 8))) (torn : List (BitVec 8)) : Prop := torn = [] ∨ ∃ z ∈ ls, ∃ t, t < z.length + 12 ∧ torn = (frameC z).take t
theorem frames_next (ls : List (List (BitVec 8))) (k : Nat) (x : List (BitVec 8)) (h : ls[k]? = some x) : (ls.take (k + 1)).flatMap frameC = (ls.take k).flatMap frameC ++ frameC x := by
  rw [List.take_add_one, h, List.flatMap_append]
  simp
theorem jf_crash (ls : List (List (BitVec 8))) (a : Nat) (ha : a ≤ ls.length) (x y : Int) :
    ∃ m torn, a ≤ m ∧ m ≤ ls.length ∧ crashS (jf ls a ls.length) x y = (ls.take m).flatMap frameC ++ torn ∧ Torn ls torn := by
  have hops : (jf ls a ls.length).ops = (ls.drop a).map fun x => Dop.add (frameC x) := by
    unfold jf
    rw [List.take_length]
  have hK : crashK (jf ls a ls.length) x ≤ ls.length - a := by
    unfold crashK
    rw [hops, List.length_map, List.length_drop]
    omega
  generalize hk : crashK (jf ls a ls.length) x = K at hK
  have hrun : runOps (jf ls a ls.length).safe ((jf ls a ls.length).ops.take K) = (ls.take (a + K)).flatMap frameC := by
    rw [hops, ← List.map_take, runOps_adds]
    show (ls.take a).flatMap frameC ++ _ = _
    rw [← List.flatMap_append, List.take_add]
  have hat : (jf ls a ls.length).ops[K]? = (ls[a + K]?).map fun x => Dop.add (frameC x) := by
    rw [hops, List.getElem?_map, List.getElem?_drop]
  unfold crashS
  rw [hk, hrun, hat]
  cases hz : ls[a + K]? with
  | none =>
    refine ⟨a + K, [], by omega, by omega, ?_, .inl rfl⟩
    simp
  | some z =>
    have hlt : a + K < ls.length := (List.getElem?_eq_some_iff.1 hz).1
    simp only [Option.map_some]
    by_cases ht : min y.toNat (frameC z).length < z.length + 12
    · exact ⟨a + K, _, by omega, by omega, rfl, .inr ⟨z, List.mem_of_getElem? hz, _, ht, rfl⟩⟩
    · refine ⟨a + K + 1, [], by omega, by omega, ?_, .inl rfl⟩
      rw [frames_next ls (a + K) z hz, List.append_nil, List.take_of_length_le (i := min y.toNat (frameC z).length) (by rw [frameC_length] at ht ⊢; omega)]
/-- Records that may be read back. -/
def RecsOk (ls : List (List (BitVec 8))) : Prop := ls.length ≤ 40 ∧ ∀ x ∈ ls, x.length ≤ 3000
theorem RecsOk.take {ls : List (List (BitVec 8))} (h : RecsOk ls) (m : Nat) : RecsOk (ls.take m) := ⟨by rw [List.length_take]; have := h.1; omega, fun x hx => h.2 x (List.mem_of_mem_take hx)⟩
theorem torn_read {ls : List (List (BitVec 8))} (h : RecsOk ls) {torn : List (BitVec 8)} (ht : Torn ls torn) : readC torn = some ([], 0) ∧ torn.length ≤ 3012 := by
  rcases ht with rfl | ⟨z, hz, t, h1, rfl⟩
  · exact ⟨readC_nil, by simp⟩
  · have := h.2 z hz
    exact ⟨readC_torn z t h1 (by omega), by rw [List.length_take]; omega⟩
theorem recs_read {ls : List (List (BitVec 8))} (h : RecsOk ls) {torn : List (BitVec 8)} (ht : readC torn = some ([], 0)) : readC (ls.flatMap frameC ++ torn) = some (ls, (ls.flatMap frameC).length) := by
  rw [readC_frames ls torn (fun x hx => by have := h.2 x hx; omega), ht]
  simp
theorem frames_bound : ∀ ls : List (List (BitVec 8)), (∀ x ∈ ls, x.length ≤ 3000) → (ls.flatMap frameC).length ≤ ls.length * 3012
  | [], _ => by simp
  | x :: ls, h => by
    have := frames_bound ls fun y hy => h y (List.mem_cons_of_mem _ hy)
    have := h x List.mem_cons_self
    rw [List.flatMap_cons, List.length_append, frameC_length, List.length_cons]
    omega
theorem recs_len {ls : List (List (BitVec 8))} (h : RecsOk ls) : (ls.flatMap frameC).length ≤ 130000 := by
  have := frames_bound ls h.2
  have := h.1
  omega

/-- A file behind a crash that keeps nothing. -/
theorem crash_none (f : Dfile) : crashS f 0 0 = f.safe ∧ crashB f 0 0 = !f.fresh := by
  obtain ⟨s, ops, fr⟩ := f
  unfold crashS crashB crashK
  cases ops with
  | nil => exact ⟨rfl, by simp⟩
  | cons o ops =>
    cases o with
    | add b => exact ⟨by simp [runOps], by simp⟩
    | cut n => exact ⟨by simp [runOps], by simp⟩
/-- A file that is safe stays. -/
theorem crash_safe (c : List (BitVec 8)) (x y : Int) : crashS ⟨c, [], false⟩ x y = c ∧ crashB ⟨c, [], false⟩ x y = true := by
  unfold crashS crashB crashK
  exact ⟨by simp [runOps], by simp⟩

end Go.Proofs.YtmmlpbepaefamaaGreatDoor

/- What a store's files say, call by call. No program in sight. -/
namespace Go.Proofs.YtmmlpbepaefamaaGreatDoor
open Go.RowKit Go.MapKept

abbrev KV := ByteArray → Option (List (BitVec 8))
def kv0 : KV := fun _ => none
def foldB (F : KV) (Ls : List (List Chg)) : KV := Ls.foldl applyB F
theorem foldB_add (F : KV) (Ls : List (List Chg)) (L : List Chg) : foldB F (Ls ++ [L]) = applyB (foldB F Ls) L := by
  unfold foldB
  rw [List.foldl_append]
  rfl
/-- Pairs that are laid down and read back. -/
structure PairsOk (P : List (ByteArray × List (BitVec 8))) : Prop where
  asc : AscP P
  len : P.length ≤ 1000
  all : ∀ p ∈ P, 1 ≤ p.1.size ∧ p.1.size ≤ 128 ∧ p.1.size + p.2.length ≤ 900

def SnapAt (A : Fs) (g : Nat) (F0 : KV) : Prop := (g = 0 ∧ getA A (snapN kvB) = none ∧ F0 = kv0) ∨ ∃ g0 P, g = g0 + 1 ∧ getA A (snapN kvB) = some ⟨laidB g0 P, [], false⟩ ∧ PairsOk P ∧ getP P = F0
def LogIs (A : Fs) (g : Nat) (Ls : List (List Chg)) (a : Nat) : Prop := (Ls = [] ∧ a = 0 ∧ getA A (logN kvB g) = none) ∨ (Ls ≠ [] ∧ a ≤ Ls.length ∧ getA A (logN kvB g) = some (jf (Ls.map recB) a Ls.length))
/-- The files of a store: F0, what its checkpoint says; Ls, the batches behind it, of which a are synced. -/
structure DS (A : Fs) (g : Nat) (F0 : KV) (Ls : List (List Chg)) (a : Nat) : Prop where
  snap : SnapAt A g F0
  log : LogIs A g Ls a
  free : ∀ h, g < h → h < 60 → getA A (logN kvB h) = none
theorem SnapAt.of {A A' : Fs} {g : Nat} {F0 : KV} (h : SnapAt A g F0) (e : getA A' (snapN kvB) = getA A (snapN kvB)) : SnapAt A' g F0 := by
  unfold SnapAt
  rw [e]
  exact h
theorem LogIs.of {A A' : Fs} {g a : Nat} {Ls : List (List Chg)} (h : LogIs A g Ls a) (e : getA A' (logN kvB g) = getA A (logN kvB g)) : LogIs A' g Ls a := by
  unfold LogIs
  rw [e]
  exact h
theorem LogIs.le {A : Fs} {g a : Nat} {Ls : List (List Chg)} (h : LogIs A g Ls a) : a ≤ Ls.length := by
  rcases h with ⟨_, h, _⟩ | ⟨_, h, _⟩ <;> omega
theorem DS.tmp {A A' : Fs} {g a : Nat} {F0 : KV} {Ls : List (List Chg)} (h : DS A g F0 Ls a) (hg : g < 60) (e : ∀ t, t ≠ tmpN kvB → getA A' t = getA A t) : DS A' g F0 Ls a :=
  ⟨h.snap.of (e _ kv_snap.2.2), h.log.of (e _ (kv_others g hg).2), fun k hk hk2 => (e _ (kv_others k hk2).2).trans (h.free k hk hk2)⟩
theorem DS.new : DS [] 0 kv0 [] 0 := ⟨.inl ⟨rfl, rfl, rfl⟩, .inl ⟨rfl, rfl, rfl⟩, fun _ _ _ => rfl⟩

theorem app_says {A A' : Fs} {q : Bool} {s : ByteArray} {b : List (BitVec 8)} {e : Int} (h : appR A q s b = (e, A')) :
    (e ≠ 0 ∧ A' = A) ∨ (e = 0 ∧ ((getA A s = none ∧ A' = A ++ [(s, ⟨[], [.add b], true⟩)]) ∨ ∃ f, getA A s = some f ∧ A' = setA A s ⟨f.safe, f.ops ++ [.add b], f.fresh⟩)) := by
  unfold appR at h
  split at h
  · injection h with h1 h2
    exact .inl ⟨by omega, h2.symm⟩
  split at h
  · injection h with h1 h2
    exact .inl ⟨by omega, h2.symm⟩
  cases hg : getA A s with
  | none =>
    rw [hg] at h
    simp only [] at h
    split at h
    · injection h with h1 h2
      exact .inl ⟨by omega, h2.symm⟩
    split at h
    · injection h with h1 h2
      exact .inl ⟨by omega, h2.symm⟩
    injection h with h1 h2
    exact .inr ⟨h1.symm, .inl ⟨rfl, h2.symm⟩⟩
  | some f =>
    rw [hg] at h
    simp only [] at h
    split at h
    · injection h with h1 h2
      exact .inl ⟨by omega, h2.symm⟩
    injection h with h1 h2
    exact .inr ⟨h1.symm, .inr ⟨f, rfl, h2.symm⟩⟩
theorem sync_says {A A' : Fs} {q : Bool} {s : ByteArray} {e : Int} (h : syncR A q s = (e, A')) :
    (e ≠ 0 ∧ A' = A ∧ (q = true ∨ getA A s = none)) ∨ (e = 0 ∧ ∃ f, getA A s = some f ∧ A' = setA A s ⟨f.content, [], false⟩) := by
  unfold syncR at h
  split at h
  · injection h with h1 h2
    exact .inl ⟨by omega, h2.symm, .inl ‹_›⟩
  cases hg : getA A s with
  | none =>
    rw [hg] at h
    injection h with h1 h2
    exact .inl ⟨by omega, h2.symm, .inr rfl⟩
  | some f =>
    rw [hg] at h
    injection h with h1 h2
    exact .inr ⟨h1.symm, f, rfl, h2.symm⟩
theorem rem_says {A A' : Fs} {q : Bool} {s : ByteArray} {e : Int} (h : remR A q s = (e, A')) : (e ≠ 0 ∧ A' = A) ∨ (e = 0 ∧ A' = dropA A s) := by
  unfold remR at h
  split at h
  · injection h with h1 h2
    exact .inl ⟨by omega, h2.symm⟩
  cases hg : getA A s with
  | none =>
    rw [hg] at h
    injection h with h1 h2
    exact .inl ⟨by omega, h2.symm⟩
  | some f =>
    rw [hg] at h
    injection h with h1 h2
    exact .inr ⟨h1.symm, h2.symm⟩
theorem ren_says {A A' : Fs} {q : Bool} {s t : ByteArray} {e : Int} (h : renR A q s t = (e, A')) : (e ≠ 0 ∧ A' = A) ∨ (e = 0 ∧ ∃ f, getA A s = some f ∧ A' = putA (dropA A s) t f) := by
  unfold renR at h
  split at h
  · injection h with h1 h2
    exact .inl ⟨by omega, h2.symm⟩
  split at h
  · injection h with h1 h2
    exact .inl ⟨by omega, h2.symm⟩
  cases hg : getA A s with
  | none =>
    rw [hg] at h
    injection h with h1 h2
    exact .inl ⟨by omega, h2.symm⟩
  | some f =>
    rw [hg] at h
    simp only [] at h
    split at h
    · injection h with h1 h2
      exact .inl ⟨by omega, h2.symm⟩
    injection h with h1 h2
    exact .inr ⟨h1.symm, f, rfl, h2.symm⟩

/-- A batch more. -/
theorem ds_commit {A A' : Fs} {g a : Nat} {F0 : KV} {Ls : List (List Chg)} (h : DS A g F0 Ls a) (hg : g < 60) (L : List Chg) {q : Bool} {e : Int} (hr : appR A q (logN kvB g) (frameC (recB L)) = (e, A')) :
    (e ≠ 0 ∧ DS A' g F0 Ls a) ∨ (e = 0 ∧ DS A' g F0 (Ls ++ [L]) a) := by
  rcases app_says hr with ⟨h1, rfl⟩ | ⟨h1, h2⟩
  · exact .inl ⟨h1, h⟩
  refine .inr ⟨h1, ?_⟩
  have hsn : logN kvB g ≠ snapN kvB := (kv_others g hg).1
  have hfr : ∀ k, g < k → k < 60 → logN kvB g ≠ logN kvB k := fun k hk hk2 e => by have := kv_apart g hg k hk2 e; omega
  have hne : Ls ++ [L] ≠ [] := by simp
  have hmap : (Ls ++ [L]).map recB = Ls.map recB ++ [recB L] := by simp
  have hlen : (Ls.map recB).length = Ls.length := List.length_map _
  have hal := h.log.le
  rcases h2 with ⟨hn, rfl⟩ | ⟨f, hf, rfl⟩
  · have hget : ∀ t, getA (A ++ [(logN kvB g, (⟨[], [.add (frameC (recB L))], true⟩ : Dfile))]) t = if logN kvB g = t then some ⟨[], [.add (frameC (recB L))], true⟩ else getA A t := fun t => by
      rw [get_append]
      show (getA A t).or (if logN kvB g = t then some _ else none) = _
      by_cases e : logN kvB g = t
      · rw [if_pos e, if_pos e, ← e, hn]
        rfl
      · rw [if_neg e, if_neg e, Option.or_none]
    have h0 : Ls = [] ∧ a = 0 := by
      rcases h.log with ⟨h1, h2, _⟩ | ⟨_, _, h3⟩
      · exact ⟨h1, h2⟩
      · rw [hn] at h3
        cases h3
    obtain ⟨rfl, rfl⟩ := h0
    refine ⟨h.snap.of ((hget _).trans (if_neg hsn)), .inr ⟨hne, by omega, ?_⟩, fun k hk hk2 => ?_⟩
    · rw [hget, if_pos rfl]
      rfl
    · rw [hget, if_neg (hfr k hk hk2)]
      exact h.free k hk hk2
  · have hget : ∀ t, getA (setA A (logN kvB g) ⟨f.safe, f.ops ++ [.add (frameC (recB L))], f.fresh⟩) t = if logN kvB g = t then some ⟨f.safe, f.ops ++ [.add (frameC (recB L))], f.fresh⟩ else getA A t := fun t => by
      rw [get_set]
      by_cases e : logN kvB g = t
      · rw [if_pos ⟨e, by rw [hf]; simp⟩, if_pos e]
      · rw [if_neg (fun h => e h.1), if_neg e]
    have h0 : f = jf (Ls.map recB) a Ls.length := by
      rcases h.log with ⟨_, _, h3⟩ | ⟨_, _, h3⟩
      · rw [hf] at h3
        cases h3
      · rw [hf] at h3
        injection h3
    refine ⟨h.snap.of ((hget _).trans (if_neg hsn)), .inr ⟨hne, by rw [List.length_append]; omega, ?_⟩, fun k hk hk2 => ?_⟩
    · rw [hget, if_pos rfl, h0, ← hlen, jf_more _ _ _ (by omega), hmap]
      simp
    · rw [hget, if_neg (hfr k hk hk2)]
      exact h.free k hk hk2
/-- How many operations the log awaits. -/
theorem DS.pend {A : Fs} {g a : Nat} {F0 : KV} {Ls : List (List Chg)} (h : DS A g F0 Ls a) : (((getA A (logN kvB g)).map fun f => f.ops.length).getD 0 : Nat) = Ls.length - a := by
  rcases h.log with ⟨rfl, rfl, h3⟩ | ⟨_, _, h3⟩
  · rw [h3]
    rfl
  · rw [h3]
    show (jf (Ls.map recB) a Ls.length).ops.length = _
    have := jf_ops (Ls.map recB) a
    rwa [List.length_map] at this
theorem ds_sync {A A' : Fs} {g a : Nat} {F0 : KV} {Ls : List (List Chg)} (h : DS A g F0 Ls a) (hg : g < 60) (hp : Ls.length - a ≠ 0) {q : Bool} {e : Int} (hr : syncR A q (logN kvB g) = (e, A')) :
    (e ≠ 0 ∧ DS A' g F0 Ls a) ∨ (e = 0 ∧ DS A' g F0 Ls Ls.length) := by
  rcases sync_says hr with ⟨h1, rfl, _⟩ | ⟨h1, f, hf, rfl⟩
  · exact .inl ⟨h1, h⟩
  refine .inr ⟨h1, ?_⟩
  have hsn : logN kvB g ≠ snapN kvB := (kv_others g hg).1
  have hfr : ∀ k, g < k → k < 60 → logN kvB g ≠ logN kvB k := fun k hk hk2 e => by have := kv_apart g hg k hk2 e; omega
  have hne : Ls ≠ [] := fun e => by rw [e] at hp; exact hp (by simp)
  have hal := h.log.le
  have hget : ∀ t, getA (setA A (logN kvB g) ⟨f.content, [], false⟩) t = if logN kvB g = t then some ⟨f.content, [], false⟩ else getA A t := fun t => by
    rw [get_set]
    by_cases e : logN kvB g = t
    · rw [if_pos ⟨e, by rw [hf]; simp⟩, if_pos e]
    · rw [if_neg (fun h => e h.1), if_neg e]
  have h0 : f = jf (Ls.map recB) a Ls.length := by
    rcases h.log with ⟨_, _, h3⟩ | ⟨_, _, h3⟩
    · rw [hf] at h3
      cases h3
    · rw [hf] at h3
      injection h3
  refine ⟨h.snap.of ((hget _).trans (if_neg hsn)), .inr ⟨hne, Nat.le_refl _, ?_⟩, fun k hk hk2 => ?_⟩
  · have := jf_sync (Ls.map recB) a (by rw [List.length_map]; exact hal) (by simpa using hne)
    rw [List.length_map] at this
    rw [hget, if_pos rfl, h0, this]
  · rw [hget, if_neg (hfr k hk hk2)]
    exact h.free k hk hk2

/-- A checkpoint, with every outcome. -/
theorem ds_ckpt {A A' : Fs} {g a n n' g' : Nat} {F0 F : KV} {Ls : List (List Chg)} {ks : List Int} {e : Int} {P : List (ByteArray × List (BitVec 8))} (h : DS A g F0 Ls a) (hg : g < 59) (hP : PairsOk P) (hF : getP P = F) (hr : CkOut ks kvB g (laidB g P) A n e g' A' n') :
    (e ≠ 0 ∧ g' = g ∧ DS A' g F0 Ls a) ∨ (e = 0 ∧ g' = g + 1 ∧ DS A' (g + 1) F [] 0) := by
  generalize hb : laidB g P = b at hr
  have hsn : ∀ k, k < 60 → logN kvB k ≠ snapN kvB := fun k hk => (kv_others k hk).1
  have htm : ∀ k, k < 60 → logN kvB k ≠ tmpN kvB := fun k hk => (kv_others k hk).2
  have hst : snapN kvB ≠ tmpN kvB := kv_snap.2.2
  have hrun : ∀ k, k ≤ 4 → ∀ t, t ≠ tmpN kvB → getA (ckRun ks kvB b A n k).1 t = getA A t := by
    intro k
    induction k with
    | zero => intro _ t _; rfl
    | succ k ih =>
      intro hk t ht
      refine Eq.trans ?_ (ih (by omega) t ht)
      have hk4 : k = 0 ∨ k = 1 ∨ k = 2 ∨ k = 3 := by omega
      show getA (ckStep ks kvB b k _ _).2.1 t = _
      rcases hk4 with rfl | rfl | rfl | rfl
      · generalize (ckRun ks kvB b A n 0).1 = B, (ckRun ks kvB b A n 0).2 = m
        cases hg : getA B (tmpN kvB) with
        | none => simp only [ckStep, hg]
        | some f =>
          simp only [ckStep, hg]
          exact get_rem_far (Ne.symm ht)
      · rfl
      · exact get_app_far (Ne.symm ht)
      · exact get_sync_far (Ne.symm ht)
  rcases hr with ⟨k, hk, hz, he, hg', hs⟩ | ⟨hz, he, hg', hc⟩
  · refine .inl ⟨he, hg', h.tmp (by omega) fun t ht => ?_⟩
    by_cases hk4 : k = 4
    · subst hk4
      have hs : renR (ckRun ks kvB b A n 4).1 (refB ks (ckRun ks kvB b A n 4).2) (tmpN kvB) (snapN kvB) = (e, A') := by
        injection hs with h1 h2
        injection h2 with h2 h3
        rw [← h1, ← h2]
      rcases ren_says hs with ⟨_, rfl⟩ | ⟨h1, _⟩
      · exact hrun 4 (by omega) t ht
      · exact absurd h1 he
    · have := hrun (k + 1) (by omega) t ht
      rw [← this]
      show _ = getA (ckStep ks kvB b k (ckRun ks kvB b A n k).1 (ckRun ks kvB b A n k).2).2.1 t
      rw [hs]
  · refine .inr ⟨he, hg', ?_⟩
    have z0 := hz 0 (by omega)
    have z2 := hz 2 (by omega)
    have z3 := hz 3 (by omega)
    have z4 := hz 4 (by omega)
    have t1 : getA (ckRun ks kvB b A n 1).1 (tmpN kvB) = none := by
      show getA (ckStep ks kvB b 0 A n).2.1 (tmpN kvB) = none
      have z0 : (ckStep ks kvB b 0 A n).1 = 0 := z0
      cases hg : getA A (tmpN kvB) with
      | none =>
        simp only [ckStep, hg]
      | some f =>
        simp only [ckStep, hg] at z0 ⊢
        rcases rem_says (e := (remR A (refB ks n) (tmpN kvB)).1) (A' := (remR A (refB ks n) (tmpN kvB)).2) rfl with ⟨h1, _⟩ | ⟨_, h2⟩
        · exact absurd z0 h1
        · rw [h2, get_drop, if_pos rfl]
    have t2 : getA (ckRun ks kvB b A n 2).1 (tmpN kvB) = none := t1
    have t3 : getA (ckRun ks kvB b A n 3).1 (tmpN kvB) = some ⟨[], [.add b], true⟩ := by
      show getA (appR (ckRun ks kvB b A n 2).1 (refB ks (ckRun ks kvB b A n 2).2) (tmpN kvB) b).2 (tmpN kvB) = _
      have z2 : (appR (ckRun ks kvB b A n 2).1 (refB ks (ckRun ks kvB b A n 2).2) (tmpN kvB) b).1 = 0 := z2
      rcases app_says (e := (appR (ckRun ks kvB b A n 2).1 (refB ks (ckRun ks kvB b A n 2).2) (tmpN kvB) b).1) (A' := (appR (ckRun ks kvB b A n 2).1 (refB ks (ckRun ks kvB b A n 2).2) (tmpN kvB) b).2) rfl with ⟨h1, _⟩ | ⟨_, ⟨_, h2⟩ | ⟨f, h2, _⟩⟩
      · exact absurd z2 h1
      · rw [h2, get_append, t2]
        show (none : Option Dfile).or (if tmpN kvB = tmpN kvB then some _ else none) = _
        rw [if_pos rfl]
        rfl
      · rw [t2] at h2
        cases h2
    have t4 : getA (ckRun ks kvB b A n 4).1 (tmpN kvB) = some ⟨b, [], false⟩ := by
      show getA (syncR (ckRun ks kvB b A n 3).1 (refB ks (ckRun ks kvB b A n 3).2) (tmpN kvB)).2 (tmpN kvB) = _
      have z3 : (syncR (ckRun ks kvB b A n 3).1 (refB ks (ckRun ks kvB b A n 3).2) (tmpN kvB)).1 = 0 := z3
      rcases sync_says (e := (syncR (ckRun ks kvB b A n 3).1 (refB ks (ckRun ks kvB b A n 3).2) (tmpN kvB)).1) (A' := (syncR (ckRun ks kvB b A n 3).1 (refB ks (ckRun ks kvB b A n 3).2) (tmpN kvB)).2) rfl with ⟨h1, _⟩ | ⟨_, f, h2, h3⟩
      · exact absurd z3 h1
      · rw [t3] at h2
        injection h2 with h2
        rw [h3, get_set, if_pos ⟨rfl, by rw [t3]; simp⟩, ← h2]
        rfl
    have t5 : ∀ t, getA (ckRun ks kvB b A n 5).1 t = if snapN kvB = t then some ⟨b, [], false⟩ else if tmpN kvB = t then none else getA A t := fun t => by
      show getA (renR (ckRun ks kvB b A n 4).1 (refB ks (ckRun ks kvB b A n 4).2) (tmpN kvB) (snapN kvB)).2 t = _
      have z4 : (renR (ckRun ks kvB b A n 4).1 (refB ks (ckRun ks kvB b A n 4).2) (tmpN kvB) (snapN kvB)).1 = 0 := z4
      rcases ren_says (e := (renR (ckRun ks kvB b A n 4).1 (refB ks (ckRun ks kvB b A n 4).2) (tmpN kvB) (snapN kvB)).1) (A' := (renR (ckRun ks kvB b A n 4).1 (refB ks (ckRun ks kvB b A n 4).2) (tmpN kvB) (snapN kvB)).2) rfl with ⟨h1, _⟩ | ⟨_, f, h2, h3⟩
      · exact absurd z4 h1
      · rw [t4] at h2
        injection h2 with h2
        rw [h3, get_put, ← h2, get_drop]
        by_cases e1 : snapN kvB = t
        · rw [if_pos e1, if_pos e1]
        · rw [if_neg e1, if_neg e1]
          by_cases e2 : tmpN kvB = t
          · rw [if_pos e2, if_pos e2]
          · rw [if_neg e2, if_neg e2, hrun 4 (by omega) t (Ne.symm e2)]
    have t6 : ∀ t, logN kvB g ≠ t → getA A' t = if snapN kvB = t then some ⟨b, [], false⟩ else if tmpN kvB = t then none else getA A t := fun t ht => by
      refine Eq.trans ?_ (t5 t)
      unfold clrR at hc
      split at hc
      · rw [hc]
      · injection hc with hc1 hc2
        rw [← hc1]
        exact get_rem_far ht
    refine ⟨.inr ⟨g, P, rfl, ?_, hP, hF⟩, .inl ⟨rfl, rfl, ?_⟩, fun k hk hk2 => ?_⟩
    · rw [t6 _ (hsn g (by omega)), if_pos rfl, hb]
    · rw [t6 _ (fun e => by have := kv_apart g (by omega) (g + 1) (by omega) e; omega), if_neg (Ne.symm (hsn _ (by omega))), if_neg (Ne.symm (htm _ (by omega)))]
      exact h.free _ (by omega) (by omega)
    · rw [t6 _ (fun e => by have := kv_apart g (by omega) k hk2 e; omega), if_neg (Ne.symm (hsn _ (by omega))), if_neg (Ne.symm (htm _ (by omega)))]
      exact h.free _ (by omega) hk2

/-- The files behind a crash: the log's records, and what is torn. -/
structure CS (A : Fs) (g : Nat) (F0 : KV) (Ls : List (List Chg)) (torn : List (BitVec 8)) : Prop where
  snap : SnapAt A g F0
  log : (Ls = [] ∧ torn = [] ∧ getA A (logN kvB g) = none) ∨ ∃ f, getA A (logN kvB g) = some f ∧ f.content = (Ls.map recB).flatMap frameC ++ torn
  free : ∀ h, g < h → h < 60 → getA A (logN kvB h) = none
  torn : readC torn = some ([], 0) ∧ torn.length ≤ 3012
theorem SnapAt.crash {A : Fs} {g : Nat} {F0 : KV} (h : SnapAt A g F0) (hn : (A.map (·.1)).Nodup) (kp : List Kp) : SnapAt (crashF kp A) g F0 := by
  refine h.of ?_
  rw [get_crash kp A hn]
  rcases h with ⟨_, h, _⟩ | ⟨g0, P, _, h, _⟩
  · rw [h]
    rfl
  · rw [h]
    obtain ⟨h1, h2⟩ := crash_safe (laidB g0 P) (keepOf kp (snapN kvB)).1 (keepOf kp (snapN kvB)).2
    rw [Option.bind_some, if_pos h2, h1]
theorem ds_crash {A : Fs} {g a : Nat} {F0 : KV} {Ls : List (List Chg)} (h : DS A g F0 Ls a) (hn : (A.map (·.1)).Nodup) (hR : RecsOk (Ls.map recB)) (kp : List Kp) :
    ∃ m torn, a ≤ m ∧ m ≤ Ls.length ∧ CS (crashF kp A) g F0 (Ls.take m) torn := by
  have hfree : ∀ k, g < k → k < 60 → getA (crashF kp A) (logN kvB k) = none := fun k hk hk2 => by
    rw [get_crash kp A hn, h.free k hk hk2]
    rfl
  rcases h.log with ⟨rfl, rfl, h3⟩ | ⟨hne, hal, h3⟩
  · refine ⟨0, [], Nat.le_refl _, Nat.le_refl _, h.snap.crash hn kp, .inl ⟨rfl, rfl, ?_⟩, hfree, readC_nil, by simp⟩
    rw [get_crash kp A hn, h3]
    rfl
  · have hlen : (Ls.map recB).length = Ls.length := List.length_map _
    obtain ⟨x, hx⟩ : ∃ x, (keepOf kp (logN kvB g)).1 = x := ⟨_, rfl⟩
    obtain ⟨y, hy⟩ : ∃ y, (keepOf kp (logN kvB g)).2 = y := ⟨_, rfl⟩
    have hget : getA (crashF kp A) (logN kvB g) = if crashB (jf (Ls.map recB) a Ls.length) x y = true then some ⟨crashS (jf (Ls.map recB) a Ls.length) x y, [], false⟩ else none := by
      rw [get_crash kp A hn, h3, Option.bind_some, hx, hy]
    by_cases hb : crashB (jf (Ls.map recB) a Ls.length) x y = true
    · rw [if_pos hb] at hget
      obtain ⟨m, torn, h1, h2, h4, h5⟩ := jf_crash (Ls.map recB) a (by omega) x y
      rw [hlen] at h4 h2
      refine ⟨m, torn, h1, h2, h.snap.crash hn kp, .inr ⟨_, hget, ?_⟩, hfree, torn_read hR h5⟩
      show crashS _ x y = _
      rw [h4, List.map_take]
    · rw [if_neg hb] at hget
      have ha : a = 0 := by
        refine Classical.byContradiction fun h0 => hb ?_
        unfold crashB jf
        rw [decide_eq_false h0]
        rfl
      exact ⟨0, [], by omega, by omega, h.snap.crash hn kp, .inl ⟨List.take_zero, rfl, hget⟩, hfree, readC_nil, by simp⟩
theorem ds_crash_nil {A : Fs} {g a : Nat} {F0 : KV} {Ls : List (List Chg)} (h : DS A g F0 Ls a) (hn : (A.map (·.1)).Nodup) : CS (crashF [] A) g F0 (Ls.take a) [] := by
  have hfree : ∀ k, g < k → k < 60 → getA (crashF [] A) (logN kvB k) = none := fun k hk hk2 => by
    rw [get_crash [] A hn, h.free k hk hk2]
    rfl
  rcases h.log with ⟨rfl, rfl, h3⟩ | ⟨hne, hal, h3⟩
  · refine ⟨h.snap.crash hn [], .inl ⟨rfl, rfl, ?_⟩, hfree, readC_nil, by simp⟩
    rw [get_crash [] A hn, h3]
    rfl
  · have hget : getA (crashF [] A) (logN kvB g) = if decide (a = 0) = false then some ⟨((Ls.map recB).take a).flatMap frameC, [], false⟩ else none := by
      rw [get_crash [] A hn, h3, Option.bind_some]
      obtain ⟨h1, h2⟩ := crash_none (jf (Ls.map recB) a Ls.length)
      show (if crashB (jf (Ls.map recB) a Ls.length) 0 0 = true then some (⟨crashS (jf (Ls.map recB) a Ls.length) 0 0, [], false⟩ : Dfile) else none) = _
      rw [h1, h2]
      show (if (!decide (a = 0)) = true then _ else _) = _
      by_cases h0 : a = 0
      · rw [decide_eq_true h0, if_neg (by decide), if_neg (by decide)]
      · rw [decide_eq_false h0, if_pos (by decide), if_pos rfl]
        rfl
    by_cases h0 : a = 0
    · rw [decide_eq_true h0, if_neg (by decide)] at hget
      exact ⟨h.snap.crash hn [], .inl ⟨by rw [h0, List.take_zero], rfl, hget⟩, hfree, readC_nil, by simp⟩
    · rw [decide_eq_false h0, if_pos rfl] at hget
      refine ⟨h.snap.crash hn [], .inr ⟨_, hget, ?_⟩, hfree, readC_nil, by simp⟩
      rw [List.map_take, List.append_nil]
      rfl

/-- A batch's bounds. -/
def okL (L : List Chg) : Prop := wrongE L = 0 ∧ L.length ≤ 10 ∧ ∀ c ∈ L, c.key.size + c.val.length ≤ 200
theorem recL_bound : ∀ L : List Chg, (∀ c ∈ L, c.key.size + c.val.length ≤ 200) → ((recL L).map fun f => 4 + f.length).sum ≤ L.length * 213
  | [], _ => by simp [recL]
  | c :: L, h => by
    have ih := recL_bound L fun x hx => h x (List.mem_cons_of_mem _ hx)
    have hc := h c List.mem_cons_self
    have e : recL (c :: L) = recF c ++ recL L := rfl
    have e2 : ((recF c).map fun f => 4 + f.length).sum = 13 + c.key.size + c.val.length := by
      unfold recF
      simp [bytesB_length]
      omega
    rw [e, List.map_append, List.sum_append, e2, List.length_cons]
    omega
theorem okL.rec {L : List Chg} (h : okL L) : (recB L).length ≤ 3000 ∧ sizeF (recL L) ≤ 3000 := by
  have h1 := recL_bound L h.2.2
  have h2 := h.2.1
  have h3 : sizeF (recL L) ≤ 3000 := by
    unfold sizeF
    omega
  refine ⟨?_, h3⟩
  unfold recB
  rw [fieldsB_length]
  exact h3
theorem recs_ok {Ls : List (List Chg)} (h : ∀ L ∈ Ls, okL L) (hl : Ls.length ≤ 40) : RecsOk (Ls.map recB) := ⟨by rw [List.length_map]; exact hl, fun x hx => by
  obtain ⟨L, hL, rfl⟩ := List.mem_map.1 hx
  exact (h L hL).rec.1⟩
/-- What stands at keys, within bounds. -/
def okF (F : KV) : Prop := ∀ k b, F k = some b → 1 ≤ k.size ∧ k.size ≤ 128 ∧ k.size + b.length ≤ 200
theorem okF_apply : ∀ {L : List Chg} {F : KV}, okF F → (∀ c ∈ L, chgE c = 0 ∧ c.key.size + c.val.length ≤ 200) → okF (applyB F L)
  | [], F, h, _ => h
  | c :: L, F, h, hL => by
    refine okF_apply (F := applyC F c) (fun k b e => ?_) fun x hx => hL x (List.mem_cons_of_mem _ hx)
    have hc := hL c List.mem_cons_self
    have hz := chgE_zero hc.1
    unfold applyC at e
    split at e
    · rename_i hk
      subst hk
      split at e
      · cases e
      · injection e with e
        subst e
        exact ⟨hz.1, hz.2.1, hc.2⟩
    · exact h k b e
theorem okF.batch {F : KV} (h : okF F) {L : List Chg} (hL : okL L) : okF (applyB F L) := okF_apply h fun c hc => ⟨(wrongE_zero hL.1).2 c hc, hL.2.2 c hc⟩
theorem okF_zero : okF kv0 := fun k b e => by cases e

/-- Pairs give back what stands at each key. -/
theorem fold_no : ∀ (P : List (ByteArray × List (BitVec 8))) (F : KV) (k : ByteArray), (∀ p ∈ P, p.1 ≠ k) → P.foldl setP F k = F k
  | [], _, _, _ => rfl
  | p :: P, F, k, h => by
    rw [List.foldl_cons, fold_no P _ k fun x hx => h x (List.mem_cons_of_mem _ hx)]
    exact if_neg fun e => h p List.mem_cons_self e.symm
theorem fold_yes : ∀ (P : List (ByteArray × List (BitVec 8))) (F : KV) (k : ByteArray) (b : List (BitVec 8)), P.Pairwise (fun x y => x.1 ≠ y.1) → (k, b) ∈ P → P.foldl setP F k = some b
  | p :: P, F, k, b, hp, h => by
    rw [List.pairwise_cons] at hp
    rw [List.foldl_cons]
    rcases List.mem_cons.1 h with rfl | h
    · rw [fold_no P _ k fun x hx e => hp.1 x hx e.symm]
      exact if_pos rfl
    · exact fold_yes P _ k b hp.2 h
theorem asc_apart {P : List (ByteArray × List (BitVec 8))} (h : AscP P) : P.Pairwise fun x y => x.1 ≠ y.1 := h.imp fun h e => by
  rw [e] at h
  exact absurd h (List.lt_irrefl _)
theorem getP_pairs {M : List Ent} (hn : (M.map (·.1)).Nodup) : getP (pairsOf M) = getM M := by
  funext k
  unfold getP
  have hmem : ∀ s, s ∈ keysOf M ↔ s ∈ M.map (fun x : Ent => x.1.data.toList) := fun s => by
    unfold keysOf
    exact List.mem_mergeSort
  cases hg : getM M k with
  | none =>
    rw [fold_no]
    intro p hp e
    obtain ⟨s, hs, rfl⟩ := List.mem_map.1 hp
    obtain ⟨x, hx, rfl⟩ := List.mem_map.1 ((hmem s).1 hs)
    have e : arrB x.1.data.toList = k := e
    rw [arrB_of] at e
    exact getM_some (List.mem_map_of_mem (f := fun x : Ent => x.1) hx) ((congrArg (getM M) e).trans hg)
  | some b =>
    refine fold_yes _ _ k b (asc_apart (pairsOf_asc hn)) ?_
    obtain ⟨x, hx, rfl⟩ := List.mem_map.1 (getM_key (M := M) (k := k) (by rw [hg]; simp))
    refine List.mem_map.2 ⟨x.1.data.toList, (hmem _).2 (List.mem_map_of_mem (f := fun x : Ent => x.1.data.toList) hx), ?_⟩
    rw [arrB_of, hg]
    rfl
theorem getM_at : ∀ {M : List Ent}, (M.map (·.1)).Nodup → ∀ x ∈ M, getM M x.1 = some x.2.2
  | y :: M, hn, x, hx => by
    rw [List.map_cons, List.nodup_cons] at hn
    rw [getM_cons]
    rcases List.mem_cons.1 hx with rfl | hx
    · exact if_pos rfl
    · rw [if_neg (fun e : y.1 = x.1 => hn.1 (e ▸ List.mem_map_of_mem (f := fun x : Ent => x.1) hx))]
      exact getM_at hn.2 x hx
theorem ents_ok {M : List Ent} {F : KV} (hn : (M.map (·.1)).Nodup) (hF : ∀ k, getM M k = F k) (h : okF F) : ∀ x ∈ M, 1 ≤ x.1.size ∧ x.1.size ≤ 128 ∧ x.1.size + x.2.2.length ≤ 200 := fun x hx => h x.1 x.2.2 ((hF x.1).symm.trans (getM_at hn x hx))
theorem pairs_ok {M : List Ent} {F : KV} (hn : (M.map (·.1)).Nodup) (hF : ∀ k, getM M k = F k) (h : okF F) (hl : M.length ≤ 1000) : PairsOk (pairsOf M) ∧ getP (pairsOf M) = F := by
  have hg := getP_pairs hn
  refine ⟨⟨pairsOf_asc hn, by rw [pairsOf_len]; exact hl, fun p hp => ?_⟩, hg.trans (funext hF)⟩
  have := fold_yes (pairsOf M) (fun _ => none) p.1 p.2 (asc_apart (pairsOf_asc hn)) hp
  have := h p.1 p.2 (by rw [← hF, ← hg]; exact this)
  omega

end Go.Proofs.YtmmlpbepaefamaaGreatDoor
