/- The files of a disk, plainly. -/
import Derived.Test.YtmmlpbepaefamaaGreatDoorKDX2
namespace Go.Proofs.YtmmlpbepaefamaaGreatDoor
open Go.RowKit Go.MapKept

theorem getA_cons (x : ByteArray × Dfile) (A : Fs) (s : ByteArray) : getA (x :: A) s = if x.1 = s then some x.2 else getA A s := rfl
theorem setA_cons (x : ByteArray × Dfile) (A : Fs) (s : ByteArray) (f : Dfile) : setA (x :: A) s f = if x.1 = s then (x.1, f) :: A else x :: setA A s f := rfl
theorem setA_map : ∀ (A : Fs) (s : ByteArray) (f : Dfile), (setA A s f).map (·.1) = A.map (·.1)
  | [], _, _ => rfl
  | x :: A, s, f => by
    rw [setA_cons]
    split
    · rfl
    · rw [List.map_cons, setA_map A s f, List.map_cons]
theorem get_set : ∀ (A : Fs) (s : ByteArray) (f : Dfile) (t : ByteArray), getA (setA A s f) t = if s = t ∧ getA A s ≠ none then some f else getA A t
  | [], s, f, t => by
    rw [if_neg (fun e => e.2 rfl)]
    rfl
  | x :: A, s, f, t => by
    have ih := get_set A s f t
    rw [setA_cons, getA_cons x A s, getA_cons x A t]
    by_cases e : x.1 = s
    · rw [if_pos e, if_pos e, getA_cons]
      by_cases e2 : x.1 = t
      · rw [if_pos e2, if_pos ⟨e.symm.trans e2, by simp⟩]
      · rw [if_neg e2, if_neg (fun h => e2 (e.trans h.1)), if_neg e2]
    · rw [if_neg e, if_neg e, getA_cons]
      by_cases e2 : x.1 = t
      · rw [if_pos e2, if_pos e2, if_neg (fun h => e (e2.trans h.1.symm))]
      · rw [if_neg e2, if_neg e2, ih]
theorem get_drop : ∀ (A : Fs) (s t : ByteArray), getA (dropA A s) t = if s = t then none else getA A t
  | [], s, t => by split <;> rfl
  | x :: A, s, t => by
    have ih := get_drop A s t
    unfold dropA at ih ⊢
    by_cases e : x.1 = s
    · rw [List.filter_cons_of_neg (by simp [e]), ih, getA_cons]
      by_cases e2 : s = t
      · rw [if_pos e2, if_pos e2]
      · rw [if_neg e2, if_neg e2, if_neg (fun h => e2 (e.symm.trans h))]
    · rw [List.filter_cons_of_pos (by simp [e]), getA_cons, getA_cons, ih]
      by_cases e2 : x.1 = t
      · rw [if_pos e2, if_pos e2, if_neg (fun h => e (e2.trans h.symm))]
      · rw [if_neg e2, if_neg e2]
theorem get_append : ∀ (A B : Fs) (t : ByteArray), getA (A ++ B) t = (getA A t).or (getA B t)
  | [], _, _ => rfl
  | x :: A, B, t => by
    rw [List.cons_append, getA_cons, getA_cons, get_append A B t]
    split <;> rfl
theorem get_over : ∀ (A : Fs) (s : ByteArray) (f : Dfile) (t : ByteArray), getA (A.map fun x => if x.1 = s then (s, f) else x) t = if s = t ∧ getA A s ≠ none then some f else getA A t
  | [], s, f, t => by
    rw [if_neg (fun e => e.2 rfl)]
    rfl
  | x :: A, s, f, t => by
    have ih := get_over A s f t
    rw [List.map_cons, getA_cons, getA_cons x A s, getA_cons x A t, ih]
    by_cases e : x.1 = s
    · rw [if_pos e, if_pos e]
      show (if s = t then some f else _) = _
      by_cases e2 : s = t
      · rw [if_pos e2, if_pos ⟨e2, by simp⟩]
      · rw [if_neg e2, if_neg (fun h => e2 h.1), if_neg (fun h => e2 h.1), if_neg (fun h => e2 (e.symm.trans h))]
    · rw [if_neg e, if_neg e]
      by_cases e2 : x.1 = t
      · rw [if_pos e2, if_pos e2, if_neg (fun h => e (e2.trans h.1.symm))]
      · rw [if_neg e2, if_neg e2]
theorem get_put (A : Fs) (s : ByteArray) (f : Dfile) (t : ByteArray) : getA (putA A s f) t = if s = t then some f else getA A t := by
  unfold putA
  by_cases h : getA A s = none
  · rw [if_pos h, get_append]
    show (getA A t).or (if s = t then some f else none) = _
    by_cases e : s = t
    · subst e
      rw [if_pos rfl, if_pos rfl, h]
      rfl
    · rw [if_neg e, if_neg e, Option.or_none]
  · rw [if_neg h, get_over]
    by_cases e : s = t
    · rw [if_pos ⟨e, h⟩, if_pos e]
    · rw [if_neg (fun k => e k.1), if_neg e]
theorem crashF_sub (ks : List Kp) : ∀ A : Fs, ((crashF ks A).map (·.1)).Sublist (A.map (·.1))
  | [] => List.Sublist.refl _
  | x :: A => by
    have ih := crashF_sub ks A
    unfold crashF
    split
    · exact ih.cons_cons _
    · exact ih.cons _
theorem getA_no : ∀ {A : Fs} {s : ByteArray}, (∀ x ∈ A, x.1 ≠ s) → getA A s = none
  | [], _, _ => rfl
  | y :: A, s, h => by
    rw [getA_cons, if_neg (h y List.mem_cons_self)]
    exact getA_no fun x hx => h x (List.mem_cons_of_mem _ hx)
theorem get_crash (ks : List Kp) : ∀ (A : Fs), (A.map (·.1)).Nodup → ∀ t, getA (crashF ks A) t = (getA A t).bind fun f => if crashB f (keepOf ks t).1 (keepOf ks t).2 = true then some ⟨crashS f (keepOf ks t).1 (keepOf ks t).2, [], false⟩ else none
  | [], _, _ => rfl
  | x :: A, hn, t => by
    rw [List.map_cons, List.nodup_cons] at hn
    have ih := get_crash ks A hn.2 t
    rw [getA_cons]
    unfold crashF
    rw [get_append, ih]
    by_cases e : x.1 = t
    · rw [if_pos e]
      have h0 : getA A t = none := getA_no fun y hy h => hn.1 (by rw [e, ← h]; exact List.mem_map_of_mem hy)
      rw [h0]
      subst e
      by_cases hb : crashB x.2 (keepOf ks x.1).1 (keepOf ks x.1).2 = true
      · rw [if_pos hb, getA_cons, if_pos rfl]
        simp [hb]
      · rw [if_neg hb]
        simp [hb, getA]
    · rw [if_neg e]
      split
      · rw [getA_cons, if_neg e]
        rfl
      · rfl

/-- Bounds: at most k files, of at most k operations, with short names, each once. -/
structure okS (k : Nat) (A : Fs) : Prop where
  len : A.length ≤ k
  nod : (A.map (·.1)).Nodup
  all : ∀ x ∈ A, x.2.ops.length ≤ k ∧ x.1.size ≤ 1000
theorem okS.ok {k : Nat} {A : Fs} (h : okS k A) (hk : k ≤ 1000) : okA A := ⟨Nat.le_trans h.len hk, fun x hx => by
  have := h.all x hx
  exact ⟨by omega, this.2⟩⟩
theorem okS.more {k : Nat} {A : Fs} (h : okS k A) : okS (k + 1) A := ⟨Nat.le_succ_of_le h.len, h.nod, fun x hx => ⟨Nat.le_succ_of_le (h.all x hx).1, (h.all x hx).2⟩⟩
theorem okS.le {k k' : Nat} {A : Fs} (h : okS k A) (hk : k ≤ k') : okS k' A := ⟨Nat.le_trans h.len hk, h.nod, fun x hx => ⟨Nat.le_trans (h.all x hx).1 hk, (h.all x hx).2⟩⟩
theorem okS.nil : okS 0 [] := ⟨Nat.le_refl _, List.nodup_nil, fun x hx => by cases hx⟩
theorem mem_set : ∀ {A : Fs} {s : ByteArray} {f : Dfile} {x : ByteArray × Dfile}, x ∈ setA A s f → x ∈ A ∨ (x = (s, f) ∧ ∃ f0, (s, f0) ∈ A)
  | y :: A, s, f, x, h => by
    rw [setA_cons] at h
    split at h
    · rename_i e
      rcases List.mem_cons.1 h with rfl | h
      · exact .inr ⟨by rw [← e], y.2, by rw [← e]; exact List.mem_cons_self⟩
      · exact .inl (List.mem_cons_of_mem _ h)
    · rcases List.mem_cons.1 h with rfl | h
      · exact .inl List.mem_cons_self
      · rcases mem_set h with h | ⟨h1, f0, h2⟩
        · exact .inl (List.mem_cons_of_mem _ h)
        · exact .inr ⟨h1, f0, List.mem_cons_of_mem _ h2⟩
theorem okS.set {k : Nat} {A : Fs} (h : okS k A) {s : ByteArray} {f : Dfile} (hf : f.ops.length ≤ k + 1) : okS (k + 1) (setA A s f) := by
  refine ⟨?_, by rw [setA_map]; exact h.nod, fun x hx => ?_⟩
  · have := congrArg List.length (setA_map A s f)
    rw [List.length_map, List.length_map] at this
    rw [this]
    exact Nat.le_succ_of_le h.len
  · rcases mem_set hx with hx | ⟨rfl, f0, h0⟩
    · exact h.more.all x hx
    · exact ⟨hf, (h.all _ h0).2⟩
theorem okS.drop {k : Nat} {A : Fs} (h : okS k A) (s : ByteArray) : okS k (dropA A s) := ⟨Nat.le_trans (List.length_filter_le _ _) h.len, h.nod.sublist (List.filter_sublist.map _), fun x hx => h.all x (List.mem_filter.1 hx).1⟩
theorem nodup_add {A : Fs} (h : (A.map (·.1)).Nodup) {s : ByteArray} (hg : getA A s = none) (f : Dfile) : ((A ++ [(s, f)]).map (·.1)).Nodup := by
  rw [List.map_append, List.nodup_append]
  refine ⟨h, by simp, fun a ha b hb => ?_⟩
  obtain rfl : b = s := by simpa using hb
  rintro rfl
  obtain ⟨x, hx, rfl⟩ := List.mem_map.1 ha
  have : ∀ {A : Fs}, x ∈ A → getA A x.1 ≠ none := fun {A} => by
    induction A with
    | nil => intro h; cases h
    | cons y A ih =>
      intro h
      rw [getA_cons]
      split
      · exact fun e => by cases e
      · rename_i e
        rcases List.mem_cons.1 h with rfl | h
        · exact absurd rfl e
        · exact ih h
  exact this hx hg
theorem okS.add {k : Nat} {A : Fs} (h : okS k A) {s : ByteArray} (hg : getA A s = none) {f : Dfile} (hf : f.ops.length ≤ k + 1) (hs : s.size ≤ 1000) : okS (k + 1) (A ++ [(s, f)]) :=
  ⟨by rw [List.length_append]; exact Nat.add_le_add_right h.len 1, nodup_add h.nod hg f, fun x hx => by
    rcases List.mem_append.1 hx with hx | hx
    · exact h.more.all x hx
    · obtain rfl : x = (s, f) := by simpa using hx
      exact ⟨hf, hs⟩⟩
theorem okS.put {k : Nat} {A : Fs} (h : okS k A) {s : ByteArray} {f : Dfile} (hs : s.size ≤ 1000) (hf : f.ops.length ≤ k + 1) : okS (k + 1) (putA A s f) := by
  unfold putA
  split
  · rename_i hg
    exact h.add hg hf hs
  · refine ⟨by rw [List.length_map]; exact Nat.le_succ_of_le h.len, ?_, fun x hx => ?_⟩
    · rw [List.map_map]
      have : (A.map ((fun x : ByteArray × Dfile => x.1) ∘ fun x => if x.1 = s then (s, f) else x)) = A.map (·.1) := List.map_congr_left fun x _ => by
        show (if x.1 = s then (s, f) else x).1 = x.1
        split
        · rename_i e
          exact e.symm
        · rfl
      rw [this]
      exact h.nod
    · obtain ⟨y, hy, rfl⟩ := List.mem_map.1 hx
      split
      · exact ⟨hf, hs⟩
      · exact h.more.all y hy
theorem nameN_size {s : ByteArray} (h : nameN s = true) : s.size ≤ 64 := by
  unfold nameN at h
  simp only [Bool.and_eq_true, decide_eq_true_iff] at h
  exact h.2.2
theorem okS.get {k : Nat} {A : Fs} (h : okS k A) {s : ByteArray} {f : Dfile} (hg : getA A s = some f) : f.ops.length ≤ k := (h.all _ (getA_mem hg)).1
theorem okS.app {k : Nat} {A : Fs} (h : okS k A) (q : Bool) (s : ByteArray) (b : List (BitVec 8)) : okS (k + 1) (appR A q s b).2 := by
  unfold appR
  split
  · exact h.more
  split
  · exact h.more
  rename_i hn
  have hn : nameN s = true := by simpa using hn
  cases hg : getA A s with
  | none =>
    simp only []
    split
    · exact h.more
    split
    · exact h.more
    exact h.add hg (by simp) (by have := nameN_size hn; omega)
  | some f =>
    simp only []
    split
    · exact h.more
    exact h.set (by have := h.get hg; simp; omega)
theorem okS.cut {k : Nat} {A : Fs} (h : okS k A) (q : Bool) (s : ByteArray) (c : Int) : okS (k + 1) (cutR A q s c).2 := by
  unfold cutR
  split
  · exact h.more
  cases hg : getA A s with
  | none => exact h.more
  | some f =>
    simp only []
    split
    · exact h.more
    exact h.set (by have := h.get hg; simp; omega)
theorem okS.sync {k : Nat} {A : Fs} (h : okS k A) (q : Bool) (s : ByteArray) : okS (k + 1) (syncR A q s).2 := by
  unfold syncR
  split
  · exact h.more
  cases hg : getA A s with
  | none => exact h.more
  | some f => exact h.set (by simp)
theorem okS.ren {k : Nat} {A : Fs} (h : okS k A) (q : Bool) (s t : ByteArray) : okS (k + 1) (renR A q s t).2 := by
  unfold renR
  split
  · exact h.more
  split
  · exact h.more
  rename_i hn
  have hn : nameN t = true := by simpa using hn
  cases hg : getA A s with
  | none => exact h.more
  | some f =>
    simp only []
    split
    · exact h.more
    exact (h.drop s).put (by have := nameN_size hn; omega) (by have := h.get hg; omega)
theorem okS.rem {k : Nat} {A : Fs} (h : okS k A) (q : Bool) (s : ByteArray) : okS (k + 1) (remR A q s).2 := by
  unfold remR
  split
  · exact h.more
  cases hg : getA A s with
  | none => exact h.more
  | some f => exact (h.drop s).more
theorem crash_mem {ks : List Kp} : ∀ {A : Fs} {x : ByteArray × Dfile}, x ∈ crashF ks A → x.2.ops = [] ∧ ∃ f, (x.1, f) ∈ A
  | y :: A, x, h => by
    unfold crashF at h
    rcases List.mem_append.1 h with h | h
    · split at h
      · obtain rfl : x = _ := by simpa using h
        exact ⟨rfl, y.2, List.mem_cons_self⟩
      · cases h
    · obtain ⟨h1, f, h2⟩ := crash_mem h
      exact ⟨h1, f, List.mem_cons_of_mem _ h2⟩
theorem okS.crash {k : Nat} {A : Fs} (h : okS k A) (ks : List Kp) : okS k (crashF ks A) := by
  have hs := crashF_sub ks A
  refine ⟨?_, h.nod.sublist hs, fun x hx => ?_⟩
  · have := hs.length_le
    rw [List.length_map, List.length_map] at this
    exact Nat.le_trans this h.len
  · obtain ⟨h1, f, h2⟩ := crash_mem hx
    exact ⟨by rw [h1]; exact Nat.zero_le _, (h.all _ h2).2⟩

end Go.Proofs.YtmmlpbepaefamaaGreatDoor
