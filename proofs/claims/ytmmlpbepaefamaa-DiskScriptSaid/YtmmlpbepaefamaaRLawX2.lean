/- The disk and the document's disk answer alike: plain laws about lists of files by name. -/
import Derived.Test.YtmmlpbepaefamaaDSpo
import Derived.Test.YtmmlpbepaefamaaRD11
namespace Go.Proofs.Ytmmlpbepaefamaa
open Go.RowKit Go.MapKept Go.Maps Go.Sort Go.Shelf

def keyN (a : ByteArray) : List UInt8 := a.data.toList
theorem keyN_inj {a b : ByteArray} (h : keyN a = keyN b) : a = b := nm_eq (by rw [Lib.toList_data, Lib.toList_data]; exact h)
theorem ltN_iff (a b : ByteArray) : ltN a b = true ↔ keyN a < keyN b := by
  unfold ltN keyN
  rw [bytesLess_eq, Lib.toList_data, Lib.toList_data, decide_eq_true_iff]
theorem key_trans {a b c : List UInt8} (h : a < b) (k : b < c) : a < c := List.lt_trans h k
theorem key_irr (a : List UInt8) : ¬ a < a := List.lt_irrefl a
theorem key_tri {a b : List UInt8} (h : ¬ a < b) (hn : a ≠ b) : b < a := Classical.byContradiction fun k => hn (List.le_antisymm k h)
/-- Ascending names. -/
def Asc (R : Fs) : Prop := R.Pairwise fun x y => keyN x.1 < keyN y.1
theorem getA_none : ∀ {A : Fs} {s : ByteArray}, getA A s = none → ∀ x ∈ A, x.1 ≠ s
  | y :: A, s, h, x, hx => by
    rw [getA_cons] at h
    by_cases e : y.1 = s
    · rw [if_pos e] at h
      cases h
    rw [if_neg e] at h
    rcases List.mem_cons.1 hx with rfl | hx
    · exact e
    · exact getA_none h x hx
theorem getA_no : ∀ {A : Fs} {s : ByteArray}, (∀ x ∈ A, x.1 ≠ s) → getA A s = none
  | [], _, _ => rfl
  | y :: A, s, h => by
    rw [getA_cons, if_neg (h y List.mem_cons_self)]
    exact getA_no fun x hx => h x (List.mem_cons_of_mem _ hx)
theorem Asc.nodup {R : Fs} (h : Asc R) : (R.map (·.1)).Nodup := by
  unfold List.Nodup
  rw [List.pairwise_map]
  refine h.imp ?_
  intro a b k e
  rw [e] at k
  exact key_irr _ k
theorem insF_mem (x : ByteArray × Dfile) : ∀ (R : Fs) (z : ByteArray × Dfile), z ∈ insF x R → z = x ∨ z ∈ R
  | [], z, h => .inl (by simpa [insF] using h)
  | y :: R, z, h => by
    unfold insF at h
    split at h
    · exact List.mem_cons.1 h
    · rcases List.mem_cons.1 h with h | h
      · exact .inr (h ▸ List.mem_cons_self)
      · exact (insF_mem x R z h).imp id (List.mem_cons_of_mem _)
theorem insF_len (x : ByteArray × Dfile) : ∀ R : Fs, (insF x R).length = R.length + 1
  | [] => rfl
  | y :: R => by
    unfold insF
    split
    · rfl
    · rw [List.length_cons, insF_len x R, List.length_cons]
theorem Asc.ins {x : ByteArray × Dfile} : ∀ {R : Fs}, Asc R → getA R x.1 = none → Asc (insF x R)
  | [], _, _ => List.pairwise_singleton _ _
  | y :: R, h, hg => by
    have hn := getA_none hg
    obtain ⟨h1, h2⟩ := List.pairwise_cons.1 h
    unfold insF
    split
    · rename_i hlt
      have hlt := (ltN_iff _ _).1 hlt
      exact List.pairwise_cons.2 ⟨fun z hz => by
        rcases List.mem_cons.1 hz with rfl | hz
        · exact hlt
        · exact key_trans hlt (h1 z hz), h⟩
    · rename_i hlt
      refine List.pairwise_cons.2 ⟨fun z hz => ?_, Asc.ins h2 (getA_no fun z hz => hn z (List.mem_cons_of_mem _ hz))⟩
      rcases insF_mem x R z hz with rfl | hz
      · exact key_tri (fun k => hlt ((ltN_iff _ _).2 k)) (fun e => hn y List.mem_cons_self (keyN_inj e).symm)
      · exact h1 z hz
theorem setA_map : ∀ (A : Fs) (s : ByteArray) (f : Dfile), (setA A s f).map (·.1) = A.map (·.1)
  | [], _, _ => rfl
  | x :: A, s, f => by
    rw [setA_cons]
    split
    · rfl
    · rw [List.map_cons, setA_map A s f, List.map_cons]
theorem asc_map {R : Fs} : Asc R ↔ (R.map (·.1)).Pairwise fun a b => keyN a < keyN b := by
  unfold Asc
  rw [List.pairwise_map]
theorem Asc.set {R : Fs} (h : Asc R) (s : ByteArray) (f : Dfile) : Asc (setA R s f) := by
  rw [asc_map, setA_map]
  exact asc_map.1 h
theorem Asc.drop {R : Fs} (h : Asc R) (s : ByteArray) : Asc (dropA R s) := h.sublist List.filter_sublist
theorem crashF_sub (ks : List Kp) : ∀ A : Fs, ((crashF ks A).map (·.1)).Sublist (A.map (·.1))
  | [] => List.Sublist.refl _
  | x :: A => by
    have ih := crashF_sub ks A
    unfold crashF
    split
    · exact ih.cons_cons _
    · exact ih.cons _
theorem Asc.crash {R : Fs} (h : Asc R) (ks : List Kp) : Asc (crashF ks R) := asc_map.2 ((asc_map.1 h).sublist (crashF_sub ks R))

theorem get_set : ∀ (A : Fs) (s : ByteArray) (f : Dfile) (t : ByteArray), getA (setA A s f) t = if s = t ∧ getA A s ≠ none then some f else getA A t
  | [], s, f, t => by
    rw [if_neg (fun e => e.2 rfl)]
    rfl
  | x :: A, s, f, t => by
    have ih := get_set A s f t
    rw [setA_cons, getA_cons x A s, getA_cons x A t]
    by_cases e : x.1 = s
    · rw [if_pos e, if_pos e, getA_cons]
      by_cases e2 : x.1 = t
      · rw [if_pos e2, if_pos ⟨e.symm.trans e2, by simp⟩]
      · rw [if_neg e2, if_neg (fun h => e2 (e.trans h.1)), if_neg e2]
    · rw [if_neg e, if_neg e, getA_cons]
      by_cases e2 : x.1 = t
      · rw [if_pos e2, if_pos e2, if_neg (fun h => e (e2.trans h.1.symm))]
      · rw [if_neg e2, if_neg e2, ih]
theorem get_drop : ∀ (A : Fs) (s t : ByteArray), getA (dropA A s) t = if s = t then none else getA A t
  | [], s, t => by split <;> rfl
  | x :: A, s, t => by
    have ih := get_drop A s t
    unfold dropA at ih ⊢
    by_cases e : x.1 = s
    · rw [List.filter_cons_of_neg (by simp [e]), ih, getA_cons]
      by_cases e2 : s = t
      · rw [if_pos e2, if_pos e2]
      · rw [if_neg e2, if_neg e2, if_neg (fun h => e2 (e.symm.trans h))]
    · rw [List.filter_cons_of_pos (by simp [e]), getA_cons, getA_cons, ih]
      by_cases e2 : x.1 = t
      · rw [if_pos e2, if_pos e2, if_neg (fun h => e (e2.trans h.symm))]
      · rw [if_neg e2, if_neg e2]
theorem get_append : ∀ (A B : Fs) (t : ByteArray), getA (A ++ B) t = (getA A t).or (getA B t)
  | [], _, _ => rfl
  | x :: A, B, t => by
    rw [List.cons_append, getA_cons, getA_cons, get_append A B t]
    split <;> rfl
theorem get_over : ∀ (A : Fs) (s : ByteArray) (f : Dfile) (t : ByteArray), getA (A.map fun x => if x.1 = s then (s, f) else x) t = if s = t ∧ getA A s ≠ none then some f else getA A t
  | [], s, f, t => by
    rw [if_neg (fun e => e.2 rfl)]
    rfl
  | x :: A, s, f, t => by
    have ih := get_over A s f t
    rw [List.map_cons, getA_cons, getA_cons x A s, getA_cons x A t, ih]
    by_cases e : x.1 = s
    · rw [if_pos e, if_pos e]
      show (if s = t then some f else _) = _
      by_cases e2 : s = t
      · rw [if_pos e2, if_pos ⟨e2, by simp⟩]
      · rw [if_neg e2, if_neg (fun h => e2 h.1), if_neg (fun h => e2 h.1), if_neg (fun h => e2 (e.symm.trans h))]
    · rw [if_neg e, if_neg e]
      by_cases e2 : x.1 = t
      · rw [if_pos e2, if_pos e2, if_neg (fun h => e (e2.trans h.1.symm))]
      · rw [if_neg e2, if_neg e2]
theorem get_put (A : Fs) (s : ByteArray) (f : Dfile) (t : ByteArray) : getA (putA A s f) t = if s = t then some f else getA A t := by
  unfold putA
  by_cases h : getA A s = none
  · rw [if_pos h, get_append]
    show (getA A t).or (if s = t then some f else none) = _
    by_cases e : s = t
    · subst e
      rw [if_pos rfl, if_pos rfl, h]
      rfl
    · rw [if_neg e, if_neg e, Option.or_none]
  · rw [if_neg h, get_over]
    by_cases e : s = t
    · rw [if_pos ⟨e, h⟩, if_pos e]
    · rw [if_neg (fun k => e k.1), if_neg e]
theorem get_crash (ks : List Kp) : ∀ (A : Fs), (A.map (·.1)).Nodup → ∀ t, getA (crashF ks A) t = (getA A t).bind fun f => if crashB f (keepOf ks t).1 (keepOf ks t).2 = true then some ⟨crashS f (keepOf ks t).1 (keepOf ks t).2, [], false⟩ else none
  | [], _, _ => rfl
  | x :: A, hn, t => by
    rw [List.map_cons, List.nodup_cons] at hn
    have ih := get_crash ks A hn.2 t
    rw [getA_cons]
    unfold crashF
    rw [get_append, ih]
    by_cases e : x.1 = t
    · rw [if_pos e]
      have h0 : getA A t = none := getA_no fun y hy h => hn.1 (by rw [e, ← h]; exact List.mem_map_of_mem hy)
      rw [h0]
      subst e
      by_cases hb : crashB x.2 (keepOf ks x.1).1 (keepOf ks x.1).2 = true
      · rw [if_pos hb, getA_cons, if_pos rfl]
        simp [hb]
      · rw [if_neg hb]
        simp [hb, getA]
    · rw [if_neg e]
      split
      · rw [getA_cons, if_neg e]
        rfl
      · rfl

/-- The two disks hold the same. -/
structure Alike (A R : Fs) : Prop where
  get : ∀ s, getA A s = getA R s
  nod : (A.map (·.1)).Nodup
  asc : Asc R
  fr : ∀ s f, getA A s = some f → f.ops = [] → f.fresh = false
theorem getA_some {A : Fs} {s : ByteArray} (h : s ∈ A.map (·.1)) : getA A s ≠ none := fun e => by
  obtain ⟨x, hx, rfl⟩ := List.mem_map.1 h
  exact getA_none e x hx rfl
theorem getA_key {A : Fs} {s : ByteArray} (h : getA A s ≠ none) : s ∈ A.map (·.1) := by
  cases e : getA A s with
  | none => exact absurd e h
  | some f => exact List.mem_map_of_mem (f := fun x : ByteArray × Dfile => x.1) (getA_mem e)
theorem Alike.perm {A R : Fs} (h : Alike A R) : (A.map (·.1)).Perm (R.map (·.1)) := (List.perm_ext_iff_of_nodup h.nod h.asc.nodup).2 fun s =>
  ⟨fun k => getA_key (h.get s ▸ getA_some k), fun k => getA_key ((h.get s).symm ▸ getA_some k)⟩
theorem Alike.len {A R : Fs} (h : Alike A R) : A.length = R.length := by
  have := h.perm.length_eq
  rwa [List.length_map, List.length_map] at this
theorem Alike.names {A R : Fs} (h : Alike A R) : namesA A = R.map fun x => keyN x.1 := by
  unfold namesA
  have hp : (A.map (·.1.data.toList)).Perm (R.map fun x => keyN x.1) := by
    have := h.perm.map keyN
    rwa [List.map_map, List.map_map] at this
  have hs : (R.map fun x => keyN x.1).Pairwise fun a b => a ≤ b := by
    rw [List.pairwise_map]
    exact h.asc.imp fun k => List.le_of_lt k
  have hm : ((A.map (·.1.data.toList)).mergeSort (fun x y => decide (x ≤ y))).Pairwise fun a b => a ≤ b := by
    refine (List.pairwise_mergeSort (fun a b c h1 h2 => ?_) (fun a b => ?_) _).imp fun k => of_decide_eq_true k
    · exact decide_eq_true (List.le_trans (of_decide_eq_true h1) (of_decide_eq_true h2))
    · have := List.le_total a b
      simpa using this
  exact ((List.mergeSort_perm _ _).trans hp).eq_of_pairwise (fun a b _ _ h1 h2 => List.le_antisymm h1 h2) hm hs
theorem Alike.empty : Alike [] [] := ⟨fun _ => rfl, List.nodup_nil, List.Pairwise.nil, fun _ _ h => by cases h⟩
theorem nod_drop {A : Fs} (h : (A.map (·.1)).Nodup) (s : ByteArray) : ((dropA A s).map (·.1)).Nodup := h.sublist (List.filter_sublist.map _)
theorem nod_put {A : Fs} (h : (A.map (·.1)).Nodup) (s : ByteArray) (f : Dfile) : ((putA A s f).map (·.1)).Nodup := by
  unfold putA
  by_cases e : getA A s = none
  · rw [if_pos e, List.map_append, List.nodup_append]
    refine ⟨h, by simp, fun a ha b hb he => ?_⟩
    have : b = s := by simpa using hb
    exact getA_some ha (he ▸ this ▸ e)
  · rw [if_neg e, List.map_map]
    have : (A.map ((fun x : ByteArray × Dfile => x.1) ∘ fun x => if x.1 = s then (s, f) else x)) = A.map (·.1) := List.map_congr_left fun x _ => by
      show (if x.1 = s then (s, f) else x).1 = x.1
      split
      · rename_i e
        exact e.symm
      · rfl
    rw [this]
    exact h
/-- One file is another one on both. -/
theorem Alike.set {A R : Fs} (h : Alike A R) {s : ByteArray} {f : Dfile} (hf : f.ops = [] → f.fresh = false) : Alike (setA A s f) (setA R s f) := by
  refine ⟨fun t => by rw [get_set, get_set, h.get, h.get], by rw [setA_map]; exact h.nod, h.asc.set s f, fun t g => ?_⟩
  rw [get_set]
  split
  · intro e
    rw [← Option.some.inj e]
    exact hf
  · exact h.fr t g
theorem Alike.new {A R : Fs} (h : Alike A R) {s : ByteArray} {f : Dfile} (hg : getA A s = none) (hf : f.ops = [] → f.fresh = false) : Alike (A ++ [(s, f)]) (insF (s, f) R) := by
  have hg2 : getA R s = none := (h.get s).symm.trans hg
  have e0 : A ++ [(s, f)] = putA A s f := by unfold putA; rw [if_pos hg]
  rw [e0]
  refine ⟨fun t => by rw [get_put, getA_ins _ _ hg2, h.get], nod_put h.nod s f, h.asc.ins hg2, fun t g => ?_⟩
  rw [get_put]
  split
  · intro e
    rw [← Option.some.inj e]
    exact hf
  · exact h.fr t g
theorem Alike.drop {A R : Fs} (h : Alike A R) (s : ByteArray) : Alike (dropA A s) (dropA R s) := by
  refine ⟨fun t => by rw [get_drop, get_drop, h.get], nod_drop h.nod s, h.asc.drop s, fun t g => ?_⟩
  rw [get_drop]
  split
  · intro e
    cases e
  · exact h.fr t g
theorem Alike.crash {A R : Fs} (h : Alike A R) (ks : List Kp) : Alike (crashF ks A) (crashF ks R) := by
  refine ⟨fun t => by rw [get_crash ks A h.nod, get_crash ks R h.asc.nodup, h.get], h.nod.sublist (crashF_sub ks A), h.asc.crash ks, fun t g => ?_⟩
  rw [get_crash ks A h.nod]
  cases getA A t with
  | none => intro e; cases e
  | some f =>
    show (if _ then _ else _) = _ → _
    split
    · intro e
      rw [← Option.some.inj e]
      exact fun _ => rfl
    · intro e
      cases e
theorem Alike.ren {A R : Fs} (h : Alike A R) {s t : ByteArray} {f : Dfile} (hf : f.fresh = false) : Alike (putA (dropA A s) t f) (insF (t, f) (dropA (dropA R s) t)) := by
  have hn : getA (dropA (dropA R s) t) t = none := by rw [get_drop, if_pos rfl]
  refine ⟨fun u => ?_, nod_put (nod_drop h.nod s) t f, ((h.asc.drop s).drop t).ins hn, fun u g => ?_⟩
  · rw [get_put, getA_ins _ _ hn, get_drop, get_drop, get_drop, h.get]
    show (if t = u then some f else _) = (if t = u then some f else _)
    by_cases e : t = u
    · rw [if_pos e, if_pos e]
    · rw [if_neg e, if_neg e, if_neg e]
  · rw [get_put]
    split
    · intro e
      rw [← Option.some.inj e]
      exact fun _ => hf
    · exact (h.drop s).fr u g
theorem Alike.renSame {A R : Fs} (h : Alike A R) {s : ByteArray} {f : Dfile} (hg : getA A s = some f) : Alike (putA (dropA A s) s f) R := by
  refine ⟨fun u => ?_, nod_put (nod_drop h.nod s) s f, h.asc, fun u g => ?_⟩
  · rw [get_put, get_drop, ← h.get]
    by_cases e : s = u
    · rw [if_pos e, ← e, hg]
    · rw [if_neg e, if_neg e]
  · rw [get_put, get_drop]
    by_cases e : s = u
    · rw [if_pos e, ← hg, e]
      exact h.fr u g
    · rw [if_neg e, if_neg e]
      exact h.fr u g

end Go.Proofs.Ytmmlpbepaefamaa

/- The document's disk as a plain function: each method answers as a function of the list of files by name says. -/
namespace Go.Proofs.Ytmmlpbepaefamaa
open Go.RowKit Go.MapKept Go.Maps Go.Sort Go.Shelf

/-- What the document's Append and Rename answer, and the files then. -/
def appS (R : Fs) (q : Bool) (s : ByteArray) (b : List (BitVec 8)) : Int × Fs :=
  if q = true then (13, R) else if nameN s = false then (2, R) else match getA R s with
  | none => if 64 ≤ R.length then (8, R) else if 1048576 < b.length then (3, R) else (0, insF (s, ⟨[], [.add b], true⟩) R)
  | some f => if 1048576 < f.content.length + b.length then (3, R) else (0, setA R s ⟨f.safe, f.ops ++ [.add b], f.fresh⟩)
def renS (R : Fs) (q : Bool) (s t : ByteArray) : Int × Fs :=
  if q = true then (13, R) else if nameN t = false then (2, R) else match getA R s with
  | none => (6, R)
  | some f => if f.ops.length ≠ 0 then (10, R) else if s = t then (0, R) else (0, insF (t, ⟨f.safe, f.ops, false⟩) (dropA (dropA R s) t))
section
variable {w : World} {B m n : Nat} {T : Nat → Prop} {R : Fs} {rl : List Int}
theorem RK.old (h : RK w B m T R rl n) {i : Nat} (hi : T i) : B ≤ i ∧ i < w.heap.size := by
  obtain ⟨_, _, _, h, _⟩ := h
  exact h.old i hi
theorem RK.low {w' : World} (h : RK w B m T R rl n) (hb : Below w.heap.size w w') : RK w' B m T R rl n := by
  obtain ⟨fv, rv, l, h, e⟩ := h
  exact ⟨fv, rv, l, h.low hb, e⟩
theorem RK.only {w' : World} {S : Nat → Prop} (h : RK w B m T R rl n) (ho : Only w w' S) (hS : ∀ i, T i → ¬ S i) : RK w' B m T R rl n := by
  obtain ⟨fv, rv, l, h, e⟩ := h
  exact ⟨fv, rv, l, h.only ho hS, e⟩
theorem RK.tm (h : RK w B m T R rl n) : T m := by
  obtain ⟨_, _, _, h, _⟩ := h
  exact h.tm
theorem RK.fok (h : RK w B m T R rl n) {s : ByteArray} {f : Dfile} (hg : getA R s = some f) : f.ok := by
  obtain ⟨_, _, l, h, rfl⟩ := h
  obtain ⟨k, x, _, hx, _, rfl, _⟩ := posX_some hg
  exact (h.each x (List.mem_of_getElem? hx)).okf
theorem RK.fcon (h : RK w B m T R rl n) {s : ByteArray} {f : Dfile} (hg : getA R s = some f) : f.content.length ≤ 1048576 := okOps_len _ _ (h.fok hg).1 (h.fok hg).2

theorem rk_append (h : RK w B m T R rl n) (hR : okA R) (hn : n ≤ 1000000) (hr : rl.length ≤ 100000) (s : ByteArray) (hs : s.size ≤ 9223372036854775806) (bv : Value) (b : List (BitVec 8)) (hb : SliceIs w bv b) (hbd : b ≠ [] → ∀ g o c, bv = .slice (some ⟨g, o, none⟩) b.length c → ¬ T g) (hbl : b.length ≤ 4611686018427387904) :
    Calls Try.prog 52 #[.pointer (some ⟨m, 0, none⟩), .string s, bv] w fun e w' => e = .returned (.int .i64 (appS R (refB rl n) s b).1) ∧ RX w w' B m T (appS R (refB rl n) s b).2 rl (n + 1) := by
  have hbd2 : b ≠ [] → ∀ g o c, bv = .slice (some ⟨g, o, none⟩) b.length c → g ≠ m := fun hne g o c e e2 => hbd hne g o c e (e2 ▸ h.tm)
  have hfc := fun (f : Dfile) (hg : getA R s = some f) => h.fcon hg
  obtain ⟨fv, rv, l, h1, rfl⟩ := h
  have hl : l.length ≤ 1000 := by rw [← viewX_len]; exact hR.1
  obtain ⟨ba, bc, rfl⟩ := slice_len hb
  unfold appS
  cases hq : refB rl n with
  | true => exact rapp_refused w B m n T fv rv l rl h1 hn hr hq s ba b.length bc
  | false =>
    rw [if_neg (by decide)]
    cases hnm : nameN s with
    | false => exact rapp_arg w B m n T fv rv l rl h1 hn hr hq s hs hnm ba b.length bc
    | true =>
      rw [if_neg (by decide)]
      cases hg : getA (viewX l) s with
      | none =>
        simp only []
        rw [viewX_len]
        by_cases h64 : 64 ≤ l.length
        · rw [if_pos h64]
          exact rapp_full w B m n T fv rv l rl h1 hl hn hr hq s hs hnm hg h64 ba b.length bc
        rw [if_neg h64]
        by_cases hlong : 1048576 < b.length
        · rw [if_pos hlong]
          exact rapp_long w B m n T fv rv l rl h1 hl hn hr hq s hs hnm hg (by omega) ba b.length bc hlong
        rw [if_neg hlong]
        exact rapp_new w B m n T fv rv l rl h1 hl hn hr hq s hs hnm hg (by omega) _ b hb hbd2 (by omega)
      | some f =>
        have hfo := hR.get hg
        simp only []
        by_cases hlong : 1048576 < f.content.length + b.length
        · rw [if_pos hlong]
          exact rapp_long2 w B m n T fv rv l rl h1 hl hn hr hq s hs hnm f hg (by omega) ba b.length bc hbl (hfc f hg) hlong
        rw [if_neg hlong]
        exact rapp_there w B m n T fv rv l rl h1 hl hn hr hq s hs hnm f hg (by omega) _ b hb hbd2 (by omega)
theorem rk_cut (h : RK w B m T R rl n) (hR : okA R) (hn : n ≤ 1000000) (hr : rl.length ≤ 100000) (s : ByteArray) (k : Int) :
    Calls Try.prog 55 #[.pointer (some ⟨m, 0, none⟩), .string s, .int .i64 k] w fun e w' => e = .returned (.int .i64 (cutR R (refB rl n) s k).1) ∧ RX w w' B m T (cutR R (refB rl n) s k).2 rl (n + 1) := by
  obtain ⟨fv, rv, l, h1, rfl⟩ := h
  have hl : l.length ≤ 1000 := by rw [← viewX_len]; exact hR.1
  unfold cutR
  cases hq : refB rl n with
  | true => exact rcut_refused w B m n T fv rv l rl h1 hn hr hq s k
  | false =>
    rw [if_neg (by decide)]
    cases hg : getA (viewX l) s with
    | none => exact rcut_missing w B m n T fv rv l rl h1 hl hn hr hq s k hg
    | some f =>
      have hfo := hR.get hg
      simp only []
      by_cases hk : k < 0
      · rw [if_pos (.inl hk)]
        exact rcut_neg w B m n T fv rv l rl h1 hl hn hr hq s k f hg hk
      by_cases hk2 : (f.content.length : Int) < k
      · rw [if_pos (.inr hk2)]
        exact rcut_far w B m n T fv rv l rl h1 hl hn hr hq s k f hg (by omega) hk hk2
      rw [if_neg (by omega)]
      obtain ⟨c, rfl⟩ := Int.eq_ofNat_of_zero_le (by omega : 0 ≤ k)
      exact rcut_there w B m n T fv rv l rl h1 hl hn hr hq s c f hg (by omega) (by omega)
theorem rk_sync (h : RK w B m T R rl n) (hR : okA R) (hn : n ≤ 1000000) (hr : rl.length ≤ 100000) (s : ByteArray) :
    Calls Try.prog 56 #[.pointer (some ⟨m, 0, none⟩), .string s] w fun e w' => e = .returned (.int .i64 (syncR R (refB rl n) s).1) ∧ RX w w' B m T (syncR R (refB rl n) s).2 rl (n + 1) := by
  obtain ⟨fv, rv, l, h1, rfl⟩ := h
  have hl : l.length ≤ 1000 := by rw [← viewX_len]; exact hR.1
  unfold syncR
  cases hq : refB rl n with
  | true => exact rsync_refused w B m n T fv rv l rl h1 hn hr hq s
  | false =>
    rw [if_neg (by decide)]
    cases hg : getA (viewX l) s with
    | none => exact rsync_missing w B m n T fv rv l rl h1 hl hn hr hq s hg
    | some f => exact rsync_there w B m n T fv rv l rl h1 hl hn hr hq s f hg (by have := hR.get hg; omega)
theorem rk_rename (h : RK w B m T R rl n) (hR : okA R) (hn : n ≤ 1000000) (hr : rl.length ≤ 100000) (s t : ByteArray) (ht : t.size ≤ 9223372036854775806) :
    Calls Try.prog 57 #[.pointer (some ⟨m, 0, none⟩), .string s, .string t] w fun e w' => e = .returned (.int .i64 (renS R (refB rl n) s t).1) ∧ RX w w' B m T (renS R (refB rl n) s t).2 rl (n + 1) := by
  obtain ⟨fv, rv, l, h1, rfl⟩ := h
  have hl : l.length ≤ 1000 := by rw [← viewX_len]; exact hR.1
  unfold renS
  cases hq : refB rl n with
  | true => exact rren_refused w B m n T fv rv l rl h1 hn hr hq s t
  | false =>
    rw [if_neg (by decide)]
    cases hnm : nameN t with
    | false => exact rren_arg w B m n T fv rv l rl h1 hn hr hq s t ht hnm
    | true =>
      rw [if_neg (by decide)]
      cases hg : getA (viewX l) s with
      | none => exact rren_missing w B m n T fv rv l rl h1 hl hn hr hq s t ht hnm hg
      | some f =>
        simp only []
        by_cases ho : f.ops.length ≠ 0
        · rw [if_pos ho]
          exact rren_state w B m n T fv rv l rl h1 hl hn hr hq s t ht hnm f hg ho
        rw [if_neg ho]
        by_cases hst : s = t
        · subst hst
          rw [if_pos rfl]
          exact rren_same w B m n T fv rv l rl h1 hl hn hr hq s ht hnm f hg (by omega)
        · rw [if_neg hst]
          exact rren_there w B m n T fv rv l rl h1 hl hn hr hq s t ht hnm hst f hg (List.eq_nil_of_length_eq_zero (by omega))
theorem rk_remove (h : RK w B m T R rl n) (hR : okA R) (hn : n ≤ 1000000) (hr : rl.length ≤ 100000) (s : ByteArray) :
    Calls Try.prog 59 #[.pointer (some ⟨m, 0, none⟩), .string s] w fun e w' => e = .returned (.int .i64 (remR R (refB rl n) s).1) ∧ RX w w' B m T (remR R (refB rl n) s).2 rl (n + 1) := by
  obtain ⟨fv, rv, l, h1, rfl⟩ := h
  have hl : l.length ≤ 1000 := by rw [← viewX_len]; exact hR.1
  unfold remR
  cases hq : refB rl n with
  | true => exact rrem_refused w B m n T fv rv l rl h1 hn hr hq s
  | false =>
    rw [if_neg (by decide)]
    cases hg : getA (viewX l) s with
    | none => exact rrem_missing w B m n T fv rv l rl h1 hl hn hr hq s hg
    | some f => exact rrem_there w B m n T fv rv l rl h1 hl hn hr hq s f hg
theorem rk_read (h : RK w B m T R rl n) (hR : okA R) (s : ByteArray) :
    Calls Try.prog 60 #[.pointer (some ⟨m, 0, none⟩), .string s] w fun e w' => ∃ u, e = .returned (.tuple #[u, .int .i64 (if getA R s = none then 6 else 0)]) ∧ (∃ a k c, u = .slice a k c) ∧ SliceIs w' u (((getA R s).map Dfile.content).getD []) ∧ Below w.heap.size w w' := by
  obtain ⟨fv, rv, l, h1, rfl⟩ := h
  have hl : l.length ≤ 1000 := by rw [← viewX_len]; exact hR.1
  cases hg : getA (viewX l) s with
  | none =>
    refine (rread_none w B m n T fv rv l rl h1 hl s hg).mono ?_
    rintro e w' ⟨rfl, rfl⟩
    exact ⟨_, rfl, ⟨_, _, _, rfl⟩, .inl ⟨rfl, .inl rfl⟩, Below.refl _ _⟩
  | some f =>
    refine (rread_there w B m n T fv rv l rl h1 hl s f hg (by have := hR.get hg; omega)).mono ?_
    rintro e w' ⟨u, rfl, O, b⟩
    obtain ⟨a, k, c, rfl⟩ := slice_any O
    exact ⟨_, rfl, ⟨_, _, _, rfl⟩, O.slice, b⟩
theorem rk_pending (h : RK w B m T R rl n) (hR : okA R) (s : ByteArray) :
    Calls Try.prog 65 #[.pointer (some ⟨m, 0, none⟩), .string s] w fun e w' => e = .returned (.int .i64 ((((getA R s).map fun f => f.ops.length).getD 0 : Nat) : Int)) ∧ w = w' := by
  obtain ⟨fv, rv, l, h1, rfl⟩ := h
  have hl : l.length ≤ 1000 := by rw [← viewX_len]; exact hR.1
  cases hg : getA (viewX l) s with
  | none => exact rpend_none w B m n T fv rv l rl h1 hl s hg
  | some f => exact rpend_there w B m n T fv rv l rl h1 hl s f hg
theorem rk_names (h : RK w B m T R rl n) (hR : okA R) :
    Calls Try.prog 64 #[.pointer (some ⟨m, 0, none⟩)] w fun e w' => ∃ v, e = .returned v ∧ TxtAt w' v (R.map (·.1)) ∧ Below w.heap.size w w' := by
  obtain ⟨fv, rv, l, h1, rfl⟩ := h
  exact rnames_calls w B m n T fv rv l rl h1 (by rw [← viewX_len]; exact hR.1)
theorem rk_crash (h : RK w B m T R rl n) (hR : okA R) (v : Value) (kp : List Kp) (hv : KeepsAt w v kp) (hkl : kp.length ≤ 1000000) :
    Calls Try.prog 61 #[.pointer (some ⟨m, 0, none⟩), v] w fun e w' => e = .returned (.tuple #[]) ∧ RX w w' B m T (crashF kp R) rl n := by
  obtain ⟨fv, rv, l, h1, rfl⟩ := h
  refine rcrash_calls w B m n T fv rv l rl h1 (by rw [← viewX_len]; exact hR.1) v kp hv hkl fun x hx => ?_
  have := (hR.2 x.view (List.mem_map_of_mem hx)).1
  exact Nat.le_trans this (by decide)
theorem rk_spoil (h : RK w B m T R rl n) (hR : okA R) (s : ByteArray) (k : Int) (hk : k ≤ 9223372036854775807) :
    Calls Try.prog 63 #[.pointer (some ⟨m, 0, none⟩), .string s, .int .i64 k] w fun e w' => e = .returned (.int .i64 (spoR R s k).1) ∧ RX w w' B m T (spoR R s k).2 rl n := by
  have hsame : ∀ R', R = R' → RX w w B m T R' rl n := fun R' e => ⟨T, e ▸ h, Only.of_below (Below.refl _ _) _, fun _ e => .inl e⟩
  obtain ⟨fv, rv, l, h1, rfl⟩ := h
  have hl : l.length ≤ 1000 := by rw [← viewX_len]; exact hR.1
  unfold spoR
  cases hg : getA (viewX l) s with
  | none =>
    refine (rspoil_none w B m n T fv rv l rl h1 hl s k hg).mono ?_
    rintro e w' ⟨rfl, rfl⟩
    exact ⟨rfl, hsame _ rfl⟩
  | some f =>
    simp only []
    by_cases ho : f.ops.length ≠ 0
    · rw [if_pos ho]
      refine (rspoil_state w B m n T fv rv l rl h1 hl s k f hg ho).mono ?_
      rintro e w' ⟨rfl, rfl⟩
      exact ⟨rfl, hsame _ rfl⟩
    rw [if_neg ho]
    have he : f.ops = [] := List.eq_nil_of_length_eq_zero (by omega)
    by_cases hk1 : k < 0
    · rw [if_pos (.inl hk1)]
      refine (rspoil_neg w B m n T fv rv l rl h1 hl s k f hg he hk1).mono ?_
      rintro e w' ⟨rfl, rfl⟩
      exact ⟨rfl, hsame _ rfl⟩
    obtain ⟨c, rfl⟩ := Int.eq_ofNat_of_zero_le (by omega : 0 ≤ k)
    by_cases hk2 : 8 * (f.safe.length : Int) ≤ c
    · rw [if_pos (.inr hk2)]
      refine (rspoil_far w B m n T fv rv l rl h1 hl s c (by omega) f hg he (by omega)).mono ?_
      rintro e w' ⟨rfl, rfl⟩
      exact ⟨rfl, hsame _ rfl⟩
    · rw [if_neg (by omega)]
      exact rspoil_there w B m n T fv rv l rl h1 hl s c (by omega) f hg he (by omega)
end

end Go.Proofs.Ytmmlpbepaefamaa
