/- The disk as a list of named files: each method answers as a plain function of it says. -/
import Derived.Test.YtmmlpbepaefamaaGreatDoorDCrX2
import Derived.Test.YtmmlpbepaefamaaGreatDoorDMoreX3
import Derived.Test.YtmmlpbepaefamaaGreatDoorDNames
namespace Go.Proofs.YtmmlpbepaefamaaGreatDoor
open Go.RowKit Go.MapKept Go.Maps Go.Sort Go.Shelf

/-- The files by name. -/
abbrev Fs := List (ByteArray × Dfile)
def getA : Fs → ByteArray → Option Dfile
  | [], _ => none
  | x :: A, s => if x.1 = s then some x.2 else getA A s
def setA : Fs → ByteArray → Dfile → Fs
  | [], _, _ => []
  | x :: A, s, f => if x.1 = s then (x.1, f) :: A else x :: setA A s f
def dropA (A : Fs) (s : ByteArray) : Fs := A.filter fun x => !decide (x.1 = s)
def putA (A : Fs) (t : ByteArray) (f : Dfile) : Fs := if getA A t = none then A ++ [(t, f)] else A.map fun x => if x.1 = t then (t, f) else x
def viewL (L : List (ByteArray × Nat × Dfile)) : Fs := L.map fun x => (x.1, x.2.2)
theorem view_get : ∀ (L : List (ByteArray × Nat × Dfile)) (s : ByteArray), getA (viewL L) s = (getL L s).map (·.2)
  | [], _ => rfl
  | x :: L, s => by
    show (if x.1 = s then some x.2.2 else getA (viewL L) s) = _
    unfold getL
    split
    · rfl
    · exact view_get L s
theorem view_none {L : List (ByteArray × Nat × Dfile)} {s : ByteArray} (h : getA (viewL L) s = none) : getL L s = none := by
  rw [view_get] at h
  cases e : getL L s with
  | none => rfl
  | some p => rw [e] at h; cases h
theorem view_some {L : List (ByteArray × Nat × Dfile)} {s : ByteArray} {f : Dfile} (h : getA (viewL L) s = some f) : ∃ fb, getL L s = some (fb, f) := by
  rw [view_get] at h
  cases e : getL L s with
  | none => rw [e] at h; cases h
  | some p =>
    rw [e] at h
    injection h with h
    exact ⟨p.1, by rw [← h]⟩
theorem view_set : ∀ (L : List (ByteArray × Nat × Dfile)) (s : ByteArray) (f : Dfile), viewL (setL L s f) = setA (viewL L) s f
  | [], _, _ => rfl
  | x :: L, s, f => by
    show viewL (if x.1 = s then (x.1, x.2.1, f) :: L else x :: setL L s f) = (if x.1 = s then (x.1, f) :: viewL L else (x.1, x.2.2) :: setA (viewL L) s f)
    split
    · rfl
    · rw [← view_set L s f]
      rfl
theorem view_drop (L : List (ByteArray × Nat × Dfile)) (s : ByteArray) : viewL (dropL L s) = dropA (viewL L) s := by
  unfold viewL dropL dropA
  rw [List.filter_map]
  rfl
theorem view_put (L : List (ByteArray × Nat × Dfile)) (t : ByteArray) (fb : Nat) (f : Dfile) : viewL (putL L t fb f) = putA (viewL L) t f := by
  unfold putL putA
  by_cases h : getL L t = none
  · have h2 : getA (viewL L) t = none := by rw [view_get, h]; rfl
    rw [if_pos h, if_pos h2]
    unfold viewL
    rw [List.map_append]
    rfl
  · have h2 : ¬ getA (viewL L) t = none := fun e => h (view_none e)
    rw [if_neg h, if_neg h2]
    unfold viewL
    rw [List.map_map, List.map_map]
    refine List.map_congr_left fun x _ => ?_
    show ((if x.1 = t then (t, fb, f) else x).1, (if x.1 = t then (t, fb, f) else x).2.2) = if x.1 = t then (t, f) else (x.1, x.2.2)
    split <;> rfl
theorem view_add (L : List (ByteArray × Nat × Dfile)) (s : ByteArray) (fb : Nat) (f : Dfile) : viewL (L ++ [(s, fb, f)]) = viewL L ++ [(s, f)] := by
  unfold viewL
  rw [List.map_append]
  rfl
/-- The files behind a crash. -/
def crashF (ks : List Kp) : Fs → Fs
  | [] => []
  | x :: A => (if crashB x.2 (keepOf ks x.1).1 (keepOf ks x.1).2 = true then [(x.1, ⟨crashS x.2 (keepOf ks x.1).1 (keepOf ks x.1).2, [], false⟩)] else []) ++ crashF ks A
theorem view_crash (ks : List Kp) : ∀ L : List (ByteArray × Nat × Dfile), viewL (crashed ks L) = crashF ks (viewL L)
  | [] => rfl
  | x :: L => by
    have ih := view_crash ks L
    show viewL ((crash1 ks x).toList ++ crashed ks L) = (if crashB x.2.2 (keepOf ks x.1).1 (keepOf ks x.1).2 = true then [(x.1, (⟨crashS x.2.2 (keepOf ks x.1).1 (keepOf ks x.1).2, [], false⟩ : Dfile))] else []) ++ crashF ks (viewL L)
    rw [← ih]
    unfold viewL crash1
    rw [List.map_append]
    split <;> rfl

/-- The disk in memory: W, the world when it began; S, its blocks. -/
def KD (W w : World) (d : Nat) (S : Nat → Prop) (A : Fs) (ks : List Int) (n : Nat) : Prop := ∃ fm rm own L, DiskAt W w d fm rm own L ks n ∧ viewL L = A ∧ ∀ i, S i ↔ (i = d ∨ i = fm ∨ i = rm ∨ own i ≠ none)
/-- What a call of the disk leaves of the rest. -/
def KX (W w w' : World) (d : Nat) (S : Nat → Prop) (A : Fs) (ks : List Int) (n : Nat) : Prop := ∃ S', KD W w' d S' A ks n ∧ Only w w' S ∧ ∀ i, i < w.heap.size → S' i → S i
theorem KD.below {W w : World} {d : Nat} {S : Nat → Prop} {A : Fs} {ks : List Int} {n : Nat} (h : KD W w d S A ks n) : Below W.heap.size W w := by
  obtain ⟨_, _, _, _, h, _⟩ := h
  exact h.below
theorem KD.low {W w w' : World} {d : Nat} {S : Nat → Prop} {A : Fs} {ks : List Int} {n : Nat} (h : KD W w d S A ks n) (hb : Below w.heap.size w w') : KD W w' d S A ks n := by
  obtain ⟨fm, rm, own, L, h1, h2, h3⟩ := h
  exact ⟨fm, rm, own, L, h1.low hb, h2, h3⟩
theorem KD.old {W w : World} {d : Nat} {S : Nat → Prop} {A : Fs} {ks : List Int} {n : Nat} (h : KD W w d S A ks n) {i : Nat} (hi : S i) : i < w.heap.size ∧ W.heap.size ≤ i := by
  obtain ⟨fm, rm, own, L, h1, _, h3⟩ := h
  rcases (h3 i).1 hi with rfl | rfl | rfl | e
  · exact ⟨h1.box.lt, h1.ged⟩
  · exact ⟨h1.all.lt, h1.gef⟩
  · exact ⟨h1.ref.lt, h1.ger⟩
  · cases e2 : own i with
    | none => exact absurd e2 e
    | some fb => exact ⟨(h1.old _ _ e2).2, (h1.old _ _ e2).1⟩
theorem KX.of {W w w' : World} {d fm rm n' : Nat} {own own' : Nat → Option Nat} {L' : List (ByteArray × Nat × Dfile)} {ks : List Int} {S : Nat → Prop} (hS : ∀ i, S i ↔ (i = d ∨ i = fm ∨ i = rm ∨ own i ≠ none))
    (h' : DiskAt W w' d fm rm own' L' ks n') (he : ∀ i, i < w.heap.size → own' i = own i) (ho : Only w w' fun i => i = d ∨ i = fm ∨ own i ≠ none) : KX W w w' d S (viewL L') ks n' := by
  refine ⟨_, ⟨fm, rm, own', L', h', rfl, fun i => Iff.rfl⟩, ho.weak fun i _ e => (hS i).2 (by rcases e with e | e | e <;> simp [e]), fun i hi e => (hS i).2 ?_⟩
  rw [he i hi] at e
  exact e
theorem KX.same {W w w' : World} {d fm rm n' : Nat} {own : Nat → Option Nat} {L : List (ByteArray × Nat × Dfile)} {ks : List Int} {S : Nat → Prop} (hS : ∀ i, S i ↔ (i = d ∨ i = fm ∨ i = rm ∨ own i ≠ none))
    (h' : DiskAt W w' d fm rm own L ks n') (ho : Only w w' fun i => i = d) : KX W w w' d S (viewL L) ks n' := KX.of (w := w) hS h' (fun _ _ => rfl) (ho.weak fun _ _ e => .inl e)

/-- What Append answers, and the files then (q: it is refused). -/
def appR (A : Fs) (q : Bool) (s : ByteArray) (b : List (BitVec 8)) : Int × Fs :=
  if q = true then (13, A) else if nameN s = false then (2, A) else match getA A s with
  | none => if 64 ≤ A.length then (8, A) else if 1048576 < b.length then (3, A) else (0, A ++ [(s, ⟨[], [.add b], true⟩)])
  | some f => if 1048576 < f.content.length + b.length then (3, A) else (0, setA A s ⟨f.safe, f.ops ++ [.add b], f.fresh⟩)
def cutR (A : Fs) (q : Bool) (s : ByteArray) (k : Int) : Int × Fs :=
  if q = true then (13, A) else match getA A s with
  | none => (6, A)
  | some f => if k < 0 ∨ (f.content.length : Int) < k then (2, A) else (0, setA A s ⟨f.safe, f.ops ++ [.cut k.toNat], f.fresh⟩)
def syncR (A : Fs) (q : Bool) (s : ByteArray) : Int × Fs :=
  if q = true then (13, A) else match getA A s with
  | none => (6, A)
  | some f => (0, setA A s ⟨f.content, [], false⟩)
def renR (A : Fs) (q : Bool) (s t : ByteArray) : Int × Fs :=
  if q = true then (13, A) else if nameN t = false then (2, A) else match getA A s with
  | none => (6, A)
  | some f => if f.ops.length ≠ 0 then (10, A) else (0, putA (dropA A s) t f)
def remR (A : Fs) (q : Bool) (s : ByteArray) : Int × Fs :=
  if q = true then (13, A) else match getA A s with
  | none => (6, A)
  | some _ => (0, dropA A s)
/-- Is the next operation refused? -/
def refB (ks : List Int) (n : Nat) : Bool := decide (((n : Int) + 1) ∈ ks)
/-- Bounds. -/
def okA (A : Fs) : Prop := A.length ≤ 1000 ∧ ∀ x ∈ A, x.2.ops.length ≤ 80000 ∧ x.1.size ≤ 1000
theorem getA_mem : ∀ {A : Fs} {s : ByteArray} {f : Dfile}, getA A s = some f → (s, f) ∈ A
  | x :: A, s, f, h => by
    unfold getA at h
    split at h
    · rename_i e
      injection h with h
      obtain ⟨a, b⟩ := x
      obtain rfl : a = s := e
      obtain rfl : b = f := h
      exact List.mem_cons_self
    · exact List.mem_cons_of_mem _ (getA_mem h)
theorem okA.get {A : Fs} {s : ByteArray} {f : Dfile} (h : okA A) (hg : getA A s = some f) : f.ops.length ≤ 80000 := (h.2 _ (getA_mem hg)).1
theorem KD.fok {W w : World} {d : Nat} {S : Nat → Prop} {A : Fs} {ks : List Int} {n : Nat} (h : KD W w d S A ks n) {s : ByteArray} {f : Dfile} (hg : getA A s = some f) : f.ok := by
  obtain ⟨fm, rm, own, L, h1, rfl, _⟩ := h
  obtain ⟨fb, hg⟩ := view_some hg
  obtain ⟨_, _, _, hf⟩ := h1.get hg
  exact hf.okf

theorem kd_append (W w : World) (d n : Nat) (S : Nat → Prop) (A : Fs) (ks : List Int) (h : KD W w d S A ks n) (hA : okA A) (hn : n ≤ 1000000) (s : ByteArray) (hs : s.size ≤ 9223372036854775806) (bv : Value) (b : List (BitVec 8)) (hb : SliceIs w bv b) (hbd : b ≠ [] → ∀ g o c, bv = .slice (some ⟨g, o, none⟩) b.length c → ¬ S g) (hbl : b.length ≤ 4611686018427387904) :
    Calls Tryz.prog 44 #[.pointer (some ⟨d, 0, none⟩), .string s, bv] w fun e w' => e = .returned (.int .i64 (appR A (refB ks n) s b).1) ∧ KX W w w' d S (appR A (refB ks n) s b).2 ks (n + 1) := by
  obtain ⟨fm, rm, own, L, h1, rfl, hS⟩ := h
  obtain ⟨ba, bc, hbv⟩ : ∃ ba bc, bv = .slice ba b.length bc := by
    rcases hb with ⟨rfl, rfl | ⟨ad, c, rfl⟩⟩ | ⟨_, _, _, rfl, _, _⟩ <;> exact ⟨_, _, rfl⟩
  unfold appR refB
  by_cases hq : ((n : Int) + 1) ∈ ks
  · rw [decide_eq_true hq, if_pos rfl, hbv]
    refine (dapp_refused W w d fm rm n own L ks h1 (by omega) hq s ba b.length bc).mono ?_
    rintro e w' ⟨rfl, h2, ho⟩
    exact ⟨rfl, KX.same hS h2 ho⟩
  rw [decide_eq_false hq, if_neg (by decide)]
  cases hnm : nameN s with
  | false =>
    rw [if_pos rfl, hbv]
    refine (dapp_arg W w d fm rm n own L ks h1 (by omega) hq s ba b.length bc hnm hs).mono ?_
    rintro e w' ⟨rfl, h2, ho⟩
    exact ⟨rfl, KX.same hS h2 ho⟩
  | true =>
    rw [if_neg (by decide)]
    have hlen : (viewL L).length = L.length := List.length_map _
    cases hg : getA (viewL L) s with
    | none =>
      have hg2 := view_none hg
      simp only []
      by_cases hl : 64 ≤ (viewL L).length
      · rw [if_pos hl, hbv]
        refine (dapp_full W w d fm rm n own L ks h1 (by omega) hq s ba b.length bc hnm hs hg2 (by omega)).mono ?_
        rintro e w' ⟨rfl, h2, ho⟩
        exact ⟨rfl, KX.same hS h2 ho⟩
      rw [if_neg hl]
      by_cases hbl2 : 1048576 < b.length
      · rw [if_pos hbl2, hbv]
        refine (dapp_long W w d fm rm n own L ks h1 (by omega) hq s ba b.length bc hnm hs hg2 (by omega) hbl2).mono ?_
        rintro e w' ⟨rfl, h2, ho⟩
        exact ⟨rfl, KX.same hS h2 ho⟩
      rw [if_neg hbl2]
      refine (dapp_new W w d fm rm n own L ks h1 (by omega) s hq hnm hs hg2 (by omega) bv b hb (fun hne g o c e => ⟨fun e2 => hbd hne g o c e ((hS g).2 (.inl e2)), fun e2 => hbd hne g o c e ((hS g).2 (.inr (.inl e2)))⟩) (by omega)).mono ?_
      rintro e w' ⟨rfl, own', fb, h2, he, _, ho⟩
      refine ⟨rfl, ?_⟩
      have := KX.of hS h2 he ho
      rwa [view_add] at this
    | some f =>
      obtain ⟨fb, hg2⟩ := view_some hg
      have hfo := hA.get hg
      simp only []
      by_cases hbl2 : 1048576 < f.content.length + b.length
      · rw [if_pos hbl2, hbv]
        refine (dapp_long2 W w d fm rm n own L ks h1 (by omega) hq s ba b.length bc hnm hs fb f hg2 (by omega) hbl2 hbl).mono ?_
        rintro e w' ⟨rfl, h2, ho⟩
        exact ⟨rfl, KX.same hS h2 ho⟩
      rw [if_neg hbl2]
      refine (dapp_there W w d fm rm n own L ks h1 (by omega) s hq hnm hs fb f hg2 (by omega) bv b hb (fun hne g o c e e2 => hbd hne g o c e ((hS g).2 (.inl e2))) (by omega)).mono ?_
      rintro e w' ⟨rfl, own', h2, he, ho⟩
      refine ⟨rfl, ?_⟩
      have := KX.of hS h2 he (ho.weak fun i _ e => e.elim .inl fun e => .inr (.inr e))
      rwa [view_set] at this

theorem kd_cut (W w : World) (d n : Nat) (S : Nat → Prop) (A : Fs) (ks : List Int) (h : KD W w d S A ks n) (hA : okA A) (hn : n ≤ 1000000) (s : ByteArray) (k : Int) :
    Calls Tryz.prog 58 #[.pointer (some ⟨d, 0, none⟩), .string s, .int .i64 k] w fun e w' => e = .returned (.int .i64 (cutR A (refB ks n) s k).1) ∧ KX W w w' d S (cutR A (refB ks n) s k).2 ks (n + 1) := by
  obtain ⟨fm, rm, own, L, h1, rfl, hS⟩ := h
  unfold cutR refB
  by_cases hq : ((n : Int) + 1) ∈ ks
  · rw [decide_eq_true hq, if_pos rfl]
    refine (dcut_refused W w d fm rm n own L ks h1 (by omega) hq s k).mono ?_
    rintro e w' ⟨rfl, h2, ho⟩
    exact ⟨rfl, KX.same hS h2 ho⟩
  rw [decide_eq_false hq, if_neg (by decide)]
  cases hg : getA (viewL L) s with
  | none =>
    refine (dcut_missing W w d fm rm n own L ks h1 (by omega) hq s k (view_none hg)).mono ?_
    rintro e w' ⟨rfl, h2, ho⟩
    exact ⟨rfl, KX.same hS h2 ho⟩
  | some f =>
    obtain ⟨fb, hg2⟩ := view_some hg
    have hfo := hA.get hg
    simp only []
    by_cases hk : k < 0
    · rw [if_pos (.inl hk)]
      refine (dcut_neg W w d fm rm n own L ks h1 (by omega) hq s k fb f hg2 hk).mono ?_
      rintro e w' ⟨rfl, h2, ho⟩
      exact ⟨rfl, KX.same hS h2 ho⟩
    by_cases hk2 : (f.content.length : Int) < k
    · rw [if_pos (.inr hk2)]
      refine (dcut_far W w d fm rm n own L ks h1 (by omega) hq s k fb f hg2 (by omega) hk hk2).mono ?_
      rintro e w' ⟨rfl, h2, ho⟩
      exact ⟨rfl, KX.same hS h2 ho⟩
    rw [if_neg (by omega)]
    obtain ⟨m, rfl⟩ := Int.eq_ofNat_of_zero_le (by omega : 0 ≤ k)
    refine (dcut_there W w d fm rm n own L ks h1 (by omega) s hq fb f hg2 (by omega) m (by omega)).mono ?_
    rintro e w' ⟨rfl, own', h2, he, ho⟩
    refine ⟨rfl, ?_⟩
    have := KX.of hS h2 he (ho.weak fun i _ e => e.elim .inl fun e => .inr (.inr e))
    rwa [view_set] at this

theorem kd_sync (W w : World) (d n : Nat) (S : Nat → Prop) (A : Fs) (ks : List Int) (h : KD W w d S A ks n) (hA : okA A) (hn : n ≤ 1000000) (s : ByteArray) :
    Calls Tryz.prog 46 #[.pointer (some ⟨d, 0, none⟩), .string s] w fun e w' => e = .returned (.int .i64 (syncR A (refB ks n) s).1) ∧ KX W w w' d S (syncR A (refB ks n) s).2 ks (n + 1) := by
  obtain ⟨fm, rm, own, L, h1, rfl, hS⟩ := h
  unfold syncR refB
  by_cases hq : ((n : Int) + 1) ∈ ks
  · rw [decide_eq_true hq, if_pos rfl]
    refine (dsync_refused W w d fm rm n own L ks h1 (by omega) s hq).mono ?_
    rintro e w' ⟨rfl, h2, ho⟩
    exact ⟨rfl, KX.same hS h2 ho⟩
  rw [decide_eq_false hq, if_neg (by decide)]
  cases hg : getA (viewL L) s with
  | none =>
    refine (dsync_missing W w d fm rm n own L ks h1 (by omega) s hq (view_none hg)).mono ?_
    rintro e w' ⟨rfl, h2, ho⟩
    exact ⟨rfl, KX.same hS h2 ho⟩
  | some f =>
    obtain ⟨fb, hg2⟩ := view_some hg
    have hfo := hA.get hg
    refine (dsync_there W w d fm rm n own L ks h1 (by omega) s hq fb f hg2 (by omega)).mono ?_
    rintro e w' ⟨rfl, own', h2, he, ho⟩
    refine ⟨rfl, ?_⟩
    have := KX.of hS h2 he (ho.weak fun i _ e => e.elim .inl fun e => .inr (.inr e))
    rwa [view_set] at this

theorem kd_rename (W w : World) (d n : Nat) (S : Nat → Prop) (A : Fs) (ks : List Int) (h : KD W w d S A ks n) (hn : n ≤ 1000000) (s t : ByteArray) (ht : t.size ≤ 9223372036854775806) :
    Calls Tryz.prog 48 #[.pointer (some ⟨d, 0, none⟩), .string s, .string t] w fun e w' => e = .returned (.int .i64 (renR A (refB ks n) s t).1) ∧ KX W w w' d S (renR A (refB ks n) s t).2 ks (n + 1) := by
  obtain ⟨fm, rm, own, L, h1, rfl, hS⟩ := h
  unfold renR refB
  by_cases hq : ((n : Int) + 1) ∈ ks
  · rw [decide_eq_true hq, if_pos rfl]
    refine (dren_refused W w d fm rm n own L ks h1 (by omega) hq s t).mono ?_
    rintro e w' ⟨rfl, h2, ho⟩
    exact ⟨rfl, KX.same hS h2 ho⟩
  rw [decide_eq_false hq, if_neg (by decide)]
  cases hnm : nameN t with
  | false =>
    rw [if_pos rfl]
    refine (dren_arg W w d fm rm n own L ks h1 (by omega) hq s t hnm ht).mono ?_
    rintro e w' ⟨rfl, h2, ho⟩
    exact ⟨rfl, KX.same hS h2 ho⟩
  | true =>
    rw [if_neg (by decide)]
    cases hg : getA (viewL L) s with
    | none =>
      refine (dren_missing W w d fm rm n own L ks h1 (by omega) hq s t hnm ht (view_none hg)).mono ?_
      rintro e w' ⟨rfl, h2, ho⟩
      exact ⟨rfl, KX.same hS h2 ho⟩
    | some f =>
      obtain ⟨fb, hg2⟩ := view_some hg
      simp only []
      by_cases hne : f.ops.length ≠ 0
      · rw [if_pos hne]
        refine (dren_state W w d fm rm n own L ks h1 (by omega) hq s t hnm ht fb f hg2 (fun e => hne (by rw [e]; rfl))).mono ?_
        rintro e w' ⟨rfl, h2, ho⟩
        exact ⟨rfl, KX.same hS h2 ho⟩
      rw [if_neg hne]
      refine (dren_there W w d fm rm n own L ks h1 (by omega) hq s t hnm ht fb f hg2 (List.eq_nil_of_length_eq_zero (by omega))).mono ?_
      rintro e w' ⟨rfl, h2, ho⟩
      refine ⟨rfl, ?_⟩
      have := KX.of hS h2 (fun _ _ => rfl) (ho.weak fun i _ e => e.elim .inl fun e => .inr (.inl e))
      rwa [view_put, view_drop] at this

theorem kd_remove (W w : World) (d n : Nat) (S : Nat → Prop) (A : Fs) (ks : List Int) (h : KD W w d S A ks n) (hn : n ≤ 1000000) (s : ByteArray) :
    Calls Tryz.prog 73 #[.pointer (some ⟨d, 0, none⟩), .string s] w fun e w' => e = .returned (.int .i64 (remR A (refB ks n) s).1) ∧ KX W w w' d S (remR A (refB ks n) s).2 ks (n + 1) := by
  obtain ⟨fm, rm, own, L, h1, rfl, hS⟩ := h
  unfold remR refB
  by_cases hq : ((n : Int) + 1) ∈ ks
  · rw [decide_eq_true hq, if_pos rfl]
    refine (drem_refused W w d fm rm n own L ks h1 (by omega) hq s).mono ?_
    rintro e w' ⟨rfl, h2, ho⟩
    exact ⟨rfl, KX.same hS h2 ho⟩
  rw [decide_eq_false hq, if_neg (by decide)]
  cases hg : getA (viewL L) s with
  | none =>
    refine (drem_missing W w d fm rm n own L ks h1 (by omega) hq s (view_none hg)).mono ?_
    rintro e w' ⟨rfl, h2, ho⟩
    exact ⟨rfl, KX.same hS h2 ho⟩
  | some f =>
    obtain ⟨fb, hg2⟩ := view_some hg
    refine (drem_there W w d fm rm n own L ks h1 (by omega) hq s fb f hg2).mono ?_
    rintro e w' ⟨rfl, h2, ho⟩
    refine ⟨rfl, ?_⟩
    have := KX.of hS h2 (fun _ _ => rfl) (ho.weak fun i _ e => e.elim .inl fun e => .inr (.inl e))
    rwa [view_drop] at this

theorem kd_crash (W w : World) (d n : Nat) (S : Nat → Prop) (A : Fs) (ks : List Int) (h : KD W w d S A ks n) (hA : okA A) (v : Value) (kp : List Kp) (hlen : kp.length ≤ 9223372036854775806) (hv : ∀ w', Only w w' S → KeepsAt w' v kp) :
    Calls Tryz.prog 12 #[.pointer (some ⟨d, 0, none⟩), v] w fun e w' => e = .returned (.int .i64 0) ∧ KX W w w' d S (crashF kp A) ks n := by
  obtain ⟨fm, rm, own, L, h1, rfl, hS⟩ := h
  refine (dcrash_calls W w d fm rm n own L ks h1 (fun x hx => Nat.le_trans (hA.2 (x.1, x.2.2) (List.mem_map_of_mem (f := fun x : ByteArray × Nat × Dfile => (x.1, x.2.2)) hx)).1 (by decide)) v kp hlen (fun w' ho => hv w' (ho.weak fun i _ e => (hS i).2 (by rcases e with e | e <;> simp [e])))).mono ?_
  rintro e w' ⟨rfl, own', h2, he, ho⟩
  refine ⟨rfl, ?_⟩
  have := KX.of hS h2 he (ho.weak fun i _ e => e.elim (fun e => .inr (.inl e)) fun e => .inr (.inr e))
  rwa [view_crash] at this

/-- What Read tells. -/
theorem kd_read (W w : World) (d n : Nat) (S : Nat → Prop) (A : Fs) (ks : List Int) (h : KD W w d S A ks n) (hA : okA A) (s : ByteArray) :
    Calls Tryz.prog 20 #[.pointer (some ⟨d, 0, none⟩), .string s] w fun e w' => ∃ u, e = .returned (.tuple #[u, .int .i64 (if getA A s = none then 6 else 0)]) ∧ Own w' w.heap.size u (((getA A s).map Dfile.content).getD []) ∧ Below w.heap.size w w' := by
  obtain ⟨fm, rm, own, L, h1, rfl, hS⟩ := h
  cases hg : getA (viewL L) s with
  | none =>
    refine (dread_missing W w d fm rm n own L ks h1 s (view_none hg)).mono ?_
    rintro e w' ⟨rfl, rfl⟩
    exact ⟨_, rfl, Own.nil _ _, Below.refl _ _⟩
  | some f =>
    obtain ⟨fb, hg2⟩ := view_some hg
    have hfo := hA.get hg
    refine (dread_there W w d fm rm n own L ks h1 s fb f hg2 (by omega)).mono ?_
    rintro e w' ⟨u, rfl, hO, hB⟩
    exact ⟨u, rfl, hO, hB⟩
theorem kd_pending (W w : World) (d n : Nat) (S : Nat → Prop) (A : Fs) (ks : List Int) (h : KD W w d S A ks n) (s : ByteArray) :
    Calls Tryz.prog 70 #[.pointer (some ⟨d, 0, none⟩), .string s] w fun e w' => e = .returned (.int .i64 ((((getA A s).map fun f => f.ops.length).getD 0 : Nat) : Int)) ∧ w = w' := by
  obtain ⟨fm, rm, own, L, h1, rfl, hS⟩ := h
  cases hg : getA (viewL L) s with
  | none => exact dpend_missing W w d fm rm n own L ks h1 s (view_none hg)
  | some f =>
    obtain ⟨fb, hg2⟩ := view_some hg
    exact dpend_there W w d fm rm n own L ks h1 s fb f hg2
/-- The names, ascending. -/
def namesA (A : Fs) : List (List UInt8) := (A.map (·.1.data.toList)).mergeSort (fun x y => decide (x ≤ y))
theorem kd_names (W w : World) (d n : Nat) (S : Nat → Prop) (A : Fs) (ks : List Int) (h : KD W w d S A ks n) (hA : okA A) :
    Calls Tryz.prog 19 #[.pointer (some ⟨d, 0, none⟩)] w fun e w' => ∃ v, e = .returned v ∧ (∃ a c, v = .slice a A.length c) ∧ w'.ownsRow w.heap.size 9 1 v A.length ((namesA A).map encStr) ∧ Below w.heap.size w w' := by
  obtain ⟨fm, rm, own, L, h1, rfl, hS⟩ := h
  have hlen : (viewL L).length = L.length := List.length_map _
  have hnm : namesA (viewL L) = namesOf L := by
    unfold namesA namesOf viewL
    rw [List.map_map]
    rfl
  rw [hlen, hnm]
  exact dnames_calls W w d fm rm n own L ks h1 (by have := hA.1; omega) (fun x hx => Nat.le_trans (hA.2 (x.1, x.2.2) (List.mem_map_of_mem (f := fun x : ByteArray × Nat × Dfile => (x.1, x.2.2)) hx)).2 (by decide))
theorem kd_new (w : World) (v : Value) (l : List Int) (hv : NumsAt w v l) (hl : l.length ≤ 4096) : Calls Tryz.prog 5 #[v] w fun e w' => ∃ d S ks, e = .returned (.tuple #[.pointer (some ⟨d, 0, none⟩), .int .i64 0]) ∧ KD w w' d S [] ks 0 ∧ ∀ k, k ∈ ks ↔ k ∈ l := by
  refine (dnewl_calls w v l hv hl).mono ?_
  rintro e w' ⟨d, rfl, fm, rm, own, h, _⟩
  exact ⟨d, _, _, rfl, ⟨fm, rm, own, [], h, rfl, fun i => Iff.rfl⟩, fun k => by rw [mem_adds]; simp⟩


section
variable {W w : World} {d n : Nat} {S : Nat → Prop} {A A' : Fs} {ks : List Int} {e : Int}
theorem kd_append_at (h : KD W w d S A ks n) (hA : okA A) (hn : n ≤ 1000000) (s : ByteArray) (hs : s.size ≤ 9223372036854775806) (bv : Value) (b : List (BitVec 8)) (hb : SliceIs w bv b) (hbd : b ≠ [] → ∀ g o c, bv = .slice (some ⟨g, o, none⟩) b.length c → ¬ S g) (hbl : b.length ≤ 4611686018427387904) (hr : appR A (refB ks n) s b = (e, A')) :
    Calls Tryz.prog 44 #[.pointer (some ⟨d, 0, none⟩), .string s, bv] w fun e' w' => e' = .returned (.int .i64 e) ∧ KX W w w' d S A' ks (n + 1) := by
  have := kd_append W w d n S A ks h hA hn s hs bv b hb hbd hbl
  rw [hr] at this
  exact this
theorem kd_cut_at (h : KD W w d S A ks n) (hA : okA A) (hn : n ≤ 1000000) (s : ByteArray) (k : Int) (hr : cutR A (refB ks n) s k = (e, A')) :
    Calls Tryz.prog 58 #[.pointer (some ⟨d, 0, none⟩), .string s, .int .i64 k] w fun e' w' => e' = .returned (.int .i64 e) ∧ KX W w w' d S A' ks (n + 1) := by
  have := kd_cut W w d n S A ks h hA hn s k
  rw [hr] at this
  exact this
theorem kd_sync_at (h : KD W w d S A ks n) (hA : okA A) (hn : n ≤ 1000000) (s : ByteArray) (hr : syncR A (refB ks n) s = (e, A')) :
    Calls Tryz.prog 46 #[.pointer (some ⟨d, 0, none⟩), .string s] w fun e' w' => e' = .returned (.int .i64 e) ∧ KX W w w' d S A' ks (n + 1) := by
  have := kd_sync W w d n S A ks h hA hn s
  rw [hr] at this
  exact this
theorem kd_rename_at (h : KD W w d S A ks n) (hn : n ≤ 1000000) (s t : ByteArray) (ht : t.size ≤ 9223372036854775806) (hr : renR A (refB ks n) s t = (e, A')) :
    Calls Tryz.prog 48 #[.pointer (some ⟨d, 0, none⟩), .string s, .string t] w fun e' w' => e' = .returned (.int .i64 e) ∧ KX W w w' d S A' ks (n + 1) := by
  have := kd_rename W w d n S A ks h hn s t ht
  rw [hr] at this
  exact this
theorem kd_crash_at (h : KD W w d S A ks n) (hA : okA A) (v : Value) (kp : List Kp) (hlen : kp.length ≤ 9223372036854775806) (hv : ∀ w', Only w w' S → KeepsAt w' v kp) (hr : crashF kp A = A') :
    Calls Tryz.prog 12 #[.pointer (some ⟨d, 0, none⟩), v] w fun e' w' => e' = .returned (.int .i64 0) ∧ KX W w w' d S A' ks n := by
  have := kd_crash W w d n S A ks h hA v kp hlen hv
  rw [hr] at this
  exact this
theorem kd_read_at (h : KD W w d S A ks n) (hA : okA A) (s : ByteArray) (f : Dfile) (hr : getA A s = some f) :
    Calls Tryz.prog 20 #[.pointer (some ⟨d, 0, none⟩), .string s] w fun e' w' => ∃ u, e' = .returned (.tuple #[u, .int .i64 0]) ∧ (∃ a c, u = .slice a f.content.length c) ∧ Own w' w.heap.size u f.content ∧ Below w.heap.size w w' := by
  refine (kd_read W w d n S A ks h hA s).mono ?_
  rintro e' w' ⟨u, rfl, hO, hB⟩
  rw [hr] at hO
  refine ⟨u, by rw [hr]; rfl, slice_of_row hO, hO, hB⟩
theorem kd_read_none (h : KD W w d S A ks n) (s : ByteArray) (hr : getA A s = none) :
    Calls Tryz.prog 20 #[.pointer (some ⟨d, 0, none⟩), .string s] w fun e' w' => e' = .returned (.tuple #[.slice none 0 0, .int .i64 6]) ∧ w = w' := by
  obtain ⟨fm, rm, own, L, h1, rfl, hS⟩ := h
  exact dread_missing W w d fm rm n own L ks h1 s (view_none hr)
theorem kd_pending_at (h : KD W w d S A ks n) (s : ByteArray) (k : Int) (hr : ((((getA A s).map fun f => f.ops.length).getD 0 : Nat) : Int) = k) :
    Calls Tryz.prog 70 #[.pointer (some ⟨d, 0, none⟩), .string s] w fun e' w' => e' = .returned (.int .i64 k) ∧ w = w' := by
  have := kd_pending W w d n S A ks h s
  rw [hr] at this
  exact this
end
instance (A : Fs) : Decidable (okA A) := by unfold okA; infer_instance

end Go.Proofs.YtmmlpbepaefamaaGreatDoor

/- Texts that lie in a slice, and lists of them that are the same. -/
namespace Go.Proofs.YtmmlpbepaefamaaGreatDoor
open Go.RowKit Go.Maps Go.Sort Go.Shelf

/-- Texts lie in a slice. -/
def TxtAt (w : World) (v : Value) (l : List ByteArray) : Prop :=
  (∃ a c, v = .slice a 0 c ∧ l = []) ∨ ∃ b off c, v = .slice (some ⟨b, off, none⟩) l.length c ∧ b < w.heap.size ∧ ∀ j, j < l.length → w.cell? ⟨b, off + j, none⟩ = some (.string (l.getD j ByteArray.empty))
theorem TxtAt.low {w w' : World} {v : Value} {l : List ByteArray} (h : TxtAt w v l) (hb : Below w.heap.size w w') : TxtAt w' v l := by
  rcases h with h | ⟨b, off, c, rfl, hl, hc⟩
  · exact .inl h
  · exact .inr ⟨b, off, c, rfl, Nat.lt_of_lt_of_le hl hb.size, fun j hj => (hb.cell (p := ⟨b, off + j, none⟩) hl).trans (hc j hj)⟩
theorem TxtAt.of_row {w : World} {B : Nat} {v : Value} {ss : List (List UInt8)} (h : w.ownsRow B 9 1 v ss.length (ss.map encStr)) : TxtAt w v (ss.map fun x => ⟨x.toArray⟩) := by
  rcases row_shape h with ⟨rfl, h0⟩ | ⟨g, cap, rfl, _, hg, hc⟩
  · have : ss = [] := List.eq_nil_of_length_eq_zero h0
    subst this
    exact .inl ⟨_, _, rfl, rfl⟩
  · refine .inr ⟨g, 0, cap, by rw [List.length_map], hg, fun j hj => ?_⟩
    rw [List.length_map] at hj
    rw [Nat.zero_add]
    refine (hc j (encStr ss[j]) (by simp [hj])).trans ?_
    simp [hj]
theorem TxtAt.one (w : World) (s : ByteArray) : TxtAt (w.alloc (.cells #[.string s] 9)) (.slice (some ⟨w.heap.size, 0, none⟩) 1 1) [s] := by
  have hW := Whole.new w 9 #[.string s]
  refine .inr ⟨w.heap.size, 0, 1, rfl, hW.lt, fun j hj => ?_⟩
  have : j = 0 := by simp at hj; omega
  subst this
  exact hW.cell 0
theorem TxtAt.slice {w : World} {v : Value} {l : List ByteArray} (h : TxtAt w v l) : ∃ a c, v = .slice a l.length c := by
  rcases h with ⟨a, c, rfl, rfl⟩ | ⟨b, off, c, rfl, _, _⟩
  · exact ⟨a, c, rfl⟩
  · exact ⟨_, c, rfl⟩
theorem TxtAt.at {w : World} {p : Option Addr} {n c k : Nat} {l : List ByteArray} {y : ByteArray} (h : TxtAt w (.slice p n c) l) (hy : l[k]? = some y) : ∃ b off, p = some ⟨b, off, none⟩ ∧ w.cell? ⟨b, off + k, none⟩ = some (.string y) := by
  rcases h with ⟨a, c, he, rfl⟩ | ⟨b, off, c, he, _, hc⟩
  · simp at hy
  · injection he with he _ _
    refine ⟨b, off, he, ?_⟩
    rw [hc k (List.getElem?_eq_some_iff.1 hy).1, List.getD_eq_getElem?_getD, hy]
    rfl

set_option maxRecDepth 100000 in
set_option maxHeartbeats 1000000 in
theorem sametxt_calls (w : World) (u v : Value) (l : List ByteArray) (hu : TxtAt w u l) (hv : TxtAt w v l) (hl : l.length ≤ 1000000) :
    Calls Tryz.prog 18 #[u, v] w fun e w' => e = .returned (.bool true) ∧ Below w.heap.size w w' := by
  obtain ⟨N, hN⟩ : ∃ N, l.length = N := ⟨_, rfl⟩
  obtain ⟨p, c, hp⟩ := hu.slice
  obtain ⟨p2, c2, hp2⟩ := hv.slice
  rw [hN] at hp hp2 hl
  subst hp hp2
  have HN := Lib.hid hN
  have HU := Lib.hid hu
  have HV := Lib.hid hv
  clear hN hu hv
  go_enter Tryz.func18, Tryz.ntmps18
  go_wp2
  go_loopw [5] (fun i wr => ∃ k : Nat, k ≤ N ∧ i = .int .i64 k ∧ Below w.heap.size w wr) (fun i _ => N - (intOf i).toNat)
  case atStart => exact ⟨0, by omega, rfl, Below.refl _ _⟩
  case round =>
    obtain ⟨k, hk, rfl, hB⟩ := hrel
    by_cases hlt : k < N
    · obtain ⟨y, hy⟩ : ∃ y, l[k]? = some y := ⟨_, List.getElem?_eq_getElem (by rw [HN.out]; exact hlt)⟩
      obtain ⟨b, off, rfl, c0⟩ := (HU.out.low hB).at hy
      obtain ⟨b2, off2, rfl, d0⟩ := (HV.out.low hB).at hy
      have i1 : (k : Int) < (N : Int) := by omega
      have i2 : 0 ≤ (k : Int) ∧ (k : Int) < (N : Int) := by omega
      have s2 : IntKind.i64.wrap ((k : Int) + 1) = (k : Int) + 1 := IntWalk.i64_in _ (by omega)
      have hB2 := hB.trans (((Below.refl wr.heap.size wr).drew).mono hB.size)
      clear hy
      go_wp2
      go_still (by kernel_rfl)
      change Exit.then _ _ Exit.normal _ wr.drew
      clear c0 d0
      generalize wr.drew = w2 at hB2 ⊢
      go_wp2
      go_roundw
      case rel => exact ⟨k + 1, by omega, by go_num, hB2⟩
      case measure => simp [intOf]; omega
    · obtain rfl : k = N := by omega
      have i1 : ¬ (k : Int) < (k : Int) := by omega
      go_wp2
      go_ret
      exact ⟨rfl, hB⟩


/-- Bytes of the call's own that the disk does not touch. -/
def Free (w : World) (S : Nat → Prop) (v : Value) (xs : List (BitVec 8)) : Prop := (∃ B, Own w B v xs) ∧ ∀ g, v.ownBlock = some g → ¬ S g
theorem Free.new {w w' : World} {S : Nat → Prop} {v : Value} {xs : List (BitVec 8)} (h : Own w' w.heap.size v xs) (hS : ∀ i, S i → i < w.heap.size) : Free w' S v xs := ⟨⟨_, h⟩, fun g hg e => by
  have h1 := hS g e
  have h2 := own_ge h hg
  omega⟩
theorem Free.low {w w' : World} {S : Nat → Prop} {v : Value} {xs : List (BitVec 8)} (h : Free w S v xs) (hb : Below w.heap.size w w') : Free w' S v xs := by
  obtain ⟨⟨B, h1⟩, h2⟩ := h
  exact ⟨⟨B, row_low h1 hb⟩, h2⟩
theorem Free.on {w w' : World} {S S' : Nat → Prop} {v : Value} {xs : List (BitVec 8)} (h : Free w S v xs) (ho : Only w w' S) (hs : ∀ i, i < w.heap.size → S' i → S i) : Free w' S' v xs := by
  obtain ⟨⟨B, h1⟩, h2⟩ := h
  exact ⟨⟨B, row_only h1 ho h2⟩, fun g hg e => h2 g hg (hs g (row_lt h1 hg) e)⟩
theorem Free.slice {w : World} {S : Nat → Prop} {v : Value} {xs : List (BitVec 8)} (h : Free w S v xs) : SliceIs w v xs := by
  obtain ⟨⟨B, h1⟩, _⟩ := h
  exact Own.slice h1

/-- Texts of the call's own that the disk does not touch. -/
def FreeT (w : World) (S : Nat → Prop) (v : Value) (ss : List (List UInt8)) : Prop := (∃ B, w.ownsRow B 9 1 v ss.length (ss.map encStr)) ∧ ∀ g, v.ownBlock = some g → ¬ S g
theorem FreeT.new {w w' : World} {S : Nat → Prop} {v : Value} {ss : List (List UInt8)} (h : w'.ownsRow w.heap.size 9 1 v ss.length (ss.map encStr)) (hS : ∀ i, S i → i < w.heap.size) : FreeT w' S v ss := ⟨⟨_, h⟩, fun g hg e => by
  have h1 := hS g e
  have h2 := own_ge h hg
  omega⟩
theorem FreeT.low {w w' : World} {S : Nat → Prop} {v : Value} {ss : List (List UInt8)} (h : FreeT w S v ss) (hb : Below w.heap.size w w') : FreeT w' S v ss := by
  obtain ⟨⟨B, h1⟩, h2⟩ := h
  exact ⟨⟨B, row_low h1 hb⟩, h2⟩
theorem FreeT.on {w w' : World} {S S' : Nat → Prop} {v : Value} {ss : List (List UInt8)} (h : FreeT w S v ss) (ho : Only w w' S) (hs : ∀ i, i < w.heap.size → S' i → S i) : FreeT w' S' v ss := by
  obtain ⟨⟨B, h1⟩, h2⟩ := h
  exact ⟨⟨B, row_only h1 ho h2⟩, fun g hg e => h2 g hg (hs g (row_lt h1 hg) e)⟩
theorem FreeT.at {w : World} {S : Nat → Prop} {v : Value} {ss : List (List UInt8)} (h : FreeT w S v ss) : TxtAt w v (ss.map fun x => ⟨x.toArray⟩) := by
  obtain ⟨⟨B, h1⟩, _⟩ := h
  exact TxtAt.of_row h1

end Go.Proofs.YtmmlpbepaefamaaGreatDoor
