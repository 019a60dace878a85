/- What a book allows hangs on no order of what was added. -/
import Derived.Test.YtglcingpolpkdaaABookOpsX2
namespace Go.Proofs.Ytglcingpolpkdaa
open Go.RowKit

theorem ba_eq {a b : ByteArray} (h : a.toList = b.toList) : a = b := by
  rw [Lib.toList_data, Lib.toList_data] at h
  exact Go.WideShapes.bytes_inj h
theorem eqR_iff {r s : Rl} : eqR r s = true ↔ r = s := by
  unfold eqR
  constructor
  · intro h
    simp only [Bool.and_eq_true, beq_iff_eq] at h
    obtain ⟨h1, h2, h3, h4⟩ := h
    obtain ⟨a, b, c, d⟩ := r
    obtain ⟨e, f, g, i⟩ := s
    have h1 := ba_eq h1
    have h3 := ba_eq h3
    simp only at h1 h2 h3 h4
    rw [h1, h2, h3, h4]
  · rintro rfl
    simp
theorem eqM_iff {p q : ByteArray × ByteArray} : eqM p q = true ↔ p = q := by
  unfold eqM
  constructor
  · intro h
    simp only [Bool.and_eq_true, beq_iff_eq] at h
    exact Prod.ext (ba_eq h.1) (ba_eq h.2)
  · rintro rfl
    simp
theorem hasR_iff {l : List Rl} {r : Rl} : hasR l r = true ↔ r ∈ l := by
  unfold hasR
  rw [List.any_eq_true]
  exact ⟨fun ⟨s, hs, he⟩ => eqR_iff.1 he ▸ hs, fun h => ⟨r, h, eqR_iff.2 rfl⟩⟩
theorem hasM_iff {l : List (ByteArray × ByteArray)} {p : ByteArray × ByteArray} : hasM l p = true ↔ p ∈ l := by
  unfold hasM
  rw [List.any_eq_true]
  exact ⟨fun ⟨s, hs, he⟩ => eqM_iff.1 he ▸ hs, fun h => ⟨p, h, eqM_iff.2 rfl⟩⟩

def rulesT (ts : List Tn) (n : ByteArray) : List Rl := match getT ts n with | none => [] | some (_, t) => t.rules
def memsT (ts : List Tn) (n : ByteArray) : List (ByteArray × ByteArray) := match getT ts n with | none => [] | some (_, t) => t.ms
def isT (ts : List Tn) (n : ByteArray) : Bool := (getT ts n).isSome

theorem allowed_nil (ms : List (ByteArray × ByteArray)) (who : ByteArray) (what : Int) (key : ByteArray) : allowedB [] ms who what key = false := by
  simp [allowedB, anyAbout]
theorem allowT_eq (ts : List Tn) (n who : ByteArray) (what : Int) (key : ByteArray) : allowT ts n who what key = allowedB (rulesT ts n) (memsT ts n) who what key := by
  unfold allowT rulesT memsT
  cases getT ts n with
  | none => exact (allowed_nil _ _ _ _).symm
  | some p => rfl

theorem getT_set : ∀ (ts : List Tn) (i : Nat) (t t' : Tn) (n : ByteArray), ts[i]? = some t → t'.name = t.name → getT (ts.set i t') n = (getT ts n).map fun p => (p.1, if p.1 = i then t' else p.2)
  | [], _, _, _, _, h, _ => by simp at h
  | s :: ts, 0, t, t', n, h, hn => by
    have : s = t := by simpa using h
    subst this
    rw [List.set_cons_zero]
    unfold getT
    rw [hn]
    by_cases he : s.name = n
    · simp [he]
    · rw [if_neg he, if_neg he]
      cases getT ts n with
      | none => rfl
      | some p => simp
  | s :: ts, i + 1, t, t', n, h, hn => by
    have ih := getT_set ts i t t' n (by simpa using h) hn
    rw [List.set_cons_succ]
    unfold getT
    by_cases he : s.name = n
    · simp [he]
    · rw [if_neg he, if_neg he, ih]
      cases getT ts n with
      | none => rfl
      | some p => simp

/-- A tenant that is found under its name is turned: what is found under each name then. -/
theorem set_T {ts : List Tn} {name : ByteArray} {i : Nat} {t t' : Tn} (h : getT ts name = some (i, t)) (hn : t'.name = t.name) (n : ByteArray) :
    isT (ts.set i t') n = isT ts n ∧ rulesT (ts.set i t') n = (if n = name then t'.rules else rulesT ts n) ∧ memsT (ts.set i t') n = (if n = name then t'.ms else memsT ts n) := by
  obtain ⟨h1, h2⟩ := getT_at h
  have hs := getT_set ts i t t' n h1 hn
  unfold isT rulesT memsT
  rw [hs]
  by_cases he : n = name
  · subst he
    rw [h]
    simp
  · cases hg : getT ts n with
    | none => simp [he]
    | some p =>
      obtain ⟨j, u⟩ := p
      have hj : j ≠ i := by
        intro hj
        subst hj
        obtain ⟨h3, h4⟩ := getT_at hg
        rw [h1] at h3
        injection h3 with h3
        subst h3
        exact he (h4.symm.trans h2)
      simp [he, hj]

theorem isT_iff {ts : List Tn} {n : ByteArray} : isT ts n = true ↔ ∃ i t, getT ts n = some (i, t) := by
  unfold isT
  cases getT ts n with
  | none => simp
  | some p => exact ⟨fun _ => ⟨p.1, p.2, rfl⟩, fun _ => rfl⟩

/-- The call adds the rule; the member. -/
def addsR (a : Ac) (n : ByteArray) (r : Rl) : Prop := a.kind = 3 ∧ a.tenant = n ∧ a.r = r ∧ mayB r = true
def addsM (a : Ac) (n : ByteArray) (p : ByteArray × ByteArray) : Prop := a.kind = 1 ∧ a.tenant = n ∧ (a.role, a.who) = p ∧ (nameB a.role && nameB a.who) = true

theorem step_T (ts : List Tn) (a : Ac) (ha : a.kind = 1 ∨ a.kind = 3) (n : ByteArray) :
    isT (doT ts a) n = isT ts n ∧ (∀ r, r ∈ rulesT (doT ts a) n ↔ r ∈ rulesT ts n ∨ (isT ts n = true ∧ addsR a n r)) ∧ (∀ p, p ∈ memsT (doT ts a) n ↔ p ∈ memsT ts n ∨ (isT ts n = true ∧ addsM a n p)) := by
  rcases ha with hk | hk
  · have e : doT ts a = (joinT ts a.tenant a.role a.who).2 := by
      unfold doT
      rw [if_neg (by omega), if_pos hk]
    have noR : ∀ r, ¬ addsR a n r := fun r h => by
      have := h.1
      omega
    rw [e]
    unfold joinT
    by_cases hb : (nameB a.role && nameB a.who) = false
    · rw [if_pos hb]
      refine ⟨rfl, fun r => ⟨.inl, fun h => h.elim id fun h => absurd h.2 (noR r)⟩, fun p => ⟨.inl, fun h => h.elim id fun h => ?_⟩⟩
      have := h.2.2.2.2
      rw [hb] at this
      cases this
    · rw [if_neg hb]
      cases hg : getT ts a.tenant with
      | none =>
        refine ⟨rfl, fun r => ⟨.inl, fun h => h.elim id fun h => absurd h.2 (noR r)⟩, fun p => ⟨.inl, fun h => h.elim id fun h => ?_⟩⟩
        obtain ⟨i, t, h1⟩ := isT_iff.1 h.1
        rw [← h.2.2.1, hg] at h1
        cases h1
      | some q =>
        obtain ⟨i, t⟩ := q
        show isT (if hasM t.ms (a.role, a.who) = true then ((7 : Int), ts) else (0, ts.set i ⟨t.name, t.rules, t.ms ++ [(a.role, a.who)]⟩)).2 n = isT ts n ∧ (∀ r, r ∈ rulesT (if hasM t.ms (a.role, a.who) = true then ((7 : Int), ts) else (0, ts.set i ⟨t.name, t.rules, t.ms ++ [(a.role, a.who)]⟩)).2 n ↔ _) ∧ (∀ p, p ∈ memsT (if hasM t.ms (a.role, a.who) = true then ((7 : Int), ts) else (0, ts.set i ⟨t.name, t.rules, t.ms ++ [(a.role, a.who)]⟩)).2 n ↔ _)
        by_cases hh : hasM t.ms (a.role, a.who) = true
        · rw [if_pos hh]
          refine ⟨rfl, fun r => ⟨.inl, fun h => h.elim id fun h => absurd h.2 (noR r)⟩, fun p => ⟨.inl, fun h => h.elim id fun h => ?_⟩⟩
          have h1 := h.2.2.1
          have h2 := h.2.2.2.1
          show p ∈ memsT ts n
          unfold memsT
          rw [← h1, hg, ← h2]
          exact hasM_iff.1 hh
        · rw [if_neg hh]
          obtain ⟨s1, s2, s3⟩ := set_T (t' := ⟨t.name, t.rules, t.ms ++ [(a.role, a.who)]⟩) hg rfl n
          refine ⟨s1, fun r => ?_, fun p => ?_⟩
          · rw [show rulesT (ts.set i ⟨t.name, t.rules, t.ms ++ [(a.role, a.who)]⟩) n = rulesT ts n by
              rw [s2]
              split
              · rename_i hn
                unfold rulesT
                rw [hn, hg]
              · rfl]
            exact ⟨.inl, fun h => h.elim id fun h => absurd h.2 (noR r)⟩
          · show p ∈ memsT (ts.set i ⟨t.name, t.rules, t.ms ++ [(a.role, a.who)]⟩) n ↔ _
            rw [s3]
            by_cases hn : n = a.tenant
            · have hm : memsT ts n = t.ms := by
                unfold memsT
                rw [hn, hg]
              have hi : isT ts n = true := isT_iff.2 ⟨i, t, by rw [hn]; exact hg⟩
              rw [if_pos hn, hm, List.mem_append, List.mem_singleton]
              refine ⟨fun h => h.imp id fun h => ⟨hi, hk, hn.symm, h.symm, by simpa using hb⟩, fun h => h.imp id fun h => h.2.2.2.1.symm⟩
            · rw [if_neg hn]
              exact ⟨.inl, fun h => h.elim id fun h => absurd h.2.2.1.symm hn⟩
  · have e : doT ts a = (grantT ts a.tenant a.r).2 := by
      unfold doT
      rw [if_neg (by omega), if_neg (by omega), if_pos hk]
    have noM : ∀ p, ¬ addsM a n p := fun p h => by
      have := h.1
      omega
    rw [e]
    unfold grantT
    by_cases hb : mayB a.r = false
    · rw [if_pos hb]
      refine ⟨rfl, fun r => ⟨.inl, fun h => h.elim id fun h => ?_⟩, fun p => ⟨.inl, fun h => h.elim id fun h => absurd h.2 (noM p)⟩⟩
      have h1 := h.2.2.2.2
      rw [← h.2.2.2.1, hb] at h1
      cases h1
    · rw [if_neg hb]
      cases hg : getT ts a.tenant with
      | none =>
        refine ⟨rfl, fun r => ⟨.inl, fun h => h.elim id fun h => ?_⟩, fun p => ⟨.inl, fun h => h.elim id fun h => absurd h.2 (noM p)⟩⟩
        obtain ⟨i, t, h1⟩ := isT_iff.1 h.1
        rw [← h.2.2.1, hg] at h1
        cases h1
      | some q =>
        obtain ⟨i, t⟩ := q
        show isT (if hasR t.rules a.r = true then ((7 : Int), ts) else (0, ts.set i ⟨t.name, t.rules ++ [a.r], t.ms⟩)).2 n = isT ts n ∧ (∀ r, r ∈ rulesT (if hasR t.rules a.r = true then ((7 : Int), ts) else (0, ts.set i ⟨t.name, t.rules ++ [a.r], t.ms⟩)).2 n ↔ _) ∧ (∀ p, p ∈ memsT (if hasR t.rules a.r = true then ((7 : Int), ts) else (0, ts.set i ⟨t.name, t.rules ++ [a.r], t.ms⟩)).2 n ↔ _)
        by_cases hh : hasR t.rules a.r = true
        · rw [if_pos hh]
          refine ⟨rfl, fun r => ⟨.inl, fun h => h.elim id fun h => ?_⟩, fun p => ⟨.inl, fun h => h.elim id fun h => absurd h.2 (noM p)⟩⟩
          have h1 := h.2.2.1
          have h2 := h.2.2.2.1
          show r ∈ rulesT ts n
          unfold rulesT
          rw [← h1, hg, ← h2]
          exact hasR_iff.1 hh
        · rw [if_neg hh]
          obtain ⟨s1, s2, s3⟩ := set_T (t' := ⟨t.name, t.rules ++ [a.r], t.ms⟩) hg rfl n
          refine ⟨s1, fun r => ?_, fun p => ?_⟩
          · show r ∈ rulesT (ts.set i ⟨t.name, t.rules ++ [a.r], t.ms⟩) n ↔ _
            rw [s2]
            by_cases hn : n = a.tenant
            · have hm : rulesT ts n = t.rules := by
                unfold rulesT
                rw [hn, hg]
              have hi : isT ts n = true := isT_iff.2 ⟨i, t, by rw [hn]; exact hg⟩
              rw [if_pos hn, hm, List.mem_append, List.mem_singleton]
              refine ⟨fun h => h.imp id fun h => ⟨hi, hk, hn.symm, h.symm, by rw [h]; simpa using hb⟩, fun h => h.imp id fun h => h.2.2.2.1.symm⟩
            · rw [if_neg hn]
              exact ⟨.inl, fun h => h.elim id fun h => absurd h.2.2.1.symm hn⟩
          · rw [show memsT (ts.set i ⟨t.name, t.rules ++ [a.r], t.ms⟩) n = memsT ts n by
              rw [s3]
              split
              · rename_i hn
                unfold memsT
                rw [hn, hg]
              · rfl]
            exact ⟨.inl, fun h => h.elim id fun h => absurd h.2 (noM p)⟩

theorem fold_T (n : ByteArray) : ∀ (l : List Ac) (ts : List Tn), (∀ a ∈ l, a.kind = 1 ∨ a.kind = 3) →
    isT (l.foldl doT ts) n = isT ts n ∧ (∀ r, r ∈ rulesT (l.foldl doT ts) n ↔ r ∈ rulesT ts n ∨ (isT ts n = true ∧ ∃ a ∈ l, addsR a n r)) ∧ (∀ p, p ∈ memsT (l.foldl doT ts) n ↔ p ∈ memsT ts n ∨ (isT ts n = true ∧ ∃ a ∈ l, addsM a n p))
  | [], ts, _ => by simp
  | a :: l, ts, h => by
    obtain ⟨h1, h2, h3⟩ := step_T ts a (h a (by simp)) n
    obtain ⟨i1, i2, i3⟩ := fold_T n l (doT ts a) fun b hb => h b (by simp [hb])
    rw [List.foldl_cons]
    refine ⟨i1.trans h1, fun r => ?_, fun p => ?_⟩
    · rw [i2, h2, h1]
      simp only [List.mem_cons, exists_eq_or_imp]
      constructor
      · rintro ((h | ⟨h, h'⟩) | ⟨h, h'⟩)
        · exact .inl h
        · exact .inr ⟨h, .inl h'⟩
        · exact .inr ⟨h, .inr h'⟩
      · rintro (h | ⟨h, h' | h'⟩)
        · exact .inl (.inl h)
        · exact .inl (.inr ⟨h, h'⟩)
        · exact .inr ⟨h, h'⟩
    · rw [i3, h3, h1]
      simp only [List.mem_cons, exists_eq_or_imp]
      constructor
      · rintro ((h | ⟨h, h'⟩) | ⟨h, h'⟩)
        · exact .inl h
        · exact .inr ⟨h, .inl h'⟩
        · exact .inr ⟨h, .inr h'⟩
      · rintro (h | ⟨h, h' | h'⟩)
        · exact .inl (.inl h)
        · exact .inl (.inr ⟨h, h'⟩)
        · exact .inr ⟨h, h'⟩

theorem any_same {l m : List Rl} (h : ∀ r, r ∈ l ↔ r ∈ m) (f : Rl → Bool) : l.any f = m.any f := by
  rw [Bool.eq_iff_iff, List.any_eq_true, List.any_eq_true]
  exact ⟨fun ⟨r, hr, hf⟩ => ⟨r, (h r).1 hr, hf⟩, fun ⟨r, hr, hf⟩ => ⟨r, (h r).2 hr, hf⟩⟩
theorem roles_same {l m : List (ByteArray × ByteArray)} (h : ∀ p, p ∈ l ↔ p ∈ m) (who x : ByteArray) : Lib.containsS (rolesOf l who) x = Lib.containsS (rolesOf m who) x := by
  rw [Bool.eq_iff_iff, Lib.containsS_iff, Lib.containsS_iff]
  unfold rolesOf
  simp only [List.mem_map, List.mem_filter, h]
theorem allowed_same {l m : List Rl} {k j : List (ByteArray × ByteArray)} (h : ∀ r, r ∈ l ↔ r ∈ m) (hp : ∀ p, p ∈ k ↔ p ∈ j) (who : ByteArray) (what : Int) (key : ByteArray) : allowedB l k who what key = allowedB m j who what key := by
  have e : ∀ deny, anyAbout l (rolesOf k who) who what key deny = anyAbout m (rolesOf j who) who what key deny := fun deny => by
    unfold anyAbout
    rw [any_same h]
    congr 1
    funext r
    unfold aboutB
    rw [roles_same hp]
  unfold allowedB
  rw [e, e]

/-- Calls that only add, in any order, allow the same. -/
theorem turned_same (opens adds other : List Ac) (ha : ∀ a ∈ adds, a.kind = 1 ∨ a.kind = 3) (h : ∀ a, a ∈ other ↔ a ∈ adds) (n who : ByteArray) (what : Int) (key : ByteArray) :
    allowT ((opens ++ adds).foldl doT []) n who what key = allowT ((opens ++ other).foldl doT []) n who what key := by
  rw [allowT_eq, allowT_eq, List.foldl_append, List.foldl_append]
  obtain ⟨_, r1, m1⟩ := fold_T n adds (opens.foldl doT []) ha
  obtain ⟨_, r2, m2⟩ := fold_T n other (opens.foldl doT []) fun a h1 => ha a ((h a).1 h1)
  refine allowed_same (fun r => ?_) (fun p => ?_) who what key
  · rw [r1, r2]
    simp only [h]
  · rw [m1, m2]
    simp only [h]

/-- Two of a list are exchanged. -/
theorem swap_mem {α : Type} (l : List α) (x y : Nat) (u v : α) (hx : l[x]? = some u) (hy : l[y]? = some v) (a : α) : a ∈ (l.set x v).set y u ↔ a ∈ l := by
  have lx : x < l.length := (List.getElem?_eq_some_iff.1 hx).1
  have ly : y < l.length := (List.getElem?_eq_some_iff.1 hy).1
  have get : ∀ j, ((l.set x v).set y u)[j]? = if j = y then some u else if j = x then some v else l[j]? := fun j => by
    by_cases h1 : j = y
    · subst h1
      rw [if_pos rfl, List.getElem?_set_self (by simpa using ly)]
    · rw [if_neg h1, List.getElem?_set_ne (Ne.symm h1)]
      by_cases h2 : j = x
      · subst h2
        rw [if_pos rfl, List.getElem?_set_self lx]
      · rw [if_neg h2, List.getElem?_set_ne (Ne.symm h2)]
  constructor
  · intro h
    obtain ⟨j, hj⟩ := List.mem_iff_getElem?.1 h
    rw [get] at hj
    split at hj
    · injection hj with hj
      exact hj ▸ List.mem_of_getElem? hx
    · split at hj
      · injection hj with hj
        exact hj ▸ List.mem_of_getElem? hy
      · exact List.mem_of_getElem? hj
  · intro h
    obtain ⟨j, hj⟩ := List.mem_iff_getElem?.1 h
    by_cases h1 : j = x
    · subst h1
      rw [hx] at hj
      refine List.mem_iff_getElem?.2 ⟨y, ?_⟩
      rw [get, if_pos rfl, hj]
    · by_cases h2 : j = y
      · subst h2
        rw [hy] at hj
        refine List.mem_iff_getElem?.2 ⟨x, ?_⟩
        rw [get, if_neg (Ne.symm h1), if_pos rfl, hj]
      · refine List.mem_iff_getElem?.2 ⟨j, ?_⟩
        rw [get, if_neg h2, if_neg h1, hj]

/-- The lists of a book grow by no more than one at a call. -/
theorem Small.mono {k n : Nat} {ts : List Tn} (h : Small k ts) (hk : k ≤ n) : Small n ts := ⟨by have := h.1; omega, fun t ht => by
  have h2 := h.2 t ht
  exact ⟨by omega, by omega, h2.2.2⟩⟩
theorem small_set {k i : Nat} {ts : List Tn} {t t' : Tn} (h : Small k ts) (_ : ts[i]? = some t) (hr : t'.rules.length ≤ k + 1) (hm : t'.ms.length ≤ k + 1) (hz : ∀ r ∈ t'.rules, r.key.size ≤ 9223372036854775807) : Small (k + 1) (ts.set i t') := by
  refine ⟨by rw [List.length_set]; have := h.1; omega, fun u hu => ?_⟩
  rcases List.mem_or_eq_of_mem_set hu with hu | rfl
  · exact (h.mono (Nat.le_succ k)).2 u hu
  · exact ⟨hr, hm, hz⟩
theorem doT_small {k : Nat} {ts : List Tn} {a : Ac} (h : Small k ts) (hz : a.r.key.size ≤ 9223372036854775807) : Small (k + 1) (doT ts a) := by
  have keep : Small (k + 1) ts := h.mono (Nat.le_succ k)
  unfold doT
  split
  · unfold openT
    split
    · exact keep
    · cases getT ts a.tenant with
      | some p => exact keep
      | none =>
        refine ⟨by show (ts ++ _).length ≤ _; have := h.1; simp; omega, fun t ht => ?_⟩
        have ht : t ∈ ts ++ [⟨a.tenant, [], []⟩] := ht
        rcases List.mem_append.1 ht with ht | ht
        · exact keep.2 t ht
        · rw [List.mem_singleton.1 ht]
          exact ⟨by simp, by simp, by simp⟩
  · split
    · unfold joinT
      split
      · exact keep
      · cases hg : getT ts a.tenant with
        | none => exact keep
        | some p =>
          obtain ⟨i, t⟩ := p
          have ht := (getT_at hg).1
          have h1 := h.2 t (List.mem_of_getElem? ht)
          show Small (k + 1) (if hasM t.ms (a.role, a.who) = true then ((7 : Int), ts) else (0, ts.set i ⟨t.name, t.rules, t.ms ++ [(a.role, a.who)]⟩)).2
          split
          · exact keep
          · exact small_set h ht (by show t.rules.length ≤ _; omega) (by simp; omega) h1.2.2
    · split
      · unfold grantT
        split
        · exact keep
        · cases hg : getT ts a.tenant with
          | none => exact keep
          | some p =>
            obtain ⟨i, t⟩ := p
            have ht := (getT_at hg).1
            have h1 := h.2 t (List.mem_of_getElem? ht)
            show Small (k + 1) (if hasR t.rules a.r = true then ((7 : Int), ts) else (0, ts.set i ⟨t.name, t.rules ++ [a.r], t.ms⟩)).2
            split
            · exact keep
            · refine small_set h ht (by simp; omega) (by show t.ms.length ≤ _; omega) fun r hr => ?_
              have hr : r ∈ t.rules ++ [a.r] := hr
              rcases List.mem_append.1 hr with hr | hr
              · exact h1.2.2 r hr
              · rw [List.mem_singleton.1 hr]
                exact hz
      · exact keep

end Go.Proofs.Ytglcingpolpkdaa
