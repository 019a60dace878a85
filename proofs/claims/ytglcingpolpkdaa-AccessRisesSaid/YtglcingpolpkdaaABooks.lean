/- A book of several tenants in memory. -/
import Derived.Test.YtglcingpolpkdaaAThereM
namespace Go.Proofs.Ytglcingpolpkdaa
open Go.RowKit

/-- A tenant, and where it lies. -/
structure Tn where
  name : ByteArray
  rules : List Rl
  ms : List (ByteArray × ByteArray)
structure Ad where
  t : Nat
  mi : Nat
  rv : Value
  mv : Value
/-- The blocks of a tenant. -/
def Ad.foot (a : Ad) (k : Nat) : Prop := k = a.t ∨ k = a.mi ∨ a.rv.ownBlock = some k ∨ a.mv.ownBlock = some k
def entries (ts : List Tn) (ads : List Ad) : List (ByteArray × Value) := List.zipWith (fun t a => (t.name, Value.pointer (some ⟨a.t, 0, none⟩))) ts ads

structure Books (W w : World) (b m : Nat) (nv : Value) (ts : List Tn) (ads : List Ad) : Prop where
  len : ads.length = ts.length
  book : BookAt W w b m nv (ts.map Tn.name) (entries ts ads)
  each : ∀ (i : Nat) (t : Tn) (a : Ad), ts[i]? = some t → ads[i]? = some a → TenOwn W w a.t a.rv a.mv a.mi t.rules t.ms
  apart : ∀ (i j : Nat) (a c : Ad) (k : Nat), ads[i]? = some a → ads[j]? = some c → a.foot k → c.foot k → i = j
  off : ∀ (i : Nat) (a : Ad) (k : Nat), ads[i]? = some a → a.foot k → k ≠ b ∧ k ≠ m ∧ nv.ownBlock ≠ some k
/-- A book with these tenants. -/
def BookIs (W w : World) (b : Nat) (ts : List Tn) : Prop := ∃ m nv ads, Books W w b m nv ts ads

theorem row_lt {w : World} {B n size : Nat} {e : TypeId} {v : Value} {xs : List Value} (h : w.ownsRow B e size v n xs) {g : Nat} (hg : v.ownBlock = some g) : g < w.heap.size := by
  obtain ⟨c, hc⟩ := row_type h hg
  exact (Array.getElem?_eq_some_iff.1 hc).1
theorem TenOwn.foot_lt {W w : World} {a : Ad} {rules : List Rl} {ms : List (ByteArray × ByteArray)} (h : TenOwn W w a.t a.rv a.mv a.mi rules ms) {k : Nat} (hk : a.foot k) : k < w.heap.size := by
  obtain ⟨e, c, hi, _⟩ := h.isIn
  rcases hk with rfl | rfl | hk | hk
  · exact h.ten.lt
  · exact (Array.getElem?_eq_some_iff.1 hi).1
  · exact row_lt h.rules hk
  · exact row_lt h.mems hk
theorem TenOwn.only {W w w' : World} {S : Nat → Prop} {a : Ad} {rules : List Rl} {ms : List (ByteArray × ByteArray)} (h : TenOwn W w a.t a.rv a.mv a.mi rules ms) (ho : Only w w' S) (hs : ∀ k, a.foot k → ¬ S k) : TenOwn W w' a.t a.rv a.mv a.mi rules ms :=
  ⟨h.ten.only ho (hs _ (.inl rfl)), row_only h.rules ho (fun g hg => hs g (.inr (.inr (.inl hg)))), row_only h.mems ho (fun g hg => hs g (.inr (.inr (.inr hg)))), h.isIn.only ho (hs _ (.inr (.inl rfl))), h.get, h.gei⟩
theorem Books.on {W w w' : World} {b m : Nat} {nv : Value} {ts : List Tn} {ads : List Ad} (h : Books W w b m nv ts ads) (hb : Below w.heap.size w w') : Books W w' b m nv ts ads :=
  ⟨h.len, h.book.on hb, fun i t a ht ha => (h.each i t a ht ha).on hb, h.apart, h.off⟩
theorem BookIs.on {W w w' : World} {b : Nat} {ts : List Tn} (h : BookIs W w b ts) (hb : Below w.heap.size w w') : BookIs W w' b ts := by
  obtain ⟨m, nv, ads, h⟩ := h
  exact ⟨m, nv, ads, h.on hb⟩

/-- The first tenant of a name. -/
def getT : List Tn → ByteArray → Option (Nat × Tn)
  | [], _ => none
  | t :: ts, n => if t.name = n then some (0, t) else (getT ts n).map fun p => (p.1 + 1, p.2)
theorem getT_at : ∀ {ts : List Tn} {n : ByteArray} {i : Nat} {t : Tn}, getT ts n = some (i, t) → ts[i]? = some t ∧ t.name = n
  | [], _, _, _, h => by cases h
  | s :: ts, n, i, t, h => by
    unfold getT at h
    split at h
    · rename_i hs
      injection h with h
      injection h with h1 h2
      subst h1 h2
      exact ⟨rfl, hs⟩
    · obtain ⟨⟨j, u⟩, hj, he⟩ := Option.map_eq_some_iff.1 h
      injection he with h1 h2
      subst h1 h2
      obtain ⟨h3, h4⟩ := getT_at hj
      exact ⟨by simpa using h3, h4⟩
theorem find_entries : ∀ (ts : List Tn) (ads : List Ad) (n : ByteArray), ads.length = ts.length → findS (entries ts ads) n = (getT ts n).bind fun p => (ads[p.1]?).map fun a => Value.pointer (some ⟨a.t, 0, none⟩)
  | [], _, _, _ => by simp [entries, findS, getT]
  | t :: ts, [], _, h => by simp at h
  | t :: ts, a :: ads, n, h => by
    have ih := find_entries ts ads n (by simpa using h)
    have e : entries (t :: ts) (a :: ads) = (t.name, Value.pointer (some ⟨a.t, 0, none⟩)) :: entries ts ads := rfl
    rw [e]
    unfold findS getT
    by_cases hn : t.name = n
    · simp [hn]
    · rw [if_neg hn, if_neg hn, ih]
      cases getT ts n with
      | none => rfl
      | some p => simp

/-- One tenant is turned. -/
theorem Books.step {W w w' : World} {b m i : Nat} {nv : Value} {ts : List Tn} {ads : List Ad} {t t' : Tn} {a a' : Ad} {S : Nat → Prop} (h : Books W w b m nv ts ads) (ht : ts[i]? = some t) (ha : ads[i]? = some a) (hn : t'.name = t.name) (hat : a'.t = a.t)
    (hB : BookAt W w' b m nv (ts.map Tn.name) (entries ts ads)) (hT : TenOwn W w' a'.t a'.rv a'.mv a'.mi t'.rules t'.ms) (ho : Only w w' S) (hS : ∀ k, S k → a.foot k) (hf : ∀ k, a'.foot k → a.foot k ∨ w.heap.size ≤ k) :
    Books W w' b m nv (ts.set i t') (ads.set i a') := by
  have hi : i < ts.length := (List.getElem?_eq_some_iff.1 ht).1
  have hia : i < ads.length := (List.getElem?_eq_some_iff.1 ha).1
  have low : ∀ (j : Nat) (c : Ad) (k : Nat), ads[j]? = some c → c.foot k → k < w.heap.size := fun j c k hc hk => by
    have hj : j < ts.length := by rw [← h.len]; exact (List.getElem?_eq_some_iff.1 hc).1
    exact (h.each j _ c (List.getElem?_eq_getElem hj) hc).foot_lt hk
  have fresh : ∀ (j : Nat) (c : Ad) (k : Nat), ads[j]? = some c → a'.foot k → c.foot k → i = j := fun j c k hc h1 h2 => by
    rcases hf k h1 with h1 | h1
    · exact h.apart i j a c k ha hc h1 h2
    · have := low j c k hc h2
      omega
  have get' : ∀ (j : Nat) (c : Ad), (ads.set i a')[j]? = some c → (j = i ∧ c = a') ∨ (j ≠ i ∧ ads[j]? = some c) := fun j c hc => by
    by_cases hj : j = i
    · subst hj
      rw [List.getElem?_set_self hia] at hc
      exact .inl ⟨rfl, by injection hc with hc; exact hc.symm⟩
    · rw [List.getElem?_set_ne (Ne.symm hj)] at hc
      exact .inr ⟨hj, hc⟩
  have gett : ∀ (j : Nat) (c : Tn), (ts.set i t')[j]? = some c → (j = i ∧ c = t') ∨ (j ≠ i ∧ ts[j]? = some c) := fun j c hc => by
    by_cases hj : j = i
    · subst hj
      rw [List.getElem?_set_self hi] at hc
      exact .inl ⟨rfl, by injection hc with hc; exact hc.symm⟩
    · rw [List.getElem?_set_ne (Ne.symm hj)] at hc
      exact .inr ⟨hj, hc⟩
  have hmap : (ts.set i t').map Tn.name = ts.map Tn.name := by
    rw [List.map_set, hn]
    apply List.ext_getElem?
    intro j
    by_cases hj : j = i
    · subst hj
      rw [List.getElem?_set_self (by simpa using hi), List.getElem?_map, ht]
      rfl
    · rw [List.getElem?_set_ne (Ne.symm hj)]
  have hent : entries (ts.set i t') (ads.set i a') = entries ts ads := by
    apply List.ext_getElem?
    intro j
    unfold entries
    rw [List.getElem?_zipWith, List.getElem?_zipWith]
    by_cases hj : j = i
    · subst hj
      rw [List.getElem?_set_self hi, List.getElem?_set_self hia, ht, ha]
      simp [hn, hat]
    · rw [List.getElem?_set_ne (Ne.symm hj), List.getElem?_set_ne (Ne.symm hj)]
  refine ⟨by simp [h.len], ?_, fun j u c hu hc => ?_, fun j k c d x hc hd h1 h2 => ?_, fun j c k hc hk => ?_⟩
  · rw [hmap, hent]
    exact hB
  · rcases get' j c hc with ⟨rfl, rfl⟩ | ⟨hj, hc⟩
    · rcases gett _ u hu with ⟨_, rfl⟩ | ⟨hj, _⟩
      · exact hT
      · exact absurd rfl hj
    · rcases gett _ u hu with ⟨e, _⟩ | ⟨_, hu⟩
      · exact absurd e hj
      · exact (h.each j u c hu hc).only ho fun x hx hs => hj (h.apart i j a c x ha hc (hS x hs) hx).symm
  · rcases get' j c hc with ⟨e1, e2⟩ | ⟨_, hc2⟩
    · rcases get' k d hd with ⟨e3, _⟩ | ⟨_, hd2⟩
      · rw [e1, e3]
      · rw [e1]
        exact fresh k d x hd2 (e2 ▸ h1) h2
    · rcases get' k d hd with ⟨e3, e4⟩ | ⟨_, hd2⟩
      · rw [e3]
        exact (fresh j c x hc2 (e4 ▸ h2) h1).symm
      · exact h.apart j k c d x hc2 hd2 h1 h2
  · rcases get' j c hc with ⟨rfl, rfl⟩ | ⟨_, hc⟩
    · rcases hf k hk with hk | hk
      · exact h.off j a k ha hk
      · have h1 := h.book.book.lt
        have h2 := h.book.all.lt
        refine ⟨by omega, by omega, fun e => ?_⟩
        have := row_lt h.book.names e
        omega
    · exact h.off j c k hc hk


/-- One tenant more. -/
theorem Books.more {W w w' : World} {b m : Nat} {nv nv' : Value} {ts : List Tn} {ads : List Ad} {t mi : Nat} {name : ByteArray} (h : Books W w b m nv ts ads)
    (hB : BookAt W w' b m nv' (ts.map Tn.name ++ [name]) (entries ts ads ++ [(name, .pointer (some ⟨t, 0, none⟩))])) (hT : TenOwn W w' t (.slice none 0 0) (.slice none 0 0) mi [] []) (ho : Only w w' (fun i => i = b ∨ i = m ∨ nv.ownBlock = some i))
    (hf : w.heap.size ≤ t ∧ w.heap.size ≤ mi) : Books W w' b m nv' (ts ++ [⟨name, [], []⟩]) (ads ++ [⟨t, mi, .slice none 0 0, .slice none 0 0⟩]) := by
  have low : ∀ (j : Nat) (c : Ad) (k : Nat), ads[j]? = some c → c.foot k → k < w.heap.size := fun j c k hc hk => by
    have hj : j < ts.length := by rw [← h.len]; exact (List.getElem?_eq_some_iff.1 hc).1
    exact (h.each j _ c (List.getElem?_eq_getElem hj) hc).foot_lt hk
  have new : ∀ k, (Ad.mk t mi (.slice none 0 0) (.slice none 0 0)).foot k → k = t ∨ k = mi := fun k hk => by
    rcases hk with hk | hk | hk | hk
    · exact .inl hk
    · exact .inr hk
    · cases hk
    · cases hk
  have geta : ∀ (j : Nat) (c : Ad), (ads ++ [⟨t, mi, .slice none 0 0, .slice none 0 0⟩])[j]? = some c → ads[j]? = some c ∨ (j = ads.length ∧ c = ⟨t, mi, .slice none 0 0, .slice none 0 0⟩) := fun j c hc => by
    by_cases hj : j < ads.length
    · rw [List.getElem?_append_left hj] at hc
      exact .inl hc
    · rw [List.getElem?_append_right (by omega)] at hc
      have h1 := (List.getElem?_eq_some_iff.1 hc).1
      simp at h1
      have h2 : j = ads.length := by omega
      subst h2
      exact .inr ⟨rfl, by simpa using hc.symm⟩
  refine ⟨by simp [h.len], ?_, fun j u c hu hc => ?_, fun j k c d x hc hd h1 h2 => ?_, fun j c k hc hk => ?_⟩
  · have e : entries (ts ++ [⟨name, [], []⟩]) (ads ++ [⟨t, mi, .slice none 0 0, .slice none 0 0⟩]) = entries ts ads ++ [(name, .pointer (some ⟨t, 0, none⟩))] := by
      unfold entries
      rw [List.zipWith_append h.len.symm]
      rfl
    rw [e, List.map_append]
    exact hB
  · rcases geta j c hc with hc2 | ⟨e1, e2⟩
    · have hj : j < ts.length := by rw [← h.len]; exact (List.getElem?_eq_some_iff.1 hc2).1
      rw [List.getElem?_append_left hj] at hu
      exact (h.each j u c hu hc2).only ho fun k hk hs => by
        have := h.off j c k hc2 hk
        rcases hs with hs | hs | hs
        · exact this.1 hs
        · exact this.2.1 hs
        · exact this.2.2 hs
    · rw [e1, h.len, List.getElem?_append_right (Nat.le_refl _)] at hu
      have hu : u = ⟨name, [], []⟩ := by simpa using hu.symm
      rw [hu, e2]
      exact hT
  · rcases geta j c hc with hc2 | ⟨e1, e2⟩
    · rcases geta k d hd with hd2 | ⟨e3, e4⟩
      · exact h.apart j k c d x hc2 hd2 h1 h2
      · have := low j c x hc2 h1
        rw [e4] at h2
        rcases new x h2 with h2 | h2 <;> omega
    · rcases geta k d hd with hd2 | ⟨e3, e4⟩
      · have := low k d x hd2 h2
        rw [e2] at h1
        rcases new x h1 with h1 | h1 <;> omega
      · rw [e1, e3]
  · have hb := h.book.book.lt
    have hm := h.book.all.lt
    rcases geta j c hc with hc2 | ⟨e1, e2⟩
    · have hoff := h.off j c k hc2 hk
      have hlt := low j c k hc2 hk
      refine ⟨hoff.1, hoff.2.1, fun e => ?_⟩
      have hj : j < ts.length := by rw [← h.len]; exact (List.getElem?_eq_some_iff.1 hc2).1
      have hten := (h.each j _ c (List.getElem?_eq_getElem hj) hc2).only ho fun k hk hs => by
        have := h.off j c k hc2 hk
        rcases hs with hs | hs | hs
        · exact this.1 hs
        · exact this.2.1 hs
        · exact this.2.2 hs
      obtain ⟨cur, h1⟩ := row_type hB.names e
      rcases hk with rfl | rfl | hk | hk
      · exact row_ne_whole hB.names hten.ten (by decide) e
      · obtain ⟨x1, x2, h3, _⟩ := hten.isIn
        exact row_ne_map hB.names h3 e
      · obtain ⟨c2, h2⟩ := row_type hten.rules hk
        rw [h1] at h2
        injection h2 with h2
        injection h2 with _ h2 _
        exact absurd h2 (by decide)
      · obtain ⟨c2, h2⟩ := row_type hten.mems hk
        rw [h1] at h2
        injection h2 with h2
        injection h2 with _ h2 _
        exact absurd h2 (by decide)
    · rw [e2] at hk
      have hk2 := new k hk
      refine ⟨by omega, by omega, fun e => ?_⟩
      rcases hk2 with rfl | rfl
      · exact row_ne_whole hB.names hT.ten (by decide) e
      · obtain ⟨x1, x2, h3, _⟩ := hT.isIn
        exact row_ne_map hB.names h3 e

theorem Books.new {W w : World} {b m : Nat} (h : BookAt W w b m (.slice none 0 0) [] []) : Books W w b m (.slice none 0 0) [] [] :=
  ⟨rfl, h, fun i t a ht _ => by simp at ht, fun i j a c k ha _ _ _ => by simp at ha, fun i a k ha _ => by simp at ha⟩

end Go.Proofs.Ytglcingpolpkdaa
