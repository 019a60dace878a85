/- Each call of a book: the answer ('full' too), what it leaves, what it writes. -/
import Derived.Test.YtglcingpolpkdaaAFull
import Derived.Test.YtglcingpolpkdaaRIxX2
namespace Go.Proofs.Ytglcingpolpkdaa
open Go.RowKit

def grantF (ts : List Tn) (name : ByteArray) (r : Rl) : Int × List Tn :=
  if mayB r = false then (2, ts) else match getT ts name with
    | none => (6, ts)
    | some (i, t) => if hasR t.rules r = true then (7, ts) else if 128 ≤ t.rules.length then (8, ts) else (0, ts.set i ⟨t.name, t.rules ++ [r], t.ms⟩)
def joinF (ts : List Tn) (name role who : ByteArray) : Int × List Tn :=
  if (nameB role && nameB who) = false then (2, ts) else match getT ts name with
    | none => (6, ts)
    | some (i, t) => if hasM t.ms (role, who) = true then (7, ts) else if 256 ≤ t.ms.length then (8, ts) else (0, ts.set i ⟨t.name, t.rules, t.ms ++ [(role, who)]⟩)

/-- No list is longer than it may be, no member is twice there, no key is long. -/
structure Cap (ts : List Tn) : Prop where
  len : ts.length ≤ 64
  rules : ∀ t ∈ ts, t.rules.length ≤ 128
  ms : ∀ t ∈ ts, t.ms.length ≤ 256
  keys : ∀ t ∈ ts, ∀ r ∈ t.rules, r.key.size ≤ 1000000
  nodup : ∀ t ∈ ts, t.ms.Nodup

/-- What a call leaves: the book with other tenants; only the book's own blocks are written; a tenant's blocks are old ones of tenants, or new. -/
def Step (W w w' : World) (b m : Nat) (nv : Value) (ads : List Ad) (ts' : List Tn) : Prop :=
  ∃ nv' ads', Books W w' b m nv' ts' ads' ∧ Only w w' (fun k => k = b ∨ k = m ∨ nv.ownBlock = some k ∨ ∃ a ∈ ads, a.foot k) ∧ ∀ a' ∈ ads', ∀ k, a'.foot k → (∃ a ∈ ads, a.foot k) ∨ w.heap.size ≤ k
theorem Step.same {W w w' : World} {b m : Nat} {nv : Value} {ads : List Ad} {ts : List Tn} (h : Books W w b m nv ts ads) (hb : Below w.heap.size w w') : Step W w w' b m nv ads ts :=
  ⟨nv, ads, h.on hb, Only.of_below hb _, fun a ha _ hk => .inl ⟨a, ha, hk⟩⟩
theorem Step.turn {W w w' : World} {b m i : Nat} {nv : Value} {ts : List Tn} {ads : List Ad} {t t' : Tn} {a a' : Ad} {S : Nat → Prop} (h : Books W w b m nv ts ads) (ht : ts[i]? = some t) (ha : ads[i]? = some a) (hn : t'.name = t.name) (hat : a'.t = a.t)
    (hB : BookAt W w' b m nv (ts.map Tn.name) (entries ts ads)) (hT : TenOwn W w' a'.t a'.rv a'.mv a'.mi t'.rules t'.ms) (ho : Only w w' S) (hS : ∀ k, S k → a.foot k) (hf : ∀ k, a'.foot k → a.foot k ∨ w.heap.size ≤ k) : Step W w w' b m nv ads (ts.set i t') := by
  refine ⟨nv, _, h.step ht ha hn hat hB hT ho hS hf, ho.weak fun k _ hk => .inr (.inr (.inr ⟨a, List.mem_of_getElem? ha, hS k hk⟩)), fun c hc k hk => ?_⟩
  rcases List.mem_or_eq_of_mem_set hc with hc | rfl
  · exact .inl ⟨c, hc, hk⟩
  · exact (hf k hk).imp (fun h => ⟨a, List.mem_of_getElem? ha, h⟩) id

theorem open_step (W w : World) (b m : Nat) (nv : Value) (ts : List Tn) (ads : List Ad) (name : ByteArray) (h : Books W w b m nv ts ads) (hc : Cap ts) :
    Calls Try.prog 13 #[.pointer (some ⟨b, 0, none⟩), .string name] w fun e w' => e = .returned (.int .i64 (openF ts name).1) ∧ Step W w w' b m nv ads (openF ts name).2 := by
  unfold openF
  by_cases hn : nameB name = false
  · rw [if_pos hn]
    refine (open_bad W w b m nv _ _ name h.book hn).mono ?_
    rintro e w' ⟨rfl, hb⟩
    exact ⟨rfl, Step.same h hb⟩
  · rw [if_neg hn]
    have hn : nameB name = true := by simpa using hn
    cases hg : getT ts name with
    | none =>
      show Calls _ _ _ _ fun e w' => e = .returned (.int .i64 (if 64 ≤ ts.length then ((8 : Int), ts) else (0, ts ++ [⟨name, [], []⟩])).1) ∧ Step W w w' b m nv ads (if 64 ≤ ts.length then ((8 : Int), ts) else (0, ts ++ [⟨name, [], []⟩])).2
      by_cases hl : 64 ≤ ts.length
      · rw [if_pos hl]
        refine (open_full W w b m nv _ _ name h.book hn (find_none h hg) (by simpa using hl) (by have := hc.len; simp; omega)).mono ?_
        rintro e w' ⟨rfl, hb⟩
        exact ⟨rfl, Step.same h hb⟩
      · rw [if_neg hl]
        refine (open_calls W w b m nv _ _ name h.book hn (find_none h hg) (by simp; omega)).mono ?_
        rintro e w' ⟨rfl, nv', t, mi, hB, hT, hO, h1, h2⟩
        refine ⟨rfl, nv', _, h.more hB hT hO ⟨h1, h2⟩, hO.weak fun k _ hk => hk.elim Or.inl fun hk => hk.elim (fun e => .inr (.inl e)) fun e => .inr (.inr (.inl e)), fun c hc k hk => ?_⟩
        rcases List.mem_append.1 hc with hc | hc
        · exact .inl ⟨c, hc, hk⟩
        · rw [List.mem_singleton.1 hc] at hk
          rcases hk with hk | hk | hk | hk
          · exact .inr (hk ▸ h1)
          · exact .inr (hk ▸ h2)
          · cases hk
          · cases hk
    | some p =>
      obtain ⟨i, t⟩ := p
      obtain ⟨a, _, _, _, hf, _⟩ := find_book h hg
      refine (open_there W w b m nv _ _ name _ h.book hn hf).mono ?_
      rintro e w' ⟨rfl, hb⟩
      exact ⟨rfl, Step.same h hb⟩

theorem grant_step (W w : World) (b m : Nat) (nv : Value) (ts : List Tn) (ads : List Ad) (name who key : ByteArray) (what : Int) (deny : Bool) (h : Books W w b m nv ts ads) (hc : Cap ts) (hsz : key.size ≤ 9223372036854775807) :
    Calls Try.prog 14 #[.pointer (some ⟨b, 0, none⟩), .string name, .agg #[.string who, .int .i64 what, .string key, .bool deny]] w fun e w' => e = .returned (.int .i64 (grantF ts name ⟨who, what, key, deny⟩).1) ∧ Step W w w' b m nv ads (grantF ts name ⟨who, what, key, deny⟩).2 := by
  unfold grantF
  by_cases hn : mayB ⟨who, what, key, deny⟩ = false
  · rw [if_pos hn]
    refine (grant_bad W w b m nv _ _ name who key what deny h.book hn hsz).mono ?_
    rintro e w' ⟨rfl, hb⟩
    exact ⟨rfl, Step.same h hb⟩
  · rw [if_neg hn]
    have hn : mayB ⟨who, what, key, deny⟩ = true := by simpa using hn
    cases hg : getT ts name with
    | none =>
      refine (grant_missing W w b m nv _ _ name who key what deny h.book (find_none h hg) hn hsz).mono ?_
      rintro e w' ⟨rfl, hb⟩
      exact ⟨rfl, Step.same h hb⟩
    | some p =>
      obtain ⟨i, t⟩ := p
      obtain ⟨a, ht, _, ha, hf, hT⟩ := find_book h hg
      have hrl := hc.rules t (List.mem_of_getElem? ht)
      show Calls _ _ _ _ fun e w' => e = .returned (.int .i64 (if hasR t.rules ⟨who, what, key, deny⟩ = true then ((7 : Int), ts) else if 128 ≤ t.rules.length then (8, ts) else (0, ts.set i ⟨t.name, t.rules ++ [⟨who, what, key, deny⟩], t.ms⟩)).1) ∧ Step W w w' b m nv ads (if hasR t.rules ⟨who, what, key, deny⟩ = true then ((7 : Int), ts) else if 128 ≤ t.rules.length then (8, ts) else (0, ts.set i ⟨t.name, t.rules ++ [⟨who, what, key, deny⟩], t.ms⟩)).2
      by_cases hh : hasR t.rules ⟨who, what, key, deny⟩ = true
      · rw [if_pos hh]
        refine (grant_there2 W w b m a.t a.mi nv a.rv a.mv _ _ name t.rules t.ms who key what deny h.book hT hf hn hh (by omega) hsz).mono ?_
        rintro e w' ⟨rfl, hb⟩
        exact ⟨rfl, Step.same h hb⟩
      · rw [if_neg hh]
        have hh : hasR t.rules ⟨who, what, key, deny⟩ = false := by simpa using hh
        by_cases hl : 128 ≤ t.rules.length
        · rw [if_pos hl]
          refine (grant_full W w b m a.t a.mi nv a.rv a.mv _ _ name t.rules t.ms who key what deny h.book hT hf hn hh (by omega) hl hsz).mono ?_
          rintro e w' ⟨rfl, hb⟩
          exact ⟨rfl, Step.same h hb⟩
        · rw [if_neg hl]
          refine (grant_new W w b m a.t a.mi nv a.rv a.mv _ _ name t.rules t.ms who key what deny h.book hT hf hn hh (by omega) hsz).mono ?_
          rintro e w' ⟨rfl, hB, ⟨rv', hT', hV⟩, hO⟩
          refine ⟨rfl, Step.turn (a' := ⟨a.t, a.mi, rv', a.mv⟩) h ht ha rfl rfl hB hT' hO (fun k hk => hk.elim Or.inl fun e => .inr (.inr (.inl e))) (fun k hk => ?_)⟩
          rcases hk with hk | hk | hk | hk
          · exact .inl (.inl hk)
          · exact .inl (.inr (.inl hk))
          · rcases hV with hV | ⟨g, hg1, hg2⟩
            · exact .inl (.inr (.inr (.inl (hV ▸ hk))))
            · have hk : rv'.ownBlock = some k := hk
              rw [hg1] at hk
              injection hk with hk
              exact .inr (hk ▸ hg2)
          · exact .inl (.inr (.inr (.inr hk)))

theorem join_step (W w : World) (b m : Nat) (nv : Value) (ts : List Tn) (ads : List Ad) (name role who : ByteArray) (h : Books W w b m nv ts ads) (hc : Cap ts) :
    Calls Try.prog 16 #[.pointer (some ⟨b, 0, none⟩), .string name, .string role, .string who] w fun e w' => e = .returned (.int .i64 (joinF ts name role who).1) ∧ Step W w w' b m nv ads (joinF ts name role who).2 := by
  unfold joinF
  by_cases hn : (nameB role && nameB who) = false
  · rw [if_pos hn]
    refine (join_bad W w b m nv _ _ name role who h.book hn).mono ?_
    rintro e w' ⟨rfl, hb⟩
    exact ⟨rfl, Step.same h hb⟩
  · rw [if_neg hn]
    have hn : nameB role = true ∧ nameB who = true := by simpa using hn
    cases hg : getT ts name with
    | none =>
      refine (join_missing W w b m nv _ _ name role who h.book (find_none h hg) hn.1 hn.2).mono ?_
      rintro e w' ⟨rfl, hb⟩
      exact ⟨rfl, Step.same h hb⟩
    | some p =>
      obtain ⟨i, t⟩ := p
      obtain ⟨a, ht, _, ha, hf, hT⟩ := find_book h hg
      have hml := hc.ms t (List.mem_of_getElem? ht)
      show Calls _ _ _ _ fun e w' => e = .returned (.int .i64 (if hasM t.ms (role, who) = true then ((7 : Int), ts) else if 256 ≤ t.ms.length then (8, ts) else (0, ts.set i ⟨t.name, t.rules, t.ms ++ [(role, who)]⟩)).1) ∧ Step W w w' b m nv ads (if hasM t.ms (role, who) = true then ((7 : Int), ts) else if 256 ≤ t.ms.length then (8, ts) else (0, ts.set i ⟨t.name, t.rules, t.ms ++ [(role, who)]⟩)).2
      by_cases hh : hasM t.ms (role, who) = true
      · rw [if_pos hh]
        refine (join_there2 W w b m a.t a.mi nv a.rv a.mv _ _ name role who t.rules t.ms h.book hT hf hn.1 hn.2 hh (by omega)).mono ?_
        rintro e w' ⟨rfl, hb⟩
        exact ⟨rfl, Step.same h hb⟩
      · rw [if_neg hh]
        have hh : hasM t.ms (role, who) = false := by simpa using hh
        by_cases hl : 256 ≤ t.ms.length
        · rw [if_pos hl]
          refine (join_full W w b m a.t a.mi nv a.rv a.mv _ _ name role who t.rules t.ms h.book hT hf hn.1 hn.2 hh (by omega) hl).mono ?_
          rintro e w' ⟨rfl, hb⟩
          exact ⟨rfl, Step.same h hb⟩
        · rw [if_neg hl]
          refine (join_new W w b m a.t a.mi nv a.rv a.mv _ _ name role who t.rules t.ms h.book hT hf hn.1 hn.2 hh (by omega)).mono ?_
          rintro e w' ⟨rfl, hB, ⟨mv', hT', hV⟩, hO⟩
          refine ⟨rfl, Step.turn (a' := ⟨a.t, a.mi, a.rv, mv'⟩) h ht ha rfl rfl hB hT' hO (fun k hk => ?_) (fun k hk => ?_)⟩
          · rcases hk with (hk | hk) | hk
            · exact .inl hk
            · exact .inr (.inr (.inr hk))
            · exact .inr (.inl hk)
          rcases hk with hk | hk | hk | hk
          · exact .inl (.inl hk)
          · exact .inl (.inr (.inl hk))
          · exact .inl (.inr (.inr (.inl hk)))
          · rcases hV with hV | ⟨g, hg1, hg2⟩
            · exact .inl (.inr (.inr (.inr (hV ▸ hk))))
            · have hk : mv'.ownBlock = some k := hk
              rw [hg1] at hk
              injection hk with hk
              exact .inr (hk ▸ hg2)

theorem revoke_step (W w : World) (b m : Nat) (nv : Value) (ts : List Tn) (ads : List Ad) (name who key : ByteArray) (what : Int) (deny : Bool) (h : Books W w b m nv ts ads) (hc : Cap ts) (hsz : key.size ≤ 9223372036854775807) :
    Calls Try.prog 21 #[.pointer (some ⟨b, 0, none⟩), .string name, .agg #[.string who, .int .i64 what, .string key, .bool deny]] w fun e w' => e = .returned (.int .i64 (revokeT ts name ⟨who, what, key, deny⟩).1) ∧ Step W w w' b m nv ads (revokeT ts name ⟨who, what, key, deny⟩).2 := by
  unfold revokeT
  by_cases hn : mayB ⟨who, what, key, deny⟩ = false
  · rw [if_pos hn]
    refine (revoke_bad W w b m nv _ _ name who key what deny h.book hn hsz).mono ?_
    rintro e w' ⟨rfl, hb⟩
    exact ⟨rfl, Step.same h hb⟩
  · rw [if_neg hn]
    have hn : mayB ⟨who, what, key, deny⟩ = true := by simpa using hn
    cases hg : getT ts name with
    | none =>
      refine (revoke_missing W w b m nv _ _ name who key what deny h.book (find_none h hg) hn hsz).mono ?_
      rintro e w' ⟨rfl, hb⟩
      exact ⟨rfl, Step.same h hb⟩
    | some p =>
      obtain ⟨i, t⟩ := p
      obtain ⟨a, ht, _, ha, hf, hT⟩ := find_book h hg
      have hrl := hc.rules t (List.mem_of_getElem? ht)
      show Calls _ _ _ _ fun e w' => e = .returned (.int .i64 (if hasR t.rules ⟨who, what, key, deny⟩ = false then ((6 : Int), ts) else (0, ts.set i ⟨t.name, t.rules.filter fun x => !eqR x ⟨who, what, key, deny⟩, t.ms⟩)).1) ∧ Step W w w' b m nv ads (if hasR t.rules ⟨who, what, key, deny⟩ = false then ((6 : Int), ts) else (0, ts.set i ⟨t.name, t.rules.filter fun x => !eqR x ⟨who, what, key, deny⟩, t.ms⟩)).2
      by_cases hh : hasR t.rules ⟨who, what, key, deny⟩ = false
      · rw [if_pos hh]
        refine (revoke_not W w b m a.t a.mi nv a.rv a.mv _ _ name t.rules t.ms who key what deny h.book hT hf hn hh (by omega) hsz).mono ?_
        rintro e w' ⟨rfl, hb⟩
        exact ⟨rfl, Step.same h hb⟩
      · rw [if_neg hh]
        refine (revoke_new W w b m a.t a.mi nv a.rv a.mv _ _ name t.rules t.ms who key what deny h.book hT hf hn (by simpa using hh) (by omega) hsz).mono ?_
        rintro e w' ⟨rfl, hB, ⟨rv', hT', hV⟩, hO⟩
        refine ⟨rfl, Step.turn (a' := ⟨a.t, a.mi, rv', a.mv⟩) h ht ha rfl rfl hB hT' hO (fun k hk => hk.elim Or.inl fun e => .inr (.inr (.inl e))) (fun k hk => .inl ?_)⟩
        rcases hk with hk | hk | hk | hk
        · exact .inl hk
        · exact .inr (.inl hk)
        · exact .inr (.inr (.inl (hV ▸ hk)))
        · exact .inr (.inr (.inr hk))

theorem leave_step (W w : World) (b m : Nat) (nv : Value) (ts : List Tn) (ads : List Ad) (name role who : ByteArray) (h : Books W w b m nv ts ads) (hc : Cap ts) :
    Calls Try.prog 22 #[.pointer (some ⟨b, 0, none⟩), .string name, .string role, .string who] w fun e w' => e = .returned (.int .i64 (leaveT ts name role who).1) ∧ Step W w w' b m nv ads (leaveT ts name role who).2 := by
  unfold leaveT
  by_cases hn : (nameB role && nameB who) = false
  · rw [if_pos hn]
    refine (leave_bad W w b m nv _ _ name role who h.book hn).mono ?_
    rintro e w' ⟨rfl, hb⟩
    exact ⟨rfl, Step.same h hb⟩
  · rw [if_neg hn]
    have hn : nameB role = true ∧ nameB who = true := by simpa using hn
    cases hg : getT ts name with
    | none =>
      refine (leave_missing W w b m nv _ _ name role who h.book (find_none h hg) hn.1 hn.2).mono ?_
      rintro e w' ⟨rfl, hb⟩
      exact ⟨rfl, Step.same h hb⟩
    | some p =>
      obtain ⟨i, t⟩ := p
      obtain ⟨a, ht, _, ha, hf, hT⟩ := find_book h hg
      have hml := hc.ms t (List.mem_of_getElem? ht)
      show Calls _ _ _ _ fun e w' => e = .returned (.int .i64 (if hasM t.ms (role, who) = false then ((6 : Int), ts) else (0, ts.set i ⟨t.name, t.rules, t.ms.filter fun x => !eqM x (role, who)⟩)).1) ∧ Step W w w' b m nv ads (if hasM t.ms (role, who) = false then ((6 : Int), ts) else (0, ts.set i ⟨t.name, t.rules, t.ms.filter fun x => !eqM x (role, who)⟩)).2
      by_cases hh : hasM t.ms (role, who) = false
      · rw [if_pos hh]
        refine (leave_not W w b m a.t a.mi nv a.rv a.mv _ _ name role who t.rules t.ms h.book hT hf hn.1 hn.2 hh).mono ?_
        rintro e w' ⟨rfl, hb⟩
        exact ⟨rfl, Step.same h hb⟩
      · rw [if_neg hh]
        refine (leave_new W w b m a.t a.mi nv a.rv a.mv _ _ name role who t.rules t.ms h.book hT hf hn.1 hn.2 (by simpa using hh) (hc.nodup t (List.mem_of_getElem? ht)) (by omega)).mono ?_
        rintro e w' ⟨rfl, hB, ⟨mv', hT', hV⟩, hO⟩
        refine ⟨rfl, Step.turn (a' := ⟨a.t, a.mi, a.rv, mv'⟩) h ht ha rfl rfl hB hT' hO (fun k hk => ?_) (fun k hk => .inl ?_)⟩
        · rcases hk with (hk | hk) | hk
          · exact .inl hk
          · exact .inr (.inr (.inr hk))
          · exact .inr (.inl hk)
        · rcases hk with hk | hk | hk | hk
          · exact .inl hk
          · exact .inr (.inl hk)
          · exact .inr (.inr (.inl hk))
          · exact .inr (.inr (.inr (hV ▸ hk)))

theorem allowed_step (W w : World) (b m : Nat) (nv : Value) (ts : List Tn) (ads : List Ad) (name who key : ByteArray) (what : Int) (h : Books W w b m nv ts ads) (hc : Cap ts) :
    Calls Try.prog 15 #[.pointer (some ⟨b, 0, none⟩), .string name, .string who, .int .i64 what, .string key] w fun e w' => e = .returned (.bool (allowT ts name who what key)) ∧ Below w.heap.size w w' := by
  unfold allowT
  cases hg : getT ts name with
  | none => exact allowed_missing W w b m nv _ _ name who key what h.book (find_none h hg)
  | some p =>
    obtain ⟨i, t⟩ := p
    obtain ⟨a, ht, _, _, hf, hT⟩ := find_book h hg
    have htm := List.mem_of_getElem? ht
    have hrl := hc.rules t htm
    have hml := hc.ms t htm
    have hA : TenAt w w b m a.t name (entries ts ads) W.heap.size a.rv a.mv t.rules t.ms := ⟨h.book.book.cell 1, h.book.all, hf, hT.ten.cell 0, hT.ten.cell 1, hT.rules, hT.mems, Below.refl _ _⟩
    exact allowed_calls w b m a.t W.heap.size name who key what _ a.rv a.mv t.rules t.ms hA (by omega) (by omega) fun r hr => by have := hc.keys t htm r hr; omega

end Go.Proofs.Ytglcingpolpkdaa

/- What a call answers and leaves; no list grows beyond its end. -/
namespace Go.Proofs.Ytglcingpolpkdaa

def doF (ts : List Tn) (a : Ac) : Int × List Tn :=
  if a.kind = 0 then openF ts a.tenant else if a.kind = 1 then joinF ts a.tenant a.role a.who else if a.kind = 2 then leaveT ts a.tenant a.role a.who else if a.kind = 3 then grantF ts a.tenant a.r else if a.kind = 4 then revokeT ts a.tenant a.r else (0, ts)

structure Inv (ts : List Tn) : Prop where
  cap : Cap ts
  rules : ∀ t ∈ ts, t.rules.Nodup
  small : ∀ t ∈ ts, t.name.size ≤ 1000000 ∧ ∀ p ∈ t.ms, p.2.size ≤ 1000000

theorem all_set {p : Tn → Prop} {ts : List Tn} {i : Nat} {t' : Tn} (h : ∀ t ∈ ts, p t) (ht : p t') : ∀ t ∈ ts.set i t', p t := fun t hm => by
  rcases List.mem_or_eq_of_mem_set hm with hm | rfl
  · exact h t hm
  · exact ht
theorem Inv.set {ts : List Tn} {i : Nat} {t' : Tn} (h : Inv ts) (h1 : t'.rules.length ≤ 128) (h2 : t'.ms.length ≤ 256) (h3 : ∀ r ∈ t'.rules, r.key.size ≤ 1000000) (h4 : t'.ms.Nodup) (h5 : t'.rules.Nodup) (h6 : t'.name.size ≤ 1000000 ∧ ∀ p ∈ t'.ms, p.2.size ≤ 1000000) : Inv (ts.set i t') :=
  ⟨⟨by have := h.cap.len; simpa using this, all_set (p := fun t => t.rules.length ≤ 128) h.cap.rules h1, all_set (p := fun t => t.ms.length ≤ 256) h.cap.ms h2, all_set (p := fun t => ∀ r ∈ t.rules, r.key.size ≤ 1000000) h.cap.keys h3, all_set (p := fun t => t.ms.Nodup) h.cap.nodup h4⟩, all_set (p := fun t => t.rules.Nodup) h.rules h5, all_set (p := fun t => t.name.size ≤ 1000000 ∧ ∀ p ∈ t.ms, p.2.size ≤ 1000000) h.small h6⟩
theorem Inv.nil : Inv [] := ⟨⟨by simp, by simp, by simp, by simp, by simp⟩, by simp, by simp⟩

theorem open_inv {ts : List Tn} (n : ByteArray) (h : Inv ts) (hn : n.size ≤ 1000000) : Inv (openF ts n).2 := by
  unfold openF
  split
  · exact h
  · split
    · exact h
    · split
      · exact h
      · refine ⟨⟨by simp; omega, fun t ht => ?_, fun t ht => ?_, fun t ht => ?_, fun t ht => ?_⟩, fun t ht => ?_, fun t ht => ?_⟩ <;> rcases List.mem_append.1 ht with ht | ht
        · exact h.cap.rules t ht
        · rw [List.mem_singleton.1 ht]; simp
        · exact h.cap.ms t ht
        · rw [List.mem_singleton.1 ht]; simp
        · exact h.cap.keys t ht
        · rw [List.mem_singleton.1 ht]; exact fun r hr => by cases hr
        · exact h.cap.nodup t ht
        · rw [List.mem_singleton.1 ht]; exact List.nodup_nil
        · exact h.rules t ht
        · rw [List.mem_singleton.1 ht]; exact List.nodup_nil
        · exact h.small t ht
        · rw [List.mem_singleton.1 ht]; exact ⟨hn, fun p hp => by cases hp⟩
theorem join_inv {ts : List Tn} (n role who : ByteArray) (h : Inv ts) (hn : who.size ≤ 1000000) : Inv (joinF ts n role who).2 := by
  unfold joinF
  split
  · exact h
  · cases hg : getT ts n with
    | none => exact h
    | some p =>
      obtain ⟨i, t⟩ := p
      have ht := List.mem_of_getElem? (getT_at hg).1
      show Inv (if hasM t.ms (role, who) = true then ((7 : Int), ts) else if 256 ≤ t.ms.length then (8, ts) else (0, ts.set i ⟨t.name, t.rules, t.ms ++ [(role, who)]⟩)).2
      split
      · exact h
      · rename_i hh
        split
        · exact h
        · refine h.set (h.cap.rules t ht) (by simp; omega) (h.cap.keys t ht) ?_ (h.rules t ht) ⟨(h.small t ht).1, fun p hp => ?_⟩
          rotate_left
          · rcases List.mem_append.1 hp with hp | hp
            · exact (h.small t ht).2 p hp
            · rw [List.mem_singleton.1 hp]; exact hn
          show (t.ms ++ [(role, who)]).Nodup
          rw [List.nodup_append]
          refine ⟨h.cap.nodup t ht, by simp, fun x hx y hy e => ?_⟩
          rw [List.mem_singleton.1 hy] at e
          exact hh (hasM_iff.2 (e ▸ hx))
theorem grant_inv {ts : List Tn} (n : ByteArray) (r : Rl) (h : Inv ts) (hz : r.key.size ≤ 1000000) : Inv (grantF ts n r).2 := by
  unfold grantF
  split
  · exact h
  · cases hg : getT ts n with
    | none => exact h
    | some p =>
      obtain ⟨i, t⟩ := p
      have ht := List.mem_of_getElem? (getT_at hg).1
      show Inv (if hasR t.rules r = true then ((7 : Int), ts) else if 128 ≤ t.rules.length then (8, ts) else (0, ts.set i ⟨t.name, t.rules ++ [r], t.ms⟩)).2
      split
      · exact h
      · rename_i hh
        split
        · exact h
        · refine h.set (by simp; omega) (h.cap.ms t ht) (fun x hx => ?_) (h.cap.nodup t ht) ?_ (h.small t ht)
          · rcases List.mem_append.1 hx with hx | hx
            · exact h.cap.keys t ht x hx
            · rw [List.mem_singleton.1 hx]; exact hz
          · show (t.rules ++ [r]).Nodup
            rw [List.nodup_append]
            refine ⟨h.rules t ht, by simp, fun x hx y hy e => ?_⟩
            rw [List.mem_singleton.1 hy] at e
            exact hh (hasR_iff.2 (e ▸ hx))
theorem leave_inv {ts : List Tn} (n role who : ByteArray) (h : Inv ts) : Inv (leaveT ts n role who).2 := by
  unfold leaveT
  split
  · exact h
  · cases hg : getT ts n with
    | none => exact h
    | some p =>
      obtain ⟨i, t⟩ := p
      have ht := List.mem_of_getElem? (getT_at hg).1
      show Inv (if hasM t.ms (role, who) = false then ((6 : Int), ts) else (0, ts.set i ⟨t.name, t.rules, t.ms.filter fun x => !eqM x (role, who)⟩)).2
      split
      · exact h
      · exact h.set (h.cap.rules t ht) (Nat.le_trans (List.length_filter_le _ _) (h.cap.ms t ht)) (h.cap.keys t ht) ((h.cap.nodup t ht).filter _) (h.rules t ht) ⟨(h.small t ht).1, fun p hp => (h.small t ht).2 p (List.mem_filter.1 hp).1⟩
theorem revoke_inv {ts : List Tn} (n : ByteArray) (r : Rl) (h : Inv ts) : Inv (revokeT ts n r).2 := by
  unfold revokeT
  split
  · exact h
  · cases hg : getT ts n with
    | none => exact h
    | some p =>
      obtain ⟨i, t⟩ := p
      have ht := List.mem_of_getElem? (getT_at hg).1
      show Inv (if hasR t.rules r = false then ((6 : Int), ts) else (0, ts.set i ⟨t.name, t.rules.filter fun x => !eqR x r, t.ms⟩)).2
      split
      · exact h
      · exact h.set (Nat.le_trans (List.length_filter_le _ _) (h.cap.rules t ht)) (h.cap.ms t ht) (fun x hx => h.cap.keys t ht x (List.mem_filter.1 hx).1) (h.cap.nodup t ht) ((h.rules t ht).filter _) (h.small t ht)
theorem do_inv {ts : List Tn} (a : Ac) (h : Inv ts) (hz : a.r.key.size ≤ 1000000) (ht : a.tenant.size ≤ 1000000) (hw : a.who.size ≤ 1000000) : Inv (doF ts a).2 := by
  unfold doF
  split
  · exact open_inv _ h ht
  · split
    · exact join_inv _ _ _ h hw
    · split
      · exact leave_inv _ _ _ h
      · split
        · exact grant_inv _ _ h hz
        · split
          · exact revoke_inv _ _ h
          · exact h

end Go.Proofs.Ytglcingpolpkdaa
