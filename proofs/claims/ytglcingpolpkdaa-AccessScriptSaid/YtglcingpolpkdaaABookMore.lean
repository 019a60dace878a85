/- Revoke and Leave of a book of several tenants; done and filled of any calls. -/
import Derived.Test.YtglcingpolpkdaaALeave
namespace Go.Proofs.Ytglcingpolpkdaa
open Go.RowKit

def revokeT (ts : List Tn) (name : ByteArray) (r : Rl) : Int × List Tn :=
  if mayB r = false then (2, ts) else match getT ts name with
    | none => (6, ts)
    | some (i, t) => if hasR t.rules r = false then (6, ts) else (0, ts.set i ⟨t.name, t.rules.filter fun x => !eqR x r, t.ms⟩)
def leaveT (ts : List Tn) (name role who : ByteArray) : Int × List Tn :=
  if (nameB role && nameB who) = false then (2, ts) else match getT ts name with
    | none => (6, ts)
    | some (i, t) => if hasM t.ms (role, who) = false then (6, ts) else (0, ts.set i ⟨t.name, t.rules, t.ms.filter fun x => !eqM x (role, who)⟩)

/-- No list is longer than n, no member is twice there. -/
structure Good (n : Nat) (ts : List Tn) : Prop where
  small : Small n ts
  nodup : ∀ t ∈ ts, t.ms.Nodup

theorem revoke_book (W w : World) (b : Nat) (ts : List Tn) (name who key : ByteArray) (what : Int) (deny : Bool) (h : BookIs W w b ts) (hs : Good 63 ts) (hsz : key.size ≤ 9223372036854775807) :
    Calls Try.prog 21 #[.pointer (some ⟨b, 0, none⟩), .string name, .agg #[.string who, .int .i64 what, .string key, .bool deny]] w fun e w' => e = .returned (.int .i64 (revokeT ts name ⟨who, what, key, deny⟩).1) ∧ BookIs W w' b (revokeT ts name ⟨who, what, key, deny⟩).2 := by
  obtain ⟨m, nv, ads, h⟩ := h
  unfold revokeT
  by_cases hn : mayB ⟨who, what, key, deny⟩ = false
  · rw [if_pos hn]
    refine (revoke_bad W w b m nv _ _ name who key what deny h.book hn hsz).mono ?_
    rintro e w' ⟨rfl, hb⟩
    exact ⟨rfl, m, nv, ads, h.on hb⟩
  · rw [if_neg hn]
    have hn : mayB ⟨who, what, key, deny⟩ = true := by simpa using hn
    cases hg : getT ts name with
    | none =>
      refine (revoke_missing W w b m nv _ _ name who key what deny h.book (find_none h hg) hn hsz).mono ?_
      rintro e w' ⟨rfl, hb⟩
      exact ⟨rfl, m, nv, ads, h.on hb⟩
    | some p =>
      obtain ⟨i, t⟩ := p
      obtain ⟨a, ht, _, ha, hf, hT⟩ := find_book h hg
      have hsm := small_at hs.small ht
      show Calls _ _ _ _ fun e w' => e = .returned (.int .i64 (if hasR t.rules ⟨who, what, key, deny⟩ = false then ((6 : Int), ts) else (0, ts.set i ⟨t.name, t.rules.filter fun x => !eqR x ⟨who, what, key, deny⟩, t.ms⟩)).1) ∧ BookIs W w' b (if hasR t.rules ⟨who, what, key, deny⟩ = false then ((6 : Int), ts) else (0, ts.set i ⟨t.name, t.rules.filter fun x => !eqR x ⟨who, what, key, deny⟩, t.ms⟩)).2
      by_cases hh : hasR t.rules ⟨who, what, key, deny⟩ = false
      · rw [if_pos hh]
        refine (revoke_not W w b m a.t a.mi nv a.rv a.mv _ _ name t.rules t.ms who key what deny h.book hT hf hn hh (by omega) hsz).mono ?_
        rintro e w' ⟨rfl, hb⟩
        exact ⟨rfl, m, nv, ads, h.on hb⟩
      · rw [if_neg hh]
        refine (revoke_new W w b m a.t a.mi nv a.rv a.mv _ _ name t.rules t.ms who key what deny h.book hT hf hn (by simpa using hh) (by omega) hsz).mono ?_
        rintro e w' ⟨rfl, hB, ⟨rv', hT', hV⟩, hO⟩
        refine ⟨rfl, m, nv, _, h.step (a' := ⟨a.t, a.mi, rv', a.mv⟩) ht ha rfl rfl hB hT' hO (fun k hk => ?_) (fun k hk => .inl ?_)⟩
        · rcases hk with hk | hk
          · exact .inl hk
          · exact .inr (.inr (.inl hk))
        · rcases hk with hk | hk | hk | hk
          · exact .inl hk
          · exact .inr (.inl hk)
          · exact .inr (.inr (.inl (hV ▸ hk)))
          · exact .inr (.inr (.inr hk))

theorem leave_book (W w : World) (b : Nat) (ts : List Tn) (name role who : ByteArray) (h : BookIs W w b ts) (hs : Good 63 ts) :
    Calls Try.prog 22 #[.pointer (some ⟨b, 0, none⟩), .string name, .string role, .string who] w fun e w' => e = .returned (.int .i64 (leaveT ts name role who).1) ∧ BookIs W w' b (leaveT ts name role who).2 := by
  obtain ⟨m, nv, ads, h⟩ := h
  unfold leaveT
  by_cases hn : (nameB role && nameB who) = false
  · rw [if_pos hn]
    refine (leave_bad W w b m nv _ _ name role who h.book hn).mono ?_
    rintro e w' ⟨rfl, hb⟩
    exact ⟨rfl, m, nv, ads, h.on hb⟩
  · rw [if_neg hn]
    have hn : nameB role = true ∧ nameB who = true := by simpa using hn
    cases hg : getT ts name with
    | none =>
      refine (leave_missing W w b m nv _ _ name role who h.book (find_none h hg) hn.1 hn.2).mono ?_
      rintro e w' ⟨rfl, hb⟩
      exact ⟨rfl, m, nv, ads, h.on hb⟩
    | some p =>
      obtain ⟨i, t⟩ := p
      obtain ⟨a, ht, _, ha, hf, hT⟩ := find_book h hg
      have hsm := small_at hs.small ht
      show Calls _ _ _ _ fun e w' => e = .returned (.int .i64 (if hasM t.ms (role, who) = false then ((6 : Int), ts) else (0, ts.set i ⟨t.name, t.rules, t.ms.filter fun x => !eqM x (role, who)⟩)).1) ∧ BookIs W w' b (if hasM t.ms (role, who) = false then ((6 : Int), ts) else (0, ts.set i ⟨t.name, t.rules, t.ms.filter fun x => !eqM x (role, who)⟩)).2
      by_cases hh : hasM t.ms (role, who) = false
      · rw [if_pos hh]
        refine (leave_not W w b m a.t a.mi nv a.rv a.mv _ _ name role who t.rules t.ms h.book hT hf hn.1 hn.2 hh).mono ?_
        rintro e w' ⟨rfl, hb⟩
        exact ⟨rfl, m, nv, ads, h.on hb⟩
      · rw [if_neg hh]
        refine (leave_new W w b m a.t a.mi nv a.rv a.mv _ _ name role who t.rules t.ms h.book hT hf hn.1 hn.2 (by simpa using hh) (hs.nodup t (List.mem_of_getElem? ht)) (by omega)).mono ?_
        rintro e w' ⟨rfl, hB, ⟨mv', hT', hV⟩, hO⟩
        refine ⟨rfl, m, nv, _, h.step (a' := ⟨a.t, a.mi, a.rv, mv'⟩) ht ha rfl rfl hB hT' hO (fun k hk => ?_) (fun k hk => .inl ?_)⟩
        · rcases hk with (hk | hk) | hk
          · exact .inl hk
          · exact .inr (.inr (.inr hk))
          · exact .inr (.inl hk)
        · rcases hk with hk | hk | hk | hk
          · exact .inl hk
          · exact .inr (.inl hk)
          · exact .inr (.inr (.inl hk))
          · exact .inr (.inr (.inr (hV ▸ hk)))

/-- What any call makes of a book. -/
def doA (ts : List Tn) (a : Ac) : List Tn :=
  if a.kind = 2 then (leaveT ts a.tenant a.role a.who).2 else if a.kind = 4 then (revokeT ts a.tenant a.r).2 else doT ts a

set_option maxRecDepth 100000 in
set_option maxHeartbeats 1000000 in
theorem done_leave (W w : World) (b : Nat) (ts : List Tn) (tenant role who rwho rkey key : ByteArray) (rwhat what : Int) (deny : Bool) (h : BookIs W w b ts) (hs : Good 63 ts) :
    Calls Try.prog 51 #[.pointer (some ⟨b, 0, none⟩), .agg #[.int .u8 2, .string tenant, .string role, .string who, .string rwho, .int .i64 rwhat, .string rkey, .bool deny, .int .i64 what, .string key]] w fun e w' => (∃ v, e = .returned v) ∧ BookIs W w' b (leaveT ts tenant role who).2 := by
  have hBA : Below w.heap.size w (w.alloc (.cells #[.int .u8 2, .string tenant, .string role, .string who, .string rwho, .int .i64 rwhat, .string rkey, .bool deny, .int .i64 what, .string key] 38)) := (Below.refl _ _).alloc (Nat.le_refl _) _
  have hC := Whole.new w 38 #[.int .u8 2, .string tenant, .string role, .string who, .string rwho, .int .i64 rwhat, .string rkey, .bool deny, .int .i64 what, .string key]
  have c0 := hC.cell 0
  have c1 := hC.cell 1
  have c2 := hC.cell 2
  have c3 := hC.cell 3
  have c4 := hC.cell 4
  have c5 := hC.cell 5
  have c6 := hC.cell 6
  have c7 := hC.cell 7
  have HC := Lib.hid (leave_book W (w.alloc (.cells #[.int .u8 2, .string tenant, .string role, .string who, .string rwho, .int .i64 rwhat, .string rkey, .bool deny, .int .i64 what, .string key] 38)) b ts tenant role who (h.on hBA) hs)
  clear hC h hBA
  go_enter Try.func51, Try.ntmps51
  go_wp2_with (first
    | (refine wpList_box_cells (by rfl) 38 _ (by rfl) #[.int .u8 2, .string tenant, .string role, .string who, .string rwho, .int .i64 rwhat, .string rkey, .bool deny, .int .i64 what, .string key] (by rfl) ?_)
    | (go_at_call 22; refine HC.out.mono ?_; rintro e w1 ⟨rfl, h1⟩))
  go_ret
  exact ⟨⟨_, rfl⟩, h1⟩

set_option maxRecDepth 100000 in
set_option maxHeartbeats 1000000 in
theorem done_revoke (W w : World) (b : Nat) (ts : List Tn) (tenant role who rwho rkey key : ByteArray) (rwhat what : Int) (deny : Bool) (h : BookIs W w b ts) (hs : Good 63 ts) (hsz : rkey.size ≤ 9223372036854775807) :
    Calls Try.prog 51 #[.pointer (some ⟨b, 0, none⟩), .agg #[.int .u8 4, .string tenant, .string role, .string who, .string rwho, .int .i64 rwhat, .string rkey, .bool deny, .int .i64 what, .string key]] w fun e w' => (∃ v, e = .returned v) ∧ BookIs W w' b (revokeT ts tenant ⟨rwho, rwhat, rkey, deny⟩).2 := by
  have hBA : Below w.heap.size w (w.alloc (.cells #[.int .u8 4, .string tenant, .string role, .string who, .string rwho, .int .i64 rwhat, .string rkey, .bool deny, .int .i64 what, .string key] 38)) := (Below.refl _ _).alloc (Nat.le_refl _) _
  have hC := Whole.new w 38 #[.int .u8 4, .string tenant, .string role, .string who, .string rwho, .int .i64 rwhat, .string rkey, .bool deny, .int .i64 what, .string key]
  have c0 := hC.cell 0
  have c1 := hC.cell 1
  have c2 := hC.cell 2
  have c3 := hC.cell 3
  have c4 := hC.cell 4
  have c5 := hC.cell 5
  have c6 := hC.cell 6
  have c7 := hC.cell 7
  have HC := Lib.hid (revoke_book W (w.alloc (.cells #[.int .u8 4, .string tenant, .string role, .string who, .string rwho, .int .i64 rwhat, .string rkey, .bool deny, .int .i64 what, .string key] 38)) b ts tenant rwho rkey rwhat deny (h.on hBA) hs hsz)
  clear hC h hBA
  go_enter Try.func51, Try.ntmps51
  go_wp2_with (first
    | (refine wpList_box_cells (by rfl) 38 _ (by rfl) #[.int .u8 4, .string tenant, .string role, .string who, .string rwho, .int .i64 rwhat, .string rkey, .bool deny, .int .i64 what, .string key] (by rfl) ?_)
    | (go_at_call 21; refine HC.out.mono ?_; rintro e w1 ⟨rfl, h1⟩))
  go_ret
  exact ⟨⟨_, rfl⟩, h1⟩

set_option maxRecDepth 100000 in
set_option maxHeartbeats 1000000 in
theorem done_other (W w : World) (b : Nat) (ts : List Tn) (kind : Int) (tenant role who rwho rkey key : ByteArray) (rwhat what : Int) (deny : Bool) (h : BookIs W w b ts) (h0 : ¬ kind = 0) (h1 : ¬ kind = 1) (h2 : ¬ kind = 2) (h3 : ¬ kind = 3) (h4 : ¬ kind = 4) :
    Calls Try.prog 51 #[.pointer (some ⟨b, 0, none⟩), .agg #[.int .u8 kind, .string tenant, .string role, .string who, .string rwho, .int .i64 rwhat, .string rkey, .bool deny, .int .i64 what, .string key]] w fun e w' => (∃ v, e = .returned v) ∧ BookIs W w' b ts := by
  have hBA : Below w.heap.size w (w.alloc (.cells #[.int .u8 kind, .string tenant, .string role, .string who, .string rwho, .int .i64 rwhat, .string rkey, .bool deny, .int .i64 what, .string key] 38)) := (Below.refl _ _).alloc (Nat.le_refl _) _
  have hC := Whole.new w 38 #[.int .u8 kind, .string tenant, .string role, .string who, .string rwho, .int .i64 rwhat, .string rkey, .bool deny, .int .i64 what, .string key]
  have c0 := hC.cell 0
  have c1 := hC.cell 1
  have c2 := hC.cell 2
  have c3 := hC.cell 3
  have c4 := hC.cell 4
  have c5 := hC.cell 5
  have c6 := hC.cell 6
  have c7 := hC.cell 7
  have e0 : (kind == 0) = false := by simpa using h0
  have e1 : (kind == 1) = false := by simpa using h1
  have e2 : (kind == 2) = false := by simpa using h2
  have e3 : (kind == 3) = false := by simpa using h3
  have e4 : (kind == 4) = false := by simpa using h4
  have HI := Lib.hid (h.on hBA)
  clear hC h hBA
  go_enter Try.func51, Try.ntmps51
  go_wp2_with (refine wpList_box_cells (by rfl) 38 _ (by rfl) #[.int .u8 kind, .string tenant, .string role, .string who, .string rwho, .int .i64 rwhat, .string rkey, .bool deny, .int .i64 what, .string key] (by rfl) ?_)
  go_ret
  exact ⟨⟨_, rfl⟩, HI.out⟩

theorem done_any (W w : World) (b : Nat) (ts : List Tn) (a : Ac) (h : BookIs W w b ts) (hs : Good 63 ts) (hsz : a.r.key.size ≤ 9223372036854775807) :
    Calls Try.prog 51 #[.pointer (some ⟨b, 0, none⟩), .agg a.cells.toArray] w fun e w' => (∃ v, e = .returned v) ∧ BookIs W w' b (doA ts a) := by
  by_cases ha : adds a
  · have e : doA ts a = doT ts a := by
      unfold doA
      rw [if_neg (by rcases ha with h | h | h <;> omega), if_neg (by rcases ha with h | h | h <;> omega)]
    rw [e]
    exact done_calls W w b ts a h hs.small ha hsz
  · obtain ⟨kind, tenant, role, who, ⟨rwho, rwhat, rkey, deny⟩, what, key⟩ := a
    have h0 : ¬ kind = 0 := fun e => ha (.inl e)
    have h1 : ¬ kind = 1 := fun e => ha (.inr (.inl e))
    have h3 : ¬ kind = 3 := fun e => ha (.inr (.inr e))
    by_cases h2 : kind = 2
    · subst h2
      exact done_leave W w b ts tenant role who rwho rkey key rwhat what deny h hs
    · by_cases h4 : kind = 4
      · subst h4
        exact done_revoke W w b ts tenant role who rwho rkey key rwhat what deny h hs hsz
      · have e : doA ts ⟨kind, tenant, role, who, ⟨rwho, rwhat, rkey, deny⟩, what, key⟩ = ts := by
          unfold doA doT
          rw [if_neg h2, if_neg h4, if_neg h0, if_neg h1, if_neg h3]
        rw [e]
        exact done_other W w b ts kind tenant role who rwho rkey key rwhat what deny h h0 h1 h2 h3 h4

theorem Good.mono {k n : Nat} {ts : List Tn} (h : Good k ts) (hk : k ≤ n) : Good n ts := ⟨h.small.mono hk, h.nodup⟩
theorem nodup_set {ts : List Tn} {i : Nat} {t' : Tn} (h : ∀ t ∈ ts, t.ms.Nodup) (ht : t'.ms.Nodup) : ∀ t ∈ ts.set i t', t.ms.Nodup := fun t hm => by
  rcases List.mem_or_eq_of_mem_set hm with hm | rfl
  · exact h t hm
  · exact ht
theorem doT_nodup {ts : List Tn} (a : Ac) (h : ∀ t ∈ ts, t.ms.Nodup) : ∀ t ∈ doT ts a, t.ms.Nodup := by
  unfold doT
  split
  · unfold openT
    split
    · exact h
    · cases getT ts a.tenant with
      | some p => exact h
      | none =>
        intro t ht
        have ht : t ∈ ts ++ [⟨a.tenant, [], []⟩] := ht
        rcases List.mem_append.1 ht with ht | ht
        · exact h t ht
        · rw [List.mem_singleton.1 ht]
          exact List.nodup_nil
  · split
    · unfold joinT
      split
      · exact h
      · cases hg : getT ts a.tenant with
        | none => exact h
        | some p =>
          obtain ⟨i, t⟩ := p
          have ht := List.mem_of_getElem? (getT_at hg).1
          show ∀ u ∈ (if hasM t.ms (a.role, a.who) = true then ((7 : Int), ts) else (0, ts.set i ⟨t.name, t.rules, t.ms ++ [(a.role, a.who)]⟩)).2, u.ms.Nodup
          split
          · exact h
          · rename_i hh
            refine nodup_set h ?_
            rw [List.nodup_append]
            refine ⟨h t ht, by simp, fun x hx y hy e => ?_⟩
            rw [List.mem_singleton.1 hy] at e
            exact hh (hasM_iff.2 (e ▸ hx))
    · split
      · unfold grantT
        split
        · exact h
        · cases hg : getT ts a.tenant with
          | none => exact h
          | some p =>
            obtain ⟨i, t⟩ := p
            have ht := List.mem_of_getElem? (getT_at hg).1
            show ∀ u ∈ (if hasR t.rules a.r = true then ((7 : Int), ts) else (0, ts.set i ⟨t.name, t.rules ++ [a.r], t.ms⟩)).2, u.ms.Nodup
            split
            · exact h
            · exact nodup_set h (h t ht)
      · exact h
theorem doA_good {k : Nat} {ts : List Tn} {a : Ac} (h : Good k ts) (hz : a.r.key.size ≤ 9223372036854775807) : Good (k + 1) (doA ts a) := by
  have keep : Good (k + 1) ts := h.mono (Nat.le_succ k)
  unfold doA
  split
  · unfold leaveT
    split
    · exact keep
    · cases hg : getT ts a.tenant with
      | none => exact keep
      | some p =>
        obtain ⟨i, t⟩ := p
        have ht := (getT_at hg).1
        have h1 := h.small.2 t (List.mem_of_getElem? ht)
        show Good (k + 1) (if hasM t.ms (a.role, a.who) = false then ((6 : Int), ts) else (0, ts.set i ⟨t.name, t.rules, t.ms.filter fun x => !eqM x (a.role, a.who)⟩)).2
        split
        · exact keep
        · exact ⟨small_set h.small ht (by show t.rules.length ≤ _; omega) (by have := List.length_filter_le (fun x => !eqM x (a.role, a.who)) t.ms; show (t.ms.filter fun x => !eqM x (a.role, a.who)).length ≤ _; omega) h1.2.2, nodup_set h.nodup ((h.nodup t (List.mem_of_getElem? ht)).filter _)⟩
  · split
    · unfold revokeT
      split
      · exact keep
      · cases hg : getT ts a.tenant with
        | none => exact keep
        | some p =>
          obtain ⟨i, t⟩ := p
          have ht := (getT_at hg).1
          have h1 := h.small.2 t (List.mem_of_getElem? ht)
          show Good (k + 1) (if hasR t.rules a.r = false then ((6 : Int), ts) else (0, ts.set i ⟨t.name, t.rules.filter fun x => !eqR x a.r, t.ms⟩)).2
          split
          · exact keep
          · exact ⟨small_set h.small ht (by have := List.length_filter_le (fun x => !eqR x a.r) t.rules; show (t.rules.filter fun x => !eqR x a.r).length ≤ _; omega) (by show t.ms.length ≤ _; omega) (fun r hr => h1.2.2 r (List.mem_filter.1 hr).1), nodup_set h.nodup (h.nodup t (List.mem_of_getElem? ht))⟩
    · exact ⟨doT_small h.small hz, doT_nodup a h.nodup⟩

def fillA (l : List Ac) : List Tn := l.foldl doA []
theorem fillA_good : ∀ (l : List Ac), (∀ a ∈ l, Fits a) → Good l.length (fillA l) := by
  have key : ∀ (l : List Ac) (k : Nat) (ts : List Tn), Good k ts → (∀ a ∈ l, Fits a) → Good (k + l.length) (l.foldl doA ts) := fun l => by
    induction l with
    | nil => exact fun k ts h _ => h
    | cons a l ih =>
      intro k ts h hf
      have := ih (k + 1) (doA ts a) (doA_good h (by have := (hf a (by simp)).rkey; omega)) fun b hb => hf b (by simp [hb])
      rw [List.foldl_cons, List.length_cons]
      rwa [Nat.add_assoc, Nat.add_comm 1] at this
  intro l hf
  have := key l 0 [] ⟨⟨Nat.le_refl _, fun t ht => by cases ht⟩, fun t ht => by cases ht⟩ hf
  rwa [Nat.zero_add] at this

set_option maxRecDepth 100000 in
set_option maxHeartbeats 2000000 in
theorem filled_any (w : World) (v : Value) (l : List Ac) (h : ActsAt w v l) (hl : l.length ≤ 63) (hf : ∀ a ∈ l, Fits a) :
    Calls Try.prog 20 #[v] w fun e w' => ∃ b, e = .returned (.pointer (some ⟨b, 0, none⟩)) ∧ BookIs w w' b (fillA l) := by
  obtain ⟨N, hN⟩ : ∃ N, l.length = N := ⟨_, rfl⟩
  obtain ⟨p, c, hv⟩ : ∃ p c, v = .slice p N c := by
    obtain ⟨a, c, h⟩ := h.len
    exact ⟨a, c, by rw [← hN]; exact h⟩
  subst hv
  rw [hN] at hl
  have HN := Lib.hid hN
  have HF := Lib.hid hf
  have HA := Lib.hid h
  have HNEW := Lib.hid (new_calls w)
  clear hN h hf
  go_enter Try.func20, Try.ntmps20
  go_wp2_with (go_at_call 12; refine HNEW.out.mono ?_; rintro e w1 ⟨b, rfl, m, hB1⟩)
  have hI0 : BookIs w w1 b [] := ⟨m, _, _, Books.new hB1⟩
  clear hB1 HNEW
  go_loopw [4] (fun i wr => ∃ k : Nat, k ≤ N ∧ i = .int .i64 k ∧ BookIs w wr b (fillA (l.take k))) (fun i _ => N - (intOf i).toNat)
  case atStart => exact ⟨0, by omega, rfl, hI0⟩
  case round =>
    obtain ⟨k, hkN, rfl, hI⟩ := hrel
    clear hI0
    by_cases hlt : k < N
    · obtain ⟨a, hp⟩ : ∃ a, l[k]? = some a := ⟨_, List.getElem?_eq_getElem (by rw [HN.out]; exact hlt)⟩
      have hb0 : Below w.heap.size w wr := by
        obtain ⟨_, _, _, h⟩ := hI
        exact h.book.below
      obtain ⟨ab, off, rfl, _, hrng⟩ := (HA.out.low hb0).at hp
      have hsm : Good 63 (fillA (l.take k)) := (fillA_good (l.take k) fun a ha => HF.out a (List.mem_of_mem_take ha)).mono (by simp; omega)
      have hnx : fillA (l.take (k + 1)) = doA (fillA (l.take k)) a := by
        have hk' : k < l.length := (List.getElem?_eq_some_iff.1 hp).1
        unfold fillA
        rw [List.take_succ_eq_append_getElem hk', (List.getElem?_eq_some_iff.1 hp).2, List.foldl_append]
        rfl
      have HD := Lib.hid (done_any w wr b _ a hI hsm (by have := (HF.out a (List.mem_of_getElem? hp)).rkey; omega))
      have i1 : (k : Int) < (N : Int) := by omega
      have i2 : 0 ≤ (k : Int) ∧ (k : Int) < (N : Int) := by omega
      have b2 : IntKind.i64.wrap ((k : Int) + 1) = (k : Int) + 1 := IntWalk.i64_in _ (by omega)
      have HX := Lib.hid hnx
      clear hI hsm hnx hp hb0
      go_wp2_with (first
        | (refine wpList_load_mid (by rfl) 38 _ (by rfl) ab (off + k * 10) (by rfl) a.cells _ hrng Try.underlying38 (by rfl) size_ac ?_)
        | (go_at_call 51; refine HD.out.mono ?_; rintro e w2 ⟨⟨z, rfl⟩, hI2⟩))
      go_roundw
      case rel => exact ⟨k + 1, by omega, by go_num, by rw [HX.out]; exact hI2⟩
      case measure => simp [intOf]; omega
    · obtain rfl : k = N := by omega
      rw [← HN.out, List.take_length] at hI
      have i1 : ¬ (k : Int) < (k : Int) := by omega
      go_wp2
      go_ret
      exact ⟨b, rfl, hI⟩

end Go.Proofs.Ytglcingpolpkdaa
