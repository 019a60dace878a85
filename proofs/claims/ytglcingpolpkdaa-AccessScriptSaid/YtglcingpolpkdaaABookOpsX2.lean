/- Open, Join, Grant and Allowed of a book of several tenants. -/
import Derived.Test.YtglcingpolpkdaaAThereX3
namespace Go.Proofs.Ytglcingpolpkdaa
open Go.RowKit

def openT (ts : List Tn) (name : ByteArray) : Int × List Tn :=
  if nameB name = false then (2, ts) else match getT ts name with
    | some _ => (7, ts)
    | none => (0, ts ++ [⟨name, [], []⟩])
def grantT (ts : List Tn) (name : ByteArray) (r : Rl) : Int × List Tn :=
  if mayB r = false then (2, ts) else match getT ts name with
    | none => (6, ts)
    | some (i, t) => if hasR t.rules r = true then (7, ts) else (0, ts.set i ⟨t.name, t.rules ++ [r], t.ms⟩)
def joinT (ts : List Tn) (name role who : ByteArray) : Int × List Tn :=
  if (nameB role && nameB who) = false then (2, ts) else match getT ts name with
    | none => (6, ts)
    | some (i, t) => if hasM t.ms (role, who) = true then (7, ts) else (0, ts.set i ⟨t.name, t.rules, t.ms ++ [(role, who)]⟩)
def allowT (ts : List Tn) (name who : ByteArray) (what : Int) (key : ByteArray) : Bool :=
  match getT ts name with
    | none => false
    | some (_, t) => allowedB t.rules t.ms who what key

/-- No list of a book is longer than n. -/
def Small (n : Nat) (ts : List Tn) : Prop := ts.length ≤ n ∧ ∀ t ∈ ts, t.rules.length ≤ n ∧ t.ms.length ≤ n ∧ ∀ r ∈ t.rules, r.key.size ≤ 9223372036854775807

theorem find_book {W w : World} {b m : Nat} {nv : Value} {ts : List Tn} {ads : List Ad} (h : Books W w b m nv ts ads) {name : ByteArray} {i : Nat} {t : Tn} (hg : getT ts name = some (i, t)) :
    ∃ a, ts[i]? = some t ∧ t.name = name ∧ ads[i]? = some a ∧ findS (entries ts ads) name = some (.pointer (some ⟨a.t, 0, none⟩)) ∧ TenOwn W w a.t a.rv a.mv a.mi t.rules t.ms := by
  obtain ⟨h1, h2⟩ := getT_at hg
  have hi : i < ads.length := by rw [h.len]; exact (List.getElem?_eq_some_iff.1 h1).1
  have ha := List.getElem?_eq_getElem hi
  refine ⟨ads[i], h1, h2, ha, ?_, h.each i t _ h1 ha⟩
  rw [find_entries ts ads name h.len, hg]
  show (ads[i]?).map _ = _
  rw [ha]
  rfl
theorem find_none {W w : World} {b m : Nat} {nv : Value} {ts : List Tn} {ads : List Ad} (h : Books W w b m nv ts ads) {name : ByteArray} (hg : getT ts name = none) : findS (entries ts ads) name = none := by
  rw [find_entries ts ads name h.len, hg]
  rfl
theorem small_at {n : Nat} {ts : List Tn} (h : Small n ts) {i : Nat} {t : Tn} (ht : ts[i]? = some t) : t.rules.length ≤ n ∧ t.ms.length ≤ n ∧ ∀ r ∈ t.rules, r.key.size ≤ 9223372036854775807 := h.2 t (List.mem_of_getElem? ht)

theorem open_book (W w : World) (b : Nat) (ts : List Tn) (name : ByteArray) (h : BookIs W w b ts) (hs : Small 63 ts) :
    Calls Try.prog 13 #[.pointer (some ⟨b, 0, none⟩), .string name] w fun e w' => e = .returned (.int .i64 (openT ts name).1) ∧ BookIs W w' b (openT ts name).2 := by
  obtain ⟨m, nv, ads, h⟩ := h
  unfold openT
  by_cases hn : nameB name = false
  · rw [if_pos hn]
    refine (open_bad W w b m nv _ _ name h.book hn).mono ?_
    rintro e w' ⟨rfl, hb⟩
    exact ⟨rfl, m, nv, ads, h.on hb⟩
  · rw [if_neg hn]
    have hn : nameB name = true := by simpa using hn
    cases hg : getT ts name with
    | none =>
      refine (open_calls W w b m nv _ _ name h.book hn (find_none h hg) (by have := hs.1; simp; omega)).mono ?_
      rintro e w' ⟨rfl, nv', t, mi, hB, hT, hO, h1, h2⟩
      exact ⟨rfl, m, nv', _, h.more hB hT hO ⟨h1, h2⟩⟩
    | some p =>
      obtain ⟨i, t⟩ := p
      obtain ⟨a, _, _, _, hf, _⟩ := find_book h hg
      refine (open_there W w b m nv _ _ name _ h.book hn hf).mono ?_
      rintro e w' ⟨rfl, hb⟩
      exact ⟨rfl, m, nv, ads, h.on hb⟩

theorem grant_book (W w : World) (b : Nat) (ts : List Tn) (name who key : ByteArray) (what : Int) (deny : Bool) (h : BookIs W w b ts) (hs : Small 63 ts) (hsz : key.size ≤ 9223372036854775807) :
    Calls Try.prog 14 #[.pointer (some ⟨b, 0, none⟩), .string name, .agg #[.string who, .int .i64 what, .string key, .bool deny]] w fun e w' => e = .returned (.int .i64 (grantT ts name ⟨who, what, key, deny⟩).1) ∧ BookIs W w' b (grantT ts name ⟨who, what, key, deny⟩).2 := by
  obtain ⟨m, nv, ads, h⟩ := h
  unfold grantT
  by_cases hn : mayB ⟨who, what, key, deny⟩ = false
  · rw [if_pos hn]
    refine (grant_bad W w b m nv _ _ name who key what deny h.book hn hsz).mono ?_
    rintro e w' ⟨rfl, hb⟩
    exact ⟨rfl, m, nv, ads, h.on hb⟩
  · rw [if_neg hn]
    have hn : mayB ⟨who, what, key, deny⟩ = true := by simpa using hn
    cases hg : getT ts name with
    | none =>
      refine (grant_missing W w b m nv _ _ name who key what deny h.book (find_none h hg) hn hsz).mono ?_
      rintro e w' ⟨rfl, hb⟩
      exact ⟨rfl, m, nv, ads, h.on hb⟩
    | some p =>
      obtain ⟨i, t⟩ := p
      obtain ⟨a, ht, _, ha, hf, hT⟩ := find_book h hg
      have hsm := small_at hs ht
      show Calls _ _ _ _ fun e w' => e = .returned (.int .i64 (if hasR t.rules ⟨who, what, key, deny⟩ = true then ((7 : Int), ts) else (0, ts.set i ⟨t.name, t.rules ++ [⟨who, what, key, deny⟩], t.ms⟩)).1) ∧ BookIs W w' b (if hasR t.rules ⟨who, what, key, deny⟩ = true then ((7 : Int), ts) else (0, ts.set i ⟨t.name, t.rules ++ [⟨who, what, key, deny⟩], t.ms⟩)).2
      by_cases hh : hasR t.rules ⟨who, what, key, deny⟩ = true
      · rw [if_pos hh]
        refine (grant_there W w b m a.t a.mi nv a.rv a.mv _ _ name t.rules t.ms who key what deny h.book hT hf hn hh (by omega) hsz).mono ?_
        rintro e w' ⟨rfl, hb⟩
        exact ⟨rfl, m, nv, ads, h.on hb⟩
      · rw [if_neg hh]
        refine (grant_new W w b m a.t a.mi nv a.rv a.mv _ _ name t.rules t.ms who key what deny h.book hT hf hn (by simpa using hh) (by omega) hsz).mono ?_
        rintro e w' ⟨rfl, hB, ⟨rv', hT', hV⟩, hO⟩
        refine ⟨rfl, m, nv, _, h.step (a' := ⟨a.t, a.mi, rv', a.mv⟩) ht ha rfl rfl hB hT' hO (fun k hk => ?_) (fun k hk => ?_)⟩
        · rcases hk with hk | hk
          · exact .inl hk
          · exact .inr (.inr (.inl hk))
        · rcases hk with hk | hk | hk | hk
          · exact .inl (.inl hk)
          · exact .inl (.inr (.inl hk))
          · rcases hV with hV | ⟨g, hg1, hg2⟩
            · exact .inl (.inr (.inr (.inl (hV ▸ hk))))
            · have hk : rv'.ownBlock = some k := hk
              rw [hg1] at hk
              injection hk with hk
              exact .inr (hk ▸ hg2)
          · exact .inl (.inr (.inr (.inr hk)))

theorem join_book (W w : World) (b : Nat) (ts : List Tn) (name role who : ByteArray) (h : BookIs W w b ts) (hs : Small 63 ts) :
    Calls Try.prog 16 #[.pointer (some ⟨b, 0, none⟩), .string name, .string role, .string who] w fun e w' => e = .returned (.int .i64 (joinT ts name role who).1) ∧ BookIs W w' b (joinT ts name role who).2 := by
  obtain ⟨m, nv, ads, h⟩ := h
  unfold joinT
  by_cases hn : (nameB role && nameB who) = false
  · rw [if_pos hn]
    refine (join_bad W w b m nv _ _ name role who h.book hn).mono ?_
    rintro e w' ⟨rfl, hb⟩
    exact ⟨rfl, m, nv, ads, h.on hb⟩
  · rw [if_neg hn]
    have hn : nameB role = true ∧ nameB who = true := by simpa using hn
    cases hg : getT ts name with
    | none =>
      refine (join_missing W w b m nv _ _ name role who h.book (find_none h hg) hn.1 hn.2).mono ?_
      rintro e w' ⟨rfl, hb⟩
      exact ⟨rfl, m, nv, ads, h.on hb⟩
    | some p =>
      obtain ⟨i, t⟩ := p
      obtain ⟨a, ht, _, ha, hf, hT⟩ := find_book h hg
      have hsm := small_at hs ht
      show Calls _ _ _ _ fun e w' => e = .returned (.int .i64 (if hasM t.ms (role, who) = true then ((7 : Int), ts) else (0, ts.set i ⟨t.name, t.rules, t.ms ++ [(role, who)]⟩)).1) ∧ BookIs W w' b (if hasM t.ms (role, who) = true then ((7 : Int), ts) else (0, ts.set i ⟨t.name, t.rules, t.ms ++ [(role, who)]⟩)).2
      by_cases hh : hasM t.ms (role, who) = true
      · rw [if_pos hh]
        refine (join_there W w b m a.t a.mi nv a.rv a.mv _ _ name role who t.rules t.ms h.book hT hf hn.1 hn.2 hh (by omega)).mono ?_
        rintro e w' ⟨rfl, hb⟩
        exact ⟨rfl, m, nv, ads, h.on hb⟩
      · rw [if_neg hh]
        refine (join_new W w b m a.t a.mi nv a.rv a.mv _ _ name role who t.rules t.ms h.book hT hf hn.1 hn.2 (by simpa using hh) (by omega)).mono ?_
        rintro e w' ⟨rfl, hB, ⟨mv', hT', hV⟩, hO⟩
        refine ⟨rfl, m, nv, _, h.step (a' := ⟨a.t, a.mi, a.rv, mv'⟩) ht ha rfl rfl hB hT' hO (fun k hk => ?_) (fun k hk => ?_)⟩
        · rcases hk with (hk | hk) | hk
          · exact .inl hk
          · exact .inr (.inr (.inr hk))
          · exact .inr (.inl hk)
        · rcases hk with hk | hk | hk | hk
          · exact .inl (.inl hk)
          · exact .inl (.inr (.inl hk))
          · exact .inl (.inr (.inr (.inl hk)))
          · rcases hV with hV | ⟨g, hg1, hg2⟩
            · exact .inl (.inr (.inr (.inr (hV ▸ hk))))
            · have hk : mv'.ownBlock = some k := hk
              rw [hg1] at hk
              injection hk with hk
              exact .inr (hk ▸ hg2)

theorem allowed_book (W w : World) (b : Nat) (ts : List Tn) (name who key : ByteArray) (what : Int) (h : BookIs W w b ts) (hs : Small 63 ts) :
    Calls Try.prog 15 #[.pointer (some ⟨b, 0, none⟩), .string name, .string who, .int .i64 what, .string key] w fun e w' => e = .returned (.bool (allowT ts name who what key)) ∧ BookIs W w' b ts := by
  obtain ⟨m, nv, ads, h⟩ := h
  unfold allowT
  cases hg : getT ts name with
  | none =>
    refine (allowed_missing W w b m nv _ _ name who key what h.book (find_none h hg)).mono ?_
    rintro e w' ⟨rfl, hb⟩
    exact ⟨rfl, m, nv, ads, h.on hb⟩
  | some p =>
    obtain ⟨i, t⟩ := p
    obtain ⟨a, ht, _, ha, hf, hT⟩ := find_book h hg
    have hsm := small_at hs ht
    have hA : TenAt w w b m a.t name (entries ts ads) W.heap.size a.rv a.mv t.rules t.ms := ⟨h.book.book.cell 1, h.book.all, hf, hT.ten.cell 0, hT.ten.cell 1, hT.rules, hT.mems, Below.refl _ _⟩
    refine (allowed_calls w b m a.t W.heap.size name who key what _ a.rv a.mv t.rules t.ms hA (by omega) (by omega) hsm.2.2).mono ?_
    rintro e w' ⟨rfl, hb⟩
    exact ⟨rfl, m, nv, ads, h.on hb⟩

end Go.Proofs.Ytglcingpolpkdaa

/- done: a call of a book that opens, joins or grants; filled: a book behind calls. -/
namespace Go.Proofs.Ytglcingpolpkdaa
open Go.RowKit

/-- A call. -/
structure Ac where
  kind : Int
  tenant : ByteArray
  role : ByteArray
  who : ByteArray
  r : Rl
  what : Int
  key : ByteArray
def Ac.cells (a : Ac) : List Value := [.int .u8 a.kind, .string a.tenant, .string a.role, .string a.who, .string a.r.who, .int .i64 a.r.what, .string a.r.key, .bool a.r.deny, .int .i64 a.what, .string a.key]
/-- What a call that opens, joins or grants makes of a book. -/
def doT (ts : List Tn) (a : Ac) : List Tn :=
  if a.kind = 0 then (openT ts a.tenant).2 else if a.kind = 1 then (joinT ts a.tenant a.role a.who).2 else if a.kind = 3 then (grantT ts a.tenant a.r).2 else ts
def adds (a : Ac) : Prop := a.kind = 0 ∨ a.kind = 1 ∨ a.kind = 3

set_option maxRecDepth 100000 in
set_option maxHeartbeats 1000000 in
theorem done_open (W w : World) (b : Nat) (ts : List Tn) (tenant role who rwho rkey key : ByteArray) (rwhat what : Int) (deny : Bool) (h : BookIs W w b ts) (hs : Small 63 ts) (_ : rkey.size ≤ 9223372036854775807) :
    Calls Try.prog 51 #[.pointer (some ⟨b, 0, none⟩), .agg #[.int .u8 0, .string tenant, .string role, .string who, .string rwho, .int .i64 rwhat, .string rkey, .bool deny, .int .i64 what, .string key]] w fun e w' => (∃ v, e = .returned v) ∧ BookIs W w' b (doT ts ⟨0, tenant, role, who, ⟨rwho, rwhat, rkey, deny⟩, what, key⟩) := by
  have hBA : Below w.heap.size w (w.alloc (.cells #[.int .u8 0, .string tenant, .string role, .string who, .string rwho, .int .i64 rwhat, .string rkey, .bool deny, .int .i64 what, .string key] 38)) := (Below.refl _ _).alloc (Nat.le_refl _) _
  have hC := Whole.new w 38 #[.int .u8 0, .string tenant, .string role, .string who, .string rwho, .int .i64 rwhat, .string rkey, .bool deny, .int .i64 what, .string key]
  have c0 := hC.cell 0
  have c1 := hC.cell 1
  have c2 := hC.cell 2
  have c3 := hC.cell 3
  have c4 := hC.cell 4
  have c5 := hC.cell 5
  have c6 := hC.cell 6
  have c7 := hC.cell 7
  have HC := Lib.hid (open_book W (w.alloc (.cells #[.int .u8 0, .string tenant, .string role, .string who, .string rwho, .int .i64 rwhat, .string rkey, .bool deny, .int .i64 what, .string key] 38)) b ts tenant (h.on hBA) hs)
  clear hC h hs hBA
  go_enter Try.func51, Try.ntmps51
  go_wp2_with (first
    | (refine wpList_box_cells (by rfl) 38 _ (by rfl) #[.int .u8 0, .string tenant, .string role, .string who, .string rwho, .int .i64 rwhat, .string rkey, .bool deny, .int .i64 what, .string key] (by rfl) ?_)
    | (go_at_call 13; refine HC.out.mono ?_; rintro e w1 ⟨rfl, h1⟩))
  go_ret
  exact ⟨⟨_, rfl⟩, h1⟩

set_option maxRecDepth 100000 in
set_option maxHeartbeats 1000000 in
theorem done_join (W w : World) (b : Nat) (ts : List Tn) (tenant role who rwho rkey key : ByteArray) (rwhat what : Int) (deny : Bool) (h : BookIs W w b ts) (hs : Small 63 ts) (_ : rkey.size ≤ 9223372036854775807) :
    Calls Try.prog 51 #[.pointer (some ⟨b, 0, none⟩), .agg #[.int .u8 1, .string tenant, .string role, .string who, .string rwho, .int .i64 rwhat, .string rkey, .bool deny, .int .i64 what, .string key]] w fun e w' => (∃ v, e = .returned v) ∧ BookIs W w' b (doT ts ⟨1, tenant, role, who, ⟨rwho, rwhat, rkey, deny⟩, what, key⟩) := by
  have hBA : Below w.heap.size w (w.alloc (.cells #[.int .u8 1, .string tenant, .string role, .string who, .string rwho, .int .i64 rwhat, .string rkey, .bool deny, .int .i64 what, .string key] 38)) := (Below.refl _ _).alloc (Nat.le_refl _) _
  have hC := Whole.new w 38 #[.int .u8 1, .string tenant, .string role, .string who, .string rwho, .int .i64 rwhat, .string rkey, .bool deny, .int .i64 what, .string key]
  have c0 := hC.cell 0
  have c1 := hC.cell 1
  have c2 := hC.cell 2
  have c3 := hC.cell 3
  have c4 := hC.cell 4
  have c5 := hC.cell 5
  have c6 := hC.cell 6
  have c7 := hC.cell 7
  have HC := Lib.hid (join_book W (w.alloc (.cells #[.int .u8 1, .string tenant, .string role, .string who, .string rwho, .int .i64 rwhat, .string rkey, .bool deny, .int .i64 what, .string key] 38)) b ts tenant role who (h.on hBA) hs)
  clear hC h hs hBA
  go_enter Try.func51, Try.ntmps51
  go_wp2_with (first
    | (refine wpList_box_cells (by rfl) 38 _ (by rfl) #[.int .u8 1, .string tenant, .string role, .string who, .string rwho, .int .i64 rwhat, .string rkey, .bool deny, .int .i64 what, .string key] (by rfl) ?_)
    | (go_at_call 16; refine HC.out.mono ?_; rintro e w1 ⟨rfl, h1⟩))
  go_ret
  exact ⟨⟨_, rfl⟩, h1⟩

set_option maxRecDepth 100000 in
set_option maxHeartbeats 1000000 in
theorem done_grant (W w : World) (b : Nat) (ts : List Tn) (tenant role who rwho rkey key : ByteArray) (rwhat what : Int) (deny : Bool) (h : BookIs W w b ts) (hs : Small 63 ts) (hsz : rkey.size ≤ 9223372036854775807) :
    Calls Try.prog 51 #[.pointer (some ⟨b, 0, none⟩), .agg #[.int .u8 3, .string tenant, .string role, .string who, .string rwho, .int .i64 rwhat, .string rkey, .bool deny, .int .i64 what, .string key]] w fun e w' => (∃ v, e = .returned v) ∧ BookIs W w' b (doT ts ⟨3, tenant, role, who, ⟨rwho, rwhat, rkey, deny⟩, what, key⟩) := by
  have hBA : Below w.heap.size w (w.alloc (.cells #[.int .u8 3, .string tenant, .string role, .string who, .string rwho, .int .i64 rwhat, .string rkey, .bool deny, .int .i64 what, .string key] 38)) := (Below.refl _ _).alloc (Nat.le_refl _) _
  have hC := Whole.new w 38 #[.int .u8 3, .string tenant, .string role, .string who, .string rwho, .int .i64 rwhat, .string rkey, .bool deny, .int .i64 what, .string key]
  have c0 := hC.cell 0
  have c1 := hC.cell 1
  have c2 := hC.cell 2
  have c3 := hC.cell 3
  have c4 := hC.cell 4
  have c5 := hC.cell 5
  have c6 := hC.cell 6
  have c7 := hC.cell 7
  have HC := Lib.hid (grant_book W (w.alloc (.cells #[.int .u8 3, .string tenant, .string role, .string who, .string rwho, .int .i64 rwhat, .string rkey, .bool deny, .int .i64 what, .string key] 38)) b ts tenant rwho rkey rwhat deny (h.on hBA) hs hsz)
  clear hC h hs hsz hBA
  go_enter Try.func51, Try.ntmps51
  go_wp2_with (first
    | (refine wpList_box_cells (by rfl) 38 _ (by rfl) #[.int .u8 3, .string tenant, .string role, .string who, .string rwho, .int .i64 rwhat, .string rkey, .bool deny, .int .i64 what, .string key] (by rfl) ?_)
    | (go_at_call 14; refine HC.out.mono ?_; rintro e w1 ⟨rfl, h1⟩))
  go_ret
  exact ⟨⟨_, rfl⟩, h1⟩

theorem done_calls (W w : World) (b : Nat) (ts : List Tn) (a : Ac) (h : BookIs W w b ts) (hs : Small 63 ts) (ha : adds a) (hsz : a.r.key.size ≤ 9223372036854775807) :
    Calls Try.prog 51 #[.pointer (some ⟨b, 0, none⟩), .agg a.cells.toArray] w fun e w' => (∃ v, e = .returned v) ∧ BookIs W w' b (doT ts a) := by
  obtain ⟨kind, tenant, role, who, ⟨rwho, rwhat, rkey, deny⟩, what, key⟩ := a
  rcases ha with h0 | h0 | h0
  · have h0 : kind = 0 := h0
    subst h0
    exact done_open W w b ts tenant role who rwho rkey key rwhat what deny h hs hsz
  · have h0 : kind = 1 := h0
    subst h0
    exact done_join W w b ts tenant role who rwho rkey key rwhat what deny h hs hsz
  · have h0 : kind = 3 := h0
    subst h0
    exact done_grant W w b ts tenant role who rwho rkey key rwhat what deny h hs hsz

end Go.Proofs.Ytglcingpolpkdaa
