/- (*Book).Grant of a rule that is there. -/
import Derived.Test.YtglcingpolpkdaaAJoinedX2
namespace Go.Proofs.Ytglcingpolpkdaa
open Go.RowKit

set_option maxRecDepth 100000 in
set_option maxHeartbeats 4000000 in
theorem grant_there (W w : World) (b m t mi : Nat) (nv rv mv : Value) (names : List ByteArray) (l : List (ByteArray × Value)) (name : ByteArray) (rules : List Rl) (ms : List (ByteArray × ByteArray)) (who key : ByteArray) (what : Int) (deny : Bool) (hB : BookAt W w b m nv names l) (hT : TenOwn W w t rv mv mi rules ms) (hl : findS l name = some (.pointer (some ⟨t, 0, none⟩))) (hmay : mayB ⟨who, what, key, deny⟩ = true) (hnew : hasR rules ⟨who, what, key, deny⟩ = true) (hlen : rules.length < 128) (hsz : key.size ≤ 9223372036854775807) :
    Calls Try.prog 14 #[.pointer (some ⟨b, 0, none⟩), .string name, .agg #[.string who, .int .i64 what, .string key, .bool deny]] w fun e w' => e = .returned (.int .i64 7) ∧ Below w.heap.size w w' := by
  have hBA : Below w.heap.size w (w.alloc (.cells #[.string who, .int .i64 what, .string key, .bool deny] 29)) := (Below.refl _ _).alloc (Nat.le_refl _) _
  have hR := Whole.new w 29 #[.string who, .int .i64 what, .string key, .bool deny]
  have hB0 := hB.on hBA
  have hT0 := hT.on hBA
  obtain ⟨R, hReq⟩ : ∃ R, w.heap.size = R := ⟨_, rfl⟩
  have hRt : R ≠ t := by
    have := hT.ten.lt
    omega
  have hRv : rv.ownBlock ≠ some R := fun h => by
    obtain ⟨cur, hc⟩ := row_type hT.rules h
    have := (Array.getElem?_eq_some_iff.1 hc).1
    omega
  have hG0 : GK W (w.alloc (.cells #[.string who, .int .i64 what, .string key, .bool deny] 29)) b m R t mi nv rv mv names l rules ms who key what deny := ⟨hB0, hT0, hReq ▸ hR⟩
  obtain ⟨t0, r0, r1, r2, r3⟩ := hG0.facts
  have c1 := hB0.book.cell 1
  have hz : (zeroValue 97).run Try.prog (w.alloc (.cells #[.string who, .int .i64 what, .string key, .bool deny] 29)) = .ok (.pointer none) (w.alloc (.cells #[.string who, .int .i64 what, .string key, .bool deny] 29)) := by kernel_rfl
  have hlk := look_S Try.underlying44 Try.underlying9 hB0.all name hz
  rw [hl] at hlk
  have mk := made_calls (w.alloc (.cells #[.string who, .int .i64 what, .string key, .bool deny] 29)) b m c1
  have MC := Lib.hid (hmay ▸ may_calls (w.alloc (.cells #[.string who, .int .i64 what, .string key, .bool deny] 29)) who key what deny hsz)
  have CR := Lib.hid (fun (wx : World) (h : OwnR wx W.heap.size rv rules) => hnew ▸ contains_rule wx W.heap.size rv rules who key what deny h (by omega))
  obtain ⟨xr, kr, yr, hrv⟩ := slice_any hT.rules
  have hkr : kr < 128 := by
    obtain ⟨a, c, h⟩ := slice_of_row hT.rules
    rw [hrv] at h
    injection h with _ h _
    omega
  subst hrv
  have i1 : ¬ (128 : Int) ≤ (kr : Int) := by omega
  have HG := Lib.hid hG0
  have HRT := Lib.hid (And.intro hRt hRv)
  have HLEN := Lib.hid hlen
  clear hz hR hB0 hT0 hG0 hB hT hl hmay hnew hRt hRv hlen
  go_enter Try.func14, Try.ntmps14
  go_wp2_with (first
    | (refine wpList_box_cells (by rfl) 29 _ (by rfl) #[.string who, .int .i64 what, .string key, .bool deny] (by rfl) ?_; rw [hReq])
    | (go_at_call 42; refine mk.mono ?_; rintro e w' ⟨rfl, hw⟩; rw [hw]; clear hw)
    | (go_at_call 44; refine MC.out.mono ?_; rintro e w1 ⟨rfl, hB1⟩))
  have hG := HG.out.on hB1
  have hOld1 : Below w.heap.size w w1 := hBA.trans (hB1.mono hBA.size)
  refine wp_region_noPanic ?_
  refine wp_region_held_drew (S := fun w' => GK W w' b m R t mi nv (.slice xr kr yr) mv names l rules ms who key what deny) (by kernel_rfl) (hG.on ((Below.refl _ _).drew)) (fun hhS => ?_)
  refine wpAnyH_take (i := 0) (oi := ⟨some 24, _, _, _, _, _⟩) (v := ?_) rfl (by kernel_rfl) (by kernel_rfl) (by kernel_rfl) (fun _ _ _ h => h) (Or.inl ⟨by rfl, ?_⟩) (by assumption) ?_
  rotate_left
  · intro w hSw
    (try dsimp only at hSw)
    go_simp
    all_goals (with_reducible rfl)
  try simp only [Act.put, List.setIfInBounds_toArray, List.set_cons_zero, List.set_cons_succ]
  refine wpAnyH_take (i := 1) (oi := ⟨some 25, _, _, _, _, _⟩) (v := ?_) rfl (by kernel_rfl) (by kernel_rfl) (by kernel_rfl) (fun _ _ _ h => h) (Or.inl ⟨by rfl, ?_⟩) (by assumption) ?_
  rotate_left
  · intro w hSw
    (try dsimp only at hSw)
    go_simp
    all_goals (with_reducible rfl)
  try simp only [Act.put, List.setIfInBounds_toArray, List.set_cons_zero, List.set_cons_succ]
  refine wpAnyH_take (i := 2) (oi := ⟨some 26, _, _, _, _, _⟩) (v := ?_) rfl (by kernel_rfl) (by kernel_rfl) (by kernel_rfl) (fun _ _ _ h => h) (Or.inl ⟨by rfl, ?_⟩) (by assumption) ?_
  rotate_left
  · intro w hSw
    (try dsimp only at hSw)
    go_simp
    all_goals (with_reducible rfl)
  try simp only [Act.put, List.setIfInBounds_toArray, List.set_cons_zero, List.set_cons_succ]
  refine wpAnyH_take (i := 3) (oi := ⟨some 27, _, _, _, _, _⟩) (v := ?_) rfl (by kernel_rfl) (by kernel_rfl) (by kernel_rfl) (fun _ _ _ h => h) (Or.inl ⟨by rfl, ?_⟩) (by assumption) ?_
  rotate_left
  · intro w hSw
    (try dsimp only at hSw)
    obtain ⟨t0, x0, x1, x2, x3⟩ := hSw.facts
    go_simp
    all_goals (with_reducible rfl)
  try simp only [Act.put, List.setIfInBounds_toArray, List.set_cons_zero, List.set_cons_succ]
  refine wpAnyH_take (i := 4) (oi := ⟨some 28, _, _, _, _, _⟩) (v := ?_) rfl (by kernel_rfl) (by kernel_rfl) (by kernel_rfl) (fun _ _ _ h => h) (Or.inl ⟨by rfl, ?_⟩) (by assumption) ?_
  rotate_left
  · intro w hSw
    (try dsimp only at hSw)
    obtain ⟨t0, x0, x1, x2, x3⟩ := hSw.facts
    go_simp
    all_goals (with_reducible rfl)
  try simp only [Act.put, List.setIfInBounds_toArray, List.set_cons_zero, List.set_cons_succ]
  refine wpAnyH_ready (rs := [5]) (by kernel_rfl) (by simp) ?_
  refine AllReadyH.cons (o := ⟨some 29, _, _, _, _, _⟩) rfl (fun K hK => ?_) AllReadyH.nil
  go_simp
  refine (CR.out _ hhS.ten.rules).mono ?_
  rintro e w5 ⟨rfl, hB5⟩
  refine hK.out _ _ (hhS.on hB5) (fun hh5 => ?_)
  clear hK K
  try simp only [Act.put, List.setIfInBounds_toArray, List.set_cons_zero, List.set_cons_succ]
  refine wpAnyH_take (i := 6) (oi := ⟨some 23, _, _, _, _, _⟩) (v := ?_) rfl (by kernel_rfl) (by kernel_rfl) (by kernel_rfl) (fun _ _ _ h => h) (Or.inl ⟨by rfl, ?_⟩) (by assumption) ?_
  rotate_left
  · intro w hSw
    (try dsimp only at hSw)
    go_simp
    all_goals (with_reducible rfl)
  try simp only [Act.put, List.setIfInBounds_toArray, List.set_cons_zero, List.set_cons_succ]
  refine wpAnyH_done (by kernel_rfl) ?_ _
  refine NoPanic.normal ?_
  have hOld := hOld1.trans ((((Below.refl w1.heap.size w1).drew).trans hB5).mono hOld1.size)
  go_wp2
  go_ret
  exact ⟨rfl, hOld⟩

end Go.Proofs.Ytglcingpolpkdaa

/- (*Book).Join of a member who is there. -/
namespace Go.Proofs.Ytglcingpolpkdaa
open Go.RowKit

set_option maxRecDepth 100000 in
set_option maxHeartbeats 4000000 in
theorem join_there (W w : World) (b m t mi : Nat) (nv rv mv : Value) (names : List ByteArray) (l : List (ByteArray × Value)) (name role who : ByteArray) (rules : List Rl) (ms : List (ByteArray × ByteArray))
    (hB : BookAt W w b m nv names l) (hT : TenOwn W w t rv mv mi rules ms) (hl : findS l name = some (.pointer (some ⟨t, 0, none⟩))) (hr : nameB role = true) (hw : nameB who = true) (hnew : hasM ms (role, who) = true) (hlen : ms.length < 256) :
    Calls Try.prog 16 #[.pointer (some ⟨b, 0, none⟩), .string name, .string role, .string who] w fun e w' => e = .returned (.int .i64 7) ∧ Below w.heap.size w w' := by
  have hz : ∀ w : World, (zeroValue 97).run Try.prog w = .ok (.pointer none) w := fun w => by kernel_rfl
  have c1 := hB.book.cell 1
  have mk := made_calls w b m c1
  have NR := Lib.hid (fun (w : World) => hr ▸ name_calls w role)
  have NW := Lib.hid (fun (w : World) => hw ▸ name_calls w who)
  obtain ⟨xr, kr, yr, hrv⟩ := slice_any hT.mems
  have hkr : kr < 256 := by
    obtain ⟨a, c, h⟩ := slice_of_row hT.mems
    rw [hrv] at h
    injection h with _ h _
    omega
  subst hrv
  have i1 : ¬ (256 : Int) ≤ (kr : Int) := by omega
  have hne : m ≠ mi := map_ne hB.all hT.isIn (by rintro rfl; cases hl)
  have HNEW := Lib.hid hnew
  have HLEN := Lib.hid hlen
  have HB := Lib.hid hB
  have HT := Lib.hid hT
  have HL := Lib.hid hl
  have HNE := Lib.hid hne
  clear hB hT hl hr hw hnew hlen hne
  go_enter Try.func16, Try.ntmps16
  go_wp2_with (first
    | (go_at_call 42; refine mk.mono ?_; rintro e w' ⟨rfl, hw⟩; rw [hw]; clear hw)
    | (go_at_call 43; refine (NW.out w1).mono ?_; rintro e w2 ⟨rfl, hB2⟩; have hBk := HB.out.on (hB1.trans (hB2.mono hB1.size)); have hlk := look_S Try.underlying44 Try.underlying9 hBk.all name (hz w2); rw [HL.out] at hlk; have d1 := hBk.book.cell 1; have hTk := Lib.hid (HT.out.on (hB1.trans (hB2.mono hB1.size))); have HBk := Lib.hid hBk; clear hBk)
    | (go_at_call 43; refine (NR.out _).mono ?_; rintro e w1 ⟨rfl, hB1⟩))
  have hBA : Below w2.heap.size w2 (w2.alloc (.cells #[.string role, .string who] 106)) := (Below.refl _ _).alloc (Nat.le_refl _) _
  obtain ⟨M, hM⟩ : ∃ M, w2.heap.size = M := ⟨_, rfl⟩
  have hMt : M ≠ t := by
    have := hTk.out.ten.lt
    omega
  have hMv : (Value.slice xr kr yr).ownBlock ≠ some M := fun h => by
    obtain ⟨cur, hc⟩ := row_type hTk.out.mems h
    have := (Array.getElem?_eq_some_iff.1 hc).1
    omega
  have hJ : JK W (w2.alloc (.cells #[.string role, .string who] 106)) b m M t mi nv rv (.slice xr kr yr) names l rules ms role who := ⟨HBk.out.on hBA, hTk.out.on hBA, hM ▸ Whole.new w2 106 #[.string role, .string who]⟩
  rw [hM]
  have hOld3 : Below w.heap.size w (w2.alloc (.cells #[.string role, .string who] 106)) := (hB1.trans (hB2.mono hB1.size)).trans (hBA.mono (Nat.le_trans hB1.size hB2.size))
  clear hBA hlk d1
  generalize (w2.alloc (.cells #[.string role, .string who] 106)) = w3 at hJ hOld3 ⊢
  refine wp_region_noPanic ?_
  refine wp_region_held_drew (S := fun w' => JK W w' b m M t mi nv rv (.slice xr kr yr) names l rules ms role who) (by kernel_rfl) (hJ.on ((Below.refl _ _).drew)) (fun hhS => ?_)
  refine wpAnyH_take (i := 0) (oi := ⟨some 34, _, _, _, _, _⟩) (v := ?_) rfl (by kernel_rfl) (by kernel_rfl) (by kernel_rfl) (fun _ _ _ h => h) (Or.inl ⟨by rfl, ?_⟩) (by assumption) ?_
  rotate_left
  · intro w hSw
    (try dsimp only at hSw)
    go_simp
    all_goals (with_reducible rfl)
  try simp only [Act.put, List.setIfInBounds_toArray, List.set_cons_zero, List.set_cons_succ]
  refine wpAnyH_take (i := 1) (oi := ⟨some 35, _, _, _, _, _⟩) (v := ?_) rfl (by kernel_rfl) (by kernel_rfl) (by kernel_rfl) (fun _ _ _ h => h) (Or.inl ⟨by rfl, ?_⟩) (by assumption) ?_
  rotate_left
  · intro w hSw
    (try dsimp only at hSw)
    go_simp
    all_goals (with_reducible rfl)
  try simp only [Act.put, List.setIfInBounds_toArray, List.set_cons_zero, List.set_cons_succ]
  refine wpAnyH_take (i := 2) (oi := ⟨some 36, _, _, _, _, _⟩) (v := ?_) rfl (by kernel_rfl) (by kernel_rfl) (by kernel_rfl) (fun _ _ _ h => h) (Or.inl ⟨by rfl, ?_⟩) (by assumption) ?_
  rotate_left
  · intro w hSw
    (try dsimp only at hSw)
    go_simp
    all_goals (with_reducible rfl)
  try simp only [Act.put, List.setIfInBounds_toArray, List.set_cons_zero, List.set_cons_succ]
  refine wpAnyH_take (i := 3) (oi := ⟨some 37, _, _, _, _, _⟩) (v := ?_) rfl (by kernel_rfl) (by kernel_rfl) (by kernel_rfl) (fun _ _ _ h => h) (Or.inl ⟨by rfl, ?_⟩) (by assumption) ?_
  rotate_left
  · intro w hSw
    (try dsimp only at hSw)
    obtain ⟨t1, t2, x0, x1⟩ := hSw.facts
    go_simp
    all_goals (with_reducible rfl)
  try simp only [Act.put, List.setIfInBounds_toArray, List.set_cons_zero, List.set_cons_succ]
  refine wpAnyH_take (i := 4) (oi := ⟨some 38, _, _, _, _, _⟩) (v := ?_) rfl (by kernel_rfl) (by kernel_rfl) (by kernel_rfl) (fun _ _ _ h => h) (Or.inl ⟨by rfl, ?_⟩) (by assumption) ?_
  rotate_left
  · intro w hSw
    (try dsimp only at hSw)
    obtain ⟨t1, t2, x0, x1⟩ := hSw.facts
    go_simp
    all_goals (with_reducible rfl)
  try simp only [Act.put, List.setIfInBounds_toArray, List.set_cons_zero, List.set_cons_succ]
  refine wpAnyH_take (i := 5) (oi := ⟨some 39, _, _, _, _, _⟩) (v := ?_) rfl (by kernel_rfl) (by kernel_rfl) (by kernel_rfl) (fun _ _ _ h => h) (Or.inl ⟨by rfl, ?_⟩) (by assumption) ?_
  rotate_left
  · intro w hSw
    (try dsimp only at hSw)
    have lk := look_M hSw.ten.isIn role who
    rw [HNEW.out] at lk
    go_simp
    all_goals (with_reducible rfl)
  try simp only [Act.put, List.setIfInBounds_toArray, List.set_cons_zero, List.set_cons_succ]
  refine wpAnyH_take (i := 6) (oi := ⟨some 33, _, _, _, _, _⟩) (v := ?_) rfl (by kernel_rfl) (by kernel_rfl) (by kernel_rfl) (fun _ _ _ h => h) (Or.inl ⟨by rfl, ?_⟩) (by assumption) ?_
  rotate_left
  · intro w hSw
    (try dsimp only at hSw)
    go_simp
    all_goals (with_reducible rfl)
  try simp only [Act.put, List.setIfInBounds_toArray, List.set_cons_zero, List.set_cons_succ]
  refine wpAnyH_done (by kernel_rfl) ?_ _
  refine NoPanic.normal ?_
  have hJ8 := hhS
  have hOld : Below w.heap.size w w3.drew := hOld3.drew
  generalize w3.drew = w8 at hJ8 hOld ⊢
  go_wp2
  go_ret
  exact ⟨rfl, hOld⟩

end Go.Proofs.Ytglcingpolpkdaa

/- A book of several tenants in memory. -/
namespace Go.Proofs.Ytglcingpolpkdaa
open Go.RowKit

/-- A tenant, and where it lies. -/
structure Tn where
  name : ByteArray
  rules : List Rl
  ms : List (ByteArray × ByteArray)
structure Ad where
  t : Nat
  mi : Nat
  rv : Value
  mv : Value
/-- The blocks of a tenant. -/
def Ad.foot (a : Ad) (k : Nat) : Prop := k = a.t ∨ k = a.mi ∨ a.rv.ownBlock = some k ∨ a.mv.ownBlock = some k
def entries (ts : List Tn) (ads : List Ad) : List (ByteArray × Value) := List.zipWith (fun t a => (t.name, Value.pointer (some ⟨a.t, 0, none⟩))) ts ads

structure Books (W w : World) (b m : Nat) (nv : Value) (ts : List Tn) (ads : List Ad) : Prop where
  len : ads.length = ts.length
  book : BookAt W w b m nv (ts.map Tn.name) (entries ts ads)
  each : ∀ (i : Nat) (t : Tn) (a : Ad), ts[i]? = some t → ads[i]? = some a → TenOwn W w a.t a.rv a.mv a.mi t.rules t.ms
  apart : ∀ (i j : Nat) (a c : Ad) (k : Nat), ads[i]? = some a → ads[j]? = some c → a.foot k → c.foot k → i = j
  off : ∀ (i : Nat) (a : Ad) (k : Nat), ads[i]? = some a → a.foot k → k ≠ b ∧ k ≠ m ∧ nv.ownBlock ≠ some k
/-- A book with these tenants. -/
def BookIs (W w : World) (b : Nat) (ts : List Tn) : Prop := ∃ m nv ads, Books W w b m nv ts ads

theorem row_lt {w : World} {B n size : Nat} {e : TypeId} {v : Value} {xs : List Value} (h : w.ownsRow B e size v n xs) {g : Nat} (hg : v.ownBlock = some g) : g < w.heap.size := by
  obtain ⟨c, hc⟩ := row_type h hg
  exact (Array.getElem?_eq_some_iff.1 hc).1
theorem TenOwn.foot_lt {W w : World} {a : Ad} {rules : List Rl} {ms : List (ByteArray × ByteArray)} (h : TenOwn W w a.t a.rv a.mv a.mi rules ms) {k : Nat} (hk : a.foot k) : k < w.heap.size := by
  obtain ⟨e, c, hi, _⟩ := h.isIn
  rcases hk with rfl | rfl | hk | hk
  · exact h.ten.lt
  · exact (Array.getElem?_eq_some_iff.1 hi).1
  · exact row_lt h.rules hk
  · exact row_lt h.mems hk
theorem TenOwn.only {W w w' : World} {S : Nat → Prop} {a : Ad} {rules : List Rl} {ms : List (ByteArray × ByteArray)} (h : TenOwn W w a.t a.rv a.mv a.mi rules ms) (ho : Only w w' S) (hs : ∀ k, a.foot k → ¬ S k) : TenOwn W w' a.t a.rv a.mv a.mi rules ms :=
  ⟨h.ten.only ho (hs _ (.inl rfl)), row_only h.rules ho (fun g hg => hs g (.inr (.inr (.inl hg)))), row_only h.mems ho (fun g hg => hs g (.inr (.inr (.inr hg)))), h.isIn.only ho (hs _ (.inr (.inl rfl))), h.get, h.gei⟩
theorem Books.on {W w w' : World} {b m : Nat} {nv : Value} {ts : List Tn} {ads : List Ad} (h : Books W w b m nv ts ads) (hb : Below w.heap.size w w') : Books W w' b m nv ts ads :=
  ⟨h.len, h.book.on hb, fun i t a ht ha => (h.each i t a ht ha).on hb, h.apart, h.off⟩
theorem BookIs.on {W w w' : World} {b : Nat} {ts : List Tn} (h : BookIs W w b ts) (hb : Below w.heap.size w w') : BookIs W w' b ts := by
  obtain ⟨m, nv, ads, h⟩ := h
  exact ⟨m, nv, ads, h.on hb⟩

/-- The first tenant of a name. -/
def getT : List Tn → ByteArray → Option (Nat × Tn)
  | [], _ => none
  | t :: ts, n => if t.name = n then some (0, t) else (getT ts n).map fun p => (p.1 + 1, p.2)
theorem getT_at : ∀ {ts : List Tn} {n : ByteArray} {i : Nat} {t : Tn}, getT ts n = some (i, t) → ts[i]? = some t ∧ t.name = n
  | [], _, _, _, h => by cases h
  | s :: ts, n, i, t, h => by
    unfold getT at h
    split at h
    · rename_i hs
      injection h with h
      injection h with h1 h2
      subst h1 h2
      exact ⟨rfl, hs⟩
    · obtain ⟨⟨j, u⟩, hj, he⟩ := Option.map_eq_some_iff.1 h
      injection he with h1 h2
      subst h1 h2
      obtain ⟨h3, h4⟩ := getT_at hj
      exact ⟨by simpa using h3, h4⟩
theorem find_entries : ∀ (ts : List Tn) (ads : List Ad) (n : ByteArray), ads.length = ts.length → findS (entries ts ads) n = (getT ts n).bind fun p => (ads[p.1]?).map fun a => Value.pointer (some ⟨a.t, 0, none⟩)
  | [], _, _, _ => by simp [entries, findS, getT]
  | t :: ts, [], _, h => by simp at h
  | t :: ts, a :: ads, n, h => by
    have ih := find_entries ts ads n (by simpa using h)
    have e : entries (t :: ts) (a :: ads) = (t.name, Value.pointer (some ⟨a.t, 0, none⟩)) :: entries ts ads := rfl
    rw [e]
    unfold findS getT
    by_cases hn : t.name = n
    · simp [hn]
    · rw [if_neg hn, if_neg hn, ih]
      cases getT ts n with
      | none => rfl
      | some p => simp

/-- One tenant is turned. -/
theorem Books.step {W w w' : World} {b m i : Nat} {nv : Value} {ts : List Tn} {ads : List Ad} {t t' : Tn} {a a' : Ad} {S : Nat → Prop} (h : Books W w b m nv ts ads) (ht : ts[i]? = some t) (ha : ads[i]? = some a) (hn : t'.name = t.name) (hat : a'.t = a.t)
    (hB : BookAt W w' b m nv (ts.map Tn.name) (entries ts ads)) (hT : TenOwn W w' a'.t a'.rv a'.mv a'.mi t'.rules t'.ms) (ho : Only w w' S) (hS : ∀ k, S k → a.foot k) (hf : ∀ k, a'.foot k → a.foot k ∨ w.heap.size ≤ k) :
    Books W w' b m nv (ts.set i t') (ads.set i a') := by
  have hi : i < ts.length := (List.getElem?_eq_some_iff.1 ht).1
  have hia : i < ads.length := (List.getElem?_eq_some_iff.1 ha).1
  have low : ∀ (j : Nat) (c : Ad) (k : Nat), ads[j]? = some c → c.foot k → k < w.heap.size := fun j c k hc hk => by
    have hj : j < ts.length := by rw [← h.len]; exact (List.getElem?_eq_some_iff.1 hc).1
    exact (h.each j _ c (List.getElem?_eq_getElem hj) hc).foot_lt hk
  have fresh : ∀ (j : Nat) (c : Ad) (k : Nat), ads[j]? = some c → a'.foot k → c.foot k → i = j := fun j c k hc h1 h2 => by
    rcases hf k h1 with h1 | h1
    · exact h.apart i j a c k ha hc h1 h2
    · have := low j c k hc h2
      omega
  have get' : ∀ (j : Nat) (c : Ad), (ads.set i a')[j]? = some c → (j = i ∧ c = a') ∨ (j ≠ i ∧ ads[j]? = some c) := fun j c hc => by
    by_cases hj : j = i
    · subst hj
      rw [List.getElem?_set_self hia] at hc
      exact .inl ⟨rfl, by injection hc with hc; exact hc.symm⟩
    · rw [List.getElem?_set_ne (Ne.symm hj)] at hc
      exact .inr ⟨hj, hc⟩
  have gett : ∀ (j : Nat) (c : Tn), (ts.set i t')[j]? = some c → (j = i ∧ c = t') ∨ (j ≠ i ∧ ts[j]? = some c) := fun j c hc => by
    by_cases hj : j = i
    · subst hj
      rw [List.getElem?_set_self hi] at hc
      exact .inl ⟨rfl, by injection hc with hc; exact hc.symm⟩
    · rw [List.getElem?_set_ne (Ne.symm hj)] at hc
      exact .inr ⟨hj, hc⟩
  have hmap : (ts.set i t').map Tn.name = ts.map Tn.name := by
    rw [List.map_set, hn]
    apply List.ext_getElem?
    intro j
    by_cases hj : j = i
    · subst hj
      rw [List.getElem?_set_self (by simpa using hi), List.getElem?_map, ht]
      rfl
    · rw [List.getElem?_set_ne (Ne.symm hj)]
  have hent : entries (ts.set i t') (ads.set i a') = entries ts ads := by
    apply List.ext_getElem?
    intro j
    unfold entries
    rw [List.getElem?_zipWith, List.getElem?_zipWith]
    by_cases hj : j = i
    · subst hj
      rw [List.getElem?_set_self hi, List.getElem?_set_self hia, ht, ha]
      simp [hn, hat]
    · rw [List.getElem?_set_ne (Ne.symm hj), List.getElem?_set_ne (Ne.symm hj)]
  refine ⟨by simp [h.len], ?_, fun j u c hu hc => ?_, fun j k c d x hc hd h1 h2 => ?_, fun j c k hc hk => ?_⟩
  · rw [hmap, hent]
    exact hB
  · rcases get' j c hc with ⟨rfl, rfl⟩ | ⟨hj, hc⟩
    · rcases gett _ u hu with ⟨_, rfl⟩ | ⟨hj, _⟩
      · exact hT
      · exact absurd rfl hj
    · rcases gett _ u hu with ⟨e, _⟩ | ⟨_, hu⟩
      · exact absurd e hj
      · exact (h.each j u c hu hc).only ho fun x hx hs => hj (h.apart i j a c x ha hc (hS x hs) hx).symm
  · rcases get' j c hc with ⟨e1, e2⟩ | ⟨_, hc2⟩
    · rcases get' k d hd with ⟨e3, _⟩ | ⟨_, hd2⟩
      · rw [e1, e3]
      · rw [e1]
        exact fresh k d x hd2 (e2 ▸ h1) h2
    · rcases get' k d hd with ⟨e3, e4⟩ | ⟨_, hd2⟩
      · rw [e3]
        exact (fresh j c x hc2 (e4 ▸ h2) h1).symm
      · exact h.apart j k c d x hc2 hd2 h1 h2
  · rcases get' j c hc with ⟨rfl, rfl⟩ | ⟨_, hc⟩
    · rcases hf k hk with hk | hk
      · exact h.off j a k ha hk
      · have h1 := h.book.book.lt
        have h2 := h.book.all.lt
        refine ⟨by omega, by omega, fun e => ?_⟩
        have := row_lt h.book.names e
        omega
    · exact h.off j c k hc hk


/-- One tenant more. -/
theorem Books.more {W w w' : World} {b m : Nat} {nv nv' : Value} {ts : List Tn} {ads : List Ad} {t mi : Nat} {name : ByteArray} (h : Books W w b m nv ts ads)
    (hB : BookAt W w' b m nv' (ts.map Tn.name ++ [name]) (entries ts ads ++ [(name, .pointer (some ⟨t, 0, none⟩))])) (hT : TenOwn W w' t (.slice none 0 0) (.slice none 0 0) mi [] []) (ho : Only w w' (fun i => i = b ∨ i = m ∨ nv.ownBlock = some i))
    (hf : w.heap.size ≤ t ∧ w.heap.size ≤ mi) : Books W w' b m nv' (ts ++ [⟨name, [], []⟩]) (ads ++ [⟨t, mi, .slice none 0 0, .slice none 0 0⟩]) := by
  have low : ∀ (j : Nat) (c : Ad) (k : Nat), ads[j]? = some c → c.foot k → k < w.heap.size := fun j c k hc hk => by
    have hj : j < ts.length := by rw [← h.len]; exact (List.getElem?_eq_some_iff.1 hc).1
    exact (h.each j _ c (List.getElem?_eq_getElem hj) hc).foot_lt hk
  have new : ∀ k, (Ad.mk t mi (.slice none 0 0) (.slice none 0 0)).foot k → k = t ∨ k = mi := fun k hk => by
    rcases hk with hk | hk | hk | hk
    · exact .inl hk
    · exact .inr hk
    · cases hk
    · cases hk
  have geta : ∀ (j : Nat) (c : Ad), (ads ++ [⟨t, mi, .slice none 0 0, .slice none 0 0⟩])[j]? = some c → ads[j]? = some c ∨ (j = ads.length ∧ c = ⟨t, mi, .slice none 0 0, .slice none 0 0⟩) := fun j c hc => by
    by_cases hj : j < ads.length
    · rw [List.getElem?_append_left hj] at hc
      exact .inl hc
    · rw [List.getElem?_append_right (by omega)] at hc
      have h1 := (List.getElem?_eq_some_iff.1 hc).1
      simp at h1
      have h2 : j = ads.length := by omega
      subst h2
      exact .inr ⟨rfl, by simpa using hc.symm⟩
  refine ⟨by simp [h.len], ?_, fun j u c hu hc => ?_, fun j k c d x hc hd h1 h2 => ?_, fun j c k hc hk => ?_⟩
  · have e : entries (ts ++ [⟨name, [], []⟩]) (ads ++ [⟨t, mi, .slice none 0 0, .slice none 0 0⟩]) = entries ts ads ++ [(name, .pointer (some ⟨t, 0, none⟩))] := by
      unfold entries
      rw [List.zipWith_append h.len.symm]
      rfl
    rw [e, List.map_append]
    exact hB
  · rcases geta j c hc with hc2 | ⟨e1, e2⟩
    · have hj : j < ts.length := by rw [← h.len]; exact (List.getElem?_eq_some_iff.1 hc2).1
      rw [List.getElem?_append_left hj] at hu
      exact (h.each j u c hu hc2).only ho fun k hk hs => by
        have := h.off j c k hc2 hk
        rcases hs with hs | hs | hs
        · exact this.1 hs
        · exact this.2.1 hs
        · exact this.2.2 hs
    · rw [e1, h.len, List.getElem?_append_right (Nat.le_refl _)] at hu
      have hu : u = ⟨name, [], []⟩ := by simpa using hu.symm
      rw [hu, e2]
      exact hT
  · rcases geta j c hc with hc2 | ⟨e1, e2⟩
    · rcases geta k d hd with hd2 | ⟨e3, e4⟩
      · exact h.apart j k c d x hc2 hd2 h1 h2
      · have := low j c x hc2 h1
        rw [e4] at h2
        rcases new x h2 with h2 | h2 <;> omega
    · rcases geta k d hd with hd2 | ⟨e3, e4⟩
      · have := low k d x hd2 h2
        rw [e2] at h1
        rcases new x h1 with h1 | h1 <;> omega
      · rw [e1, e3]
  · have hb := h.book.book.lt
    have hm := h.book.all.lt
    rcases geta j c hc with hc2 | ⟨e1, e2⟩
    · have hoff := h.off j c k hc2 hk
      have hlt := low j c k hc2 hk
      refine ⟨hoff.1, hoff.2.1, fun e => ?_⟩
      have hj : j < ts.length := by rw [← h.len]; exact (List.getElem?_eq_some_iff.1 hc2).1
      have hten := (h.each j _ c (List.getElem?_eq_getElem hj) hc2).only ho fun k hk hs => by
        have := h.off j c k hc2 hk
        rcases hs with hs | hs | hs
        · exact this.1 hs
        · exact this.2.1 hs
        · exact this.2.2 hs
      obtain ⟨cur, h1⟩ := row_type hB.names e
      rcases hk with rfl | rfl | hk | hk
      · exact row_ne_whole hB.names hten.ten (by decide) e
      · obtain ⟨x1, x2, h3, _⟩ := hten.isIn
        exact row_ne_map hB.names h3 e
      · obtain ⟨c2, h2⟩ := row_type hten.rules hk
        rw [h1] at h2
        injection h2 with h2
        injection h2 with _ h2 _
        exact absurd h2 (by decide)
      · obtain ⟨c2, h2⟩ := row_type hten.mems hk
        rw [h1] at h2
        injection h2 with h2
        injection h2 with _ h2 _
        exact absurd h2 (by decide)
    · rw [e2] at hk
      have hk2 := new k hk
      refine ⟨by omega, by omega, fun e => ?_⟩
      rcases hk2 with rfl | rfl
      · exact row_ne_whole hB.names hT.ten (by decide) e
      · obtain ⟨x1, x2, h3, _⟩ := hT.isIn
        exact row_ne_map hB.names h3 e

theorem Books.new {W w : World} {b m : Nat} (h : BookAt W w b m (.slice none 0 0) [] []) : Books W w b m (.slice none 0 0) [] [] :=
  ⟨rfl, h, fun i t a ht _ => by simp at ht, fun i j a c k ha _ _ _ => by simp at ha, fun i a k ha _ => by simp at ha⟩

end Go.Proofs.Ytglcingpolpkdaa
