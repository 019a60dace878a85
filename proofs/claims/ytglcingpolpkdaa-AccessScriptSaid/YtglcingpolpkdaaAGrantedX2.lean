/- (*Book).Grant: what it answers, and what it leaves. -/
import Derived.WideKeyRuns
import Derived.Test.YtglcingpolpkdaaAGrant
namespace Go.Proofs.Ytglcingpolpkdaa
open Go.RowKit

/-- While a rule is looked for. -/
structure GK (W w : World) (b m R t mi : Nat) (nv rv mv : Value) (names : List ByteArray) (l : List (ByteArray × Value)) (rules : List Rl) (ms : List (ByteArray × ByteArray)) (who key : ByteArray) (what : Int) (deny : Bool) : Prop where
  book : BookAt W w b m nv names l
  ten : TenOwn W w t rv mv mi rules ms
  rule : Whole w R 29 [.string who, .int .i64 what, .string key, .bool deny]
theorem GK.on {W w w' : World} {b m R t mi : Nat} {nv rv mv : Value} {names : List ByteArray} {l : List (ByteArray × Value)} {rules : List Rl} {ms : List (ByteArray × ByteArray)} {who key : ByteArray} {what : Int} {deny : Bool} (h : GK W w b m R t mi nv rv mv names l rules ms who key what deny) (hb : Below w.heap.size w w') : GK W w' b m R t mi nv rv mv names l rules ms who key what deny :=
  ⟨h.book.on hb, h.ten.on hb, h.rule.below hb h.rule.lt⟩
theorem GK.facts {W w : World} {b m R t mi : Nat} {nv rv mv : Value} {names : List ByteArray} {l : List (ByteArray × Value)} {rules : List Rl} {ms : List (ByteArray × ByteArray)} {who key : ByteArray} {what : Int} {deny : Bool} (h : GK W w b m R t mi nv rv mv names l rules ms who key what deny) :
    w.cell? ⟨t, 0, none⟩ = some rv ∧ w.cell? ⟨R, 0, none⟩ = some (.string who) ∧ w.cell? ⟨R, 1, none⟩ = some (.int .i64 what) ∧ w.cell? ⟨R, 2, none⟩ = some (.string key) ∧ w.cell? ⟨R, 3, none⟩ = some (.bool deny) :=
  ⟨h.ten.ten.cell 0, h.rule.cell 0, h.rule.cell 1, h.rule.cell 2, h.rule.cell 3⟩

set_option maxRecDepth 100000 in
set_option maxHeartbeats 2000000 in
theorem grant_refused (W w : World) (b m : Nat) (nv : Value) (names : List ByteArray) (l : List (ByteArray × Value)) (name : ByteArray) (who key : ByteArray) (what : Int) (deny : Bool) (v : Value) (hB : BookAt W w b m nv names l) (hl : findS l name = some v) (hmay : mayB ⟨who, what, key, deny⟩ = false) (hsz : key.size ≤ 9223372036854775807) :
    Calls Try.prog 14 #[.pointer (some ⟨b, 0, none⟩), .string name, .agg #[.string who, .int .i64 what, .string key, .bool deny]] w fun e w' => e = .returned (.int .i64 2) ∧ Below w.heap.size w w' := by
  have hBA : Below w.heap.size w (w.alloc (.cells #[.string who, .int .i64 what, .string key, .bool deny] 29)) := (Below.refl _ _).alloc (Nat.le_refl _) _
  have hR := Whole.new w 29 #[.string who, .int .i64 what, .string key, .bool deny]
  have hB0 := hB.on hBA
  have r0 := hR.cell 0
  have r1 := hR.cell 1
  have r2 := hR.cell 2
  have r3 := hR.cell 3
  have c1 := hB0.book.cell 1
  have hz : (zeroValue 97).run Try.prog (w.alloc (.cells #[.string who, .int .i64 what, .string key, .bool deny] 29)) = .ok (.pointer none) (w.alloc (.cells #[.string who, .int .i64 what, .string key, .bool deny] 29)) := by kernel_rfl
  have hlk := look_S Try.underlying44 Try.underlying9 hB0.all name hz
  rw [hl] at hlk
  have mk := made_calls (w.alloc (.cells #[.string who, .int .i64 what, .string key, .bool deny] 29)) b m c1
  have MC := Lib.hid (hmay ▸ may_calls (w.alloc (.cells #[.string who, .int .i64 what, .string key, .bool deny] 29)) who key what deny hsz)
  clear hz hR hB0 hB hl
  go_enter Try.func14, Try.ntmps14
  go_wp2_with (first
    | (refine wpList_box_cells (by rfl) 29 _ (by rfl) #[.string who, .int .i64 what, .string key, .bool deny] (by rfl) ?_)
    | (go_at_call 42; refine mk.mono ?_; rintro e w' ⟨rfl, hw⟩; rw [hw]; clear hw)
    | (go_at_call 44; refine MC.out.mono ?_; rintro e w1 ⟨rfl, hB1⟩))
  go_ret
  exact ⟨rfl, hBA.trans (hB1.mono hBA.size)⟩

set_option maxRecDepth 100000 in
set_option maxHeartbeats 4000000 in
theorem grant_new (W w : World) (b m t mi : Nat) (nv rv mv : Value) (names : List ByteArray) (l : List (ByteArray × Value)) (name : ByteArray) (rules : List Rl) (ms : List (ByteArray × ByteArray)) (who key : ByteArray) (what : Int) (deny : Bool) (hB : BookAt W w b m nv names l) (hT : TenOwn W w t rv mv mi rules ms) (hl : findS l name = some (.pointer (some ⟨t, 0, none⟩))) (hmay : mayB ⟨who, what, key, deny⟩ = true) (hnew : hasR rules ⟨who, what, key, deny⟩ = false) (hlen : rules.length < 128) (hsz : key.size ≤ 9223372036854775807) :
    Calls Try.prog 14 #[.pointer (some ⟨b, 0, none⟩), .string name, .agg #[.string who, .int .i64 what, .string key, .bool deny]] w fun e w' => e = .returned (.int .i64 0) ∧ BookAt W w' b m nv names l ∧ (∃ rv', TenOwn W w' t rv' mv mi (rules ++ [⟨who, what, key, deny⟩]) ms ∧ Moved w rv rv') ∧ Only w w' (fun i => i = t ∨ rv.ownBlock = some i) := by
  have hBA : Below w.heap.size w (w.alloc (.cells #[.string who, .int .i64 what, .string key, .bool deny] 29)) := (Below.refl _ _).alloc (Nat.le_refl _) _
  have hR := Whole.new w 29 #[.string who, .int .i64 what, .string key, .bool deny]
  have hB0 := hB.on hBA
  have hT0 := hT.on hBA
  obtain ⟨R, hReq⟩ : ∃ R, w.heap.size = R := ⟨_, rfl⟩
  have hRt : R ≠ t := by
    have := hT.ten.lt
    omega
  have hRv : rv.ownBlock ≠ some R := fun h => by
    obtain ⟨cur, hc⟩ := row_type hT.rules h
    have := (Array.getElem?_eq_some_iff.1 hc).1
    omega
  have hG0 : GK W (w.alloc (.cells #[.string who, .int .i64 what, .string key, .bool deny] 29)) b m R t mi nv rv mv names l rules ms who key what deny := ⟨hB0, hT0, hReq ▸ hR⟩
  obtain ⟨t0, r0, r1, r2, r3⟩ := hG0.facts
  have c1 := hB0.book.cell 1
  have hz : (zeroValue 97).run Try.prog (w.alloc (.cells #[.string who, .int .i64 what, .string key, .bool deny] 29)) = .ok (.pointer none) (w.alloc (.cells #[.string who, .int .i64 what, .string key, .bool deny] 29)) := by kernel_rfl
  have hlk := look_S Try.underlying44 Try.underlying9 hB0.all name hz
  rw [hl] at hlk
  have mk := made_calls (w.alloc (.cells #[.string who, .int .i64 what, .string key, .bool deny] 29)) b m c1
  have MC := Lib.hid (hmay ▸ may_calls (w.alloc (.cells #[.string who, .int .i64 what, .string key, .bool deny] 29)) who key what deny hsz)
  have CR := Lib.hid (fun (wx : World) (h : OwnR wx W.heap.size rv rules) => hnew ▸ contains_rule wx W.heap.size rv rules who key what deny h (by omega))
  obtain ⟨xr, kr, yr, hrv⟩ := slice_any hT.rules
  have hkr : kr < 128 := by
    obtain ⟨a, c, h⟩ := slice_of_row hT.rules
    rw [hrv] at h
    injection h with _ h _
    omega
  subst hrv
  have i1 : ¬ (128 : Int) ≤ (kr : Int) := by omega
  have HG := Lib.hid hG0
  have HRT := Lib.hid (And.intro hRt hRv)
  have HLEN := Lib.hid hlen
  clear hz hR hB0 hT0 hG0 hB hT hl hmay hnew hRt hRv hlen
  go_enter Try.func14, Try.ntmps14
  go_wp2_with (first
    | (refine wpList_box_cells (by rfl) 29 _ (by rfl) #[.string who, .int .i64 what, .string key, .bool deny] (by rfl) ?_; rw [hReq])
    | (go_at_call 42; refine mk.mono ?_; rintro e w' ⟨rfl, hw⟩; rw [hw]; clear hw)
    | (go_at_call 44; refine MC.out.mono ?_; rintro e w1 ⟨rfl, hB1⟩))
  have hG := HG.out.on hB1
  have hOld1 : Below w.heap.size w w1 := hBA.trans (hB1.mono hBA.size)
  refine wp_region_noPanic ?_
  refine wp_region_held_drew (S := fun w' => GK W w' b m R t mi nv (.slice xr kr yr) mv names l rules ms who key what deny) (by kernel_rfl) (hG.on ((Below.refl _ _).drew)) (fun hhS => ?_)
  refine wpAnyH_take (i := 0) (oi := ⟨some 24, _, _, _, _, _⟩) (v := ?_) rfl (by kernel_rfl) (by kernel_rfl) (by kernel_rfl) (fun _ _ _ h => h) (Or.inl ⟨by rfl, ?_⟩) (by assumption) ?_
  rotate_left
  · intro w hSw
    (try dsimp only at hSw)
    go_simp
    all_goals (with_reducible rfl)
  try simp only [Act.put, List.setIfInBounds_toArray, List.set_cons_zero, List.set_cons_succ]
  refine wpAnyH_take (i := 1) (oi := ⟨some 25, _, _, _, _, _⟩) (v := ?_) rfl (by kernel_rfl) (by kernel_rfl) (by kernel_rfl) (fun _ _ _ h => h) (Or.inl ⟨by rfl, ?_⟩) (by assumption) ?_
  rotate_left
  · intro w hSw
    (try dsimp only at hSw)
    go_simp
    all_goals (with_reducible rfl)
  try simp only [Act.put, List.setIfInBounds_toArray, List.set_cons_zero, List.set_cons_succ]
  refine wpAnyH_take (i := 2) (oi := ⟨some 26, _, _, _, _, _⟩) (v := ?_) rfl (by kernel_rfl) (by kernel_rfl) (by kernel_rfl) (fun _ _ _ h => h) (Or.inl ⟨by rfl, ?_⟩) (by assumption) ?_
  rotate_left
  · intro w hSw
    (try dsimp only at hSw)
    go_simp
    all_goals (with_reducible rfl)
  try simp only [Act.put, List.setIfInBounds_toArray, List.set_cons_zero, List.set_cons_succ]
  refine wpAnyH_take (i := 3) (oi := ⟨some 27, _, _, _, _, _⟩) (v := ?_) rfl (by kernel_rfl) (by kernel_rfl) (by kernel_rfl) (fun _ _ _ h => h) (Or.inl ⟨by rfl, ?_⟩) (by assumption) ?_
  rotate_left
  · intro w hSw
    (try dsimp only at hSw)
    obtain ⟨t0, x0, x1, x2, x3⟩ := hSw.facts
    go_simp
    all_goals (with_reducible rfl)
  try simp only [Act.put, List.setIfInBounds_toArray, List.set_cons_zero, List.set_cons_succ]
  refine wpAnyH_take (i := 4) (oi := ⟨some 28, _, _, _, _, _⟩) (v := ?_) rfl (by kernel_rfl) (by kernel_rfl) (by kernel_rfl) (fun _ _ _ h => h) (Or.inl ⟨by rfl, ?_⟩) (by assumption) ?_
  rotate_left
  · intro w hSw
    (try dsimp only at hSw)
    obtain ⟨t0, x0, x1, x2, x3⟩ := hSw.facts
    go_simp
    all_goals (with_reducible rfl)
  try simp only [Act.put, List.setIfInBounds_toArray, List.set_cons_zero, List.set_cons_succ]
  refine wpAnyH_ready (rs := [5]) (by kernel_rfl) (by simp) ?_
  refine AllReadyH.cons (o := ⟨some 29, _, _, _, _, _⟩) rfl (fun K hK => ?_) AllReadyH.nil
  go_simp
  refine (CR.out _ hhS.ten.rules).mono ?_
  rintro e w5 ⟨rfl, hB5⟩
  refine hK.out _ _ (hhS.on hB5) (fun hh5 => ?_)
  clear hK K
  try simp only [Act.put, List.setIfInBounds_toArray, List.set_cons_zero, List.set_cons_succ]
  refine wpAnyH_take (i := 6) (oi := ⟨some 23, _, _, _, _, _⟩) (v := ?_) rfl (by kernel_rfl) (by kernel_rfl) (by kernel_rfl) (fun _ _ _ h => h) (Or.inl ⟨by rfl, ?_⟩) (by assumption) ?_
  rotate_left
  · intro w hSw
    (try dsimp only at hSw)
    go_simp
    all_goals (with_reducible rfl)
  try simp only [Act.put, List.setIfInBounds_toArray, List.set_cons_zero, List.set_cons_succ]
  refine wpAnyH_done (by kernel_rfl) ?_ _
  refine NoPanic.normal ?_
  have hOld := hOld1.trans ((((Below.refl w1.heap.size w1).drew).trans hB5).mono hOld1.size)
  obtain ⟨e0, x0, x1, x2, x3⟩ := hh5.facts
  go_wp2
  refine grant_end W _ b m R t mi nv _ mv names l rules ms who key what deny hh5.book hh5.ten hh5.rule HRT.out.1 HRT.out.2 HLEN.out ?_
  intro _ _ _ _ _ _ _ _ _ _ w9 hB9 hT9 hO9
  go_wp2
  go_ret
  obtain ⟨rv9, hT9, hV9⟩ := hT9
  exact ⟨rfl, hB9, ⟨rv9, hT9, hV9.imp id fun ⟨g, h1, h2⟩ => ⟨g, h1, Nat.le_trans hOld.size h2⟩⟩, ((Only.of_below hOld (fun _ => False)).trans hO9).weak fun i _ h => h.elim False.elim id⟩

end Go.Proofs.Ytglcingpolpkdaa

/- The set of a tenant's members: what is looked up in it, and a new member. -/
namespace Go.Proofs.Ytglcingpolpkdaa
open Go.RowKit Go.MapKept

def eqM (p q : ByteArray × ByteArray) : Bool := (p.1.toList == q.1.toList) && (p.2.toList == q.2.toList)
def hasM (ms : List (ByteArray × ByteArray)) (p : ByteArray × ByteArray) : Bool := ms.any fun q => eqM p q

set_option maxRecDepth 100000 in
theorem eql_mem (w : World) (a b c d : ByteArray) : (Op.equal 106 (.agg #[.string a, .string b]) (.agg #[.string c, .string d])).run Try.prog w = .ok (eqM (a, b) (c, d)) w := by
  show (Op.equalIn 10000 106 (.agg #[.string a, .string b]) (.agg #[.string c, .string d])).run Try.prog w = _
  go_simp
  unfold eqM
  by_cases h1 : a.toList = c.toList <;> by_cases h2 : b.toList = d.toList <;> simp [h1, h2]

set_option maxRecDepth 100000 in
theorem check_mem (w : World) (e : Bool) (a b : ByteArray) : (Instr.checkKey e 10000 106 (.agg #[.string a, .string b])).run Try.prog w = .ok () w := by
  unfold Instr.checkKey
  go_simp
  have h : ∀ s : ByteArray, (Instr.checkKey e 9999 9 (.string s)).run Try.prog w = .ok () w := fun s => MapKept.run_checkKey Try.underlying9 (by simp [IsKey]) e 9998
  rw [h, Result.andThen_ok, h]

theorem ask_M (w : World) (a b : ByteArray) : ∀ (es : List MapEntry) (ms : List (ByteArray × ByteArray)) (i : Nat), es.map (fun e => (e.key, e.val)) = ms.map (fun p => (Value.agg #[.string p.1, .string p.2], Value.bool true)) →
    ∃ r, (Instr.findAsking 106 (.agg #[.string a, .string b]) es i).run Try.prog w = .ok r w ∧ r.map Prod.snd = if hasM ms (a, b) = true then some (.bool true) else none
  | [], [], _, _ => ⟨none, by simp [Instr.findAsking], by simp [hasM]⟩
  | [], _ :: _, _, h => by simp at h
  | _ :: _, [], _, h => by simp at h
  | e :: es, p :: ms, i, h => by
    simp only [List.map_cons, List.cons.injEq, Prod.mk.injEq] at h
    obtain ⟨⟨h1, h2⟩, h3⟩ := h
    have he := eql_mem w a b p.1 p.2
    rw [← h1] at he
    by_cases hk : eqM (a, b) p = true
    · have hk' : eqM (a, b) (p.1, p.2) = true := hk
      refine ⟨some (i, e.val), ?_, ?_⟩
      · simp [Instr.findAsking, he, hk']
      · simp [hasM, hk, h2]
    · have hk' : eqM (a, b) (p.1, p.2) = false := by simpa using hk
      obtain ⟨r, hr, hx⟩ := ask_M w a b es ms (i + 1) h3
      refine ⟨r, ?_, ?_⟩
      · simp [Instr.findAsking, he, hk', hr]
      · have h0 : eqM (a, b) p = false := hk'
        rw [hx]
        unfold hasM
        rw [List.any_cons, h0, Bool.false_or]


theorem wide_mem : (match Try.prog.underlying 106 with | some (.array _ _) | some (.struct _) => true | _ => false) = true := by kernel_rfl
set_option maxRecDepth 100000 in
theorem find_mem (w : World) (x : Value) (es : List MapEntry) : (Instr.findKey 106 x es).run Try.prog w = (Instr.findAsking 106 x es).run Try.prog w := run_findKey_eq w wide_mem x es
theorem zero_bool (w : World) : (zeroValue 4).run Try.prog w = .ok (.bool false) w := by kernel_rfl

set_option maxRecDepth 100000 in
theorem look_M {w : World} {m : Nat} {ms : List (ByteArray × ByteArray)} (h : MapM w m ms) (a b : ByteArray) :
    (Instr.lookup 98 (.map (some m)) (.agg #[.string a, .string b]) false).run Try.prog w = .ok (.bool (hasM ms (a, b))) w := by
  obtain ⟨ents, c, hm, hl⟩ := h
  obtain ⟨r, hr, hx⟩ := ask_M w a b ents.toList ms 0 hl
  unfold Instr.lookup
  simp only [Sem.run_bind, run_underlying Try.underlying98, Result.andThen_ok, MapKept.run_getObj_map hm, Sem.run_pure, check_mem, find_mem, hr]
  by_cases hh : hasM ms (a, b) = true
  · rw [if_pos hh] at hx
    cases r with
    | none => cases hx
    | some p =>
      have hp : p.2 = .bool true := by simpa using hx
      simp [hh, hp]
  · rw [if_neg hh] at hx
    cases r with
    | none => simp [hh]
    | some p => cases hx

set_option maxRecDepth 100000 in
theorem put_M {w : World} {m : Nat} {ms : List (ByteArray × ByteArray)} (h : MapM w m ms) (a b : ByteArray) (hn : hasM ms (a, b) = false) :
    ∃ w', (Instr.mapUpdate 98 (.map (some m)) (.agg #[.string a, .string b]) (.bool true)).run Try.prog w = .ok () w' ∧ MapM w' m (ms ++ [(a, b)]) ∧ w.grownBy w' (some m) ∧ w'.heap.size = w.heap.size := by
  obtain ⟨ents, c, hm, hl⟩ := h
  obtain ⟨r, hr, hx⟩ := ask_M w a b ents.toList ms 0 hl
  rw [hn, if_neg (by simp)] at hx
  obtain rfl : r = none := by cases r <;> simp_all
  have hlt : m < w.heap.size := (Array.getElem?_eq_some_iff.1 hm).1
  refine ⟨{ w with heap := w.heap.setIfInBounds m (.map (ents.push { key := .agg #[.string a, .string b], val := .bool true, born := c }) (c + 1)) }, ?_, ⟨ents.push { key := .agg #[.string a, .string b], val := .bool true, born := c }, c + 1, ?_, ?_⟩, ⟨rfl, rfl, rfl, by simp, fun i hi hne => ?_⟩, by simp⟩
  · unfold Instr.mapUpdate
    simp only [Sem.run_bind, run_underlying Try.underlying98, Result.andThen_ok, MapKept.run_getObj_map hm, check_mem, find_mem, hr, MapKept.run_setObj_map _ hm]
  · simp [hlt]
  · simp [hl]
  · have : m ≠ i := fun h => hne (by rw [h])
    simp [this]

end Go.Proofs.Ytglcingpolpkdaa
