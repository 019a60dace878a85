/- Maps with texts as keys: what is looked up in them, and a new entry. -/
import Derived.MapKept
import Derived.Test.YtglcingpolpkdaaAAboutX2
namespace Go.Proofs.Ytglcingpolpkdaa
open Go.RowKit Go.MapKept

/-- Block m is a map with these entries, in the order in which they came. -/
def MapS (w : World) (m : Nat) (l : List (ByteArray × Value)) : Prop :=
  ∃ ents c, w.heap[m]? = some (.map ents c) ∧ ents.toList.map (fun e => (e.key, e.val)) = l.map fun p => (Value.string p.1, p.2)
/-- What stands at a text. -/
def findS : List (ByteArray × Value) → ByteArray → Option Value
  | [], _ => none
  | p :: l, k => if p.1 = k then some p.2 else findS l k

theorem MapS.lt {w : World} {m : Nat} {l : List (ByteArray × Value)} (h : MapS w m l) : m < w.heap.size := by
  obtain ⟨_, _, h, _⟩ := h
  exact (Array.getElem?_eq_some_iff.1 h).1
theorem MapS.low {w w' : World} {B m : Nat} {l : List (ByteArray × Value)} (h : MapS w m l) (hb : Below B w w') (hm : m < B) : MapS w' m l := by
  obtain ⟨e, c, h, hl⟩ := h
  exact ⟨e, c, (hb.block m hm).trans h, hl⟩
theorem MapS.new (w : World) : MapS (w.alloc (.map #[] 0)) w.heap.size [] := ⟨#[], 0, heap_alloc_new w _, rfl⟩

theorem findNow_S (k : ByteArray) : ∀ (es : List MapEntry) (l : List (ByteArray × Value)) (i : Nat), es.map (fun e => (e.key, e.val)) = l.map (fun p => (Value.string p.1, p.2)) →
    ∃ r, Instr.findNow .string (.string k) es i = some r ∧ r.map Prod.snd = findS l k
  | [], [], _, _ => ⟨none, rfl, rfl⟩
  | [], _ :: _, _, h => by simp at h
  | _ :: _, [], _, h => by simp at h
  | e :: es, p :: l, i, h => by
    simp only [List.map_cons, List.cons.injEq, Prod.mk.injEq] at h
    obtain ⟨⟨h1, h2⟩, h3⟩ := h
    have hs : Instr.sameNow .string (.string k) e.key = some (k == p.1) := by rw [h1]; rfl
    by_cases hk : p.1 = k
    · have hb : (k == p.1) = true := (bytes_beq _ _).2 hk.symm
      exact ⟨some (i, e.val), by simp [Instr.findNow, hs, hb], by simp [findS, hk, h2]⟩
    · have hb : (k == p.1) = false := by
        rw [← Bool.not_eq_true, bytes_beq]
        exact fun h => hk h.symm
      obtain ⟨r, hr, he⟩ := findNow_S k es l (i + 1) h3
      exact ⟨r, by simp [Instr.findNow, hs, hb, hr], by rw [he]; simp [findS, hk]⟩

section
variable {P : Program} {w : World} {T K E : TypeId} {m : Nat} {l : List (ByteArray × Value)}
theorem look_S (hT : P.underlying T = some (.map K E)) (hK : P.underlying K = some .string) (h : MapS w m l) (k : ByteArray) {z : Value} (hz : (zeroValue E).run P w = .ok z w) :
    (Instr.lookup T (.map (some m)) (.string k) false).run P w = .ok ((findS l k).getD z) w := by
  obtain ⟨ents, c, hm, hl⟩ := h
  obtain ⟨r, hr, he⟩ := findNow_S k ents.toList l 0 hl
  have hk : IsKey .string (.string k) := by simp [IsKey]
  unfold Instr.lookup
  simp only [Sem.run_bind, run_underlying hT, Result.andThen_ok, MapKept.run_getObj_map hm, Sem.run_pure, MapKept.run_checkKey hK hk, MapKept.run_findKey hK hr]
  rw [← he]
  cases r with
  | none => simp [hz]
  | some p => simp

/-- A new entry. -/
theorem put_S (hT : P.underlying T = some (.map K E)) (hK : P.underlying K = some .string) (h : MapS w m l) (k : ByteArray) (v : Value) (hn : findS l k = none) :
    ∃ w', (Instr.mapUpdate T (.map (some m)) (.string k) v).run P w = .ok () w' ∧ MapS w' m (l ++ [(k, v)]) ∧ w.grownBy w' (some m) ∧ w'.heap.size = w.heap.size := by
  obtain ⟨ents, c, hm, hl⟩ := h
  obtain ⟨r, hr, he⟩ := findNow_S k ents.toList l 0 hl
  have hk : IsKey .string (.string k) := by simp [IsKey]
  rw [hn] at he
  obtain rfl : r = none := by cases r <;> simp_all
  have hlt : m < w.heap.size := (Array.getElem?_eq_some_iff.1 hm).1
  refine ⟨{ w with heap := w.heap.setIfInBounds m (.map (ents.push { key := .string k, val := v, born := c }) (c + 1)) }, ?_, ⟨ents.push { key := .string k, val := v, born := c }, c + 1, ?_, ?_⟩, ⟨rfl, rfl, rfl, by simp, fun i hi hne => ?_⟩, by simp⟩
  · unfold Instr.mapUpdate
    simp only [Sem.run_bind, run_underlying hT, Result.andThen_ok, MapKept.run_getObj_map hm, MapKept.run_checkKey hK hk, MapKept.run_findKey hK hr, MapKept.run_setObj_map _ hm]
  · simp [hlt]
  · simp [hl]
  · have : m ≠ i := fun h => hne (by rw [h])
    simp [this]
end

theorem findS_put (l : List (ByteArray × Value)) (k : ByteArray) (v : Value) (hn : findS l k = none) : findS (l ++ [(k, v)]) k = some v := by
  induction l with
  | nil => simp [findS]
  | cons p l ih =>
    unfold findS at hn
    split at hn
    · cases hn
    · rename_i hp
      rw [List.cons_append]
      unfold findS
      rw [if_neg hp]
      exact ih hn

end Go.Proofs.Ytglcingpolpkdaa

/- (*Book).Allowed: what it computes. -/
namespace Go.Proofs.Ytglcingpolpkdaa
open Go.RowKit

/-- A tenant of a book, as it lies in memory: its name looked up in the book's map, its rules and its members. -/
structure TenAt (W w : World) (b m t : Nat) (name : ByteArray) (l : List (ByteArray × Value)) (B : Nat) (rv mv : Value) (rules : List Rl) (ms : List (ByteArray × ByteArray)) : Prop where
  book : w.cell? ⟨b, 1, none⟩ = some (.map (some m))
  all : MapS w m l
  look : findS l name = some (.pointer (some ⟨t, 0, none⟩))
  ten0 : w.cell? ⟨t, 0, none⟩ = some rv
  ten1 : w.cell? ⟨t, 1, none⟩ = some mv
  rules : OwnR w B rv rules
  mems : OwnM w B mv ms
  below : Below W.heap.size W w
theorem cell_lt {w : World} {a : Addr} {v : Value} (h : w.cell? a = some v) : a.block < w.heap.size := by
  rcases Nat.lt_or_ge a.block w.heap.size with hl | hl
  · exact hl
  · simp [World.cell?, Array.getElem?_eq_none hl] at h
theorem TenAt.on {W w w' : World} {b m t B : Nat} {name : ByteArray} {l : List (ByteArray × Value)} {rv mv : Value} {rules : List Rl} {ms : List (ByteArray × ByteArray)} (h : TenAt W w b m t name l B rv mv rules ms) (hb : Below w.heap.size w w') : TenAt W w' b m t name l B rv mv rules ms :=
  ⟨(hb.cell (p := ⟨b, 1, none⟩) (cell_lt h.book)).trans h.book, h.all.low hb h.all.lt, h.look, (hb.cell (p := ⟨t, 0, none⟩) (cell_lt h.ten0)).trans h.ten0, (hb.cell (p := ⟨t, 1, none⟩) (cell_lt h.ten1)).trans h.ten1, row_low h.rules hb, row_low h.mems hb, h.below.trans (hb.mono h.below.size)⟩
theorem TenAt.run {W w : World} {b m t B : Nat} {name : ByteArray} {l : List (ByteArray × Value)} {rv mv : Value} {rules : List Rl} {ms : List (ByteArray × ByteArray)} (h : TenAt W w b m t name l B rv mv rules ms) :
    w.cell? ⟨b, 1, none⟩ = some (.map (some m)) ∧ (Instr.lookup 44 (.map (some m)) (.string name) false).run Try.prog w = .ok (.pointer (some ⟨t, 0, none⟩)) w ∧ w.cell? ⟨t, 0, none⟩ = some rv ∧ w.cell? ⟨t, 1, none⟩ = some mv := by
  have hz : (zeroValue 97).run Try.prog w = .ok (.pointer none) w := by kernel_rfl
  have hl := look_S Try.underlying44 Try.underlying9 h.all name hz
  rw [h.look] at hl
  exact ⟨h.book, hl, h.ten0, h.ten1⟩

theorem made_calls (w : World) (b m : Nat) (h : w.cell? ⟨b, 1, none⟩ = some (.map (some m))) : Calls Try.prog 42 #[.pointer (some ⟨b, 0, none⟩)] w fun e w' => e = .returned (.bool false) ∧ w' = w := by
  have q : (binOp .eql 44 (.map (some m)) (.map none)).run Try.prog w = .ok (.bool false) w := run_eql_map_nil w _ _ _ _ Try.underlying44
  go_enter Try.func42, Try.ntmps42
  go_wp2
  go_ret
  exact ⟨rfl, rfl⟩

def anyAbout (rules : List Rl) (roles : List ByteArray) (who : ByteArray) (what : Int) (key : ByteArray) (deny : Bool) : Bool := rules.any fun r => aboutB r roles who what key && (r.deny == deny)
def allowedB (rules : List Rl) (ms : List (ByteArray × ByteArray)) (who : ByteArray) (what : Int) (key : ByteArray) : Bool :=
  (nameB who && (nameB key && (decide (1 ≤ what) && decide (what ≤ 7)))) && (anyAbout rules (rolesOf ms who) who what key false && !anyAbout rules (rolesOf ms who) who what key true)

theorem any_next {rules : List Rl} {k : Nat} {r : Rl} (roles : List ByteArray) (who : ByteArray) (what : Int) (key : ByteArray) (deny : Bool) (hp : rules[k]? = some r) :
    anyAbout (rules.take (k + 1)) roles who what key deny = (anyAbout (rules.take k) roles who what key deny || (aboutB r roles who what key && (r.deny == deny))) := by
  have hk : k < rules.length := (List.getElem?_eq_some_iff.1 hp).1
  unfold anyAbout
  rw [List.take_succ_eq_append_getElem hk, (List.getElem?_eq_some_iff.1 hp).2, List.any_append]
  simp
theorem any_here {rules : List Rl} {k : Nat} {r : Rl} {roles : List ByteArray} {who : ByteArray} {what : Int} {key : ByteArray} {deny : Bool} (hp : rules[k]? = some r) (ha : aboutB r roles who what key = true) (hd : r.deny = deny) : anyAbout rules roles who what key deny = true := by
  unfold anyAbout
  rw [List.any_eq_true]
  exact ⟨r, List.mem_of_getElem? hp, by simp [ha, hd]⟩

set_option maxRecDepth 100000 in
set_option maxHeartbeats 4000000 in
theorem allowed_calls (w : World) (b m t B : Nat) (name who key : ByteArray) (what : Int) (l : List (ByteArray × Value)) (rv mv : Value) (rules : List Rl) (ms : List (ByteArray × ByteArray))
    (h : TenAt w w b m t name l B rv mv rules ms) (hr : rules.length ≤ 1000) (hm : ms.length ≤ 1000) (hk : ∀ r ∈ rules, r.key.size ≤ 9223372036854775807) :
    Calls Try.prog 15 #[.pointer (some ⟨b, 0, none⟩), .string name, .string who, .int .i64 what, .string key] w fun e w' => e = .returned (.bool (allowedB rules ms who what key)) ∧ Below w.heap.size w w' := by
  have hall : allowedB rules ms who what key = ((nameB who && (nameB key && (decide (1 ≤ what) && decide (what ≤ 7)))) && (anyAbout rules (rolesOf ms who) who what key false && !anyAbout rules (rolesOf ms who) who what key true)) := rfl
  rw [hall]
  obtain ⟨hb, hlk, h0, h1⟩ := h.run
  obtain ⟨N, hN⟩ : ∃ N, rules.length = N := ⟨_, rfl⟩
  have hshape : ∃ a c, rv = .slice a N c := by
    rcases row_shape h.rules with ⟨rfl, hn⟩ | ⟨g, cap, rfl, _, _, _⟩
    · exact ⟨none, 0, by rw [← hN, hn]⟩
    · exact ⟨_, cap, by rw [hN]⟩
  obtain ⟨ap, cp, rfl⟩ := hshape
  have HN := Lib.hid hN
  have hrl : (rolesOf ms who).length ≤ 9223372036854775807 := Nat.le_trans (rolesOf_le ms who) (by omega)
  rw [hN] at hr
  clear hall hN
  go_enter Try.func15, Try.ntmps15
  go_wp2
  apply wp_scope_straight
  go_upto_region 3 with (first
    | (go_at_call 42; refine (made_calls _ _ _ hb).mono ?_; rintro e w' ⟨rfl, hw⟩; rw [hw]; clear hw)
    | (go_at_call 43; refine (name_calls _ _).mono ?_; rintro e w1 ⟨rfl, hB1⟩; have hT1 := TenAt.on (by assumption) hB1; obtain ⟨g0, g1, g2, g3⟩ := hT1.run))
  all_goals first
    | (try rw [Exit.noGoto_ret]
       go_ret
       refine ⟨?_, TenAt.below (by assumption)⟩
       have hf : (nameB who && (nameB key && (decide (1 ≤ what) && decide (what ≤ 7)))) = false := by
         first
           | (simp [*]; done)
           | (simp [*]; omega)
       rw [hf]
       rfl)
    | skip
  have hf : (nameB who && (nameB key && (decide (1 ≤ what) && decide (what ≤ 7)))) = true := by
    simp only [Bool.and_eq_true, decide_eq_true_eq]
    refine ⟨by assumption, by assumption, ?_, ?_⟩ <;> simp_all <;> omega
  have HF := Lib.hid hf
  have hten1 := hT1.ten1
  have hmem := hT1.mems
  clear hf
  go_upto_region 5 with (go_at_call 46; refine (roles_calls _ t B mv ms who hten1 hmem hm).mono ?_; rintro e w2 ⟨v, rfl, hv, hB2⟩; have hT2 := TenAt.on hT1 hB2)
  have hvt := hv.texts
  have q0 := hT2.ten0
  clear hv hten1 hmem g0 g1 g2 g3 hb hlk h0 h1
  go_wp2
  apply wp_label
  go_wp2
  go_loopw [13, 14, 60] (fun y n i wr => ∃ k : Nat, k ≤ N ∧ i = .int .i64 k ∧ n = .bool false ∧ y = .bool (anyAbout (rules.take k) (rolesOf ms who) who what key false) ∧ anyAbout (rules.take k) (rolesOf ms who) who what key true = false ∧ TenAt w wr b m t name l B (.slice ap N cp) mv rules ms ∧ TextsAt wr v (rolesOf ms who)) (fun _ _ i _ => N - (intOf i).toNat)
  case atStart => exact ⟨0, by omega, rfl, rfl, rfl, rfl, hT2, hvt⟩
  case round =>
    obtain ⟨k, hkN, rfl, rfl, rfl, hno, hT, hV⟩ := hrel
    clear hT2 hvt q0 hT1
    by_cases hlt : k < N
    · obtain ⟨r, hp⟩ : ∃ r, rules[k]? = some r := ⟨_, List.getElem?_eq_getElem (by rw [HN.out]; exact hlt)⟩
      obtain ⟨g, cap, he, hg, c0, c1, c2, c3⟩ := hT.rules.four hp
      have he : ap = some ⟨g, 0, none⟩ := by injection he
      subst he
      have i1 : (k : Int) < (N : Int) := by omega
      have i2 : 0 ≤ (k : Int) ∧ (k : Int) < (N : Int) := by omega
      have b2 : IntKind.i64.wrap ((k : Int) + 1) = (k : Int) + 1 := IntWalk.i64_in _ (by omega)
      have hn0 := any_next (rolesOf ms who) who what key false hp
      have hn1 := any_next (rolesOf ms who) who what key true hp
      have hks := hk r (List.mem_of_getElem? hp)
      obtain ⟨rwho, rwhat, rkey, deny⟩ := r
      have hBA : Below wr.heap.size wr (wr.alloc (.cells #[.string rwho, .int .i64 rwhat, .string rkey, .bool deny] 29)) := (Below.refl _ _).alloc (Nat.le_refl _) _
      have hW := Whole.new wr 29 #[.string rwho, .int .i64 rwhat, .string rkey, .bool deny]
      obtain ⟨a, ha⟩ : ∃ a, aboutB ⟨rwho, rwhat, rkey, deny⟩ (rolesOf ms who) who what key = a := ⟨_, rfl⟩
      have AB := Lib.hid (ha ▸ about_calls (wr.alloc (.cells #[.string rwho, .int .i64 rwhat, .string rkey, .bool deny] 29)) rwho rkey rwhat deny v (rolesOf ms who) who what key (hV.low hBA) hrl hks)
      have HX := Lib.hid (And.intro hn0 (And.intro hn1 (And.intro ha hp)))
      have HT := Lib.hid hT
      have HV := Lib.hid hV
      have HW := Lib.hid hW
      have HNO := Lib.hid hno
      clear hn0 hn1 ha hT hV hW hno hp hks
      cases a <;> cases deny
      all_goals go_wp2_with (go_at_call 17; refine AB.out.mono ?_; rintro e w1 ⟨rfl, hB1⟩; have d3 := (HW.out.below hB1 HW.out.lt).cell 3)
      · go_roundw
        case rel => exact ⟨k + 1, by omega, by go_num, rfl, by rw [HX.out.1, HX.out.2.2.1]; simp, by rw [HX.out.2.1, HX.out.2.2.1, HNO.out]; rfl, HT.out.on (hBA.trans (hB1.mono hBA.size)), HV.out.low (hBA.trans (hB1.mono hBA.size))⟩
        case measure => simp [intOf]; omega
      · go_roundw
        case rel => exact ⟨k + 1, by omega, by go_num, rfl, by rw [HX.out.1, HX.out.2.2.1]; simp, by rw [HX.out.2.1, HX.out.2.2.1, HNO.out]; rfl, HT.out.on (hBA.trans (hB1.mono hBA.size)), HV.out.low (hBA.trans (hB1.mono hBA.size))⟩
        case measure => simp [intOf]; omega
      · go_roundw
        case rel => exact ⟨k + 1, by omega, by go_num, rfl, by rw [HX.out.1, HX.out.2.2.1]; simp, by rw [HX.out.2.1, HX.out.2.2.1, HNO.out]; rfl, HT.out.on (hBA.trans (hB1.mono hBA.size)), HV.out.low (hBA.trans (hB1.mono hBA.size))⟩
        case measure => simp [intOf]; omega
      all_goals
        (try rw [Exit.noGoto_ret])
        go_ret
        refine ⟨?_, (HT.out.on (hBA.trans (hB1.mono hBA.size))).below⟩
        have hh := any_here HX.out.2.2.2 HX.out.2.2.1 rfl
        show Ending.returned (.bool _) = Ending.returned (.bool _)
        rw [hh]
        simp
    · obtain rfl : k = N := by omega
      rw [← HN.out, List.take_length] at hno
      have HK := Lib.hid (show rules.take k = rules by rw [← HN.out, List.take_length])
      rw [HK.out]
      have i1 : ¬ (k : Int) < (k : Int) := by omega
      go_wp2
      all_goals
        (try rw [Exit.noGoto_ret])
        go_ret
        refine ⟨?_, hT.below⟩
        show Ending.returned (.bool _) = Ending.returned (.bool _)
        rw [HF.out, hno]
        simp [*]

end Go.Proofs.Ytglcingpolpkdaa
