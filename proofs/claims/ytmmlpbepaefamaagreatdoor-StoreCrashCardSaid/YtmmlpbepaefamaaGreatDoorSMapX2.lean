/- The store's keys and values in memory; store.after. -/
import Derived.Shelf.SlMaps.Clone
import Derived.Test.YtmmlpbepaefamaaGreatDoorSJourX2
import Derived.Test.YtmmlpbepaefamaaGreatDoorWFieldsX2
namespace Go.Proofs.YtmmlpbepaefamaaGreatDoor
open Go.RowKit Go.MapKept Go.Maps

/-- A key, its value's slice, its value. -/
abbrev Ent := ByteArray × Value × List (BitVec 8)
def entsN (M : List Ent) : List (ByteArray × Value) := M.map fun x => (x.1, x.2.1)
/-- What stands at a key. -/
def getM : List Ent → ByteArray → Option (List (BitVec 8))
  | [], _ => none
  | x :: M, k => if x.1 = k then some x.2.2 else getM M k
theorem getM_cons (x : Ent) (M : List Ent) (j : ByteArray) : getM (x :: M) j = if x.1 = j then some x.2.2 else getM M j := rfl
theorem getM_find : ∀ (M : List Ent) (k : ByteArray), (getM M k = none ↔ findN (entsN M) k = none)
  | [], _ => by simp [getM, findN, entsN]
  | x :: M, k => by
    have ih := getM_find M k
    unfold getM entsN
    rw [List.map_cons]
    unfold findN
    split
    · simp
    · exact ih
/-- Keys and values in block mb; the values' blocks are none of S. -/
structure VM (w : World) (lo : Nat) (S : Nat → Prop) (mb : Nat) (M : List Ent) : Prop where
  map : MapN w mb (entsN M)
  vals : ∀ x ∈ M, Own w lo x.2.1 x.2.2 ∧ ∀ g, x.2.1.ownBlock = some g → ¬ S g
theorem MapN.nodup {w : World} {m : Nat} {l : List (ByteArray × Value)} (h : MapN w m l) : (l.map (·.1)).Nodup := by
  obtain ⟨ents, c, _, hst, hl⟩ := h
  exact keys_apart hl hst.2.2
theorem VM.nodup {w : World} {lo mb : Nat} {S : Nat → Prop} {M : List Ent} (h : VM w lo S mb M) : (M.map (·.1)).Nodup := by
  have := h.map.nodup
  unfold entsN at this
  rwa [List.map_map] at this
theorem VM.low {w w' : World} {lo mb : Nat} {S : Nat → Prop} {M : List Ent} (h : VM w lo S mb M) (hb : Below w.heap.size w w') : VM w' lo S mb M :=
  ⟨h.map.low hb h.map.lt, fun x hx => ⟨row_low (h.vals x hx).1 hb, (h.vals x hx).2⟩⟩
/-- Blocks change that are no maps and none of the values'. -/
theorem VM.only {w w' : World} {lo mb : Nat} {S Z S' : Nat → Prop} {M : List Ent} (h : VM w lo S mb M) (ho : Only w w' Z) (hm : ¬ Z mb) (hz : ∀ x ∈ M, ∀ g, x.2.1.ownBlock = some g → ¬ Z g) (hs : ∀ i, i < w.heap.size → S' i → S i) : VM w' lo S' mb M :=
  ⟨by obtain ⟨e, c, h1, h2⟩ := h.map; exact ⟨e, c, (ho.block mb h.map.lt hm).trans h1, h2⟩, fun x hx => ⟨row_only (h.vals x hx).1 ho (hz x hx), fun g hg e => (h.vals x hx).2 g hg (hs g (row_lt (h.vals x hx).1 hg) e)⟩⟩
/-- An entry struck. -/
def delM (M : List Ent) (k : ByteArray) : List Ent := M.filter fun x => !decide (x.1 = k)
/-- An entry laid. -/
def putM (M : List Ent) (k : ByteArray) (v : Value) (b : List (BitVec 8)) : List Ent := if getM M k = none then M ++ [(k, v, b)] else M.map fun x => if x.1 = k then (k, v, b) else x
theorem entsN_del (M : List Ent) (k : ByteArray) : entsN (delM M k) = dropN (entsN M) k := by
  unfold entsN delM dropN
  rw [List.filter_map]
  rfl
theorem get_delM : ∀ (M : List Ent) (k j : ByteArray), getM (delM M k) j = if j = k then none else getM M j
  | [], k, j => by simp [delM, getM]
  | x :: M, k, j => by
    have ih := get_delM M k j
    unfold delM at ih ⊢
    rw [List.filter_cons]
    by_cases h : x.1 = k
    · rw [if_neg (by simp [h]), ih]
      by_cases hj : j = k
      · rw [if_pos hj, if_pos hj]
      · rw [if_neg hj, if_neg hj]
        rw [getM_cons, if_neg (fun e => hj (e.symm.trans h))]
    · rw [if_pos (by simp [h])]
      unfold getM
      by_cases hx : x.1 = j
      · rw [if_pos hx, if_pos hx, if_neg (fun e => h (hx.trans e))]
      · rw [if_neg hx, if_neg hx, ih]
theorem get_appM : ∀ (M : List Ent) (k j : ByteArray) (v : Value) (b : List (BitVec 8)), getM M k = none → getM (M ++ [(k, v, b)]) j = if j = k then some b else getM M j
  | [], k, j, v, b, _ => by
    show (if k = j then some b else none) = _
    by_cases h : j = k
    · rw [if_pos h, if_pos h.symm]
    · rw [if_neg h, if_neg (fun e => h e.symm)]
      rfl
  | x :: M, k, j, v, b, h => by
    unfold getM at h
    split at h
    · cases h
    · rename_i hx
      have ih := get_appM M k j v b h
      show (if x.1 = j then some x.2.2 else getM (M ++ [(k, v, b)]) j) = _
      rw [ih]
      conv => rhs; unfold getM
      by_cases h1 : x.1 = j
      · rw [if_pos h1, if_pos h1, if_neg (fun e => hx (h1.trans e))]
      · rw [if_neg h1, if_neg h1]
theorem get_mapM : ∀ (M : List Ent) (k j : ByteArray) (v : Value) (b : List (BitVec 8)), getM M k ≠ none → getM (M.map fun x => if x.1 = k then (k, v, b) else x) j = if j = k then some b else getM M j := by
  have aux : ∀ (M : List Ent) (k j : ByteArray) (v : Value) (b : List (BitVec 8)), getM (M.map fun x => if x.1 = k then (k, v, b) else x) j = if j = k ∧ getM M k ≠ none then some b else getM M j := by
    intro M
    induction M with
    | nil => intro k j v b; simp [getM]
    | cons x M ih =>
      intro k j v b
      rw [List.map_cons]
      rw [getM_cons, ih]
      by_cases h : x.1 = k
      · rw [if_pos h]
        have e : getM (x :: M) k = some x.2.2 := by rw [getM_cons, if_pos h]
        by_cases hj : j = k
        · rw [if_pos hj.symm, if_pos ⟨hj, by rw [e]; simp⟩]
        · rw [if_neg (fun e => hj e.symm), if_neg (fun e => hj e.1), if_neg (fun e => hj e.1)]
          rw [getM_cons, if_neg (fun e => hj (e.symm.trans h))]
      · rw [if_neg h]
        have e : getM (x :: M) k = getM M k := by rw [getM_cons, if_neg h]
        rw [e, getM_cons]
        by_cases h1 : x.1 = j
        · rw [if_pos h1, if_pos h1, if_neg (fun e => h (h1.trans e.1))]
        · rw [if_neg h1, if_neg h1]
  intro M k j v b h
  rw [aux]
  by_cases hj : j = k
  · rw [if_pos ⟨hj, h⟩, if_pos hj]
  · rw [if_neg (fun e => hj e.1), if_neg hj]
theorem get_putM (M : List Ent) (k j : ByteArray) (v : Value) (b : List (BitVec 8)) : getM (putM M k v b) j = if j = k then some b else getM M j := by
  unfold putM
  split
  · exact get_appM M k j v b ‹_›
  · exact get_mapM M k j v b ‹_›
theorem putM_len (M : List Ent) (k : ByteArray) (v : Value) (b : List (BitVec 8)) : (putM M k v b).length ≤ M.length + 1 := by
  unfold putM
  split
  · simp
  · simp
theorem delM_len (M : List Ent) (k : ByteArray) : (delM M k).length ≤ M.length := List.length_filter_le _ _
theorem mem_putM {M : List Ent} {k : ByteArray} {v : Value} {b : List (BitVec 8)} {x : Ent} (h : x ∈ putM M k v b) : x ∈ M ∨ x = (k, v, b) := by
  unfold putM at h
  split at h
  · rcases List.mem_append.1 h with h | h
    · exact .inl h
    · exact .inr (by simpa using h)
  · obtain ⟨y, hy, rfl⟩ := List.mem_map.1 h
    split
    · exact .inr rfl
    · exact .inl hy

theorem put_VM {w : World} {lo mb : Nat} {S : Nat → Prop} {M : List Ent} (h : VM w lo S mb M) (k : ByteArray) (v : Value) (b : List (BitVec 8)) (hv : Own w lo v b) (hs : ∀ g, v.ownBlock = some g → ¬ S g) :
    ∃ w', (Instr.mapUpdate 61 (.map (some mb)) (.string k) v).run Tryz.prog w = .ok () w' ∧ VM w' lo S mb (putM M k v b) ∧ Only w w' (fun i => i = mb) ∧ w'.heap.size = w.heap.size := by
  have hne : ∀ {u : Value} {c : List (BitVec 8)}, Own w lo u c → ∀ g, u.ownBlock = some g → ¬ g = mb := fun {u c} ho g hg e => by
    obtain ⟨cur, hc⟩ := row_type ho hg
    obtain ⟨_, _, hm, _⟩ := h.map
    rw [e, hm] at hc
    cases hc
  have fin : ∀ {w' : World} {l : List (ByteArray × Value)}, MapN w' mb l → l = entsN (putM M k v b) → Only w w' (fun i => i = mb) → VM w' lo S mb (putM M k v b) := fun {w' l} hm hl ho => by
    subst hl
    refine ⟨hm, fun x hx => ?_⟩
    rcases mem_putM hx with hx | rfl
    · exact ⟨row_only (h.vals x hx).1 ho (hne (h.vals x hx).1), (h.vals x hx).2⟩
    · exact ⟨row_only hv ho (hne hv), hs⟩
  by_cases hg : getM M k = none
  · obtain ⟨w', h1, h2, h3, h4⟩ := put_N (P := Tryz.prog) Tryz.underlying61 Tryz.underlying9 h.map k v ((getM_find M k).1 hg)
    have ho : Only w w' (fun i => i = mb) := (Only.of_grown h3).weak fun i _ e => (Option.some.inj e).symm
    exact ⟨w', h1, fin h2 (by unfold putM; rw [if_pos hg]; unfold entsN; rw [List.map_append]; rfl) ho, ho, h4⟩
  · obtain ⟨w', h1, h2, h3, h4⟩ := over_N (P := Tryz.prog) Tryz.underlying61 Tryz.underlying9 h.map k v (fun e => hg ((getM_find M k).2 e))
    refine ⟨w', h1, fin h2 ?_ h3, h3, h4⟩
    unfold putM
    rw [if_neg hg]
    unfold overN entsN
    rw [List.map_map, List.map_map]
    refine List.map_congr_left fun x _ => ?_
    show (if x.1 = k then (k, v) else (x.1, x.2.1)) = ((if x.1 = k then (k, v, b) else x).1, (if x.1 = k then (k, v, b) else x).2.1)
    split <;> rfl
theorem wpList_del_VM {w : World} {lo mb : Nat} {S : Nat → Prop} {M : List Ent} {ops : Array Oper} {rest : List Oper} {o : Oper} {a : Act} {Q : Exit → Act → World → Prop} (hg : o.guard = none) (mo x : Operand) (hop : o.op = Op.call { callee := Callee.builtin Builtin.delete, args := #[mo, x], argTypes := #[61, 9] })
    (hm : a.eval mo = .map (some mb)) (h : VM w lo S mb M) (s : ByteArray) (hx : a.eval x = .string s)
    (hK : ∀ w', VM w' lo S mb (delM M s) → Only w w' (fun i => i = mb) → w'.heap.size = w.heap.size → wpList Tryz.prog ops Q rest (a.put o.dst (.tuple #[])) w') : wpList Tryz.prog ops Q (o :: rest) a w := by
  refine wpList_del_N hg mo x _ _ hop _ Tryz.underlying61 Tryz.underlying9 mb (entsN M) hm h.map s hx fun w' h1 h2 h3 => hK w' ⟨(entsN_del M s).symm ▸ h1, fun y hy => ?_⟩ h2 h3
  have hy' := (List.mem_filter.1 hy).1
  refine ⟨row_only (h.vals y hy').1 h2 fun g hg e => ?_, (h.vals y hy').2⟩
  obtain ⟨cur, hc⟩ := row_type (h.vals y hy').1 hg
  obtain ⟨_, _, hmm, _⟩ := h.map
  rw [e, hmm] at hc
  cases hc

/-- A change, and where its value lies. -/
structure Chg where
  key : ByteArray
  v : Value
  val : List (BitVec 8)
  gone : Bool
def Chg.cells (c : Chg) : List Value := [.string c.key, c.v, .bool c.gone]
theorem lenChg (c : Chg) : c.cells.length = 3 := rfl
/-- Changes lie in a slice. -/
def ChgsAt (w : World) (v : Value) (l : List Chg) : Prop :=
  (l = [] ∧ ∃ a c, v = .slice a 0 c) ∨ ∃ g o c, v = .slice (some ⟨g, o, none⟩) l.length c ∧ g < w.heap.size ∧ ∀ (k : Nat) (x : Chg), l[k]? = some x → w.rangeAt g (o + k * 3) x.cells ∧ SliceIs w x.v x.val
theorem ChgsAt.low {w w' : World} {v : Value} {l : List Chg} (h : ChgsAt w v l) (hb : Below w.heap.size w w') : ChgsAt w' v l := by
  rcases h with h | ⟨g, o, c, h1, h2, h3⟩
  · exact .inl h
  · exact .inr ⟨g, o, c, h1, Nat.lt_of_lt_of_le h2 hb.size, fun k x hx => ⟨rangeAt_low (h3 k x hx).1 h2 hb, (h3 k x hx).2.low hb⟩⟩
theorem ChgsAt.len {w : World} {v : Value} {l : List Chg} (h : ChgsAt w v l) : ∃ p c, v = .slice p l.length c := by
  rcases h with ⟨rfl, a, c, rfl⟩ | ⟨g, o, c, rfl, _⟩
  · exact ⟨_, _, rfl⟩
  · exact ⟨_, _, rfl⟩
theorem ChgsAt.get {w : World} {p : Option Addr} {n c k : Nat} {l : List Chg} {x : Chg} (h : ChgsAt w (.slice p n c) l) (hx : l[k]? = some x) : ∃ g o, p = some ⟨g, o, none⟩ ∧ g < w.heap.size ∧ w.rangeAt g (o + k * 3) x.cells ∧ SliceIs w x.v x.val := by
  rcases h with ⟨rfl, _⟩ | ⟨g, o, c', he, h2, hr⟩
  · simp at hx
  · injection he with he
    exact ⟨g, o, he, h2, hr k x hx⟩
theorem size_chg : (Tryz.prog.info? 32).map (·.size) = some 3 := by kernel_rfl
theorem zero_chg : (Tryz.prog.info? 32).map (fun i => (i.zero, i.size)) = some (some (.agg #[.string ⟨#[]⟩, .slice none 0 0, .bool false]), 3) := by kernel_rfl

/-- What a change makes of what stands at keys. -/
def applyC (F : ByteArray → Option (List (BitVec 8))) (c : Chg) : ByteArray → Option (List (BitVec 8)) := fun k => if k = c.key then (if c.gone = true then none else some c.val) else F k
def applyB (F : ByteArray → Option (List (BitVec 8))) (l : List Chg) : ByteArray → Option (List (BitVec 8)) := l.foldl applyC F
theorem applyB_next (F : ByteArray → Option (List (BitVec 8))) {l : List Chg} {k : Nat} {c : Chg} (h : l[k]? = some c) : applyB F (l.take (k + 1)) = applyC (applyB F (l.take k)) c := by
  unfold applyB
  rw [List.take_add_one, h, List.foldl_append]
  rfl

set_option maxRecDepth 100000 in
set_option maxHeartbeats 2000000 in
theorem mapsclone_calls (b : Nat) (es : Array MapEntry) (clock : Nat) (w : World) (hb : w.heap[b]? = some (.map es clock)) :
    Calls Tryz.prog 60 #[.map (some b)] w fun e w' => e = .returned (.map (some w.heap.size)) ∧ w' = w.alloc (.map es clock) := by
  have hq := fun w => run_eql_map_nil_sl (P := Tryz.prog) w 61 _ _ (some b) Tryz.underlying61
  go_enter Tryz.func60, Tryz.ntmps60
  go_wp2
  rw [run_callFunc_extern Tryz.func84 (by kernel_rfl) (by kernel_rfl) (by kernel_rfl) (e := Extern.MapsClone.clone) (by kernel_rfl), run_maps_clone_sl w 61 hb]
  simp only [Result.andThen]
  rw [Oper.upon_value]
  go_wp2
  rw [run_typeAssert_map_sl _ 61 _ _ _ _ Tryz.underlying61]
  simp only [Result.andThen]
  rw [Oper.upon_value]
  go_wp2
  go_ret
  exact ⟨rfl, rfl⟩
theorem VM.clone {w : World} {lo mb : Nat} {S : Nat → Prop} {M : List Ent} (h : VM w lo S mb M) :
    Calls Tryz.prog 60 #[.map (some mb)] w fun e w' => e = .returned (.map (some w.heap.size)) ∧ VM w' lo S w.heap.size M ∧ Below w.heap.size w w' := by
  obtain ⟨es, c, hm, hst, hl⟩ := h.map
  refine (mapsclone_calls mb es c w hm).mono ?_
  rintro e w' ⟨rfl, rfl⟩
  have hb : Below w.heap.size w (w.alloc (.map es c)) := (Below.refl _ _).alloc (Nat.le_refl _) _
  exact ⟨rfl, ⟨⟨es, c, heap_alloc_new w _, hst, hl⟩, (h.low hb).vals⟩, hb⟩

set_option maxRecDepth 100000 in
set_option maxHeartbeats 4000000 in
/-- What a batch makes of keys and values: a map of its own. -/
theorem after_calls (w : World) (lo mb : Nat) (S : Nat → Prop) (M : List Ent) (v : Value) (L : List Chg) (h : VM w lo S mb M) (hL : ChgsAt w v L) (hlo : lo ≤ w.heap.size) (hS : ∀ i, S i → i < w.heap.size) (hl : L.length ≤ 1000000) (hb : ∀ c ∈ L, c.val.length ≤ 1000000) :
    Calls Tryz.prog 27 #[.map (some mb), v] w fun r w' => ∃ mb' M', r = .returned (.tuple #[.map (some mb'), .bool (decide ((M'.length : Int) ≤ 4096))]) ∧ w.heap.size ≤ mb' ∧ VM w' lo S mb' M' ∧ (∀ k, getM M' k = applyB (getM M) L k) ∧ M'.length ≤ M.length + L.length ∧ Below w.heap.size w w' := by
  obtain ⟨N, hN⟩ : ∃ N, L.length = N := ⟨_, rfl⟩
  obtain ⟨p, c, hv⟩ := hL.len
  rw [hN] at hv hl
  subst hv
  have HC := Lib.hid h.clone
  have HL := Lib.hid hL
  have HN := Lib.hid hN
  have HB := Lib.hid hb
  have HS := Lib.hid hS
  clear h hL hN hb hS
  go_enter Tryz.func27, Tryz.ntmps27
  go_upto_block 0 with (first
    | (go_at_call 60; refine HC.out.mono ?_; rintro e w1 ⟨rfl, hV1, hb1⟩)
    | fail)
  have HV1 := Lib.hid hV1
  clear hV1
  obtain ⟨m, hm⟩ : ∃ m, w.heap.size = m := ⟨_, rfl⟩
  simp only [hm]
  rw [hm] at HV1
  go_wp2
  go_loopw [13] (fun i wr => ∃ (k : Nat) (M' : List Ent), k ≤ N ∧ i = .int .i64 k ∧ VM wr lo S m M' ∧ (∀ j, getM M' j = applyB (getM M) (L.take k) j) ∧ M'.length ≤ M.length + k ∧ Below w.heap.size w wr) (fun i _ => N - (intOf i).toNat)
  case atStart => exact ⟨0, M, by omega, rfl, HV1.out, fun j => rfl, by omega, hb1⟩
  case round =>
    obtain ⟨k, M', hk, rfl, hV, hF, hlen, hB⟩ := hrel
    by_cases hlt : k < N
    · have i1 : (k : Int) < (N : Int) := by omega
      have i2 : 0 ≤ (k : Int) ∧ (k : Int) < (N : Int) := by omega
      have s2 : IntKind.i64.wrap ((k : Int) + 1) = (k : Int) + 1 := IntWalk.i64_in _ (by omega)
      obtain ⟨q, hq⟩ : ∃ q, L[k]? = some q := ⟨_, List.getElem?_eq_getElem (by rw [HN.out]; exact hlt)⟩
      obtain ⟨g, o, rfl, hg, hr, hsl⟩ := (HL.out.low hB).get hq
      have hqb := HB.out q (List.mem_of_getElem? hq)
      have hnx := applyB_next (getM M) hq
      obtain ⟨key, qv, val, gone⟩ := q
      obtain ⟨va, vc, hve⟩ := bytes_len hsl
      dsimp only at hve hqb hsl
      subst hve
      obtain ⟨vn, hvn⟩ : ∃ vn, val.length = vn := ⟨_, rfl⟩
      rw [hvn] at hr hsl
      have hX := Whole.new wr 32 #[.string key, .slice va vn vc, .bool gone]
      have hbX : Below wr.heap.size wr (wr.alloc (.cells #[.string key, .slice va vn vc, .bool gone] 32)) := (Below.refl _ _).alloc (Nat.le_refl _) _
      have HV := Lib.hid (hV.low hbX)
      have HF := Lib.hid hF
      have HSL := Lib.hid (hsl.low hbX)
      have HNX := Lib.hid hnx
      have HQ := Lib.hid (And.intro hqb hvn)
      have HBX := Lib.hid (hB.trans (hbX.mono hB.size))
      have HG := Lib.hid (show w.heap.size ≤ wr.heap.size from hB.size)
      clear hq hsl hV hF hnx hqb hvn hbX
      replace hr : wr.rangeAt g (o + k * 3) [.string key, .slice va vn vc, .bool gone] := hr
      generalize hw2 : wr.alloc (.cells #[.string key, .slice va vn vc, .bool gone] 32) = w2 at hX HV HSL HBX
      obtain ⟨X, hXe⟩ : ∃ X, wr.heap.size = X := ⟨_, rfl⟩
      rw [hXe] at hX
      replace hX : Whole w2 X 32 [.string key, .slice va vn vc, .bool gone] := hX
      have x2 := hX.cell 2
      go_upto_region 5 with (first
        | (refine wpList_load_mid (by rfl) 32 _ (by rfl) g (o + k * 3) (by rfl) [.string key, .slice va vn vc, .bool gone] _ hr Tryz.underlying32 (by rfl) size_chg ?_)
        | (refine wpList_alloc_row (by rfl) 32 (by rfl) #[.string ⟨#[]⟩, .slice none 0 0, .bool false] 3 zero_chg ?_)
        | (refine wpList_store_new (by rfl) 32 _ _ (by rfl) #[.string ⟨#[]⟩, .slice none 0 0, .bool false] #[.string key, .slice va vn vc, .bool gone] 32 (by rfl) (by rfl) size_chg (by rfl) (by rfl) ?_; rw [hw2]; clear hw2)
        | fail)
      clear hr
      cases gone
      case true =>
        have x0 := hX.cell 0
        go_wp2_with (first
          | (refine wpList_del_VM (by rfl) _ _ (by rfl) (by rfl) HV.out key (by rfl) ?_; intro w3 hV3 hO3 hz3)
          | fail)
        go_roundw
        case rel =>
          refine ⟨k + 1, _, by omega, by go_num, hV3, fun j => ?_, ?_, HBX.out.trans ((hO3.below HBX.out.size fun i _ e => by rw [e, ← hm]; exact Nat.le_refl _))⟩
          · rw [get_delM, HNX.out, HF.out j]
            unfold applyC
            by_cases hj : j = key
            · rw [if_pos hj, if_pos hj, if_pos rfl]
            · rw [if_neg hj, if_neg hj]
          · have := delM_len M' key
            omega
        case measure => simp [intOf]; omega
      case false =>
        have HX := Lib.hid hX
        have HCL := Lib.hid (clone_calls w2.drew _ val (HSL.out.low ((Below.refl w2.heap.size w2).drew)) (by have := HQ.out.1; omega))
        have hdb := (Below.refl w2.heap.size w2).drew
        clear hX
        go_wp2
        refine wp_region_noPanic ?_
        refine wp_region_held_drew (S := fun w' => Whole w' X 32 [.string key, .slice va vn vc, .bool false]) (by kernel_rfl) (HX.out.drew) (fun hhS => ?_)
        generalize w2.drew = wd at HCL hhS hdb ⊢
        refine wpAnyH_take (i := 0) (oi := ⟨some 22, _, _, _, _, _⟩) (v := ?_) rfl (by kernel_rfl) (by kernel_rfl) (by kernel_rfl) (fun _ _ _ h => h) (Or.inl ⟨by rfl, ?_⟩) (by assumption) ?_
        rotate_left
        · intro w hSw
          (try dsimp only at hSw)
          go_simp
          all_goals (with_reducible rfl)
        try simp only [Act.put, List.setIfInBounds_toArray, List.set_cons_zero, List.set_cons_succ]
        refine wpAnyH_take (i := 1) (oi := ⟨some 23, _, _, _, _, _⟩) (v := ?_) rfl (by kernel_rfl) (by kernel_rfl) (by kernel_rfl) (fun _ _ _ h => h) (Or.inl ⟨by rfl, ?_⟩) (by assumption) ?_
        rotate_left
        · intro w hSw
          (try dsimp only at hSw)
          go_simp
          all_goals (with_reducible rfl)
        try simp only [Act.put, List.setIfInBounds_toArray, List.set_cons_zero, List.set_cons_succ]
        refine wpAnyH_take (i := 2) (oi := ⟨some 24, _, _, _, _, _⟩) (v := ?_) rfl (by kernel_rfl) (by kernel_rfl) (by kernel_rfl) (fun _ _ _ h => h) (Or.inl ⟨by rfl, ?_⟩) (by assumption) ?_
        rotate_left
        · intro w hSw
          (try dsimp only at hSw)
          have x0 := hSw.cell 0
          have x1 := hSw.cell 1
          go_simp
          all_goals (with_reducible rfl)
        try simp only [Act.put, List.setIfInBounds_toArray, List.set_cons_zero, List.set_cons_succ]
        refine wpAnyH_take (i := 3) (oi := ⟨some 25, _, _, _, _, _⟩) (v := ?_) rfl (by kernel_rfl) (by kernel_rfl) (by kernel_rfl) (fun _ _ _ h => h) (Or.inl ⟨by rfl, ?_⟩) (by assumption) ?_
        rotate_left
        · intro w hSw
          (try dsimp only at hSw)
          go_simp
          all_goals (with_reducible rfl)
        try simp only [Act.put, List.setIfInBounds_toArray, List.set_cons_zero, List.set_cons_succ]
        refine wpAnyH_take (i := 4) (oi := ⟨some 26, _, _, _, _, _⟩) (v := ?_) rfl (by kernel_rfl) (by kernel_rfl) (by kernel_rfl) (fun _ _ _ h => h) (Or.inl ⟨by rfl, ?_⟩) (by assumption) ?_
        rotate_left
        · intro w hSw
          (try dsimp only at hSw)
          have x0 := hSw.cell 0
          have x1 := hSw.cell 1
          go_simp
          all_goals (with_reducible rfl)
        try simp only [Act.put, List.setIfInBounds_toArray, List.set_cons_zero, List.set_cons_succ]
        refine wpAnyH_ready (rs := [5]) (by kernel_rfl) (by simp) ?_
        refine AllReadyH.cons (o := ⟨some 27, _, _, _, _, _⟩) rfl (fun K hK => ?_) AllReadyH.nil
        go_simp
        refine HCL.out.mono ?_
        rintro r w5 ⟨u, rfl, _, O5, b5⟩
        have hX5 := hhS.below b5 hhS.lt
        have hV5 := (HV.out.low hdb).low b5
        have hs5 : ∀ g, u.ownBlock = some g → ¬ S g := fun g hg e => by
            have h1 := HS.out g e
            have h2 := own_ge O5 hg
            have h3 := HBX.out.size
            have h4 := hdb.size
            omega
        have O5d : Own w5 lo u val := own_down (by have := HBX.out.size; have := hdb.size; omega) O5
        refine hK.out _ _ (hX5) (fun _ => ?_)
        clear hK K
        try simp only [Act.put, List.setIfInBounds_toArray, List.set_cons_zero, List.set_cons_succ]
        refine wpAnyH_ready (rs := [6]) (by kernel_rfl) (by simp) ?_
        refine AllReadyH.cons (o := ⟨none, _, _, _, _, _⟩) rfl (fun K hK => ?_) AllReadyH.nil
        obtain ⟨w6, hr6, hV6, hO6, hz6⟩ := put_VM hV5 key u val O5d hs5
        go_simp
        refine hK.out _ _ (hX5.only hO6 (fun e => by obtain ⟨_, _, hmm, _⟩ := hV5.map; rw [← e, hX5] at hmm; cases hmm)) (fun _ => ?_)
        clear hK K
        try simp only [Act.put]
        refine wpAnyH_done (by kernel_rfl) ?_ _
        refine NoPanic.normal ?_
        have HV6 := Lib.hid hV6
        have hB6 := HBX.out.trans ((hdb.trans (b5.mono hdb.size)).mono HBX.out.size)
        have hB6 := hB6.trans (hO6.below hB6.size fun i _ e => by rw [e, ← hm]; exact Nat.le_refl _)
        clear hV6 hV5 hr6
        go_wp2
        go_roundw
        case rel =>
          refine ⟨k + 1, _, by omega, by go_num, HV6.out, fun j => ?_, ?_, hB6⟩
          · rw [get_putM, HNX.out, HF.out j]
            unfold applyC
            by_cases hj : j = key
            · rw [if_pos hj, if_pos hj, if_neg (by intro e; cases e)]
            · rw [if_neg hj, if_neg hj]
          · have := putM_len M' key u val
            omega
        case measure => simp [intOf]; omega
    · obtain rfl : k = N := by omega
      have i1 : ¬ (k : Int) < (k : Int) := by omega
      obtain ⟨ents, clk, hmm, hst, hml⟩ := hV.map
      have hsz : ents.size = M'.length := by
        have := congrArg List.length hml
        simpa [entsN] using this
      have hlm := run_len_map (P := Tryz.prog) (w := wr) 61 3 m ents clk (by kernel_rfl) hmm
      rw [hsz] at hlm
      have HV := Lib.hid hV
      have HF := Lib.hid hF
      clear hV hF hmm hst hml hsz
      go_wp2
      go_ret2
      refine ⟨m, M', rfl, by omega, HV.out, fun j => ?_, by have := HN.out; omega, by rw [← hm]; exact hB⟩
      rw [HF.out j, List.take_of_length_le (Nat.le_of_eq HN.out)]


end Go.Proofs.YtmmlpbepaefamaaGreatDoor

/- store.wrong: why changes may not be. -/
namespace Go.Proofs.YtmmlpbepaefamaaGreatDoor
open Go.RowKit

/-- Why a change may not be. -/
def chgE (c : Chg) : Int := if c.key.size = 0 ∨ (c.gone = true ∧ 0 < c.val.length) then 2 else if 128 < c.key.size ∨ 8192 < c.val.length then 3 else 0
def wrongE (l : List Chg) : Int := if 64 < l.length then 3 else match l.find? (fun c => decide (chgE c ≠ 0)) with
  | none => 0
  | some c => chgE c
theorem wrongE_none {l : List Chg} (h : l.length ≤ 64) (hc : ∀ c ∈ l, chgE c = 0) : wrongE l = 0 := by
  unfold wrongE
  rw [if_neg (by omega), List.find?_eq_none.2 fun c h => by simp [hc c h]]
theorem wrongE_at {l : List Chg} {k : Nat} {c : Chg} (h : l.length ≤ 64) (hk : l[k]? = some c) (hb : ∀ (j : Nat) x, j < k → l[j]? = some x → chgE x = 0) (hc : chgE c ≠ 0) : wrongE l = chgE c := by
  unfold wrongE
  have hf : l.find? (fun c => decide (chgE c ≠ 0)) = some c := by
    obtain ⟨hlt, he⟩ := List.getElem?_eq_some_iff.1 hk
    refine List.find?_eq_some_iff_getElem.2 ⟨by simpa using hc, k, hlt, he, fun j hj => ?_⟩
    simp [hb j _ hj (List.getElem?_eq_getElem (by omega))]
  rw [if_neg (by omega), hf]
theorem wrongE_zero {l : List Chg} (h : wrongE l = 0) : l.length ≤ 64 ∧ ∀ c ∈ l, chgE c = 0 := by
  unfold wrongE at h
  split at h
  · cases h
  · rename_i hl
    refine ⟨by omega, fun c hc => ?_⟩
    cases hf : l.find? (fun c => decide (chgE c ≠ 0)) with
    | none =>
      have := List.find?_eq_none.1 hf c hc
      simpa using this
    | some d =>
      rw [hf] at h
      have := List.find?_some hf
      simp only [decide_eq_true_iff] at this
      exact absurd h this
theorem chgE_zero {c : Chg} (h : chgE c = 0) : 1 ≤ c.key.size ∧ c.key.size ≤ 128 ∧ c.val.length ≤ 8192 ∧ (c.gone = true → c.val = []) := by
  unfold chgE at h
  split at h
  · cases h
  · rename_i h1
    split at h
    · cases h
    · rename_i h2
      refine ⟨by omega, by omega, by omega, fun hg => ?_⟩
      have : ¬ 0 < c.val.length := fun e => h1 (.inr ⟨hg, e⟩)
      exact List.eq_nil_of_length_eq_zero (by omega)

set_option maxRecDepth 100000 in
set_option maxHeartbeats 4000000 in
theorem wrong_calls (w : World) (v : Value) (L : List Chg) (hL : ChgsAt w v L) (hl : L.length ≤ 9223372036854775807) (hb : ∀ c ∈ L, c.val.length ≤ 9223372036854775807 ∧ c.key.size ≤ 9223372036854775807) :
    Calls Tryz.prog 29 #[v] w fun r w' => r = .returned (.int .i64 (wrongE L)) ∧ Below w.heap.size w w' := by
  obtain ⟨N, hN⟩ : ∃ N, L.length = N := ⟨_, rfl⟩
  obtain ⟨p, c, hv⟩ := hL.len
  rw [hN] at hv hl
  subst hv
  by_cases h64 : 64 < N
  · have g1 : (64 : Int) < (N : Int) := by omega
    have HE := Lib.hid (show wrongE L = 3 by unfold wrongE; rw [if_pos (by omega)])
    clear hL hN hb
    go_enter Tryz.func29, Tryz.ntmps29
    go_wp2
    go_ret
    exact ⟨by rw [HE.out] <;> rfl, Below.refl _ _⟩
  have g1 : ¬ (64 : Int) < (N : Int) := by omega
  have HL := Lib.hid hL
  have HN := Lib.hid hN
  have HB := Lib.hid hb
  have h64' : N ≤ 64 := by omega
  clear hL hN hb
  go_enter Tryz.func29, Tryz.ntmps29
  go_wp2
  go_loopw [10] (fun i wr => ∃ k : Nat, k ≤ N ∧ i = .int .i64 k ∧ (∀ (j : Nat) x, j < k → L[j]? = some x → chgE x = 0) ∧ Below w.heap.size w wr) (fun i _ => N - (intOf i).toNat)
  case atStart => exact ⟨0, by omega, rfl, fun j x hj => absurd hj (by omega), Below.refl _ _⟩
  case round =>
    obtain ⟨k, hk, rfl, hno, hB⟩ := hrel
    by_cases hlt : k < N
    · have i1 : (k : Int) < (N : Int) := by omega
      have i2 : 0 ≤ (k : Int) ∧ (k : Int) < (N : Int) := by omega
      have s2 : IntKind.i64.wrap ((k : Int) + 1) = (k : Int) + 1 := IntWalk.i64_in _ (by omega)
      obtain ⟨q, hq⟩ : ∃ q, L[k]? = some q := ⟨_, List.getElem?_eq_getElem (by rw [HN.out]; exact hlt)⟩
      obtain ⟨g, o, rfl, hg, hr, hsl⟩ := (HL.out.low hB).get hq
      have hqb := HB.out q (List.mem_of_getElem? hq)
      have HYES := Lib.hid (show chgE q ≠ 0 → wrongE L = chgE q from fun h => wrongE_at (by rw [HN.out]; exact h64') hq hno h)
      have HNO := Lib.hid (show chgE q = 0 → ∀ (j : Nat) x, j < k + 1 → L[j]? = some x → chgE x = 0 from fun h j x hj hx => by
        by_cases e : j = k
        · subst e
          rw [hq] at hx
          obtain rfl := Option.some.inj hx
          exact h
        · exact hno j x (by omega) hx)
      obtain ⟨key, qv, val, gone⟩ := q
      obtain ⟨va, vc, hve⟩ := bytes_len hsl
      dsimp only at hve hqb hsl
      subst hve
      obtain ⟨vn, hvn⟩ : ∃ vn, val.length = vn := ⟨_, rfl⟩
      rw [hvn] at hr
      have HQ := Lib.hid (And.intro hqb hvn)
      have hX := Whole.new wr 32 #[.string key, .slice va vn vc, .bool gone]
      have hbX : Below wr.heap.size wr (wr.alloc (.cells #[.string key, .slice va vn vc, .bool gone] 32)) := (Below.refl _ _).alloc (Nat.le_refl _) _
      have HBX := Lib.hid (hB.trans (hbX.mono hB.size))
      clear hq hsl hno hqb hvn hbX
      replace hr : wr.rangeAt g (o + k * 3) [.string key, .slice va vn vc, .bool gone] := hr
      generalize hw2 : wr.alloc (.cells #[.string key, .slice va vn vc, .bool gone] 32) = w2 at hX HBX
      obtain ⟨X, hXe⟩ : ∃ X, wr.heap.size = X := ⟨_, rfl⟩
      rw [hXe] at hX
      replace hX : Whole w2 X 32 [.string key, .slice va vn vc, .bool gone] := hX
      have x0 : w2.cell? ⟨X, 0, none⟩ = some (.string key) := hX.cell 0
      have x1 := hX.cell 1
      have x2 := hX.cell 2
      go_upto_block 2 with (first
        | (refine wpList_load_mid (by rfl) 32 _ (by rfl) g (o + k * 3) (by rfl) [.string key, .slice va vn vc, .bool gone] _ hr Tryz.underlying32 (by rfl) size_chg ?_)
        | (refine wpList_alloc_row (by rfl) 32 (by rfl) #[.string ⟨#[]⟩, .slice none 0 0, .bool false] 3 zero_chg ?_)
        | (refine wpList_store_new (by rfl) 32 _ _ (by rfl) #[.string ⟨#[]⟩, .slice none 0 0, .bool false] #[.string key, .slice va vn vc, .bool gone] 32 (by rfl) (by rfl) size_chg (by rfl) (by rfl) ?_; rw [hw2]; clear hw2)
        | fail)
      clear hr
      by_cases hk0 : key.size = 0
      · have ek : key = ⟨#[]⟩ := by
          obtain ⟨a⟩ := key
          have : a.size = 0 := hk0
          rw [Array.eq_empty_of_size_eq_zero this]
        subst ek
        have HE := Lib.hid (HYES.out (by unfold chgE; rw [if_pos (.inl rfl)]; decide))
        have HE2 := Lib.hid (show chgE ⟨⟨#[]⟩, .slice va val.length vc, val, gone⟩ = 2 by unfold chgE; rw [if_pos (.inl rfl)])
        clear HYES HNO
        go_wp2
        go_ret
        exact ⟨by rw [HE.out, HE2.out] <;> rfl, HBX.out⟩
      have e0' : ¬ key.toList = [] := fun e => hk0 (by
          rw [Lib.toList_data] at e
          have h1 := congrArg List.length e
          exact h1)
      have e0 : (key.toList == ([] : List UInt8)) = false := beq_eq_false_iff_ne.2 e0'
      cases gone
      case true =>
        by_cases hv0 : 0 < vn
        · have g4 : (0 : Int) < (vn : Int) := by omega
          have HE2 := Lib.hid (show chgE ⟨key, .slice va val.length vc, val, true⟩ = 2 by unfold chgE; rw [if_pos (.inr ⟨rfl, by dsimp only; rw [HQ.out.2]; exact hv0⟩)])
          have HE := Lib.hid (HYES.out (by rw [HE2.out]; decide))
          clear HYES HNO
          go_wp2
          go_ret
          exact ⟨by rw [HE.out, HE2.out] <;> rfl, HBX.out⟩
        have g4 : ¬ (0 : Int) < (vn : Int) := by omega
        by_cases hz1 : 128 < key.size
        · have g2 : (128 : Int) < (key.size : Int) := by omega
          have HE2 := Lib.hid (show chgE ⟨key, .slice va val.length vc, val, true⟩ = 3 by unfold chgE; rw [if_neg (fun h => h.elim hk0 (fun h => hv0 (by have h2 := h.2; dsimp only at h2; rw [HQ.out.2] at h2; exact h2)))]; rw [if_pos (.inl (by dsimp only; omega))])
          have HE := Lib.hid (HYES.out (by rw [HE2.out]; decide))
          clear HYES HNO
          go_wp2
          go_ret
          exact ⟨by rw [HE.out, HE2.out] <;> rfl, HBX.out⟩
        have g2 : ¬ (128 : Int) < (key.size : Int) := by omega
        have hz2 : ¬ 8192 < vn := by omega
        have g3 : ¬ (8192 : Int) < (vn : Int) := by omega
        have HE := Lib.hid (HNO.out (by unfold chgE; rw [if_neg (fun h => h.elim hk0 (fun h => hv0 (by have h2 := h.2; dsimp only at h2; rw [HQ.out.2] at h2; exact h2)))]; rw [if_neg (by dsimp only; rw [HQ.out.2]; omega)]))
        clear HYES HNO
        go_wp2
        go_roundw
        case rel => exact ⟨k + 1, by omega, by go_num, HE.out, HBX.out⟩
        case measure => simp [intOf]; omega
      case false =>
        by_cases hz1 : 128 < key.size
        · have g2 : (128 : Int) < (key.size : Int) := by omega
          have HE2 := Lib.hid (show chgE ⟨key, .slice va val.length vc, val, false⟩ = 3 by unfold chgE; rw [if_neg (fun h => h.elim hk0 (fun h => by cases h.1))]; rw [if_pos (.inl (by dsimp only; omega))])
          have HE := Lib.hid (HYES.out (by rw [HE2.out]; decide))
          clear HYES HNO
          go_wp2
          go_ret
          exact ⟨by rw [HE.out, HE2.out] <;> rfl, HBX.out⟩
        have g2 : ¬ (128 : Int) < (key.size : Int) := by omega
        by_cases hz2 : 8192 < vn
        · have g3 : (8192 : Int) < (vn : Int) := by omega
          have HE2 := Lib.hid (show chgE ⟨key, .slice va val.length vc, val, false⟩ = 3 by unfold chgE; rw [if_neg (fun h => h.elim hk0 (fun h => by cases h.1))]; rw [if_pos (.inr (by dsimp only; rw [HQ.out.2]; omega))])
          have HE := Lib.hid (HYES.out (by rw [HE2.out]; decide))
          clear HYES HNO
          go_wp2
          go_ret
          exact ⟨by rw [HE.out, HE2.out] <;> rfl, HBX.out⟩
        have g3 : ¬ (8192 : Int) < (vn : Int) := by omega
        have HE := Lib.hid (HNO.out (by unfold chgE; rw [if_neg (fun h => h.elim hk0 (fun h => by cases h.1))]; rw [if_neg (by dsimp only; rw [HQ.out.2]; omega)]))
        clear HYES HNO
        go_wp2
        go_roundw
        case rel => exact ⟨k + 1, by omega, by go_num, HE.out, HBX.out⟩
        case measure => simp [intOf]; omega
    · obtain rfl : k = N := by omega
      have i1 : ¬ (k : Int) < (k : Int) := by omega
      have HE := Lib.hid (wrongE_none (l := L) (by rw [HN.out]; exact h64') fun c hc => by
        obtain ⟨j, hj⟩ := List.mem_iff_getElem?.1 hc
        exact hno j c (by have := (List.getElem?_eq_some_iff.1 hj).1; rw [HN.out] at this; exact this) hj)
      clear hno
      go_wp2
      go_ret
      exact ⟨by rw [HE.out] <;> rfl, hB⟩

end Go.Proofs.YtmmlpbepaefamaaGreatDoor
