/- Pairs, SamePairs, Get: what a store tells. -/
import Derived.Test.YtmmlpbepaefamaaGreatDoorDNames
import Derived.Test.YtmmlpbepaefamaaGreatDoorSBase
namespace Go.Proofs.YtmmlpbepaefamaaGreatDoor
open Go.RowKit Go.MapKept Go.Maps Go.Sort Go.Shelf

def keysV_ren : Go.Shelf.Ren := ⟨fun | 7 => 34 | 10 => 66 | n => n, fun | 23 => 61 | 26 => 9 | 3 => 30 | 28 => 82 | 0 => 0 | 27 => 81 | 33 => 67 | 4 => 4 | n => n, fun | n => n⟩
theorem keysV : Go.Proofs.SlLaysZ.n7 Tryz.prog keysV_ren := {
  mixed := by kernel_rfl
  f7 := ⟨Tryz.f34.name, by decide, Tryz.func34.trans (congrArg some (by kernel_rfl))⟩
  f10 := ⟨Tryz.f66.name, by decide, Tryz.func66.trans (congrArg some (by kernel_rfl))⟩
  t0 := Tryz.underlying0
  a0 := Tryz.isAgg0
  z0 := Tryz.sizeOf0
  v0 := Tryz.zeroValue0
  t4 := Tryz.underlying4
  a4 := Tryz.isAgg4
  z4 := Tryz.sizeOf4
  v4 := Tryz.zeroValue4
  t23 := Tryz.underlying61
  a23 := Tryz.isAgg61
  z23 := Tryz.sizeOf61
  v23 := Tryz.zeroValue61
  t26 := Tryz.underlying9
  a26 := Tryz.isAgg9
  z26 := Tryz.sizeOf9
  v26 := Tryz.zeroValue9
  t27 := Tryz.underlying81
  a27 := Tryz.isAgg81
  z27 := Tryz.sizeOf81
  v27 := Tryz.zeroValue81
  t28 := Tryz.underlying82
  a28 := Tryz.isAgg82
  z28 := Tryz.sizeOf82
  v28 := Tryz.zeroValue82
  t33 := Tryz.underlying67
  a33 := Tryz.isAgg67
  z33 := Tryz.sizeOf67
  v33 := Tryz.zeroValue67 }

theorem bas_eq {a b : ByteArray} (h : a.toList = b.toList) : a = b := by
  rw [Lib.toList_data, Lib.toList_data] at h
  obtain ⟨⟨a⟩⟩ := a
  obtain ⟨⟨b⟩⟩ := b
  congr 2
/-- The keys, ascending. -/
def keysOf (M : List Ent) : List (List UInt8) := (M.map (·.1.data.toList)).mergeSort (fun x y => decide (x ≤ y))
theorem keysOf_len (M : List Ent) : (keysOf M).length = M.length := by
  unfold keysOf
  rw [List.length_mergeSort, List.length_map]
def arrB (s : List UInt8) : ByteArray := ⟨s.toArray⟩
theorem arrB_of (k : ByteArray) : arrB k.data.toList = k := by
  unfold arrB
  rw [Array.toArray_toList]
/-- The pairs, ascending. -/
def pairsOf (M : List Ent) : List (ByteArray × List (BitVec 8)) := (keysOf M).map fun s => (arrB s, (getM M (arrB s)).getD [])
theorem pairsOf_len (M : List Ent) : (pairsOf M).length = M.length := by
  unfold pairsOf
  rw [List.length_map, keysOf_len]
theorem getM_some : ∀ {M : List Ent} {k : ByteArray}, k ∈ M.map (·.1) → getM M k ≠ none
  | x :: M, k, h => by
    rw [getM_cons]
    by_cases e : x.1 = k
    · rw [if_pos e]; simp
    · rw [if_neg e]
      rcases List.mem_map.1 h with ⟨y, hy, rfl⟩
      rcases List.mem_cons.1 hy with rfl | hy
      · exact absurd rfl e
      · exact getM_some (List.mem_map_of_mem (f := fun x : Ent => x.1) hy)
theorem getM_key : ∀ {M : List Ent} {k : ByteArray}, getM M k ≠ none → k ∈ M.map (·.1)
  | [], k, h => absurd rfl h
  | x :: M, k, h => by
    rw [getM_cons] at h
    by_cases e : x.1 = k
    · rw [List.map_cons, e]; exact List.mem_cons_self
    · rw [if_neg e] at h
      exact List.mem_cons_of_mem _ (getM_key h)
theorem getM_entry : ∀ {M : List Ent} {k : ByteArray}, getM M k ≠ none → ∃ x ∈ M, x.1 = k ∧ getM M k = some x.2.2 ∧ findN (entsN M) k = some x.2.1
  | [], k, h => absurd rfl h
  | x :: M, k, h => by
    rw [getM_cons] at h ⊢
    by_cases e : x.1 = k
    · refine ⟨x, List.mem_cons_self, e, if_pos e, ?_⟩
      show (if x.1 = k then some x.2.1 else findN (entsN M) k) = _
      rw [if_pos e]
    · rw [if_neg e] at h ⊢
      obtain ⟨y, hy, h1, h2, h3⟩ := getM_entry h
      refine ⟨y, List.mem_cons_of_mem _ hy, h1, h2, ?_⟩
      show (if x.1 = k then some x.2.1 else findN (entsN M) k) = _
      rw [if_neg e]
      exact h3
theorem keys_perm {M M' : List Ent} (hn : (M.map (·.1)).Nodup) (hn' : (M'.map (·.1)).Nodup) (h : ∀ k, getM M k = getM M' k) : (M.map (·.1)).Perm (M'.map (·.1)) :=
  (List.perm_ext_iff_of_nodup hn hn').2 fun k => ⟨fun e => getM_key (h k ▸ getM_some e), fun e => getM_key ((h k).symm ▸ getM_some e)⟩
/-- The pairs hang on what stands at each key alone. -/
theorem pairsOf_alike {M M' : List Ent} (hn : (M.map (·.1)).Nodup) (hn' : (M'.map (·.1)).Nodup) (h : ∀ k, getM M k = getM M' k) : pairsOf M = pairsOf M' := by
  have hk : keysOf M = keysOf M' := by
    unfold keysOf
    have hp := (keys_perm hn hn' h).map fun k : ByteArray => k.data.toList
    rw [List.map_map, List.map_map] at hp
    exact mergeSort_of_perm hp
  unfold pairsOf
  rw [hk]
  exact List.map_congr_left fun s _ => by rw [h]

/-- Pairs lie in a slice. -/
def PairsAt (w : World) (u : Value) (P : List (ByteArray × List (BitVec 8))) : Prop :=
  (P = [] ∧ ∃ a c, u = .slice a 0 c) ∨ ∃ g o c, u = .slice (some ⟨g, o, none⟩) P.length c ∧ g < w.heap.size ∧ ∀ (k : Nat) (x : ByteArray × List (BitVec 8)), P[k]? = some x → ∃ v, w.rangeAt g (o + k * 2) [.string x.1, v] ∧ SliceIs w v x.2
theorem PairsAt.low {w w' : World} {u : Value} {P : List (ByteArray × List (BitVec 8))} (h : PairsAt w u P) (hb : Below w.heap.size w w') : PairsAt w' u P := by
  rcases h with h | ⟨g, o, c, h1, h2, h3⟩
  · exact .inl h
  · refine .inr ⟨g, o, c, h1, Nat.lt_of_lt_of_le h2 hb.size, fun k x hx => ?_⟩
    obtain ⟨v, h4, h5⟩ := h3 k x hx
    exact ⟨v, rangeAt_low h4 h2 hb, h5.low hb⟩
theorem PairsAt.len {w : World} {u : Value} {P : List (ByteArray × List (BitVec 8))} (h : PairsAt w u P) : ∃ a c, u = .slice a P.length c := by
  rcases h with ⟨rfl, a, c, rfl⟩ | ⟨g, o, c, rfl, _⟩ <;> exact ⟨_, _, rfl⟩
theorem PairsAt.get {w : World} {p : Option Addr} {n c k : Nat} {P : List (ByteArray × List (BitVec 8))} {x : ByteArray × List (BitVec 8)} (h : PairsAt w (.slice p n c) P) (hx : P[k]? = some x) : ∃ g o v, p = some ⟨g, o, none⟩ ∧ w.rangeAt g (o + k * 2) [.string x.1, v] ∧ SliceIs w v x.2 := by
  rcases h with ⟨rfl, _⟩ | ⟨g, o, c', he, h2, h3⟩
  · simp at hx
  · injection he with he
    obtain ⟨v, h4, h5⟩ := h3 k x hx
    exact ⟨g, o, v, he, h4, h5⟩
/-- A pair's cells. -/
def pairC (x : Ent) : List Value := [.string x.1, x.2.1]
theorem lenP (x : Ent) : (pairC x).length = 2 := rfl
theorem info_pair : ∃ i, Tryz.prog.info? 41 = some i ∧ i.zero = some (.agg #[.string ⟨#[]⟩, .slice none 0 0]) ∧ i.size = 2 ∧ i.bytes = 40 := info_of (by kernel_rfl)

set_option maxRecDepth 100000 in
set_option maxHeartbeats 4000000 in
theorem skeys_calls (w : World) (lo mb : Nat) (S : Nat → Prop) (M : List Ent) (h : VM w lo S mb M) (hl : M.length ≤ 1000000) (hs : ∀ x ∈ M, x.1.size ≤ 1000000) :
    Calls Tryz.prog 34 #[.map (some mb)] w fun e w' => ∃ fv, e = .returned fv ∧ Below w.heap.size w w' ∧ Calls Tryz.prog 33 #[fv] w' fun e w2 => ∃ v, e = .returned v ∧ w2.ownsRow w.heap.size 9 1 v (keysOf M).length ((keysOf M).map encStr) ∧ Below w'.heap.size w' w2 := by
  obtain ⟨D0, hown, hsz, hperm⟩ := h.map.owns (by simpa [entsN] using hl) (fun p hp => by
    obtain ⟨x, hx, rfl⟩ := List.mem_map.1 hp
    exact hs x hx)
  have hbl := hown.lt
  have b1 : Below w.heap.size w (w.alloc (.cells #[.map (some mb)] 61)) := (Below.refl _ w).alloc (Nat.le_refl _) _
  have hsz : Maps.size D0 = M.length := by simpa [entsN] using hsz
  have hperm : (strKeys D0).Perm (M.map (·.1.data.toList)) := by
    unfold entsN at hperm
    rwa [List.map_map] at hperm
  have hseq : SeqGives Fence.wide 2 Tryz.prog 66 #[.pointer (some ⟨w.heap.size, 0, none⟩)] encStr (fun ss => ss.Perm (strKeys D0)) (Maps.size D0) (w.alloc (.cells #[.map (some mb)] 61)) :=
    AnyZ.keys_gives (ρ := keysV_ren) { keysV with } Fence.wide _ trivial rfl (by omega) w.heap.size mb 1000000 D0 _ (by simp) (by simp) (by
      obtain ⟨es, clock, hb, Ft, hs, hD⟩ := hown
      exact ⟨es, clock, (Below.heap_alloc _ _ mb hbl).trans hb, Ft, hs, hD⟩)
  have cK : ∀ mb W, Calls Tryz.prog 34 #[.map mb] W fun e w' => e = .returned (.func (.func 66) #[] #[.pointer (some ⟨W.heap.size, 0, none⟩)]) ∧ w' = W.alloc (.cells #[.map mb] 61) := fun mb W => (callsIn_wide (n := 5)).1 (AnyZ.keys_in keysV Fence.wide 5 trivial rfl mb W)
  have cS := AnyZ.sorted_in sortedK Fence.wide 5 trivial trivial trivial trivial rfl (by omega) (sortsK _) (enters_of Tryz.func65 (by kernel_rfl) rfl) 66 #[.pointer (some ⟨w.heap.size, 0, none⟩)] trivial (enters_of Tryz.func66 (by kernel_rfl) rfl) _ _ (by rw [hsz]; exact Nat.le_trans hl (by decide)) (by rw [hsz]; omega) _ hseq
  change CallsIn _ _ Tryz.prog 33 _ _ _ at cS
  refine (cK (some mb) w).mono ?_
  rintro e w' ⟨rfl, rfl⟩
  refine ⟨_, rfl, b1, ((callsIn_wide (n := 5)).1 cS).mono ?_⟩
  rintro e w2 ⟨v, ss, rfl, hS, hrow, hnil, hb⟩
  have hp2 := hS.trans hperm
  have e1 : keysOf M = ss.mergeSort (fun x y => decide (x ≤ y)) := (mergeSort_of_perm hp2).symm
  have hl2 : ss.length = (keysOf M).length := by rw [e1, List.length_mergeSort]
  rw [hl2] at hrow
  refine ⟨v, rfl, ?_, hb⟩
  rw [e1] at hrow ⊢
  exact ownsRow_base_a hrow b1.size

theorem zero_pair : (Tryz.prog.info? 41).map (fun i => (i.zero, i.size)) = some (some (.agg #[.string ⟨#[]⟩, .slice none 0 0]), 2) := by kernel_rfl
/-- A row of pairs of the call's own, each with its value. -/
structure PairsOwn (w : World) (B : Nat) (u : Value) (E : List Ent) : Prop where
  row : w.ownsRow B 41 2 u E.length (E.flatMap pairC)
  vals : ∀ x ∈ E, Own w B x.2.1 x.2.2
theorem PairsOwn.at {w : World} {B : Nat} {u : Value} {E : List Ent} (h : PairsOwn w B u E) : PairsAt w u (E.map fun x => (x.1, x.2.2)) := by
  rcases row_shape h.row with ⟨rfl, h0⟩ | ⟨g, cap, rfl, _, hg, hc⟩
  · have : E = [] := List.eq_nil_of_length_eq_zero h0
    subst this
    exact .inl ⟨rfl, _, _, rfl⟩
  · refine .inr ⟨g, 0, cap, by rw [List.length_map], hg, fun k x hx => ?_⟩
    rw [List.getElem?_map] at hx
    cases he : E[k]? with
    | none => rw [he] at hx; cases hx
    | some y =>
      rw [he] at hx
      obtain rfl : (y.1, y.2.2) = x := Option.some.inj hx
      refine ⟨y.2.1, fun j v hj => ?_, (h.vals y (List.mem_of_getElem? he)).slice⟩
      rw [Nat.zero_add]
      exact hc _ _ (flat_at lenP E k y j v he hj)

set_option maxRecDepth 100000 in
set_option maxHeartbeats 4000000 in
theorem pairs_calls (w : World) (lo : Nat) (S : Nat → Prop) (M : List Ent) (s d mb jb : Nat) (base : ByteArray) (g : Int) (hW : Whole w s 64 (storC d base g (.pointer (some ⟨jb, 0, none⟩)) mb)) (hV : VM w lo S mb M) (hl : M.length ≤ 90000) (hs : ∀ x ∈ M, x.1.size ≤ 1000000 ∧ x.2.2.length ≤ 1000000) :
    Calls Tryz.prog 9 #[.pointer (some ⟨s, 0, none⟩)] w fun e w' => ∃ u, e = .returned u ∧ ∃ E, PairsOwn w' w.heap.size u E ∧ (E.map fun x => (x.1, x.2.2)) = pairsOf M ∧ Below w.heap.size w w' := by
  have HN := Lib.hid (snone_calls w s d mb jb base g hW)
  have c4 : w.cell? ⟨s, 4, none⟩ = some (.map (some mb)) := hW.cell 4
  have HK := Lib.hid (skeys_calls w lo mb S M hV (by omega) fun x hx => (hs x hx).1)
  have HV := Lib.hid hV
  have HW := Lib.hid hW
  have HSZ := Lib.hid hs
  obtain ⟨N, hN⟩ : ∃ N, M.length = N := ⟨_, rfl⟩
  have hkl := keysOf_len M
  rw [hN] at hl hkl
  have HKL := Lib.hid hkl
  clear hW hV hs hN hkl
  go_enter Tryz.func9, Tryz.ntmps9
  go_upto_block 0 with (first
    | (go_at_call 33; refine HK2.out.mono ?_; rintro e w2 ⟨v2, rfl, hrow, hb2⟩; rw [HKL.out] at hrow; obtain ⟨p, c, hve⟩ := slice_of_row hrow; subst hve)
    | (go_at_call 34; refine HK.out.mono ?_; rintro e w1 ⟨fv, rfl, hb1, HK2⟩; have HK2 := Lib.hid HK2)
    | (go_at_call 28; refine HN.out.mono ?_; rintro e w1 ⟨rfl, rfl⟩)
    | fail)
  have hb02 : Below w.heap.size w w2 := hb1.trans (hb2.mono hb1.size)
  have HR := Lib.hid hrow
  clear hrow c4 hb1 hb2
  go_wp2
  go_loopw [3, 15] (fun u i wr => ∃ (k : Nat) (E : List Ent) (a : Option Addr) (q c : Nat), k ≤ N ∧ i = .int .i64 k ∧ u = .slice a q c ∧ PairsOwn wr w2.heap.size (.slice a q c) E ∧ (E.map fun x => (x.1, x.2.2)) = (pairsOf M).take k ∧ Below w2.heap.size w2 wr) (fun _ i _ => N - (intOf i).toNat)
  case atStart => exact ⟨0, [], _, _, _, by omega, rfl, rfl, ⟨World.ownsRow_nil _ _ _ _, fun x hx => by cases hx⟩, by simp, Below.refl _ _⟩
  case round =>
    obtain ⟨k, E, a, q, c', hk, rfl, rfl, hE, hP, hB⟩ := hrel
    by_cases hlt : k < N
    · have i1 : (k : Int) < (N : Int) := by omega
      have i2 : 0 ≤ (k : Int) ∧ (k : Int) < (N : Int) := by omega
      have s2 : IntKind.i64.wrap ((k : Int) + 1) = (k : Int) + 1 := IntWalk.i64_in _ (by omega)
      obtain ⟨ks, hks⟩ : ∃ ks, (keysOf M)[k]? = some ks := ⟨_, List.getElem?_eq_getElem (by rw [HKL.out]; exact hlt)⟩
      have hmem : arrB ks ∈ M.map (·.1) := by
        have h1 := List.mem_of_getElem? hks
        unfold keysOf at h1
        rw [List.mem_mergeSort] at h1
        obtain ⟨x, hx, rfl⟩ := List.mem_map.1 h1
        rw [arrB_of]
        exact List.mem_map_of_mem (f := fun x : Ent => x.1) hx
      obtain ⟨x, hx, hxk, hxg, hxf⟩ := getM_entry (getM_some hmem)
      have hnx : (pairsOf M).take (k + 1) = (pairsOf M).take k ++ [(arrB ks, x.2.2)] := by
        rw [List.take_add_one]
        congr 1
        unfold pairsOf
        rw [List.getElem?_map, hks, Option.map_some, hxg]
        rfl
      obtain ⟨g0, hpe, hc⟩ : ∃ g0, p = some ⟨g0, 0, none⟩ ∧ w2.cell? ⟨g0, k, none⟩ = some (.string (arrB ks)) := by
        rcases row_shape HR.out with ⟨he, h0⟩ | ⟨g0, cap, he, _, _, hc⟩
        · omega
        · injection he with he
          exact ⟨g0, he, hc k _ (by rw [List.getElem?_map, hks]; rfl)⟩
      subst hpe
      have hg0 : g0 < w2.heap.size := row_lt HR.out rfl
      have c0 := (hB.cell (p := ⟨g0, k, none⟩) hg0).trans hc
      have hbw : Below w.heap.size w wr := hb02.trans (hB.mono hb02.size)
      have hWr := HW.out.below hbw HW.out.lt
      have c4 : wr.cell? ⟨s, 4, none⟩ = some (.map (some mb)) := hWr.cell 4
      have hVr := HV.out.low hbw
      have hz : ∀ w : World, (zeroValue 30).run Tryz.prog w = .ok (.slice none 0 0) w := fun w => by kernel_rfl
      have hlk := look_N (P := Tryz.prog) Tryz.underlying61 Tryz.underlying9 hVr.map (arrB ks) (hz wr)
      rw [hxf] at hlk
      replace hlk : (Instr.lookup 61 (.map (some mb)) (.string (arrB ks)) false).run Tryz.prog wr = .ok x.2.1 wr := hlk
      have hxv := (hVr.vals x hx).1
      obtain ⟨va, vn, vc, hve⟩ := slice_any hxv
      rw [hve] at hlk hxv
      have HC := Lib.hid (clone_calls wr _ x.2.2 hxv.slice (by have := (HSZ.out x hx).2; omega))
      have HX := Lib.hid (And.intro hnx hP)
      have HE := Lib.hid hE
      have HEL := Lib.hid (show E.length ≤ 90000 from by
        have := congrArg List.length hP
        rw [List.length_map, List.length_take] at this
        omega)
      clear hks hmem hx hxk hxg hxf hnx hc hg0 hWr hVr hz hxv hE hP hve
      go_wp2_with (first
        | (refine wpList_append_gen (f := pairC) (n := 2) (w := w6) (by rfl) _ _ 36 41 (by rfl) _ 40 Tryz.underlying36 info_pair rfl (by decide) (by decide) lenP w2.heap.size _ _ E [(arrB ks, .slice a5 k5 c5, x.2.2)] (by rfl) E6.row (by rfl) hu6 (fun b hb y hy => by (obtain rfl : b = (arrB ks, Value.slice a5 k5 c5, x.2.2) := by simpa using hb); (simp [pairC] at hy); rcases hy with rfl | rfl <;> rfl) (by have := HEL.out; simp only [List.length_cons, List.length_nil]; omega) B6.size ?_; intro v7 w7 O7 G7 _; obtain ⟨a7, k7, c7, h7⟩ := slice_any O7; subst h7)
        | (refine wpList_slice_one (by rfl) 36 41 _ (by rfl) #[.string (arrB ks), .slice a5 k5 c5] (by rfl) Tryz.underlying36 zero_pair (by decide) (by decide) rfl ?_; have hu6 := src_new (f := pairC) (n := 2) w5 41 (arrB ks, Value.slice a5 k5 c5, x.2.2); have b6 := (Below.refl w5.heap.size w5).alloc (Nat.le_refl _) (.cells #[.string (arrB ks), .slice a5 k5 c5] 41); have B6 := B5.trans (b6.mono B5.size); have E6 : PairsOwn (w5.alloc (.cells #[.string (arrB ks), .slice a5 k5 c5] 41)) w2.heap.size (.slice a q c') E := ⟨row_low (row_low HE.out.row b5) b6, fun y hy => row_low (row_low (HE.out.vals y hy) b5) b6⟩; have O6 := row_low O5 b6; replace hu6 : SrcG pairC 2 (w5.alloc (.cells #[.string (arrB ks), .slice a5 k5 c5] 41)) _ _ := hu6; generalize w5.alloc (.cells #[.string (arrB ks), .slice a5 k5 c5] 41) = w6 at hu6 b6 B6 E6 O6 ⊢)
        | (go_at_call 32; refine HC.out.mono ?_; rintro e w5 ⟨_, rfl, ⟨a5, k5, c5, rfl⟩, O5, b5⟩; have B5 := hB.trans (b5.mono hB.size))
        | fail)
      have hb7 := B6.grown G7 B6.size (fun i hi => own_ge E6.row hi)
      have E7 : PairsOwn w7 w2.heap.size (.slice a7 k7 c7) (E ++ [(arrB ks, .slice a5 k5 c5, x.2.2)]) := ⟨O7, fun y hy => by
        have keep : ∀ {u : Value} {z : List (BitVec 8)} {B : Nat}, Own w6 B u z → Own w7 B u z := fun {u z B} h => row_only h (Only.of_grown G7) fun g hg e => by
          obtain ⟨c1, hc1⟩ := row_type h hg
          obtain ⟨c2, hc2⟩ := row_type E6.row e
          rw [hc1] at hc2
          injection hc2 with hc2
          injection hc2 with _ hc2 _
          exact absurd hc2 (by decide)
        rcases List.mem_append.1 hy with hy | hy
        · exact keep (E6.vals y hy)
        · obtain rfl : y = (arrB ks, Value.slice a5 k5 c5, x.2.2) := by simpa using hy
          exact keep (own_down hB.size O6)⟩
      go_roundw
      case rel =>
        refine ⟨k + 1, _, _, _, _, by omega, by go_num, rfl, E7, ?_, ?_⟩
        · rw [HX.out.1, List.map_append, HX.out.2]
          rfl
        · exact hb7
      case measure => simp [intOf]; omega
    · obtain rfl : k = N := by omega
      have i1 : ¬ (k : Int) < (k : Int) := by omega
      rw [List.take_of_length_le (by rw [pairsOf_len, ← keysOf_len, HKL.out]; exact Nat.le_refl _)] at hP
      have HE := Lib.hid hE
      have HP := Lib.hid hP
      clear hE hP
      go_wp2
      go_ret
      exact ⟨_, rfl, E, ⟨own_down hb02.size HE.out.row, fun x hx => own_down hb02.size (HE.out.vals x hx)⟩, HP.out, hb02.trans (hB.mono hb02.size)⟩

set_option maxRecDepth 100000 in
set_option maxHeartbeats 4000000 in
theorem samepairs_calls (w : World) (u v : Value) (P Q : List (ByteArray × List (BitVec 8))) (hu : PairsAt w u P) (hv : PairsAt w v Q) (hl : P.length ≤ 1000000) (hq : Q.length ≤ 1000000) :
    Calls Tryz.prog 11 #[u, v] w fun e w' => e = .returned (.bool (decide (P = Q))) ∧ Below w.heap.size w w' := by
  obtain ⟨p, c, rfl⟩ := hu.len
  obtain ⟨p2, c2, rfl⟩ := hv.len
  obtain ⟨N, hN⟩ : ∃ N, P.length = N := ⟨_, rfl⟩
  obtain ⟨M, hM⟩ : ∃ M, Q.length = M := ⟨_, rfl⟩
  rw [hN] at hu hl ⊢
  rw [hM] at hv hq ⊢
  have HU := Lib.hid hu
  have HV := Lib.hid hv
  have HL := Lib.hid (And.intro hN hM)
  clear hu hv hN hM
  by_cases hne : N = M
  · subst hne
    go_enter Tryz.func11, Tryz.ntmps11
    go_wp2
    go_loopw [5] (fun i wr => ∃ k : Nat, k ≤ N ∧ i = .int .i64 k ∧ P.take k = Q.take k ∧ Below w.heap.size w wr) (fun i _ => N - (intOf i).toNat)
    case atStart => exact ⟨0, by omega, rfl, rfl, Below.refl _ _⟩
    case round =>
      obtain ⟨k, hk, rfl, hPQ, hB⟩ := hrel
      by_cases hlt : k < N
      · have i1 : (k : Int) < (N : Int) := by omega
        have i2 : 0 ≤ (k : Int) ∧ (k : Int) < (N : Int) := by omega
        have s2 : IntKind.i64.wrap ((k : Int) + 1) = (k : Int) + 1 := IntWalk.i64_in _ (by omega)
        obtain ⟨x, hx⟩ : ∃ x, P[k]? = some x := ⟨_, List.getElem?_eq_getElem (by rw [HL.out.1]; exact hlt)⟩
        obtain ⟨y, hy⟩ : ∃ y, Q[k]? = some y := ⟨_, List.getElem?_eq_getElem (by rw [HL.out.2]; exact hlt)⟩
        obtain ⟨g1, o1, xv, rfl, hr1, hsx⟩ := (HU.out.low hB).get hx
        obtain ⟨g2, o2, yv, rfl, hr2, hsy⟩ := (HV.out.low hB).get hy
        have HNO := Lib.hid (show x ≠ y → decide (P = Q) = false from fun h => decide_eq_false fun e => h (by rw [e, hy] at hx; exact (Option.some.inj hx).symm))
        have HYES := Lib.hid (show x = y → P.take (k + 1) = Q.take (k + 1) from fun h => by rw [List.take_add_one, List.take_add_one, hPQ, hx, hy, h])
        obtain ⟨x1, x2⟩ := x
        obtain ⟨y1, y2⟩ := y
        obtain ⟨va, vc, hxe⟩ := bytes_len hsx
        obtain ⟨ua, uc, hye⟩ := bytes_len hsy
        dsimp only at hxe hye hsx hsy
        subst hxe hye
        obtain ⟨vn, hvn⟩ : ∃ n, x2.length = n := ⟨_, rfl⟩
        obtain ⟨un, hun⟩ : ∃ n, y2.length = n := ⟨_, rfl⟩
        rw [hvn] at hr1 hsx
        rw [hun] at hr2 hsy
        have hdb := (Below.refl wr.heap.size wr).drew
        clear hx hy hPQ hvn hun
        by_cases hxy : x1 = y1
        · subst hxy
          have e1 : (x1.toList == x1.toList) = true := by simp
          have e2 : (x1.toList != x1.toList) = false := by simp
          by_cases h2 : x2 = y2
          · subst h2
            have e3 : decide (x2 = x2) = true := by simp
            have HY := Lib.hid (HYES.out rfl)
            clear HNO HYES
            go_wp2
            refine wp_region_noPanic ?_
            refine wp_region_held_drew (S := fun w' => w'.rangeAt g1 (o1 + k * 2) [.string x1, .slice va vn vc] ∧ w'.rangeAt g2 (o2 + k * 2) [.string x1, .slice ua un uc]) (by kernel_rfl) (⟨fun a u h => hr1 a u h, fun a u h => hr2 a u h⟩) (fun hhS => ?_)
            have hsx2 := hsx.low hdb
            have hsy2 := hsy.low hdb
            clear hsx hsy
            generalize wr.drew = wd at hdb hhS hsx2 hsy2 ⊢
            refine wpAnyH_take (i := 0) (oi := ⟨some 17, _, _, _, _, _⟩) (v := ?_) rfl (by kernel_rfl) (by kernel_rfl) (by kernel_rfl) (fun _ _ _ h => h) (Or.inl ⟨by rfl, ?_⟩) (by assumption) ?_
            rotate_left
            · intro w hSw
              (try dsimp only at hSw)
              go_simp
              all_goals (with_reducible rfl)
            try simp only [Act.put, List.setIfInBounds_toArray, List.set_cons_zero, List.set_cons_succ]
            refine wpAnyH_take (i := 1) (oi := ⟨some 18, _, _, _, _, _⟩) (v := ?_) rfl (by kernel_rfl) (by kernel_rfl) (by kernel_rfl) (fun _ _ _ h => h) (Or.inl ⟨by rfl, ?_⟩) (by assumption) ?_
            rotate_left
            · intro w hSw
              (try dsimp only at hSw)
              go_simp
              all_goals (with_reducible rfl)
            try simp only [Act.put, List.setIfInBounds_toArray, List.set_cons_zero, List.set_cons_succ]
            refine wpAnyH_take (i := 2) (oi := ⟨some 19, _, _, _, _, _⟩) (v := ?_) rfl (by kernel_rfl) (by kernel_rfl) (by kernel_rfl) (fun _ _ _ h => h) (Or.inl ⟨by rfl, ?_⟩) (by assumption) ?_
            rotate_left
            · intro w hSw
              (try dsimp only at hSw)
              go_simp
              all_goals (with_reducible rfl)
            try simp only [Act.put, List.setIfInBounds_toArray, List.set_cons_zero, List.set_cons_succ]
            refine wpAnyH_take (i := 3) (oi := ⟨some 20, _, _, _, _, _⟩) (v := ?_) rfl (by kernel_rfl) (by kernel_rfl) (by kernel_rfl) (fun _ _ _ h => h) (Or.inl ⟨by rfl, ?_⟩) (by assumption) ?_
            rotate_left
            · intro w hSw
              (try dsimp only at hSw)
              go_simp
              all_goals (with_reducible rfl)
            try simp only [Act.put, List.setIfInBounds_toArray, List.set_cons_zero, List.set_cons_succ]
            refine wpAnyH_take (i := 4) (oi := ⟨some 21, _, _, _, _, _⟩) (v := ?_) rfl (by kernel_rfl) (by kernel_rfl) (by kernel_rfl) (fun _ _ _ h => h) (Or.inl ⟨by rfl, ?_⟩) (by assumption) ?_
            rotate_left
            · intro w hSw
              (try dsimp only at hSw)
              have z0 : w.cell? ⟨g1, o1 + k * 2, none⟩ = some (.string x1) := hSw.1 0 _ rfl
              have z1 := hSw.1 1 _ rfl
              have q0 : w.cell? ⟨g2, o2 + k * 2, none⟩ = some (.string x1) := hSw.2 0 _ rfl
              have q1 := hSw.2 1 _ rfl
              go_simp
              all_goals (with_reducible rfl)
            try simp only [Act.put, List.setIfInBounds_toArray, List.set_cons_zero, List.set_cons_succ]
            refine wpAnyH_take (i := 5) (oi := ⟨some 22, _, _, _, _, _⟩) (v := ?_) rfl (by kernel_rfl) (by kernel_rfl) (by kernel_rfl) (fun _ _ _ h => h) (Or.inl ⟨by rfl, ?_⟩) (by assumption) ?_
            rotate_left
            · intro w hSw
              (try dsimp only at hSw)
              go_simp
              all_goals (with_reducible rfl)
            try simp only [Act.put, List.setIfInBounds_toArray, List.set_cons_zero, List.set_cons_succ]
            refine wpAnyH_take (i := 6) (oi := ⟨some 23, _, _, _, _, _⟩) (v := ?_) rfl (by kernel_rfl) (by kernel_rfl) (by kernel_rfl) (fun _ _ _ h => h) (Or.inl ⟨by rfl, ?_⟩) (by assumption) ?_
            rotate_left
            · intro w hSw
              (try dsimp only at hSw)
              go_simp
              all_goals (with_reducible rfl)
            try simp only [Act.put, List.setIfInBounds_toArray, List.set_cons_zero, List.set_cons_succ]
            refine wpAnyH_take (i := 7) (oi := ⟨some 24, _, _, _, _, _⟩) (v := ?_) rfl (by kernel_rfl) (by kernel_rfl) (by kernel_rfl) (fun _ _ _ h => h) (Or.inl ⟨by rfl, ?_⟩) (by assumption) ?_
            rotate_left
            · intro w hSw
              (try dsimp only at hSw)
              go_simp
              all_goals (with_reducible rfl)
            try simp only [Act.put, List.setIfInBounds_toArray, List.set_cons_zero, List.set_cons_succ]
            refine wpAnyH_take (i := 8) (oi := ⟨some 25, _, _, _, _, _⟩) (v := ?_) rfl (by kernel_rfl) (by kernel_rfl) (by kernel_rfl) (fun _ _ _ h => h) (Or.inl ⟨by rfl, ?_⟩) (by assumption) ?_
            rotate_left
            · intro w hSw
              (try dsimp only at hSw)
              go_simp
              all_goals (with_reducible rfl)
            try simp only [Act.put, List.setIfInBounds_toArray, List.set_cons_zero, List.set_cons_succ]
            refine wpAnyH_take (i := 9) (oi := ⟨some 26, _, _, _, _, _⟩) (v := ?_) rfl (by kernel_rfl) (by kernel_rfl) (by kernel_rfl) (fun _ _ _ h => h) (Or.inl ⟨by rfl, ?_⟩) (by assumption) ?_
            rotate_left
            · intro w hSw
              (try dsimp only at hSw)
              have z0 : w.cell? ⟨g1, o1 + k * 2, none⟩ = some (.string x1) := hSw.1 0 _ rfl
              have z1 := hSw.1 1 _ rfl
              have q0 : w.cell? ⟨g2, o2 + k * 2, none⟩ = some (.string x1) := hSw.2 0 _ rfl
              have q1 := hSw.2 1 _ rfl
              go_simp
              all_goals (with_reducible rfl)
            try simp only [Act.put, List.setIfInBounds_toArray, List.set_cons_zero, List.set_cons_succ]
            refine wpAnyH_take (i := 10) (oi := ⟨some 27, _, _, _, _, _⟩) (v := (.bool false)) rfl (by kernel_rfl) (by kernel_rfl) (by kernel_rfl) (fun _ _ _ h => h) (Or.inl ⟨by rfl, ?_⟩) (by assumption) ?_
            · intro w hSw
              (try dsimp only at hSw)
              go_simp
              all_goals (first | done | simp)
            try simp only [Act.put, List.setIfInBounds_toArray, List.set_cons_zero, List.set_cons_succ]
            refine wpAnyH_take (i := 11) (oi := ⟨some 28, _, _, _, _, _⟩) (v := ?_) rfl (by kernel_rfl) (by kernel_rfl) (by kernel_rfl) (fun _ _ _ h => h) (Or.inl ⟨by rfl, ?_⟩) (by assumption) ?_
            rotate_left
            · intro w hSw
              (try dsimp only at hSw)
              go_simp
              all_goals (with_reducible rfl)
            try simp only [Act.put, List.setIfInBounds_toArray, List.set_cons_zero, List.set_cons_succ]
            refine wpAnyH_take (i := 12) (oi := ⟨some 29, _, _, _, _, _⟩) (v := ?_) rfl (by kernel_rfl) (by kernel_rfl) (by kernel_rfl) (fun _ _ _ h => h) (Or.inl ⟨by rfl, ?_⟩) (by assumption) ?_
            rotate_left
            · intro w hSw
              (try dsimp only at hSw)
              go_simp
              all_goals (with_reducible rfl)
            try simp only [Act.put, List.setIfInBounds_toArray, List.set_cons_zero, List.set_cons_succ]
            refine wpAnyH_take (i := 13) (oi := ⟨some 30, _, _, _, _, _⟩) (v := ?_) rfl (by kernel_rfl) (by kernel_rfl) (by kernel_rfl) (fun _ _ _ h => h) (Or.inl ⟨by rfl, ?_⟩) (by assumption) ?_
            rotate_left
            · intro w hSw
              (try dsimp only at hSw)
              go_simp
              all_goals (with_reducible rfl)
            try simp only [Act.put, List.setIfInBounds_toArray, List.set_cons_zero, List.set_cons_succ]
            refine wpAnyH_take (i := 14) (oi := ⟨some 31, _, _, _, _, _⟩) (v := ?_) rfl (by kernel_rfl) (by kernel_rfl) (by kernel_rfl) (fun _ _ _ h => h) (Or.inl ⟨by rfl, ?_⟩) (by assumption) ?_
            rotate_left
            · intro w hSw
              (try dsimp only at hSw)
              go_simp
              all_goals (with_reducible rfl)
            try simp only [Act.put, List.setIfInBounds_toArray, List.set_cons_zero, List.set_cons_succ]
            refine wpAnyH_take (i := 15) (oi := ⟨some 32, _, _, _, _, _⟩) (v := ?_) rfl (by kernel_rfl) (by kernel_rfl) (by kernel_rfl) (fun _ _ _ h => h) (Or.inl ⟨by rfl, ?_⟩) (by assumption) ?_
            rotate_left
            · intro w hSw
              (try dsimp only at hSw)
              go_simp
              all_goals (with_reducible rfl)
            try simp only [Act.put, List.setIfInBounds_toArray, List.set_cons_zero, List.set_cons_succ]
            refine wpAnyH_take (i := 16) (oi := ⟨some 33, _, _, _, _, _⟩) (v := ?_) rfl (by kernel_rfl) (by kernel_rfl) (by kernel_rfl) (fun _ _ _ h => h) (Or.inl ⟨by rfl, ?_⟩) (by assumption) ?_
            rotate_left
            · intro w hSw
              (try dsimp only at hSw)
              have z0 : w.cell? ⟨g1, o1 + k * 2, none⟩ = some (.string x1) := hSw.1 0 _ rfl
              have z1 := hSw.1 1 _ rfl
              have q0 : w.cell? ⟨g2, o2 + k * 2, none⟩ = some (.string x1) := hSw.2 0 _ rfl
              have q1 := hSw.2 1 _ rfl
              go_simp
              all_goals (with_reducible rfl)
            try simp only [Act.put, List.setIfInBounds_toArray, List.set_cons_zero, List.set_cons_succ]
            refine wpAnyH_take (i := 17) (oi := ⟨some 34, _, _, _, _, _⟩) (v := ?_) rfl (by kernel_rfl) (by kernel_rfl) (by kernel_rfl) (fun _ _ _ h => h) (Or.inl ⟨by rfl, ?_⟩) (by assumption) ?_
            rotate_left
            · intro w hSw
              (try dsimp only at hSw)
              go_simp
              all_goals (with_reducible rfl)
            try simp only [Act.put, List.setIfInBounds_toArray, List.set_cons_zero, List.set_cons_succ]
            refine wpAnyH_take (i := 18) (oi := ⟨some 35, _, _, _, _, _⟩) (v := ?_) rfl (by kernel_rfl) (by kernel_rfl) (by kernel_rfl) (fun _ _ _ h => h) (Or.inl ⟨by rfl, ?_⟩) (by assumption) ?_
            rotate_left
            · intro w hSw
              (try dsimp only at hSw)
              go_simp
              all_goals (with_reducible rfl)
            try simp only [Act.put, List.setIfInBounds_toArray, List.set_cons_zero, List.set_cons_succ]
            refine wpAnyH_take (i := 19) (oi := ⟨some 36, _, _, _, _, _⟩) (v := ?_) rfl (by kernel_rfl) (by kernel_rfl) (by kernel_rfl) (fun _ _ _ h => h) (Or.inl ⟨by rfl, ?_⟩) (by assumption) ?_
            rotate_left
            · intro w hSw
              (try dsimp only at hSw)
              go_simp
              all_goals (with_reducible rfl)
            try simp only [Act.put, List.setIfInBounds_toArray, List.set_cons_zero, List.set_cons_succ]
            refine wpAnyH_take (i := 20) (oi := ⟨some 37, _, _, _, _, _⟩) (v := ?_) rfl (by kernel_rfl) (by kernel_rfl) (by kernel_rfl) (fun _ _ _ h => h) (Or.inl ⟨by rfl, ?_⟩) (by assumption) ?_
            rotate_left
            · intro w hSw
              (try dsimp only at hSw)
              go_simp
              all_goals (with_reducible rfl)
            try simp only [Act.put, List.setIfInBounds_toArray, List.set_cons_zero, List.set_cons_succ]
            refine wpAnyH_take (i := 21) (oi := ⟨some 38, _, _, _, _, _⟩) (v := ?_) rfl (by kernel_rfl) (by kernel_rfl) (by kernel_rfl) (fun _ _ _ h => h) (Or.inl ⟨by rfl, ?_⟩) (by assumption) ?_
            rotate_left
            · intro w hSw
              (try dsimp only at hSw)
              have z0 : w.cell? ⟨g1, o1 + k * 2, none⟩ = some (.string x1) := hSw.1 0 _ rfl
              have z1 := hSw.1 1 _ rfl
              have q0 : w.cell? ⟨g2, o2 + k * 2, none⟩ = some (.string x1) := hSw.2 0 _ rfl
              have q1 := hSw.2 1 _ rfl
              go_simp
              all_goals (with_reducible rfl)
            try simp only [Act.put, List.setIfInBounds_toArray, List.set_cons_zero, List.set_cons_succ]
            refine wpAnyH_ready (rs := [22]) (by kernel_rfl) (by simp) ?_
            refine AllReadyH.cons (o := ⟨some 39, _, _, _, _, _⟩) rfl (fun K hK => ?_) AllReadyH.nil
            go_simp
            refine (same_calls wd _ _ x2 x2 hsx2 hsy2).mono ?_
            rintro r w5 ⟨rfl, rfl⟩
            refine hK.out _ _ (hhS) (fun _ => ?_)
            clear hK K
            refine wpAnyH_take (i := 23) (oi := ⟨some 40, _, _, _, _, _⟩) (v := ?_) rfl (by kernel_rfl) (by kernel_rfl) (by kernel_rfl) (fun _ _ _ h => h) (Or.inl ⟨by rfl, ?_⟩) (by assumption) ?_
            rotate_left
            · intro w hSw
              (try dsimp only at hSw)
              go_simp
              all_goals (with_reducible rfl)
            try simp only [Act.put, List.setIfInBounds_toArray, List.set_cons_zero, List.set_cons_succ]
            refine wpAnyH_take (i := 24) (oi := ⟨some 41, _, _, _, _, _⟩) (v := ?_) rfl (by kernel_rfl) (by kernel_rfl) (by kernel_rfl) (fun _ _ _ h => h) (Or.inl ⟨by rfl, ?_⟩) (by assumption) ?_
            rotate_left
            · intro w hSw
              (try dsimp only at hSw)
              go_simp
              all_goals (with_reducible rfl)
            try simp only [Act.put, List.setIfInBounds_toArray, List.set_cons_zero, List.set_cons_succ]
            refine wpAnyH_done (by kernel_rfl) ?_ _
            refine NoPanic.normal ?_
            go_wp2
            go_roundw
            case rel => exact ⟨k + 1, by omega, by go_num, HY.out, hB.trans (hdb.mono hB.size)⟩
            case measure => simp [intOf]; omega
          · have e3 : decide (x2 = y2) = false := decide_eq_false h2
            have HN2 := Lib.hid (HNO.out fun e => h2 (congrArg Prod.snd e))
            clear HNO HYES
            go_wp2
            refine wp_region_noPanic ?_
            refine wp_region_held_drew (S := fun w' => w'.rangeAt g1 (o1 + k * 2) [.string x1, .slice va vn vc] ∧ w'.rangeAt g2 (o2 + k * 2) [.string x1, .slice ua un uc]) (by kernel_rfl) (⟨fun a u h => hr1 a u h, fun a u h => hr2 a u h⟩) (fun hhS => ?_)
            have hsx2 := hsx.low hdb
            have hsy2 := hsy.low hdb
            clear hsx hsy
            generalize wr.drew = wd at hdb hhS hsx2 hsy2 ⊢
            refine wpAnyH_take (i := 0) (oi := ⟨some 17, _, _, _, _, _⟩) (v := ?_) rfl (by kernel_rfl) (by kernel_rfl) (by kernel_rfl) (fun _ _ _ h => h) (Or.inl ⟨by rfl, ?_⟩) (by assumption) ?_
            rotate_left
            · intro w hSw
              (try dsimp only at hSw)
              go_simp
              all_goals (with_reducible rfl)
            try simp only [Act.put, List.setIfInBounds_toArray, List.set_cons_zero, List.set_cons_succ]
            refine wpAnyH_take (i := 1) (oi := ⟨some 18, _, _, _, _, _⟩) (v := ?_) rfl (by kernel_rfl) (by kernel_rfl) (by kernel_rfl) (fun _ _ _ h => h) (Or.inl ⟨by rfl, ?_⟩) (by assumption) ?_
            rotate_left
            · intro w hSw
              (try dsimp only at hSw)
              go_simp
              all_goals (with_reducible rfl)
            try simp only [Act.put, List.setIfInBounds_toArray, List.set_cons_zero, List.set_cons_succ]
            refine wpAnyH_take (i := 2) (oi := ⟨some 19, _, _, _, _, _⟩) (v := ?_) rfl (by kernel_rfl) (by kernel_rfl) (by kernel_rfl) (fun _ _ _ h => h) (Or.inl ⟨by rfl, ?_⟩) (by assumption) ?_
            rotate_left
            · intro w hSw
              (try dsimp only at hSw)
              go_simp
              all_goals (with_reducible rfl)
            try simp only [Act.put, List.setIfInBounds_toArray, List.set_cons_zero, List.set_cons_succ]
            refine wpAnyH_take (i := 3) (oi := ⟨some 20, _, _, _, _, _⟩) (v := ?_) rfl (by kernel_rfl) (by kernel_rfl) (by kernel_rfl) (fun _ _ _ h => h) (Or.inl ⟨by rfl, ?_⟩) (by assumption) ?_
            rotate_left
            · intro w hSw
              (try dsimp only at hSw)
              go_simp
              all_goals (with_reducible rfl)
            try simp only [Act.put, List.setIfInBounds_toArray, List.set_cons_zero, List.set_cons_succ]
            refine wpAnyH_take (i := 4) (oi := ⟨some 21, _, _, _, _, _⟩) (v := ?_) rfl (by kernel_rfl) (by kernel_rfl) (by kernel_rfl) (fun _ _ _ h => h) (Or.inl ⟨by rfl, ?_⟩) (by assumption) ?_
            rotate_left
            · intro w hSw
              (try dsimp only at hSw)
              have z0 : w.cell? ⟨g1, o1 + k * 2, none⟩ = some (.string x1) := hSw.1 0 _ rfl
              have z1 := hSw.1 1 _ rfl
              have q0 : w.cell? ⟨g2, o2 + k * 2, none⟩ = some (.string x1) := hSw.2 0 _ rfl
              have q1 := hSw.2 1 _ rfl
              go_simp
              all_goals (with_reducible rfl)
            try simp only [Act.put, List.setIfInBounds_toArray, List.set_cons_zero, List.set_cons_succ]
            refine wpAnyH_take (i := 5) (oi := ⟨some 22, _, _, _, _, _⟩) (v := ?_) rfl (by kernel_rfl) (by kernel_rfl) (by kernel_rfl) (fun _ _ _ h => h) (Or.inl ⟨by rfl, ?_⟩) (by assumption) ?_
            rotate_left
            · intro w hSw
              (try dsimp only at hSw)
              go_simp
              all_goals (with_reducible rfl)
            try simp only [Act.put, List.setIfInBounds_toArray, List.set_cons_zero, List.set_cons_succ]
            refine wpAnyH_take (i := 6) (oi := ⟨some 23, _, _, _, _, _⟩) (v := ?_) rfl (by kernel_rfl) (by kernel_rfl) (by kernel_rfl) (fun _ _ _ h => h) (Or.inl ⟨by rfl, ?_⟩) (by assumption) ?_
            rotate_left
            · intro w hSw
              (try dsimp only at hSw)
              go_simp
              all_goals (with_reducible rfl)
            try simp only [Act.put, List.setIfInBounds_toArray, List.set_cons_zero, List.set_cons_succ]
            refine wpAnyH_take (i := 7) (oi := ⟨some 24, _, _, _, _, _⟩) (v := ?_) rfl (by kernel_rfl) (by kernel_rfl) (by kernel_rfl) (fun _ _ _ h => h) (Or.inl ⟨by rfl, ?_⟩) (by assumption) ?_
            rotate_left
            · intro w hSw
              (try dsimp only at hSw)
              go_simp
              all_goals (with_reducible rfl)
            try simp only [Act.put, List.setIfInBounds_toArray, List.set_cons_zero, List.set_cons_succ]
            refine wpAnyH_take (i := 8) (oi := ⟨some 25, _, _, _, _, _⟩) (v := ?_) rfl (by kernel_rfl) (by kernel_rfl) (by kernel_rfl) (fun _ _ _ h => h) (Or.inl ⟨by rfl, ?_⟩) (by assumption) ?_
            rotate_left
            · intro w hSw
              (try dsimp only at hSw)
              go_simp
              all_goals (with_reducible rfl)
            try simp only [Act.put, List.setIfInBounds_toArray, List.set_cons_zero, List.set_cons_succ]
            refine wpAnyH_take (i := 9) (oi := ⟨some 26, _, _, _, _, _⟩) (v := ?_) rfl (by kernel_rfl) (by kernel_rfl) (by kernel_rfl) (fun _ _ _ h => h) (Or.inl ⟨by rfl, ?_⟩) (by assumption) ?_
            rotate_left
            · intro w hSw
              (try dsimp only at hSw)
              have z0 : w.cell? ⟨g1, o1 + k * 2, none⟩ = some (.string x1) := hSw.1 0 _ rfl
              have z1 := hSw.1 1 _ rfl
              have q0 : w.cell? ⟨g2, o2 + k * 2, none⟩ = some (.string x1) := hSw.2 0 _ rfl
              have q1 := hSw.2 1 _ rfl
              go_simp
              all_goals (with_reducible rfl)
            try simp only [Act.put, List.setIfInBounds_toArray, List.set_cons_zero, List.set_cons_succ]
            refine wpAnyH_take (i := 10) (oi := ⟨some 27, _, _, _, _, _⟩) (v := (.bool false)) rfl (by kernel_rfl) (by kernel_rfl) (by kernel_rfl) (fun _ _ _ h => h) (Or.inl ⟨by rfl, ?_⟩) (by assumption) ?_
            · intro w hSw
              (try dsimp only at hSw)
              go_simp
              all_goals (first | done | simp)
            try simp only [Act.put, List.setIfInBounds_toArray, List.set_cons_zero, List.set_cons_succ]
            refine wpAnyH_take (i := 11) (oi := ⟨some 28, _, _, _, _, _⟩) (v := ?_) rfl (by kernel_rfl) (by kernel_rfl) (by kernel_rfl) (fun _ _ _ h => h) (Or.inl ⟨by rfl, ?_⟩) (by assumption) ?_
            rotate_left
            · intro w hSw
              (try dsimp only at hSw)
              go_simp
              all_goals (with_reducible rfl)
            try simp only [Act.put, List.setIfInBounds_toArray, List.set_cons_zero, List.set_cons_succ]
            refine wpAnyH_take (i := 12) (oi := ⟨some 29, _, _, _, _, _⟩) (v := ?_) rfl (by kernel_rfl) (by kernel_rfl) (by kernel_rfl) (fun _ _ _ h => h) (Or.inl ⟨by rfl, ?_⟩) (by assumption) ?_
            rotate_left
            · intro w hSw
              (try dsimp only at hSw)
              go_simp
              all_goals (with_reducible rfl)
            try simp only [Act.put, List.setIfInBounds_toArray, List.set_cons_zero, List.set_cons_succ]
            refine wpAnyH_take (i := 13) (oi := ⟨some 30, _, _, _, _, _⟩) (v := ?_) rfl (by kernel_rfl) (by kernel_rfl) (by kernel_rfl) (fun _ _ _ h => h) (Or.inl ⟨by rfl, ?_⟩) (by assumption) ?_
            rotate_left
            · intro w hSw
              (try dsimp only at hSw)
              go_simp
              all_goals (with_reducible rfl)
            try simp only [Act.put, List.setIfInBounds_toArray, List.set_cons_zero, List.set_cons_succ]
            refine wpAnyH_take (i := 14) (oi := ⟨some 31, _, _, _, _, _⟩) (v := ?_) rfl (by kernel_rfl) (by kernel_rfl) (by kernel_rfl) (fun _ _ _ h => h) (Or.inl ⟨by rfl, ?_⟩) (by assumption) ?_
            rotate_left
            · intro w hSw
              (try dsimp only at hSw)
              go_simp
              all_goals (with_reducible rfl)
            try simp only [Act.put, List.setIfInBounds_toArray, List.set_cons_zero, List.set_cons_succ]
            refine wpAnyH_take (i := 15) (oi := ⟨some 32, _, _, _, _, _⟩) (v := ?_) rfl (by kernel_rfl) (by kernel_rfl) (by kernel_rfl) (fun _ _ _ h => h) (Or.inl ⟨by rfl, ?_⟩) (by assumption) ?_
            rotate_left
            · intro w hSw
              (try dsimp only at hSw)
              go_simp
              all_goals (with_reducible rfl)
            try simp only [Act.put, List.setIfInBounds_toArray, List.set_cons_zero, List.set_cons_succ]
            refine wpAnyH_take (i := 16) (oi := ⟨some 33, _, _, _, _, _⟩) (v := ?_) rfl (by kernel_rfl) (by kernel_rfl) (by kernel_rfl) (fun _ _ _ h => h) (Or.inl ⟨by rfl, ?_⟩) (by assumption) ?_
            rotate_left
            · intro w hSw
              (try dsimp only at hSw)
              have z0 : w.cell? ⟨g1, o1 + k * 2, none⟩ = some (.string x1) := hSw.1 0 _ rfl
              have z1 := hSw.1 1 _ rfl
              have q0 : w.cell? ⟨g2, o2 + k * 2, none⟩ = some (.string x1) := hSw.2 0 _ rfl
              have q1 := hSw.2 1 _ rfl
              go_simp
              all_goals (with_reducible rfl)
            try simp only [Act.put, List.setIfInBounds_toArray, List.set_cons_zero, List.set_cons_succ]
            refine wpAnyH_take (i := 17) (oi := ⟨some 34, _, _, _, _, _⟩) (v := ?_) rfl (by kernel_rfl) (by kernel_rfl) (by kernel_rfl) (fun _ _ _ h => h) (Or.inl ⟨by rfl, ?_⟩) (by assumption) ?_
            rotate_left
            · intro w hSw
              (try dsimp only at hSw)
              go_simp
              all_goals (with_reducible rfl)
            try simp only [Act.put, List.setIfInBounds_toArray, List.set_cons_zero, List.set_cons_succ]
            refine wpAnyH_take (i := 18) (oi := ⟨some 35, _, _, _, _, _⟩) (v := ?_) rfl (by kernel_rfl) (by kernel_rfl) (by kernel_rfl) (fun _ _ _ h => h) (Or.inl ⟨by rfl, ?_⟩) (by assumption) ?_
            rotate_left
            · intro w hSw
              (try dsimp only at hSw)
              go_simp
              all_goals (with_reducible rfl)
            try simp only [Act.put, List.setIfInBounds_toArray, List.set_cons_zero, List.set_cons_succ]
            refine wpAnyH_take (i := 19) (oi := ⟨some 36, _, _, _, _, _⟩) (v := ?_) rfl (by kernel_rfl) (by kernel_rfl) (by kernel_rfl) (fun _ _ _ h => h) (Or.inl ⟨by rfl, ?_⟩) (by assumption) ?_
            rotate_left
            · intro w hSw
              (try dsimp only at hSw)
              go_simp
              all_goals (with_reducible rfl)
            try simp only [Act.put, List.setIfInBounds_toArray, List.set_cons_zero, List.set_cons_succ]
            refine wpAnyH_take (i := 20) (oi := ⟨some 37, _, _, _, _, _⟩) (v := ?_) rfl (by kernel_rfl) (by kernel_rfl) (by kernel_rfl) (fun _ _ _ h => h) (Or.inl ⟨by rfl, ?_⟩) (by assumption) ?_
            rotate_left
            · intro w hSw
              (try dsimp only at hSw)
              go_simp
              all_goals (with_reducible rfl)
            try simp only [Act.put, List.setIfInBounds_toArray, List.set_cons_zero, List.set_cons_succ]
            refine wpAnyH_take (i := 21) (oi := ⟨some 38, _, _, _, _, _⟩) (v := ?_) rfl (by kernel_rfl) (by kernel_rfl) (by kernel_rfl) (fun _ _ _ h => h) (Or.inl ⟨by rfl, ?_⟩) (by assumption) ?_
            rotate_left
            · intro w hSw
              (try dsimp only at hSw)
              have z0 : w.cell? ⟨g1, o1 + k * 2, none⟩ = some (.string x1) := hSw.1 0 _ rfl
              have z1 := hSw.1 1 _ rfl
              have q0 : w.cell? ⟨g2, o2 + k * 2, none⟩ = some (.string x1) := hSw.2 0 _ rfl
              have q1 := hSw.2 1 _ rfl
              go_simp
              all_goals (with_reducible rfl)
            try simp only [Act.put, List.setIfInBounds_toArray, List.set_cons_zero, List.set_cons_succ]
            refine wpAnyH_ready (rs := [22]) (by kernel_rfl) (by simp) ?_
            refine AllReadyH.cons (o := ⟨some 39, _, _, _, _, _⟩) rfl (fun K hK => ?_) AllReadyH.nil
            go_simp
            refine (same_calls wd _ _ x2 y2 hsx2 hsy2).mono ?_
            rintro r w5 ⟨rfl, rfl⟩
            refine hK.out _ _ (hhS) (fun _ => ?_)
            clear hK K
            try simp only [Act.put, List.setIfInBounds_toArray, List.set_cons_zero, List.set_cons_succ]
            refine wpAnyH_take (i := 23) (oi := ⟨some 40, _, _, _, _, _⟩) (v := ?_) rfl (by kernel_rfl) (by kernel_rfl) (by kernel_rfl) (fun _ _ _ h => h) (Or.inl ⟨by rfl, ?_⟩) (by assumption) ?_
            rotate_left
            · intro w hSw
              (try dsimp only at hSw)
              go_simp
              all_goals (with_reducible rfl)
            try simp only [Act.put, List.setIfInBounds_toArray, List.set_cons_zero, List.set_cons_succ]
            refine wpAnyH_take (i := 24) (oi := ⟨some 41, _, _, _, _, _⟩) (v := ?_) rfl (by kernel_rfl) (by kernel_rfl) (by kernel_rfl) (fun _ _ _ h => h) (Or.inl ⟨by rfl, ?_⟩) (by assumption) ?_
            rotate_left
            · intro w hSw
              (try dsimp only at hSw)
              go_simp
              all_goals (with_reducible rfl)
            try simp only [Act.put, List.setIfInBounds_toArray, List.set_cons_zero, List.set_cons_succ]
            refine wpAnyH_done (by kernel_rfl) ?_ _
            refine NoPanic.normal ?_
            go_wp2
            go_ret
            exact ⟨by rw [HN2.out] <;> rfl, hB.trans (hdb.mono hB.size)⟩
        · have HN2 := Lib.hid (HNO.out fun e => hxy (congrArg Prod.fst e))
          have hn2 : ¬ x1.toList = y1.toList := fun e => hxy (bas_eq e)
          have hn3 : (x1.toList != y1.toList) = true := by simpa using hn2
          clear HNO HYES
          go_wp2
          refine wp_region_noPanic ?_
          refine wp_region_held_drew (S := fun w' => w'.rangeAt g1 (o1 + k * 2) [.string x1, .slice va vn vc] ∧ w'.rangeAt g2 (o2 + k * 2) [.string y1, .slice ua un uc]) (by kernel_rfl) (⟨fun a u h => hr1 a u h, fun a u h => hr2 a u h⟩) (fun hhS => ?_)
          have hsx2 := hsx.low hdb
          have hsy2 := hsy.low hdb
          clear hsx hsy
          generalize wr.drew = wd at hdb hhS hsx2 hsy2 ⊢
          refine wpAnyH_take (i := 0) (oi := ⟨some 17, _, _, _, _, _⟩) (v := ?_) rfl (by kernel_rfl) (by kernel_rfl) (by kernel_rfl) (fun _ _ _ h => h) (Or.inl ⟨by rfl, ?_⟩) (by assumption) ?_
          rotate_left
          · intro w hSw
            (try dsimp only at hSw)
            go_simp
            all_goals (with_reducible rfl)
          try simp only [Act.put, List.setIfInBounds_toArray, List.set_cons_zero, List.set_cons_succ]
          refine wpAnyH_take (i := 1) (oi := ⟨some 18, _, _, _, _, _⟩) (v := ?_) rfl (by kernel_rfl) (by kernel_rfl) (by kernel_rfl) (fun _ _ _ h => h) (Or.inl ⟨by rfl, ?_⟩) (by assumption) ?_
          rotate_left
          · intro w hSw
            (try dsimp only at hSw)
            go_simp
            all_goals (with_reducible rfl)
          try simp only [Act.put, List.setIfInBounds_toArray, List.set_cons_zero, List.set_cons_succ]
          refine wpAnyH_take (i := 2) (oi := ⟨some 19, _, _, _, _, _⟩) (v := ?_) rfl (by kernel_rfl) (by kernel_rfl) (by kernel_rfl) (fun _ _ _ h => h) (Or.inl ⟨by rfl, ?_⟩) (by assumption) ?_
          rotate_left
          · intro w hSw
            (try dsimp only at hSw)
            go_simp
            all_goals (with_reducible rfl)
          try simp only [Act.put, List.setIfInBounds_toArray, List.set_cons_zero, List.set_cons_succ]
          refine wpAnyH_take (i := 3) (oi := ⟨some 20, _, _, _, _, _⟩) (v := ?_) rfl (by kernel_rfl) (by kernel_rfl) (by kernel_rfl) (fun _ _ _ h => h) (Or.inl ⟨by rfl, ?_⟩) (by assumption) ?_
          rotate_left
          · intro w hSw
            (try dsimp only at hSw)
            go_simp
            all_goals (with_reducible rfl)
          try simp only [Act.put, List.setIfInBounds_toArray, List.set_cons_zero, List.set_cons_succ]
          refine wpAnyH_take (i := 4) (oi := ⟨some 21, _, _, _, _, _⟩) (v := ?_) rfl (by kernel_rfl) (by kernel_rfl) (by kernel_rfl) (fun _ _ _ h => h) (Or.inl ⟨by rfl, ?_⟩) (by assumption) ?_
          rotate_left
          · intro w hSw
            (try dsimp only at hSw)
            have z0 : w.cell? ⟨g1, o1 + k * 2, none⟩ = some (.string x1) := hSw.1 0 _ rfl
            have z1 := hSw.1 1 _ rfl
            have q0 : w.cell? ⟨g2, o2 + k * 2, none⟩ = some (.string y1) := hSw.2 0 _ rfl
            have q1 := hSw.2 1 _ rfl
            go_simp
            all_goals (with_reducible rfl)
          try simp only [Act.put, List.setIfInBounds_toArray, List.set_cons_zero, List.set_cons_succ]
          refine wpAnyH_take (i := 5) (oi := ⟨some 22, _, _, _, _, _⟩) (v := ?_) rfl (by kernel_rfl) (by kernel_rfl) (by kernel_rfl) (fun _ _ _ h => h) (Or.inl ⟨by rfl, ?_⟩) (by assumption) ?_
          rotate_left
          · intro w hSw
            (try dsimp only at hSw)
            go_simp
            all_goals (with_reducible rfl)
          try simp only [Act.put, List.setIfInBounds_toArray, List.set_cons_zero, List.set_cons_succ]
          refine wpAnyH_take (i := 6) (oi := ⟨some 23, _, _, _, _, _⟩) (v := ?_) rfl (by kernel_rfl) (by kernel_rfl) (by kernel_rfl) (fun _ _ _ h => h) (Or.inl ⟨by rfl, ?_⟩) (by assumption) ?_
          rotate_left
          · intro w hSw
            (try dsimp only at hSw)
            go_simp
            all_goals (with_reducible rfl)
          try simp only [Act.put, List.setIfInBounds_toArray, List.set_cons_zero, List.set_cons_succ]
          refine wpAnyH_take (i := 7) (oi := ⟨some 24, _, _, _, _, _⟩) (v := ?_) rfl (by kernel_rfl) (by kernel_rfl) (by kernel_rfl) (fun _ _ _ h => h) (Or.inl ⟨by rfl, ?_⟩) (by assumption) ?_
          rotate_left
          · intro w hSw
            (try dsimp only at hSw)
            go_simp
            all_goals (with_reducible rfl)
          try simp only [Act.put, List.setIfInBounds_toArray, List.set_cons_zero, List.set_cons_succ]
          refine wpAnyH_take (i := 8) (oi := ⟨some 25, _, _, _, _, _⟩) (v := ?_) rfl (by kernel_rfl) (by kernel_rfl) (by kernel_rfl) (fun _ _ _ h => h) (Or.inl ⟨by rfl, ?_⟩) (by assumption) ?_
          rotate_left
          · intro w hSw
            (try dsimp only at hSw)
            go_simp
            all_goals (with_reducible rfl)
          try simp only [Act.put, List.setIfInBounds_toArray, List.set_cons_zero, List.set_cons_succ]
          refine wpAnyH_take (i := 9) (oi := ⟨some 26, _, _, _, _, _⟩) (v := ?_) rfl (by kernel_rfl) (by kernel_rfl) (by kernel_rfl) (fun _ _ _ h => h) (Or.inl ⟨by rfl, ?_⟩) (by assumption) ?_
          rotate_left
          · intro w hSw
            (try dsimp only at hSw)
            have z0 : w.cell? ⟨g1, o1 + k * 2, none⟩ = some (.string x1) := hSw.1 0 _ rfl
            have z1 := hSw.1 1 _ rfl
            have q0 : w.cell? ⟨g2, o2 + k * 2, none⟩ = some (.string y1) := hSw.2 0 _ rfl
            have q1 := hSw.2 1 _ rfl
            go_simp
            all_goals (with_reducible rfl)
          try simp only [Act.put, List.setIfInBounds_toArray, List.set_cons_zero, List.set_cons_succ]
          refine wpAnyH_take (i := 10) (oi := ⟨some 27, _, _, _, _, _⟩) (v := (.bool true)) rfl (by kernel_rfl) (by kernel_rfl) (by kernel_rfl) (fun _ _ _ h => h) (Or.inl ⟨by rfl, ?_⟩) (by assumption) ?_
          · intro w hSw
            (try dsimp only at hSw)
            go_simp
            all_goals (first | done | simp)
          try simp only [Act.put, List.setIfInBounds_toArray, List.set_cons_zero, List.set_cons_succ]
          refine wpAnyH_take (i := 11) (oi := ⟨some 28, _, _, _, _, _⟩) (v := ?_) rfl (by kernel_rfl) (by kernel_rfl) (by kernel_rfl) (fun _ _ _ h => h) (Or.inl ⟨by rfl, ?_⟩) (by assumption) ?_
          rotate_left
          · intro w hSw
            (try dsimp only at hSw)
            go_simp
            all_goals (with_reducible rfl)
          try simp only [Act.put, List.setIfInBounds_toArray, List.set_cons_zero, List.set_cons_succ]
          refine wpAnyH_take (i := 12) (oi := ⟨some 29, _, _, _, _, _⟩) (v := undef) rfl (by kernel_rfl) (by kernel_rfl) (by kernel_rfl) (fun _ _ _ h => h) (Or.inr ⟨by rfl, rfl⟩) (by assumption) ?_
          try simp only [Act.put, List.setIfInBounds_toArray, List.set_cons_zero, List.set_cons_succ]
          refine wpAnyH_take (i := 13) (oi := ⟨some 30, _, _, _, _, _⟩) (v := undef) rfl (by kernel_rfl) (by kernel_rfl) (by kernel_rfl) (fun _ _ _ h => h) (Or.inr ⟨by rfl, rfl⟩) (by assumption) ?_
          try simp only [Act.put, List.setIfInBounds_toArray, List.set_cons_zero, List.set_cons_succ]
          refine wpAnyH_take (i := 14) (oi := ⟨some 31, _, _, _, _, _⟩) (v := undef) rfl (by kernel_rfl) (by kernel_rfl) (by kernel_rfl) (fun _ _ _ h => h) (Or.inr ⟨by rfl, rfl⟩) (by assumption) ?_
          try simp only [Act.put, List.setIfInBounds_toArray, List.set_cons_zero, List.set_cons_succ]
          refine wpAnyH_take (i := 15) (oi := ⟨some 32, _, _, _, _, _⟩) (v := undef) rfl (by kernel_rfl) (by kernel_rfl) (by kernel_rfl) (fun _ _ _ h => h) (Or.inr ⟨by rfl, rfl⟩) (by assumption) ?_
          try simp only [Act.put, List.setIfInBounds_toArray, List.set_cons_zero, List.set_cons_succ]
          refine wpAnyH_take (i := 16) (oi := ⟨some 33, _, _, _, _, _⟩) (v := undef) rfl (by kernel_rfl) (by kernel_rfl) (by kernel_rfl) (fun _ _ _ h => h) (Or.inr ⟨by rfl, rfl⟩) (by assumption) ?_
          try simp only [Act.put, List.setIfInBounds_toArray, List.set_cons_zero, List.set_cons_succ]
          refine wpAnyH_take (i := 17) (oi := ⟨some 34, _, _, _, _, _⟩) (v := undef) rfl (by kernel_rfl) (by kernel_rfl) (by kernel_rfl) (fun _ _ _ h => h) (Or.inr ⟨by rfl, rfl⟩) (by assumption) ?_
          try simp only [Act.put, List.setIfInBounds_toArray, List.set_cons_zero, List.set_cons_succ]
          refine wpAnyH_take (i := 18) (oi := ⟨some 35, _, _, _, _, _⟩) (v := undef) rfl (by kernel_rfl) (by kernel_rfl) (by kernel_rfl) (fun _ _ _ h => h) (Or.inr ⟨by rfl, rfl⟩) (by assumption) ?_
          try simp only [Act.put, List.setIfInBounds_toArray, List.set_cons_zero, List.set_cons_succ]
          refine wpAnyH_take (i := 19) (oi := ⟨some 36, _, _, _, _, _⟩) (v := undef) rfl (by kernel_rfl) (by kernel_rfl) (by kernel_rfl) (fun _ _ _ h => h) (Or.inr ⟨by rfl, rfl⟩) (by assumption) ?_
          try simp only [Act.put, List.setIfInBounds_toArray, List.set_cons_zero, List.set_cons_succ]
          refine wpAnyH_take (i := 20) (oi := ⟨some 37, _, _, _, _, _⟩) (v := undef) rfl (by kernel_rfl) (by kernel_rfl) (by kernel_rfl) (fun _ _ _ h => h) (Or.inr ⟨by rfl, rfl⟩) (by assumption) ?_
          try simp only [Act.put, List.setIfInBounds_toArray, List.set_cons_zero, List.set_cons_succ]
          refine wpAnyH_take (i := 21) (oi := ⟨some 38, _, _, _, _, _⟩) (v := undef) rfl (by kernel_rfl) (by kernel_rfl) (by kernel_rfl) (fun _ _ _ h => h) (Or.inr ⟨by rfl, rfl⟩) (by assumption) ?_
          try simp only [Act.put, List.setIfInBounds_toArray, List.set_cons_zero, List.set_cons_succ]
          refine wpAnyH_take (i := 22) (oi := ⟨some 39, _, _, _, _, _⟩) (v := undef) rfl (by kernel_rfl) (by kernel_rfl) (by kernel_rfl) (fun _ _ _ h => h) (Or.inr ⟨by rfl, rfl⟩) (by assumption) ?_
          try simp only [Act.put, List.setIfInBounds_toArray, List.set_cons_zero, List.set_cons_succ]
          refine wpAnyH_take (i := 23) (oi := ⟨some 40, _, _, _, _, _⟩) (v := undef) rfl (by kernel_rfl) (by kernel_rfl) (by kernel_rfl) (fun _ _ _ h => h) (Or.inr ⟨by rfl, rfl⟩) (by assumption) ?_
          try simp only [Act.put, List.setIfInBounds_toArray, List.set_cons_zero, List.set_cons_succ]
          refine wpAnyH_take (i := 24) (oi := ⟨some 41, _, _, _, _, _⟩) (v := (.bool true)) rfl (by kernel_rfl) (by kernel_rfl) (by kernel_rfl) (fun _ _ _ h => h) (Or.inl ⟨by rfl, ?_⟩) (by assumption) ?_
          · intro w hSw
            (try dsimp only at hSw)
            go_simp
            all_goals (first | done | simp)
          try simp only [Act.put, List.setIfInBounds_toArray, List.set_cons_zero, List.set_cons_succ]
          refine wpAnyH_done (by kernel_rfl) ?_ _
          refine NoPanic.normal ?_
          go_wp2
          go_ret
          exact ⟨by rw [HN2.out] <;> rfl, hB.trans (hdb.mono hB.size)⟩
      · obtain rfl : k = N := by omega
        have i1 : ¬ (k : Int) < (k : Int) := by omega
        have hE : P = Q := by
          rw [List.take_of_length_le (Nat.le_of_eq HL.out.1), List.take_of_length_le (Nat.le_of_eq HL.out.2)] at hPQ
          exact hPQ
        have HD := Lib.hid (decide_eq_true hE)
        clear hPQ hE
        go_wp2
        go_ret
        exact ⟨by rw [HD.out] <;> rfl, hB⟩
  · have g1 : ((N : Int) != (M : Int)) = true := by
      have : (N : Int) ≠ (M : Int) := by omega
      simpa using this
    have HD := Lib.hid (decide_eq_false (p := P = Q) fun e => hne (by rw [← HL.out.1, ← HL.out.2, e]))
    have hne2 : ¬ (N : Int) = (M : Int) := by omega
    go_enter Tryz.func11, Tryz.ntmps11
    go_wp2
    go_ret
    exact ⟨by rw [HD.out] <;> rfl, Below.refl _ _⟩

end Go.Proofs.YtmmlpbepaefamaaGreatDoor
