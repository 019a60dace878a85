/- Sync, Get, clear. -/
import Derived.Test.YtmmlpbepaefamaaGreatDoorSPairs
import Derived.Test.YtmmlpbepaefamaaGreatDoorSSTX2
namespace Go.Proofs.YtmmlpbepaefamaaGreatDoor
open Go.RowKit Go.MapKept

theorem look_N2 {P : Program} {w : World} {T K E : TypeId} {m : Nat} {l : List (ByteArray × Value)} (hT : P.underlying T = some (.map K E)) (hK : P.underlying K = some .string) (h : MapN w m l) (k : ByteArray) {z : Value} (hz : (zeroValue E).run P w = .ok z w) :
    (Instr.lookup T (.map (some m)) (.string k) true).run P w = .ok (.tuple #[(findN l k).getD z, .bool (findN l k).isSome]) w := by
  obtain ⟨ents, c, hm, _, hl⟩ := h
  obtain ⟨r, hr, he⟩ := findNow_N k ents.toList l 0 hl
  have hk : IsKey .string (.string k) := by simp [IsKey]
  unfold Instr.lookup
  simp only [Sem.run_bind, run_underlying hT, Result.andThen_ok, MapKept.run_getObj_map hm, Sem.run_pure, MapKept.run_checkKey hK hk, MapKept.run_findKey hK hr]
  rw [← he]
  cases r with
  | none => simp [hz]
  | some p => simp
set_option maxRecDepth 100000 in
set_option maxHeartbeats 4000000 in
theorem ssync_none (W w : World) (d n s g jb mb : Nat) (S : Nat → Prop) (A : Fs) (ks : List Int) (base : ByteArray) (M : List Ent) (h : KD W w d S A ks n) (hT : ST w W.heap.size S d s base g jb mb M) (hp : (((getA A (logN base g)).map fun f => f.ops.length).getD 0 : Nat) = 0) :
    Calls Tryz.prog 15 #[.pointer (some ⟨s, 0, none⟩)] w fun r w' => r = .returned (.int .i64 0) ∧ Below w.heap.size w w' := by
  have HN := Lib.hid (snone_calls w s d mb jb base g hT.box)
  have HS := Lib.hid (sj_sync_none W w d n jb S A ks (logN base g) h hT.jour hp)
  have c3 : w.cell? ⟨s, 3, none⟩ = some (.pointer (some ⟨jb, 0, none⟩)) := hT.box.cell 3
  clear h hT hp
  go_enter Tryz.func15, Tryz.ntmps15
  go_wp2_with (first
    | (go_at_call 38; refine HS.out.mono ?_; rintro r w2 ⟨rfl, hb2⟩)
    | (go_at_call 28; refine HN.out.mono ?_; rintro r w1 ⟨rfl, rfl⟩)
    | fail)
  go_ret
  exact ⟨rfl, hb2⟩

theorem JX.store {W w w' : World} {d s g jb mb n : Nat} {S : Nat → Prop} {A : Fs} {ks : List Int} {base : ByteArray} {M : List Ent} (hT : ST w W.heap.size S d s base g jb mb M) (h : JX W w w' d jb (logN base g) S A ks n) : SX W w w' d s jb S base g A ks n (getM M) M.length := by
  obtain ⟨hJ, S', hD, ho, hs⟩ := h
  exact ⟨S', jb, mb, M, hD, hT.jx hJ ho hs, fun _ => rfl, Nat.le_refl _, ho.weak fun i _ e => e.elim .inl (fun e => .inr (.inr e)), hs, .inl rfl⟩

set_option maxRecDepth 100000 in
set_option maxHeartbeats 4000000 in
theorem ssync_calls (W w : World) (d n s g jb mb p : Nat) (S : Nat → Prop) (A A' : Fs) (ks : List Int) (base : ByteArray) (M : List Ent) (e : Int) (h : KD W w d S A ks n) (hA : okA A) (hn : n ≤ 1000000) (hT : ST w W.heap.size S d s base g jb mb M) (hp : (((getA A (logN base g)).map fun f => f.ops.length).getD 0 : Nat) = p) (hp0 : p ≠ 0) (hr : syncR A (refB ks n) (logN base g) = (e, A')) :
    Calls Tryz.prog 15 #[.pointer (some ⟨s, 0, none⟩)] w fun r w' => r = .returned (.int .i64 e) ∧ SX W w w' d s jb S base g A' ks (n + 1) (getM M) M.length := by
  have HN := Lib.hid (snone_calls w s d mb jb base g hT.box)
  have HS := Lib.hid (sj_sync W w d n jb S A A' ks (logN base g) e p h hA hn hT.jour hT.offj hp hp0 hr)
  have c3 : w.cell? ⟨s, 3, none⟩ = some (.pointer (some ⟨jb, 0, none⟩)) := hT.box.cell 3
  have HT := Lib.hid hT
  clear h hT hp hp0 hr
  go_enter Tryz.func15, Tryz.ntmps15
  go_wp2_with (first
    | (go_at_call 38; refine HS.out.mono ?_; rintro r w2 ⟨rfl, hJX⟩)
    | (go_at_call 28; refine HN.out.mono ?_; rintro r w1 ⟨rfl, rfl⟩)
    | fail)
  go_ret
  exact ⟨rfl, hJX.store HT.out⟩

theorem findN_none : ∀ {M : List Ent} {k : ByteArray}, getM M k = none → findN (entsN M) k = none
  | [], k, _ => rfl
  | x :: M, k, h => by
    rw [getM_cons] at h
    by_cases e : x.1 = k
    · rw [if_pos e] at h
      cases h
    · rw [if_neg e] at h
      show (if x.1 = k then some x.2.1 else findN (entsN M) k) = _
      rw [if_neg e]
      exact findN_none h

set_option maxRecDepth 100000 in
set_option maxHeartbeats 4000000 in
theorem sget_calls (w : World) (lo : Nat) (S : Nat → Prop) (M : List Ent) (s d mb jb : Nat) (base : ByteArray) (g : Int) (hW : Whole w s 64 (storC d base g (.pointer (some ⟨jb, 0, none⟩)) mb)) (hV : VM w lo S mb M) (k : ByteArray) (hb : ((getM M k).getD []).length ≤ 1000000) :
    Calls Tryz.prog 8 #[.pointer (some ⟨s, 0, none⟩), .string k] w fun r w' => ∃ u, r = .returned (.tuple #[u, .bool (getM M k).isSome]) ∧ (∃ a n c, u = .slice a n c) ∧ Own w' w.heap.size u ((getM M k).getD []) ∧ Below w.heap.size w w' := by
  have HN := Lib.hid (snone_calls w s d mb jb base g hW)
  have c4 : w.cell? ⟨s, 4, none⟩ = some (.map (some mb)) := hW.cell 4
  have hz : ∀ w : World, (zeroValue 30).run Tryz.prog w = .ok (.slice none 0 0) w := fun w => by kernel_rfl
  have hlk := look_N2 (P := Tryz.prog) Tryz.underlying61 Tryz.underlying9 hV.map k (hz w)
  obtain ⟨u, l, b, hl, hu, hv, hbb⟩ : ∃ (u : Value) (l : List (BitVec 8)) (b : Bool), (getM M k).getD [] = l ∧ (findN (entsN M) k).getD (.slice none 0 0) = u ∧ SliceIs w u l ∧ (findN (entsN M) k).isSome = b ∧ (getM M k).isSome = b := by
    cases hg : getM M k with
    | none =>
      rw [findN_none hg]
      exact ⟨_, [], false, rfl, rfl, .inl ⟨rfl, .inl rfl⟩, rfl, rfl⟩
    | some z =>
      obtain ⟨x, hx, hxk, hxg, hxf⟩ := getM_entry (M := M) (k := k) (by rw [hg]; exact fun e => by cases e)
      rw [hxf]
      rw [hg] at hxg
      injection hxg with hxg
      subst hxg
      exact ⟨_, _, true, rfl, rfl, (hV.vals x hx).1.slice, rfl, rfl⟩
  rw [hu, hbb.1] at hlk
  rw [hl, hbb.2]
  rw [hl] at hb
  obtain ⟨va, vc, hve⟩ := bytes_len hv
  subst hve
  have HC := Lib.hid (clone_calls w _ l hv (by omega))
  clear hW hV hl hu hv hbb hb hz
  go_enter Tryz.func8, Tryz.ntmps8
  go_wp2_with (first
    | (go_at_call 32; refine HC.out.mono ?_; rintro e w5 ⟨_, rfl, ⟨a5, k5, c5, rfl⟩, O5, b5⟩)
    | (go_at_call 28; refine HN.out.mono ?_; rintro e w1 ⟨rfl, rfl⟩)
    | fail)
  go_ret2
  exact ⟨_, rfl, ⟨_, _, _, rfl⟩, O5, b5⟩

set_option maxRecDepth 100000 in
set_option maxHeartbeats 4000000 in
theorem sclear_none (W w : World) (d n s _g mb : Nat) (S : Nat → Prop) (A : Fs) (ks : List Int) (base : ByteArray) (j : Value) (q : Int) (h : KD W w d S A ks n) (hW : Whole w s 64 (storC d base q j mb)) (t : ByteArray) (ht : getA A t = none) :
    Calls Tryz.prog 41 #[.pointer (some ⟨s, 0, none⟩), .string t] w fun r w' => r = .returned (.int .i64 0) ∧ w = w' := by
  have HR := Lib.hid (kd_read_none h t ht)
  have c0 : w.cell? ⟨s, 0, none⟩ = some (.pointer (some ⟨d, 0, none⟩)) := hW.cell 0
  clear h hW ht
  go_enter Tryz.func41, Tryz.ntmps41
  go_wp2_with (first
    | (go_at_call 20; refine HR.out.mono ?_; rintro r w1 ⟨rfl, rfl⟩)
    | fail)
  go_ret
  exact ⟨rfl, rfl⟩

set_option maxRecDepth 100000 in
set_option maxHeartbeats 4000000 in
theorem sclear_some (W w : World) (d n s _g mb : Nat) (S : Nat → Prop) (A A' : Fs) (ks : List Int) (base : ByteArray) (j : Value) (q e : Int) (h : KD W w d S A ks n) (hA : okA A) (hn : n ≤ 1000000) (hW : Whole w s 64 (storC d base q j mb)) (t : ByteArray) (f : Dfile) (ht : getA A t = some f) (hr : remR A (refB ks n) t = (e, A')) :
    Calls Tryz.prog 41 #[.pointer (some ⟨s, 0, none⟩), .string t] w fun r w' => r = .returned (.int .i64 e) ∧ KX W w w' d S A' ks (n + 1) := by
  have HR := Lib.hid (kd_read_at h hA t f ht)
  have HM := Lib.hid (fun (w1 : World) (hb : Below w.heap.size w w1) => kd_remove W w1 d n S A ks (h.low hb) hn t)
  have c0 : w.cell? ⟨s, 0, none⟩ = some (.pointer (some ⟨d, 0, none⟩)) := hW.cell 0
  have HW := Lib.hid hW
  have HE := Lib.hid hr
  clear h hW ht hr
  go_enter Tryz.func41, Tryz.ntmps41
  go_wp2_with (first
    | (go_at_call 20; refine HR.out.mono ?_; rintro r w1 ⟨_, rfl, ⟨a1, c1, rfl⟩, O1, hb1⟩; have HB1 := Lib.hid hb1; clear O1 hb1; have c0 : w1.cell? ⟨s, 0, none⟩ = some (.pointer (some ⟨d, 0, none⟩)) := (HW.out.below HB1.out HW.out.lt).cell 0)
    | (go_at_call 73; refine (HM.out w1 HB1.out).mono ?_; rw [HE.out]; rintro r w2 ⟨rfl, S2, hD2, ho2, hs2⟩)
    | fail)
  go_ret
  exact ⟨rfl, S2, hD2, ((Only.of_below HB1.out S).trans ho2).weak fun i _ e => e.elim id id, fun i hi e => hs2 i (Nat.lt_of_lt_of_le hi HB1.out.size) e⟩

end Go.Proofs.YtmmlpbepaefamaaGreatDoor

/- The checkpoint's bytes. -/
namespace Go.Proofs.YtmmlpbepaefamaaGreatDoor
open Go.RowKit Go.MapKept

/-- One pair's frame; a checkpoint's bytes. -/
def pairF (p : ByteArray × List (BitVec 8)) : List (BitVec 8) := frameC (fieldsB [bytesB p.1, p.2])
def laidB (g : Nat) (P : List (ByteArray × List (BitVec 8))) : List (BitVec 8) := frameC (putN 8 (g + 1 : Nat)) ++ P.flatMap pairF
theorem pairF_len (p : ByteArray × List (BitVec 8)) : (pairF p).length = p.1.size + p.2.length + 24 := by
  unfold pairF
  rw [frameC_length, fieldsB_length]
  simp [sizeF, bytesB_length]
  omega
theorem flat_pairF {P : List (ByteArray × List (BitVec 8))} (h : ∀ p ∈ P, p.1.size + p.2.length ≤ 900) : (P.flatMap pairF).length ≤ P.length * 924 := by
  induction P with
  | nil => simp
  | cons p P ih =>
    rw [List.flatMap_cons, List.length_append, pairF_len, List.length_cons]
    have h1 := h p List.mem_cons_self
    have h2 := ih fun q hq => h q (List.mem_cons_of_mem _ hq)
    omega
theorem laidB_len {g : Nat} {P : List (ByteArray × List (BitVec 8))} (h : ∀ p ∈ P, p.1.size + p.2.length ≤ 900) (hl : P.length ≤ 1000) : (laidB g P).length ≤ 1000000 := by
  unfold laidB
  rw [List.length_append, frameC_length, putN_length]
  have := flat_pairF h
  omega
theorem pairsOf_bound {M : List Ent} (h : ∀ x ∈ M, x.1.size + x.2.2.length ≤ 900) : ∀ p ∈ pairsOf M, p.1.size + p.2.length ≤ 900 := by
  intro p hp
  unfold pairsOf at hp
  obtain ⟨ks, hks, rfl⟩ := List.mem_map.1 hp
  have hmem : arrB ks ∈ M.map (·.1) := by
    unfold keysOf at hks
    rw [List.mem_mergeSort] at hks
    obtain ⟨x, hx, rfl⟩ := List.mem_map.1 hks
    rw [arrB_of]
    exact List.mem_map_of_mem (f := fun x : Ent => x.1) hx
  obtain ⟨x, hx, hxk, hxg, hxf⟩ := getM_entry (getM_some hmem)
  have := h x hx
  rw [hxg]
  show (arrB ks).size + x.2.2.length ≤ 900
  rw [← hxk]
  exact this

theorem wpList_slice_two {P : Program} {ops : Array Oper} {rest : List Oper} {o : Oper} {a : Act} {w : World} {Q : Exit → Act → World → Prop} (hg : o.guard = none) (t e : TypeId) (x y : Operand) (ho : o.op = .buildSlice t 2 #[(0, x), (1, y)]) (u1 u2 : Value) (hx : a.eval x = u1) (hy : a.eval y = u2) (h1 : u1.cells = #[u1]) (h2 : u2.cells = #[u2]) {zv : Value}
    (ht : P.underlying t = some (.slice e)) (hz : (P.info? e).map (fun i => (i.zero, i.size)) = some (some zv, 1))
    (h : wpList P ops Q rest (a.put o.dst (.slice (some ⟨w.heap.size, 0, none⟩) 2 2)) (w.alloc (.cells #[u1, u2] e))) : wpList P ops Q (o :: rest) a w :=
  wpList_plain hg fun K hK => by
    obtain ⟨hzero, hsz⟩ := zero_of_info hz
    obtain ⟨i, hi, hin⟩ := Option.map_eq_some_iff.1 hsz
    have hs : (sizeOf e).run P w = .ok 1 w := by
      rw [run_sizeOf w hi]
      simp [Program.cellsOf, hi, hin]
    have hf : Instr.fill (fun i => some (i * 1, 1)) ((Array.range (2 * 1)).map (zv.cells[· % zv.cells.size]!)) [(0, u1), (1, u2)] = some #[u1, u2] := by
      have hr3 : Array.range 2 = #[0, 1] := by decide
      simp [Instr.fill, h1, h2, hr3]
    have hr : (Instr.buildSlice t 2 #[(0, u1), (1, u2)]).run P w = .ok (.slice (some ⟨w.heap.size, 0, none⟩) 2 2) (w.alloc (.cells #[u1, u2] e)) := by
      have hn3 : ¬ 2 * 1 > 2 ^ 24 := by decide
      have hn4 : ¬ 2 * 1 = 0 := by decide
      unfold Instr.buildSlice
      simp only [Sem.run_bind, run_underlying ht, Result.andThen_ok, hs, if_neg hn3, if_neg hn4, hzero, Sem.run_pure, hf]
      simp [newRow]
    unfold Oper.wp execOp
    simp only [ho]
    simp [hx, hy, hr]
    exact hK _ _ h
theorem lists_two {w : World} {e : TypeId} (u1 u2 : Value) (x1 x2 : List (BitVec 8)) (h1 : SliceIs (w.alloc (.cells #[u1, u2] e)) u1 x1) (h2 : SliceIs (w.alloc (.cells #[u1, u2] e)) u2 x2) : ListsAt (w.alloc (.cells #[u1, u2] e)) (.slice (some ⟨w.heap.size, 0, none⟩) 2 2) [x1, x2] := by
  refine ⟨_, 2, rfl, Nat.le_refl _, fun _ => ⟨_, 0, rfl, by simp, fun i bs hi => ?_⟩⟩
  have hc : ∀ j, (w.alloc (.cells #[u1, u2] e)).cell? ⟨w.heap.size, j, none⟩ = [u1, u2][j]? := fun j => (Whole.new w e #[u1, u2]).cell j
  match i, hi with
  | 0, hi => obtain rfl : x1 = bs := by simpa using hi
             exact ⟨u1, hc 0, h1⟩
  | 1, hi => obtain rfl : x2 = bs := by simpa using hi
             exact ⟨u2, hc 1, h2⟩
  | j + 2, hi => simp at hi

set_option maxRecDepth 100000 in
set_option maxHeartbeats 8000000 in
theorem slaid_calls (w : World) (lo : Nat) (S : Nat → Prop) (M : List Ent) (s d mb jb g : Nat) (base : ByteArray) (hW : Whole w s 64 (storC d base g (.pointer (some ⟨jb, 0, none⟩)) mb)) (hV : VM w lo S mb M) (hg : g < 1000) (hl : M.length ≤ 1000) (hs : ∀ x ∈ M, x.1.size + x.2.2.length ≤ 900) :
    Calls Tryz.prog 39 #[.pointer (some ⟨s, 0, none⟩)] w fun e w' => ∃ u, e = .returned (.tuple #[u, .int .i64 0]) ∧ (∃ a n c, u = .slice a n c) ∧ Own w' w.heap.size u (laidB g (pairsOf M)) ∧ Below w.heap.size w w' := by
  have c2 : w.cell? ⟨s, 2, none⟩ = some (.int .i64 g) := hW.cell 2
  have s1 : IntKind.i64.wrap ((g : Int) + 1) = ((g + 1 : Nat) : Int) := by rw [IntWalk.i64_in _ (by omega)]; omega
  have HI := Lib.hid (wint_calls w ((g + 1 : Nat) : Int) (by omega) (by omega))
  have HK := Lib.hid (fun w' (hb : Below w.heap.size w w') => skeys_calls w' lo mb S M (hV.low hb) (by omega) fun x hx => by have := hs x hx; omega)
  have HV := Lib.hid hV
  have HW := Lib.hid hW
  have HSZ := Lib.hid hs
  have HPB := Lib.hid (pairsOf_bound hs)
  obtain ⟨N, hN⟩ : ∃ N, M.length = N := ⟨_, rfl⟩
  have hkl := keysOf_len M
  have hpl := pairsOf_len M
  have hll := laidB_len (g := g) (pairsOf_bound hs) (by omega)
  rw [hN] at hl hkl hpl
  have HLL := Lib.hid hll
  have HKL := Lib.hid hkl
  have HPL := Lib.hid hpl
  clear hW hV hs hN hkl hpl hll
  go_enter Tryz.func39, Tryz.ntmps39
  go_upto_region 4 with (first
    | (go_at_call 71; refine HI.out.mono ?_; rintro e w1 ⟨_, rfl, ⟨a1, k1, c1, rfl⟩, O1, b1⟩)
    | fail)
  have HF := Lib.hid (topframe_calls w1 _ _ O1.slice (by rw [putN_length]; decide))
  have B1 := Lib.hid b1
  clear c2 O1 b1
  go_upto_region 5 with (first
    | (go_at_call 72; refine HF.out.mono ?_; rintro e w2 ⟨_, rfl, O2, b2⟩; obtain ⟨a2, k2, c2, h2⟩ := slice_any O2; subst h2)
    | fail)
  have hb2 := B1.out.trans (b2.mono B1.out.size)
  have O2' := Lib.hid (own_down B1.out.size O2)
  have B2 := Lib.hid hb2
  have c4 : w2.cell? ⟨s, 4, none⟩ = some (.map (some mb)) := (HW.out.below hb2 HW.out.lt).cell 4
  have HK2 := Lib.hid (HK.out w2 hb2)
  clear O2 b2 hb2 HF B1
  go_upto_block 0 with (first
    | (go_at_call 33; refine HK3.out.mono ?_; rintro e w4 ⟨v2, rfl, hrow, hb4⟩; rw [HKL.out] at hrow; obtain ⟨p, cs, hve⟩ := slice_of_row hrow; subst hve)
    | (go_at_call 34; refine HK2.out.mono ?_; rintro e w3 ⟨fv, rfl, hb3, hk3⟩; have HK3 := Lib.hid hk3; clear hk3)
    | fail)
  have hb24 := hb3.trans (hb4.mono hb3.size)
  have hb4' := B2.out.trans (hb24.mono B2.out.size)
  have HB4 := Lib.hid hb4'
  have HR := Lib.hid hrow
  have HO4 := Lib.hid (row_low O2'.out hb24)
  clear hrow c4 hb3 hb4 hb24 hb4' O2' HK2 HK3 HK B2
  go_wp2
  go_loopw [6, 36] (fun u i wr => ∃ (k : Nat) (a : Option Addr) (q c : Nat), k ≤ N ∧ i = .int .i64 k ∧ u = .slice a q c ∧ Own wr w.heap.size (.slice a q c) (frameC (putN 8 (g + 1 : Nat)) ++ ((pairsOf M).take k).flatMap pairF) ∧ Below w.heap.size w wr ∧ wr.ownsRow w2.heap.size 9 1 (.slice p N cs) N ((keysOf M).map encStr)) (fun _ i _ => N - (intOf i).toNat)
  case atStart => exact ⟨0, _, _, _, by omega, rfl, rfl, by rw [List.take_zero, List.flatMap_nil, List.append_nil]; exact HO4.out, HB4.out, HR.out⟩
  case round =>
    obtain ⟨k, a, q, c', hk, rfl, rfl, hO, hB, hR⟩ := hrel
    by_cases hlt : k < N
    · have i1 : (k : Int) < (N : Int) := by omega
      have i2 : 0 ≤ (k : Int) ∧ (k : Int) < (N : Int) := by omega
      have s2 : IntKind.i64.wrap ((k : Int) + 1) = (k : Int) + 1 := IntWalk.i64_in _ (by omega)
      obtain ⟨ks, hks⟩ : ∃ ks, (keysOf M)[k]? = some ks := ⟨_, List.getElem?_eq_getElem (by rw [HKL.out]; exact hlt)⟩
      have hmem : arrB ks ∈ M.map (·.1) := by
        have h1 := List.mem_of_getElem? hks
        unfold keysOf at h1
        rw [List.mem_mergeSort] at h1
        obtain ⟨x, hx, rfl⟩ := List.mem_map.1 h1
        rw [arrB_of]
        exact List.mem_map_of_mem (f := fun x : Ent => x.1) hx
      obtain ⟨x, hx, hxk, hxg, hxf⟩ := getM_entry (getM_some hmem)
      have hnx : (pairsOf M).take (k + 1) = (pairsOf M).take k ++ [(arrB ks, x.2.2)] := by
        rw [List.take_add_one]
        congr 1
        unfold pairsOf
        rw [List.getElem?_map, hks, Option.map_some, hxg]
        rfl
      have hsz : (arrB ks).size + x.2.2.length ≤ 900 := by
        have := HSZ.out x hx
        rw [hxk] at this
        exact this
      have hfl : (((pairsOf M).take k).flatMap pairF).length ≤ 1000 * 924 := by
        refine Nat.le_trans (flat_pairF fun p hp => HPB.out p (List.mem_of_mem_take hp)) ?_
        rw [List.length_take]
        have := HPL.out
        omega
      obtain ⟨g0, hpe, hc⟩ : ∃ g0, p = some ⟨g0, 0, none⟩ ∧ wr.cell? ⟨g0, k, none⟩ = some (.string (arrB ks)) := by
        rcases row_shape hR with ⟨he, h0⟩ | ⟨g0, cap, he, _, _, hc⟩
        · omega
        · injection he with he
          exact ⟨g0, he, hc k _ (by rw [List.getElem?_map, hks]; rfl)⟩
      subst hpe
      have c0 := hc
      have hbw := hB
      have HBW := Lib.hid hbw
      have HRr := Lib.hid hR
      have HOr := Lib.hid hO
      have hz : ∀ w : World, (zeroValue 30).run Tryz.prog w = .ok (.slice none 0 0) w := fun w => by kernel_rfl
      have hlk : ∀ w', Below wr.heap.size wr w' → (Instr.lookup 61 (.map (some mb)) (.string (arrB ks)) false).run Tryz.prog w' = .ok x.2.1 w' := fun w' hb => by
        have := look_N (P := Tryz.prog) Tryz.underlying61 Tryz.underlying9 ((HV.out.low hbw).low hb).map (arrB ks) (hz w')
        rw [hxf] at this
        exact this
      have hxv := ((HV.out.low hbw).vals x hx).1
      obtain ⟨va, vn, vc, hve⟩ := slice_any hxv
      rw [hve] at hlk hxv
      obtain ⟨val, hval⟩ : ∃ val, x.2.2 = val := ⟨_, rfl⟩
      obtain ⟨key, hkey⟩ : ∃ key, arrB ks = key := ⟨_, rfl⟩
      rw [hval] at hxv hnx hsz
      rw [hkey] at hlk hnx hsz c0
      have HNX := Lib.hid hnx
      have HVS := Lib.hid hxv.slice
      have HFL := Lib.hid hfl
      clear hks hmem hx hxk hxg hxf hnx hc hz hxv hve hO hfl hval hkey hbw hR
      go_upto_region 9 with (first
        | (refine wpList_conv_FB (by rfl) _ (by rfl) key (by rfl) wr ?_; rintro v5 w5 ⟨a5, k5, c5, rfl⟩ hF5 b5; have y4 : w5.cell? ⟨s, 4, none⟩ = some (.map (some mb)) := (HW.out.below (HBW.out.trans (b5.mono HBW.out.size)) HW.out.lt).cell 4; replace hlk := hlk w5 b5)
        | (refine wpList_slice_two (by rfl) 69 30 _ _ (by rfl) (.slice a5 k5 c5) (.slice va vn vc) (by rfl) (by rfl) (by rfl) (by rfl) Tryz.underlying69 zero_bytes_sl ?_
           have b6 : Below w5.heap.size w5 (w5.alloc (.cells #[.slice a5 k5 c5, .slice va vn vc] 30)) := (Below.refl _ _).alloc (Nat.le_refl _) _
           have hls := lists_two (w := w5) (e := 30) (.slice a5 k5 c5) (.slice va vn vc) _ _ (hF5.low b6).1 ((HVS.out.low b5).low b6)
           have b56 := b5.trans (b6.mono b5.size)
           generalize w5.alloc (.cells #[.slice a5 k5 c5, .slice va vn vc] 30) = w6 at hls b56
           have HFI := Lib.hid (fields_calls w6 _ _ hls (by simp) (by simp [sizeF, bytesB_length]; omega))
           clear hls hF5 b6 b5 y4 hlk)
        | (go_at_call 30; refine HFI.out.mono ?_; rintro r w7 ⟨_, rfl, ⟨a7, k7, c7, rfl⟩, O7, b7⟩)
        | fail)
      have b17 := b56.trans (b7.mono b56.size)
      have HFR := Lib.hid (topframe_calls w7 _ _ O7.slice (by rw [fieldsB_length]; simp [sizeF, bytesB_length]; omega))
      have B17 := Lib.hid b17
      clear O7 b7 b17 b56 HFI
      go_upto_region 14 with (first
        | (go_at_call 72; refine HFR.out.mono ?_; rintro r w8 ⟨_, rfl, O8, b8⟩; obtain ⟨a8, k8, c8, h8⟩ := slice_any O8; subst h8)
        | fail)
      have hb8 := B17.out.trans (b8.mono B17.out.size)
      have HO8 := Lib.hid (row_low HOr.out hb8)
      have HB8 := Lib.hid (hB.trans (hb8.mono hB.size))
      have HS8 := Lib.hid (show SliceIs w8 _ (pairF (key, val)) from O8.slice)
      have HL8 := Lib.hid (show (frameC (putN 8 (g + 1 : Nat)) ++ ((pairsOf M).take k).flatMap pairF).length + (pairF (key, val)).length ≤ 1000000000 by have := HFL.out; rw [List.length_append, frameC_length, putN_length, pairF_len]; dsimp only; omega)
      have HW8 := Lib.hid (show w.heap.size ≤ w8.heap.size from HB8.out.size)
      have HR8 := Lib.hid (row_low HRr.out hb8)
      clear O8 b8 hb8
      go_wp2_with (first
        | (refine wpList_append_laid (by rfl) _ _ 30 30 Tryz.underlying30 Tryz.underlying30 (by rfl) w.heap.size _ _ (by rfl) HO8.out _ (pairF (key, val)) (by rfl) HS8.out HL8.out HW8.out ?_; intro v9 w9 O9 G9 M9; have hB9 := HB8.out.grown G9 HB8.out.size (fun i e => own_ge HO8.out e); obtain ⟨a9, k9, c9, he9⟩ := slice_any O9; subst he9)
        | fail)
      have hR9 := row_only HR8.out (Only.of_grown G9) fun g1 hg1 e1 => by
        obtain ⟨y1, hy1⟩ := row_type HR8.out hg1
        obtain ⟨y2, hy2⟩ := row_type HO8.out e1
        rw [hy1] at hy2
        injection hy2 with hy2
        injection hy2 with _ hy2 _
        exact absurd hy2 (by decide)
      go_roundw
      case rel =>
        refine ⟨k + 1, a9, k9, c9, by omega, by go_num, rfl, ?_, hB9, hR9⟩
        rw [HNX.out, List.flatMap_append, ← List.append_assoc, List.flatMap_cons, List.flatMap_nil, List.append_nil]
        exact O9
      case measure => simp [intOf]; omega
    · obtain rfl : k = N := by omega
      have i1 : ¬ (k : Int) < (k : Int) := by omega
      rw [List.take_of_length_le (Nat.le_of_eq HPL.out)] at hO
      have hO2 : Own wr w.heap.size (.slice a q c') (laidB g (pairsOf M)) := hO
      have hq : q = (laidB g (pairsOf M)).length := by
        obtain ⟨a3, c3, h3⟩ := slice_of_row hO2
        injection h3
      have i5 : ¬ (1048576 : Int) < (q : Int) := by have := HLL.out; omega
      have HO := Lib.hid hO2
      clear hO hO2 hq
      go_wp2
      go_ret2
      exact ⟨_, rfl, ⟨_, _, _, rfl⟩, HO.out, hB⟩

end Go.Proofs.YtmmlpbepaefamaaGreatDoor
