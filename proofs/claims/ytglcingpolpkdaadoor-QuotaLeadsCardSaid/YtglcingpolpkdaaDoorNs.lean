/- Lists of notes: are two the same, is one short? -/
import Derived.Test.YtglcingpolpkdaaDoorTNotes
import Derived.StillTailTactics
import Derived.Lib.Strings
namespace Go.Proofs.YtglcingpolpkdaaDoor
open Go.RowKit

instance : Inhabited Nt := ⟨zeroNt⟩
/-- Notes lie in a slice. -/
def NotesAt (w : World) (v : Value) (l : List Nt) : Prop :=
  (∃ a c, v = .slice a 0 c ∧ l = []) ∨ ∃ b off c, v = .slice (some ⟨b, off, none⟩) l.length c ∧ b < w.heap.size ∧ ∀ i a, l[i]? = some a → w.rangeAt b (off + i * 6) a.cells
theorem NotesAt.low {w w' : World} {v : Value} {l : List Nt} (h : NotesAt w v l) (hb : Below w.heap.size w w') : NotesAt w' v l := by
  rcases h with h | ⟨b, off, c, rfl, hl, hc⟩
  · exact .inl h
  · exact .inr ⟨b, off, c, rfl, Nat.lt_of_lt_of_le hl hb.size, fun i a ha j u hj => (hb.cell (p := ⟨b, off + i * 6 + j, none⟩) hl).trans (hc i a ha j u hj)⟩
theorem NotesAt.len {w : World} {v : Value} {l : List Nt} (h : NotesAt w v l) : ∃ a c, v = .slice a l.length c := by
  rcases h with ⟨a, c, rfl, rfl⟩ | ⟨b, off, c, rfl, _, _⟩
  · exact ⟨a, c, rfl⟩
  · exact ⟨_, c, rfl⟩
theorem NotesAt.at {w : World} {p : Option Addr} {n c i : Nat} {l : List Nt} {a : Nt} (h : NotesAt w (.slice p n c) l) (ha : l[i]? = some a) : ∃ b off, p = some ⟨b, off, none⟩ ∧ b < w.heap.size ∧ w.rangeAt b (off + i * 6) a.cells := by
  rcases h with ⟨_, _, _, rfl⟩ | ⟨b, off, c', he, hl, hc⟩
  · simp at ha
  · injection he with he
    exact ⟨b, off, he, hl, hc i a ha⟩
theorem notes_of_own {w : World} {B : Nat} {v : Value} {l : List Nt} (h : w.ownsRow B 36 6 v l.length (l.flatMap Nt.cells)) : NotesAt w v l := by
  rcases row_shape h with ⟨rfl, hn⟩ | ⟨g, cap, rfl, _, hg, hc⟩
  · exact .inl ⟨_, _, by rfl, List.eq_nil_of_length_eq_zero hn⟩
  · exact .inr ⟨g, 0, cap, rfl, hg, fun i a ha j u hj => by
      rw [Nat.zero_add]
      exact hc _ _ (flat_at Nt.cells_length l i a j u ha hj)⟩

theorem ba_eq {a b : ByteArray} (h : a.toList = b.toList) : a = b := by
  rw [Lib.toList_data, Lib.toList_data] at h
  exact Go.WideShapes.bytes_inj h
/-- Are two notes the same? -/
def eqN (m n : Nt) : Bool := (m.time == n.time) && ((m.who.toList == n.who.toList) && ((m.tenant.toList == n.tenant.toList) && ((m.what == n.what) && ((m.key.toList == n.key.toList) && (m.code == n.code)))))
theorem eqN_iff (m n : Nt) : eqN m n = true ↔ m = n := by
  have hb : ∀ a b : ByteArray, (a.toList == b.toList) = true ↔ a = b := fun a b => by
    rw [beq_iff_eq]
    exact ⟨ba_eq, fun h => by rw [h]⟩
  obtain ⟨time, who, tenant, what, key, code⟩ := m
  obtain ⟨stime, swho, stenant, swhat, skey, scode⟩ := n
  simp only [eqN, Bool.and_eq_true, hb, beq_iff_eq, Nt.mk.injEq]
def sameT : List Nt → List Nt → Bool
  | [], [] => true
  | m :: a, n :: b => eqN m n && sameT a b
  | _, _ => false
theorem sameT_iff : ∀ a b : List Nt, sameT a b = true ↔ a = b
  | [], [] => by simp [sameT]
  | [], _ :: _ => by simp [sameT]
  | _ :: _, [] => by simp [sameT]
  | m :: a, n :: b => by rw [sameT, Bool.and_eq_true, eqN_iff, sameT_iff a b, List.cons.injEq]

set_option maxRecDepth 100000 in
set_option maxHeartbeats 2000000 in
theorem eql_note (w : World) {time stime what swhat code scode : Int} {who swho tenant stenant key skey : ByteArray} :
    (Op.equalIn 10000 36 (.agg #[.int .i64 time, .string who, .string tenant, .int .i64 what, .string key, .int .i64 code]) (.agg #[.int .i64 stime, .string swho, .string stenant, .int .i64 swhat, .string skey, .int .i64 scode])).run Tryd.prog w = .ok (eqN ⟨time, who, tenant, what, key, code⟩ ⟨stime, swho, stenant, swhat, skey, scode⟩) w := by
  go_simp
  unfold eqN
  by_cases h1 : time = stime <;> by_cases h2 : who.toList = swho.toList <;> by_cases h3 : tenant.toList = stenant.toList <;> by_cases h4 : what = swhat <;> by_cases h5 : key.toList = skey.toList <;> by_cases h6 : code = scode <;> simp [h1, h2, h3, h4, h5, h6]
theorem guard_note : Tryd.prog.eqGuardType Tryd.prog.depth 36 = false := by kernel_rfl

set_option maxRecDepth 100000 in
set_option maxHeartbeats 2000000 in
theorem same_calls (w : World) (va vb : Value) (a b : List Nt) (ha : NotesAt w va a) (hb : NotesAt w vb b) (hlen : a.length ≤ 1000) :
    Calls Tryd.prog 18 #[va, vb] w fun e w' => e = .returned (.bool (sameT a b)) ∧ Below w.heap.size w w' := by
  obtain ⟨pa, ca, rfl⟩ := ha.len
  obtain ⟨pb, cb, rfl⟩ := hb.len
  by_cases hl : a.length = b.length
  · obtain ⟨N, hN⟩ : ∃ N, a.length = N := ⟨_, rfl⟩
    have HA := Lib.hid ha
    have HB := Lib.hid hb
    have HN := Lib.hid (And.intro hN (hl.symm.trans hN))
    rw [← hl, hN]
    rw [hN] at hlen
    rw [hN] at HA
    rw [← hl, hN] at HB
    clear ha hb hN hl
    have i0 : ((N : Int) != (N : Int)) = false := bne_self_eq_false _
    go_enter Tryd.func18, Tryd.ntmps18
    go_wp2
    go_loopw [5] (fun i wr => ∃ k : Nat, k ≤ N ∧ i = .int .i64 k ∧ a.take k = b.take k ∧ Below w.heap.size w wr) (fun i _ => N - (intOf i).toNat)
    case atStart => exact ⟨0, by omega, rfl, by rw [List.take_zero, List.take_zero], Below.refl _ _⟩
    case round =>
      obtain ⟨k, hkN, rfl, hR, hB⟩ := hrel
      have HR := Lib.hid hR
      clear hR
      by_cases hlt : k < N
      · obtain ⟨m, hm⟩ : ∃ m, a[k]? = some m := ⟨_, List.getElem?_eq_getElem (by have := HN.out.1; omega)⟩
        obtain ⟨n, hn⟩ : ∃ n, b[k]? = some n := ⟨_, List.getElem?_eq_getElem (by have := HN.out.2; omega)⟩
        obtain ⟨g, o, rfl, _, hg⟩ := (HA.out.low hB).at hm
        obtain ⟨g2, o2, rfl, _, hg2⟩ := (HB.out.low hB).at hn
        have HX := Lib.hid (And.intro hm hn)
        have HE := Lib.hid (eqN_iff m n)
        clear hm hn
        obtain ⟨time, who, tenant, what, key, code⟩ := m
        obtain ⟨stime, swho, stenant, swhat, skey, scode⟩ := n
        have c0 := hg 0 _ rfl
        have c1 := hg 1 _ rfl
        have c2 := hg 2 _ rfl
        have c3 := hg 3 _ rfl
        have c4 := hg 4 _ rfl
        have c5 := hg 5 _ rfl
        have d0 := hg2 0 _ rfl
        have d1 := hg2 1 _ rfl
        have d2 := hg2 2 _ rfl
        have d3 := hg2 3 _ rfl
        have d4 := hg2 4 _ rfl
        have d5 := hg2 5 _ rfl
        simp only [Nat.add_zero] at c0 d0
        clear hg hg2
        have i1 : (k : Int) < (N : Int) := by omega
        have i2 : 0 ≤ (k : Int) ∧ (k : Int) < (N : Int) := by omega
        have b2 : IntKind.i64.wrap ((k : Int) + 1) = (k : Int) + 1 := IntWalk.i64_in _ (by omega)
        obtain ⟨q, hq0⟩ : ∃ q, eqN ⟨time, who, tenant, what, key, code⟩ ⟨stime, swho, stenant, swhat, skey, scode⟩ = q := ⟨_, rfl⟩
        have hq : ∀ w, (Op.equalIn 10000 36 (.agg #[.int .i64 time, .string who, .string tenant, .int .i64 what, .string key, .int .i64 code]) (.agg #[.int .i64 stime, .string swho, .string stenant, .int .i64 swhat, .string skey, .int .i64 scode])).run Tryd.prog w = .ok q w := fun w => by
          rw [← hq0]
          exact eql_note w
        rw [hq0] at HE
        have hgd := guard_note
        clear hq0
        have hD : Below wr.heap.size wr wr.drew := (Below.refl _ _).drew
        go_wp2
        go_still (by kernel_rfl)
        change Exit.then _ _ Exit.normal _ wr.drew
        have hB2 := hB.trans (hD.mono hB.size)
        clear c0 c1 c2 c3 c4 c5 d0 d1 d2 d3 d4 d5 hD hq
        generalize wr.drew = w2 at hB2 ⊢
        cases q
        · have hne : sameT a b = false := by
            rw [← Bool.not_eq_true, sameT_iff]
            intro e
            have := HX.out
            rw [e] at this
            have := HE.out.2 (Option.some.inj (this.1.symm.trans this.2))
            cases this
          go_wp2
          go_ret
          exact ⟨by first | rfl | (rw [hne]; rfl), hB2⟩
        · go_wp2
          go_roundw
          case rel =>
            refine ⟨k + 1, by omega, by go_num, ?_, hB2⟩
            have e := HE.out.1 rfl
            rw [List.take_add_one, List.take_add_one, HR.out, HX.out.1, HX.out.2, e]
          case measure => simp [intOf]; omega
      · obtain rfl : k = N := by omega
        have i1 : ¬ (k : Int) < (k : Int) := by omega
        have hs : sameT a b = true := by
          rw [sameT_iff]
          have := HR.out
          rwa [List.take_of_length_le (Nat.le_of_eq HN.out.1), List.take_of_length_le (Nat.le_of_eq HN.out.2)] at this
        go_wp2
        go_ret
        exact ⟨by first | rfl | (rw [hs]; rfl), hB⟩
  · have i0 : ((a.length : Int) != (b.length : Int)) = true := by rw [bne_iff_ne]; omega
    have hne : sameT a b = false := by
      rw [← Bool.not_eq_true, sameT_iff]
      exact fun e => hl (by rw [e])
    rw [hne]
    go_enter Tryd.func18, Tryd.ntmps18
    go_wp2
    go_ret
    exact ⟨rfl, Below.refl _ _⟩

/-- Are notes short? -/
def shortN (n : Nt) : Bool := decide (n.who.size + n.tenant.size + n.key.size ≤ 300)
def shortT (l : List Nt) : Bool := l.all shortN && decide (l.length ≤ 60)
def FitN (n : Nt) : Prop := n.who.size ≤ 140737488355328 ∧ n.tenant.size ≤ 140737488355328 ∧ n.key.size ≤ 140737488355328

set_option maxRecDepth 100000 in
set_option maxHeartbeats 2000000 in
theorem short_calls (w : World) (v : Value) (l : List Nt) (h : NotesAt w v l) (hf : ∀ n ∈ l, FitN n) (hlen : l.length ≤ 9223372036854775806) :
    Calls Tryd.prog 7 #[v] w fun e w' => e = .returned (.bool (shortT l)) ∧ Below w.heap.size w w' := by
  obtain ⟨p, c, rfl⟩ := h.len
  obtain ⟨N, hN⟩ : ∃ N, l.length = N := ⟨_, rfl⟩
  have HA := Lib.hid h
  have HN := Lib.hid hN
  have HF := Lib.hid hf
  rw [hN] at HA hlen
  rw [hN]
  clear h hN hf
  go_enter Tryd.func7, Tryd.ntmps7
  go_wp2
  go_loopw [3] (fun i wr => ∃ k : Nat, k ≤ N ∧ i = .int .i64 k ∧ (l.take k).all shortN = true ∧ Below w.heap.size w wr) (fun i _ => N - (intOf i).toNat)
  case atStart => exact ⟨0, by omega, rfl, by rw [List.take_zero]; rfl, Below.refl _ _⟩
  case round =>
    obtain ⟨k, hkN, rfl, hR, hB⟩ := hrel
    have HR := Lib.hid hR
    clear hR
    by_cases hlt : k < N
    · obtain ⟨m, hm⟩ : ∃ m, l[k]? = some m := ⟨_, List.getElem?_eq_getElem (by have := HN.out; omega)⟩
      obtain ⟨g, o, rfl, _, hg⟩ := (HA.out.low hB).at hm
      have hfm := HF.out m (List.mem_of_getElem? hm)
      have HX := Lib.hid hm
      clear hm
      obtain ⟨time, who, tenant, what, key, code⟩ := m
      have c1 := hg 1 _ rfl
      have c2 := hg 2 _ rfl
      have c4 := hg 4 _ rfl
      clear hg
      obtain ⟨f1, f2, f3⟩ := hfm
      replace f1 : who.size ≤ 140737488355328 := f1
      replace f2 : tenant.size ≤ 140737488355328 := f2
      replace f3 : key.size ≤ 140737488355328 := f3
      have i1 : (k : Int) < (N : Int) := by omega
      have i2 : 0 ≤ (k : Int) ∧ (k : Int) < (N : Int) := by omega
      have b2 : IntKind.i64.wrap ((k : Int) + 1) = (k : Int) + 1 := IntWalk.i64_in _ (by omega)
      have b3 : IntKind.i64.wrap ((who.size : Int) + (tenant.size : Int)) = (who.size : Int) + (tenant.size : Int) := IntWalk.i64_in _ (by omega)
      have b4 : IntKind.i64.wrap ((who.size : Int) + (tenant.size : Int) + (key.size : Int)) = (who.size : Int) + (tenant.size : Int) + (key.size : Int) := IntWalk.i64_in _ (by omega)
      clear f1 f2 f3
      have hD : Below wr.heap.size wr wr.drew := (Below.refl _ _).drew
      go_wp2
      go_still (by kernel_rfl)
      change Exit.then _ _ Exit.normal _ wr.drew
      have hB2 := hB.trans (hD.mono hB.size)
      clear c1 c2 c4 hD
      generalize wr.drew = w2 at hB2 ⊢
      by_cases hs : (300 : Int) < (who.size : Int) + (tenant.size : Int) + (key.size : Int)
      · have hne : shortT l = false := by
          unfold shortT
          rw [Bool.and_eq_false_iff]
          left
          rw [← Bool.not_eq_true, List.all_eq_true]
          intro hall
          have := hall _ (List.mem_of_getElem? HX.out)
          simp [shortN] at this
          omega
        go_wp2
        go_ret
        exact ⟨by first | rfl | (rw [hne]; rfl), hB2⟩
      · go_wp2
        go_roundw
        case rel =>
          refine ⟨k + 1, by omega, by go_num, ?_, hB2⟩
          rw [List.take_add_one, List.all_append, HR.out, HX.out]
          simp [shortN]
          omega
        case measure => simp [intOf]; omega
    · obtain rfl : k = N := by omega
      have i1 : ¬ (k : Int) < (k : Int) := by omega
      have hs : shortT l = decide (k ≤ 60) := by
        have := HR.out
        rw [List.take_of_length_le (Nat.le_of_eq HN.out)] at this
        unfold shortT
        rw [this, HN.out]
        rfl
      go_wp2
      go_ret
      refine ⟨?_, hB⟩
      show Ending.returned (.bool (decide ((k : Int) ≤ 60))) = Ending.returned (.bool (decide (k ≤ 60)))
      congr 2
      rw [decide_eq_decide]
      omega

end Go.Proofs.YtglcingpolpkdaaDoor
