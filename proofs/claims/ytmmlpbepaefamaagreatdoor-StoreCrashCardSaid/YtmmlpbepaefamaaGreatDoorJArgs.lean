/- Lists of bytes that a law gets. -/
import Derived.ChangeSlices
import Derived.MakeChecks
import Derived.SizedLaws
import Derived.Deep.Slices
import Derived.OpenShut
import Derived.Test.YtmmlpbepaefamaaGreatDoorJRead
import Derived.Test.YtmmlpbepaefamaaGreatDoorMemX6
namespace Go.Proofs.YtmmlpbepaefamaaGreatDoor
open Go.ChangeShapes Go.WideShapes Go.RowKit Go.MakeChecks

theorem block_lt {w : World} {a : Addr} {v : Value} (h : w.cell? a = some v) : a.block < w.heap.size := by
  rcases Nat.lt_or_ge a.block w.heap.size with hl | hl
  · exact hl
  · simp [World.cell?, Array.getElem?_eq_none hl] at h

theorem cells_u8 : Tryz.prog.cellsOf 5 = 1 := by kernel_rfl

/-- Integers of a byte's range as bytes. -/
theorem bytes_of_ints {w : World} {b o : Nat} {zs : List Int} (h : ∀ i, i < zs.length → w.cell? ⟨b, o + i, none⟩ = some (.int .u8 (zs.getD i 0))) (hw : ∀ n ∈ zs, (Lit.int .u8 n).wf = true) (k : Nat) :
    BytesAt w b o ((zs.take k).map (BitVec.ofInt 8)) := fun j x hx => by
  rw [List.getElem?_map] at hx
  cases hj : (zs.take k)[j]? with
  | none => simp [hj] at hx
  | some z =>
    simp [hj] at hx
    have hjk : j < (zs.take k).length := (List.getElem?_eq_some_iff.1 hj).1
    have hjz : j < zs.length := by simp at hjk; omega
    have hz : zs[j]? = some z := by
      rw [List.getElem?_take] at hj
      split at hj
      · exact hj
      · cases hj
    rw [h j hjz, List.getD_eq_getElem?_getD, hz, ← hx]
    have hb := bounds_u8 (hw z (List.mem_of_getElem? hz))
    exact congrArg some (lit_u8 z hb.1 (by omega))

section
variable {H : Type} {enc : TypeId × Value → H} {w : World} {base b0 : Nat} {sp : Nat → Bool} {held : Bool} {r : Reach}


set_option maxRecDepth 100000 in
theorem bytes_arg {v : Value} {d : DataW H} {ps : List MemPlace} (hv : Value.okWide Tryz.prog w r b0 30 v) (h : DataW.Trod enc Tryz.prog w base sp held 30 v d ps) : ∃ bs, SliceIs w v bs ∧ bs.length ≤ 9223372036854775807 := by
  obtain ⟨ao, len, cap, rfl⟩ := okWide_slice Tryz.underlying30 hv
  obtain ⟨fuel, h⟩ := h
  rcases open_ints Tryz.underlying30 Tryz.underlying5 cells_u8 h with ⟨hcs, _⟩ | ⟨a, len', cap', zs, hcs, _, hl, hm, hz, _, hcell, hwz⟩
  · simp [Value.cells] at hcs
    obtain ⟨rfl, rfl, rfl⟩ := hcs
    exact ⟨[], .inl ⟨rfl, .inl rfl⟩, Nat.zero_le _⟩
  · simp [Value.cells] at hcs
    obtain ⟨rfl, rfl, rfl⟩ := hcs
    have hle : len ≤ zs.length := by rw [hz]; split <;> omega
    by_cases h0 : len = 0
    · subst h0
      exact ⟨[], .inl ⟨rfl, .inr ⟨a, cap, rfl⟩⟩, Nat.zero_le _⟩
    · obtain ⟨b, off, rfl, hc⟩ := ints_at hcell (by omega)
      have hb := bytes_of_ints hc hwz len
      have hlen : ((zs.take len).map (BitVec.ofInt 8)).length = len := by simp; omega
      refine ⟨(zs.take len).map (BitVec.ofInt 8), .inr ⟨b, off, cap, by rw [hlen], ?_, hb⟩, by rw [hlen]; simp [maxLen] at hm; omega⟩
      exact block_lt (hc 0 (by omega))
end


/-- Lists of bytes that lie in a row. -/
def ListsAt (w : World) (sl : Value) (ls : List (List (BitVec 8))) : Prop :=
  ∃ ao c, sl = .slice ao ls.length c ∧ ls.length ≤ c ∧ (ls ≠ [] → ∃ b o, ao = some ⟨b, o, none⟩ ∧ b < w.heap.size ∧ ∀ i bs, ls[i]? = some bs → ∃ v, w.cell? ⟨b, o + i, none⟩ = some v ∧ SliceIs w v bs)
theorem ListsAt.low {w w' : World} {sl : Value} {ls : List (List (BitVec 8))} (h : ListsAt w sl ls) (hb : Below w.heap.size w w') : ListsAt w' sl ls := by
  obtain ⟨ao, c, rfl, hlc, hl⟩ := h
  refine ⟨ao, c, rfl, hlc, fun hne => ?_⟩
  obtain ⟨b, o, rfl, hlt, hc⟩ := hl hne
  refine ⟨b, o, rfl, Nat.lt_of_lt_of_le hlt hb.size, fun i bs hi => ?_⟩
  obtain ⟨v, hv, hs⟩ := hc i bs hi
  exact ⟨v, (hb.cell (p := ⟨b, o + i, none⟩) hlt).trans hv, hs.low hb⟩

section
open Go.ChangeShapes Go.WideShapes Go.Deep
variable {H : Type} {enc : TypeId × Value → H} {w : World} {base b0 : Nat} {sp : Nat → Bool} {held : Bool} {r : Reach}

theorem bytes_of_one : Tryz.prog.bytesOf 5 = 1 := by kernel_rfl

theorem weights_all_mem {P : Program} {e : TypeId} : ∀ {l : List (DataW H)} {d : DataW H}, d ∈ l → ∀ n ∈ d.weights P e, n ∈ DataW.weightsAll P e l
  | x :: l, d, h, n, hn => by
    unfold DataW.weightsAll
    rcases List.mem_cons.1 h with rfl | h
    · exact List.mem_append.2 (.inl hn)
    · exact List.mem_append.2 (.inr (weights_all_mem h n hn))

set_option maxRecDepth 100000 in
theorem bytes_of_trod_sized {fuel : Nat} {v : Value} {x : DataW H × List MemPlace}
    (h : DataW.trod enc Tryz.prog w base sp held fuel 30 [v] = some x) : ∃ bs, SliceIs w v bs ∧ (bs = [] ∨ ∃ n ∈ x.1.weights Tryz.prog 30, bs.length ≤ n) := by
  rcases open_ints Tryz.underlying30 Tryz.underlying5 cells_u8 h with ⟨hcs, _⟩ | ⟨a, len', cap', zs, hcs, _, hl, hm, hz, hx, hcell, hwz⟩
  · cases hcs
    exact ⟨[], .inl ⟨rfl, .inl rfl⟩, .inl rfl⟩
  · cases hcs
    have hle : len' ≤ zs.length := by rw [hz]; split <;> omega
    by_cases h0 : len' = 0
    · subst h0
      exact ⟨[], .inl ⟨rfl, .inr ⟨a, cap', rfl⟩⟩, .inl rfl⟩
    · obtain ⟨b, off, rfl, hc⟩ := ints_at hcell (by omega)
      have hb := bytes_of_ints hc hwz len'
      have hlen : ((zs.take len').map (BitVec.ofInt 8)).length = len' := by simp; omega
      refine ⟨(zs.take len').map (BitVec.ofInt 8), .inr ⟨b, off, cap', by rw [hlen], block_lt (hc 0 (by omega)), hb⟩, .inr ?_⟩
      rw [hlen, hx]
      simp only [DataW.weights, Tryz.underlying30]
      refine ⟨_, List.mem_cons_self .., ?_⟩
      rw [bytes_of_one]
      simp [lits]
      omega

set_option maxRecDepth 100000 in
theorem lists_arg_sized {v : Value} {d : DataW H} {ps : List MemPlace} {R : Nat}
    (hv : Value.okWide Tryz.prog w r b0 69 v) (h : DataW.Trod enc Tryz.prog w base sp held 69 v d ps) (hw : ∀ n ∈ d.weights Tryz.prog 69, n ≤ R) :
    ∃ ls, ListsAt w v ls ∧ ls.length ≤ 9223372036854775807 ∧ ∀ bs ∈ ls, bs.length ≤ R := by
  obtain ⟨ao, len, cap, rfl⟩ := okWide_slice Tryz.underlying69 hv
  obtain ⟨fuel, h⟩ := h
  rcases open_slice1 Tryz.underlying69 (by kernel_rfl) h with ⟨hcs, _⟩ | ⟨a, len', cap', m, n, V, D, Pl, hcs, _, hl, hm, hmm, hd, hx⟩
  · simp [Value.cells] at hcs
    obtain ⟨rfl, rfl, rfl⟩ := hcs
    exact ⟨[], ⟨none, 0, rfl, Nat.le_refl _, fun h => absurd rfl h⟩, Nat.zero_le _, fun bs hb => by cases hb⟩
  · simp [Value.cells] at hcs
    obtain ⟨rfl, rfl, rfl⟩ := hcs
    have hle : len ≤ m := by rw [hmm]; split <;> omega
    have hd1 : d = .slice ((List.range len).map D) ((List.range (m - len)).map fun j => D (len + j)) := congrArg Prod.fst hd
    have each : ∀ i, i < m → ∃ bs, SliceIs w (V i) bs ∧ (bs = [] ∨ ∃ n ∈ (D i).weights Tryz.prog 30, bs.length ≤ n) := fun i hi => bytes_of_trod_sized (hx i hi).2
    obtain ⟨q, hq⟩ := choose_lt each
    refine ⟨(List.range len).map q, ⟨some a, cap, by simp, by simpa using hl, fun hne => ?_⟩, ?_, fun bs hbs => ?_⟩
    · have hpos : 0 < len := by
        rcases Nat.eq_zero_or_pos len with rfl | h
        · exact absurd rfl hne
        · exact h
      obtain ⟨b, off, spot⟩ := a
      have h00 := (hx 0 (by omega)).1
      have hspot : spot = none := by simpa [Addr.add] using World.cell?_spot h00
      subst hspot
      refine ⟨b, off, rfl, by simpa [Go.WideShapes.add_plain] using block_lt h00, fun i bs hi => ?_⟩
      have hil : i < len := by
        have := (List.getElem?_eq_some_iff.1 hi).1
        simpa using this
      simp [hil] at hi
      subst hi
      have c0 := (hx i (by omega)).1
      rw [Go.WideShapes.add_plain] at c0
      exact ⟨V i, c0, (hq i (by omega)).1⟩
    · simp only [maxLen] at hm
      simp
      omega
    · obtain ⟨i, hi, rfl⟩ := List.mem_map.1 hbs
      have hil := List.mem_range.1 hi
      rcases (hq i (by omega)).2 with h0 | ⟨n, hn, hle⟩
      · rw [h0]
        exact Nat.zero_le _
      · refine Nat.le_trans hle (hw n ?_)
        rw [hd1]
        simp only [DataW.weights, Tryz.underlying69]
        exact List.mem_cons_of_mem _ (List.mem_append.2 (.inl (weights_all_mem (List.mem_map.2 ⟨i, hi, rfl⟩) n hn)))

end
end Go.Proofs.YtmmlpbepaefamaaGreatDoor
