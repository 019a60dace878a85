/- DigestTexts: its arguments. -/
import Derived.Test.YtngklnijmhlikaaDoorRefParse
import Derived.SizedLaws
namespace Go.Proofs.YtngklnijmhlikaaDoor
open Go.RowKit

section
open Go.ChangeShapes Go.WideShapes Go.Deep
variable {H : Type} {enc : TypeId × Value → H} {w : World} {base b0 : Nat} {sp : Nat → Bool} {held : Bool} {r : Reach}

theorem bytes_of_one : Tryd.prog.bytesOf 5 = 1 := by kernel_rfl

theorem weights_all_mem {P : Program} {e : TypeId} : ∀ {l : List (DataW H)} {d : DataW H}, d ∈ l → ∀ n ∈ d.weights P e, n ∈ DataW.weightsAll P e l
  | x :: l, d, h, n, hn => by
    unfold DataW.weightsAll
    rcases List.mem_cons.1 h with rfl | h
    · exact List.mem_append.2 (.inl hn)
    · exact List.mem_append.2 (.inr (weights_all_mem h n hn))

set_option maxRecDepth 100000 in
theorem bytes_of_trod_sized {fuel : Nat} {v : Value} {x : DataW H × List MemPlace}
    (h : DataW.trod enc Tryd.prog w base sp held fuel 22 [v] = some x) : ∃ bs, SliceIs w v bs ∧ (bs = [] ∨ ∃ n ∈ x.1.weights Tryd.prog 22, bs.length ≤ n) := by
  rcases open_ints Tryd.underlying22 Tryd.underlying5 cells_u8 h with ⟨hcs, _⟩ | ⟨a, len', cap', zs, hcs, _, hl, hm, hz, hx, hcell, hwz⟩
  · cases hcs
    exact ⟨[], .inl ⟨rfl, .inl rfl⟩, .inl rfl⟩
  · cases hcs
    have hle : len' ≤ zs.length := by rw [hz]; split <;> omega
    by_cases h0 : len' = 0
    · subst h0
      exact ⟨[], .inl ⟨rfl, .inr ⟨a, cap', rfl⟩⟩, .inl rfl⟩
    · obtain ⟨b, off, rfl, hc⟩ := ints_at hcell (by omega)
      have hb := bytes_of_ints hc hwz len'
      have hlen : ((zs.take len').map (BitVec.ofInt 8)).length = len' := by simp; omega
      refine ⟨(zs.take len').map (BitVec.ofInt 8), .inr ⟨b, off, cap', by rw [hlen], block_lt (hc 0 (by omega)), hb⟩, .inr ?_⟩
      rw [hlen, hx]
      simp only [DataW.weights, Tryd.underlying22]
      refine ⟨_, List.mem_cons_self .., ?_⟩
      rw [bytes_of_one]
      simp [lits]
      omega

set_option maxRecDepth 100000 in
theorem lists_arg_sized {v : Value} {d : DataW H} {ps : List MemPlace} {R : Nat}
    (hv : Value.okWide Tryd.prog w r b0 43 v) (h : DataW.Trod enc Tryd.prog w base sp held 43 v d ps) (hw : ∀ n ∈ d.weights Tryd.prog 43, n ≤ R) :
    ∃ ls, ListsAt w v ls ∧ ls.length ≤ 9223372036854775807 ∧ ∀ bs ∈ ls, bs.length ≤ R := by
  obtain ⟨ao, len, cap, rfl⟩ := okWide_slice Tryd.underlying43 hv
  obtain ⟨fuel, h⟩ := h
  rcases open_slice1 Tryd.underlying43 (by kernel_rfl) h with ⟨hcs, _⟩ | ⟨a, len', cap', m, n, V, D, Pl, hcs, _, hl, hm, hmm, hd, hx⟩
  · simp [Value.cells] at hcs
    obtain ⟨rfl, rfl, rfl⟩ := hcs
    exact ⟨[], ⟨none, 0, rfl, fun h => absurd rfl h⟩, Nat.zero_le _, fun bs hb => by cases hb⟩
  · simp [Value.cells] at hcs
    obtain ⟨rfl, rfl, rfl⟩ := hcs
    have hle : len ≤ m := by rw [hmm]; split <;> omega
    have hd1 : d = .slice ((List.range len).map D) ((List.range (m - len)).map fun j => D (len + j)) := congrArg Prod.fst hd
    have each : ∀ i, i < m → ∃ bs, SliceIs w (V i) bs ∧ (bs = [] ∨ ∃ n ∈ (D i).weights Tryd.prog 22, bs.length ≤ n) := fun i hi => bytes_of_trod_sized (hx i hi).2
    obtain ⟨q, hq⟩ := choose_lt each
    refine ⟨(List.range len).map q, ⟨some a, cap, by simp, fun hne => ?_⟩, ?_, fun bs hbs => ?_⟩
    · have hpos : 0 < len := by
        rcases Nat.eq_zero_or_pos len with rfl | h
        · exact absurd rfl hne
        · exact h
      obtain ⟨b, off, spot⟩ := a
      have h00 := (hx 0 (by omega)).1
      have hspot : spot = none := by simpa [Addr.add] using World.cell?_spot h00
      subst hspot
      refine ⟨b, off, rfl, by simpa [Go.WideShapes.add_plain] using block_lt h00, fun i bs hi => ?_⟩
      have hil : i < len := by
        have := (List.getElem?_eq_some_iff.1 hi).1
        simpa using this
      simp [hil] at hi
      subst hi
      have c0 := (hx i (by omega)).1
      rw [Go.WideShapes.add_plain] at c0
      exact ⟨V i, c0, (hq i (by omega)).1⟩
    · simp only [maxLen] at hm
      simp
      omega
    · obtain ⟨i, hi, rfl⟩ := List.mem_map.1 hbs
      have hil := List.mem_range.1 hi
      rcases (hq i (by omega)).2 with h0 | ⟨n, hn, hle⟩
      · rw [h0]
        exact Nat.zero_le _
      · refine Nat.le_trans hle (hw n ?_)
        rw [hd1]
        simp only [DataW.weights, Tryd.underlying43]
        exact List.mem_cons_of_mem _ (List.mem_append.2 (.inl (weights_all_mem (List.mem_map.2 ⟨i, hi, rfl⟩) n hn)))

set_option maxRecDepth 100000 in
/-- A digest that came in. -/
theorem digest_arg {v : Value} {d : DataW H} {ps : List MemPlace} (hv : Value.okWide Tryd.prog w r b0 25 v) (h : DataW.Trod enc Tryd.prog w base sp held 25 v d ps) :
    ∃ db : List (BitVec 8), v = .agg (db.map vu8).toArray ∧ db.length = 32 := by
  have hu : Tryd.prog.underlying 25 = some (.array 32 5) := Tryd.underlying25
  have hv2 : ∃ cs : Array Value, v = .agg cs := by
    simp only [Value.okWide, hu] at hv
    obtain ⟨cs, h1, _⟩ := hv
    exact ⟨cs, h1⟩
  obtain ⟨cs, rfl⟩ := hv2
  obtain ⟨fuel, h⟩ := h
  obtain ⟨xs, m, _, _, hl, hxl, hx⟩ := DataW.trod_array hu h
  have hct : Tryd.prog.cellsOf 25 = 32 := by kernel_rfl
  rw [hct] at hl
  have hcl : cs.size = 32 := by simpa [Value.cells] using hl
  have each : ∀ i, i < 32 → ∃ b : BitVec 8, cs[i]? = some (vu8 b) := fun i hi => by
    have h1 := hx i hi
    rw [List.getElem?_eq_getElem (show i < xs.length by omega), cells_u8, Nat.mul_one] at h1
    have hlt : i < cs.size := by omega
    have he : ((Value.agg cs).cells.toList.drop i).take 1 = [cs[i]] := by
      simp only [Value.cells]
      rw [List.drop_eq_getElem_cons (by simpa using hlt)]
      simp
    rw [he] at h1
    obtain ⟨z, hz, _, hw⟩ := DataW.trod_int Tryd.underlying5 h1
    have hb := bounds_u8 hw
    refine ⟨BitVec.ofInt 8 z, ?_⟩
    rw [Array.getElem?_eq_getElem hlt]
    have e : cs[i] = .int .u8 z := by simpa using hz
    rw [e]
    exact congrArg some (lit_u8 z hb.1 (by omega))
  obtain ⟨q, hq⟩ := choose_lt each
  refine ⟨(List.range 32).map q, ?_, by simp⟩
  congr 1
  apply Array.ext
  · simp [hcl]
  · intro i h1 h2
    have := hq i (by omega)
    rw [Array.getElem?_eq_getElem h1] at this
    simpa using this

set_option maxRecDepth 100000 in
theorem string_arg {v : Value} (hv : Value.okWide Tryd.prog w r b0 9 v) : ∃ ys, v = .string (textOf ys) := by
  obtain ⟨s, rfl⟩ := okWide_string Tryd.underlying9 hv
  obtain ⟨ys, rfl⟩ := textOf_surj s
  exact ⟨ys, rfl⟩
end

end Go.Proofs.YtngklnijmhlikaaDoor
