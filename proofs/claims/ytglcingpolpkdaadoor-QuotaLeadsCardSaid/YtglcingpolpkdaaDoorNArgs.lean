/- Notes and heads that are handed in. -/
import Derived.Test.YtglcingpolpkdaaDoorNs
import Derived.Test.YtglcingpolpkdaaDoorArgs
import Derived.Deep.Slices
import Derived.SizedLaws
namespace Go.Proofs.YtglcingpolpkdaaDoor
open Go.RowKit

theorem cell_ltN {w : World} {a : Addr} {v : Value} (h : w.cell? a = some v) : a.block < w.heap.size := by
  by_cases hb : a.block < w.heap.size
  · exact hb
  · simp [World.cell?, Array.getElem?_eq_none (Nat.le_of_not_lt hb)] at h

section
open Go.ChangeShapes Go.WideShapes Go.Deep Go.MakeChecks
variable {H : Type} {enc : TypeId × Value → H} {w : World} {base b0 : Nat} {sp : Nat → Bool} {held : Bool} {r : Reach}

theorem weights_all_mem {P : Program} {e : TypeId} : ∀ {l : List (DataW H)} {d : DataW H}, d ∈ l → ∀ n ∈ d.weights P e, n ∈ DataW.weightsAll P e l
  | x :: l, d, h, n, hn => by
    unfold DataW.weightsAll
    rcases List.mem_cons.1 h with rfl | h
    · exact List.mem_append.2 (.inl hn)
    · exact List.mem_append.2 (.inr (weights_all_mem h n hn))
set_option maxRecDepth 100000 in
/-- A digest that came in. -/
theorem digest_arg {v : Value} {d : DataW H} {ps : List MemPlace} (hv : Value.okWide Tryd.prog w r b0 24 v) (h : DataW.Trod enc Tryd.prog w base sp held 24 v d ps) :
    ∃ db : List (BitVec 8), v = .agg (db.map vu8).toArray ∧ db.length = 32 := by
  have hu : Tryd.prog.underlying 24 = some (.array 32 5) := Tryd.underlying24
  have hv2 : ∃ cs : Array Value, v = .agg cs := by
    simp only [Value.okWide, hu] at hv
    obtain ⟨cs, h1, _⟩ := hv
    exact ⟨cs, h1⟩
  obtain ⟨cs, rfl⟩ := hv2
  obtain ⟨fuel, h⟩ := h
  obtain ⟨xs, m, _, _, hl, hxl, hx⟩ := DataW.trod_array hu h
  have hct : Tryd.prog.cellsOf 24 = 32 := by kernel_rfl
  rw [hct] at hl
  have hcl : cs.size = 32 := by simpa [Value.cells] using hl
  have each : ∀ i, i < 32 → ∃ b : BitVec 8, cs[i]? = some (vu8 b) := fun i hi => by
    have h1 := hx i hi
    rw [List.getElem?_eq_getElem (show i < xs.length by omega), cells_u8, Nat.mul_one] at h1
    have hlt : i < cs.size := by omega
    have he : ((Value.agg cs).cells.toList.drop i).take 1 = [cs[i]] := by
      simp only [Value.cells]
      rw [List.drop_eq_getElem_cons (by simpa using hlt)]
      simp
    rw [he] at h1
    obtain ⟨z, hz, _, hw⟩ := DataW.trod_int Tryd.underlying5 h1
    have hb := bounds_u8 hw
    refine ⟨BitVec.ofInt 8 z, ?_⟩
    rw [Array.getElem?_eq_getElem hlt]
    have e : cs[i] = .int .u8 z := by simpa using hz
    rw [e]
    exact congrArg some (lit_u8 z hb.1 (by omega))
  obtain ⟨q, hq⟩ := choose_lt each
  refine ⟨(List.range 32).map q, ?_, by simp⟩
  congr 1
  apply Array.ext
  · simp [hcl]
  · intro i h1 h2
    have := hq i (by omega)
    rw [Array.getElem?_eq_getElem h1] at this
    simpa using this

/-- A text in memory. -/
theorem str_of_trod {fuel : Nat} {v : Value} {x : DataW H × List MemPlace} (h : DataW.trod enc Tryd.prog w base sp held fuel 9 [v] = some x) : ∃ s : ByteArray, v = .string s ∧ s.size ∈ x.1.weights Tryd.prog 9 := by
  obtain ⟨s, h1, h2, _⟩ := DataW.trod_string Tryd.underlying9 h
  injection h1 with h1
  rw [h2]
  refine ⟨s, h1, ?_⟩
  simp [DataW.weights]
theorem cells_note : Tryd.prog.cellsOf 36 = 6 := by kernel_rfl

set_option maxRecDepth 100000 in
theorem note_of_trod {fuel : Nat} {cs : List Value} {x : DataW H × List MemPlace} (h : DataW.trod enc Tryd.prog w base sp held fuel 36 cs = some x) (hw : ∀ n ∈ x.1.weights Tryd.prog 36, n ≤ 140737488355328) :
    ∃ a : Nt, cs = a.cells ∧ FitN a := by
  obtain ⟨xs, n, _, rfl, hl, hxl, hf⟩ := DataW.trod_struct Tryd.underlying36 h
  rw [cells_note] at hl
  match cs, hl, xs, hxl with
  | [c0, c1, c2, c3, c4, c5], _, [y0, y1, y2, y3, y4, y5], _ =>
    have g0 : DataW.trod enc Tryd.prog w base sp held n 3 (List.take (Tryd.prog.cellsOf 3) (List.drop 0 [c0, c1, c2, c3, c4, c5])) = some y0 := hf 0 _ rfl
    rw [show Tryd.prog.cellsOf 3 = 1 by kernel_rfl] at g0
    replace g0 : DataW.trod enc Tryd.prog w base sp held n 3 [c0] = some y0 := g0
    have g1 : DataW.trod enc Tryd.prog w base sp held n 9 (List.take (Tryd.prog.cellsOf 9) (List.drop 1 [c0, c1, c2, c3, c4, c5])) = some y1 := hf 1 _ rfl
    rw [show Tryd.prog.cellsOf 9 = 1 by kernel_rfl] at g1
    replace g1 : DataW.trod enc Tryd.prog w base sp held n 9 [c1] = some y1 := g1
    have g2 : DataW.trod enc Tryd.prog w base sp held n 9 (List.take (Tryd.prog.cellsOf 9) (List.drop 2 [c0, c1, c2, c3, c4, c5])) = some y2 := hf 2 _ rfl
    rw [show Tryd.prog.cellsOf 9 = 1 by kernel_rfl] at g2
    replace g2 : DataW.trod enc Tryd.prog w base sp held n 9 [c2] = some y2 := g2
    have g3 : DataW.trod enc Tryd.prog w base sp held n 34 (List.take (Tryd.prog.cellsOf 34) (List.drop 3 [c0, c1, c2, c3, c4, c5])) = some y3 := hf 3 _ rfl
    rw [show Tryd.prog.cellsOf 34 = 1 by kernel_rfl] at g3
    replace g3 : DataW.trod enc Tryd.prog w base sp held n 34 [c3] = some y3 := g3
    have g4 : DataW.trod enc Tryd.prog w base sp held n 9 (List.take (Tryd.prog.cellsOf 9) (List.drop 4 [c0, c1, c2, c3, c4, c5])) = some y4 := hf 4 _ rfl
    rw [show Tryd.prog.cellsOf 9 = 1 by kernel_rfl] at g4
    replace g4 : DataW.trod enc Tryd.prog w base sp held n 9 [c4] = some y4 := g4
    have g5 : DataW.trod enc Tryd.prog w base sp held n 31 (List.take (Tryd.prog.cellsOf 31) (List.drop 5 [c0, c1, c2, c3, c4, c5])) = some y5 := hf 5 _ rfl
    rw [show Tryd.prog.cellsOf 31 = 1 by kernel_rfl] at g5
    replace g5 : DataW.trod enc Tryd.prog w base sp held n 31 [c5] = some y5 := g5
    obtain ⟨n0, h0, _, _⟩ := DataW.trod_int Tryd.underlying3 g0
    obtain ⟨s1, rfl, w1⟩ := str_of_trod g1
    obtain ⟨s2, rfl, w2⟩ := str_of_trod g2
    obtain ⟨n3, h3, _, _⟩ := DataW.trod_int Tryd.underlying34 g3
    obtain ⟨s4, rfl, w4⟩ := str_of_trod g4
    obtain ⟨n5, h5, _, _⟩ := DataW.trod_int Tryd.underlying31 g5
    injection h0 with h0
    injection h3 with h3
    injection h5 with h5
    subst h0 h3 h5
    have hs : ∀ (j : Nat) (t : TypeId) (d : DataW H) (m : Nat), ([3, 9, 9, 34, 9, 31] : List TypeId)[j]? = some t → ([y0, y1, y2, y3, y4, y5].map (·.1))[j]? = some d → m ∈ d.weights Tryd.prog t → m ≤ 140737488355328 := fun j t d m ht hd hm => hw m (by
      simp only [DataW.weights, Tryd.underlying36]
      exact DataW.weights_mem_each (j := j) ht hd m hm)
    exact ⟨⟨n0, s1, s2, n3, s4, n5⟩, rfl, hs 1 _ _ _ rfl rfl w1, hs 2 _ _ _ rfl rfl w2, hs 4 _ _ _ rfl rfl w4⟩

set_option maxRecDepth 100000 in
theorem notes_arg {v : Value} {d : DataW H} {ps : List MemPlace} (hv : Value.okWide Tryd.prog w r b0 22 v) (h : DataW.Trod enc Tryd.prog w base sp held 22 v d ps) (hw : ∀ n ∈ d.weights Tryd.prog 22, n ≤ 140737488355328) :
    ∃ l, NotesAt w v l ∧ l.length ≤ 9223372036854775806 ∧ ∀ a ∈ l, FitN a := by
  obtain ⟨ao, len, cap, rfl⟩ := okWide_slice Tryd.underlying22 hv
  obtain ⟨fuel, h⟩ := h
  rcases open_slice Tryd.underlying22 h with ⟨hcs, _⟩ | ⟨a, len', cap', m, n, D, Pl, hcs, _, hl, hm, hmm, hd, hx⟩
  · simp [Value.cells] at hcs
    obtain ⟨rfl, rfl, rfl⟩ := hcs
    exact ⟨[], .inl ⟨_, _, rfl, rfl⟩, Nat.zero_le _, fun a ha => by cases ha⟩
  · simp [Value.cells] at hcs
    obtain ⟨rfl, rfl, rfl⟩ := hcs
    have hle : len ≤ m := by rw [hmm]; split <;> omega
    have hd1 : d = .slice ((List.range len).map D) ((List.range (m - len)).map fun j => D (len + j)) := congrArg Prod.fst hd
    have each : ∀ i, i < len → ∃ q : Nt, (∀ j u, q.cells[j]? = some u → w.cell? ((a.add (i * 6)).add j) = some u) ∧ FitN q := fun i hi => by
      obtain ⟨cs', h1, h2⟩ := hx i (by omega)
      rw [cells_note] at h1
      obtain ⟨_, hlen, hcell⟩ := World.cells?_some h1
      obtain ⟨q, rfl, hq⟩ := note_of_trod h2 fun n hn => hw n (by
        rw [hd1]
        simp only [DataW.weights, Tryd.underlying22]
        exact List.mem_cons_of_mem _ (List.mem_append.2 (.inl (weights_all_mem (List.mem_map.2 ⟨i, List.mem_range.2 hi, rfl⟩) n hn))))
      refine ⟨q, fun j u hj => ?_, hq⟩
      have hj6 : j < 6 := by
        have := (List.getElem?_eq_some_iff.1 hj).1
        rwa [Nt.cells_length] at this
      rw [hcell j hj6]
      exact hj
    obtain ⟨q, hq⟩ := choose_lt each
    refine ⟨(List.range len).map q, ?_, ?_, fun x hx => ?_⟩
    · by_cases h0 : len = 0
      · subst h0
        exact .inl ⟨_, _, rfl, rfl⟩
      · obtain ⟨b, off, spot⟩ := a
        have h00 := (hq 0 (by omega)).1 0 _ rfl
        have hspot : spot = Option.none := by simpa [Addr.add] using World.cell?_spot h00
        subst hspot
        refine .inr ⟨b, off, cap, by simp, by simpa [Go.WideShapes.add_plain] using cell_ltN h00, fun i x hx j u hj => ?_⟩
        have hil : i < len := by
          have := (List.getElem?_eq_some_iff.1 hx).1
          simpa using this
        simp [hil] at hx
        subst hx
        have := (hq i hil).1 j u hj
        rwa [Go.WideShapes.add_plain, Go.WideShapes.add_plain] at this
    · have h72 : (((List.range len).map D).length + ((List.range (m - len)).map fun j => D (len + j)).length) * Tryd.prog.bytesOf 36 ≤ 140737488355328 := hw _ (by
        rw [hd1]
        simp only [DataW.weights, Tryd.underlying22]
        exact List.mem_cons_self ..)
      rw [show Tryd.prog.bytesOf 36 = 72 by kernel_rfl] at h72
      simp at h72 ⊢
      omega
    · obtain ⟨i, hi, rfl⟩ := List.mem_map.1 hx
      exact (hq i (List.mem_range.1 hi)).2
theorem trodAll_five {t t' t'' t3 t4 : TypeId} {args : Array Value} {ds : List (DataW H)} {ps : List MemPlace} {P : Program} {spare : Nat → Bool} (h : DataW.TrodAll enc P w base spare held [t, t', t'', t3, t4] args.toList ds ps) :
    ∃ v v' v'' v3 v4 d d' d'' d3 d4 p p' p'' p3 p4, args = #[v, v', v'', v3, v4] ∧ ds = [d, d', d'', d3, d4] ∧ DataW.Trod enc P w base spare held t v d p ∧ DataW.Trod enc P w base spare held t' v' d' p' ∧ DataW.Trod enc P w base spare held t'' v'' d'' p'' ∧ DataW.Trod enc P w base spare held t3 v3 d3 p3 ∧ DataW.Trod enc P w base spare held t4 v4 d4 p4 := by
  obtain ⟨v, vs, d, ds', p, q, hargs, rfl, rfl, hd, hrest⟩ := trodAll_cons h
  obtain ⟨v', vs', d', ds'', p', q', rfl, rfl, rfl, hd', hrest'⟩ := trodAll_cons hrest
  obtain ⟨v'', vs'', d'', dsq, p'', q'', rfl, rfl, rfl, hd'', hrest''⟩ := trodAll_cons hrest'
  obtain ⟨v3, vs3, d3, ds3, p3, q3, rfl, rfl, rfl, hd3, hrest3⟩ := trodAll_cons hrest''
  obtain ⟨v4, vs4, d4, ds4, p4, q4, rfl, rfl, rfl, hd4, hrest4⟩ := trodAll_cons hrest3
  obtain ⟨rfl, rfl, rfl⟩ := trodAll_nil hrest4
  exact ⟨v, v', v'', v3, v4, d, d', d'', d3, d4, p, p', p'', p3, p4, by cases args; simp_all, rfl, hd, hd', hd'', hd3, hd4⟩
end

end Go.Proofs.YtglcingpolpkdaaDoor
