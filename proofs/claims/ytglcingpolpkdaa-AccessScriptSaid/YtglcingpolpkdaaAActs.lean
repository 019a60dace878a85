/- Calls that are handed in, and calls in rows of the law's own. -/
import Derived.Deep.Slices
import Derived.ChangeSlices
import Derived.SizedLaws
import Derived.Deep.MidRow
import Derived.Test.YtglcingpolpkdaaAPerm
namespace Go.Proofs.Ytglcingpolpkdaa
open Go.RowKit

/-- No text of a call is longer than memory. -/
structure Fits (a : Ac) : Prop where
  tenant : a.tenant.size ≤ 140737488355328
  role : a.role.size ≤ 140737488355328
  who : a.who.size ≤ 140737488355328
  rwho : a.r.who.size ≤ 140737488355328
  rkey : a.r.key.size ≤ 140737488355328
  key : a.key.size ≤ 140737488355328

instance : Inhabited Ac := ⟨⟨0, ⟨#[]⟩, ⟨#[]⟩, ⟨#[]⟩, ⟨⟨#[]⟩, 0, ⟨#[]⟩, false⟩, 0, ⟨#[]⟩⟩⟩

/-- Calls lie in a slice. -/
def ActsAt (w : World) (v : Value) (l : List Ac) : Prop :=
  (∃ a c, v = .slice a 0 c ∧ l = []) ∨ ∃ b off c, v = .slice (some ⟨b, off, none⟩) l.length c ∧ b < w.heap.size ∧ ∀ i a, l[i]? = some a → w.rangeAt b (off + i * 10) a.cells
theorem ActsAt.low {w w' : World} {v : Value} {l : List Ac} (h : ActsAt w v l) (hb : Below w.heap.size w w') : ActsAt w' v l := by
  rcases h with h | ⟨b, off, c, rfl, hl, hc⟩
  · exact .inl h
  · exact .inr ⟨b, off, c, rfl, Nat.lt_of_lt_of_le hl hb.size, fun i a ha j u hj => (hb.cell (p := ⟨b, off + i * 10 + j, none⟩) hl).trans (hc i a ha j u hj)⟩
theorem ActsAt.len {w : World} {v : Value} {l : List Ac} (h : ActsAt w v l) : ∃ a c, v = .slice a l.length c := by
  rcases h with ⟨a, c, rfl, rfl⟩ | ⟨b, off, c, rfl, _, _⟩
  · exact ⟨a, c, rfl⟩
  · exact ⟨_, c, rfl⟩
theorem ActsAt.at {w : World} {p : Option Addr} {n c i : Nat} {l : List Ac} {a : Ac} (h : ActsAt w (.slice p n c) l) (ha : l[i]? = some a) : ∃ b off, p = some ⟨b, off, none⟩ ∧ b < w.heap.size ∧ w.rangeAt b (off + i * 10) a.cells := by
  rcases h with ⟨_, _, _, rfl⟩ | ⟨b, off, c', he, hl, hc⟩
  · simp at ha
  · injection he with he
    exact ⟨b, off, he, hl, hc i a ha⟩

theorem size_ac : (Try.prog.info? 38).map (·.size) = some 10 := by kernel_rfl
theorem cells_ac (a : Ac) : a.cells.length = 10 := rfl
theorem cells_one (a : Ac) : ∀ u ∈ a.cells, u.oneCell' = true := by
  intro u hu
  simp [Ac.cells] at hu
  rcases hu with rfl | rfl | rfl | rfl | rfl | rfl | rfl | rfl | rfl | rfl <;> rfl

section
open Go.ChangeShapes Go.WideShapes Go.Deep
variable {H : Type} {enc : TypeId × Value → H} {w : World} {base b0 : Nat} {sp : Nat → Bool} {held : Bool} {r : Reach}

theorem cells_t0 : Try.prog.cellsOf 5 = 1 := by kernel_rfl
theorem cells_ts : Try.prog.cellsOf 9 = 1 := by kernel_rfl
theorem cells_tw : Try.prog.cellsOf 27 = 1 := by kernel_rfl
theorem cells_tr : Try.prog.cellsOf 29 = 4 := by kernel_rfl
theorem cells_ta : Try.prog.cellsOf 38 = 10 := by kernel_rfl
theorem cells_tb : Try.prog.cellsOf 4 = 1 := by kernel_rfl

theorem weights_each_mem {P : Program} : ∀ {ts : List TypeId} {ds : List (DataW H)} {j : Nat} {t : TypeId} {d : DataW H}, ts[j]? = some t → ds[j]? = some d → ∀ n ∈ d.weights P t, n ∈ DataW.weightsEach P ts ds := DataW.weights_mem_each
theorem weights_all_mem {P : Program} {e : TypeId} : ∀ {l : List (DataW H)} {d : DataW H}, d ∈ l → ∀ n ∈ d.weights P e, n ∈ DataW.weightsAll P e l
  | x :: l, d, h, n, hn => by
    unfold DataW.weightsAll
    rcases List.mem_cons.1 h with rfl | h
    · exact List.mem_append.2 (.inl hn)
    · exact List.mem_append.2 (.inr (weights_all_mem h n hn))

/-- A text in memory. -/
theorem str_of_trod {fuel : Nat} {v : Value} {x : DataW H × List MemPlace} (h : DataW.trod enc Try.prog w base sp held fuel 9 [v] = some x) : ∃ s : ByteArray, v = .string s ∧ s.size ∈ x.1.weights Try.prog 9 := by
  obtain ⟨s, h1, h2, _⟩ := DataW.trod_string Try.underlying9 h
  injection h1 with h1
  rw [h2]
  refine ⟨s, h1, ?_⟩
  simp [DataW.weights]

set_option maxRecDepth 100000 in
theorem rule_of_trod {fuel : Nat} {cs : List Value} {x : DataW H × List MemPlace} (h : DataW.trod enc Try.prog w base sp held fuel 29 cs = some x) :
    ∃ r : Rl, cs = r.cells ∧ r.who.size ∈ x.1.weights Try.prog 29 ∧ r.key.size ∈ x.1.weights Try.prog 29 := by
  obtain ⟨xs, n, _, rfl, hl, hxl, hf⟩ := DataW.trod_struct Try.underlying29 h
  rw [cells_tr] at hl
  match cs, hl, xs, hxl with
  | [c0, c1, c2, c3], _, [y0, y1, y2, y3], _ =>
    have g0 : DataW.trod enc Try.prog w base sp held n 9 (List.take (Try.prog.cellsOf 9) (List.drop 0 [c0, c1, c2, c3])) = some y0 := hf 0 _ rfl
    rw [cells_ts] at g0
    replace g0 : DataW.trod enc Try.prog w base sp held n 9 [c0] = some y0 := g0
    have g1 : DataW.trod enc Try.prog w base sp held n 27 (List.take (Try.prog.cellsOf 27) (List.drop 1 [c0, c1, c2, c3])) = some y1 := hf 1 _ rfl
    rw [cells_tw] at g1
    replace g1 : DataW.trod enc Try.prog w base sp held n 27 [c1] = some y1 := g1
    have g2 : DataW.trod enc Try.prog w base sp held n 9 (List.take (Try.prog.cellsOf 9) (List.drop 2 [c0, c1, c2, c3])) = some y2 := hf 2 _ rfl
    rw [cells_ts] at g2
    replace g2 : DataW.trod enc Try.prog w base sp held n 9 [c2] = some y2 := g2
    have g3 : DataW.trod enc Try.prog w base sp held n 4 (List.take (Try.prog.cellsOf 4) (List.drop 3 [c0, c1, c2, c3])) = some y3 := hf 3 _ rfl
    rw [cells_tb] at g3
    replace g3 : DataW.trod enc Try.prog w base sp held n 4 [c3] = some y3 := g3
    obtain ⟨s0, rfl, w0⟩ := str_of_trod g0
    obtain ⟨n1, h1, _, _⟩ := DataW.trod_int Try.underlying27 g1
    obtain ⟨s2, rfl, w2⟩ := str_of_trod g2
    obtain ⟨b3, h3, _⟩ := DataW.trod_bool Try.underlying4 g3
    injection h1 with h1
    injection h3 with h3
    subst h1 h3
    refine ⟨⟨s0, n1, s2, b3⟩, rfl, ?_, ?_⟩
    · simp only [DataW.weights, Try.underlying29]
      exact weights_each_mem (j := 0) rfl rfl _ w0
    · simp only [DataW.weights, Try.underlying29]
      exact weights_each_mem (j := 2) rfl rfl _ w2

set_option maxRecDepth 100000 in
theorem act_of_trod {fuel : Nat} {cs : List Value} {x : DataW H × List MemPlace} (h : DataW.trod enc Try.prog w base sp held fuel 38 cs = some x) (hw : ∀ n ∈ x.1.weights Try.prog 38, n ≤ 140737488355328) :
    ∃ a : Ac, cs = a.cells ∧ Fits a := by
  obtain ⟨xs, n, _, rfl, hl, hxl, hf⟩ := DataW.trod_struct Try.underlying38 h
  rw [cells_ta] at hl
  match cs, hl, xs, hxl with
  | [c0, c1, c2, c3, c4, c5, c6, c7, c8, c9], _, [y0, y1, y2, y3, y4, y5, y6], _ =>
    have g0 : DataW.trod enc Try.prog w base sp held n 5 (List.take (Try.prog.cellsOf 5) (List.drop 0 [c0, c1, c2, c3, c4, c5, c6, c7, c8, c9])) = some y0 := hf 0 _ rfl
    rw [cells_t0] at g0
    replace g0 : DataW.trod enc Try.prog w base sp held n 5 [c0] = some y0 := g0
    have g1 : DataW.trod enc Try.prog w base sp held n 9 (List.take (Try.prog.cellsOf 9) (List.drop 1 [c0, c1, c2, c3, c4, c5, c6, c7, c8, c9])) = some y1 := hf 1 _ rfl
    rw [cells_ts] at g1
    replace g1 : DataW.trod enc Try.prog w base sp held n 9 [c1] = some y1 := g1
    have g2 : DataW.trod enc Try.prog w base sp held n 9 (List.take (Try.prog.cellsOf 9) (List.drop 2 [c0, c1, c2, c3, c4, c5, c6, c7, c8, c9])) = some y2 := hf 2 _ rfl
    rw [cells_ts] at g2
    replace g2 : DataW.trod enc Try.prog w base sp held n 9 [c2] = some y2 := g2
    have g3 : DataW.trod enc Try.prog w base sp held n 9 (List.take (Try.prog.cellsOf 9) (List.drop 3 [c0, c1, c2, c3, c4, c5, c6, c7, c8, c9])) = some y3 := hf 3 _ rfl
    rw [cells_ts] at g3
    replace g3 : DataW.trod enc Try.prog w base sp held n 9 [c3] = some y3 := g3
    have g4 : DataW.trod enc Try.prog w base sp held n 29 (List.take (Try.prog.cellsOf 29) (List.drop 4 [c0, c1, c2, c3, c4, c5, c6, c7, c8, c9])) = some y4 := hf 4 _ rfl
    rw [cells_tr] at g4
    replace g4 : DataW.trod enc Try.prog w base sp held n 29 [c4, c5, c6, c7] = some y4 := g4
    have g5 : DataW.trod enc Try.prog w base sp held n 27 (List.take (Try.prog.cellsOf 27) (List.drop 8 [c0, c1, c2, c3, c4, c5, c6, c7, c8, c9])) = some y5 := hf 5 _ rfl
    rw [cells_tw] at g5
    replace g5 : DataW.trod enc Try.prog w base sp held n 27 [c8] = some y5 := g5
    have g6 : DataW.trod enc Try.prog w base sp held n 9 (List.take (Try.prog.cellsOf 9) (List.drop 9 [c0, c1, c2, c3, c4, c5, c6, c7, c8, c9])) = some y6 := hf 6 _ rfl
    rw [cells_ts] at g6
    replace g6 : DataW.trod enc Try.prog w base sp held n 9 [c9] = some y6 := g6
    obtain ⟨n0, h0, _, _⟩ := DataW.trod_int Try.underlying5 g0
    obtain ⟨s1, rfl, w1⟩ := str_of_trod g1
    obtain ⟨s2, rfl, w2⟩ := str_of_trod g2
    obtain ⟨s3, rfl, w3⟩ := str_of_trod g3
    obtain ⟨⟨s4, n4, s5, b5⟩, h4, w4, w5⟩ := rule_of_trod g4
    obtain ⟨n5, h5, _, _⟩ := DataW.trod_int Try.underlying27 g5
    obtain ⟨s6, rfl, w6⟩ := str_of_trod g6
    injection h0 with h0
    injection h5 with h5
    simp only [Rl.cells, List.cons.injEq, and_true] at h4
    obtain ⟨rfl, rfl, rfl, rfl⟩ := h4
    subst h0 h5
    have hs : ∀ (j : Nat) (t : TypeId) (d : DataW H) (m : Nat), ([5, 9, 9, 9, 29, 27, 9] : List TypeId)[j]? = some t → ([y0, y1, y2, y3, y4, y5, y6].map (·.1))[j]? = some d → m ∈ d.weights Try.prog t → m ≤ 140737488355328 := fun j t d m ht hd hm => hw m (by
      simp only [DataW.weights, Try.underlying38]
      exact weights_each_mem (j := j) ht hd m hm)
    exact ⟨⟨n0, s1, s2, s3, ⟨s4, n4, s5, b5⟩, n5, s6⟩, rfl, hs 1 _ _ _ rfl rfl w1, hs 2 _ _ _ rfl rfl w2, hs 3 _ _ _ rfl rfl w3, hs 4 _ _ _ rfl rfl w4, hs 4 _ _ _ rfl rfl w5, hs 6 _ _ _ rfl rfl w6⟩

theorem block_lt {w : World} {a : Addr} {v : Value} (h : w.cell? a = some v) : a.block < w.heap.size := by
  rcases Nat.lt_or_ge a.block w.heap.size with hl | hl
  · exact hl
  · simp [World.cell?, Array.getElem?_eq_none hl] at h

set_option maxRecDepth 100000 in
theorem acts_arg {v : Value} {d : DataW H} {ps : List MemPlace} (hv : Value.okWide Try.prog w r b0 35 v) (h : DataW.Trod enc Try.prog w base sp held 35 v d ps) (hw : ∀ n ∈ d.weights Try.prog 35, n ≤ 140737488355328) :
    ∃ l, ActsAt w v l ∧ l.length ≤ 9223372036854775807 ∧ ∀ a ∈ l, Fits a := by
  obtain ⟨ao, len, cap, rfl⟩ := okWide_slice Try.underlying35 hv
  obtain ⟨fuel, h⟩ := h
  rcases open_slice Try.underlying35 h with ⟨hcs, _⟩ | ⟨a, len', cap', m, n, D, Pl, hcs, _, hl, hm, hmm, hd, hx⟩
  · simp [Value.cells] at hcs
    obtain ⟨rfl, rfl, rfl⟩ := hcs
    exact ⟨[], .inl ⟨none, 0, rfl, rfl⟩, Nat.zero_le _, fun a ha => by cases ha⟩
  · simp [Value.cells] at hcs
    obtain ⟨rfl, rfl, rfl⟩ := hcs
    have hle : len ≤ m := by rw [hmm]; split <;> omega
    have hd1 : d = .slice ((List.range len).map D) ((List.range (m - len)).map fun j => D (len + j)) := congrArg Prod.fst hd
    have each : ∀ i, i < len → ∃ q : Ac, (∀ j u, q.cells[j]? = some u → w.cell? ((a.add (i * 10)).add j) = some u) ∧ Fits q := fun i hi => by
      obtain ⟨cs', h1, h2⟩ := hx i (by omega)
      rw [cells_ta] at h1
      obtain ⟨_, hlen, hcell⟩ := World.cells?_some h1
      obtain ⟨q, rfl, hq⟩ := act_of_trod h2 fun n hn => hw n (by
        rw [hd1]
        simp only [DataW.weights, Try.underlying35]
        exact List.mem_cons_of_mem _ (List.mem_append.2 (.inl (weights_all_mem (List.mem_map.2 ⟨i, List.mem_range.2 hi, rfl⟩) n hn))))
      refine ⟨q, fun j u hj => ?_, hq⟩
      have hj10 : j < 10 := by
        have := (List.getElem?_eq_some_iff.1 hj).1
        rwa [cells_ac] at this
      rw [hcell j hj10]
      exact hj
    obtain ⟨q, hq⟩ := choose_lt each
    refine ⟨(List.range len).map q, ?_, ?_, fun x hx => ?_⟩
    · by_cases h0 : len = 0
      · subst h0
        exact .inl ⟨_, _, rfl, rfl⟩
      · obtain ⟨b, off, spot⟩ := a
        have h00 := (hq 0 (by omega)).1 0 _ rfl
        have hspot : spot = none := by simpa [Addr.add] using World.cell?_spot h00
        subst hspot
        refine .inr ⟨b, off, cap, by simp, by simpa [Go.WideShapes.add_plain] using block_lt h00, fun i x hx j u hj => ?_⟩
        have hil : i < len := by
          have := (List.getElem?_eq_some_iff.1 hx).1
          simpa using this
        simp [hil] at hx
        subst hx
        have := (hq i hil).1 j u hj
        rwa [Go.WideShapes.add_plain, Go.WideShapes.add_plain] at this
    · simp only [maxLen] at hm
      simp
      omega
    · obtain ⟨i, hi, rfl⟩ := List.mem_map.1 hx
      exact (hq i (List.mem_range.1 hi)).2

set_option maxRecDepth 100000 in
theorem act_arg {v : Value} {d : DataW H} {ps : List MemPlace} (hv : Value.okWide Try.prog w r b0 38 v) (h : DataW.Trod enc Try.prog w base sp held 38 v d ps) (hw : ∀ n ∈ d.weights Try.prog 38, n ≤ 140737488355328) :
    ∃ a : Ac, v = .agg a.cells.toArray ∧ Fits a := by
  obtain ⟨cs, rfl, _⟩ := okWide_struct Try.underlying38 hv
  obtain ⟨fuel, h⟩ := h
  obtain ⟨a, ha, hf⟩ := act_of_trod h hw
  refine ⟨a, ?_, hf⟩
  rw [← ha]
  rfl
end

/-- A row of calls that the law owns. -/
def OwnA (w : World) (B : Nat) (v : Value) (l : List Ac) : Prop := w.ownsRow B 38 10 v l.length (l.flatMap Ac.cells)
theorem OwnA.acts {w : World} {B : Nat} {v : Value} {l : List Ac} (h : OwnA w B v l) : ActsAt w v l := by
  rcases row_shape h with ⟨rfl, hn⟩ | ⟨g, cap, rfl, _, hg, hc⟩
  · exact .inl ⟨none, 0, rfl, List.eq_nil_of_length_eq_zero hn⟩
  · exact .inr ⟨g, 0, cap, rfl, hg, fun i a ha j u hj => by
      rw [Nat.zero_add]
      exact hc _ _ (flat_at cells_ac l i a j u ha hj)⟩
theorem OwnA.nil (w : World) (B : Nat) : OwnA w B (.slice none 0 0) [] := World.ownsRow_nil w _ _ _

end Go.Proofs.Ytglcingpolpkdaa
