/- Steps of a store that are handed in. -/
import Derived.Test.YtmmlpbepaefamaaGreatDoorDMoreX3
import Derived.Test.YtmmlpbepaefamaaGreatDoorJArgs
import Derived.Test.YtmmlpbepaefamaaGreatDoorSMapX2
namespace Go.Proofs.YtmmlpbepaefamaaGreatDoor
open Go.RowKit Go.ChangeShapes Go.WideShapes Go.Deep Go.MakeChecks

/-- A step, and where its changes lie. -/
structure StepA where
  kind : BitVec 8
  lv : Value
  L : List Chg
def StepA.cells (a : StepA) : List Value := [vu8 a.kind, a.lv]
theorem lenStep (a : StepA) : a.cells.length = 2 := rfl
def StepsAt (w : World) (v : Value) (l : List StepA) : Prop :=
  (l = [] ∧ ∃ a c, v = .slice a 0 c) ∨ ∃ g o c, v = .slice (some ⟨g, o, none⟩) l.length c ∧ g < w.heap.size ∧ ∀ (k : Nat) (x : StepA), l[k]? = some x → w.rangeAt g (o + k * 2) x.cells ∧ ChgsAt w x.lv x.L
theorem StepsAt.low {w w' : World} {v : Value} {l : List StepA} (h : StepsAt w v l) (hb : Below w.heap.size w w') : StepsAt w' v l := by
  rcases h with h | ⟨g, o, c, h1, h2, h3⟩
  · exact .inl h
  · exact .inr ⟨g, o, c, h1, Nat.lt_of_lt_of_le h2 hb.size, fun k x hx => ⟨rangeAt_low (h3 k x hx).1 h2 hb, (h3 k x hx).2.low hb⟩⟩
theorem StepsAt.len {w : World} {v : Value} {l : List StepA} (h : StepsAt w v l) : ∃ p c, v = .slice p l.length c := by
  rcases h with ⟨rfl, a, c, rfl⟩ | ⟨g, o, c, rfl, _⟩
  · exact ⟨_, _, rfl⟩
  · exact ⟨_, _, rfl⟩
theorem StepsAt.get {w : World} {p : Option Addr} {n c k : Nat} {l : List StepA} {x : StepA} (h : StepsAt w (.slice p n c) l) (hx : l[k]? = some x) : ∃ g o, p = some ⟨g, o, none⟩ ∧ g < w.heap.size ∧ w.rangeAt g (o + k * 2) x.cells ∧ ChgsAt w x.lv x.L := by
  rcases h with ⟨rfl, _⟩ | ⟨g, o, c', he, h2, hr⟩
  · simp at hx
  · injection he with he
    exact ⟨g, o, he, h2, hr k x hx⟩
/-- No part of a step is longer than memory. -/
def fitL (L : List Chg) : Prop := L.length ≤ 9223372036854775807 ∧ ∀ c ∈ L, c.val.length ≤ 140737488355328 ∧ c.key.size ≤ 140737488355328

theorem cells_str1 : Tryz.prog.cellsOf 9 = 1 := by kernel_rfl
theorem cells_int1 : Tryz.prog.cellsOf 3 = 1 := by kernel_rfl
theorem cells_kp : Tryz.prog.cellsOf 117 = 3 := by kernel_rfl
theorem cells_bys : Tryz.prog.cellsOf 30 = 1 := by kernel_rfl
theorem cells_chg : Tryz.prog.cellsOf 32 = 3 := by kernel_rfl
theorem cells_chgs : Tryz.prog.cellsOf 33 = 1 := by kernel_rfl
theorem cells_bool : Tryz.prog.cellsOf 4 = 1 := by kernel_rfl
theorem cells_step : Tryz.prog.cellsOf 55 = 2 := by kernel_rfl

section
variable {H : Type} {enc : TypeId × Value → H} {w : World} {base b0 : Nat} {sp : Nat → Bool} {held : Bool} {r : Reach}
theorem weights_each_in {P : Program} {ts : List TypeId} {ds : List (DataW H)} {j : Nat} {t : TypeId} {d : DataW H} (ht : ts[j]? = some t) (hd : ds[j]? = some d) : ∀ n ∈ d.weights P t, n ∈ DataW.weightsEach P ts ds := DataW.weights_mem_each ht hd
theorem text_of_trod {fuel : Nat} {v : Value} {x : DataW H × List MemPlace} (h : DataW.trod enc Tryz.prog w base sp held fuel 9 [v] = some x) : ∃ s : ByteArray, v = .string s ∧ s.size ∈ x.1.weights Tryz.prog 9 := by
  obtain ⟨s, h1, h2, _⟩ := DataW.trod_string Tryz.underlying9 h
  injection h1 with h1
  rw [h2]
  refine ⟨s, h1, ?_⟩
  simp [DataW.weights]

instance : Inhabited Kp := ⟨⟨⟨#[]⟩, 0, 0⟩⟩

set_option maxRecDepth 100000 in
theorem keep_of_trod {fuel : Nat} {cs : List Value} {x : DataW H × List MemPlace} (h : DataW.trod enc Tryz.prog w base sp held fuel 117 cs = some x) : ∃ q : Kp, cs = q.cells := by
  obtain ⟨xs, n, _, rfl, hl, hxl, hf⟩ := DataW.trod_struct Tryz.underlying117 h
  rw [cells_kp] at hl
  match cs, hl, xs, hxl with
  | [c0, c1, c2], _, [y0, y1, y2], _ =>
    have g0 : DataW.trod enc Tryz.prog w base sp held n 9 (List.take (Tryz.prog.cellsOf 9) (List.drop 0 [c0, c1, c2])) = some y0 := hf 0 _ rfl
    rw [cells_str1] at g0
    replace g0 : DataW.trod enc Tryz.prog w base sp held n 9 [c0] = some y0 := g0
    have g1 : DataW.trod enc Tryz.prog w base sp held n 3 (List.take (Tryz.prog.cellsOf 3) (List.drop 1 [c0, c1, c2])) = some y1 := hf 1 _ rfl
    rw [cells_int1] at g1
    replace g1 : DataW.trod enc Tryz.prog w base sp held n 3 [c1] = some y1 := g1
    have g2 : DataW.trod enc Tryz.prog w base sp held n 3 (List.take (Tryz.prog.cellsOf 3) (List.drop 2 [c0, c1, c2])) = some y2 := hf 2 _ rfl
    rw [cells_int1] at g2
    replace g2 : DataW.trod enc Tryz.prog w base sp held n 3 [c2] = some y2 := g2
    obtain ⟨s0, rfl, _⟩ := text_of_trod g0
    obtain ⟨n1, h1, _, _⟩ := DataW.trod_int Tryz.underlying3 g1
    obtain ⟨n2, h2, _, _⟩ := DataW.trod_int Tryz.underlying3 g2
    injection h1 with h1
    injection h2 with h2
    subst h1 h2
    exact ⟨⟨s0, n1, n2⟩, rfl⟩

set_option maxRecDepth 100000 in
theorem keeps_of_trod {fuel : Nat} {v : Value} {x : DataW H × List MemPlace} (h : DataW.trod enc Tryz.prog w base sp held fuel 52 [v] = some x) : ∃ l, KeepsAt w v l ∧ l.length ≤ 9223372036854775807 := by
  rcases open_slice Tryz.underlying52 h with ⟨hcs, _⟩ | ⟨a, len, cap, m, n, D, Pl, hcs, _, hl, hm, hmm, hd, hx⟩
  · cases hcs
    exact ⟨[], .inl ⟨rfl, _, _, rfl⟩, Nat.zero_le _⟩
  · cases hcs
    have hle : len ≤ m := by rw [hmm]; split <;> omega
    have each : ∀ i, i < len → ∃ q : Kp, ∀ j u, q.cells[j]? = some u → w.cell? ((a.add (i * 3)).add j) = some u := fun i hi => by
      obtain ⟨cs', h1, h2⟩ := hx i (by omega)
      rw [cells_kp] at h1
      obtain ⟨_, hlen, hcell⟩ := World.cells?_some h1
      obtain ⟨q, rfl⟩ := keep_of_trod h2
      refine ⟨q, fun j u hj => ?_⟩
      have hj3 : j < 3 := by
        have := (List.getElem?_eq_some_iff.1 hj).1
        rwa [lenK] at this
      rw [hcell j hj3]
      exact hj
    obtain ⟨q, hq⟩ := choose_lt each
    refine ⟨(List.range len).map q, ?_, ?_⟩
    · by_cases h0 : len = 0
      · subst h0
        exact .inl ⟨rfl, _, _, rfl⟩
      · obtain ⟨b, off, spot⟩ := a
        have h00 := hq 0 (by omega) 0 _ rfl
        have hspot : spot = none := by simpa [Addr.add] using World.cell?_spot h00
        subst hspot
        refine .inr ⟨b, off, cap, by simp, by simpa [Go.WideShapes.add_plain] using block_lt h00, fun i x hx j u hj => ?_⟩
        have hil : i < len := by
          have := (List.getElem?_eq_some_iff.1 hx).1
          simpa using this
        simp [hil] at hx
        subst hx
        have := hq i hil j u hj
        rwa [Go.WideShapes.add_plain, Go.WideShapes.add_plain] at this
    · simp only [maxLen] at hm
      simp
      omega

instance : Inhabited Chg := ⟨⟨⟨#[]⟩, .slice none 0 0, [], false⟩⟩
instance : Inhabited StepA := ⟨⟨0, .slice none 0 0, []⟩⟩

set_option maxRecDepth 100000 in
theorem chg_of_trod {fuel : Nat} {cs : List Value} {x : DataW H × List MemPlace} (h : DataW.trod enc Tryz.prog w base sp held fuel 32 cs = some x) (hw : ∀ n ∈ x.1.weights Tryz.prog 32, n ≤ 140737488355328) :
    ∃ c : Chg, cs = c.cells ∧ SliceIs w c.v c.val ∧ c.val.length ≤ 140737488355328 ∧ c.key.size ≤ 140737488355328 := by
  obtain ⟨xs, n, _, rfl, hl, hxl, hf⟩ := DataW.trod_struct Tryz.underlying32 h
  rw [cells_chg] at hl
  match cs, hl, xs, hxl with
  | [c0, c1, c2], _, [y0, y1, y2], _ =>
    have g0 : DataW.trod enc Tryz.prog w base sp held n 9 (List.take (Tryz.prog.cellsOf 9) (List.drop 0 [c0, c1, c2])) = some y0 := hf 0 _ rfl
    rw [cells_str1] at g0
    replace g0 : DataW.trod enc Tryz.prog w base sp held n 9 [c0] = some y0 := g0
    have g1 : DataW.trod enc Tryz.prog w base sp held n 30 (List.take (Tryz.prog.cellsOf 30) (List.drop 1 [c0, c1, c2])) = some y1 := hf 1 _ rfl
    rw [cells_bys] at g1
    replace g1 : DataW.trod enc Tryz.prog w base sp held n 30 [c1] = some y1 := g1
    have g2 : DataW.trod enc Tryz.prog w base sp held n 4 (List.take (Tryz.prog.cellsOf 4) (List.drop 2 [c0, c1, c2])) = some y2 := hf 2 _ rfl
    rw [cells_bool] at g2
    replace g2 : DataW.trod enc Tryz.prog w base sp held n 4 [c2] = some y2 := g2
    obtain ⟨s0, rfl, w0⟩ := text_of_trod g0
    obtain ⟨bs, hbs, w1⟩ := bytes_of_trod_sized g1
    obtain ⟨b, h2, _⟩ := DataW.trod_bool Tryz.underlying4 g2
    injection h2 with h2
    subst h2
    have hs : ∀ (j : Nat) (t : TypeId) (d : DataW H) (m : Nat), ([9, 30, 4] : List TypeId)[j]? = some t → ([y0, y1, y2].map (·.1))[j]? = some d → m ∈ d.weights Tryz.prog t → m ≤ 140737488355328 := fun j t d m ht hd hm => hw m (by
      simp only [DataW.weights, Tryz.underlying32]
      exact weights_each_in (j := j) ht hd m hm)
    refine ⟨⟨s0, c1, bs, b⟩, rfl, hbs, ?_, hs 0 _ _ _ rfl rfl w0⟩
    rcases w1 with h | ⟨m, hm, h⟩
    · show bs.length ≤ _
      rw [h]
      exact Nat.zero_le _
    · exact Nat.le_trans h (hs 1 _ _ _ rfl rfl hm)

set_option maxRecDepth 100000 in
theorem chgs_of_trod {fuel : Nat} {v : Value} {x : DataW H × List MemPlace} (h : DataW.trod enc Tryz.prog w base sp held fuel 33 [v] = some x) (hw : ∀ n ∈ x.1.weights Tryz.prog 33, n ≤ 140737488355328) : ∃ L, ChgsAt w v L ∧ fitL L := by
  rcases open_slice Tryz.underlying33 h with ⟨hcs, _⟩ | ⟨a, len, cap, m, n, D, Pl, hcs, _, hl, hm, hmm, hd, hx⟩
  · cases hcs
    exact ⟨[], .inl ⟨rfl, _, _, rfl⟩, Nat.zero_le _, fun c hc => by cases hc⟩
  · cases hcs
    have hle : len ≤ m := by rw [hmm]; split <;> omega
    have hd1 : x.1 = .slice ((List.range len).map D) ((List.range (m - len)).map fun j => D (len + j)) := congrArg Prod.fst hd
    have each : ∀ i, i < len → ∃ q : Chg, (∀ j u, q.cells[j]? = some u → w.cell? ((a.add (i * 3)).add j) = some u) ∧ SliceIs w q.v q.val ∧ q.val.length ≤ 140737488355328 ∧ q.key.size ≤ 140737488355328 := fun i hi => by
      obtain ⟨cs', h1, h2⟩ := hx i (by omega)
      rw [cells_chg] at h1
      obtain ⟨_, hlen, hcell⟩ := World.cells?_some h1
      obtain ⟨q, rfl, hq⟩ := chg_of_trod h2 fun n hn => hw n (by
        rw [hd1]
        simp only [DataW.weights, Tryz.underlying33]
        exact List.mem_cons_of_mem _ (List.mem_append.2 (.inl (weights_all_mem (List.mem_map.2 ⟨i, List.mem_range.2 hi, rfl⟩) n hn))))
      refine ⟨q, fun j u hj => ?_, hq⟩
      have hj3 : j < 3 := by
        have := (List.getElem?_eq_some_iff.1 hj).1
        rwa [lenChg] at this
      rw [hcell j hj3]
      exact hj
    obtain ⟨q, hq⟩ := choose_lt each
    refine ⟨(List.range len).map q, ?_, ?_, fun c hc => ?_⟩
    · by_cases h0 : len = 0
      · subst h0
        exact .inl ⟨rfl, _, _, rfl⟩
      · obtain ⟨b, off, spot⟩ := a
        have h00 := (hq 0 (by omega)).1 0 _ rfl
        have hspot : spot = none := by simpa [Addr.add] using World.cell?_spot h00
        subst hspot
        refine .inr ⟨b, off, cap, by simp, by simpa [Go.WideShapes.add_plain] using block_lt h00, fun i x hx => ?_⟩
        have hil : i < len := by
          have := (List.getElem?_eq_some_iff.1 hx).1
          simpa using this
        simp [hil] at hx
        subst hx
        refine ⟨fun j u hj => ?_, (hq i hil).2.1⟩
        have := (hq i hil).1 j u hj
        rwa [Go.WideShapes.add_plain, Go.WideShapes.add_plain] at this
    · simp only [maxLen] at hm
      simp
      omega
    · obtain ⟨i, hi, rfl⟩ := List.mem_map.1 hc
      exact (hq i (List.mem_range.1 hi)).2.2

set_option maxRecDepth 100000 in
theorem step_of_trod {fuel : Nat} {cs : List Value} {x : DataW H × List MemPlace} (h : DataW.trod enc Tryz.prog w base sp held fuel 55 cs = some x) (hw : ∀ n ∈ x.1.weights Tryz.prog 55, n ≤ 140737488355328) :
    ∃ a : StepA, cs = a.cells ∧ ChgsAt w a.lv a.L ∧ fitL a.L := by
  obtain ⟨xs, n, _, rfl, hl, hxl, hf⟩ := DataW.trod_struct Tryz.underlying55 h
  rw [cells_step] at hl
  match cs, hl, xs, hxl with
  | [c0, c1], _, [y0, y1], _ =>
    have g0 : DataW.trod enc Tryz.prog w base sp held n 5 (List.take (Tryz.prog.cellsOf 5) (List.drop 0 [c0, c1])) = some y0 := hf 0 _ rfl
    rw [cells_u8] at g0
    replace g0 : DataW.trod enc Tryz.prog w base sp held n 5 [c0] = some y0 := g0
    have g1 : DataW.trod enc Tryz.prog w base sp held n 33 (List.take (Tryz.prog.cellsOf 33) (List.drop 1 [c0, c1])) = some y1 := hf 1 _ rfl
    rw [cells_chgs] at g1
    replace g1 : DataW.trod enc Tryz.prog w base sp held n 33 [c1] = some y1 := g1
    obtain ⟨n0, h0, _, w0⟩ := DataW.trod_int Tryz.underlying5 g0
    have hs : ∀ (j : Nat) (t : TypeId) (d : DataW H) (m : Nat), ([5, 33] : List TypeId)[j]? = some t → ([y0, y1].map (·.1))[j]? = some d → m ∈ d.weights Tryz.prog t → m ≤ 140737488355328 := fun j t d m ht hd hm => hw m (by
      simp only [DataW.weights, Tryz.underlying55]
      exact weights_each_in (j := j) ht hd m hm)
    obtain ⟨L, hL, hfL⟩ := chgs_of_trod g1 fun m hm => hs 1 _ _ _ rfl rfl hm
    injection h0 with h0
    subst h0
    have hb0 := bounds_u8 w0
    refine ⟨⟨BitVec.ofInt 8 n0, c1, L⟩, ?_, hL, hfL⟩
    unfold StepA.cells
    rw [← lit_u8 n0 hb0.1 (by omega)]

set_option maxRecDepth 100000 in
theorem steps_arg {v : Value} {d : DataW H} {ps : List MemPlace} (hv : Value.okWide Tryz.prog w r b0 51 v) (h : DataW.Trod enc Tryz.prog w base sp held 51 v d ps) (hw : ∀ n ∈ d.weights Tryz.prog 51, n ≤ 140737488355328) :
    ∃ l, StepsAt w v l ∧ l.length ≤ 9223372036854775807 ∧ ∀ a ∈ l, fitL a.L := by
  obtain ⟨ao, len, cap, rfl⟩ := okWide_slice Tryz.underlying51 hv
  obtain ⟨fuel, h⟩ := h
  rcases open_slice Tryz.underlying51 h with ⟨hcs, _⟩ | ⟨a, len', cap', m, n, D, Pl, hcs, _, hl, hm, hmm, hd, hx⟩
  · simp [Value.cells] at hcs
    obtain ⟨rfl, rfl, rfl⟩ := hcs
    exact ⟨[], .inl ⟨rfl, none, 0, rfl⟩, Nat.zero_le _, fun a ha => by cases ha⟩
  · simp [Value.cells] at hcs
    obtain ⟨rfl, rfl, rfl⟩ := hcs
    have hle : len ≤ m := by rw [hmm]; split <;> omega
    have hd1 : d = .slice ((List.range len).map D) ((List.range (m - len)).map fun j => D (len + j)) := congrArg Prod.fst hd
    have each : ∀ i, i < len → ∃ q : StepA, (∀ j u, q.cells[j]? = some u → w.cell? ((a.add (i * 2)).add j) = some u) ∧ ChgsAt w q.lv q.L ∧ fitL q.L := fun i hi => by
      obtain ⟨cs', h1, h2⟩ := hx i (by omega)
      rw [cells_step] at h1
      obtain ⟨_, hlen, hcell⟩ := World.cells?_some h1
      obtain ⟨q, rfl, hq⟩ := step_of_trod h2 fun n hn => hw n (by
        rw [hd1]
        simp only [DataW.weights, Tryz.underlying51]
        exact List.mem_cons_of_mem _ (List.mem_append.2 (.inl (weights_all_mem (List.mem_map.2 ⟨i, List.mem_range.2 hi, rfl⟩) n hn))))
      refine ⟨q, fun j u hj => ?_, hq⟩
      have hj2 : j < 2 := by
        have := (List.getElem?_eq_some_iff.1 hj).1
        rwa [lenStep] at this
      rw [hcell j hj2]
      exact hj
    obtain ⟨q, hq⟩ := choose_lt each
    refine ⟨(List.range len).map q, ?_, ?_, fun x hx => ?_⟩
    · by_cases h0 : len = 0
      · subst h0
        exact .inl ⟨rfl, _, _, rfl⟩
      · obtain ⟨b, off, spot⟩ := a
        have h00 := (hq 0 (by omega)).1 0 _ rfl
        have hspot : spot = none := by simpa [Addr.add] using World.cell?_spot h00
        subst hspot
        refine .inr ⟨b, off, cap, by simp, by simpa [Go.WideShapes.add_plain] using block_lt h00, fun i x hx => ?_⟩
        have hil : i < len := by
          have := (List.getElem?_eq_some_iff.1 hx).1
          simpa using this
        simp [hil] at hx
        subst hx
        refine ⟨fun j u hj => ?_, (hq i hil).2.1⟩
        have := (hq i hil).1 j u hj
        rwa [Go.WideShapes.add_plain, Go.WideShapes.add_plain] at this
    · simp only [maxLen] at hm
      simp
      omega
    · obtain ⟨i, hi, rfl⟩ := List.mem_map.1 hx
      exact (hq i (List.mem_range.1 hi)).2.2
set_option maxRecDepth 100000 in
theorem nums_arg {v : Value} {d : DataW H} {ps : List MemPlace} (hv : Value.okWide Tryz.prog w r b0 50 v) (h : DataW.Trod enc Tryz.prog w base sp held 50 v d ps) : ∃ zs, NumsAt w v zs ∧ zs.length ≤ 9223372036854775807 := by
  obtain ⟨ao, len, cap, rfl⟩ := okWide_slice Tryz.underlying50 hv
  obtain ⟨fuel, h⟩ := h
  rcases open_ints Tryz.underlying50 Tryz.underlying3 cells_int1 h with ⟨hcs, _⟩ | ⟨a, len', cap', zs, hcs, _, hl, hm, hz, hx, hcell, hwz⟩
  · simp [Value.cells] at hcs
    obtain ⟨rfl, rfl, rfl⟩ := hcs
    exact ⟨[], .inl ⟨none, 0, rfl, rfl⟩, Nat.zero_le _⟩
  · simp [Value.cells] at hcs
    obtain ⟨rfl, rfl, rfl⟩ := hcs
    have hle : len ≤ zs.length := by rw [hz]; split <;> omega
    simp only [maxLen] at hm
    by_cases h0 : len = 0
    · subst h0
      exact ⟨[], .inl ⟨_, _, rfl, rfl⟩, Nat.zero_le _⟩
    · obtain ⟨b, off, rfl, hc⟩ := Go.ints_at hcell (by omega)
      have hlen : (zs.take len).length = len := by simp; omega
      refine ⟨zs.take len, .inr ⟨b, off, cap, by rw [hlen], block_lt (hc 0 (by omega)), fun i z hi => ?_⟩, by rw [hlen]; omega⟩
      have hil : i < len := by
        have := (List.getElem?_eq_some_iff.1 hi).1
        omega
      rw [List.getElem?_take_of_lt hil] at hi
      rw [hc i (by omega), List.getD_eq_getElem?_getD, hi]
      rfl
set_option maxRecDepth 100000 in
theorem keeps_arg {v : Value} {d : DataW H} {ps : List MemPlace} (hv : Value.okWide Tryz.prog w r b0 52 v) (h : DataW.Trod enc Tryz.prog w base sp held 52 v d ps) : ∃ l, KeepsAt w v l ∧ l.length ≤ 9223372036854775807 := by
  obtain ⟨ao, len, cap, rfl⟩ := okWide_slice Tryz.underlying52 hv
  obtain ⟨fuel, h⟩ := h
  exact keeps_of_trod h
end
end Go.Proofs.YtmmlpbepaefamaaGreatDoor
