/- Lists of numbers that are the same. -/
import Derived.Test.YtmmlpbepaefamaaJKitX2
import Derived.Test.YtmmlpbepaefamaaRDuoX2
namespace Go.Proofs.Ytmmlpbepaefamaa
open Go.RowKit

set_option maxRecDepth 100000 in
set_option maxHeartbeats 1000000 in
theorem sameints_calls (w : World) (u v : Value) (l : List Int) (hu : NumsAt w u l) (hv : NumsAt w v l) (hl : l.length ≤ 1000000) :
    Calls Try.prog 28 #[u, v] w fun e w' => e = .returned (.bool true) ∧ Below w.heap.size w w' := by
  obtain ⟨N, hN⟩ : ∃ N, l.length = N := ⟨_, rfl⟩
  obtain ⟨p, c, hp⟩ := hu.len
  obtain ⟨p2, c2, hp2⟩ := hv.len
  rw [hN] at hp hp2 hl
  subst hp hp2
  have HN := Lib.hid hN
  have HU := Lib.hid hu
  have HV := Lib.hid hv
  clear hN hu hv
  go_enter Try.func28, Try.ntmps28
  go_wp2
  go_loopw [5] (fun i wr => ∃ k : Nat, k ≤ N ∧ i = .int .i64 k ∧ Below w.heap.size w wr) (fun i _ => N - (intOf i).toNat)
  case atStart => exact ⟨0, by omega, rfl, Below.refl _ _⟩
  case round =>
    obtain ⟨k, hk, rfl, hB⟩ := hrel
    by_cases hlt : k < N
    · obtain ⟨y, hy⟩ : ∃ y, l[k]? = some y := ⟨_, List.getElem?_eq_getElem (by rw [HN.out]; exact hlt)⟩
      obtain ⟨b, off, rfl, _, c0⟩ := (HU.out.low hB).at hy
      obtain ⟨b2, off2, rfl, _, d0⟩ := (HV.out.low hB).at hy
      have i1 : (k : Int) < (N : Int) := by omega
      have i2 : 0 ≤ (k : Int) ∧ (k : Int) < (N : Int) := by omega
      have s2 : IntKind.i64.wrap ((k : Int) + 1) = (k : Int) + 1 := IntWalk.i64_in _ (by omega)
      have hB2 := hB.trans (((Below.refl wr.heap.size wr).drew).mono hB.size)
      clear hy
      go_wp2
      go_still (by kernel_rfl)
      change Exit.then _ _ Exit.normal _ wr.drew
      clear c0 d0
      generalize wr.drew = w2 at hB2 ⊢
      go_wp2
      go_roundw
      case rel => exact ⟨k + 1, by omega, by go_num, hB2⟩
      case measure => simp [intOf]; omega
    · obtain rfl : k = N := by omega
      have i1 : ¬ (k : Int) < (k : Int) := by omega
      go_wp2
      go_ret
      exact ⟨rfl, hB⟩


end Go.Proofs.Ytmmlpbepaefamaa

/- Calls of a disk, as they lie in a list: DiskScript's argument. -/
namespace Go.Proofs.Ytmmlpbepaefamaa
open Go.RowKit

/-- A call, and where its bytes and its keeps lie. -/
structure DA where
  kind : BitVec 8
  name : ByteArray
  dst : ByteArray
  bv : Value
  b : List (BitVec 8)
  n : Int
  kv : Value
  keeps : List Kp
def DA.cells (a : DA) : List Value := [vu8 a.kind, .string a.name, .string a.dst, a.bv, .int .i64 a.n, a.kv]
theorem lenDA (a : DA) : a.cells.length = 6 := rfl
/-- Keeps that can be appended: none, or somewhere. -/
def KeepSrc (w : World) (v : Value) (ks : List Kp) : Prop :=
  (v = .slice none 0 0 ∧ ks = []) ∨ (∃ a c, v = .slice (some a) 0 c ∧ ks = []) ∨ ∃ g o c, v = .slice (some ⟨g, o, none⟩) ks.length c ∧ g < w.heap.size ∧ ∀ (k : Nat) (x : Kp), ks[k]? = some x → w.rangeAt g (o + k * 3) x.cells
theorem KeepSrc.low {w w' : World} {v : Value} {ks : List Kp} (h : KeepSrc w v ks) (hb : Below w.heap.size w w') : KeepSrc w' v ks := by
  rcases h with h | h | ⟨g, o, c, h1, h2, h3⟩
  · exact .inl h
  · exact .inr (.inl h)
  · exact .inr (.inr ⟨g, o, c, h1, Nat.lt_of_lt_of_le h2 hb.size, fun k x hx => rangeAt_low (h3 k x hx) h2 hb⟩)
theorem KeepSrc.at {w : World} {v : Value} {ks : List Kp} (h : KeepSrc w v ks) : KeepsAt w v ks := by
  rcases h with ⟨rfl, rfl⟩ | ⟨a, c, rfl, rfl⟩ | ⟨g, o, c, h1, h2, h3⟩
  · exact .inl ⟨rfl, _, _, rfl⟩
  · exact .inl ⟨rfl, _, _, rfl⟩
  · exact .inr ⟨g, o, c, h1, h2, h3⟩
structure DA.At (w : World) (a : DA) : Prop where
  bytes : SliceIs w a.bv a.b
  keeps : KeepSrc w a.kv a.keeps
theorem DA.At.low {w w' : World} {a : DA} (h : a.At w) (hb : Below w.heap.size w w') : a.At w' := ⟨h.bytes.low hb, h.keeps.low hb⟩
/-- A list of calls. -/
def DActs (w : World) (v : Value) (l : List DA) : Prop :=
  (l = [] ∧ ∃ a c, v = .slice a 0 c) ∨ ∃ g o c, v = .slice (some ⟨g, o, none⟩) l.length c ∧ g < w.heap.size ∧ ∀ (k : Nat) (x : DA), l[k]? = some x → w.rangeAt g (o + k * 6) x.cells ∧ x.At w
theorem DActs.low {w w' : World} {v : Value} {l : List DA} (h : DActs w v l) (hb : Below w.heap.size w w') : DActs w' v l := by
  rcases h with h | ⟨g, o, c, h1, h2, h3⟩
  · exact .inl h
  · exact .inr ⟨g, o, c, h1, Nat.lt_of_lt_of_le h2 hb.size, fun k x hx => ⟨rangeAt_low (h3 k x hx).1 h2 hb, (h3 k x hx).2.low hb⟩⟩
theorem DActs.len {w : World} {v : Value} {l : List DA} (h : DActs w v l) : ∃ p c, v = .slice p l.length c := by
  rcases h with ⟨rfl, a, c, rfl⟩ | ⟨g, o, c, rfl, _⟩
  · exact ⟨_, _, rfl⟩
  · exact ⟨_, _, rfl⟩
theorem DActs.get {w : World} {p : Option Addr} {n c k : Nat} {l : List DA} {x : DA} (h : DActs w (.slice p n c) l) (hx : l[k]? = some x) : ∃ g o, p = some ⟨g, o, none⟩ ∧ g < w.heap.size ∧ w.rangeAt g (o + k * 6) x.cells ∧ x.At w := by
  rcases h with ⟨rfl, _⟩ | ⟨g, o, c', he, h2, hr⟩
  · simp at hx
  · injection he with he
    exact ⟨g, o, he, h2, hr k x hx⟩

end Go.Proofs.Ytmmlpbepaefamaa

/- Calls of a disk, and numbers, that are handed in. -/
namespace Go.Proofs.Ytmmlpbepaefamaa
open Go.RowKit Go.ChangeShapes Go.WideShapes Go.Deep Go.MakeChecks

theorem cells_str1 : Try.prog.cellsOf 9 = 1 := by kernel_rfl
theorem cells_int1 : Try.prog.cellsOf 3 = 1 := by kernel_rfl
theorem cells_kp : Try.prog.cellsOf 38 = 3 := by kernel_rfl
theorem cells_kps : Try.prog.cellsOf 39 = 1 := by kernel_rfl
theorem cells_bys : Try.prog.cellsOf 34 = 1 := by kernel_rfl
theorem cells_da : Try.prog.cellsOf 63 = 6 := by kernel_rfl

section
variable {H : Type} {enc : TypeId × Value → H} {w : World} {base b0 : Nat} {sp : Nat → Bool} {held : Bool} {r : Reach}

theorem weights_each_in {P : Program} {ts : List TypeId} {ds : List (DataW H)} {j : Nat} {t : TypeId} {d : DataW H} (ht : ts[j]? = some t) (hd : ds[j]? = some d) : ∀ n ∈ d.weights P t, n ∈ DataW.weightsEach P ts ds := DataW.weights_mem_each ht hd
theorem text_of_trod {fuel : Nat} {v : Value} {x : DataW H × List MemPlace} (h : DataW.trod enc Try.prog w base sp held fuel 9 [v] = some x) : ∃ s : ByteArray, v = .string s ∧ s.size ∈ x.1.weights Try.prog 9 := by
  obtain ⟨s, h1, h2, _⟩ := DataW.trod_string Try.underlying9 h
  injection h1 with h1
  rw [h2]
  refine ⟨s, h1, ?_⟩
  simp [DataW.weights]

instance : Inhabited Kp := ⟨⟨⟨#[]⟩, 0, 0⟩⟩

set_option maxRecDepth 100000 in
theorem keep_of_trod {fuel : Nat} {cs : List Value} {x : DataW H × List MemPlace} (h : DataW.trod enc Try.prog w base sp held fuel 38 cs = some x) : ∃ q : Kp, cs = q.cells := by
  obtain ⟨xs, n, _, rfl, hl, hxl, hf⟩ := DataW.trod_struct Try.underlying38 h
  rw [cells_kp] at hl
  match cs, hl, xs, hxl with
  | [c0, c1, c2], _, [y0, y1, y2], _ =>
    have g0 : DataW.trod enc Try.prog w base sp held n 9 (List.take (Try.prog.cellsOf 9) (List.drop 0 [c0, c1, c2])) = some y0 := hf 0 _ rfl
    rw [cells_str1] at g0
    replace g0 : DataW.trod enc Try.prog w base sp held n 9 [c0] = some y0 := g0
    have g1 : DataW.trod enc Try.prog w base sp held n 3 (List.take (Try.prog.cellsOf 3) (List.drop 1 [c0, c1, c2])) = some y1 := hf 1 _ rfl
    rw [cells_int1] at g1
    replace g1 : DataW.trod enc Try.prog w base sp held n 3 [c1] = some y1 := g1
    have g2 : DataW.trod enc Try.prog w base sp held n 3 (List.take (Try.prog.cellsOf 3) (List.drop 2 [c0, c1, c2])) = some y2 := hf 2 _ rfl
    rw [cells_int1] at g2
    replace g2 : DataW.trod enc Try.prog w base sp held n 3 [c2] = some y2 := g2
    obtain ⟨s0, rfl, _⟩ := text_of_trod g0
    obtain ⟨n1, h1, _, _⟩ := DataW.trod_int Try.underlying3 g1
    obtain ⟨n2, h2, _, _⟩ := DataW.trod_int Try.underlying3 g2
    injection h1 with h1
    injection h2 with h2
    subst h1 h2
    exact ⟨⟨s0, n1, n2⟩, rfl⟩

set_option maxRecDepth 100000 in
theorem keeps_of_trod {fuel : Nat} {v : Value} {x : DataW H × List MemPlace} (h : DataW.trod enc Try.prog w base sp held fuel 39 [v] = some x) : ∃ l, KeepSrc w v l ∧ l.length ≤ 9223372036854775807 := by
  rcases open_slice Try.underlying39 h with ⟨hcs, _⟩ | ⟨a, len, cap, m, n, D, Pl, hcs, _, hl, hm, hmm, hd, hx⟩
  · cases hcs
    exact ⟨[], .inl ⟨rfl, rfl⟩, Nat.zero_le _⟩
  · cases hcs
    have hle : len ≤ m := by rw [hmm]; split <;> omega
    have each : ∀ i, i < len → ∃ q : Kp, ∀ j u, q.cells[j]? = some u → w.cell? ((a.add (i * 3)).add j) = some u := fun i hi => by
      obtain ⟨cs', h1, h2⟩ := hx i (by omega)
      rw [cells_kp] at h1
      obtain ⟨_, hlen, hcell⟩ := World.cells?_some h1
      obtain ⟨q, rfl⟩ := keep_of_trod h2
      refine ⟨q, fun j u hj => ?_⟩
      have hj3 : j < 3 := by
        have := (List.getElem?_eq_some_iff.1 hj).1
        rwa [lenK] at this
      rw [hcell j hj3]
      exact hj
    obtain ⟨q, hq⟩ := choose_lt each
    refine ⟨(List.range len).map q, ?_, ?_⟩
    · by_cases h0 : len = 0
      · subst h0
        exact .inr (.inl ⟨_, _, rfl, rfl⟩)
      · obtain ⟨b, off, spot⟩ := a
        have h00 := hq 0 (by omega) 0 _ rfl
        have hspot : spot = none := by simpa [Addr.add] using World.cell?_spot h00
        subst hspot
        refine .inr (.inr ⟨b, off, cap, by simp, by simpa [Go.WideShapes.add_plain] using block_lt h00, fun i x hx j u hj => ?_⟩)
        have hil : i < len := by
          have := (List.getElem?_eq_some_iff.1 hx).1
          simpa using this
        simp [hil] at hx
        subst hx
        have := hq i hil j u hj
        rwa [Go.WideShapes.add_plain, Go.WideShapes.add_plain] at this
    · simp only [maxLen] at hm
      simp
      omega

instance : Inhabited DA := ⟨⟨0, ⟨#[]⟩, ⟨#[]⟩, .slice none 0 0, [], 0, .slice none 0 0, []⟩⟩
/-- No part of a call is longer than memory. -/
def DA.Fits (a : DA) : Prop := a.b.length ≤ 9223372036854775807 ∧ a.keeps.length ≤ 9223372036854775807 ∧ a.name.size ≤ 4611686018427387903 ∧ a.dst.size ≤ 4611686018427387903 ∧ a.n ≤ 9223372036854775807

set_option maxRecDepth 100000 in
theorem da_of_trod {fuel : Nat} {cs : List Value} {x : DataW H × List MemPlace} (h : DataW.trod enc Try.prog w base sp held fuel 63 cs = some x) (hw : ∀ n ∈ x.1.weights Try.prog 63, n ≤ 140737488355328) :
    ∃ a : DA, cs = a.cells ∧ a.At w ∧ a.Fits := by
  obtain ⟨xs, n, _, rfl, hl, hxl, hf⟩ := DataW.trod_struct Try.underlying63 h
  rw [cells_da] at hl
  match cs, hl, xs, hxl with
  | [c0, c1, c2, c3, c4, c5], _, [y0, y1, y2, y3, y4, y5], _ =>
    have g0 : DataW.trod enc Try.prog w base sp held n 5 (List.take (Try.prog.cellsOf 5) (List.drop 0 [c0, c1, c2, c3, c4, c5])) = some y0 := hf 0 _ rfl
    rw [cells_u8] at g0
    replace g0 : DataW.trod enc Try.prog w base sp held n 5 [c0] = some y0 := g0
    have g1 : DataW.trod enc Try.prog w base sp held n 9 (List.take (Try.prog.cellsOf 9) (List.drop 1 [c0, c1, c2, c3, c4, c5])) = some y1 := hf 1 _ rfl
    rw [cells_str1] at g1
    replace g1 : DataW.trod enc Try.prog w base sp held n 9 [c1] = some y1 := g1
    have g2 : DataW.trod enc Try.prog w base sp held n 9 (List.take (Try.prog.cellsOf 9) (List.drop 2 [c0, c1, c2, c3, c4, c5])) = some y2 := hf 2 _ rfl
    rw [cells_str1] at g2
    replace g2 : DataW.trod enc Try.prog w base sp held n 9 [c2] = some y2 := g2
    have g3 : DataW.trod enc Try.prog w base sp held n 34 (List.take (Try.prog.cellsOf 34) (List.drop 3 [c0, c1, c2, c3, c4, c5])) = some y3 := hf 3 _ rfl
    rw [cells_bys] at g3
    replace g3 : DataW.trod enc Try.prog w base sp held n 34 [c3] = some y3 := g3
    have g4 : DataW.trod enc Try.prog w base sp held n 3 (List.take (Try.prog.cellsOf 3) (List.drop 4 [c0, c1, c2, c3, c4, c5])) = some y4 := hf 4 _ rfl
    rw [cells_int1] at g4
    replace g4 : DataW.trod enc Try.prog w base sp held n 3 [c4] = some y4 := g4
    have g5 : DataW.trod enc Try.prog w base sp held n 39 (List.take (Try.prog.cellsOf 39) (List.drop 5 [c0, c1, c2, c3, c4, c5])) = some y5 := hf 5 _ rfl
    rw [cells_kps] at g5
    replace g5 : DataW.trod enc Try.prog w base sp held n 39 [c5] = some y5 := g5
    obtain ⟨n0, h0, _, w0⟩ := DataW.trod_int Try.underlying5 g0
    obtain ⟨s1, rfl, w1⟩ := text_of_trod g1
    obtain ⟨s2, rfl, w2⟩ := text_of_trod g2
    obtain ⟨bs, hbs, w3⟩ := bytes_of_trod_sized g3
    obtain ⟨n4, h4, _, w4⟩ := DataW.trod_int Try.underlying3 g4
    obtain ⟨ks, hks, hkl⟩ := keeps_of_trod g5
    injection h0 with h0
    injection h4 with h4
    subst h0 h4
    have hs : ∀ (j : Nat) (t : TypeId) (d : DataW H) (m : Nat), ([5, 9, 9, 34, 3, 39] : List TypeId)[j]? = some t → ([y0, y1, y2, y3, y4, y5].map (·.1))[j]? = some d → m ∈ d.weights Try.prog t → m ≤ 140737488355328 := fun j t d m ht hd hm => hw m (by
      simp only [DataW.weights, Try.underlying63]
      exact weights_each_in (j := j) ht hd m hm)
    have hb0 := bounds_u8 w0
    refine ⟨⟨BitVec.ofInt 8 n0, s1, s2, c3, bs, n4, c5, ks⟩, ?_, ⟨hbs, hks⟩, ?_, hkl, Nat.le_trans (hs 1 _ _ _ rfl rfl w1) (by decide), Nat.le_trans (hs 2 _ _ _ rfl rfl w2) (by decide), ?_⟩
    · unfold DA.cells
      rw [← lit_u8 n0 hb0.1 (by omega)]
    · rcases w3 with h | ⟨m, hm, h⟩
      · show bs.length ≤ _
        rw [h]
        exact Nat.zero_le _
      · exact Nat.le_trans h (Nat.le_trans (hs 3 _ _ _ rfl rfl hm) (by decide))
    · simp only [Lit.wf, Bool.and_eq_true, decide_eq_true_iff] at w4
      exact Int.le_trans w4.2 (by decide)

set_option maxRecDepth 100000 in
theorem das_arg {v : Value} {d : DataW H} {ps : List MemPlace} (hv : Value.okWide Try.prog w r b0 55 v) (h : DataW.Trod enc Try.prog w base sp held 55 v d ps) (hw : ∀ n ∈ d.weights Try.prog 55, n ≤ 140737488355328) :
    ∃ l, DActs w v l ∧ l.length ≤ 9223372036854775807 ∧ ∀ a ∈ l, a.Fits := by
  obtain ⟨ao, len, cap, rfl⟩ := okWide_slice Try.underlying55 hv
  obtain ⟨fuel, h⟩ := h
  rcases open_slice Try.underlying55 h with ⟨hcs, _⟩ | ⟨a, len', cap', m, n, D, Pl, hcs, _, hl, hm, hmm, hd, hx⟩
  · simp [Value.cells] at hcs
    obtain ⟨rfl, rfl, rfl⟩ := hcs
    exact ⟨[], .inl ⟨rfl, none, 0, rfl⟩, Nat.zero_le _, fun a ha => by cases ha⟩
  · simp [Value.cells] at hcs
    obtain ⟨rfl, rfl, rfl⟩ := hcs
    have hle : len ≤ m := by rw [hmm]; split <;> omega
    have hd1 : d = .slice ((List.range len).map D) ((List.range (m - len)).map fun j => D (len + j)) := congrArg Prod.fst hd
    have each : ∀ i, i < len → ∃ q : DA, (∀ j u, q.cells[j]? = some u → w.cell? ((a.add (i * 6)).add j) = some u) ∧ q.At w ∧ q.Fits := fun i hi => by
      obtain ⟨cs', h1, h2⟩ := hx i (by omega)
      rw [cells_da] at h1
      obtain ⟨_, hlen, hcell⟩ := World.cells?_some h1
      obtain ⟨q, rfl, hq⟩ := da_of_trod h2 fun n hn => hw n (by
        rw [hd1]
        simp only [DataW.weights, Try.underlying55]
        exact List.mem_cons_of_mem _ (List.mem_append.2 (.inl (weights_all_mem (List.mem_map.2 ⟨i, List.mem_range.2 hi, rfl⟩) n hn))))
      refine ⟨q, fun j u hj => ?_, hq⟩
      have hj6 : j < 6 := by
        have := (List.getElem?_eq_some_iff.1 hj).1
        rwa [lenDA] at this
      rw [hcell j hj6]
      exact hj
    obtain ⟨q, hq⟩ := choose_lt each
    refine ⟨(List.range len).map q, ?_, ?_, fun x hx => ?_⟩
    · by_cases h0 : len = 0
      · subst h0
        exact .inl ⟨rfl, _, _, rfl⟩
      · obtain ⟨b, off, spot⟩ := a
        have h00 := (hq 0 (by omega)).1 0 _ rfl
        have hspot : spot = none := by simpa [Addr.add] using World.cell?_spot h00
        subst hspot
        refine .inr ⟨b, off, cap, by simp, by simpa [Go.WideShapes.add_plain] using block_lt h00, fun i x hx => ?_⟩
        have hil : i < len := by
          have := (List.getElem?_eq_some_iff.1 hx).1
          simpa using this
        simp [hil] at hx
        subst hx
        refine ⟨fun j u hj => ?_, (hq i hil).2.1⟩
        have := (hq i hil).1 j u hj
        rwa [Go.WideShapes.add_plain, Go.WideShapes.add_plain] at this
    · simp only [maxLen] at hm
      simp
      omega
    · obtain ⟨i, hi, rfl⟩ := List.mem_map.1 hx
      exact (hq i (List.mem_range.1 hi)).2.2

set_option maxRecDepth 100000 in
theorem nums_arg {v : Value} {d : DataW H} {ps : List MemPlace} (hv : Value.okWide Try.prog w r b0 54 v) (h : DataW.Trod enc Try.prog w base sp held 54 v d ps) : ∃ zs, NumSrc w v zs ∧ zs.length ≤ 9223372036854775807 := by
  obtain ⟨ao, len, cap, rfl⟩ := okWide_slice Try.underlying54 hv
  obtain ⟨fuel, h⟩ := h
  rcases open_ints Try.underlying54 Try.underlying3 cells_int1 h with ⟨hcs, _⟩ | ⟨a, len', cap', zs, hcs, _, hl, hm, hz, hx, hcell, hwz⟩
  · simp [Value.cells] at hcs
    obtain ⟨rfl, rfl, rfl⟩ := hcs
    exact ⟨[], .inl ⟨rfl, rfl⟩, Nat.zero_le _⟩
  · simp [Value.cells] at hcs
    obtain ⟨rfl, rfl, rfl⟩ := hcs
    have hle : len ≤ zs.length := by rw [hz]; split <;> omega
    simp only [maxLen] at hm
    by_cases h0 : len = 0
    · subst h0
      exact ⟨[], .inr (.inl ⟨a, cap, rfl, rfl⟩), Nat.zero_le _⟩
    · obtain ⟨b, off, rfl, hc⟩ := Go.ints_at hcell (by omega)
      have hlen : (zs.take len).length = len := by simp; omega
      refine ⟨zs.take len, .inr (.inr ⟨b, off, cap, by rw [hlen], block_lt (hc 0 (by omega)), fun i z hi => ?_⟩), by rw [hlen]; omega⟩
      have hil : i < len := by
        have := (List.getElem?_eq_some_iff.1 hi).1
        omega
      rw [List.getElem?_take_of_lt hil] at hi
      rw [hc i (by omega), List.getD_eq_getElem?_getD, hi]
      rfl
end
end Go.Proofs.Ytmmlpbepaefamaa
