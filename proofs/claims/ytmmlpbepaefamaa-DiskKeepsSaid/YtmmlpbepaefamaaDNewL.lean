/- disk.New of a list of numbers. -/
import Derived.Test.YtmmlpbepaefamaaDMore
namespace Go.Proofs.Ytmmlpbepaefamaa
open Go.RowKit Go.MapKept

/-- Numbers lie in a slice. -/
def NumsAt (w : World) (v : Value) (l : List Int) : Prop :=
  (∃ a c, v = .slice a 0 c ∧ l = []) ∨ ∃ b off c, v = .slice (some ⟨b, off, none⟩) l.length c ∧ b < w.heap.size ∧ ∀ j z, l[j]? = some z → w.cell? ⟨b, off + j, none⟩ = some (.int .i64 z)
theorem NumsAt.at {w : World} {p : Option Addr} {n c i : Nat} {l : List Int} {z : Int} (h : NumsAt w (.slice p n c) l) (hz : l[i]? = some z) : ∃ b off, p = some ⟨b, off, none⟩ ∧ b < w.heap.size ∧ w.cell? ⟨b, off + i, none⟩ = some (.int .i64 z) := by
  rcases h with ⟨_, _, _, rfl⟩ | ⟨b, off, c', he, hl, hc⟩
  · simp at hz
  · injection he with he
    exact ⟨b, off, he, hl, hc i z hz⟩
theorem NumsAt.low {w w' : World} {v : Value} {l : List Int} (h : NumsAt w v l) (hb : Below w.heap.size w w') : NumsAt w' v l := by
  rcases h with h | ⟨b, off, c, rfl, hl, hc⟩
  · exact .inl h
  · exact .inr ⟨b, off, c, rfl, Nat.lt_of_lt_of_le hl hb.size, fun j z hz => (hb.cell (p := ⟨b, off + j, none⟩) hl).trans (hc j z hz)⟩
theorem NumsAt.len {w : World} {v : Value} {l : List Int} (h : NumsAt w v l) : ∃ a c, v = .slice a l.length c := by
  rcases h with ⟨a, c, rfl, rfl⟩ | ⟨b, off, c, rfl, _, _⟩
  · exact ⟨a, c, rfl⟩
  · exact ⟨_, c, rfl⟩
theorem mem_adds : ∀ (l ks : List Int) (j : Int), j ∈ l.foldl addB ks ↔ j ∈ ks ∨ j ∈ l
  | [], ks, j => by simp
  | k :: l, ks, j => by
    rw [List.foldl_cons, mem_adds l, mem_addB, List.mem_cons, or_assoc]
theorem adds_step (l : List Int) (k : Nat) (z : Int) (h : l[k]? = some z) : (l.take (k + 1)).foldl addB [] = addB ((l.take k).foldl addB []) z := by
  rw [List.take_add_one, h, List.foldl_append]
  rfl
theorem DiskAt.refs {W w w' : World} {d fm rm n : Nat} {own : Nat → Option Nat} {L : List (ByteArray × Nat × Dfile)} {ks ks' : List Int} (h : DiskAt W w d fm rm own L ks n) (hm : MapB w' rm ks') (ho : Only w w' fun i => i = rm) : DiskAt W w' d fm rm own L ks' n := by
  refine ⟨h.box.only ho h.dm.2, h.all.only ho h.fr, hm, fun y hy => ?_, h.nod, h.keys, h.noD, h.noF, h.noR, h.fr, h.ged, h.gef, h.ger, h.below.trans (ho.below h.below.size fun i _ e => e ▸ h.ger), fun i fb e => ⟨(h.old i fb e).1, Nat.lt_of_lt_of_le (h.old i fb e).2 ho.size⟩⟩
  obtain ⟨sv, ov, l, hf⟩ := h.each y hy
  exact ⟨sv, ov, l, hf.only ho (fun i hi e => by rw [e, h.noR] at hi; cases hi) (fun _ _ => rfl)⟩

set_option maxRecDepth 100000 in
theorem dnewl_long (w : World) (a : Option Addr) (c : Nat) (l : List Int) (hl : 4096 < l.length) : Calls Try.prog 9 #[.slice a l.length c] w fun e w' => e = .returned (.tuple #[.pointer none, .int .i64 3]) ∧ w = w' := by
  have g1 : (4096 : Int) < (l.length : Int) := by omega
  go_enter Try.func9, Try.ntmps9
  go_wp2
  go_ret2
  exact ⟨rfl, rfl⟩

set_option maxRecDepth 100000 in
set_option maxHeartbeats 4000000 in
theorem dnewl_calls (w : World) (v : Value) (l : List Int) (hv : NumsAt w v l) (hl : l.length ≤ 4096) : Calls Try.prog 9 #[v] w fun e w' => ∃ d, e = .returned (.tuple #[.pointer (some ⟨d, 0, none⟩), .int .i64 0]) ∧ ∃ fm rm own, DiskAt w w' d fm rm own [] (l.foldl addB []) 0 ∧ (∀ i, own i = none) := by
  obtain ⟨p, c, rfl⟩ := hv.len
  have h1 : ∀ w : World, (Instr.makeMap 71 none).run Try.prog w = .ok (.map (some w.heap.size)) (w.alloc (.map #[] 0)) := fun w => run_makeMap _ w
  have h2 : ∀ w : World, (Instr.makeMap 72 none).run Try.prog w = .ok (.map (some w.heap.size)) (w.alloc (.map #[] 0)) := fun w => run_makeMap _ w
  have hD := DiskAt.start w
  have HV := Lib.hid hv
  obtain ⟨N, hN⟩ : ∃ n, l.length = n := ⟨_, rfl⟩
  rw [hN] at hl HV ⊢
  have HN := Lib.hid hN
  clear hv hN
  have g1 : ¬ (4096 : Int) < (N : Int) := by omega
  go_enter Try.func9, Try.ntmps9
  go_wp2
  try simp only [Nat.add_assoc, Nat.reduceAdd]
  generalize ((w.alloc (.map #[] 0)).alloc (.map #[] 0)).alloc (.cells #[.map (some w.heap.size), .map (some (w.heap.size + 1)), .int .i64 0] 74) = w3 at hD ⊢
  obtain ⟨b, hb⟩ : ∃ x, w.heap.size + 2 = x := ⟨_, rfl⟩
  obtain ⟨fm, hfm⟩ : ∃ x, w.heap.size = x := ⟨_, rfl⟩
  have hD2 : DiskAt w w3 b fm (fm + 1) (fun _ => none) [] [] 0 := by rw [← hb, ← hfm]; exact hD
  have HD := Lib.hid hD2
  rw [hb]
  clear hD hD2 hb g1
  go_loopw [6, 16] (fun _ i wr => ∃ k : Nat, k ≤ N ∧ i = .int .i64 k ∧ DiskAt w wr b fm (fm + 1) (fun _ => none) [] ((l.take k).foldl addB []) 0) (fun _ i _ => N - (intOf i).toNat)
  case atStart => exact ⟨0, by omega, rfl, by rw [List.take_zero]; exact HD.out⟩
  case round =>
    obtain ⟨k, hkN, rfl, hD⟩ := hrel
    by_cases hlt : k < N
    · obtain ⟨z, hz⟩ : ∃ z, l[k]? = some z := ⟨_, List.getElem?_eq_getElem (by rw [HN.out]; exact hlt)⟩
      obtain ⟨g, off, rfl, hg, hc⟩ := (HV.out.low hD.below).at hz
      have i1 : (k : Int) < (N : Int) := by omega
      have i2 : 0 ≤ (k : Int) ∧ (k : Int) < (N : Int) := by omega
      have b2 : IntKind.i64.wrap ((k : Int) + 1) = (k : Int) + 1 := IntWalk.i64_in _ (by omega)
      have c1 := hD.box.cell 1
      have c3 := hD.box.cell 0
      obtain ⟨w4, hr4, M4, O4, _⟩ := put_B (P := Try.prog) Try.underlying72 Try.underlying3 hD.ref z
      have D4 := hD.refs M4 O4
      have HZ := Lib.hid (adds_step l k z hz)
      clear hz hg
      go_wp2
      go_roundw
      case rel => exact ⟨k + 1, by omega, by go_num, by rw [HZ.out]; exact D4⟩
      case measure => simp [intOf]; omega
    · obtain rfl : k = N := by omega
      have i1 : ¬ (k : Int) < (k : Int) := by omega
      have HE := Lib.hid (show l.take k = l from List.take_of_length_le (Nat.le_of_eq HN.out))
      go_wp2
      go_ret2
      exact ⟨_, rfl, fm, fm + 1, _, by rw [HE.out] at hD; exact hD, fun _ => rfl⟩

end Go.Proofs.Ytmmlpbepaefamaa
