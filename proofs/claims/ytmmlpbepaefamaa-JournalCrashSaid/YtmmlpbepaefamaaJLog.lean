/- A log in memory. -/
import Derived.Test.YtmmlpbepaefamaaJName
import Derived.Test.YtmmlpbepaefamaaJRead
import Derived.Test.YtmmlpbepaefamaaDNew
import Derived.Great.FillDense
namespace Go.Proofs.Ytmmlpbepaefamaa
open Go.RowKit

def zeroJ : Array Value := (.pointer none :: .string ⟨#[]⟩ :: (zeroNums .u32 256 ++ [.int .i64 0, .int .i64 0])).toArray
theorem built_jour_eq (parts : List (Nat × Value)) : Try.prog.built 79 parts = Instr.fill ((#[(0, 1), (1, 1), (2, 256), (258, 1), (259, 1)] : Array (Nat × Nat))[·]?) zeroJ parts := by kernel_rfl
def jourC (d : Nat) (s : ByteArray) (n z : Int) : List Value := .pointer (some ⟨d, 0, none⟩) :: .string s :: (tabRow 256 ++ [.int .i64 n, .int .i64 z])
theorem fill_mid (pre mid new post : List Value) (h : new.length = mid.length) (cs : Array Value) (hc : cs = (pre ++ (mid ++ post)).toArray) :
    (new.zipIdx 0).foldl (fun cs (x : Value × Nat) => cs.setIfInBounds (pre.length + x.2) x.1) cs = (pre ++ (new ++ post)).toArray := by
  obtain ⟨s1, k1⟩ := Great.foldl_set pre.length new 0 cs
  have hs : cs.size = pre.length + (mid.length + post.length) := by rw [hc]; simp
  apply Array.ext_getElem?
  intro k
  rw [k1]
  by_cases h1 : k < pre.length
  · rw [if_neg (by omega), hc]
    simp [List.getElem?_append_left h1]
  · by_cases h2 : k < pre.length + new.length
    · rw [if_pos (by omega)]
      simp only [List.getElem?_toArray]
      rw [List.getElem?_append_right (by omega), List.getElem?_append_left (by omega), Nat.add_zero]
    · rw [if_neg (by omega), hc]
      simp only [List.getElem?_toArray]
      rw [List.getElem?_append_right (by omega), List.getElem?_append_right (by omega), List.getElem?_append_right (by omega), List.getElem?_append_right (by omega), h]
theorem whole_ne {w : World} {g g' : Nat} {t t' : TypeId} {l l' : List Value} (h : Whole w g t l) (h' : Whole w g' t' l') (ht : t ≠ t') : g ≠ g' := fun e => by
  subst e
  unfold Whole at h h'
  rw [h] at h'
  injection h' with h'
  injection h' with _ h' _
  exact ht h'
theorem built_jour (d : Nat) (s : ByteArray) : Try.prog.built 79 [(0, .pointer (some ⟨d, 0, none⟩)), (1, .string s), (2, .agg (tabRow 256).toArray)] = some (jourC d s 0 0).toArray := by
  rw [built_jour_eq]
  have e0 : (Value.pointer (some ⟨d, 0, none⟩)).cells = #[.pointer (some ⟨d, 0, none⟩)] := rfl
  have e1 : (Value.string s).cells = #[.string s] := rfl
  have e2 : ∀ T : List Value, (Value.agg T.toArray).cells = T.toArray := fun _ => rfl
  have hl := tabRow_length 256
  obtain ⟨Z, hZ, hz⟩ : ∃ Z, zeroNums .u32 256 = Z ∧ Z.length = 256 := ⟨_, rfl, List.length_replicate⟩
  have zJ : zeroJ = (.pointer none :: .string ⟨#[]⟩ :: (Z ++ [.int .i64 0, .int .i64 0])).toArray := by unfold zeroJ; rw [hZ]
  clear hZ
  obtain ⟨T, hT⟩ : ∃ T, tabRow 256 = T := ⟨_, rfl⟩
  unfold jourC
  rw [zJ]
  rw [hT] at hl ⊢
  clear hT
  have p0 : (#[(0, 1), (1, 1), (2, 256), (258, 1), (259, 1)] : Array (Nat × Nat))[0]? = some (0, 1) := rfl
  have p1 : (#[(0, 1), (1, 1), (2, 256), (258, 1), (259, 1)] : Array (Nat × Nat))[1]? = some (1, 1) := rfl
  have p2 : (#[(0, 1), (1, 1), (2, 256), (258, 1), (259, 1)] : Array (Nat × Nat))[2]? = some (2, 256) := rfl
  simp only [Instr.fill, p0, p1, p2, e0, e1, e2, List.size_toArray, hl]
  rw [if_neg (by simp [hz])]
  have q0 : (#[Value.pointer (some ⟨d, 0, none⟩)].zipIdx.foldl (fun cs (c, j) => cs.setIfInBounds (0 + j) c) (.pointer none :: .string ⟨#[]⟩ :: (Z ++ [.int .i64 0, .int .i64 0])).toArray) = (.pointer (some ⟨d, 0, none⟩) :: .string ⟨#[]⟩ :: (Z ++ [.int .i64 0, .int .i64 0])).toArray := by
    rw [← Array.foldl_toList, Array.toList_zipIdx]
    simp
  rw [q0, if_neg (by simp [hz])]
  have q1 : (#[Value.string s].zipIdx.foldl (fun cs (c, j) => cs.setIfInBounds (1 + j) c) (.pointer (some ⟨d, 0, none⟩) :: .string ⟨#[]⟩ :: (Z ++ [.int .i64 0, .int .i64 0])).toArray) = (.pointer (some ⟨d, 0, none⟩) :: .string s :: (Z ++ [.int .i64 0, .int .i64 0])).toArray := by
    rw [← Array.foldl_toList, Array.toList_zipIdx]
    simp
  rw [q1, if_neg (by simp [hz])]
  rw [← Array.foldl_toList, Array.toList_zipIdx]
  exact congrArg some (fill_mid [.pointer (some ⟨d, 0, none⟩), .string s] Z T [.int .i64 0, .int .i64 0] (by rw [hl, hz]) _ rfl)
theorem jourC_length (d : Nat) (s : ByteArray) (n z : Int) : (jourC d s n z).length = 260 := by simp [jourC, tabRow_length]
theorem jourC_n (d : Nat) (s : ByteArray) (n z : Int) : (jourC d s n z)[258]? = some (.int .i64 n) := by
  unfold jourC
  rw [List.getElem?_cons_succ, List.getElem?_cons_succ, List.getElem?_append_right (by simp [tabRow_length]), tabRow_length]
  rfl
theorem jourC_z (d : Nat) (s : ByteArray) (n z : Int) : (jourC d s n z)[259]? = some (.int .i64 z) := by
  unfold jourC
  rw [List.getElem?_cons_succ, List.getElem?_cons_succ, List.getElem?_append_right (by simp [tabRow_length]), tabRow_length]
  rfl
theorem jourC_setN (d : Nat) (s : ByteArray) (n z m : Int) : (jourC d s n z).set 258 (.int .i64 m) = jourC d s m z := by
  unfold jourC
  rw [List.set_cons_succ, List.set_cons_succ, List.set_append_right _ _ (by simp [tabRow_length]), tabRow_length]
  rfl
theorem jourC_setZ (d : Nat) (s : ByteArray) (n z m : Int) : (jourC d s n z).set 259 (.int .i64 m) = jourC d s n m := by
  unfold jourC
  rw [List.set_cons_succ, List.set_cons_succ, List.set_append_right _ _ (by simp [tabRow_length]), tabRow_length]
  rfl
theorem jour_tab {w : World} {jb d : Nat} {s : ByteArray} {n z : Int} {t : TypeId} (h : Whole w jb t (jourC d s n z)) : TabAt w jb 2 :=
  ⟨h.lt, fun i hi => by
    rw [h.cell]
    unfold jourC
    rw [show 2 + i = i + 1 + 1 by omega, List.getElem?_cons_succ, List.getElem?_cons_succ, List.getElem?_append_left (by rw [tabRow_length]; exact hi)]
    exact tabRow_at i hi⟩

/-- A log and its disk. -/
structure LogAt (W w : World) (jb d fm rm : Nat) (own : Nat → Option Nat) (L : List (ByteArray × Nat × Dfile)) (ks : List Int) (c : Nat) (s : ByteArray) (n z : Int) : Prop where
  disk : DiskAt W w d fm rm own L ks c
  jour : Whole w jb 79 (jourC d s n z)
  mine : own jb = none
  gej : W.heap.size ≤ jb
theorem LogAt.ne {W w : World} {jb d fm rm c : Nat} {own : Nat → Option Nat} {L : List (ByteArray × Nat × Dfile)} {ks : List Int} {s : ByteArray} {n z : Int} (h : LogAt W w jb d fm rm own L ks c s n z) : jb ≠ d ∧ jb ≠ fm := by
  obtain ⟨e, c, hm, _⟩ := h.disk.all
  exact ⟨whole_ne h.jour h.disk.box (by decide), whole_ne_map h.jour hm⟩
theorem LogAt.low {W w w' : World} {jb d fm rm c : Nat} {own : Nat → Option Nat} {L : List (ByteArray × Nat × Dfile)} {ks : List Int} {s : ByteArray} {n z : Int} (h : LogAt W w jb d fm rm own L ks c s n z) (hb : Below w.heap.size w w') : LogAt W w' jb d fm rm own L ks c s n z :=
  ⟨h.disk.low hb, h.jour.below hb h.jour.lt, h.mine, h.gej⟩
/-- The disk did something. -/
theorem LogAt.did {W w w' : World} {jb d fm rm c c' : Nat} {own own' : Nat → Option Nat} {L L' : List (ByteArray × Nat × Dfile)} {ks : List Int} {s : ByteArray} {n z : Int} (h : LogAt W w jb d fm rm own L ks c s n z) (hd : DiskAt W w' d fm rm own' L' ks c')
    (he : ∀ i, i < w.heap.size → own' i = own i) (ho : Only w w' fun i => i = d ∨ i = fm ∨ own i ≠ none) : LogAt W w' jb d fm rm own' L' ks c' s n z :=
  ⟨hd, h.jour.only ho (fun e => by rcases e with e | e | e; exact h.ne.1 e; exact h.ne.2 e; exact e h.mine), (he _ h.jour.lt).trans h.mine, h.gej⟩
theorem LogAt.setN {W w : World} {jb d fm rm c : Nat} {own : Nat → Option Nat} {L : List (ByteArray × Nat × Dfile)} {ks : List Int} {s : ByteArray} {n z : Int} (h : LogAt W w jb d fm rm own L ks c s n z) (m : Int) : LogAt W (w.setCell ⟨jb, 258, none⟩ (.int .i64 m)) jb d fm rm own L ks c s m z :=
  ⟨h.disk.far h.mine h.ne.1 h.ne.2 h.gej (by obtain ⟨_, _, hm, _⟩ := h.disk.ref; exact whole_ne_map h.jour hm) _ _, by have := h.jour.put 258 (.int .i64 m); rwa [jourC_setN] at this, h.mine, h.gej⟩
theorem LogAt.setZ {W w : World} {jb d fm rm c : Nat} {own : Nat → Option Nat} {L : List (ByteArray × Nat × Dfile)} {ks : List Int} {s : ByteArray} {n z : Int} (h : LogAt W w jb d fm rm own L ks c s n z) (m : Int) : LogAt W (w.setCell ⟨jb, 259, none⟩ (.int .i64 m)) jb d fm rm own L ks c s n m :=
  ⟨h.disk.far h.mine h.ne.1 h.ne.2 h.gej (by obtain ⟨_, _, hm, _⟩ := h.disk.ref; exact whole_ne_map h.jour hm) _ _, by have := h.jour.put 259 (.int .i64 m); rwa [jourC_setZ] at this, h.mine, h.gej⟩

set_option maxRecDepth 100000 in
theorem jnone_calls (w : World) (jb d : Nat) (h : w.cell? ⟨jb, 0, none⟩ = some (.pointer (some ⟨d, 0, none⟩))) : Calls Try.prog 38 #[.pointer (some ⟨jb, 0, none⟩)] w fun e w' => e = .returned (.bool false) ∧ w = w' := by
  go_enter Try.func38, Try.ntmps38
  go_wp2
  go_ret
  exact ⟨rfl, rfl⟩
set_option maxRecDepth 100000 in
theorem jlen_calls (w : World) (jb d : Nat) (s : ByteArray) (n z : Int) (h : Whole w jb 79 (jourC d s n z)) : Calls Try.prog 15 #[.pointer (some ⟨jb, 0, none⟩)] w fun e w' => e = .returned (.int .i64 n) ∧ w = w' := by
  have HN := Lib.hid (jnone_calls w jb d (h.cell 0))
  have c1 : w.cell? ⟨jb, 258, none⟩ = some (.int .i64 n) := (h.cell 258).trans (jourC_n d s n z)
  clear h
  go_enter Try.func15, Try.ntmps15
  go_wp2_with (first
    | (go_at_call 38; refine HN.out.mono ?_; rintro e w' ⟨rfl, rfl⟩)
    | fail)
  go_ret
  exact ⟨rfl, rfl⟩
set_option maxRecDepth 100000 in
theorem jsize_calls (w : World) (jb d : Nat) (s : ByteArray) (n z : Int) (h : Whole w jb 79 (jourC d s n z)) : Calls Try.prog 34 #[.pointer (some ⟨jb, 0, none⟩)] w fun e w' => e = .returned (.int .i64 z) ∧ w = w' := by
  have HN := Lib.hid (jnone_calls w jb d (h.cell 0))
  have c1 : w.cell? ⟨jb, 259, none⟩ = some (.int .i64 z) := (h.cell 259).trans (jourC_z d s n z)
  clear h
  go_enter Try.func34, Try.ntmps34
  go_wp2_with (first
    | (go_at_call 38; refine HN.out.mono ?_; rintro e w' ⟨rfl, rfl⟩)
    | fail)
  go_ret
  exact ⟨rfl, rfl⟩

end Go.Proofs.Ytmmlpbepaefamaa
