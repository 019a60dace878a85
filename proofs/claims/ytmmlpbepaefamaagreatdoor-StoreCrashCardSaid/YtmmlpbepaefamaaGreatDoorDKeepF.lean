/- DiskKeeps: what the file holds, and what a crash leaves of it. -/
import Derived.Test.YtmmlpbepaefamaaGreatDoorDKnown
import Derived.Test.YtmmlpbepaefamaaGreatDoorJArgs
import Derived.Test.YtmmlpbepaefamaaGreatDoorMemX6
namespace Go.Proofs.YtmmlpbepaefamaaGreatDoor
open Go.RowKit Go.Maps Go.Sort Go.Shelf

/-- How many pieces are synced once there are k. -/
def syncd (s k : Nat) : Nat := if s ≤ k then s else 0
theorem syncd_le (s k : Nat) : syncd s k ≤ k := by
  unfold syncd
  split <;> omega
theorem syncd_new (s k : Nat) (h : s = k + 1) : syncd s k = 0 ∧ syncd s (k + 1) = k + 1 := by
  unfold syncd
  constructor
  · rw [if_neg (by omega)]
  · rw [if_pos (by omega), h]
theorem syncd_old (s k : Nat) (h : s ≠ k + 1) : syncd s (k + 1) = syncd s k := by
  unfold syncd
  split <;> split <;> omega
/-- The file: k pieces, of which a are synced. -/
def pf (ls : List (List (BitVec 8))) (a k : Nat) : Dfile := ⟨(ls.take a).flatten, ((ls.take k).drop a).map .add, decide (a = 0)⟩
def pfs (s : ByteArray) (ls : List (List (BitVec 8))) (a k : Nat) : Fs := if k = 0 then [] else [(s, pf ls a k)]
theorem runOps_pieces : ∀ (xs : List (List (BitVec 8))) (l : List (BitVec 8)), runOps l (xs.map Dop.add) = l ++ xs.flatten
  | [], l => by simp [runOps]
  | x :: xs, l => by
    have ih := runOps_pieces xs (l ++ x)
    unfold runOps at ih ⊢
    rw [List.map_cons, List.foldl_cons, List.flatten_cons, ← List.append_assoc, ← ih]
    rfl
theorem pf_content (ls : List (List (BitVec 8))) (a k : Nat) (h : a ≤ k) : (pf ls a k).content = (ls.take k).flatten := by
  unfold Dfile.content pf
  rw [runOps_pieces]
  have : ls.take a = (ls.take k).take a := by rw [List.take_take, Nat.min_eq_left h]
  rw [this, ← List.flatten_append, List.take_append_drop]
theorem pf_add (ls : List (List (BitVec 8))) (a k : Nat) (x : List (BitVec 8)) (h : a ≤ k) (hx : ls[k]? = some x) : (⟨(pf ls a k).safe, (pf ls a k).ops ++ [.add x], (pf ls a k).fresh⟩ : Dfile) = pf ls a (k + 1) := by
  unfold pf
  have hl : k < ls.length := (List.getElem?_eq_some_iff.1 hx).1
  have : (ls.take (k + 1)).drop a = (ls.take k).drop a ++ [x] := by
    rw [List.take_add_one, hx, List.drop_append_of_le_length (by rw [List.length_take]; omega)]
    rfl
  rw [this, List.map_append]
  rfl
theorem pf_sync (ls : List (List (BitVec 8))) (a k : Nat) (h : a ≤ k) (hk : k ≠ 0) : (⟨(pf ls a k).content, [], false⟩ : Dfile) = pf ls k k := by
  rw [pf_content ls a k h]
  unfold pf
  rw [List.drop_of_length_le (by rw [List.length_take]; omega), decide_eq_false hk]
  rfl
theorem pf_ops (ls : List (List (BitVec 8))) (a k : Nat) : (pf ls a k).ops.length ≤ ls.length := by
  unfold pf
  simp
  omega
theorem flat_take (ls : List (List (BitVec 8))) (k : Nat) (x : List (BitVec 8)) (hx : ls[k]? = some x) : (ls.take (k + 1)).flatten = (ls.take k).flatten ++ x := by
  rw [List.take_add_one, hx, List.flatten_append]
  simp
theorem pieces_len : ∀ (ls : List (List (BitVec 8))), (∀ x ∈ ls, x.length ≤ 500) → ls.flatten.length ≤ 500 * ls.length
  | [], _ => by simp
  | x :: ls, h => by
    have h1 := h x List.mem_cons_self
    have h2 := pieces_len ls fun y hy => h y (List.mem_cons_of_mem _ hy)
    rw [List.flatten_cons, List.length_append, List.length_cons]
    omega
/-- All pieces up to here are short. -/
def shortTo (ls : List (List (BitVec 8))) (k : Nat) : Prop := ∀ x ∈ ls.take k, x.length ≤ 500
theorem shortTo_step {ls : List (List (BitVec 8))} {k : Nat} {x : List (BitVec 8)} (h : shortTo ls k) (hx : ls[k]? = some x) (hl : x.length ≤ 500) : shortTo ls (k + 1) := fun y hy => by
  rw [List.take_add_one, hx] at hy
  rcases List.mem_append.1 hy with hy | hy
  · exact h y hy
  · obtain rfl : y = x := by simpa using hy
    exact hl
theorem shortTo_len {ls : List (List (BitVec 8))} {k : Nat} (h : shortTo ls k) (hk : k ≤ 40) : ((ls.take k).flatten).length ≤ 20000 := by
  have h1 := pieces_len _ h
  rw [List.length_take] at h1
  have : 500 * min k ls.length ≤ 500 * 40 := Nat.mul_le_mul_left _ (by omega)
  omega
theorem log_named : nameN ⟨#[108, 111, 103]⟩ = true := by kernel_rfl
theorem pfs_ok (s : ByteArray) (hs : s.size ≤ 1000) (ls : List (List (BitVec 8))) (hl : ls.length ≤ 40) (a k : Nat) : okA (pfs s ls a k) := by
  unfold pfs
  split
  · exact ⟨by simp, by simp⟩
  · refine ⟨by simp, fun x hx => ?_⟩
    obtain rfl : x = _ := by simpa using hx
    have := pf_ops ls a k
    exact ⟨by show (pf ls a k).ops.length ≤ 80000; omega, hs⟩
theorem pfs_app (s : ByteArray) (hnm : nameN s = true) (ls : List (List (BitVec 8))) (a k : Nat) (x : List (BitVec 8)) (hx : ls[k]? = some x) (ha : a ≤ k) (hsh : shortTo ls (k + 1)) (hk : k < 40) : appR (pfs s ls a k) false s x = (0, pfs s ls a (k + 1)) := by
  unfold appR
  rw [if_neg (by decide), hnm, if_neg (by decide)]
  have hlen := shortTo_len hsh (by omega)
  rw [flat_take ls k x hx, List.length_append] at hlen
  by_cases hk0 : k = 0
  · subst hk0
    obtain rfl : a = 0 := by omega
    have h1 : pfs s ls 0 0 = [] := if_pos rfl
    rw [h1]
    show (if 64 ≤ 0 then _ else if 1048576 < x.length then _ else _) = _
    rw [if_neg (by decide), if_neg (by omega)]
    have : pfs s ls 0 (0 + 1) = [(s, pf ls 0 (0 + 1))] := if_neg (by decide)
    rw [this, ← pf_add ls 0 0 x (Nat.le_refl _) hx]
    simp [pf]
  · have h1 : pfs s ls a k = [(s, pf ls a k)] := if_neg hk0
    have h2 : pfs s ls a (k + 1) = [(s, pf ls a (k + 1))] := if_neg (by omega)
    have h3 : getA [(s, pf ls a k)] s = some (pf ls a k) := if_pos rfl
    rw [h1, h3]
    simp only []
    rw [pf_content ls a k ha, if_neg (by omega), h2, pf_add ls a k x ha hx]
    unfold setA
    rw [if_pos rfl]
theorem pfs_sync (s : ByteArray) (ls : List (List (BitVec 8))) (a k : Nat) (ha : a ≤ k) (hk : k ≠ 0) : syncR (pfs s ls a k) false s = (0, pfs s ls k k) := by
  have h1 : pfs s ls a k = [(s, pf ls a k)] := if_neg hk
  have h2 : pfs s ls k k = [(s, pf ls k k)] := if_neg hk
  have h3 : getA [(s, pf ls a k)] s = some (pf ls a k) := if_pos rfl
  unfold syncR
  rw [if_neg (by decide), h1, h3]
  simp only []
  rw [pf_sync ls a k ha hk, h2]
  unfold setA
  rw [if_pos rfl]
/-- Behind a crash there is what was safe, and it is the beginning of all. -/
theorem pf_crash (ls : List (List (BitVec 8))) (a : Nat) (x y : Int) : ∃ r1 r2, crashS (pf ls a ls.length) x y = (ls.take a).flatten ++ r1 ∧ ls.flatten = crashS (pf ls a ls.length) x y ++ r2 := by
  have hops : (pf ls a ls.length).ops = (ls.drop a).map Dop.add := by
    unfold pf
    rw [List.take_length]
  generalize hk : crashK (pf ls a ls.length) x = K
  have hrun : runOps (pf ls a ls.length).safe ((pf ls a ls.length).ops.take K) = (ls.take (a + K)).flatten := by
    rw [hops, ← List.map_take, runOps_pieces]
    show (ls.take a).flatten ++ _ = _
    rw [← List.flatten_append, List.take_add]
  have hrun2 : (ls.take (a + K)).flatten = (ls.take a).flatten ++ ((ls.drop a).take K).flatten := by
    rw [← List.flatten_append, List.take_add]
  have hat : (pf ls a ls.length).ops[K]? = (ls[a + K]?).map Dop.add := by
    rw [hops, List.getElem?_map, List.getElem?_drop]
  have hall : ls.flatten = (ls.take (a + K)).flatten ++ (ls.drop (a + K)).flatten := by
    rw [← List.flatten_append, List.take_append_drop]
  unfold crashS
  rw [hk, hrun, hat]
  cases hz : ls[a + K]? with
  | none => exact ⟨_, _, hrun2, hall⟩
  | some z =>
    simp only [Option.map_some]
    refine ⟨((ls.drop a).take K).flatten ++ z.take (min y.toNat z.length), z.drop (min y.toNat z.length) ++ (ls.drop (a + K + 1)).flatten, by rw [hrun2, List.append_assoc], ?_⟩
    have hd : ls.drop (a + K) = z :: ls.drop (a + K + 1) := by
      obtain ⟨h1, h2⟩ := List.getElem?_eq_some_iff.1 hz
      rw [List.drop_eq_getElem_cons h1, h2]
    rw [hall, hd, List.flatten_cons, List.append_assoc]
    congr 1
    rw [← List.append_assoc, List.take_append_drop]
/-- What the disk has behind the crash. -/
theorem pfs_crash (s : ByteArray) (ls : List (List (BitVec 8))) (a : Nat) (ha : a ≤ ls.length) (op by_ : Int) :
    (crashF [⟨s, op, by_⟩] (pfs s ls a ls.length) = [] ∧ a = 0) ∨ ∃ C r1 r2, crashF [⟨s, op, by_⟩] (pfs s ls a ls.length) = [(s, ⟨C, [], false⟩)] ∧ C = (ls.take a).flatten ++ r1 ∧ ls.flatten = C ++ r2 := by
  unfold pfs
  by_cases h0 : ls.length = 0
  · rw [if_pos h0]
    exact .inl ⟨rfl, by omega⟩
  · rw [if_neg h0]
    obtain ⟨r1, r2, h1, h2⟩ := pf_crash ls a (keepOf [⟨s, op, by_⟩] s).1 (keepOf [⟨s, op, by_⟩] s).2
    unfold crashF
    by_cases hb : crashB (pf ls a ls.length) (keepOf [⟨s, op, by_⟩] s).1 (keepOf [⟨s, op, by_⟩] s).2 = true
    · rw [if_pos hb]
      exact .inr ⟨_, r1, r2, rfl, h1, h2⟩
    · rw [if_neg hb]
      refine .inl ⟨rfl, Classical.byContradiction fun ha0 => hb ?_⟩
      unfold crashB pf
      rw [decide_eq_false ha0]
      rfl
theorem crash_again (s : ByteArray) (C : List (BitVec 8)) : crashF [] [(s, (⟨C, [], false⟩ : Dfile))] = [(s, ⟨C, [], false⟩)] := rfl

/-- Blocks that are not the disk's change. -/
theorem KD.only {W w w' : World} {d n : Nat} {S T : Nat → Prop} {A : Fs} {ks : List Int} (h : KD W w d S A ks n) (ho : Only w w' T) (hT : ∀ i, i < w.heap.size → T i → ¬ S i) (hB : ∀ i, i < w.heap.size → T i → W.heap.size ≤ i) : KD W w' d S A ks n := by
  obtain ⟨fm, rm, own, L, h1, h2, h3⟩ := h
  have ho2 : Only w w' fun i => T i ∧ i < w.heap.size := ho.weak fun i hi e => ⟨e, hi⟩
  refine ⟨fm, rm, own, L, h1.only ho2 (fun e => hT d e.2 e.1 ((h3 d).2 (.inl rfl))) (fun e => hT fm e.2 e.1 ((h3 fm).2 (.inr (.inl rfl)))) (fun e => hT rm e.2 e.1 ((h3 rm).2 (.inr (.inr (.inl rfl))))) (fun i fb e e2 => hT i e2.2 e2.1 ((h3 i).2 (.inr (.inr (.inr (by rw [e]; simp)))))) (fun i e => hB i e.2 e.1), h2, h3⟩
theorem Free.front {w : World} {S : Nat → Prop} {a : Option Addr} {k n c : Nat} {l : List (BitVec 8)} (h : Free w S (.slice a k c) l) (hn : n ≤ l.length) : SliceIs w (.slice a n c) (l.take n) := by
  obtain ⟨⟨B, h1⟩, _⟩ := h
  exact (Own.front h1 hn).slice
theorem Free.cap {w : World} {S : Nat → Prop} {a : Option Addr} {k c : Nat} {l : List (BitVec 8)} (h : Free w S (.slice a k c) l) : k = l.length ∧ l.length ≤ c := by
  obtain ⟨⟨B, h1⟩, _⟩ := h
  obtain ⟨a2, c2, he⟩ := slice_of_row h1
  injection he with e1 e2 e3
  subst e1 e2 e3
  exact ⟨rfl, row_cap h1⟩

end Go.Proofs.YtmmlpbepaefamaaGreatDoor
