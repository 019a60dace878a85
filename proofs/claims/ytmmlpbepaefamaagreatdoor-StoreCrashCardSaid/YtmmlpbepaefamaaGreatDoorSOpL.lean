/- The log of a store is opened once more: over the plain law, with every outcome. -/
import Derived.Test.YtmmlpbepaefamaaGreatDoorSFileX2
namespace Go.Proofs.YtmmlpbepaefamaaGreatDoor
open Go.RowKit Go.MapKept

theorem cut_at {A A' : Fs} {q : Bool} {s : ByteArray} {e : Int} {k : Nat} {f : Dfile} (h : cutR A q s (k : Int) = (e, A')) (hg : getA A s = some f) (hk : k ≤ f.content.length) : (e = 13 ∧ A' = A ∧ q = true) ∨ (e = 0 ∧ A' = setA A s ⟨f.safe, f.ops ++ [.cut k], f.fresh⟩) := by
  unfold cutR at h
  split at h
  · injection h with h1 h2
    exact .inl ⟨h1.symm, h2.symm, ‹_›⟩
  rw [hg] at h
  simp only [] at h
  rw [if_neg (by omega)] at h
  injection h with h1 h2
  exact .inr ⟨h1.symm, by rw [← h2]; rfl⟩
theorem sync_at {A A' : Fs} {q : Bool} {s : ByteArray} {e : Int} {f : Dfile} (h : syncR A q s = (e, A')) (hg : getA A s = some f) : (e = 13 ∧ A' = A ∧ q = true) ∨ (e = 0 ∧ A' = setA A s ⟨f.content, [], false⟩) := by
  unfold syncR at h
  split at h
  · injection h with h1 h2
    exact .inl ⟨h1.symm, h2.symm, ‹_›⟩
  rw [hg] at h
  injection h with h1 h2
  exact .inr ⟨h1.symm, h2.symm⟩
theorem get_setS {A : Fs} {s : ByteArray} {f0 f : Dfile} (hf : getA A s = some f0) (t : ByteArray) : getA (setA A s f) t = if s = t then some f else getA A t := by
  rw [get_set]
  by_cases e : s = t
  · rw [if_pos ⟨e, by rw [hf]; simp⟩, if_pos e]
  · rw [if_neg (fun h => e h.1), if_neg e]
/-- The log's file is written anew. -/
theorem CS.put {A : Fs} {g : Nat} {F0 : KV} {Ls : List (List Chg)} {torn torn' : List (BitVec 8)} {f0 f : Dfile} (h : CS A g F0 Ls torn) (hg : g < 60) (hf : getA A (logN kvB g) = some f0) (hc : f.content = (Ls.map recB).flatMap frameC ++ torn') (ht : readC torn' = some ([], 0) ∧ torn'.length ≤ 3012) : CS (setA A (logN kvB g) f) g F0 Ls torn' := by
  have hfr : ∀ k, g < k → k < 60 → logN kvB g ≠ logN kvB k := fun k hk hk2 e => by have := kv_apart g hg k hk2 e; omega
  refine ⟨h.snap.of ((get_setS hf _).trans (if_neg (kv_others g hg).1)), .inr ⟨f, (get_setS hf _).trans (if_pos rfl), hc⟩, fun k hk hk2 => ?_, ht⟩
  rw [get_setS hf, if_neg (hfr k hk hk2)]
  exact h.free k hk hk2
theorem CS.file {A : Fs} {g : Nat} {F0 : KV} {Ls : List (List Chg)} {torn : List (BitVec 8)} {f : Dfile} (h : CS A g F0 Ls torn) (hf : getA A (logN kvB g) = some f) : f.content = (Ls.map recB).flatMap frameC ++ torn := by
  rcases h.log with ⟨_, _, h3⟩ | ⟨f', h3, h4⟩
  · rw [hf] at h3; cases h3
  · rw [hf] at h3
    injection h3 with h3
    rw [h3]
    exact h4

/-- What stands in a row of records. -/
def RecsAt (w : World) (B : Nat) (u : Value) (Ls : List (List Chg)) : Prop := (∃ a c, u = .slice a Ls.length c) ∧ (Ls ≠ [] → ListsOwn w B u (Ls.map recB))
/-- What Open of the log leaves. -/
def LX (W w w' : World) (d : Nat) (S : Nat → Prop) (A : Fs) (ks : List Int) (g : Nat) (F0 : KV) (Ls : List (List Chg)) (torn : List (BitVec 8)) (n kk : Nat) (p v : Value) (e : Int) : Prop :=
  (∃ A' n' torn' j, p = .pointer none ∧ v = .slice none 0 0 ∧ e = 13 ∧ KX W w w' d S A' ks n' ∧ CS A' g F0 Ls torn' ∧ okS (kk + 2) A' ∧ n' ≤ n + 2 ∧ n < j ∧ j ≤ n' ∧ ((j : Nat) : Int) ∈ ks ∧ torn ≠ []) ∨
  (∃ A' n' S' jb, p = .pointer (some ⟨jb, 0, none⟩) ∧ e = 0 ∧ KD W w' d S' A' ks n' ∧ Only w w' S ∧ (∀ i, i < w.heap.size → S' i → S i) ∧ CS A' g F0 Ls [] ∧ okS (kk + 2) A' ∧ n' ≤ n + 2 ∧ n ≤ n' ∧ (torn = [] → A' = A ∧ n' = n) ∧ Jour w' jb d (logN kvB g) ∧ w.heap.size ≤ jb ∧ ¬ S' jb ∧ RecsAt w' w.heap.size v Ls)

theorem log_open (W w : World) (d n kk : Nat) (S : Nat → Prop) (A : Fs) (ks : List Int) (h : KD W w d S A ks n) (hk : okS kk A) (hkk : kk ≤ 900) (hn : n ≤ 900000) (g : Nat) (hg : g < 60) (F0 : KV) (Ls : List (List Chg)) (hL : ∀ L ∈ Ls, okL L) (hLs : Ls.length ≤ 40) (torn : List (BitVec 8)) (hC : CS A g F0 Ls torn) :
    Calls Tryz.prog 23 #[.pointer (some ⟨d, 0, none⟩), .string (logN kvB g)] w fun r w' => ∃ p v e, r = .returned (.tuple #[p, v, .int .i64 e]) ∧ LX W w w' d S A ks g F0 Ls torn n kk p v e := by
  have hnm := kv_logs g hg
  have hsz : (logN kvB g).size ≤ 1000 := by have := nameN_size hnm; omega
  have hR := recs_ok hL hLs
  have hA := hk.ok (by omega)
  have hSlt : ∀ i, S i → i < w.heap.size := fun i e => (h.old e).1
  have stay : ∀ {w' : World} {jb : Nat} {u : Value}, Jour w' jb d (logN kvB g) → w.heap.size ≤ jb → Below w.heap.size w w' → RecsAt w' w.heap.size u Ls → CS A g F0 Ls [] → ∃ p v e, Ending.returned (.tuple #[.pointer (some ⟨jb, 0, none⟩), u, .int .i64 0]) = .returned (.tuple #[p, v, .int .i64 e]) ∧ LX W w w' d S A ks g F0 Ls torn n kk p v e := fun {w' jb u} hJ hj hb hU hC => ⟨_, _, _, rfl, .inr ⟨A, n, S, jb, rfl, rfl, h.low hb, Only.of_below hb S, fun _ _ e => e, hC, hk.le (by omega), by omega, Nat.le_refl _, fun _ => ⟨rfl, rfl⟩, hJ, hj, fun e => by have := hSlt jb e; omega, hU⟩⟩
  rcases hC.log with ⟨h1, h2, h3⟩ | ⟨f, h3, h4⟩
  · subst h1 h2
    refine (sj_open_none W w d n S A ks _ h hnm hsz h3).mono ?_
    rintro r w' ⟨jb, ua, uc, rfl, hJ, hj, hb⟩
    exact stay hJ hj hb ⟨⟨_, _, rfl⟩, fun e => absurd rfl e⟩ hC
  · have hlen := recs_len hR
    have htl := hC.torn.2
    have hrd := recs_read hR hC.torn.1
    rw [← h4] at hrd
    have hcl : f.content.length = ((Ls.map recB).flatMap frameC).length + torn.length := by rw [h4, List.length_append]
    have sh : ∀ {w' : World} {u : Value}, ListsOwn w' w.heap.size u (Ls.map recB) → RecsAt w' w.heap.size u Ls := fun {w' u} hU => ⟨listsown_slice hU (List.length_map _), fun _ => hU⟩
    by_cases ht : torn = []
    · subst ht
      refine (sj_open_whole W w d n S A ks _ h hA hnm hsz h3 (bs := Ls.map recB) (by rw [hrd, hcl]; rfl)).mono ?_
      rintro r w' ⟨jb, u, rfl, hJ, hj, hU, hb⟩
      exact stay hJ hj hb (sh hU) hC
    · have hpos : 0 < torn.length := List.length_pos_iff.2 ht
      obtain ⟨e1, A1, hc⟩ : ∃ e1 A1, cutR A (refB ks n) (logN kvB g) (((Ls.map recB).flatMap frameC).length : Nat) = (e1, A1) := ⟨_, _, rfl⟩
      obtain ⟨e2, A2, hsy⟩ : ∃ e2 A2, syncR A1 (refB ks (n + 1)) (logN kvB g) = (e2, A2) := ⟨_, _, rfl⟩
      have hk1 : okS (kk + 1) A1 := by have := hk.cut (refB ks n) (logN kvB g) (((Ls.map recB).flatMap frameC).length : Nat); rwa [hc] at this
      have hk2 : okS (kk + 2) A2 := by have := hk1.sync (refB ks (n + 1)) (logN kvB g); rwa [hsy] at this
      refine (sj_open_torn W w d n S A A1 A2 ks _ h hA (hk1.ok (by omega)) hn hnm hsz h3 hrd (by omega) (by omega) e1 e2 hc (fun _ => hsy)).mono ?_
      have hcut := cut_at hc h3 (by omega)
      have hfc : (⟨f.safe, f.ops ++ [.cut ((Ls.map recB).flatMap frameC).length], f.fresh⟩ : Dfile).content = (Ls.map recB).flatMap frameC ++ [] := by
        unfold Dfile.content
        rw [runOps_add]
        show List.take _ f.content = _
        rw [h4, List.take_left, List.append_nil]
      have hnil : readC [] = some ([], 0) ∧ ([] : List (BitVec 8)).length ≤ 3012 := ⟨readC_nil, by simp⟩
      rintro r w' (⟨he, rfl, hX⟩ | ⟨he1, he2, rfl, hX⟩ | ⟨he1, he2, jb, u, rfl, hJ, hj, hU, S', hD, ho, hs, hjS, _⟩)
      · rcases hcut with ⟨rfl, rfl, hq⟩ | ⟨h0, _⟩
        · exact ⟨_, _, _, rfl, .inl ⟨A1, n + 1, torn, n + 1, rfl, rfl, rfl, hX, hC, hk.le (by omega), by omega, by omega, Nat.le_refl _, of_decide_eq_true hq, ht⟩⟩
        · exact absurd h0 he
      · rcases hcut with ⟨h0, _⟩ | ⟨_, hA1⟩
        · rw [he1] at h0; cases h0
        · have hg1 : getA A1 (logN kvB g) = some ⟨f.safe, f.ops ++ [.cut ((Ls.map recB).flatMap frameC).length], f.fresh⟩ := by rw [hA1, get_setS h3, if_pos rfl]
          have hC1 : CS A1 g F0 Ls [] := by rw [hA1]; exact hC.put hg h3 hfc hnil
          rcases sync_at hsy hg1 with ⟨rfl, rfl, hq⟩ | ⟨h0, _⟩
          · have hj1 := of_decide_eq_true hq
            have hj2 : (((n + 2 : Nat)) : Int) ∈ ks := by
              have e : ((n + 2 : Nat) : Int) = ((n + 1 : Nat) : Int) + 1 := by omega
              rw [e]
              exact hj1
            exact ⟨_, _, _, rfl, .inl ⟨A2, n + 2, [], n + 2, rfl, rfl, rfl, hX, hC1, hk2, by omega, by omega, Nat.le_refl _, hj2, ht⟩⟩
          · exact absurd h0 he2
      · rcases hcut with ⟨h0, _⟩ | ⟨_, hA1⟩
        · rw [he1] at h0; cases h0
        · have hg1 : getA A1 (logN kvB g) = some ⟨f.safe, f.ops ++ [.cut ((Ls.map recB).flatMap frameC).length], f.fresh⟩ := by rw [hA1, get_setS h3, if_pos rfl]
          have hC1 : CS A1 g F0 Ls [] := by rw [hA1]; exact hC.put hg h3 hfc hnil
          rcases sync_at hsy hg1 with ⟨h0, _⟩ | ⟨_, hA2⟩
          · rw [he2] at h0; cases h0
          · have hC2 : CS A2 g F0 Ls [] := by rw [hA2]; exact hC1.put hg hg1 (by rw [← hfc]; rfl) hnil
            exact ⟨_, _, _, rfl, .inr ⟨A2, n + 2, S', jb, rfl, rfl, hD, ho, hs, hC2, hk2, by omega, by omega, fun e => absurd e ht, hJ, hj, hjS, sh hU⟩⟩

end Go.Proofs.YtmmlpbepaefamaaGreatDoor
