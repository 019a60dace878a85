/- What StoreKnown's steps make of the files, plainly. -/
import Derived.Test.YtmmlpbepaefamaaGreatDoorDKeepF
import Derived.Test.YtmmlpbepaefamaaGreatDoorSMoreX2
import Derived.Test.YtmmlpbepaefamaaGreatDoorSOpen
namespace Go.Proofs.YtmmlpbepaefamaaGreatDoor
open Go.RowKit Go.MapKept

def l0 : ByteArray := logN kvB 0
theorem l0_ok : nameN l0 = true := kv_logs 0 (by decide)
theorem l0_tmp : ¬ l0 = tmpN kvB := (kv_others 0 (by decide)).2
theorem l0_snap : ¬ l0 = snapN kvB := (kv_others 0 (by decide)).1
theorem get_one (s t : ByteArray) (f : Dfile) : getA [(s, f)] t = if s = t then some f else none := rfl
theorem kapp_new (b : List (BitVec 8)) (hb : b.length ≤ 5000) : appR [] false l0 b = (0, [(l0, ⟨[], [.add b], true⟩)]) := by
  unfold appR
  rw [if_neg (by decide), l0_ok, if_neg (by decide)]
  show (if 64 ≤ ([] : Fs).length then _ else _) = _
  rw [if_neg (by decide), if_neg (by omega)]
  rfl
theorem kapp_one (f : Dfile) (b : List (BitVec 8)) (hb : f.content.length + b.length ≤ 1048576) : appR [(l0, f)] false l0 b = (0, [(l0, ⟨f.safe, f.ops ++ [.add b], f.fresh⟩)]) := by
  unfold appR
  rw [if_neg (by decide), l0_ok, if_neg (by decide), get_one, if_pos rfl]
  simp only []
  rw [if_neg (by omega)]
  unfold setA
  rw [if_pos rfl]
theorem ksync_one (f : Dfile) : syncR [(l0, f)] false l0 = (0, [(l0, ⟨f.content, [], false⟩)]) := by
  unfold syncR
  rw [if_neg (by decide), get_one, if_pos rfl]
  simp only []
  unfold setA
  rw [if_pos rfl]
theorem kcrash_one (f : Dfile) : crashF [] [(l0, f)] = if f.fresh = true then [] else [(l0, ⟨f.safe, [], false⟩)] := by
  obtain ⟨h1, h2⟩ := crash_none f
  show (if crashB f 0 0 = true then [(l0, (⟨crashS f 0 0, [], false⟩ : Dfile))] else []) ++ [] = _
  rw [h1, h2, List.append_nil]
  cases f.fresh <;> rfl
theorem kok_one (s : ByteArray) (f : Dfile) (hs : s.size ≤ 1000) (hf : f.ops.length ≤ 5) : okS 5 [(s, f)] := ⟨by simp, by simp, fun x hx => by
  obtain rfl : x = (s, f) := by simpa using hx
  exact ⟨hf, hs⟩⟩
theorem l0_size : l0.size ≤ 1000 := by have := nameN_size l0_ok; omega
theorem snap_size : (snapN kvB).size ≤ 1000 := by have := nameN_size kv_snap.1; omega

/-- Nothing is refused. -/
theorem kfree {ks : List Int} (h : ∀ k, ¬ k ∈ ks) (n : Nat) : refB ks n = false := decide_eq_false (h _)
theorem kck {ks : List Int} (hks : ∀ k, ¬ k ∈ ks) (f : Dfile) (b : List (BitVec 8)) (hb : b.length ≤ 1048576) {n n' g' : Nat} {e : Int} {A' : Fs} (h : CkOut ks kvB 0 b [(l0, f)] n e g' A' n') : e = 0 ∧ g' = 1 ∧ A' = [(snapN kvB, ⟨b, [], false⟩)] := by
  have hts : ¬ tmpN kvB = l0 := fun e => l0_tmp e.symm
  have hsl : ¬ snapN kvB = l0 := fun e => l0_snap e.symm
  have hst : ¬ snapN kvB = tmpN kvB := kv_snap.2.2
  have s0 : ckStep ks kvB b 0 [(l0, f)] n = (0, [(l0, f)], n) := by
    have : getA [(l0, f)] (tmpN kvB) = none := by rw [get_one, if_neg l0_tmp]
    simp only [ckStep, this]
  have s2 : ckStep ks kvB b 2 [(l0, f)] n = (0, [(l0, f), (tmpN kvB, ⟨[], [.add b], true⟩)], n + 1) := by
    have : appR [(l0, f)] false (tmpN kvB) b = (0, [(l0, f), (tmpN kvB, ⟨[], [.add b], true⟩)]) := by
      unfold appR
      rw [if_neg (by decide), kv_snap.2.1, if_neg (by decide), get_one, if_neg l0_tmp]
      simp only []
      rw [if_neg (by simp), if_neg (by omega)]
      rfl
    show ((appR [(l0, f)] (refB ks n) (tmpN kvB) b).1, (appR [(l0, f)] (refB ks n) (tmpN kvB) b).2, n + 1) = _
    rw [kfree hks, this]
  have s3 : ckStep ks kvB b 3 [(l0, f), (tmpN kvB, ⟨[], [.add b], true⟩)] (n + 1) = (0, [(l0, f), (tmpN kvB, ⟨b, [], false⟩)], n + 2) := by
    have hg : getA [(l0, f), (tmpN kvB, (⟨[], [.add b], true⟩ : Dfile))] (tmpN kvB) = some ⟨[], [.add b], true⟩ := by rw [getA_cons, if_neg l0_tmp, get_one, if_pos rfl]
    have : syncR [(l0, f), (tmpN kvB, ⟨[], [.add b], true⟩)] false (tmpN kvB) = (0, [(l0, f), (tmpN kvB, ⟨b, [], false⟩)]) := by
      unfold syncR
      rw [if_neg (by decide), hg]
      simp only []
      rw [setA_cons, if_neg l0_tmp, setA_cons, if_pos rfl]
      rfl
    show ((syncR [(l0, f), (tmpN kvB, ⟨[], [.add b], true⟩)] (refB ks (n + 1)) (tmpN kvB)).1, (syncR [(l0, f), (tmpN kvB, ⟨[], [.add b], true⟩)] (refB ks (n + 1)) (tmpN kvB)).2, n + 1 + 1) = _
    rw [kfree hks, this]
  have s4 : ckStep ks kvB b 4 [(l0, f), (tmpN kvB, ⟨b, [], false⟩)] (n + 2) = (0, [(l0, f), (snapN kvB, ⟨b, [], false⟩)], n + 3) := by
    have hg : getA [(l0, f), (tmpN kvB, (⟨b, [], false⟩ : Dfile))] (tmpN kvB) = some ⟨b, [], false⟩ := by rw [getA_cons, if_neg l0_tmp, get_one, if_pos rfl]
    have hd : dropA [(l0, f), (tmpN kvB, (⟨b, [], false⟩ : Dfile))] (tmpN kvB) = [(l0, f)] := by
      unfold dropA
      rw [List.filter_cons_of_pos (by simpa using l0_tmp), List.filter_cons_of_neg (by simp)]
      rfl
    have : renR [(l0, f), (tmpN kvB, ⟨b, [], false⟩)] false (tmpN kvB) (snapN kvB) = (0, [(l0, f), (snapN kvB, ⟨b, [], false⟩)]) := by
      unfold renR
      rw [if_neg (by decide), kv_snap.1, if_neg (by decide), hg]
      simp only []
      rw [if_neg (by simp), hd]
      unfold putA
      rw [get_one, if_neg l0_snap, if_pos rfl]
      rfl
    show ((renR [(l0, f), (tmpN kvB, ⟨b, [], false⟩)] (refB ks (n + 2)) (tmpN kvB) (snapN kvB)).1, (renR [(l0, f), (tmpN kvB, ⟨b, [], false⟩)] (refB ks (n + 2)) (tmpN kvB) (snapN kvB)).2, n + 2 + 1) = _
    rw [kfree hks, this]
  have r1 : ckRun ks kvB b [(l0, f)] n 1 = ([(l0, f)], n) := congrArg Prod.snd s0
  have r2 : ckRun ks kvB b [(l0, f)] n 2 = ([(l0, f)], n) := by
    show (ckStep ks kvB b 1 (ckRun ks kvB b [(l0, f)] n 1).1 (ckRun ks kvB b [(l0, f)] n 1).2).2 = _
    rw [r1]
    rfl
  have r3 : ckRun ks kvB b [(l0, f)] n 3 = ([(l0, f), (tmpN kvB, ⟨[], [.add b], true⟩)], n + 1) := by
    show (ckStep ks kvB b 2 (ckRun ks kvB b [(l0, f)] n 2).1 (ckRun ks kvB b [(l0, f)] n 2).2).2 = _
    rw [r2, s2]
  have r4 : ckRun ks kvB b [(l0, f)] n 4 = ([(l0, f), (tmpN kvB, ⟨b, [], false⟩)], n + 2) := by
    show (ckStep ks kvB b 3 (ckRun ks kvB b [(l0, f)] n 3).1 (ckRun ks kvB b [(l0, f)] n 3).2).2 = _
    rw [r3, s3]
  have r5 : ckRun ks kvB b [(l0, f)] n 5 = ([(l0, f), (snapN kvB, ⟨b, [], false⟩)], n + 3) := by
    show (ckStep ks kvB b 4 (ckRun ks kvB b [(l0, f)] n 4).1 (ckRun ks kvB b [(l0, f)] n 4).2).2 = _
    rw [r4, s4]
  rcases h with ⟨k, hk, _, he, _, hs⟩ | ⟨_, he, hg', hc⟩
  · exfalso
    refine he ?_
    have hk5 : k = 0 ∨ k = 1 ∨ k = 2 ∨ k = 3 ∨ k = 4 := by omega
    rcases hk5 with rfl | rfl | rfl | rfl | rfl
    · have hs : ckStep ks kvB b 0 [(l0, f)] n = (e, A', n') := hs
      rw [s0] at hs
      injection hs with hs
      exact hs.symm
    · injection hs with hs
      exact hs.symm
    · rw [r2, s2] at hs
      injection hs with hs
      exact hs.symm
    · rw [r3, s3] at hs
      injection hs with hs
      exact hs.symm
    · rw [r4, s4] at hs
      injection hs with hs
      exact hs.symm
  · refine ⟨he, hg', ?_⟩
    rw [r5] at hc
    have hg : getA [(l0, f), (snapN kvB, (⟨b, [], false⟩ : Dfile))] l0 = some f := by rw [getA_cons, if_pos rfl]
    have hd : dropA [(l0, f), (snapN kvB, (⟨b, [], false⟩ : Dfile))] l0 = [(snapN kvB, ⟨b, [], false⟩)] := by
      unfold dropA
      rw [List.filter_cons_of_neg (by simp), List.filter_cons_of_pos (by simpa using hsl)]
      rfl
    have hc : clrR ks l0 ([(l0, f), (snapN kvB, ⟨b, [], false⟩)], n + 3) = (A', n') := hc
    unfold clrR at hc
    rw [hg] at hc
    injection hc with hc _
    rw [← hc]
    show (remR [(l0, f), (snapN kvB, ⟨b, [], false⟩)] (refB ks (n + 3)) l0).2 = _
    rw [kfree hks]
    unfold remR
    rw [if_neg (by decide), hg]
    exact hd

end Go.Proofs.YtmmlpbepaefamaaGreatDoor
