/- What a store's files say of all batches that there were. No program in sight. -/
import Derived.Test.YtmmlpbepaefamaaGreatDoorSFileX2
namespace Go.Proofs.YtmmlpbepaefamaaGreatDoor
open Go.RowKit Go.MapKept

/-- Hs, what stood at the keys behind each batch; the files hold all of them from the checkpoint on, those up to safe for good. -/
def SInv (A : Fs) (g : Nat) (F : KV) (Hs : List KV) (safe k : Nat) : Prop := ∃ F0 Ls a c, DS A g F0 Ls a ∧ F = foldB F0 Ls ∧ c + Ls.length + 1 = Hs.length ∧ (∀ j, j ≤ Ls.length → Hs[c + j]? = some (foldB F0 (Ls.take j))) ∧ safe ≤ c + a ∧ (∀ L ∈ Ls, okL L) ∧ Ls.length ≤ k ∧ g ≤ k ∧ ∀ H ∈ Hs, okF H
theorem SInv.new : SInv [] 0 kv0 [kv0] 0 0 := by
  refine ⟨kv0, [], 0, 0, DS.new, rfl, rfl, fun j hj => ?_, Nat.le_refl _, fun L h => (by cases h), Nat.le_refl _, Nat.le_refl _, fun H h => ?_⟩
  · obtain rfl : j = 0 := by simpa using hj
    rfl
  · obtain rfl := List.mem_singleton.1 h
    exact okF_zero
theorem SInv.next {A : Fs} {g safe k : Nat} {F : KV} {Hs : List KV} (h : SInv A g F Hs safe k) : SInv A g F Hs safe (k + 1) := by
  obtain ⟨F0, Ls, a, c, h1, h2, h3, h4, h5, h6, h7, h8, h9⟩ := h
  exact ⟨F0, Ls, a, c, h1, h2, h3, h4, h5, h6, Nat.le_succ_of_le h7, Nat.le_succ_of_le h8, h9⟩
theorem SInv.now {A : Fs} {g safe k : Nat} {F : KV} {Hs : List KV} (h : SInv A g F Hs safe k) : okF F ∧ 1 ≤ Hs.length ∧ safe + 1 ≤ Hs.length := by
  obtain ⟨F0, Ls, a, c, h1, h2, h3, h4, h5, h6, h7, h8, h9⟩ := h
  have := h4 Ls.length (Nat.le_refl _)
  rw [List.take_length] at this
  have hle := h1.log.le
  exact ⟨h2 ▸ h9 _ (List.mem_of_getElem? this), by omega, by omega⟩
theorem SInv.free {A : Fs} {g safe k : Nat} {F : KV} {Hs : List KV} (h : SInv A g F Hs safe k) (hk : k < 58) : getA A (logN kvB (g + 1)) = none ∧ g ≤ k := by
  obtain ⟨F0, Ls, a, c, h1, h2, h3, h4, h5, h6, h7, h8, h9⟩ := h
  exact ⟨h1.free _ (by omega) (by omega), h8⟩
theorem SInv.commit {A A' : Fs} {g safe k : Nat} {F : KV} {Hs : List KV} (h : SInv A g F Hs safe k) (hk : k < 58) {L : List Chg} (hL : okL L) {q : Bool} {e : Int} (hr : appR A q (logN kvB g) (frameC (recB L)) = (e, A')) :
    (e ≠ 0 ∧ SInv A' g F Hs safe k) ∨ (e = 0 ∧ SInv A' g (applyB F L) (Hs ++ [applyB F L]) safe (k + 1)) := by
  have hnow := h.now.1
  obtain ⟨F0, Ls, a, c, h1, h2, h3, h4, h5, h6, h7, h8, h9⟩ := h
  rcases ds_commit h1 (by omega) L hr with ⟨he, hd⟩ | ⟨he, hd⟩
  · exact .inl ⟨he, F0, Ls, a, c, hd, h2, h3, h4, h5, h6, h7, h8, h9⟩
  · refine .inr ⟨he, F0, Ls ++ [L], a, c, hd, by rw [foldB_add, h2], by simp; omega, fun j hj => ?_, h5, fun M hM => ?_, by simp; omega, by omega, fun H hH => ?_⟩
    · rw [List.length_append] at hj
      rcases Nat.lt_or_ge Ls.length j with hlt | hle
      · have hj1 : j = Ls.length + 1 := by simp at hj; omega
        subst hj1
        rw [List.getElem?_append_right (by omega), show c + (Ls.length + 1) - Hs.length = 0 by omega, List.take_of_length_le (by simp), foldB_add, h2]
        rfl
      · rw [List.getElem?_append_left (by omega), List.take_append_of_le_length hle]
        exact h4 j hle
    · rcases List.mem_append.1 hM with hM | hM
      · exact h6 M hM
      · exact List.mem_singleton.1 hM ▸ hL
    · rcases List.mem_append.1 hH with hH | hH
      · exact h9 H hH
      · exact List.mem_singleton.1 hH ▸ hnow.batch hL
/-- All that there is is safe. -/
theorem SInv.all {A : Fs} {g : Nat} {F0 : KV} {Ls : List (List Chg)} {c : Nat} {Hs : List KV} (h : DS A g F0 Ls Ls.length) (h3 : c + Ls.length + 1 = Hs.length) (h4 : ∀ j, j ≤ Ls.length → Hs[c + j]? = some (foldB F0 (Ls.take j))) (h6 : ∀ L ∈ Ls, okL L) {k : Nat} (h7 : Ls.length ≤ k) (h8 : g ≤ k) (h9 : ∀ H ∈ Hs, okF H) : SInv A g (foldB F0 Ls) Hs (Hs.length - 1) k := ⟨F0, Ls, Ls.length, c, h, rfl, h3, h4, by omega, h6, h7, h8, h9⟩
theorem SInv.sync_none {A : Fs} {g safe k : Nat} {F : KV} {Hs : List KV} (h : SInv A g F Hs safe k) (hp : (((getA A (logN kvB g)).map fun f => f.ops.length).getD 0 : Nat) = 0) : SInv A g F Hs (Hs.length - 1) k := by
  obtain ⟨F0, Ls, a, c, h1, h2, h3, h4, h5, h6, h7, h8, h9⟩ := h
  rw [h1.pend] at hp
  have := h1.log.le
  obtain rfl : a = Ls.length := by omega
  rw [h2]
  exact SInv.all h1 h3 h4 h6 h7 h8 h9
theorem SInv.sync {A A' : Fs} {g safe k : Nat} {F : KV} {Hs : List KV} (h : SInv A g F Hs safe k) (hk : k < 58) (hp : (((getA A (logN kvB g)).map fun f => f.ops.length).getD 0 : Nat) ≠ 0) {q : Bool} {e : Int} (hr : syncR A q (logN kvB g) = (e, A')) :
    (e ≠ 0 ∧ SInv A' g F Hs safe k) ∨ (e = 0 ∧ SInv A' g F Hs (Hs.length - 1) k) := by
  obtain ⟨F0, Ls, a, c, h1, h2, h3, h4, h5, h6, h7, h8, h9⟩ := h
  rw [h1.pend] at hp
  rcases ds_sync h1 (by omega) hp hr with ⟨he, hd⟩ | ⟨he, hd⟩
  · exact .inl ⟨he, F0, Ls, a, c, hd, h2, h3, h4, h5, h6, h7, h8, h9⟩
  · rw [h2]
    exact .inr ⟨he, SInv.all hd h3 h4 h6 h7 h8 h9⟩
theorem SInv.ckpt {A A' : Fs} {g safe k g' n n' : Nat} {F : KV} {Hs : List KV} (h : SInv A g F Hs safe k) (hk : k < 58) {ks : List Int} {e : Int} {P : List (ByteArray × List (BitVec 8))} (hP : PairsOk P) (hF : getP P = F) (hr : CkOut ks kvB g (laidB g P) A n e g' A' n') :
    (e ≠ 0 ∧ g' = g ∧ SInv A' g F Hs safe k) ∨ (e = 0 ∧ g' = g + 1 ∧ SInv A' (g + 1) F Hs (Hs.length - 1) (k + 1)) := by
  obtain ⟨F0, Ls, a, c, h1, h2, h3, h4, h5, h6, h7, h8, h9⟩ := h
  rcases ds_ckpt h1 (by omega) hP hF hr with ⟨he, hg, hd⟩ | ⟨he, hg, hd⟩
  · exact .inl ⟨he, hg, F0, Ls, a, c, hd, h2, h3, h4, h5, h6, h7, h8, h9⟩
  · refine .inr ⟨he, hg, F, [], 0, c + Ls.length, hd, rfl, h3, fun j hj => ?_, by omega, fun L h => (by cases h), Nat.zero_le _, by omega, h9⟩
    obtain rfl : j = 0 := by simpa using hj
    have := h4 Ls.length (Nat.le_refl _)
    rw [List.take_length] at this
    rw [Nat.add_zero, this, h2]
    rfl
/-- Behind a crash the files hold what stood there behind one of the batches from safe on. -/
theorem SInv.crash {A : Fs} {g safe k : Nat} {F : KV} {Hs : List KV} (h : SInv A g F Hs safe k) (hk : k ≤ 40) (hn : (A.map (·.1)).Nodup) (kp : List Kp) :
    ∃ F0 Ls torn i, CS (crashF kp A) g F0 Ls torn ∧ Hs[i]? = some (foldB F0 Ls) ∧ safe ≤ i ∧ okF (foldB F0 Ls) ∧ (∀ L ∈ Ls, okL L) ∧ Ls.length ≤ 40 ∧ g ≤ k := by
  obtain ⟨F0, Ls, a, c, h1, h2, h3, h4, h5, h6, h7, h8, h9⟩ := h
  obtain ⟨m, torn, hm1, hm2, hC⟩ := ds_crash h1 hn (recs_ok h6 (by omega)) kp
  have h := h4 m hm2
  exact ⟨F0, Ls.take m, torn, c + m, hC, h, by omega, h9 _ (List.mem_of_getElem? h), fun L hL => h6 L (List.mem_of_mem_take hL), by rw [List.length_take]; omega, h8⟩

theorem ck_ok {ks : List Int} {g g' n n' kk : Nat} {b : List (BitVec 8)} {A A' : Fs} {e : Int} (h : okS kk A) (hr : CkOut ks kvB g b A n e g' A' n') : okS (kk + 6) A' ∧ n' ≤ n + 6 := by
  rcases hr with ⟨k, hk, _, _, _, hs⟩ | ⟨_, _, _, hc⟩
  · obtain ⟨h1, h2⟩ := ckRun_ok (ks := ks) (base := kvB) (b := b) (n := n) h k
    obtain ⟨h3, h4⟩ := ckStep_ok (ks := ks) (base := kvB) (b := b) (k := k) (n := (ckRun ks kvB b A n k).2) h1
    rw [hs] at h3 h4
    exact ⟨h3.le (by omega), by simp only at h4; omega⟩
  · obtain ⟨h1, h2⟩ := ckRun_ok (ks := ks) (base := kvB) (b := b) (n := n) h 5
    unfold clrR at hc
    split at hc
    · rw [hc] at h1 h2
      exact ⟨h1.le (by omega), by simp only at h2; omega⟩
    · injection hc with hc1 hc2
      rw [← hc1, ← hc2]
      exact ⟨(h1.rem _ _).le (by omega), by omega⟩

/-- How many of the refused operations are still to come. -/
def toCome (rl : List Int) (n : Nat) : Nat := (rl.filter fun z => decide ((n : Int) < z)).length
theorem toCome_le (rl : List Int) (n : Nat) : toCome rl n ≤ rl.length := List.length_filter_le _ _
theorem toCome_less : ∀ (rl : List Int) {n n' j : Nat}, n < j → j ≤ n' → ((j : Nat) : Int) ∈ rl → toCome rl n' + 1 ≤ toCome rl n
  | z :: rl, n, n', j, h1, h2, h3 => by
    have mono : ∀ rl : List Int, toCome rl n' ≤ toCome rl n := fun rl => by
      unfold toCome
      rw [← List.countP_eq_length_filter, ← List.countP_eq_length_filter]
      refine List.countP_mono_left fun x _ hx => ?_
      simp only [decide_eq_true_iff] at hx ⊢
      omega
    rcases List.mem_cons.1 h3 with rfl | h3
    · have := mono rl
      have e1 : toCome (((j : Nat) : Int) :: rl) n' = toCome rl n' := by
        unfold toCome
        rw [List.filter_cons_of_neg (by simp; omega)]
      have e2 : toCome (((j : Nat) : Int) :: rl) n = toCome rl n + 1 := by
        unfold toCome
        rw [List.filter_cons_of_pos (by simp; omega)]
        rfl
      omega
    · have ih := toCome_less rl h1 h2 h3
      unfold toCome at ih ⊢
      rw [List.filter_cons, List.filter_cons]
      split
      · rename_i e
        rw [if_pos (by simp only [decide_eq_true_iff] at e ⊢; omega)]
        simp only [List.length_cons]
        omega
      · split
        · simp only [List.length_cons]
          omega
        · exact ih

end Go.Proofs.YtmmlpbepaefamaaGreatDoor
