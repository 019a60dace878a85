/- Disk.Crash: plain facts. -/
import Derived.Test.YtmmlpbepaefamaaDCrash
import Derived.Test.YtmmlpbepaefamaaMapR
import Derived.Test.YtmmlpbepaefamaaKeep
namespace Go.Proofs.Ytmmlpbepaefamaa
open Go.RowKit Go.MapKept

/-- A file behind a crash, if it is there. -/
def crash1 (ks : List Kp) (x : ByteArray × Nat × Dfile) : Option (ByteArray × Nat × Dfile) := if crashB x.2.2 (keepOf ks x.1).1 (keepOf ks x.1).2 = true then some (x.1, x.2.1, ⟨crashS x.2.2 (keepOf ks x.1).1 (keepOf ks x.1).2, [], false⟩) else none
/-- The files while a crash is under way: left tells which are still to come. -/
def crashL (ks : List Kp) (left : ByteArray → Bool) : List (ByteArray × Nat × Dfile) → List (ByteArray × Nat × Dfile)
  | [] => []
  | x :: L => (if left x.1 = true then some x else crash1 ks x).toList ++ crashL ks left L
/-- The files behind a crash. -/
def crashed (ks : List Kp) : List (ByteArray × Nat × Dfile) → List (ByteArray × Nat × Dfile)
  | [] => []
  | x :: L => (crash1 ks x).toList ++ crashed ks L
/-- The files but one. -/
def dropL (L : List (ByteArray × Nat × Dfile)) (s : ByteArray) : List (ByteArray × Nat × Dfile) := L.filter fun x => !decide (x.1 = s)
theorem crash1_name {ks : List Kp} {x y : ByteArray × Nat × Dfile} (h : crash1 ks x = some y) : y.1 = x.1 := by
  unfold crash1 at h
  split at h
  · injection h with h
    rw [← h]
  · cases h
theorem crash1_box {ks : List Kp} {x y : ByteArray × Nat × Dfile} (h : crash1 ks x = some y) : y.2.1 = x.2.1 := by
  unfold crash1 at h
  split at h
  · injection h with h
    rw [← h]
  · cases h
theorem crashL_start (ks : List Kp) : ∀ L : List (ByteArray × Nat × Dfile), crashL ks (fun _ => true) L = L
  | [] => rfl
  | x :: L => by
    unfold crashL
    rw [crashL_start ks L, if_pos rfl]
    rfl
theorem crashL_mem {ks : List Kp} {left : ByteArray → Bool} : ∀ {L : List (ByteArray × Nat × Dfile)} {y : ByteArray × Nat × Dfile}, y ∈ crashL ks left L → ∃ x ∈ L, y.1 = x.1 ∧ (left x.1 = true → y = x)
  | [], _, h => by cases h
  | x :: L, y, h => by
    unfold crashL at h
    rcases List.mem_append.1 h with h | h
    · refine ⟨x, List.mem_cons_self, ?_⟩
      rw [Option.mem_toList] at h
      split at h
      · injection h with h
        exact ⟨by rw [h], fun _ => h.symm⟩
      · rename_i hl
        exact ⟨crash1_name h, fun e => absurd e hl⟩
    · obtain ⟨z, hz, h2⟩ := crashL_mem h
      exact ⟨z, List.mem_cons_of_mem _ hz, h2⟩
theorem crashL_in {ks : List Kp} {left : ByteArray → Bool} : ∀ {L : List (ByteArray × Nat × Dfile)} {x : ByteArray × Nat × Dfile}, x ∈ L → left x.1 = true → x ∈ crashL ks left L
  | y :: L, x, hx, hl => by
    unfold crashL
    rcases List.mem_cons.1 hx with rfl | hx
    · rw [if_pos hl]
      exact List.mem_append_left _ (by simp)
    · exact List.mem_append_right _ (crashL_in hx hl)
/-- Nothing is left. -/
theorem crashL_end {ks : List Kp} {left : ByteArray → Bool} : ∀ {L : List (ByteArray × Nat × Dfile)}, (∀ y ∈ crashL ks left L, left y.1 = false) → crashL ks left L = crashed ks L
  | [], _ => rfl
  | x :: L, h => by
    have hl : ¬ left x.1 = true := fun hl => by
      have := h x (crashL_in List.mem_cons_self hl)
      rw [hl] at this
      cases this
    unfold crashL crashed
    unfold crashL at h
    rw [if_neg hl, crashL_end fun y hy => h y (List.mem_append_right _ hy)]
theorem getL_of_mem : ∀ {L : List (ByteArray × Nat × Dfile)} {x : ByteArray × Nat × Dfile}, (L.map (·.1)).Nodup → x ∈ L → getL L x.1 = some x.2
  | y :: L, x, hn, hx => by
    rw [List.map_cons, List.nodup_cons] at hn
    unfold getL
    rcases List.mem_cons.1 hx with rfl | hx
    · rw [if_pos rfl]
    · rw [if_neg fun e => hn.1 (by rw [e]; exact List.mem_map_of_mem hx)]
      exact getL_of_mem hn.2 hx
theorem crashL_same {ks : List Kp} {left left' : ByteArray → Bool} : ∀ {L : List (ByteArray × Nat × Dfile)}, (∀ x ∈ L, left x.1 = left' x.1) → crashL ks left L = crashL ks left' L
  | [], _ => rfl
  | x :: L, h => by
    unfold crashL
    rw [crashL_same fun x hx => h x (List.mem_cons_of_mem _ hx), h x List.mem_cons_self]
/-- One file more is done. -/
theorem crashL_step (ks : List Kp) (left : ByteArray → Bool) : ∀ (L : List (ByteArray × Nat × Dfile)) (x : ByteArray × Nat × Dfile), (L.map (·.1)).Nodup → x ∈ L → left x.1 = true →
    crashL ks (fun k => left k && !decide (k = x.1)) L = if crashB x.2.2 (keepOf ks x.1).1 (keepOf ks x.1).2 = true then setL (crashL ks left L) x.1 ⟨crashS x.2.2 (keepOf ks x.1).1 (keepOf ks x.1).2, [], false⟩ else dropL (setL (crashL ks left L) x.1 ⟨crashS x.2.2 (keepOf ks x.1).1 (keepOf ks x.1).2, [], false⟩) x.1
  | y :: L, x, hn, hx, hl => by
    rw [List.map_cons, List.nodup_cons] at hn
    rcases List.mem_cons.1 hx with rfl | hx
    · have hrest : ∀ z ∈ L, z.1 ≠ x.1 := fun z hz e => hn.1 (by rw [← e]; exact List.mem_map_of_mem hz)
      have he : crashL ks (fun k => left k && !decide (k = x.1)) L = crashL ks left L := crashL_same fun z hz => by simp [hrest z hz]
      have hc : crashL ks left (x :: L) = x :: crashL ks left L := by
        conv => lhs; unfold crashL
        rw [if_pos hl]
        rfl
      have hc2 : crashL ks (fun k => left k && !decide (k = x.1)) (x :: L) = (crash1 ks x).toList ++ crashL ks left L := by
        conv => lhs; unfold crashL
        rw [he, if_neg (by simp)]
      have hs : ∀ g, setL (x :: crashL ks left L) x.1 g = (x.1, x.2.1, g) :: crashL ks left L := fun g => by
        unfold setL
        rw [if_pos rfl]
      rw [hc2, hc, hs]
      unfold crash1
      by_cases hb : crashB x.2.2 (keepOf ks x.1).1 (keepOf ks x.1).2 = true
      · rw [if_pos hb, if_pos hb]
        rfl
      · rw [if_neg hb, if_neg hb]
        unfold dropL
        rw [List.filter_cons_of_neg (by simp)]
        refine (List.filter_eq_self.2 fun z hz => ?_).symm
        obtain ⟨z', hz', e, _⟩ := crashL_mem hz
        simp [e, hrest z' hz']
    · have hne : y.1 ≠ x.1 := fun e => hn.1 (by rw [e]; exact List.mem_map_of_mem hx)
      have ih := crashL_step ks left L x hn.2 hx hl
      have h2 : (left y.1 && !decide (y.1 = x.1)) = left y.1 := by simp [hne]
      have hy : ∀ y', (if left y.1 = true then some y else crash1 ks y) = some y' → y'.1 ≠ x.1 := fun y' e => by
        split at e
        · injection e with e
          rw [← e]
          exact hne
        · rw [crash1_name e]
          exact hne
      have e1 : crashL ks (fun k => left k && !decide (k = x.1)) (y :: L) = (if left y.1 = true then some y else crash1 ks y).toList ++ crashL ks (fun k => left k && !decide (k = x.1)) L := by
        conv => lhs; unfold crashL
        rw [h2]
      have e2 : crashL ks left (y :: L) = (if left y.1 = true then some y else crash1 ks y).toList ++ crashL ks left L := by
        conv => lhs; unfold crashL
      rw [e1, e2, ih]
      cases hc : (if left y.1 = true then some y else crash1 ks y) with
      | none => rfl
      | some y' =>
        have hy' := hy y' hc
        have hs : ∀ l g, setL (y' :: l) x.1 g = y' :: setL l x.1 g := fun l g => by
          conv => lhs; unfold setL
          rw [if_neg hy']
        have hd : ∀ l, dropL (y' :: l) x.1 = y' :: dropL l x.1 := fun l => by
          unfold dropL
          rw [List.filter_cons_of_pos (by simp [hy'])]
        show y' :: _ = if _ then setL (y' :: crashL ks left L) x.1 _ else dropL (setL (y' :: crashL ks left L) x.1 _) x.1
        rw [hs, hd]
        split <;> rfl
theorem drop_keys (L : List (ByteArray × Nat × Dfile)) (s : ByteArray) : dropN (L.map fun x => (x.1, Value.pointer (some ⟨x.2.1, 0, Option.none⟩))) s = (dropL L s).map fun x => (x.1, Value.pointer (some ⟨x.2.1, 0, Option.none⟩)) := by
  unfold dropN dropL
  rw [List.filter_map]
  rfl
theorem crashS_len (f : Dfile) (h : f.ok) (x y : Int) : (crashS f x y).length ≤ 1048576 := by
  have h2 := okOps_len _ _ h.1 (okOps_take f.ops f.safe (crashK f x) h.2)
  unfold crashS
  split
  · rename_i b hb
    have h1 := okOps_at f.ops f.safe _ _ h.2 hb
    have h3 := runOps_step f.safe f.ops _ _ hb
    have h4 := h1.2
    rw [h3] at h4
    simp only [Dop.run, List.length_append] at h4
    rw [List.length_append, List.length_take]
    omega
  · exact h2
/-- A file is struck off the list. -/
theorem DiskAt.drop {W w w' : World} {d fm rm n : Nat} {own : Nat → Option Nat} {L : List (ByteArray × Nat × Dfile)} {ks : List Int} (h : DiskAt W w d fm rm own L ks n) (s : ByteArray) (hm : MapN w' fm ((dropL L s).map fun x => (x.1, Value.pointer (some ⟨x.2.1, 0, Option.none⟩)))) (ho : Only w w' fun i => i = fm) : DiskAt W w' d fm rm own (dropL L s) ks n := by
  have hsub : (dropL L s).Sublist L := List.filter_sublist
  refine ⟨h.box.only ho h.dm.1, hm, h.ref.only ho (fun e => h.fr e.symm), fun y hy => ?_, h.nod.sublist (hsub.map _), h.keys.sublist (hsub.map _), h.noD, h.noF, h.noR, h.fr, h.ged, h.gef, h.ger, h.below.trans (ho.below h.below.size fun i _ e => e ▸ h.gef), fun i fb e => ⟨(h.old i fb e).1, Nat.lt_of_lt_of_le (h.old i fb e).2 ho.size⟩⟩
  obtain ⟨sv, ov, l, hf⟩ := h.each y (hsub.subset hy)
  exact ⟨sv, ov, l, hf.only ho (fun i hi e => by rw [e, h.noF] at hi; cases hi) (fun _ _ => rfl)⟩

end Go.Proofs.Ytmmlpbepaefamaa
