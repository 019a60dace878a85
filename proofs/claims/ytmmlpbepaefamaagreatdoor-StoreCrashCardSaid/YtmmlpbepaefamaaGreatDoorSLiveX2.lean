/- A store that lives: each call over the plain law. -/
import Derived.Test.YtmmlpbepaefamaaGreatDoorDKeepF
import Derived.Test.YtmmlpbepaefamaaGreatDoorSMoreX2
import Derived.Test.YtmmlpbepaefamaaGreatDoorSOpen
namespace Go.Proofs.YtmmlpbepaefamaaGreatDoor
open Go.RowKit Go.MapKept

/-- A store over its disk's files; T, the blocks that its calls write. -/
def Live (W w : World) (d s g n : Nat) (T : Nat → Prop) (A : Fs) (ks : List Int) (F : KV) (c : Nat) : Prop :=
  ∃ S jb mb M, KD W w d S A ks n ∧ ST w W.heap.size S d s kvB g jb mb M ∧ (∀ k, getM M k = F k) ∧ M.length ≤ c ∧ ∀ i, T i ↔ (S i ∨ i = s ∨ i = jb)
/-- What a call leaves. -/
def LiveX (W w w' : World) (d s g n : Nat) (T : Nat → Prop) (A : Fs) (ks : List Int) (F : KV) (c : Nat) : Prop := ∃ T', Live W w' d s g n T' A ks F c ∧ Only w w' T ∧ ∀ i, i < w.heap.size → T' i → T i
theorem Live.low {W w w' : World} {d s g n c : Nat} {T : Nat → Prop} {A : Fs} {ks : List Int} {F : KV} (h : Live W w d s g n T A ks F c) (hb : Below w.heap.size w w') : Live W w' d s g n T A ks F c := by
  obtain ⟨S, jb, mb, M, h1, h2, h3⟩ := h
  exact ⟨S, jb, mb, M, h1.low hb, h2.low hb, h3⟩
theorem Live.old {W w : World} {d s g n c : Nat} {T : Nat → Prop} {A : Fs} {ks : List Int} {F : KV} (h : Live W w d s g n T A ks F c) {i : Nat} (hi : T i) : i < w.heap.size ∧ W.heap.size ≤ i := by
  obtain ⟨S, jb, mb, M, h1, h2, _, _, h5⟩ := h
  rcases (h5 i).1 hi with e | rfl | rfl
  · exact h1.old e
  · exact ⟨h2.box.lt, h2.ges⟩
  · exact ⟨h2.jour.lt, h2.gej⟩
theorem Live.below {W w : World} {d s g n c : Nat} {T : Nat → Prop} {A : Fs} {ks : List Int} {F : KV} (h : Live W w d s g n T A ks F c) : Below W.heap.size W w := by
  obtain ⟨S, jb, mb, M, h1, _⟩ := h
  exact h1.below
theorem Live.kd {W w : World} {d s g n c : Nat} {T : Nat → Prop} {A : Fs} {ks : List Int} {F : KV} (h : Live W w d s g n T A ks F c) : ∃ S, KD W w d S A ks n ∧ ∀ i, S i → T i := by
  obtain ⟨S, jb, mb, M, h1, _, _, _, h5⟩ := h
  exact ⟨S, h1, fun i e => (h5 i).2 (.inl e)⟩
/-- How many keys there are is seen from what stands at them. -/
theorem Live.cap {W w : World} {d s g n c : Nat} {T : Nat → Prop} {A : Fs} {ks : List Int} {F : KV} (h : Live W w d s g n T A ks F c) (M' : List Ent) (hn : (M'.map (·.1)).Nodup) (hF : ∀ k, getM M' k = F k) : Live W w d s g n T A ks F M'.length := by
  obtain ⟨S, jb, mb, M, h1, h2, h3, _, h5⟩ := h
  have := (keys_perm h2.map.nodup hn fun k => (h3 k).trans (hF k).symm).length_eq
  rw [List.length_map, List.length_map] at this
  exact ⟨S, jb, mb, M, h1, h2, h3, Nat.le_of_eq this, h5⟩
theorem LiveX.keep {W w w' : World} {d s g n c : Nat} {T : Nat → Prop} {A : Fs} {ks : List Int} {F : KV} (h : Live W w d s g n T A ks F c) (hb : Below w.heap.size w w') : LiveX W w w' d s g n T A ks F c := ⟨T, h.low hb, Only.of_below hb T, fun _ _ e => e⟩
theorem SX.live {W w w' : World} {d s g' n jb : Nat} {S T : Nat → Prop} {A : Fs} {ks : List Int} {F : KV} {c : Nat} (h5 : ∀ i, T i ↔ (S i ∨ i = s ∨ i = jb)) (h : SX W w w' d s jb S kvB g' A ks n F c) : LiveX W w w' d s g' n T A ks F c := by
  obtain ⟨S', jb', mb', M', h1, h2, h3, h4, h6, h7, h8⟩ := h
  refine ⟨fun i => S' i ∨ i = s ∨ i = jb', ⟨S', jb', mb', M', h1, h2, h3, h4, fun i => Iff.rfl⟩, h6.weak fun i _ e => (h5 i).2 e, fun i hi e => (h5 i).2 ?_⟩
  rcases e with e | e | e
  · exact .inl (h7 i hi e)
  · exact .inr (.inl e)
  · rcases h8 with h8 | h8
    · exact .inr (.inr (e.trans h8))
    · omega

/-- The pairs of what stands at keys. -/
def IsP (F : KV) (P : List (ByteArray × List (BitVec 8))) : Prop := ∃ M : List Ent, (M.map (·.1)).Nodup ∧ (∀ k, getM M k = F k) ∧ P = pairsOf M
theorem IsP.eq {F : KV} {P Q : List (ByteArray × List (BitVec 8))} (h : IsP F P) (h' : IsP F Q) : P = Q := by
  obtain ⟨M, h1, h2, rfl⟩ := h
  obtain ⟨M', h3, h4, rfl⟩ := h'
  exact pairsOf_alike h1 h3 fun k => (h2 k).trans (h4 k).symm
theorem IsP.none : IsP kv0 [] := ⟨[], by simp, fun _ => rfl, by unfold pairsOf keysOf; simp⟩
theorem PairsOwn.only {w w' : World} {Z : Nat → Prop} {B : Nat} {u : Value} {E : List Ent} (h : PairsOwn w B u E) (ho : Only w w' Z) (hz : ∀ i, B ≤ i → i < w.heap.size → ¬ Z i) : PairsOwn w' B u E :=
  ⟨row_only h.row ho fun g hg => hz g (own_ge h.row hg) (row_lt h.row hg), fun x hx => row_only (h.vals x hx) ho fun g hg => hz g (own_ge (h.vals x hx) hg) (row_lt (h.vals x hx) hg)⟩

section
variable {W w : World} {d s g n c : Nat} {T : Nat → Prop} {A : Fs} {ks : List Int} {F : KV} (h : Live W w d s g n T A ks F c)
include h
theorem live_commit (hA : okA A) (hn : n ≤ 1000000) (hg : g < 60) (v : Value) (L : List Chg) (hL : ChgsAt w v L) (hb : okL L) (hc : c ≤ 4000) {e : Int} {A' : Fs} (hr : appR A (refB ks n) (logN kvB g) (frameC (recB L)) = (e, A')) :
    Calls Tryz.prog 7 #[.pointer (some ⟨s, 0, none⟩), v] w fun r w' => r = .returned (.int .i64 e) ∧ LiveX W w w' d s g (n + 1) T A' ks (if e = 0 then applyB F L else F) (c + L.length) := by
  obtain ⟨S, jb, mb, M, h1, h2, h3, h4, h5⟩ := h
  have hF : getM M = F := funext h3
  refine (commit_calls W w d n s g jb mb S A A' ks kvB M h1 hA hn h2 (by omega) (by decide) v L hL hb.1 (by have := hb.2.1; omega) (by have := hb.rec.2; omega) e hr).mono ?_
  rintro r w' ⟨rfl, hX⟩
  rw [hF] at hX
  obtain ⟨T', ⟨S', jb', mb', M', k1, k2, k3, k4, k5⟩, hx⟩ := hX.live h5
  exact ⟨rfl, T', ⟨S', jb', mb', M', k1, k2, k3, by omega, k5⟩, hx⟩
theorem live_wrong (v : Value) (L : List Chg) (hL : ChgsAt w v L) (hl : L.length ≤ 9223372036854775807) (hb : ∀ c ∈ L, c.val.length ≤ 9223372036854775807 ∧ c.key.size ≤ 9223372036854775807) (hw : wrongE L ≠ 0) :
    Calls Tryz.prog 7 #[.pointer (some ⟨s, 0, none⟩), v] w fun r w' => r = .returned (.int .i64 (wrongE L)) ∧ Below w.heap.size w w' := by
  obtain ⟨S, jb, mb, M, h1, h2, h3, h4, h5⟩ := h
  exact commit_wrong w W.heap.size S d s kvB g jb mb M h2 v L hL hl hb hw
theorem live_sync_none (hp : (((getA A (logN kvB g)).map fun f => f.ops.length).getD 0 : Nat) = 0) :
    Calls Tryz.prog 15 #[.pointer (some ⟨s, 0, none⟩)] w fun r w' => r = .returned (.int .i64 0) ∧ LiveX W w w' d s g n T A ks F c := by
  have h0 := h
  obtain ⟨S, jb, mb, M, h1, h2, h3, h4, h5⟩ := h
  refine (ssync_none W w d n s g jb mb S A ks kvB M h1 h2 hp).mono ?_
  rintro r w' ⟨rfl, hb⟩
  exact ⟨rfl, LiveX.keep h0 hb⟩
theorem live_sync (hA : okA A) (hn : n ≤ 1000000) (hp : (((getA A (logN kvB g)).map fun f => f.ops.length).getD 0 : Nat) ≠ 0) {e : Int} {A' : Fs} (hr : syncR A (refB ks n) (logN kvB g) = (e, A')) :
    Calls Tryz.prog 15 #[.pointer (some ⟨s, 0, none⟩)] w fun r w' => r = .returned (.int .i64 e) ∧ LiveX W w w' d s g (n + 1) T A' ks F c := by
  obtain ⟨S, jb, mb, M, h1, h2, h3, h4, h5⟩ := h
  have hF : getM M = F := funext h3
  refine (ssync_calls W w d n s g jb mb _ S A A' ks kvB M e h1 hA hn h2 rfl hp hr).mono ?_
  rintro r w' ⟨rfl, hX⟩
  rw [hF] at hX
  obtain ⟨T', ⟨S', jb', mb', M', k1, k2, k3, k4, k5⟩, hx⟩ := hX.live h5
  exact ⟨rfl, T', ⟨S', jb', mb', M', k1, k2, k3, Nat.le_trans k4 h4, k5⟩, hx⟩
theorem live_ckpt {kk : Nat} (hk : okS kk A) (hkk : kk ≤ 900) (hn : n ≤ 900000) (hg : g < 58) (hc : c ≤ 1000) (hF : okF F) (hlog : getA A (logN kvB (g + 1)) = none) :
    Calls Tryz.prog 16 #[.pointer (some ⟨s, 0, none⟩)] w fun r w' => ∃ e g' A' n' P, r = .returned (.int .i64 e) ∧ CkOut ks kvB g (laidB g P) A n e g' A' n' ∧ PairsOk P ∧ getP P = F ∧ LiveX W w w' d s g' n' T A' ks F c := by
  obtain ⟨S, jb, mb, M, h1, h2, h3, h4, h5⟩ := h
  have hFe : getM M = F := funext h3
  have hne := ents_ok h2.map.nodup h3 hF
  obtain ⟨hp1, hp2⟩ := pairs_ok h2.map.nodup h3 hF (by omega)
  refine (ckpt_calls W w d n s g jb mb kk S A ks kvB M h1 hk hkk hn h2 (by omega) (by decide) (by omega) (fun x hx => by have := hne x hx; omega) (kv_logs (g + 1) (by omega)) ⟨(kv_others (g + 1) (by omega)).2, (kv_others (g + 1) (by omega)).1⟩ hlog).mono ?_
  rintro r w' ⟨e, g', A', n', rfl, hck, hX⟩
  rw [hFe] at hX
  obtain ⟨T', ⟨S', jb', mb', M', k1, k2, k3, k4, k5⟩, hx⟩ := hX.live h5
  exact ⟨e, g', A', n', pairsOf M, rfl, hck, hp1, hp2, T', ⟨S', jb', mb', M', k1, k2, k3, Nat.le_trans k4 h4, k5⟩, hx⟩
theorem live_get (k : ByteArray) (hb : ((F k).getD []).length ≤ 1000000) :
    Calls Tryz.prog 8 #[.pointer (some ⟨s, 0, none⟩), .string k] w fun r w' => ∃ u, r = .returned (.tuple #[u, .bool (F k).isSome]) ∧ (∃ a n c, u = .slice a n c) ∧ Own w' w.heap.size u ((F k).getD []) ∧ Below w.heap.size w w' := by
  obtain ⟨S, jb, mb, M, h1, h2, h3, h4, h5⟩ := h
  rw [← h3 k] at hb ⊢
  exact sget_calls w W.heap.size S M s d mb jb kvB g h2.box h2.map k hb
theorem live_pairs (hc : c ≤ 90000) (hF : okF F) :
    Calls Tryz.prog 9 #[.pointer (some ⟨s, 0, none⟩)] w fun r w' => ∃ u P E, r = .returned u ∧ (∃ a n c, u = .slice a n c) ∧ PairsOwn w' w.heap.size u E ∧ (E.map fun x => (x.1, x.2.2)) = P ∧ IsP F P ∧ P.length ≤ c ∧ Below w.heap.size w w' := by
  obtain ⟨S, jb, mb, M, h1, h2, h3, h4, h5⟩ := h
  have hne := ents_ok h2.map.nodup h3 hF
  refine (pairs_calls w W.heap.size S M s d mb jb kvB g h2.box h2.map (by omega) (fun x hx => by have := hne x hx; omega)).mono ?_
  rintro r w' ⟨u, rfl, E, hE, hP, hb⟩
  obtain ⟨a, k, he⟩ := slice_of_row hE.row
  exact ⟨u, pairsOf M, E, rfl, ⟨_, _, _, he⟩, hE, hP, ⟨M, h2.map.nodup, h3, rfl⟩, by rw [pairsOf_len]; exact h4, hb⟩
theorem live_len (hF : ∀ k, F k = none) : Calls Tryz.prog 13 #[.pointer (some ⟨s, 0, none⟩)] w fun r w' => r = .returned (.int .i64 0) ∧ w = w' := by
  obtain ⟨S, jb, mb, M, h1, h2, h3, h4, h5⟩ := h
  have hM : M = [] := by
    cases M with
    | nil => rfl
    | cons x M =>
      have := getM_some (M := x :: M) (k := x.1) (by simp)
      exact absurd ((h3 _).trans (hF _)) this
  have := slen_calls w W.heap.size S M s d mb jb kvB g h2.box h2.map
  rw [hM] at this
  exact this
theorem live_gen : Calls Tryz.prog 17 #[.pointer (some ⟨s, 0, none⟩)] w fun r w' => r = .returned (.int .i64 g) ∧ w = w' := by
  obtain ⟨S, jb, mb, M, h1, h2, h3, h4, h5⟩ := h
  exact sgen_calls w s d mb jb kvB g h2.box
end

/-- Open, where the log has no torn end. -/
theorem live_open {W w : World} {d n kk : Nat} {S : Nat → Prop} {A : Fs} {ks : List Int} (h : KD W w d S A ks n) (hk : okS kk A) (hkk : kk ≤ 800) (hn : n ≤ 800000) {g : Nat} (hg : g < 59) {F0 : KV} {Ls : List (List Chg)} (hL : ∀ L ∈ Ls, okL L) (hLs : Ls.length ≤ 40) (hC : CS A g F0 Ls []) :
    Calls Tryz.prog 6 #[.pointer (some ⟨d, 0, none⟩), .string kvB] w fun r w' => ∃ s T, r = .returned (.tuple #[.pointer (some ⟨s, 0, none⟩), .int .i64 0]) ∧ Live W w' d s g n T A ks (foldB F0 Ls) (1000 + 10 * Ls.length) ∧ Only w w' S := by
  refine (sopen_calls W w d n kk S A ks h hk hkk hn g hg F0 Ls hL hLs [] hC).mono ?_
  rintro r w' (⟨_, _, _, _, _, _, _, _, _, _, _, _, ht⟩ | ⟨A', n', S', s, jb, mb, M, rfl, hD, hO, hs, _, _, _, ht, hT, hsz, hF, hM⟩)
  · exact absurd rfl ht
  · obtain ⟨rfl, rfl⟩ := ht rfl
    exact ⟨s, fun i => S' i ∨ i = s ∨ i = jb, rfl, ⟨S', jb, mb, M, hD, hT, hF, hM, fun _ => Iff.rfl⟩, hO⟩

end Go.Proofs.YtmmlpbepaefamaaGreatDoor

/- Rows of pairs that a law keeps while a store goes on. -/
namespace Go.Proofs.YtmmlpbepaefamaaGreatDoor
open Go.RowKit Go.MapKept

/-- Pairs that lie in blocks of their own, none of them in Z. -/
def PO (w : World) (Z : Nat → Prop) (u : Value) (P : List (ByteArray × List (BitVec 8))) : Prop := ∃ B E, PairsOwn w B u E ∧ (E.map fun x => (x.1, x.2.2)) = P ∧ (∀ g, u.ownBlock = some g → ¬ Z g) ∧ ∀ x ∈ E, ∀ g, x.2.1.ownBlock = some g → ¬ Z g
theorem PO.at {w : World} {Z : Nat → Prop} {u : Value} {P : List (ByteArray × List (BitVec 8))} (h : PO w Z u P) : PairsAt w u P := by
  obtain ⟨B, E, h1, h2, _⟩ := h
  exact h2 ▸ h1.at
theorem PO.on {w w' : World} {Z Z' : Nat → Prop} {u : Value} {P : List (ByteArray × List (BitVec 8))} (h : PO w Z u P) (ho : Only w w' Z) (hz : ∀ i, i < w.heap.size → Z' i → Z i) : PO w' Z' u P := by
  obtain ⟨B, E, h1, h2, h3, h4⟩ := h
  exact ⟨B, E, ⟨row_only h1.row ho h3, fun x hx => row_only (h1.vals x hx) ho (h4 x hx)⟩, h2, fun g hg e => h3 g hg (hz g (row_lt h1.row hg) e), fun x hx g hg e => h4 x hx g hg (hz g (row_lt (h1.vals x hx) hg) e)⟩
theorem PO.low {w w' : World} {Z : Nat → Prop} {u : Value} {P : List (ByteArray × List (BitVec 8))} (h : PO w Z u P) (hb : Below w.heap.size w w') : PO w' Z u P := h.on (Only.of_below hb Z) fun _ _ e => e
theorem PO.new {w : World} {B : Nat} {Z : Nat → Prop} {u : Value} {E : List Ent} {P : List (ByteArray × List (BitVec 8))} (h : PairsOwn w B u E) (hP : (E.map fun x => (x.1, x.2.2)) = P) (hz : ∀ i, Z i → i < B) : PO w Z u P :=
  ⟨B, E, h, hP, fun g hg e => by have := own_ge h.row hg; have := hz g e; omega, fun x hx g hg e => by have := own_ge (h.vals x hx) hg; have := hz g e; omega⟩
theorem PO.none (w : World) (Z : Nat → Prop) : PO w Z (.slice Option.none 0 0) [] := ⟨0, [], ⟨World.ownsRow_nil _ _ _ _, fun x hx => (by cases hx)⟩, rfl, fun g hg => (by cases hg), fun x hx => (by cases hx)⟩
/-- A row of another type grows. -/
theorem PO.grown {w w' : World} {Z : Nat → Prop} {u v : Value} {P : List (ByteArray × List (BitVec 8))} {B n : Nat} {xs : List Value} (h : PO w Z u P) (hv : w.ownsRow B 36 1 v n xs) (G : w.grownBy w' v.ownBlock) : PO w' Z u P := by
  obtain ⟨B', E, h1, h2, h3, h4⟩ := h
  refine ⟨B', E, ⟨row_only h1.row (Only.of_grown G) fun g hg e => ?_, fun x hx => row_only (h1.vals x hx) (Only.of_grown G) fun g hg e => ?_⟩, h2, h3, h4⟩
  · obtain ⟨c1, hc1⟩ := row_type h1.row hg
    obtain ⟨c2, hc2⟩ := row_type hv e
    rw [hc1] at hc2
    injection hc2 with hc2
    injection hc2 with _ hc2 _
    exact absurd hc2 (by decide)
  · obtain ⟨c1, hc1⟩ := row_type (h1.vals x hx) hg
    obtain ⟨c2, hc2⟩ := row_type hv e
    rw [hc1] at hc2
    injection hc2 with hc2
    injection hc2 with _ hc2 _
    exact absurd hc2 (by decide)
/-- A row of such rows. -/
def AO (w : World) (B : Nat) (Z : Nat → Prop) (v : Value) (Ps : List (List (ByteArray × List (BitVec 8)))) : Prop := ∃ vs : List Value, w.ownsRow B 36 1 v vs.length (vs.flatMap fun x => [x]) ∧ vs.length = Ps.length ∧ (∀ g, v.ownBlock = some g → ¬ Z g) ∧ ∀ (j : Nat) P, Ps[j]? = some P → ∃ a n c, vs[j]? = some (.slice a n c) ∧ PO w Z (.slice a n c) P
theorem AO.on {w w' : World} {B : Nat} {Z Z' : Nat → Prop} {v : Value} {Ps : List (List (ByteArray × List (BitVec 8)))} (h : AO w B Z v Ps) (ho : Only w w' Z) (hz : ∀ i, i < w.heap.size → Z' i → Z i) : AO w' B Z' v Ps := by
  obtain ⟨vs, h1, h2, h3, h4⟩ := h
  refine ⟨vs, row_only h1 ho h3, h2, fun g hg e => h3 g hg (hz g (row_lt h1 hg) e), fun j P hP => ?_⟩
  obtain ⟨a, n, c, h5, h6⟩ := h4 j P hP
  exact ⟨a, n, c, h5, h6.on ho hz⟩
theorem AO.low {w w' : World} {B : Nat} {Z : Nat → Prop} {v : Value} {Ps : List (List (ByteArray × List (BitVec 8)))} (h : AO w B Z v Ps) (hb : Below w.heap.size w w') : AO w' B Z v Ps := h.on (Only.of_below hb Z) fun _ _ e => e
theorem AO.shape {w : World} {B : Nat} {Z : Nat → Prop} {v : Value} {Ps : List (List (ByteArray × List (BitVec 8)))} (h : AO w B Z v Ps) : ∃ a c, v = .slice a Ps.length c := by
  obtain ⟨vs, h1, h2, _⟩ := h
  obtain ⟨a, c, e⟩ := slice_of_row h1
  exact ⟨a, c, by rw [e, h2]⟩
theorem AO.get {w : World} {B n c j : Nat} {Z : Nat → Prop} {p : Option Addr} {Ps : List (List (ByteArray × List (BitVec 8)))} {P : List (ByteArray × List (BitVec 8))} (h : AO w B Z (.slice p n c) Ps) (hj : Ps[j]? = some P) : ∃ g a k q, p = some ⟨g, 0, none⟩ ∧ w.cell? ⟨g, j, none⟩ = some (.slice a k q) ∧ PO w Z (.slice a k q) P := by
  obtain ⟨vs, h1, h2, _, h4⟩ := h
  obtain ⟨a, k, q, h5, h6⟩ := h4 j P hj
  rcases row_shape h1 with ⟨he, h0⟩ | ⟨g, cap, he, _, hg, hc⟩
  · have : vs = [] := List.eq_nil_of_length_eq_zero h0
    rw [this] at h5
    simp at h5
  · injection he with he
    refine ⟨g, a, k, q, he, hc j _ ?_, h6⟩
    have := flat_at (f := fun x : Value => [x]) (n := 1) (fun _ => rfl) vs j _ 0 _ h5 rfl
    simpa using this
theorem AO.one (w : World) (B : Nat) (Z : Nat → Prop) (hB : B ≤ w.heap.size) (hZ : ∀ i, Z i → i < w.heap.size) : AO (w.alloc (.cells #[.slice none 0 0] 36)) B Z (.slice (some ⟨w.heap.size, 0, none⟩) 1 1) [[]] := by
  have h := World.ownsRow_lit (base := w.heap.size) (size := 1) (e := 36) w #[.slice none 0 0] 1 (Nat.le_refl _) (by simp only [maxLen]; omega) (by simp)
  refine ⟨[.slice none 0 0], own_down hB h, rfl, fun g hg e => ?_, fun j P hP => ?_⟩
  · obtain rfl : w.heap.size = g := by injection hg
    exact absurd (hZ _ e) (Nat.lt_irrefl _)
  · have hj : j = 0 := by
      have := (List.getElem?_eq_some_iff.1 hP).1
      simpa using this
    subst hj
    obtain rfl : [] = P := by simpa using hP
    exact ⟨none, 0, 0, rfl, PO.none _ _⟩

/-- The row that the law keeps grows: the store stays. -/
theorem Live.grown {W w w' : World} {d s g n c B k : Nat} {T : Nat → Prop} {A : Fs} {ks : List Int} {F : KV} (h : Live W w d s g n T A ks F c) {v : Value} {xs : List Value} (hv : w.ownsRow B 36 1 v k xs) (hB : W.heap.size ≤ B) (hT : ∀ i, v.ownBlock = some i → ¬ T i) (G : w.grownBy w' v.ownBlock) : Live W w' d s g n T A ks F c := by
  obtain ⟨S, jb, mb, M, h1, h2, h3, h4, h5⟩ := h
  have ho := Only.of_grown G
  have hty : ∀ {i : Nat} {cur : Array Value} {t : TypeId} {fr : Nat × Nat}, v.ownBlock = some i → w.heap[i]? = some (.cells cur t fr) → t = 36 := fun {i cur t fr} e hc => by
    obtain ⟨c2, hc2⟩ := row_type hv e
    rw [hc] at hc2
    injection hc2 with hc2
    injection hc2 with _ hc2 _
  refine ⟨S, jb, mb, M, h1.only ho (fun i _ e hS => hT i e ((h5 i).2 (.inl hS))) (fun i _ e => Nat.le_trans hB (own_ge hv e)), ⟨h2.box.only ho fun e => hT _ e ((h5 _).2 (.inr (.inl rfl))), h2.jour.only ho fun e => hT _ e ((h5 _).2 (.inr (.inr rfl))), h2.map.only ho (fun e => ?_) (fun x hx g0 hg0 e => ?_) (fun _ _ e => e), h2.offs, h2.offj, h2.offm, h2.ges, h2.gej⟩, h3, h4, h5⟩
  · obtain ⟨es, cl, hm, _⟩ := h2.map.map
    obtain ⟨c2, hc2⟩ := row_type hv e
    rw [hm] at hc2
    cases hc2
  · obtain ⟨c1, hc1⟩ := row_type (h2.map.vals x hx).1 hg0
    exact absurd (hty e hc1) (by decide)
theorem info_prs : ∃ i, Tryz.prog.info? 36 = some i ∧ i.zero = some (.slice none 0 0) ∧ i.size = 1 ∧ i.bytes = 24 := info_of (by kernel_rfl)

/-- 'append(after, pairs)'. -/
theorem wpList_append_row {W w : World} {d s g n c : Nat} {T : Nat → Prop} {A : Fs} {ks : List Int} {F : KV} {ops : Array Oper} {rest : List Oper} {o : Oper} {a : Act} {Q : Exit → Act → World → Prop} (hgd : o.guard = none) (so xo : Operand)
    (ho : o.op = .call { callee := .builtin .append, args := #[so, xo], argTypes := #[53, 53] })
    (hL : Live W w d s g n T A ks F c) {v : Value} {Ps : List (List (ByteArray × List (BitVec 8)))} (hA : AO w W.heap.size T v Ps) (hs : a.eval so = v) {p : Option Addr} {m q : Nat} {P : List (ByteArray × List (BitVec 8))} (hP : PO w T (.slice p m q) P) (hx : a.eval xo = .slice (some ⟨w.heap.size, 0, none⟩) 1 1) (hlen : Ps.length ≤ 1000)
    (h : ∀ p' q' w', AO w' W.heap.size T (.slice p' (Ps.length + 1) q') (Ps ++ [P]) → Live W w' d s g n T A ks F c → wpList Tryz.prog ops Q rest (a.put o.dst (.slice p' (Ps.length + 1) q')) w') :
    wpList Tryz.prog ops Q (o :: rest) a (w.alloc (.cells #[.slice p m q] 36)) := by
  have hb : Below w.heap.size w (w.alloc (.cells #[.slice p m q] 36)) := (Below.refl _ _).alloc (Nat.le_refl _) _
  have hu := src_new (f := fun x : Value => [x]) (n := 1) w 36 (.slice p m q)
  have hWw := hL.below.size
  have hL' := hL.low hb
  have hA' := hA.low hb
  have hP' := hP.low hb
  have hTl : ∀ i, T i → i < (w.alloc (.cells #[.slice p m q] 36)).heap.size := fun i e => Nat.lt_of_lt_of_le (hL.old e).1 hb.size
  obtain ⟨vs, h1, h2, h3, h4⟩ := hA'
  refine wpList_append_gen (f := fun x : Value => [x]) (n := 1) hgd so xo 53 36 ho _ 24 Tryz.underlying53 info_prs rfl (by decide) (by decide) (fun _ => rfl) W.heap.size _ _ vs [.slice p m q] hs h1 hx hu (fun b hb y hy => by
    obtain rfl : b = Value.slice p m q := by simpa using hb
    obtain rfl : y = Value.slice p m q := by simpa using hy
    rfl) (by rw [h2]; simp; omega) (Nat.le_trans hWw hb.size) fun v' w' O G hM => ?_
  obtain ⟨p', q', he⟩ := slice_of_row O
  have hlv : (vs ++ [Value.slice p m q]).length = Ps.length + 1 := by rw [List.length_append, h2]; rfl
  rw [hlv] at he
  subst he
  refine h p' q' w' ⟨vs ++ [.slice p m q], O, by rw [hlv, List.length_append]; rfl, fun g0 hg0 e => ?_, fun j X hX => ?_⟩ (hL'.grown h1 (Nat.le_refl _) h3 G)
  · rcases hM with hM | ⟨g1, hM, hge⟩
    · exact h3 g0 (hM ▸ hg0) e
    · rw [hg0] at hM
      injection hM with hM
      have := hTl g0 e
      omega
  · rw [List.getElem?_append] at hX ⊢
    by_cases hj : j < Ps.length
    · rw [if_pos hj] at hX
      rw [if_pos (by omega)]
      obtain ⟨a1, n1, c1, h5, h6⟩ := h4 j X hX
      exact ⟨a1, n1, c1, h5, h6.grown h1 G⟩
    · rw [if_neg hj] at hX
      rw [if_neg (by omega), h2]
      have hj0 : j - Ps.length = 0 := by
        have := (List.getElem?_eq_some_iff.1 hX).1
        simpa using this
      rw [hj0] at hX ⊢
      obtain rfl : P = X := by simpa using hX
      exact ⟨p, m, q, rfl, hP'.grown h1 G⟩

end Go.Proofs.YtmmlpbepaefamaaGreatDoor
