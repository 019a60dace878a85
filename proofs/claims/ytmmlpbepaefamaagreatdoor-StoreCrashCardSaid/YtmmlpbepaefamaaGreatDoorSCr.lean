/- StoreCrash's steps, each with what stands behind it. -/
import Derived.Test.YtmmlpbepaefamaaGreatDoorSArgs
import Derived.Test.YtmmlpbepaefamaaGreatDoorSHist
import Derived.Test.YtmmlpbepaefamaaGreatDoorSLiveX2
namespace Go.Proofs.YtmmlpbepaefamaaGreatDoor
open Go.RowKit Go.MapKept

abbrev Rows2 := List (List (ByteArray × List (BitVec 8)))
theorem AO.sub {w : World} {B : Nat} {Z Z' : Nat → Prop} {v : Value} {Ps : Rows2} (h : AO w B Z v Ps) (hz : ∀ i, Z' i → Z i) : AO w B Z' v Ps := h.on ⟨rfl, rfl, rfl, Nat.le_refl _, fun _ _ _ => rfl⟩ fun i _ e => hz i e
/-- What is kept of each batch. -/
def Kept (Hs : List KV) (Ps : Rows2) : Prop := (∀ (j : Nat) H P, Hs[j]? = some H → Ps[j]? = some P → IsP H P) ∧ ∀ P ∈ Ps, P.length ≤ 1000
/-- Behind k steps. -/
def CInv (w1 w : World) (d s : Nat) (ks : List Int) (va : Value) (k safe m : Nat) : Prop := ∃ g n T A F c Hs Ps, Live w1 w d s g n T A ks F c ∧ SInv A g F Hs safe k ∧ okS (6 * k) A ∧ n ≤ 6 * k ∧ c ≤ 10 * k ∧ AO w w1.heap.size T va Ps ∧ Ps.length = m ∧ Hs.length = m ∧ Kept Hs Ps
/-- A batch was done; its pairs are not kept yet. -/
def CPre (w1 w : World) (d s : Nat) (ks : List Int) (va : Value) (k safe m : Nat) : Prop := ∃ g n T A F c Hs Ps, Live w1 w d s g n T A ks F c ∧ SInv A g F (Hs ++ [F]) safe k ∧ okS (6 * k) A ∧ n ≤ 6 * k ∧ c ≤ 10 * k ∧ AO w w1.heap.size T va Ps ∧ Ps.length = m ∧ Hs.length = m ∧ Kept Hs Ps
/-- They are told. -/
def CPost (w1 w : World) (d s : Nat) (ks : List Int) (va : Value) (k safe m : Nat) (u : Value) : Prop := ∃ g n T A F c Hs Ps P, Live w1 w d s g n T A ks F c ∧ SInv A g F (Hs ++ [F]) safe k ∧ okS (6 * k) A ∧ n ≤ 6 * k ∧ c ≤ 10 * k ∧ AO w w1.heap.size T va Ps ∧ Ps.length = m ∧ Hs.length = m ∧ Kept Hs Ps ∧ PO w T u P ∧ IsP F P ∧ P.length ≤ 1000
theorem Kept.add {Hs : List KV} {Ps : Rows2} (h : Kept Hs Ps) (hl : Ps.length = Hs.length) {F : KV} {P : List (ByteArray × List (BitVec 8))} (hP : IsP F P) (hn : P.length ≤ 1000) : Kept (Hs ++ [F]) (Ps ++ [P]) := by
  refine ⟨fun j H Q h1 h2 => ?_, fun Q hQ => ?_⟩
  · rw [List.getElem?_append] at h1 h2
    by_cases hj : j < Hs.length
    · rw [if_pos hj] at h1
      rw [if_pos (by omega)] at h2
      exact h.1 j H Q h1 h2
    · rw [if_neg hj] at h1
      rw [if_neg (by omega), hl] at h2
      have h0 : j - Hs.length = 0 := by
        have := (List.getElem?_eq_some_iff.1 h1).1
        simpa using this
      rw [h0] at h1 h2
      obtain rfl : F = H := by simpa using h1
      obtain rfl : P = Q := by simpa using h2
      exact hP
  · rcases List.mem_append.1 hQ with hQ | hQ
    · exact h.2 Q hQ
    · exact List.mem_singleton.1 hQ ▸ hn
theorem CInv.low {w1 w w' : World} {d s k safe m : Nat} {ks : List Int} {va : Value} (h : CInv w1 w d s ks va k safe m) (hb : Below w.heap.size w w') : CInv w1 w' d s ks va k safe m := by
  obtain ⟨g, n, T, A, F, c, Hs, Ps, h1, h2, h3, h4, h5, h6, h7⟩ := h
  exact ⟨g, n, T, A, F, c, Hs, Ps, h1.low hb, h2, h3, h4, h5, h6.low hb, h7⟩
theorem CInv.next {w1 w : World} {d s k safe m : Nat} {ks : List Int} {va : Value} (h : CInv w1 w d s ks va k safe m) : CInv w1 w d s ks va (k + 1) safe m := by
  obtain ⟨g, n, T, A, F, c, Hs, Ps, h1, h2, h3, h4, h5, h6, h7⟩ := h
  exact ⟨g, n, T, A, F, c, Hs, Ps, h1, h2.next, h3.le (by omega), by omega, by omega, h6, h7⟩
theorem CInv.below {w1 w : World} {d s k safe m : Nat} {ks : List Int} {va : Value} (h : CInv w1 w d s ks va k safe m) : Below w1.heap.size w1 w := by
  obtain ⟨g, n, T, A, F, c, Hs, Ps, h1, _⟩ := h
  exact h1.below
theorem CInv.row {w1 w : World} {d s k safe m : Nat} {ks : List Int} {va : Value} (h : CInv w1 w d s ks va k safe m) : ∃ a q, va = .slice a m q := by
  obtain ⟨g, n, T, A, F, c, Hs, Ps, _, _, _, _, _, h6, h7, _⟩ := h
  obtain ⟨a, q, e⟩ := h6.shape
  exact ⟨a, q, by rw [e, h7]⟩

section
variable {w1 w : World} {d s k safe m : Nat} {ks : List Int} {va : Value}
theorem c_commit (h : CInv w1 w d s ks va k safe m) (hk : k ≤ 30) (v : Value) (L : List Chg) (hL : ChgsAt w v L) (hf : fitL L) (h10 : L.length ≤ 10) (h200 : ∀ c ∈ L, c.key.size + c.val.length ≤ 200) :
    Calls Tryz.prog 7 #[.pointer (some ⟨s, 0, none⟩), v] w fun r w' => ∃ e, r = .returned (.int .i64 e) ∧ (e ≠ 0 → CInv w1 w' d s ks va (k + 1) safe m) ∧ (e = 0 → CPre w1 w' d s ks va (k + 1) safe m) := by
  have h0 := h
  obtain ⟨g, n, T, A, F, c, Hs, Ps, h1, h2, h3, h4, h5, h6, h7, h8, h9⟩ := h
  by_cases hw : wrongE L = 0
  · have hb : okL L := ⟨hw, h10, h200⟩
    obtain ⟨e, A', hr⟩ : ∃ e A', appR A (refB ks n) (logN kvB g) (frameC (recB L)) = (e, A') := ⟨_, _, rfl⟩
    have hgk := (h2.free (by omega)).2
    have hkA : okS (6 * k + 1) A' := by have := h3.app (refB ks n) (logN kvB g) (frameC (recB L)); rwa [hr] at this
    refine (live_commit h1 (h3.ok (by omega)) (by omega) (by omega) v L hL hb (by omega) hr).mono ?_
    rintro r w' ⟨rfl, T', hL', ho, hs⟩
    refine ⟨e, rfl, fun he => ?_, fun he => ?_⟩
    · rw [if_neg he] at hL'
      rcases h2.commit (by omega) hb hr with ⟨_, hS⟩ | ⟨h0, _⟩
      · obtain ⟨S, jb, mb, M, k1, k2, k3, _, k5⟩ := hL'
        have h4' : M.length ≤ c + L.length := by assumption
        exact ⟨g, n + 1, T', A', F, c + L.length, Hs, Ps, ⟨S, jb, mb, M, k1, k2, k3, h4', k5⟩, hS.next, hkA.le (by omega), by omega, by omega, h6.on ho hs, h7, h8, h9⟩
      · exact absurd h0 he
    · rw [if_pos he] at hL'
      rcases h2.commit (by omega) hb hr with ⟨h0, _⟩ | ⟨_, hS⟩
      · exact absurd he h0
      · exact ⟨g, n + 1, T', A', _, c + L.length, Hs, Ps, hL', hS, hkA.le (by omega), by omega, by omega, h6.on ho hs, h7, h8, h9⟩
  · refine (live_wrong h1 v L hL hf.1 (fun c hc => ⟨Nat.le_trans (hf.2 c hc).1 (by decide), Nat.le_trans (hf.2 c hc).2 (by decide)⟩) hw).mono ?_
    rintro r w' ⟨rfl, hb⟩
    exact ⟨_, rfl, fun _ => (h0.low hb).next, fun he => absurd he hw⟩
theorem c_pairs (h : CPre w1 w d s ks va k safe m) (hk : k ≤ 31) :
    Calls Tryz.prog 9 #[.pointer (some ⟨s, 0, none⟩)] w fun r w' => ∃ a q c, r = .returned (.slice a q c) ∧ CPost w1 w' d s ks va k safe m (.slice a q c) := by
  obtain ⟨g, n, T, A, F, c, Hs, Ps, h1, h2, h3, h4, h5, h6, h7, h8, h9⟩ := h
  refine (live_pairs h1 (by omega) h2.now.1).mono ?_
  rintro r w' ⟨u, P, E, rfl, ⟨a, q, c', rfl⟩, hE, hP, hI, hl, hb⟩
  exact ⟨a, q, c', rfl, g, n, T, A, F, c, Hs, Ps, P, h1.low hb, h2, h3, h4, h5, h6.low hb, h7, h8, h9, PO.new hE hP (fun i e => (h1.old e).1), hI, by omega⟩
theorem c_sync (h : CInv w1 w d s ks va k safe m) (hk : k ≤ 30) :
    Calls Tryz.prog 15 #[.pointer (some ⟨s, 0, none⟩)] w fun r w' => ∃ e, r = .returned (.int .i64 e) ∧ (e ≠ 0 → CInv w1 w' d s ks va (k + 1) safe m) ∧ (e = 0 → CInv w1 w' d s ks va (k + 1) (m - 1) m) := by
  obtain ⟨g, n, T, A, F, c, Hs, Ps, h1, h2, h3, h4, h5, h6, h7, h8, h9⟩ := h
  by_cases hp : (((getA A (logN kvB g)).map fun f => f.ops.length).getD 0 : Nat) = 0
  · refine (live_sync_none h1 hp).mono ?_
    rintro r w' ⟨rfl, T', hL', ho, hs⟩
    exact ⟨0, rfl, fun he => absurd rfl he, fun _ => ⟨g, n, T', A, F, c, Hs, Ps, hL', h8 ▸ (h2.sync_none hp).next, h3.le (by omega), by omega, by omega, h6.on ho hs, h7, h8, h9⟩⟩
  · obtain ⟨e, A', hr⟩ : ∃ e A', syncR A (refB ks n) (logN kvB g) = (e, A') := ⟨_, _, rfl⟩
    have hkA : okS (6 * k + 1) A' := by have := h3.sync (refB ks n) (logN kvB g); rwa [hr] at this
    refine (live_sync h1 (h3.ok (by omega)) (by omega) hp hr).mono ?_
    rintro r w' ⟨rfl, T', hL', ho, hs⟩
    refine ⟨e, rfl, fun he => ?_, fun he => ?_⟩
    · rcases h2.sync (by omega) hp hr with ⟨_, hS⟩ | ⟨h0, _⟩
      · exact ⟨g, n + 1, T', A', F, c, Hs, Ps, hL', hS.next, hkA.le (by omega), by omega, by omega, h6.on ho hs, h7, h8, h9⟩
      · exact absurd h0 he
    · rcases h2.sync (by omega) hp hr with ⟨h0, _⟩ | ⟨_, hS⟩
      · exact absurd he h0
      · exact ⟨g, n + 1, T', A', F, c, Hs, Ps, hL', h8 ▸ hS.next, hkA.le (by omega), by omega, by omega, h6.on ho hs, h7, h8, h9⟩
theorem c_ckpt (h : CInv w1 w d s ks va k safe m) (hk : k ≤ 30) :
    Calls Tryz.prog 16 #[.pointer (some ⟨s, 0, none⟩)] w fun r w' => ∃ e, r = .returned (.int .i64 e) ∧ (e ≠ 0 → CInv w1 w' d s ks va (k + 1) safe m) ∧ (e = 0 → CInv w1 w' d s ks va (k + 1) (m - 1) m) := by
  obtain ⟨g, n, T, A, F, c, Hs, Ps, h1, h2, h3, h4, h5, h6, h7, h8, h9⟩ := h
  obtain ⟨hfr, hgk⟩ := h2.free (by omega)
  refine (live_ckpt h1 h3 (by omega) (by omega) (by omega) (by omega) h2.now.1 hfr).mono ?_
  rintro r w' ⟨e, g', A', n', P, rfl, hck, hP, hF, T', hL', ho, hs⟩
  obtain ⟨hkA, hn'⟩ := ck_ok h3 hck
  refine ⟨e, rfl, fun he => ?_, fun he => ?_⟩
  · rcases h2.ckpt (by omega) hP hF hck with ⟨_, rfl, hS⟩ | ⟨h0, _⟩
    · exact ⟨_, n', T', A', F, c, Hs, Ps, hL', hS.next, hkA.le (by omega), by omega, by omega, h6.on ho hs, h7, h8, h9⟩
    · exact absurd h0 he
  · rcases h2.ckpt (by omega) hP hF hck with ⟨h0, _⟩ | ⟨_, rfl, hS⟩
    · exact absurd he h0
    · exact ⟨_, n', T', A', F, c, Hs, Ps, hL', h8 ▸ hS, hkA.le (by omega), by omega, by omega, h6.on ho hs, h7, h8, h9⟩
end

/-- Behind the crash: the files, and which batch they hold. -/
def TInv (w1 w : World) (d : Nat) (ks rl : List Int) (va : Value) (k safe m : Nat) : Prop := ∃ n S A g F0 Ls torn i Ps P, KD w1 w d S A ks n ∧ okS (200 + 2 * k) A ∧ n ≤ 200 + 2 * k ∧ g < 59 ∧ CS A g F0 Ls torn ∧ (∀ L ∈ Ls, okL L) ∧ Ls.length ≤ 40 ∧ okF (foldB F0 Ls) ∧ safe ≤ i ∧ Ps[i]? = some P ∧ IsP (foldB F0 Ls) P ∧ AO w w1.heap.size S va Ps ∧ Ps.length = m ∧ (∀ P ∈ Ps, P.length ≤ 1000) ∧ k + toCome rl n ≤ 60
/-- Both stores are open. -/
def UInv (w1 w : World) (d : Nat) (ks : List Int) (va : Value) (safe m g : Nat) (t u : Nat) : Prop := ∃ n Tt Tu S A F i Ps P, Live w1 w d t g n Tt A ks F 1400 ∧ Live w1 w d u g n Tu A ks F 1400 ∧ okF F ∧ safe ≤ i ∧ Ps[i]? = some P ∧ IsP F P ∧ AO w w1.heap.size S va Ps ∧ Ps.length = m ∧ ∀ P ∈ Ps, P.length ≤ 1000
/-- The first store is open. -/
def OInv (w1 w : World) (d : Nat) (ks : List Int) (va : Value) (safe m g : Nat) (t : Nat) : Prop := ∃ n S A F0 Ls i Ps P kk jb mb M, KD w1 w d S A ks n ∧ okS kk A ∧ kk ≤ 500 ∧ n ≤ 500 ∧ g < 59 ∧ CS A g F0 Ls [] ∧ (∀ L ∈ Ls, okL L) ∧ Ls.length ≤ 40 ∧ okF (foldB F0 Ls) ∧ safe ≤ i ∧ Ps[i]? = some P ∧ IsP (foldB F0 Ls) P ∧ AO w w1.heap.size S va Ps ∧ Ps.length = m ∧ (∀ P ∈ Ps, P.length ≤ 1000) ∧ ST w w1.heap.size S d t kvB g jb mb M ∧ (∀ k, getM M k = foldB F0 Ls k) ∧ M.length ≤ 1400

theorem c_crash {w1 w : World} {d s k safe m : Nat} {ks rl : List Int} {va : Value} (h : CInv w1 w d s ks va k safe m) (hk : k ≤ 30) (hrl : rl.length ≤ 60) (v : Value) (kp : List Kp) (hv : KeepsAt w1 v kp) (hkl : kp.length ≤ 20) :
    Calls Tryz.prog 12 #[.pointer (some ⟨d, 0, none⟩), v] w fun r w' => r = .returned (.int .i64 0) ∧ TInv w1 w' d ks rl va 0 safe m := by
  obtain ⟨g, n, T, A, F, c, Hs, Ps, h1, h2, h3, h4, h5, h6, h7, h8, h9⟩ := h
  obtain ⟨S, hD, hST⟩ := h1.kd
  refine (kd_crash w1 w d n S A ks hD (h3.ok (by omega)) v kp (by omega) (fun w' ho => hv.low (hD.below.trans (ho.below hD.below.size fun i _ e => (hD.old e).2)))).mono ?_
  rintro r w' ⟨rfl, S', hD', ho, hs⟩
  obtain ⟨F0, Ls, torn, i, hC, hi, hsi, hF, hL, hLs, hg⟩ := h2.crash (by omega) h3.nod kp
  have hil : i < Hs.length := (List.getElem?_eq_some_iff.1 hi).1
  obtain ⟨P, hP⟩ : ∃ P, Ps[i]? = some P := ⟨_, List.getElem?_eq_getElem (by omega)⟩
  exact ⟨rfl, n, S', _, g, F0, Ls, torn, i, Ps, P, hD', (h3.crash kp).le (by omega), by omega, by omega, hC, hL, hLs, hF, hsi, hP, h9.1 i _ P hi hP, (h6.sub hST).on ho hs, h7, h9.2, by have := toCome_le rl n; omega⟩
theorem t_open {w1 w : World} {d k safe m : Nat} {ks rl : List Int} {va : Value} (h : TInv w1 w d ks rl va k safe m) (hrl : ∀ z, z ∈ ks ↔ z ∈ rl) (hk : k ≤ 60) :
    Calls Tryz.prog 6 #[.pointer (some ⟨d, 0, none⟩), .string kvB] w fun r w' => ∃ p e, r = .returned (.tuple #[p, .int .i64 e]) ∧ ((e = 13 ∧ p = .pointer none ∧ k < 60 ∧ TInv w1 w' d ks rl va (k + 1) safe m) ∨ ∃ t g, e = 0 ∧ p = .pointer (some ⟨t, 0, none⟩) ∧ OInv w1 w' d ks va safe m g t) := by
  obtain ⟨n, S, A, g, F0, Ls, torn, i, Ps, P, h1, h2, h3, h4, h5, h6, h7, h8, h9, h10, h11, h12, h13, h14, h15⟩ := h
  refine (sopen_calls w1 w d n _ S A ks h1 h2 (by omega) (by omega) g h4 F0 Ls h6 h7 torn h5).mono ?_
  rintro r w' (⟨A', n', torn', j, rfl, ⟨S', hD, ho, hs⟩, hC, hok, hn, hj1, hj2, hj3, _⟩ | ⟨A', n', S', t, jb, mb, M, rfl, hD, ho, hs, hC, hok, hn, _, hT, _, hF, hM⟩)
  · have hless := toCome_less rl hj1 hj2 ((hrl _).1 hj3)
    exact ⟨_, _, rfl, .inl ⟨rfl, rfl, by omega, n', S', A', g, F0, Ls, torn', i, Ps, P, hD, hok.le (by omega), by omega, h4, hC, h6, h7, h8, h9, h10, h11, h12.on ho hs, h13, h14, by omega⟩⟩
  · exact ⟨_, _, rfl, .inr ⟨t, g, rfl, rfl, n', S', A', F0, Ls, i, Ps, P, _, jb, mb, M, hD, hok, by omega, by omega, h4, hC, h6, h7, h8, h9, h10, h11, h12.on ho hs, h13, h14, hT, hF, by omega⟩⟩
theorem u_open {w1 w : World} {d safe m g t : Nat} {ks : List Int} {va : Value} (h : OInv w1 w d ks va safe m g t) :
    Calls Tryz.prog 6 #[.pointer (some ⟨d, 0, none⟩), .string kvB] w fun r w' => ∃ u, r = .returned (.tuple #[.pointer (some ⟨u, 0, none⟩), .int .i64 0]) ∧ UInv w1 w' d ks va safe m g t u := by
  obtain ⟨n, S, A, F0, Ls, i, Ps, P, kk, jb, mb, M, h1, h2, h2k, h3, h4, h5, h6, h7, h8, h9, h10, h11, h12, h13, h14, h15, h16, h17⟩ := h
  refine (sopen_calls w1 w d n kk S A ks h1 h2 (by omega) (by omega) g h4 F0 Ls h6 h7 [] h5).mono ?_
  rintro r w' (⟨_, _, _, _, _, _, _, _, _, _, _, _, ht⟩ | ⟨A', n', S', u, jb2, mb2, M2, rfl, hD, ho, hs, hC, hok, hn, ht, hT, _, hF, hM⟩)
  · exact absurd rfl ht
  · obtain ⟨rfl, rfl⟩ := ht rfl
    exact ⟨u, rfl, _, fun x => S' x ∨ x = t ∨ x = jb, fun x => S' x ∨ x = u ∨ x = jb2, S', _, foldB F0 Ls, i, Ps, P, ⟨S', jb, mb, M, hD, h15.disk ho hs, h16, h17, fun _ => Iff.rfl⟩, ⟨S', jb2, mb2, M2, hD, hT, hF, by omega, fun _ => Iff.rfl⟩, h8, h9, h10, h11, h12.on ho hs, h13, h14⟩
theorem TInv.below {w1 w : World} {d k safe m : Nat} {ks rl : List Int} {va : Value} (h : TInv w1 w d ks rl va k safe m) : Below w1.heap.size w1 w := by
  obtain ⟨n, S, A, g, F0, Ls, torn, i, Ps, P, h1, _⟩ := h
  exact h1.below
theorem UInv.below {w1 w : World} {d safe m g t u : Nat} {ks : List Int} {va : Value} (h : UInv w1 w d ks va safe m g t u) : Below w1.heap.size w1 w := by
  obtain ⟨n, Tt, Tu, S, A, F, i, Ps, P, h1, _⟩ := h
  exact h1.below
theorem UInv.low {w1 w w' : World} {d safe m g t u : Nat} {ks : List Int} {va : Value} (h : UInv w1 w d ks va safe m g t u) (hb : Below w.heap.size w w') : UInv w1 w' d ks va safe m g t u := by
  obtain ⟨n, Tt, Tu, S, A, F, i, Ps, P, h1, h2, h3, h4, h5, h6, h7, h8⟩ := h
  exact ⟨n, Tt, Tu, S, A, F, i, Ps, P, h1.low hb, h2.low hb, h3, h4, h5, h6, h7.low hb, h8⟩

end Go.Proofs.YtmmlpbepaefamaaGreatDoor
