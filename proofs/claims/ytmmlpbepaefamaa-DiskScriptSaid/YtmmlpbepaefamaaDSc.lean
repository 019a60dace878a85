/- DiskScript: what lies between two calls; each kind of call, of both disks. -/
import Derived.Test.YtmmlpbepaefamaaJIntsX3
import Derived.Test.YtmmlpbepaefamaaTexS
namespace Go.Proofs.Ytmmlpbepaefamaa
open Go.RowKit Go.MapKept Go.Maps Go.Sort Go.Shelf

/-- The blocks of E are as they were. -/
def Kept (E : Nat → Prop) (w w' : World) : Prop := ∀ i, E i → w'.heap[i]? = w.heap[i]?
theorem Kept.refl (E : Nat → Prop) (w : World) : Kept E w w := fun _ _ => rfl
theorem Kept.trans {E : Nat → Prop} {a b c : World} (h : Kept E a b) (k : Kept E b c) : Kept E a c := fun i e => (k i e).trans (h i e)
theorem Whole.held {E : Nat → Prop} {w w' : World} {g : Nat} {t : TypeId} {l : List Value} (h : Whole w g t l) (hk : Kept E w w') (hg : E g) : Whole w' g t l := (hk g hg).trans h

/-- Both disks after k calls; the blocks of E are not theirs. -/
structure Sx (W w : World) (B d m : Nat) (E S T : Nat → Prop) (A R : Fs) (ks rl : List Int) (n k : Nat) : Prop where
  duo : Duo W w B d m S T A R ks rl n
  alike : Alike A R
  ok : okN k A
  hn : n ≤ k
  off : ∀ i, E i → ¬ S i ∧ ¬ T i
  lt : ∀ i, E i → i < w.heap.size
def Sc (W w : World) (B d m : Nat) (E : Nat → Prop) (ks rl : List Int) (k : Nat) : Prop := ∃ S T A R n, Sx W w B d m E S T A R ks rl n k
/-- What does not change: both refuse the same operations. -/
structure Fx (ks rl : List Int) : Prop where
  ref : ∀ n, refB ks n = refB rl n
  len : rl.length ≤ 100000

section
variable {W w w' : World} {B d m n k : Nat} {E S T : Nat → Prop} {A R A' R' : Fs} {ks rl : List Int}
theorem Sx.below (h : Sx W w B d m E S T A R ks rl n k) : Below W.heap.size W w := h.duo.disk.below
theorem Sc.below (h : Sc W w B d m E ks rl k) : Below W.heap.size W w := by
  obtain ⟨_, _, _, _, _, h⟩ := h
  exact h.below
theorem Sx.only {Z : Nat → Prop} (h : Sx W w B d m E S T A R ks rl n k) (ho : Only w w' Z) (hz : ∀ i, Z i → ¬ S i ∧ ¬ T i) (hb : ∀ i, i < w.heap.size → Z i → W.heap.size ≤ i) : Sx W w' B d m E S T A R ks rl n k :=
  ⟨⟨h.duo.disk.only ho (fun i _ hz' => (hz i hz').1) hb, h.duo.doc.only ho (fun i ht hz' => (hz i hz').2 ht), h.duo.apart, h.duo.wb⟩, h.alike, h.ok, h.hn, h.off, fun i e => Nat.lt_of_lt_of_le (h.lt i e) ho.size⟩
theorem Sx.low (h : Sx W w B d m E S T A R ks rl n k) (hb : Below w.heap.size w w') : Sx W w' B d m E S T A R ks rl n k := h.only (Only.of_below hb fun _ => False) (fun _ h => h.elim) (fun _ _ h => h.elim)
theorem Sc.low (h : Sc W w B d m E ks rl k) (hb : Below w.heap.size w w') : Sc W w' B d m E ks rl k := by
  obtain ⟨S, T, A, R, n, h⟩ := h
  exact ⟨S, T, A, R, n, h.low hb⟩
theorem Sc.more (h : Sc W w B d m E ks rl k) {j : Nat} (hj : k ≤ j) : Sc W w B d m E ks rl j := by
  obtain ⟨S, T, A, R, n, h⟩ := h
  exact ⟨S, T, A, R, n, h.duo, h.alike, ⟨Nat.le_trans h.ok.1 hj, fun s f g => ⟨Nat.le_trans (h.ok.2 s f g).1 hj, (h.ok.2 s f g).2⟩⟩, Nat.le_trans h.hn hj, h.off, h.lt⟩
/-- New blocks are not theirs. -/
theorem Sc.add (h : Sc W w B d m E ks rl k) (hb : Below w.heap.size w w') {Z : Nat → Prop} (hz : ∀ i, Z i → w.heap.size ≤ i ∧ i < w'.heap.size) : Sc W w' B d m (fun i => E i ∨ Z i) ks rl k := by
  obtain ⟨S, T, A, R, n, h⟩ := h
  have h2 := h.low hb
  refine ⟨S, T, A, R, n, h2.duo, h2.alike, h2.ok, h2.hn, fun i e => ?_, fun i e => e.elim (h2.lt i) fun e => (hz i e).2⟩
  rcases e with e | e
  · exact h.off i e
  · have h3 := (hz i e).1
    exact ⟨fun hs => by have := (h.duo.disk.old hs).1; omega, fun ht => by have := (h.duo.doc.old ht).2; omega⟩
theorem Sc.fewer (h : Sc W w B d m E ks rl k) {Z : Nat → Prop} (hz : ∀ i, Z i → E i) : Sc W w B d m Z ks rl k := by
  obtain ⟨S, T, A, R, n, h⟩ := h
  exact ⟨S, T, A, R, n, h.duo, h.alike, h.ok, h.hn, fun i e => h.off i (hz i e), fun i e => h.lt i (hz i e)⟩
/-- Blocks of E are written. -/
theorem Sc.write (h : Sc W w B d m E ks rl k) {Z : Nat → Prop} (ho : Only w w' Z) (hz : ∀ i, i < w.heap.size → Z i → E i ∧ W.heap.size ≤ i) : Sc W w' B d m E ks rl k := by
  obtain ⟨S, T, A, R, n, h⟩ := h
  refine ⟨S, T, A, R, n, h.only (ho.weak (T := fun i => Z i ∧ i < w.heap.size) fun i hi e => ⟨e, hi⟩) (fun i e => h.off i (hz i e.2 e.1).1) (fun i _ e => (hz i e.2 e.1).2)⟩
theorem Sx.okA (h : Sx W w B d m E S T A R ks rl n k) (hk : k ≤ 900) : okA A := h.ok.ok (by omega) h.alike.nod
theorem Sx.okR (h : Sx W w B d m E S T A R ks rl n k) (hk : k ≤ 900) : Go.Proofs.Ytmmlpbepaefamaa.okA R := (h.ok.alike h.alike).ok (by omega) h.alike.asc.nodup

/-- A call of both, one behind the other. -/
theorem Sx.two {f g : Nat} {x y : Array Value} {e : Int} {n' k' : Nat} (h : Sx W w B d m E S T A R ks rl n k)
    (c1 : Calls Try.prog f x w fun r w1 => r = .returned (.int .i64 e) ∧ KX W w w1 d S A' ks n')
    (c2 : ∀ w1, KX W w w1 d S A' ks n' → RK w1 B m T R rl n → Calls Try.prog g y w1 fun r w2 => r = .returned (.int .i64 e) ∧ RX w1 w2 B m T R' rl n')
    (ha : Alike A' R') (ho : okN k' A') (hn : n' ≤ k') :
    Calls Try.prog f x w fun r w1 => r = .returned (.int .i64 e) ∧ Kept E w w1 ∧ Calls Try.prog g y w1 fun r w2 => r = .returned (.int .i64 e) ∧ Kept E w1 w2 ∧ Sc W w2 B d m E ks rl k' := by
  refine c1.mono ?_
  rintro r w1 ⟨rfl, k1⟩
  have hr := h.duo.mid k1
  have hc := c2 w1 k1 hr
  obtain ⟨S', d1, o1, s1⟩ := k1
  refine ⟨rfl, fun i e => o1.block i (h.lt i e) (h.off i e).1, hc.mono ?_⟩
  rintro r w2 ⟨rfl, T', r2, o2, t2⟩
  have hlt1 : ∀ i, E i → i < w1.heap.size := fun i e => Nat.lt_of_lt_of_le (h.lt i e) o1.size
  have hne : ∀ i, S' i → ¬ T i := fun i hs ht => h.duo.apart i (s1 i (h.duo.doc.old ht).2 hs) ht
  refine ⟨rfl, fun i e => o2.block i (hlt1 i e) (h.off i e).2, S', T', A', R', n', ⟨d1.only o2 (fun i _ ht hs => hne i hs ht) (fun i _ ht => Nat.le_trans h.duo.wb (h.duo.doc.old ht).1), r2, fun i hs ht => ?_, h.duo.wb⟩, ha, ho, hn, fun i e => ⟨fun hs => (h.off i e).1 (s1 i (h.lt i e) hs), fun ht => ?_⟩, fun i e => Nat.lt_of_lt_of_le (hlt1 i e) o2.size⟩
  · rcases t2 i ht with e | e
    · exact hne i hs e
    · have := (d1.old hs).1
      omega
  · rcases t2 i ht with e2 | e2
    · exact (h.off i e).2 e2
    · have := hlt1 i e
      omega

/-- Both disks are called, one behind the other, and answer the same. -/
def Pair (W w : World) (B d m : Nat) (E : Nat → Prop) (ks rl : List Int) (k f g : Nat) (x y : Array Value) : Prop := ∃ e : Int,
  Calls Try.prog f x w fun r w1 => r = .returned (.int .i64 e) ∧ Kept E w w1 ∧ Calls Try.prog g y w1 fun r w2 => r = .returned (.int .i64 e) ∧ Kept E w1 w2 ∧ Sc W w2 B d m E ks rl k
theorem Sc.cut (h : Sc W w B d m E ks rl k) (hf : Fx ks rl) (hk : k ≤ 900) (s : ByteArray) (z : Int) :
    Pair W w B d m E ks rl (k + 1) 22 55 #[.pointer (some ⟨d, 0, none⟩), .string s, .int .i64 z] #[.pointer (some ⟨m, 0, none⟩), .string s, .int .i64 z] := by
  obtain ⟨S, T, A, R, n, h⟩ := h
  have ha := cut_alike h.alike (refB ks n) s z
  refine ⟨_, h.two (kd_cut W w d n S A ks h.duo.disk (h.okA hk) (by have := h.hn; omega) s z) (fun w1 _ hr => ?_) ha.2 (h.ok.cut _ s z) (by have := h.hn; omega)⟩
  have := rk_cut hr (h.okR hk) (by have := h.hn; omega) hf.len s z
  rw [← hf.ref n, ← ha.1] at this
  exact this
theorem Sc.sync (h : Sc W w B d m E ks rl k) (hf : Fx ks rl) (hk : k ≤ 900) (s : ByteArray) :
    Pair W w B d m E ks rl (k + 1) 18 56 #[.pointer (some ⟨d, 0, none⟩), .string s] #[.pointer (some ⟨m, 0, none⟩), .string s] := by
  obtain ⟨S, T, A, R, n, h⟩ := h
  have ha := sync_alike h.alike (refB ks n) s
  refine ⟨_, h.two (kd_sync W w d n S A ks h.duo.disk (h.okA hk) (by have := h.hn; omega) s) (fun w1 _ hr => ?_) ha.2 (h.ok.sync _ s) (by have := h.hn; omega)⟩
  have := rk_sync hr (h.okR hk) (by have := h.hn; omega) hf.len s
  rw [← hf.ref n, ← ha.1] at this
  exact this
theorem Sc.rename (h : Sc W w B d m E ks rl k) (hf : Fx ks rl) (hk : k ≤ 900) (s t : ByteArray) (ht : t.size ≤ 9223372036854775806) :
    Pair W w B d m E ks rl (k + 1) 23 57 #[.pointer (some ⟨d, 0, none⟩), .string s, .string t] #[.pointer (some ⟨m, 0, none⟩), .string s, .string t] := by
  obtain ⟨S, T, A, R, n, h⟩ := h
  have ha := ren_alike h.alike (refB ks n) s t
  refine ⟨_, h.two (kd_rename W w d n S A ks h.duo.disk (by have := h.hn; omega) s t ht) (fun w1 _ hr => ?_) ha.2 (h.ok.ren _ s t) (by have := h.hn; omega)⟩
  have := rk_rename hr (h.okR hk) (by have := h.hn; omega) hf.len s t ht
  rw [← hf.ref n, ← ha.1] at this
  exact this
theorem Sc.remove (h : Sc W w B d m E ks rl k) (hf : Fx ks rl) (hk : k ≤ 900) (s : ByteArray) :
    Pair W w B d m E ks rl (k + 1) 58 59 #[.pointer (some ⟨d, 0, none⟩), .string s] #[.pointer (some ⟨m, 0, none⟩), .string s] := by
  obtain ⟨S, T, A, R, n, h⟩ := h
  have ha := rem_alike h.alike (refB ks n) s
  refine ⟨_, h.two (kd_remove W w d n S A ks h.duo.disk (by have := h.hn; omega) s) (fun w1 _ hr => ?_) ha.2 (h.ok.rem _ s) (by have := h.hn; omega)⟩
  have := rk_remove hr (h.okR hk) (by have := h.hn; omega) hf.len s
  rw [← hf.ref n, ← ha.1] at this
  exact this
theorem Sc.spoil (h : Sc W w B d m E ks rl k) (hk : k ≤ 900) (s : ByteArray) (z : Int) (hz : z ≤ 9223372036854775807) :
    Pair W w B d m E ks rl (k + 1) 62 63 #[.pointer (some ⟨d, 0, none⟩), .string s, .int .i64 z] #[.pointer (some ⟨m, 0, none⟩), .string s, .int .i64 z] := by
  obtain ⟨S, T, A, R, n, h⟩ := h
  have ha := spo_alike h.alike s z
  refine ⟨_, h.two (kd_spoil W w d n S A ks h.duo.disk s z hz) (fun w1 _ hr => ?_) ha.2 (h.ok.spo s z) (by have := h.hn; omega)⟩
  have := rk_spoil hr (h.okR hk) s z hz
  rw [← ha.1] at this
  exact this
theorem Sc.append (h : Sc W w B d m E ks rl k) (hf : Fx ks rl) (hk : k ≤ 900) (s : ByteArray) (hs : s.size ≤ 1000) (g : Nat) (b : List (BitVec 8)) (hg : E g) (hL : LentAt w g b) (bv : Value) (hb : SliceIs W bv b) (hbl : b.length ≤ 4611686018427387904) :
    Pair W w B d m E ks rl (k + 1) 17 52 #[.pointer (some ⟨d, 0, none⟩), .string s, .slice (some ⟨g, 0, none⟩) b.length (b.length + 3)] #[.pointer (some ⟨m, 0, none⟩), .string s, bv] := by
  obtain ⟨S, T, A, R, n, h⟩ := h
  have ha := app_alike h.alike (refB ks n) s b
  refine ⟨_, h.two (kd_append W w d n S A ks h.duo.disk (h.okA hk) (by have := h.hn; omega) s (by omega) _ b hL.slice (fun _ g' o c e hS => ?_) hbl) (fun w1 k1 hr => ?_) ha.2 (h.ok.app _ s b) (by have := h.hn; omega)⟩
  · injection e with e
    injection e with e
    injection e with e
    subst e
    exact (h.off g hg).1 hS
  · have hW1 : Below W.heap.size W w1 := by
      obtain ⟨S', d1, _⟩ := k1
      exact d1.below
    have := rk_append hr (h.okR hk) (by have := h.hn; omega) hf.len s (by omega) bv b (hb.low hW1) (fun hne g' o c e ht => ?_) hbl
    · rw [← hf.ref n, ← ha.1] at this
      exact this
    · rcases hb with ⟨hb, _⟩ | ⟨b2, o2, c2, hb, hlt, _⟩
      · exact hne hb
      · rw [hb] at e
        injection e with e
        injection e with e
        injection e with e
        subst e
        have h1 := (hr.old ht).1
        have h2 := h.duo.wb
        omega
theorem Sc.crash (h : Sc W w B d m E ks rl k) (hk : k ≤ 900) (v av : Value) (kp : List Kp) (hl : kp.length ≤ 1000000) (hv : ∀ w', Kept E w w' → w.heap.size ≤ w'.heap.size → KeepsAt w' v kp) (ha : KeepSrc W av kp) :
    Calls Try.prog 14 #[.pointer (some ⟨d, 0, none⟩), v] w fun r w1 => r = .returned (.int .i64 0) ∧ Kept E w w1 ∧ Calls Try.prog 61 #[.pointer (some ⟨m, 0, none⟩), av] w1 fun r w2 => r = .returned (.tuple #[]) ∧ Kept E w1 w2 ∧ Sc W w2 B d m E ks rl (k + 1) := by
  obtain ⟨S, T, A, R, n, h⟩ := h
  refine (kd_crash W w d n S A ks h.duo.disk (h.okA hk) v kp (by omega) fun w' ho => hv w' (fun i e => ho.block i (h.lt i e) (h.off i e).1) ho.size).mono ?_
  rintro r w1 ⟨rfl, k1⟩
  have hr := h.duo.mid k1
  obtain ⟨S', d1, o1, s1⟩ := k1
  refine ⟨rfl, fun i e => o1.block i (h.lt i e) (h.off i e).1, (rk_crash hr (h.okR hk) av kp (ha.low d1.below).at hl).mono ?_⟩
  rintro r w2 ⟨rfl, T', r2, o2, t2⟩
  have hlt1 : ∀ i, E i → i < w1.heap.size := fun i e => Nat.lt_of_lt_of_le (h.lt i e) o1.size
  have hne : ∀ i, S' i → ¬ T i := fun i hs ht => h.duo.apart i (s1 i (h.duo.doc.old ht).2 hs) ht
  refine ⟨rfl, fun i e => o2.block i (hlt1 i e) (h.off i e).2, S', T', _, _, n, ⟨d1.only o2 (fun i _ ht hs => hne i hs ht) (fun i _ ht => Nat.le_trans h.duo.wb (h.duo.doc.old ht).1), r2, fun i hs ht => ?_, h.duo.wb⟩, h.alike.crash kp, h.ok.crash h.alike.nod kp, by have := h.hn; omega, fun i e => ⟨fun hs => (h.off i e).1 (s1 i (h.lt i e) hs), fun ht => ?_⟩, fun i e => Nat.lt_of_lt_of_le (hlt1 i e) o2.size⟩
  · rcases t2 i ht with e | e
    · exact hne i hs e
    · have := (d1.old hs).1
      omega
  · rcases t2 i ht with e2 | e2
    · exact (h.off i e).2 e2
    · have := hlt1 i e
      omega
/-- Both Reads tell the same. -/
theorem Sc.read (h : Sc W w B d m E ks rl k) (hk : k ≤ 900) (s : ByteArray) : ∃ (e : Int) (c : List (BitVec 8)),
    Calls Try.prog 20 #[.pointer (some ⟨d, 0, none⟩), .string s] w fun r w1 => ∃ u, r = .returned (.tuple #[u, .int .i64 e]) ∧ Own w1 w.heap.size u c ∧ Bys w1 u ∧ Below w.heap.size w w1 ∧
      ∀ w1', Below w1.heap.size w1 w1' → Calls Try.prog 60 #[.pointer (some ⟨m, 0, none⟩), .string s] w1' fun r w2 => ∃ u2, r = .returned (.tuple #[u2, .int .i64 e]) ∧ SliceIs w2 u2 c ∧ Below w1'.heap.size w1' w2 := by
  obtain ⟨S, T, A, R, n, h⟩ := h
  refine ⟨if getA A s = none then 6 else 0, ((getA A s).map Dfile.content).getD [], (kd_read_bys W w d n S A ks h.duo.disk (h.okA hk) s).mono ?_⟩
  rintro r w1 ⟨u, rfl, hO, hB, hb⟩
  refine ⟨u, rfl, hO, hB, hb, fun w1' hb2 => ?_⟩
  have hr := (h.duo.doc.low hb).low hb2
  refine (rk_read hr (h.okR hk) s).mono ?_
  rintro r w2 ⟨u2, rfl, _, hS, hb3⟩
  rw [h.alike.get s]
  exact ⟨u2, rfl, hS, hb3⟩
end

theorem same_yes (w : World) (s t : Value) (l : List (BitVec 8)) (hs : SliceIs w s l) (ht : SliceIs w t l) : Calls Try.prog 24 #[s, t] w fun e w' => e = .returned (.bool true) ∧ w = w' := by
  refine (same_calls w s t l l hs ht).mono ?_
  rintro e w' ⟨rfl, rfl⟩
  simp

end Go.Proofs.Ytmmlpbepaefamaa
