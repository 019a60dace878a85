/- Checkpoint. -/
import Derived.Test.YtmmlpbepaefamaaGreatDoorSCk
import Derived.Test.YtmmlpbepaefamaaGreatDoorSJourX2
namespace Go.Proofs.YtmmlpbepaefamaaGreatDoor
open Go.RowKit Go.MapKept

/-- One step of a checkpoint: its answer, the files behind it, the operations so far. -/
def ckStep (ks : List Int) (base : ByteArray) (b : List (BitVec 8)) : Nat → Fs → Nat → Int × Fs × Nat
  | 0, A, n => match getA A (tmpN base) with
    | none => (0, A, n)
    | some _ => ((remR A (refB ks n) (tmpN base)).1, (remR A (refB ks n) (tmpN base)).2, n + 1)
  | 1, A, n => (0, A, n)
  | 2, A, n => ((appR A (refB ks n) (tmpN base) b).1, (appR A (refB ks n) (tmpN base) b).2, n + 1)
  | 3, A, n => ((syncR A (refB ks n) (tmpN base)).1, (syncR A (refB ks n) (tmpN base)).2, n + 1)
  | _, A, n => ((renR A (refB ks n) (tmpN base) (snapN base)).1, (renR A (refB ks n) (tmpN base) (snapN base)).2, n + 1)
/-- The files behind the first k steps. -/
def ckRun (ks : List Int) (base : ByteArray) (b : List (BitVec 8)) (A : Fs) (n : Nat) : Nat → Fs × Nat
  | 0 => (A, n)
  | k + 1 => (ckStep ks base b k (ckRun ks base b A n k).1 (ckRun ks base b A n k).2).2
/-- A file is taken away, if it is there. -/
def clrR (ks : List Int) (t : ByteArray) (x : Fs × Nat) : Fs × Nat := match getA x.1 t with
  | none => x
  | some _ => ((remR x.1 (refB ks x.2) t).2, x.2 + 1)
/-- What Checkpoint answers, and what it leaves. -/
def CkOut (ks : List Int) (base : ByteArray) (g : Nat) (b : List (BitVec 8)) (A : Fs) (n : Nat) (e : Int) (g' : Nat) (A' : Fs) (n' : Nat) : Prop :=
  (∃ k, k < 5 ∧ (∀ j, j < k → (ckStep ks base b j (ckRun ks base b A n j).1 (ckRun ks base b A n j).2).1 = 0) ∧ e ≠ 0 ∧ g' = g ∧ ckStep ks base b k (ckRun ks base b A n k).1 (ckRun ks base b A n k).2 = (e, A', n')) ∨
  ((∀ j, j < 5 → (ckStep ks base b j (ckRun ks base b A n j).1 (ckRun ks base b A n j).2).1 = 0) ∧ e = 0 ∧ g' = g + 1 ∧ clrR ks (logN base g) (ckRun ks base b A n 5) = (A', n'))

theorem ckStep_ok {ks : List Int} {base : ByteArray} {b : List (BitVec 8)} {k : Nat} {A : Fs} {n kk : Nat} (h : okS kk A) : okS (kk + 1) (ckStep ks base b k A n).2.1 ∧ (ckStep ks base b k A n).2.2 ≤ n + 1 := by
  match k with
  | 0 =>
    cases hg : getA A (tmpN base) with
    | none =>
      simp only [ckStep, hg]
      exact ⟨h.more, Nat.le_succ _⟩
    | some f =>
      simp only [ckStep, hg]
      exact ⟨h.rem _ _, Nat.le_refl _⟩
  | 1 => exact ⟨h.more, Nat.le_succ _⟩
  | 2 => exact ⟨h.app _ _ _, Nat.le_refl _⟩
  | 3 => exact ⟨h.sync _ _, Nat.le_refl _⟩
  | k + 4 => exact ⟨h.ren _ _ _, Nat.le_refl _⟩
theorem ckRun_ok {ks : List Int} {base : ByteArray} {b : List (BitVec 8)} {A : Fs} {n kk : Nat} (h : okS kk A) : ∀ k, okS (kk + k) (ckRun ks base b A n k).1 ∧ (ckRun ks base b A n k).2 ≤ n + k
  | 0 => ⟨h, Nat.le_refl _⟩
  | k + 1 => by
    obtain ⟨h1, h2⟩ := ckRun_ok h k
    obtain ⟨h3, h4⟩ := ckStep_ok (ks := ks) (base := base) (b := b) (k := k) (n := (ckRun ks base b A n k).2) h1
    exact ⟨h3, Nat.le_trans h4 (by omega)⟩
theorem get_app_far {A : Fs} {q : Bool} {s t : ByteArray} {b : List (BitVec 8)} (h : s ≠ t) : getA (appR A q s b).2 t = getA A t := by
  unfold appR
  split
  · rfl
  split
  · rfl
  cases hg : getA A s with
  | none =>
    simp only []
    split
    · rfl
    split
    · rfl
    rw [get_append]
    show (getA A t).or (if s = t then some _ else none) = _
    rw [if_neg h, Option.or_none]
  | some f =>
    simp only []
    split
    · rfl
    rw [get_set, if_neg (fun e => h e.1)]
theorem get_sync_far {A : Fs} {q : Bool} {s t : ByteArray} (h : s ≠ t) : getA (syncR A q s).2 t = getA A t := by
  unfold syncR
  split
  · rfl
  cases hg : getA A s with
  | none => rfl
  | some f =>
    simp only []
    rw [get_set, if_neg (fun e => h e.1)]
theorem get_rem_far {A : Fs} {q : Bool} {s t : ByteArray} (h : s ≠ t) : getA (remR A q s).2 t = getA A t := by
  unfold remR
  split
  · rfl
  cases hg : getA A s with
  | none => rfl
  | some f =>
    simp only []
    rw [get_drop, if_neg h]
theorem get_ren_far {A : Fs} {q : Bool} {s s' t : ByteArray} (h : s ≠ t) (h' : s' ≠ t) : getA (renR A q s s').2 t = getA A t := by
  unfold renR
  split
  · rfl
  split
  · rfl
  cases hg : getA A s with
  | none => rfl
  | some f =>
    simp only []
    split
    · rfl
    rw [get_put, if_neg h', get_drop, if_neg h]
theorem ckStep_far {ks : List Int} {base : ByteArray} {b : List (BitVec 8)} {k : Nat} {A : Fs} {n : Nat} {t : ByteArray} (h1 : t ≠ tmpN base) (h2 : t ≠ snapN base) : getA (ckStep ks base b k A n).2.1 t = getA A t := by
  match k with
  | 0 =>
    cases hg : getA A (tmpN base) with
    | none => simp only [ckStep, hg]
    | some f =>
      simp only [ckStep, hg]
      exact get_rem_far (Ne.symm h1)
  | 1 => rfl
  | 2 => exact get_app_far (Ne.symm h1)
  | 3 => exact get_sync_far (Ne.symm h1)
  | k + 4 => exact get_ren_far (Ne.symm h1) (Ne.symm h2)
theorem ckRun_far {ks : List Int} {base : ByteArray} {b : List (BitVec 8)} {A : Fs} {n : Nat} {t : ByteArray} (h1 : t ≠ tmpN base) (h2 : t ≠ snapN base) : ∀ k, getA (ckRun ks base b A n k).1 t = getA A t
  | 0 => rfl
  | k + 1 => (ckStep_far h1 h2).trans (ckRun_far h1 h2 k)

theorem KX.keep {W w w' : World} {d n : Nat} {S : Nat → Prop} {A : Fs} {ks : List Int} (h : KD W w d S A ks n) (hb : Below w.heap.size w w') : KX W w w' d S A ks n := ⟨S, h.low hb, Only.of_below hb S, fun _ _ e => e⟩
theorem ckk0 (W w : World) (d n s g mb b1 t c : Nat) (S : Nat → Prop) (A : Fs) (ks : List Int) (base : ByteArray) (j u : Value) (b : List (BitVec 8)) (h : KD W w d S A ks n) (hC : CkC w s d g mb base j b1 t c u) (hA : okA A) (hn : n ≤ 1000000) : Calls Tryz.prog 40 #[.pointer (some ⟨b1, 0, none⟩), .pointer (some ⟨t, 0, none⟩)] w fun r w' => r = .returned (.int .i64 (ckStep ks base b 0 A n).1) ∧ KX W w w' d S (ckStep ks base b 0 A n).2.1 ks (ckStep ks base b 0 A n).2.2 := by
  cases hg : getA A (tmpN base) with
  | none =>
    simp only [ckStep, hg]
    refine (ck1_none W w d n s g mb b1 t c S A ks base j u h hC hg).mono ?_
    rintro r w' ⟨rfl, rfl⟩
    exact ⟨rfl, KX.keep h (Below.refl _ _)⟩
  | some f =>
    simp only [ckStep, hg]
    exact ck1_some W w d n s g mb b1 t c S A _ ks base j u _ h hC hA hn f hg rfl
theorem ckk1 (W w : World) (d n s g mb b1 t c : Nat) (S : Nat → Prop) (A : Fs) (ks : List Int) (base : ByteArray) (j u : Value) (b : List (BitVec 8)) (h : KD W w d S A ks n) (hC : CkC w s d g mb base j b1 t c u) (_hA : okA A) (_hn : n ≤ 1000000) (hg : g < 99) (hbs : base.size ≤ 900) (ht : getA A (logN base (g + 1)) = none) : Calls Tryz.prog 42 #[.pointer (some ⟨b1, 0, none⟩)] w fun r w' => r = .returned (.int .i64 (ckStep ks base b 1 A n).1) ∧ KX W w w' d S (ckStep ks base b 1 A n).2.1 ks (ckStep ks base b 1 A n).2.2 := by
  refine (ck2_none W w d n s g mb b1 t c S A ks base j u h hC hg hbs ht).mono ?_
  rintro r w' ⟨rfl, hb⟩
  exact ⟨rfl, KX.keep h hb⟩
theorem ckk2 (W w : World) (d n s g mb b1 t c : Nat) (S : Nat → Prop) (A : Fs) (ks : List Int) (base : ByteArray) (j u : Value) (b : List (BitVec 8)) (h : KD W w d S A ks n) (hC : CkC w s d g mb base j b1 t c u) (hA : okA A) (hn : n ≤ 1000000) (hSs : ¬ S s) (hS1 : ¬ S b1) (hSt : ¬ S t) (hSc : ¬ S c) (hbs : base.size ≤ 900) (hu : SliceIs w u b) (hul : ∃ a k q, u = .slice a k q) (hbd : b ≠ [] → ∀ g o c, u = .slice (some ⟨g, o, none⟩) b.length c → ¬ S g) (hbl : b.length ≤ 4611686018427387904) : Calls Tryz.prog 43 #[.pointer (some ⟨b1, 0, none⟩), .pointer (some ⟨t, 0, none⟩), .pointer (some ⟨c, 0, none⟩)] w fun r w' => r = .returned (.int .i64 (ckStep ks base b 2 A n).1) ∧ KX W w w' d S (ckStep ks base b 2 A n).2.1 ks (ckStep ks base b 2 A n).2.2 :=
  ck3_calls W w d n s g mb b1 t c S A _ ks base j u _ h hC hA hn hSs hS1 hSt hSc hbs b hu hul hbd hbl rfl
theorem ckk3 (W w : World) (d n s g mb b1 t c : Nat) (S : Nat → Prop) (A : Fs) (ks : List Int) (base : ByteArray) (j u : Value) (b : List (BitVec 8)) (h : KD W w d S A ks n) (hC : CkC w s d g mb base j b1 t c u) (hA : okA A) (hn : n ≤ 1000000) (hSs : ¬ S s) (hS1 : ¬ S b1) (hSt : ¬ S t) (hSc : ¬ S c) : Calls Tryz.prog 45 #[.pointer (some ⟨b1, 0, none⟩), .pointer (some ⟨t, 0, none⟩)] w fun r w' => r = .returned (.int .i64 (ckStep ks base b 3 A n).1) ∧ KX W w w' d S (ckStep ks base b 3 A n).2.1 ks (ckStep ks base b 3 A n).2.2 := ck4_calls W w d n s g mb b1 t c S A _ ks base j u _ h hC hA hn hSs hS1 hSt hSc rfl
theorem ckk4 (W w : World) (d n s g mb b1 t c : Nat) (S : Nat → Prop) (A : Fs) (ks : List Int) (base : ByteArray) (j u : Value) (b : List (BitVec 8)) (h : KD W w d S A ks n) (hC : CkC w s d g mb base j b1 t c u) (hA : okA A) (hn : n ≤ 1000000) (hSs : ¬ S s) (hS1 : ¬ S b1) (hSt : ¬ S t) (hSc : ¬ S c) (hbs : base.size ≤ 900) : Calls Tryz.prog 47 #[.pointer (some ⟨b1, 0, none⟩), .pointer (some ⟨t, 0, none⟩)] w fun r w' => r = .returned (.int .i64 (ckStep ks base b 4 A n).1) ∧ KX W w w' d S (ckStep ks base b 4 A n).2.1 ks (ckStep ks base b 4 A n).2.2 := ck5_calls W w d n s g mb b1 t c S A _ ks base j u _ h hC hA hn hSs hS1 hSt hSc hbs rfl

theorem wpList_slice_five {P : Program} {ops : Array Oper} {rest : List Oper} {o : Oper} {a : Act} {w : World} {Q : Exit → Act → World → Prop} (hg : o.guard = none) (t e : TypeId) (x1 x2 x3 x4 x5 : Operand) (ho : o.op = .buildSlice t 5 #[(0, x1), (1, x2), (2, x3), (3, x4), (4, x5)]) (u1 u2 u3 u4 u5 : Value) (e1 : a.eval x1 = u1) (e2 : a.eval x2 = u2) (e3 : a.eval x3 = u3) (e4 : a.eval x4 = u4) (e5 : a.eval x5 = u5) (h1 : u1.cells = #[u1]) (h2 : u2.cells = #[u2]) (h3 : u3.cells = #[u3]) (h4 : u4.cells = #[u4]) (h5 : u5.cells = #[u5]) {zv : Value}
    (ht : P.underlying t = some (.slice e)) (hz : (P.info? e).map (fun i => (i.zero, i.size)) = some (some zv, 1))
    (h : wpList P ops Q rest (a.put o.dst (.slice (some ⟨w.heap.size, 0, none⟩) 5 5)) (w.alloc (.cells #[u1, u2, u3, u4, u5] e))) : wpList P ops Q (o :: rest) a w :=
  wpList_plain hg fun K hK => by
    obtain ⟨hzero, hsz⟩ := zero_of_info hz
    obtain ⟨i, hi, hin⟩ := Option.map_eq_some_iff.1 hsz
    have hs : (sizeOf e).run P w = .ok 1 w := by
      rw [run_sizeOf w hi]
      simp [Program.cellsOf, hi, hin]
    have hf : Instr.fill (fun i => some (i * 1, 1)) ((Array.range (5 * 1)).map (zv.cells[· % zv.cells.size]!)) [(0, u1), (1, u2), (2, u3), (3, u4), (4, u5)] = some #[u1, u2, u3, u4, u5] := by
      have hr3 : Array.range 5 = #[0, 1, 2, 3, 4] := by decide
      simp [Instr.fill, h1, h2, h3, h4, h5, hr3]
    have hr : (Instr.buildSlice t 5 #[(0, u1), (1, u2), (2, u3), (3, u4), (4, u5)]).run P w = .ok (.slice (some ⟨w.heap.size, 0, none⟩) 5 5) (w.alloc (.cells #[u1, u2, u3, u4, u5] e)) := by
      have hn3 : ¬ 5 * 1 > 2 ^ 24 := by decide
      have hn4 : ¬ 5 * 1 = 0 := by decide
      unfold Instr.buildSlice
      simp only [Sem.run_bind, run_underlying ht, Result.andThen_ok, hs, if_neg hn3, if_neg hn4, hzero, Sem.run_pure, hf]
      simp [newRow]
    unfold Oper.wp execOp
    simp only [ho]
    simp [e1, e2, e3, e4, e5, hr]
    exact hK _ _ h
theorem zero_step : (Tryz.prog.info? 45).map (fun i => (i.zero, i.size)) = some (some .nilFunc, 1) := by kernel_rfl
/-- The five closures. -/
def ckFn (b1 t c : Nat) : List Value := [.func (.func 40) #[] #[.pointer (some ⟨b1, 0, none⟩), .pointer (some ⟨t, 0, none⟩)], .func (.func 42) #[] #[.pointer (some ⟨b1, 0, none⟩)], .func (.func 43) #[] #[.pointer (some ⟨b1, 0, none⟩), .pointer (some ⟨t, 0, none⟩), .pointer (some ⟨c, 0, none⟩)], .func (.func 45) #[] #[.pointer (some ⟨b1, 0, none⟩), .pointer (some ⟨t, 0, none⟩)], .func (.func 47) #[] #[.pointer (some ⟨b1, 0, none⟩), .pointer (some ⟨t, 0, none⟩)]]

set_option maxRecDepth 100000 in
set_option maxHeartbeats 8000000 in
theorem ckpt_calls (W w : World) (d n s g jb mb kk : Nat) (S : Nat → Prop) (A : Fs) (ks : List Int) (base : ByteArray) (M : List Ent) (h : KD W w d S A ks n) (hk : okS kk A) (hkk : kk ≤ 900) (hn : n ≤ 900000) (hT : ST w W.heap.size S d s base g jb mb M) (hg : g < 98) (hbs : base.size ≤ 900) (hl : M.length ≤ 1000) (hsz : ∀ x ∈ M, x.1.size + x.2.2.length ≤ 900) (hnm : nameN (logN base (g + 1)) = true) (hne : logN base (g + 1) ≠ tmpN base ∧ logN base (g + 1) ≠ snapN base) (hlog : getA A (logN base (g + 1)) = none) :
    Calls Tryz.prog 16 #[.pointer (some ⟨s, 0, none⟩)] w fun r w' => ∃ e g' A' n', r = .returned (.int .i64 e) ∧ CkOut ks base g (laidB g (pairsOf M)) A n e g' A' n' ∧ SX W w w' d s jb S base g' A' ks n' (getM M) M.length := by
  have hmf : ∀ (fn : Fn) (first cap : Array Value) (w : World), (Instr.makeFunc fn first cap).run Tryz.prog w = .ok (.func fn first cap) w := fun _ _ _ _ => rfl
  have g1 : ¬ 9223372036854775807 < base.size + 4 := by omega
  have hB1 := Whole.new w 26 #[.pointer (some ⟨s, 0, none⟩)]
  have hb1 : Below w.heap.size w (w.alloc (.cells #[.pointer (some ⟨s, 0, none⟩)] 26)) := (Below.refl _ _).alloc (Nat.le_refl _) _
  have HD := Lib.hid h
  have HT := Lib.hid hT
  have HK := Lib.hid hk
  have HG := Lib.hid hlog
  have HNM := Lib.hid hnm
  have HSZ := Lib.hid hsz
  obtain ⟨bts, hbts⟩ : ∃ bts, laidB g (pairsOf M) = bts := ⟨_, rfl⟩
  rw [hbts]
  clear h hT hk hlog hnm hsz
  go_enter Tryz.func16, Tryz.ntmps16
  go_upto_region 1 with fail
  generalize w.alloc (.cells #[.pointer (some ⟨s, 0, none⟩)] 26) = w1 at hB1 hb1
  obtain ⟨b1, hb1e⟩ : ∃ b1, w.heap.size = b1 := ⟨_, rfl⟩
  rw [hb1e] at hB1
  simp only [hb1e]
  replace hB1 : Whole w1 b1 26 [.pointer (some ⟨s, 0, none⟩)] := hB1
  have HN := Lib.hid (snone_calls w1 s d mb jb base g (HT.out.low hb1).box)
  have HL := Lib.hid (slaid_calls w1 W.heap.size S M s d mb jb g base (HT.out.low hb1).box (HT.out.low hb1).map (by omega) hl HSZ.out)
  rw [hbts] at HL
  have x1 := hB1.cell 0
  go_upto_region 4 with (first
    | (go_at_call 39; refine HL.out.mono ?_; rintro r w2 ⟨_, rfl, ⟨ua, uk, uq, rfl⟩, O2, hb2⟩)
    | (go_at_call 28; refine HN.out.mono ?_; rintro r w2 ⟨rfl, rfl⟩)
    | fail)
  have hC2 := Whole.new w2 30 #[.slice ua uk uq]
  have hb23 : Below w2.heap.size w2 (w2.alloc (.cells #[.slice ua uk uq] 30)) := (Below.refl _ _).alloc (Nat.le_refl _) _
  have O3 := row_low O2 hb23
  have hB3 := (hB1.below hb2 hB1.lt).below hb23 (hB1.below hb2 hB1.lt).lt
  have hb03 := hb1.trans ((hb2.trans (hb23.mono hb2.size)).mono hb1.size)
  have hcge : w1.heap.size ≤ w2.heap.size := hb2.size
  clear O2 hB1 x1 HL HN hb2 hb23
  generalize w2.alloc (.cells #[.slice ua uk uq] 30) = w3 at hC2 O3 hB3 hb03
  obtain ⟨c, hce⟩ : ∃ c, w2.heap.size = c := ⟨_, rfl⟩
  rw [hce] at hC2 hcge
  simp only [hce]
  replace hC2 : Whole w3 c 30 [.slice ua uk uq] := hC2
  have x1 := hB3.cell 0
  have y1 : w3.cell? ⟨s, 1, none⟩ = some (.string base) := (HT.out.low hb03).box.cell 1
  go_upto_region 7 with fail
  have hT4 := Whole.new w3 9 #[.string (tmpN base)]
  have hb34 : Below w3.heap.size w3 (w3.alloc (.cells #[.string (tmpN base)] 9)) := (Below.refl _ _).alloc (Nat.le_refl _) _
  have O4 := row_low O3 hb34
  have hB4 := hB3.below hb34 hB3.lt
  have hC4 := hC2.below hb34 hC2.lt
  have hb04 := hb03.trans (hb34.mono hb03.size)
  have htge := hb03.size
  clear O3 hB3 hC2 x1 y1 hb34
  rw [show (base ++ ⟨#[46, 116, 109, 112]⟩ : ByteArray) = tmpN base from rfl]
  generalize w3.alloc (.cells #[.string (tmpN base)] 9) = w4 at hT4 O4 hB4 hC4 hb04
  obtain ⟨t, hte⟩ : ∃ t, w3.heap.size = t := ⟨_, rfl⟩
  rw [hte] at hT4 htge
  simp only [hte]
  replace hT4 : Whole w4 t 9 [.string (tmpN base)] := hT4
  have F5 := Whole.new w4 45 (ckFn b1 t c).toArray
  have hb45 : Below w4.heap.size w4 (w4.alloc (.cells (ckFn b1 t c).toArray 45)) := (Below.refl _ _).alloc (Nat.le_refl _) _
  have O5 := row_low O4 hb45
  have hC5 : CkC (w4.alloc (.cells (ckFn b1 t c).toArray 45)) s d g mb base (.pointer (some ⟨jb, 0, none⟩)) b1 t c (.slice ua uk uq) := ⟨((HT.out.low hb04).low hb45).box, hB4.below hb45 hB4.lt, hT4.below hb45 hT4.lt, hC4.below hb45 hC4.lt⟩
  have hb05 := hb04.trans (hb45.mono hb04.size)
  have hfge := hb04.size
  clear O4 hB4 hC4 hT4 hb45
  go_upto_region 8 with (first
    | (refine wpList_slice_five (by rfl) 92 45 _ _ _ _ _ (by rfl) _ _ _ _ _ (by rfl) (by rfl) (by rfl) (by rfl) (by rfl) (by rfl) (by rfl) (by rfl) (by rfl) (by rfl) Tryz.underlying92 zero_step ?_)
    | fail)
  replace F5 : Whole (w4.alloc (.cells (ckFn b1 t c).toArray 45)) w4.heap.size 45 (ckFn b1 t c) := F5
  simp only [ckFn] at F5 O5 hC5 hb05
  generalize w4.alloc (.cells #[_, _, _, _, _] 45) = w5 at F5 O5 hC5 hb05
  obtain ⟨F, hFe⟩ : ∃ F, w4.heap.size = F := ⟨_, rfl⟩
  rw [hFe] at F5 hfge
  simp only [hFe]
  have HT5 := Lib.hid (HT.out.low hb05)
  have HD5 := Lib.hid (HD.out.low hb05)
  have HC := Lib.hid hC5
  have HF := Lib.hid F5
  have HO := Lib.hid O5
  have HB := Lib.hid hb05
  have HBL := Lib.hid (laidB_len (g := g) (pairsOf_bound HSZ.out) (by rw [pairsOf_len]; exact hl))
  have hSold : ∀ i, w.heap.size ≤ i → ¬ S i := fun i hi e => by have := (HD.out.old e).1; omega
  have hc0 : w.heap.size ≤ c := Nat.le_trans hb1.size hcge
  have hne1 : b1 ≠ jb := fun e => by have := HT.out.jour.lt; omega
  rw [hbts] at HBL
  clear hC5 F5 O5 hb05
  go_wp2
  go_loopw [34] (fun i wr => ∃ (k : Nat) (S' : Nat → Prop), k ≤ 5 ∧ i = .int .i64 k ∧ (∀ j, j < k → (ckStep ks base bts j (ckRun ks base bts A n j).1 (ckRun ks base bts A n j).2).1 = 0) ∧ KD W wr d S' (ckRun ks base bts A n k).1 ks (ckRun ks base bts A n k).2 ∧ Only w5 wr S ∧ ∀ i, i < w5.heap.size → S' i → S i) (fun i _ => 5 - (intOf i).toNat)
  case atStart => exact ⟨0, S, by omega, rfl, fun j hj => by omega, HD5.out, ⟨rfl, rfl, rfl, Nat.le_refl _, fun _ _ _ => rfl⟩, fun _ _ e => e⟩
  case round =>
    obtain ⟨k, S5, hk5, rfl, hz, hD5, hO5, hs5⟩ := hrel
    obtain ⟨hok, hn5⟩ := ckRun_ok (ks := ks) (base := base) (b := bts) (n := n) HK.out k
    replace hok := hok.ok (by omega)
    replace hn5 : (ckRun ks base bts A n k).2 ≤ 1000000 := by omega
    have hlg := (ckRun_far (ks := ks) (b := bts) (A := A) (n := n) hne.1 hne.2 k).trans HG.out
    obtain ⟨A5, hA5⟩ : ∃ A5, (ckRun ks base bts A n k).1 = A5 := ⟨_, rfl⟩
    obtain ⟨n5, hn5e⟩ : ∃ n5, (ckRun ks base bts A n k).2 = n5 := ⟨_, rfl⟩
    rw [hA5] at hD5 hok hlg
    rw [hn5e] at hD5 hn5
    have hsz : w.heap.size ≤ w5.heap.size := HB.out.size
    have hSs : ¬ S5 s := fun e => HT.out.offs (hs5 s (Nat.lt_of_lt_of_le HT.out.box.lt hsz) e)
    have hS1 : ¬ S5 b1 := fun e => hSold b1 (by omega) (hs5 b1 HC.out.st.lt e)
    have hSt : ¬ S5 t := fun e => hSold t (by omega) (hs5 t HC.out.tm.lt e)
    have hSc : ¬ S5 c := fun e => hSold c (by omega) (hs5 c HC.out.by'.lt e)
    have hSu : ∀ g0, (Value.slice ua uk uq).ownBlock = some g0 → ¬ S5 g0 := fun g0 hg0 e => hSold g0 (Nat.le_trans hb1.size (own_ge HO.out hg0)) (hs5 g0 (row_lt HO.out hg0) e)
    have HC5 := Lib.hid (HC.out.only hO5 HT.out.offs (hSold b1 (by omega)) (hSold t (by omega)) (hSold c (by omega)))
    have HO5 := Lib.hid (show Own wr w1.heap.size (.slice ua uk uq) bts from row_only HO.out hO5 fun g0 hg0 => hSold g0 (Nat.le_trans hb1.size (own_ge HO.out hg0)))
    have HF5 := HF.out.only hO5 (hSold F (by omega))
    have hSF : ¬ S5 F := fun e => hSold F (by omega) (hs5 F HF.out.lt e)
    rcases Nat.lt_or_ge k 5 with hk | hk
    · have hcs : k = 0 ∨ k = 1 ∨ k = 2 ∨ k = 3 ∨ k = 4 := by omega
      rcases hcs with rfl | rfl | rfl | rfl | rfl
      · have HK := Lib.hid (ckk0 W wr d n5 s g mb b1 t c S5 A5 ks base _ _ bts hD5 HC5.out hok hn5)
        have f1 := HF5.cell 0
        have s2 : IntKind.i64.wrap (((0 : Nat) : Int) + 1) = ((0 + 1 : Nat) : Int) := by decide
        obtain ⟨e, he⟩ : ∃ e, (ckStep ks base bts 0 A5 n5).1 = e := ⟨_, rfl⟩
        rw [he] at HK
        have HE := Lib.hid he
        clear hD5 hSu hok hlg he hSs hS1 hSt hSc hSF
        by_cases he : e = 0
        · subst he
          go_wp2_with (first
            | (go_at_call 40; refine HK.out.mono ?_; rintro r w6 ⟨rfl, S6, hD6, hO6, hs6⟩)
            | fail)
          go_roundw
          case rel =>
            refine ⟨0 + 1, S6, by omega, by go_num, fun j hj => ?_, ?_, (hO5.trans hO6).weak fun i hi e => e.elim id (hs5 i hi), fun i hi e => hs5 i hi (hs6 i (Nat.lt_of_lt_of_le hi hO5.size) e)⟩
            · rcases Nat.lt_succ_iff_lt_or_eq.1 hj with hj | rfl
              · exact hz j hj
              · rw [hA5, hn5e]
                exact HE.out
            · show KD W w6 d S6 (ckStep ks base bts 0 (ckRun ks base bts A n 0).1 (ckRun ks base bts A n 0).2).2.1 ks (ckStep ks base bts 0 (ckRun ks base bts A n 0).1 (ckRun ks base bts A n 0).2).2.2
              rw [hA5, hn5e]
              exact hD6
          case measure => simp [intOf]
        · have e1 : (e == 0) = false := by simpa using he
          go_wp2_with (first
            | (go_at_call 40; refine HK.out.mono ?_; rintro r w6 ⟨rfl, S6, hD6, hO6, hs6⟩)
            | fail)
          go_ret
          have hO56 : Only w5 w6 S := (hO5.trans hO6).weak fun i hi e => e.elim id (hs5 i hi)
          have hs56 : ∀ i, i < w5.heap.size → S6 i → S i := fun i hi e => hs5 i hi (hs6 i (Nat.lt_of_lt_of_le hi hO5.size) e)
          refine ⟨e, g, _, _, rfl, .inl ⟨0, by omega, hz, he, rfl, ?_⟩, S6, jb, mb, M, hD6, HT5.out.disk hO56 hs56, fun _ => rfl, Nat.le_refl _, ((Only.of_below HB.out S).trans hO56).weak fun i _ e => .inl (e.elim id id), fun i hi e => hs56 i (Nat.lt_of_lt_of_le hi HB.out.size) e, .inl rfl⟩
          rw [hA5, hn5e]
          rw [← HE.out]
      · have HK := Lib.hid (ckk1 W wr d n5 s g mb b1 t c S5 A5 ks base _ _ bts hD5 HC5.out hok hn5 (by omega) hbs hlg)
        have f1 := HF5.cell 1
        have s2 : IntKind.i64.wrap (((1 : Nat) : Int) + 1) = ((1 + 1 : Nat) : Int) := by decide
        obtain ⟨e, he⟩ : ∃ e, (ckStep ks base bts 1 A5 n5).1 = e := ⟨_, rfl⟩
        rw [he] at HK
        have HE := Lib.hid he
        clear hD5 hSu hok hlg he hSs hS1 hSt hSc hSF
        by_cases he : e = 0
        · subst he
          go_wp2_with (first
            | (go_at_call 42; refine HK.out.mono ?_; rintro r w6 ⟨rfl, S6, hD6, hO6, hs6⟩)
            | fail)
          go_roundw
          case rel =>
            refine ⟨1 + 1, S6, by omega, by go_num, fun j hj => ?_, ?_, (hO5.trans hO6).weak fun i hi e => e.elim id (hs5 i hi), fun i hi e => hs5 i hi (hs6 i (Nat.lt_of_lt_of_le hi hO5.size) e)⟩
            · rcases Nat.lt_succ_iff_lt_or_eq.1 hj with hj | rfl
              · exact hz j hj
              · rw [hA5, hn5e]
                exact HE.out
            · show KD W w6 d S6 (ckStep ks base bts 1 (ckRun ks base bts A n 1).1 (ckRun ks base bts A n 1).2).2.1 ks (ckStep ks base bts 1 (ckRun ks base bts A n 1).1 (ckRun ks base bts A n 1).2).2.2
              rw [hA5, hn5e]
              exact hD6
          case measure => simp [intOf]
        · have e1 : (e == 0) = false := by simpa using he
          go_wp2_with (first
            | (go_at_call 42; refine HK.out.mono ?_; rintro r w6 ⟨rfl, S6, hD6, hO6, hs6⟩)
            | fail)
          go_ret
          have hO56 : Only w5 w6 S := (hO5.trans hO6).weak fun i hi e => e.elim id (hs5 i hi)
          have hs56 : ∀ i, i < w5.heap.size → S6 i → S i := fun i hi e => hs5 i hi (hs6 i (Nat.lt_of_lt_of_le hi hO5.size) e)
          refine ⟨e, g, _, _, rfl, .inl ⟨1, by omega, hz, he, rfl, ?_⟩, S6, jb, mb, M, hD6, HT5.out.disk hO56 hs56, fun _ => rfl, Nat.le_refl _, ((Only.of_below HB.out S).trans hO56).weak fun i _ e => .inl (e.elim id id), fun i hi e => hs56 i (Nat.lt_of_lt_of_le hi HB.out.size) e, .inl rfl⟩
          rw [hA5, hn5e]
          rw [← HE.out]
      · have HK := Lib.hid (ckk2 W wr d n5 s g mb b1 t c S5 A5 ks base _ _ bts hD5 HC5.out hok hn5 hSs hS1 hSt hSc hbs HO5.out.slice ⟨_, _, _, rfl⟩ (fun _ g0 o0 c0 e1 hS => hSu g0 (by rw [e1]; rfl) hS) (by have := HBL.out; omega))
        have f1 := HF5.cell 2
        have s2 : IntKind.i64.wrap (((2 : Nat) : Int) + 1) = ((2 + 1 : Nat) : Int) := by decide
        obtain ⟨e, he⟩ : ∃ e, (ckStep ks base bts 2 A5 n5).1 = e := ⟨_, rfl⟩
        rw [he] at HK
        have HE := Lib.hid he
        clear hD5 hSu hok hlg he hSs hS1 hSt hSc hSF
        by_cases he : e = 0
        · subst he
          go_wp2_with (first
            | (go_at_call 43; refine HK.out.mono ?_; rintro r w6 ⟨rfl, S6, hD6, hO6, hs6⟩)
            | fail)
          go_roundw
          case rel =>
            refine ⟨2 + 1, S6, by omega, by go_num, fun j hj => ?_, ?_, (hO5.trans hO6).weak fun i hi e => e.elim id (hs5 i hi), fun i hi e => hs5 i hi (hs6 i (Nat.lt_of_lt_of_le hi hO5.size) e)⟩
            · rcases Nat.lt_succ_iff_lt_or_eq.1 hj with hj | rfl
              · exact hz j hj
              · rw [hA5, hn5e]
                exact HE.out
            · show KD W w6 d S6 (ckStep ks base bts 2 (ckRun ks base bts A n 2).1 (ckRun ks base bts A n 2).2).2.1 ks (ckStep ks base bts 2 (ckRun ks base bts A n 2).1 (ckRun ks base bts A n 2).2).2.2
              rw [hA5, hn5e]
              exact hD6
          case measure => simp [intOf]
        · have e1 : (e == 0) = false := by simpa using he
          go_wp2_with (first
            | (go_at_call 43; refine HK.out.mono ?_; rintro r w6 ⟨rfl, S6, hD6, hO6, hs6⟩)
            | fail)
          go_ret
          have hO56 : Only w5 w6 S := (hO5.trans hO6).weak fun i hi e => e.elim id (hs5 i hi)
          have hs56 : ∀ i, i < w5.heap.size → S6 i → S i := fun i hi e => hs5 i hi (hs6 i (Nat.lt_of_lt_of_le hi hO5.size) e)
          refine ⟨e, g, _, _, rfl, .inl ⟨2, by omega, hz, he, rfl, ?_⟩, S6, jb, mb, M, hD6, HT5.out.disk hO56 hs56, fun _ => rfl, Nat.le_refl _, ((Only.of_below HB.out S).trans hO56).weak fun i _ e => .inl (e.elim id id), fun i hi e => hs56 i (Nat.lt_of_lt_of_le hi HB.out.size) e, .inl rfl⟩
          rw [hA5, hn5e]
          rw [← HE.out]
      · have HK := Lib.hid (ckk3 W wr d n5 s g mb b1 t c S5 A5 ks base _ _ bts hD5 HC5.out hok hn5 hSs hS1 hSt hSc)
        have f1 := HF5.cell 3
        have s2 : IntKind.i64.wrap (((3 : Nat) : Int) + 1) = ((3 + 1 : Nat) : Int) := by decide
        obtain ⟨e, he⟩ : ∃ e, (ckStep ks base bts 3 A5 n5).1 = e := ⟨_, rfl⟩
        rw [he] at HK
        have HE := Lib.hid he
        clear hD5 hSu hok hlg he hSs hS1 hSt hSc hSF
        by_cases he : e = 0
        · subst he
          go_wp2_with (first
            | (go_at_call 45; refine HK.out.mono ?_; rintro r w6 ⟨rfl, S6, hD6, hO6, hs6⟩)
            | fail)
          go_roundw
          case rel =>
            refine ⟨3 + 1, S6, by omega, by go_num, fun j hj => ?_, ?_, (hO5.trans hO6).weak fun i hi e => e.elim id (hs5 i hi), fun i hi e => hs5 i hi (hs6 i (Nat.lt_of_lt_of_le hi hO5.size) e)⟩
            · rcases Nat.lt_succ_iff_lt_or_eq.1 hj with hj | rfl
              · exact hz j hj
              · rw [hA5, hn5e]
                exact HE.out
            · show KD W w6 d S6 (ckStep ks base bts 3 (ckRun ks base bts A n 3).1 (ckRun ks base bts A n 3).2).2.1 ks (ckStep ks base bts 3 (ckRun ks base bts A n 3).1 (ckRun ks base bts A n 3).2).2.2
              rw [hA5, hn5e]
              exact hD6
          case measure => simp [intOf]
        · have e1 : (e == 0) = false := by simpa using he
          go_wp2_with (first
            | (go_at_call 45; refine HK.out.mono ?_; rintro r w6 ⟨rfl, S6, hD6, hO6, hs6⟩)
            | fail)
          go_ret
          have hO56 : Only w5 w6 S := (hO5.trans hO6).weak fun i hi e => e.elim id (hs5 i hi)
          have hs56 : ∀ i, i < w5.heap.size → S6 i → S i := fun i hi e => hs5 i hi (hs6 i (Nat.lt_of_lt_of_le hi hO5.size) e)
          refine ⟨e, g, _, _, rfl, .inl ⟨3, by omega, hz, he, rfl, ?_⟩, S6, jb, mb, M, hD6, HT5.out.disk hO56 hs56, fun _ => rfl, Nat.le_refl _, ((Only.of_below HB.out S).trans hO56).weak fun i _ e => .inl (e.elim id id), fun i hi e => hs56 i (Nat.lt_of_lt_of_le hi HB.out.size) e, .inl rfl⟩
          rw [hA5, hn5e]
          rw [← HE.out]
      · have HK := Lib.hid (ckk4 W wr d n5 s g mb b1 t c S5 A5 ks base _ _ bts hD5 HC5.out hok hn5 hSs hS1 hSt hSc hbs)
        have f1 := HF5.cell 4
        have s2 : IntKind.i64.wrap (((4 : Nat) : Int) + 1) = ((4 + 1 : Nat) : Int) := by decide
        obtain ⟨e, he⟩ : ∃ e, (ckStep ks base bts 4 A5 n5).1 = e := ⟨_, rfl⟩
        rw [he] at HK
        have HE := Lib.hid he
        clear hD5 hSu hok hlg he hSs hS1 hSt hSc hSF
        by_cases he : e = 0
        · subst he
          go_wp2_with (first
            | (go_at_call 47; refine HK.out.mono ?_; rintro r w6 ⟨rfl, S6, hD6, hO6, hs6⟩)
            | fail)
          go_roundw
          case rel =>
            refine ⟨4 + 1, S6, by omega, by go_num, fun j hj => ?_, ?_, (hO5.trans hO6).weak fun i hi e => e.elim id (hs5 i hi), fun i hi e => hs5 i hi (hs6 i (Nat.lt_of_lt_of_le hi hO5.size) e)⟩
            · rcases Nat.lt_succ_iff_lt_or_eq.1 hj with hj | rfl
              · exact hz j hj
              · rw [hA5, hn5e]
                exact HE.out
            · show KD W w6 d S6 (ckStep ks base bts 4 (ckRun ks base bts A n 4).1 (ckRun ks base bts A n 4).2).2.1 ks (ckStep ks base bts 4 (ckRun ks base bts A n 4).1 (ckRun ks base bts A n 4).2).2.2
              rw [hA5, hn5e]
              exact hD6
          case measure => simp [intOf]
        · have e1 : (e == 0) = false := by simpa using he
          go_wp2_with (first
            | (go_at_call 47; refine HK.out.mono ?_; rintro r w6 ⟨rfl, S6, hD6, hO6, hs6⟩)
            | fail)
          go_ret
          have hO56 : Only w5 w6 S := (hO5.trans hO6).weak fun i hi e => e.elim id (hs5 i hi)
          have hs56 : ∀ i, i < w5.heap.size → S6 i → S i := fun i hi e => hs5 i hi (hs6 i (Nat.lt_of_lt_of_le hi hO5.size) e)
          refine ⟨e, g, _, _, rfl, .inl ⟨4, by omega, hz, he, rfl, ?_⟩, S6, jb, mb, M, hD6, HT5.out.disk hO56 hs56, fun _ => rfl, Nat.le_refl _, ((Only.of_below HB.out S).trans hO56).weak fun i _ e => .inl (e.elim id id), fun i hi e => hs56 i (Nat.lt_of_lt_of_le hi HB.out.size) e, .inl rfl⟩
          rw [hA5, hn5e]
          rw [← HE.out]
    · obtain rfl : k = 5 := by omega
      have HT6 := Lib.hid (HT5.out.disk hO5 hs5)
      have HD6 := Lib.hid hD5
      have HOr := Lib.hid hO5
      have HSr := Lib.hid hs5
      have HB6 := Lib.hid HC5.out.st
      have HZ := Lib.hid hz
      have HLG := Lib.hid hlg
      have HOK := Lib.hid hok
      have HS1 := Lib.hid hS1
      have hd := (Below.refl wr.heap.size wr).drew
      have HLN := Lib.hid (logname_calls wr.drew s d mb g base g _ (HT6.out.low hd).box (by omega) (by omega))
      have x0 : wr.drew.cell? ⟨b1, 0, none⟩ = some (.pointer (some ⟨s, 0, none⟩)) := (HB6.out.below hd HB6.out.lt).cell 0
      have x2 : wr.drew.cell? ⟨s, 2, none⟩ = some (.int .i64 g) := (HT6.out.low hd).box.cell 2
      have s1 : IntKind.i64.wrap ((g : Int) + 1) = ((g + 1 : Nat) : Int) := by rw [IntWalk.i64_in _ (by omega)]; omega
      clear hSu hSs hS1 hSt hSc hSF HF5 hz hD5 hO5 hs5 hlg hok HC5 HO5 HF HC HO HT5 HD5
      go_upto_region 15 with fail
      refine wp_region_noPanic ?_
      refine wp_region_held_drew (S := fun w' => w'.cell? ⟨b1, 0, none⟩ = some (.pointer (some ⟨s, 0, none⟩)) ∧ w'.cell? ⟨s, 2, none⟩ = some (.int .i64 g)) (by kernel_rfl) (⟨x0, x2⟩) (fun hhS => ?_)
      generalize wr.drew = wd at HLN hhS hd x0 x2 ⊢
      refine wpAnyH_take (i := 0) (oi := ⟨some 44, _, _, _, _, _⟩) (v := ?_) rfl (by kernel_rfl) (by kernel_rfl) (by kernel_rfl) (fun _ _ _ h => h) (Or.inl ⟨by rfl, ?_⟩) (by assumption) ?_
      rotate_left
      · intro w hSw
        (try dsimp only at hSw)
        have y0 := hSw.1
        have y1 := hSw.2
        go_simp
        all_goals (with_reducible rfl)
      try simp only [Act.put, List.setIfInBounds_toArray, List.set_cons_zero, List.set_cons_succ]
      refine wpAnyH_take (i := 1) (oi := ⟨some 45, _, _, _, _, _⟩) (v := ?_) rfl (by kernel_rfl) (by kernel_rfl) (by kernel_rfl) (fun _ _ _ h => h) (Or.inl ⟨by rfl, ?_⟩) (by assumption) ?_
      rotate_left
      · intro w hSw
        (try dsimp only at hSw)
        have y0 := hSw.1
        have y1 := hSw.2
        go_simp
        all_goals (with_reducible rfl)
      try simp only [Act.put, List.setIfInBounds_toArray, List.set_cons_zero, List.set_cons_succ]
      refine wpAnyH_take (i := 2) (oi := ⟨some 46, _, _, _, _, _⟩) (v := ?_) rfl (by kernel_rfl) (by kernel_rfl) (by kernel_rfl) (fun _ _ _ h => h) (Or.inl ⟨by rfl, ?_⟩) (by assumption) ?_
      rotate_left
      · intro w hSw
        (try dsimp only at hSw)
        go_simp
        all_goals (with_reducible rfl)
      try simp only [Act.put, List.setIfInBounds_toArray, List.set_cons_zero, List.set_cons_succ]
      refine wpAnyH_take (i := 3) (oi := ⟨some 47, _, _, _, _, _⟩) (v := ?_) rfl (by kernel_rfl) (by kernel_rfl) (by kernel_rfl) (fun _ _ _ h => h) (Or.inl ⟨by rfl, ?_⟩) (by assumption) ?_
      rotate_left
      · intro w hSw
        (try dsimp only at hSw)
        go_simp
        all_goals (with_reducible rfl)
      try simp only [Act.put, List.setIfInBounds_toArray, List.set_cons_zero, List.set_cons_succ]
      refine wpAnyH_take (i := 4) (oi := ⟨some 48, _, _, _, _, _⟩) (v := ?_) rfl (by kernel_rfl) (by kernel_rfl) (by kernel_rfl) (fun _ _ _ h => h) (Or.inl ⟨by rfl, ?_⟩) (by assumption) ?_
      rotate_left
      · intro w hSw
        (try dsimp only at hSw)
        have y0 := hSw.1
        have y1 := hSw.2
        go_simp
        all_goals (with_reducible rfl)
      try simp only [Act.put, List.setIfInBounds_toArray, List.set_cons_zero, List.set_cons_succ]
      refine wpAnyH_ready (rs := [5]) (by kernel_rfl) (by simp) ?_
      refine AllReadyH.cons (o := ⟨some 49, _, _, _, _, _⟩) rfl (fun K hK => ?_) AllReadyH.nil
      go_simp
      refine HLN.out.mono ?_
      rintro r w6 ⟨rfl, hb6⟩
      have hW6 := (HT6.out.low hd).low hb6
      have hP6 := (HB6.out.below hd HB6.out.lt).below hb6 (HB6.out.below hd HB6.out.lt).lt
      refine hK.out _ _ (⟨hP6.cell 0, hW6.box.cell 2⟩) (fun _ => ?_)
      clear hK K
      try simp only [Act.put, List.setIfInBounds_toArray, List.set_cons_zero, List.set_cons_succ]
      refine wpAnyH_take (i := 6) (oi := ⟨some 10, _, _, _, _, _⟩) (v := ?_) rfl (by kernel_rfl) (by kernel_rfl) (by kernel_rfl) (fun _ _ _ h => h) (Or.inl ⟨by rfl, ?_⟩) (by assumption) ?_
      rotate_left
      · intro w hSw
        (try dsimp only at hSw)
        go_simp
        all_goals (with_reducible rfl)
      try simp only [Act.put, List.setIfInBounds_toArray, List.set_cons_zero, List.set_cons_succ]
      refine wpAnyH_done (by kernel_rfl) ?_ _
      refine NoPanic.normal ?_
      have hbr6 : Below wr.heap.size wr w6 := hd.trans (hb6.mono hd.size)
      have HT7 := Lib.hid hW6
      have HP7 := Lib.hid hP6
      have x0 := hP6.cell 0
      have x2 : w6.cell? ⟨s, 2, none⟩ = some (.int .i64 g) := hW6.box.cell 2
      have x2f := hW6.box.free 2
      clear hW6 hP6 hhS hb6 hd HLN
      go_upto_region 17 with fail
      have hcast : ((g + 1 : Nat) : Int) = (g : Int) + 1 := by omega
      have ho7 := Only.set w6 ⟨s, 2, none⟩ (.int .i64 ((g : Int) + 1))
      have hW7 : Whole (w6.setCell ⟨s, 2, none⟩ (.int .i64 ((g : Int) + 1))) s 64 (storC d base ((g : Int) + 1) (.pointer (some ⟨jb, 0, none⟩)) mb) := HT7.out.box.put 2 (.int .i64 ((g : Int) + 1))
      have hV7 := HT7.out.map.only (S' := S5) ho7 (HT7.out.map.cells HT7.out.box (by decide)).1 (fun x hx g0 hg0 => (HT7.out.map.cells HT7.out.box (by decide)).2 x hx g0 hg0) (fun _ _ e => e)
      have hP7 := HP7.out.only ho7 (fun e : b1 = s => whole_ne HP7.out HT7.out.box (by decide) e)
      have hD7 := (HD6.out.low hbr6).only ho7 (fun i _ e => e ▸ HT7.out.offs) (fun i _ e => e ▸ HT7.out.ges)
      have ho67 : Only wr (w6.setCell ⟨s, 2, none⟩ (.int .i64 ((g : Int) + 1))) fun i => i = s := ((Only.of_below hbr6 fun i => i = s).trans ho7).weak fun i _ e => e.elim id id
      clear x0 x2 x2f ho7 hbr6
      generalize w6.setCell ⟨s, 2, none⟩ (.int .i64 ((g : Int) + 1)) = w7 at hW7 hV7 hP7 hD7 ho67
      have hd := (Below.refl w7.heap.size w7).drew
      have hLN := logname_calls w7.drew s d mb (g + 1) base ((g : Int) + 1) _ (hW7.below hd hW7.lt) (by omega) (by omega)
      rw [hcast] at hLN
      have HLN := Lib.hid hLN
      have HJO := Lib.hid (fun w8 (hb : Below w7.drew.heap.size w7.drew w8) => sj_open_none W w8 d _ S5 _ ks (logN base (g + 1)) ((hD7.low hd).low hb) HNM.out (by have := logN_size base (g + 1) (by omega); omega) HLG.out)
      have HW7 := Lib.hid (hW7.below hd hW7.lt)
      have HP7 := Lib.hid (hP7.below hd hP7.lt)
      have x0 : w7.drew.cell? ⟨b1, 0, none⟩ = some (.pointer (some ⟨s, 0, none⟩)) := HP7.out.cell 0
      have x1 : w7.drew.cell? ⟨s, 0, none⟩ = some (.pointer (some ⟨d, 0, none⟩)) := HW7.out.cell 0
      have x2 : w7.drew.cell? ⟨s, 2, none⟩ = some (.int .i64 ((g : Int) + 1)) := HW7.out.cell 2
      have HV7 := Lib.hid (hV7.low hd)
      have HD7 := Lib.hid (hD7.low hd)
      have HO67 := Lib.hid (((ho67.trans (Only.of_below hd fun i => i = s)).weak fun i _ e => e.elim id id : Only wr w7.drew fun i => i = s))
      clear hLN hW7 hP7 hV7 hD7 ho67 hd
      refine wp_region_noPanic ?_
      refine wp_region_held_drew (S := fun w' => w'.cell? ⟨b1, 0, none⟩ = some (.pointer (some ⟨s, 0, none⟩)) ∧ w'.cell? ⟨s, 0, none⟩ = some (.pointer (some ⟨d, 0, none⟩)) ∧ w'.cell? ⟨s, 2, none⟩ = some (.int .i64 ((g : Int) + 1))) (by kernel_rfl) (⟨x0, x1, x2⟩) (fun hhS => ?_)
      generalize w7.drew = w7 at HLN HJO hhS HW7 HP7 HV7 HD7 HO67 x0 x1 x2 ⊢
      refine wpAnyH_take (i := 0) (oi := ⟨some 58, _, _, _, _, _⟩) (v := ?_) rfl (by kernel_rfl) (by kernel_rfl) (by kernel_rfl) (fun _ _ _ h => h) (Or.inl ⟨by rfl, ?_⟩) (by assumption) ?_
      rotate_left
      · intro w hSw
        (try dsimp only at hSw)
        have y0 := hSw.1
        have y1 := hSw.2.1
        have y2 := hSw.2.2
        go_simp
        all_goals (with_reducible rfl)
      try simp only [Act.put, List.setIfInBounds_toArray, List.set_cons_zero, List.set_cons_succ]
      refine wpAnyH_take (i := 1) (oi := ⟨some 59, _, _, _, _, _⟩) (v := ?_) rfl (by kernel_rfl) (by kernel_rfl) (by kernel_rfl) (fun _ _ _ h => h) (Or.inl ⟨by rfl, ?_⟩) (by assumption) ?_
      rotate_left
      · intro w hSw
        (try dsimp only at hSw)
        have y0 := hSw.1
        have y1 := hSw.2.1
        have y2 := hSw.2.2
        go_simp
        all_goals (with_reducible rfl)
      try simp only [Act.put, List.setIfInBounds_toArray, List.set_cons_zero, List.set_cons_succ]
      refine wpAnyH_take (i := 2) (oi := ⟨some 60, _, _, _, _, _⟩) (v := ?_) rfl (by kernel_rfl) (by kernel_rfl) (by kernel_rfl) (fun _ _ _ h => h) (Or.inl ⟨by rfl, ?_⟩) (by assumption) ?_
      rotate_left
      · intro w hSw
        (try dsimp only at hSw)
        go_simp
        all_goals (with_reducible rfl)
      try simp only [Act.put, List.setIfInBounds_toArray, List.set_cons_zero, List.set_cons_succ]
      refine wpAnyH_take (i := 3) (oi := ⟨some 61, _, _, _, _, _⟩) (v := ?_) rfl (by kernel_rfl) (by kernel_rfl) (by kernel_rfl) (fun _ _ _ h => h) (Or.inl ⟨by rfl, ?_⟩) (by assumption) ?_
      rotate_left
      · intro w hSw
        (try dsimp only at hSw)
        go_simp
        all_goals (with_reducible rfl)
      try simp only [Act.put, List.setIfInBounds_toArray, List.set_cons_zero, List.set_cons_succ]
      refine wpAnyH_take (i := 4) (oi := ⟨some 62, _, _, _, _, _⟩) (v := ?_) rfl (by kernel_rfl) (by kernel_rfl) (by kernel_rfl) (fun _ _ _ h => h) (Or.inl ⟨by rfl, ?_⟩) (by assumption) ?_
      rotate_left
      · intro w hSw
        (try dsimp only at hSw)
        have y0 := hSw.1
        have y1 := hSw.2.1
        have y2 := hSw.2.2
        go_simp
        all_goals (with_reducible rfl)
      try simp only [Act.put, List.setIfInBounds_toArray, List.set_cons_zero, List.set_cons_succ]
      refine wpAnyH_take (i := 5) (oi := ⟨some 63, _, _, _, _, _⟩) (v := ?_) rfl (by kernel_rfl) (by kernel_rfl) (by kernel_rfl) (fun _ _ _ h => h) (Or.inl ⟨by rfl, ?_⟩) (by assumption) ?_
      rotate_left
      · intro w hSw
        (try dsimp only at hSw)
        have y0 := hSw.1
        have y1 := hSw.2.1
        have y2 := hSw.2.2
        go_simp
        all_goals (with_reducible rfl)
      try simp only [Act.put, List.setIfInBounds_toArray, List.set_cons_zero, List.set_cons_succ]
      refine wpAnyH_take (i := 6) (oi := ⟨some 64, _, _, _, _, _⟩) (v := ?_) rfl (by kernel_rfl) (by kernel_rfl) (by kernel_rfl) (fun _ _ _ h => h) (Or.inl ⟨by rfl, ?_⟩) (by assumption) ?_
      rotate_left
      · intro w hSw
        (try dsimp only at hSw)
        have y0 := hSw.1
        have y1 := hSw.2.1
        have y2 := hSw.2.2
        go_simp
        all_goals (with_reducible rfl)
      try simp only [Act.put, List.setIfInBounds_toArray, List.set_cons_zero, List.set_cons_succ]
      refine wpAnyH_take (i := 7) (oi := ⟨some 65, _, _, _, _, _⟩) (v := ?_) rfl (by kernel_rfl) (by kernel_rfl) (by kernel_rfl) (fun _ _ _ h => h) (Or.inl ⟨by rfl, ?_⟩) (by assumption) ?_
      rotate_left
      · intro w hSw
        (try dsimp only at hSw)
        go_simp
        all_goals (with_reducible rfl)
      try simp only [Act.put, List.setIfInBounds_toArray, List.set_cons_zero, List.set_cons_succ]
      refine wpAnyH_take (i := 8) (oi := ⟨some 66, _, _, _, _, _⟩) (v := ?_) rfl (by kernel_rfl) (by kernel_rfl) (by kernel_rfl) (fun _ _ _ h => h) (Or.inl ⟨by rfl, ?_⟩) (by assumption) ?_
      rotate_left
      · intro w hSw
        (try dsimp only at hSw)
        go_simp
        all_goals (with_reducible rfl)
      try simp only [Act.put, List.setIfInBounds_toArray, List.set_cons_zero, List.set_cons_succ]
      refine wpAnyH_take (i := 9) (oi := ⟨some 67, _, _, _, _, _⟩) (v := ?_) rfl (by kernel_rfl) (by kernel_rfl) (by kernel_rfl) (fun _ _ _ h => h) (Or.inl ⟨by rfl, ?_⟩) (by assumption) ?_
      rotate_left
      · intro w hSw
        (try dsimp only at hSw)
        have y0 := hSw.1
        have y1 := hSw.2.1
        have y2 := hSw.2.2
        go_simp
        all_goals (with_reducible rfl)
      try simp only [Act.put, List.setIfInBounds_toArray, List.set_cons_zero, List.set_cons_succ]
      refine wpAnyH_ready (rs := [10]) (by kernel_rfl) (by simp) ?_
      refine AllReadyH.cons (o := ⟨some 68, _, _, _, _, _⟩) rfl (fun K hK => ?_) AllReadyH.nil
      go_simp
      refine HLN.out.mono ?_
      rintro r w8 ⟨rfl, hb8⟩
      refine hK.out _ _ (⟨(HP7.out.below hb8 HP7.out.lt).cell 0, (HW7.out.below hb8 HW7.out.lt).cell 0, (HW7.out.below hb8 HW7.out.lt).cell 2⟩) (fun _ => ?_)
      clear hK K
      try simp only [Act.put, List.setIfInBounds_toArray, List.set_cons_zero, List.set_cons_succ]
      refine wpAnyH_ready (rs := [11]) (by kernel_rfl) (by simp) ?_
      refine AllReadyH.cons (o := ⟨some 69, _, _, _, _, _⟩) rfl (fun K hK => ?_) AllReadyH.nil
      go_simp
      refine (HJO.out w8 hb8).mono ?_
      rintro r w9 ⟨jb2, ua2, uc2, rfl, hJ9, hjge, hb9⟩
      have hb79 := hb8.trans (hb9.mono hb8.size)
      have hW9 := HW7.out.below hb79 HW7.out.lt
      have hP9 := HP7.out.below hb79 HP7.out.lt
      have y3f := hW9.free 3
      have y3 : w9.cell? ⟨s, 3, none⟩ = some (.pointer (some ⟨jb, 0, none⟩)) := hW9.cell 3
      refine hK.out _ _ (⟨hP9.cell 0, hW9.cell 0, hW9.cell 2⟩) (fun _ => ?_)
      clear hK K
      try simp only [Act.put, List.setIfInBounds_toArray, List.set_cons_zero, List.set_cons_succ]
      refine wpAnyH_take (i := 12) (oi := ⟨some 57, _, _, _, _, _⟩) (v := ?_) rfl (by kernel_rfl) (by kernel_rfl) (by kernel_rfl) (fun _ _ _ h => h) (Or.inl ⟨by rfl, ?_⟩) (by assumption) ?_
      rotate_left
      · intro w hSw
        (try dsimp only at hSw)
        go_simp
        all_goals (with_reducible rfl)
      try simp only [Act.put, List.setIfInBounds_toArray, List.set_cons_zero, List.set_cons_succ]
      refine wpAnyH_take (i := 13) (oi := ⟨some 70, _, _, _, _, _⟩) (v := ?_) rfl (by kernel_rfl) (by kernel_rfl) (by kernel_rfl) (fun _ _ _ h => h) (Or.inl ⟨by rfl, ?_⟩) (by assumption) ?_
      rotate_left
      · intro w hSw
        (try dsimp only at hSw)
        go_simp
        all_goals (with_reducible rfl)
      try simp only [Act.put, List.setIfInBounds_toArray, List.set_cons_zero, List.set_cons_succ]
      refine wpAnyH_take (i := 14) (oi := ⟨some 71, _, _, _, _, _⟩) (v := ?_) rfl (by kernel_rfl) (by kernel_rfl) (by kernel_rfl) (fun _ _ _ h => h) (Or.inl ⟨by rfl, ?_⟩) (by assumption) ?_
      rotate_left
      · intro w hSw
        (try dsimp only at hSw)
        go_simp
        all_goals (with_reducible rfl)
      try simp only [Act.put, List.setIfInBounds_toArray, List.set_cons_zero, List.set_cons_succ]
      refine wpAnyH_take (i := 15) (oi := ⟨some 72, _, _, _, _, _⟩) (v := ?_) rfl (by kernel_rfl) (by kernel_rfl) (by kernel_rfl) (fun _ _ _ h => h) (Or.inl ⟨by rfl, ?_⟩) (by assumption) ?_
      rotate_left
      · intro w hSw
        (try dsimp only at hSw)
        go_simp
        all_goals (with_reducible rfl)
      try simp only [Act.put, List.setIfInBounds_toArray, List.set_cons_zero, List.set_cons_succ]
      refine wpAnyH_take (i := 16) (oi := ⟨some 73, _, _, _, _, _⟩) (v := ?_) rfl (by kernel_rfl) (by kernel_rfl) (by kernel_rfl) (fun _ _ _ h => h) (Or.inl ⟨by rfl, ?_⟩) (by assumption) ?_
      rotate_left
      · intro w hSw
        (try dsimp only at hSw)
        go_simp
        all_goals (with_reducible rfl)
      try simp only [Act.put, List.setIfInBounds_toArray, List.set_cons_zero, List.set_cons_succ]
      refine wpAnyH_take (i := 17) (oi := ⟨some 74, _, _, _, _, _⟩) (v := ?_) rfl (by kernel_rfl) (by kernel_rfl) (by kernel_rfl) (fun _ _ _ h => h) (Or.inl ⟨by rfl, ?_⟩) (by assumption) ?_
      rotate_left
      · intro w hSw
        (try dsimp only at hSw)
        go_simp
        all_goals (with_reducible rfl)
      try simp only [Act.put, List.setIfInBounds_toArray, List.set_cons_zero, List.set_cons_succ]
      refine wpAnyH_ready (rs := [18]) (by kernel_rfl) (by simp) ?_
      refine AllReadyH.cons (o := ⟨none, _, _, _, _, _⟩) rfl (fun K hK => ?_) AllReadyH.nil
      go_simp
      have hW10 : Whole (w9.setCell ⟨s, 3, none⟩ (.pointer (some ⟨jb2, 0, none⟩))) s 64 (storC d base ((g : Int) + 1) (.pointer (some ⟨jb2, 0, none⟩)) mb) := hW9.put 3 (.pointer (some ⟨jb2, 0, none⟩))
      have ho10 := Only.set w9 ⟨s, 3, none⟩ (.pointer (some ⟨jb2, 0, none⟩))
      have hP10 := hP9.only ho10 (fun e : b1 = s => whole_ne hP9 hW9 (by decide) e)
      refine hK.out _ _ (⟨hP10.cell 0, hW10.cell 0, hW10.cell 2⟩) (fun _ => ?_)
      clear hK K
      try simp only [Act.put]
      refine wpAnyH_done (by kernel_rfl) ?_ _
      refine NoPanic.normal ?_
      have hs9 : ¬ S5 s := HT7.out.offs
      have hD10 := ((HD7.out.low hb79).only ho10 (fun i _ e => e ▸ hs9) (fun i _ e => e ▸ HT7.out.ges))
      have hV9 := HV7.out.low hb79
      have hV10 := hV9.only (S' := S5) ho10 (hV9.cells hW9 (by decide)).1 (fun x hx g0 hg0 => (hV9.cells hW9 (by decide)).2 x hx g0 hg0) (fun _ _ e => e)
      have hJ10 : Jour (w9.setCell ⟨s, 3, none⟩ (.pointer (some ⟨jb2, 0, none⟩))) jb2 d (logN base (g + 1)) := hJ9.only ho10 (by
        obtain ⟨_, _, hj⟩ := hJ9
        exact whole_ne hj hW9 (by decide))
      have hge2 : wr.heap.size ≤ jb2 := Nat.le_trans HO67.out.size (Nat.le_trans hb8.size hjge)
      have HGE := Lib.hid (show w.heap.size ≤ jb2 by have h2 := HB.out.size; have h3 := HOr.out.size; omega)
      have hsj2 : ¬ S5 jb2 := fun e => by have := (HD6.out.old e).1; omega
      rw [← hcast] at hW10
      have hT10 : ST (w9.setCell ⟨s, 3, none⟩ (.pointer (some ⟨jb2, 0, none⟩))) W.heap.size S5 d s base (g + 1) jb2 mb M := ⟨hW10, hJ10, hV10, hs9, hsj2, HT7.out.offm, HT7.out.ges, by
        have h1 := HD.out.below.size
        have h2 := HB.out.size
        have h3 := HOr.out.size
        omega⟩
      have hO10 : Only w (w9.setCell ⟨s, 3, none⟩ (.pointer (some ⟨jb2, 0, none⟩))) fun i => S i ∨ i = s := ((((Only.of_below HB.out S).trans HOr.out).trans (HO67.out.trans ((Only.of_below hb79 fun i => i = s).trans ho10))).weak fun i _ e => by
        rcases e with (e | e) | e | e | e
        · exact .inl e
        · exact .inl e
        · exact .inr e
        · exact .inr e
        · exact .inr e)
      have HT10 := Lib.hid hT10
      have HD10 := Lib.hid hD10
      have HO10 := Lib.hid hO10
      have HP10 := Lib.hid hP10
      have x0 := hP10.cell 0
      have hCR : ∀ A' n', clrR ks (logN base g) (A5, n5) = (A', n') → CkOut ks base g bts A n 0 (g + 1) A' n' := fun A' n' h => .inr ⟨HZ.out, rfl, rfl, by
        rw [← h, ← hA5, ← hn5e]⟩
      have hS5w : ∀ i, i < w.heap.size → S5 i → S i := fun i hi e => HSr.out i (Nat.lt_of_lt_of_le hi HB.out.size) e
      have HCR := Lib.hid hCR
      have HS5 := Lib.hid hS5w
      clear hs9 hD10 hV9 hV10 hJ10 hge2 hsj2 hT10 hO10 hP10 hW10 ho10 hJ9 hb9 hb79 hW9 hP9 y3 y3f hjge hb8 hCR hS5w hhS x1 x2 HLN HJO HW7 HP7 HV7 HD7 HO67
      generalize w9.setCell ⟨s, 3, none⟩ (.pointer (some ⟨jb2, 0, none⟩)) = w10 at HT10 HD10 HO10 HP10 x0 ⊢
      cases hg5 : getA A5 (logN base g) with
      | none =>
        have HCL := Lib.hid (sclear_none W w10 d n5 s g mb S5 A5 ks base _ _ HD10.out HT10.out.box (logN base g) hg5)
        go_wp2_with (first
          | (go_at_call 41; refine HCL.out.mono ?_; rintro r w11 ⟨rfl, rfl⟩)
          | fail)
        go_ret
        refine ⟨0, g + 1, _, _, rfl, HCR.out A5 n5 (by unfold clrR; rw [hg5]), S5, jb2, mb, M, HD10.out, HT10.out, fun _ => rfl, Nat.le_refl _, HO10.out.weak fun i _ e => e.elim .inl fun e => .inr (.inl e), HS5.out, .inr HGE.out⟩
      | some f5 =>
        obtain ⟨e6, he6⟩ : ∃ e6, (remR A5 (refB ks n5) (logN base g)).1 = e6 := ⟨_, rfl⟩
        have HCL := Lib.hid (sclear_some W w10 d n5 s g mb S5 A5 (remR A5 (refB ks n5) (logN base g)).2 ks base _ _ e6 HD10.out HOK.out hn5 HT10.out.box (logN base g) f5 hg5 (by rw [← he6]))
        go_wp2_with (first
          | (go_at_call 41; refine HCL.out.mono ?_; rintro r w11 ⟨rfl, S6, hD11, ho11, hs11⟩)
          | fail)
        go_ret
        refine ⟨0, g + 1, _, _, rfl, HCR.out _ (n5 + 1) (by unfold clrR; rw [hg5]), S6, jb2, mb, M, hD11, HT10.out.disk ho11 hs11, fun _ => rfl, Nat.le_refl _, (HO10.out.trans ho11).weak fun i hi e => ?_, fun i hi e => HS5.out i hi (hs11 i (Nat.lt_of_lt_of_le hi HO10.out.size) e), .inr HGE.out⟩
        rcases e with (e | e) | e
        · exact .inl e
        · exact .inr (.inl e)
        · exact .inl (HS5.out i hi e)

end Go.Proofs.YtmmlpbepaefamaaGreatDoor
