/- Both disks answer alike at each call; both in memory, their blocks apart. -/
import Derived.Test.YtmmlpbepaefamaaDKeepF
import Derived.Test.YtmmlpbepaefamaaRLawX2
namespace Go.Proofs.Ytmmlpbepaefamaa
open Go.RowKit Go.MapKept Go.Maps Go.Sort Go.Shelf

theorem app_alike {A R : Fs} (h : Alike A R) (q : Bool) (s : ByteArray) (b : List (BitVec 8)) : (appR A q s b).1 = (appS R q s b).1 ∧ Alike (appR A q s b).2 (appS R q s b).2 := by
  unfold appR appS
  split
  · exact ⟨rfl, h⟩
  split
  · exact ⟨rfl, h⟩
  rw [← h.get s, ← h.len]
  cases hg : getA A s with
  | none =>
    simp only []
    split
    · exact ⟨rfl, h⟩
    split
    · exact ⟨rfl, h⟩
    exact ⟨rfl, h.new hg (fun e => by cases e)⟩
  | some f =>
    simp only []
    split
    · exact ⟨rfl, h⟩
    exact ⟨rfl, h.set (fun e => by simp at e)⟩
theorem cut_alike {A R : Fs} (h : Alike A R) (q : Bool) (s : ByteArray) (k : Int) : (cutR A q s k).1 = (cutR R q s k).1 ∧ Alike (cutR A q s k).2 (cutR R q s k).2 := by
  unfold cutR
  split
  · exact ⟨rfl, h⟩
  rw [← h.get s]
  cases hg : getA A s with
  | none => exact ⟨rfl, h⟩
  | some f =>
    simp only []
    split
    · exact ⟨rfl, h⟩
    exact ⟨rfl, h.set (fun e => by simp at e)⟩
theorem sync_alike {A R : Fs} (h : Alike A R) (q : Bool) (s : ByteArray) : (syncR A q s).1 = (syncR R q s).1 ∧ Alike (syncR A q s).2 (syncR R q s).2 := by
  unfold syncR
  split
  · exact ⟨rfl, h⟩
  rw [← h.get s]
  cases hg : getA A s with
  | none => exact ⟨rfl, h⟩
  | some f => exact ⟨rfl, h.set (fun _ => rfl)⟩
theorem ren_alike {A R : Fs} (h : Alike A R) (q : Bool) (s t : ByteArray) : (renR A q s t).1 = (renS R q s t).1 ∧ Alike (renR A q s t).2 (renS R q s t).2 := by
  unfold renR renS
  split
  · exact ⟨rfl, h⟩
  split
  · exact ⟨rfl, h⟩
  rw [← h.get s]
  cases hg : getA A s with
  | none => exact ⟨rfl, h⟩
  | some f =>
    simp only []
    split
    · exact ⟨rfl, h⟩
    rename_i ho
    have he : f.ops = [] := List.eq_nil_of_length_eq_zero (by omega)
    have hf := h.fr s f hg he
    split
    · rename_i hst
      subst hst
      exact ⟨rfl, h.renSame hg⟩
    · have e : (⟨f.safe, f.ops, false⟩ : Dfile) = f := by rw [← hf]
      rw [e]
      exact ⟨rfl, h.ren hf⟩
theorem rem_alike {A R : Fs} (h : Alike A R) (q : Bool) (s : ByteArray) : (remR A q s).1 = (remR R q s).1 ∧ Alike (remR A q s).2 (remR R q s).2 := by
  unfold remR
  split
  · exact ⟨rfl, h⟩
  rw [← h.get s]
  cases hg : getA A s with
  | none => exact ⟨rfl, h⟩
  | some f => exact ⟨rfl, h.drop s⟩
theorem spo_alike {A R : Fs} (h : Alike A R) (s : ByteArray) (k : Int) : (spoR A s k).1 = (spoR R s k).1 ∧ Alike (spoR A s k).2 (spoR R s k).2 := by
  unfold spoR
  rw [← h.get s]
  cases hg : getA A s with
  | none => exact ⟨rfl, h⟩
  | some f =>
    simp only []
    split
    · exact ⟨rfl, h⟩
    rename_i ho
    have he : f.ops = [] := List.eq_nil_of_length_eq_zero (by omega)
    split
    · exact ⟨rfl, h⟩
    exact ⟨rfl, h.set (fun _ => h.fr s f hg he)⟩

/-- Bounds: at most k files, of at most k operations, with short names. -/
def okN (k : Nat) (A : Fs) : Prop := A.length ≤ k ∧ ∀ s f, getA A s = some f → f.ops.length ≤ k ∧ s.size ≤ 64
theorem okN.more {k : Nat} {A : Fs} (h : okN k A) : okN (k + 1) A := ⟨Nat.le_succ_of_le h.1, fun s f g => ⟨Nat.le_succ_of_le (h.2 s f g).1, (h.2 s f g).2⟩⟩
theorem get_of_mem : ∀ {A : Fs}, (A.map (·.1)).Nodup → ∀ x ∈ A, getA A x.1 = some x.2
  | y :: A, hn, x, hx => by
    rw [List.map_cons, List.nodup_cons] at hn
    rw [getA_cons]
    rcases List.mem_cons.1 hx with rfl | hx
    · rw [if_pos rfl]
    · have hne : ¬ y.1 = x.1 := fun e => hn.1 (by rw [e]; exact List.mem_map_of_mem (f := fun x : ByteArray × Dfile => x.1) hx)
      rw [if_neg hne, get_of_mem hn.2 x hx]
theorem okN.ok {k : Nat} {A : Fs} (h : okN k A) (hk : k ≤ 1000) (hn : (A.map (·.1)).Nodup) : okA A := ⟨Nat.le_trans h.1 hk, fun x hx => by
  have := h.2 _ _ (get_of_mem hn x hx)
  exact ⟨by omega, by omega⟩⟩
theorem okN.alike {k : Nat} {A R : Fs} (h : okN k A) (ha : Alike A R) : okN k R := ⟨ha.len ▸ h.1, fun s f g => h.2 s f ((ha.get s).trans g)⟩
theorem okN.set {k : Nat} {A : Fs} (h : okN k A) {s : ByteArray} {f : Dfile} (hf : f.ops.length ≤ k + 1) : okN (k + 1) (setA A s f) := by
  refine ⟨?_, fun t g => ?_⟩
  · have : (setA A s f).length = A.length := by
      have := congrArg List.length (setA_map A s f)
      rwa [List.length_map, List.length_map] at this
    rw [this]
    exact Nat.le_succ_of_le h.1
  · rw [get_set]
    split
    · rename_i e
      intro e2
      obtain ⟨rfl, e1⟩ := e
      cases hg : getA A s with
      | none => exact absurd hg e1
      | some f0 => exact ⟨Option.some.inj e2 ▸ hf, (h.2 s f0 hg).2⟩
    · exact h.more.2 t g
theorem okN.drop {k : Nat} {A : Fs} (h : okN k A) (s : ByteArray) : okN k (dropA A s) := ⟨Nat.le_trans (List.length_filter_le _ _) h.1, fun t g => by
  rw [get_drop]
  split
  · intro e
    cases e
  · exact h.2 t g⟩
theorem okN.put {k : Nat} {A : Fs} (h : okN k A) {s : ByteArray} {f : Dfile} (hs : s.size ≤ 64) (hf : f.ops.length ≤ k + 1) : okN (k + 1) (putA A s f) := by
  refine ⟨?_, fun t g => ?_⟩
  · unfold putA
    split
    · rw [List.length_append]
      exact Nat.add_le_add_right h.1 1
    · rw [List.length_map]
      exact Nat.le_succ_of_le h.1
  · rw [get_put]
    split
    · rename_i e
      intro e2
      subst e
      exact ⟨Option.some.inj e2 ▸ hf, hs⟩
    · exact h.more.2 t g
theorem nameN_size {s : ByteArray} (h : nameN s = true) : s.size ≤ 64 := by
  unfold nameN at h
  simp only [Bool.and_eq_true, decide_eq_true_iff] at h
  exact h.2.2
theorem okN.app {k : Nat} {A : Fs} (h : okN k A) (q : Bool) (s : ByteArray) (b : List (BitVec 8)) : okN (k + 1) (appR A q s b).2 := by
  unfold appR
  split
  · exact h.more
  cases hnm : nameN s with
  | false => exact h.more
  | true =>
    rw [if_neg (by decide)]
    cases hg : getA A s with
    | none =>
      simp only []
      split
      · exact h.more
      split
      · exact h.more
      have e0 : A ++ [(s, ⟨[], [.add b], true⟩)] = putA A s ⟨[], [.add b], true⟩ := by unfold putA; rw [if_pos hg]
      show okN (k + 1) (A ++ [(s, ⟨[], [.add b], true⟩)])
      rw [e0]
      exact h.put (nameN_size hnm) (Nat.le_add_left 1 k)
    | some f =>
      simp only []
      split
      · exact h.more
      exact h.set (by show (f.ops ++ [_]).length ≤ _; rw [List.length_append]; exact Nat.add_le_add_right (h.2 s f hg).1 1)
theorem okN.cut {k : Nat} {A : Fs} (h : okN k A) (q : Bool) (s : ByteArray) (z : Int) : okN (k + 1) (cutR A q s z).2 := by
  unfold cutR
  split
  · exact h.more
  cases hg : getA A s with
  | none => exact h.more
  | some f =>
    simp only []
    split
    · exact h.more
    exact h.set (by show (f.ops ++ [_]).length ≤ _; rw [List.length_append]; exact Nat.add_le_add_right (h.2 s f hg).1 1)
theorem okN.sync {k : Nat} {A : Fs} (h : okN k A) (q : Bool) (s : ByteArray) : okN (k + 1) (syncR A q s).2 := by
  unfold syncR
  split
  · exact h.more
  cases hg : getA A s with
  | none => exact h.more
  | some f => exact h.set (Nat.zero_le _)
theorem okN.ren {k : Nat} {A : Fs} (h : okN k A) (q : Bool) (s t : ByteArray) : okN (k + 1) (renR A q s t).2 := by
  unfold renR
  split
  · exact h.more
  cases hnm : nameN t with
  | false => exact h.more
  | true =>
    rw [if_neg (by decide)]
    cases hg : getA A s with
    | none => exact h.more
    | some f =>
      simp only []
      split
      · exact h.more
      exact (h.drop s).put (nameN_size hnm) (Nat.le_succ_of_le (h.2 s f hg).1)
theorem okN.rem {k : Nat} {A : Fs} (h : okN k A) (q : Bool) (s : ByteArray) : okN (k + 1) (remR A q s).2 := by
  unfold remR
  split
  · exact h.more
  cases hg : getA A s with
  | none => exact h.more
  | some f => exact (h.drop s).more
theorem okN.spo {k : Nat} {A : Fs} (h : okN k A) (s : ByteArray) (z : Int) : okN (k + 1) (spoR A s z).2 := by
  unfold spoR
  cases hg : getA A s with
  | none => exact h.more
  | some f =>
    simp only []
    split
    · exact h.more
    split
    · exact h.more
    exact h.set (Nat.zero_le _)
theorem okN.crash {k : Nat} {A : Fs} (h : okN k A) (hn : (A.map (·.1)).Nodup) (ks : List Kp) : okN (k + 1) (crashF ks A) := by
  refine ⟨?_, fun t g => ?_⟩
  · have := (crashF_sub ks A).length_le
    rw [List.length_map, List.length_map] at this
    have := h.1
    omega
  · rw [get_crash ks A hn]
    cases hg : getA A t with
    | none => intro e; cases e
    | some f =>
      show (if _ then _ else _) = _ → _
      split
      · intro e
        exact ⟨Option.some.inj e ▸ Nat.zero_le _, (h.2 t f hg).2⟩
      · intro e
        cases e

/-- Both disks in memory. -/
structure Duo (W w : World) (B d m : Nat) (S T : Nat → Prop) (A R : Fs) (ks rl : List Int) (n : Nat) : Prop where
  disk : KD W w d S A ks n
  doc : RK w B m T R rl n
  apart : ∀ i, S i → ¬ T i
  wb : W.heap.size ≤ B
theorem Duo.mid {W w w1 : World} {B d m n n' : Nat} {S T : Nat → Prop} {A A' R : Fs} {ks rl : List Int} (h : Duo W w B d m S T A R ks rl n) (h1 : KX W w w1 d S A' ks n') : RK w1 B m T R rl n := by
  obtain ⟨_, _, ho, _⟩ := h1
  exact h.doc.only ho fun i hi e => h.apart i e hi
/-- A call of both. -/
theorem Duo.fin {W w w1 w2 : World} {B d m n n' : Nat} {S T : Nat → Prop} {A A' R R' : Fs} {ks rl : List Int} (h : Duo W w B d m S T A R ks rl n) (h1 : KX W w w1 d S A' ks n') (h2 : RX w1 w2 B m T R' rl n') :
    (∃ S' T', Duo W w2 B d m S' T' A' R' ks rl n') ∧ Below W.heap.size w w2 := by
  obtain ⟨S', k1, o1, s1⟩ := h1
  obtain ⟨T', r2, o2, t2⟩ := h2
  have hne : ∀ i, S' i → ¬ T i := fun i hs ht => by
    have hlt := (h.doc.old ht).2
    exact h.apart i (s1 i hlt hs) ht
  have hW : W.heap.size ≤ w.heap.size := h.disk.below.size
  refine ⟨⟨S', T', k1.only o2 (fun i _ ht hs => hne i hs ht) (fun i _ ht => Nat.le_trans h.wb (h.doc.old ht).1), r2, fun i hs ht => ?_, h.wb⟩, ?_⟩
  · rcases t2 i ht with e | e
    · exact hne i hs e
    · have := (k1.old hs).1
      omega
  · refine (o1.trans o2).below hW fun i _ e => ?_
    rcases e with e | e
    · exact (h.disk.old e).2
    · exact Nat.le_trans h.wb (h.doc.old e).1

end Go.Proofs.Ytmmlpbepaefamaa

/- Rows of bytes whose spare cells hold bytes too: append, Clone, after, content, Read. -/
namespace Go.Proofs.Ytmmlpbepaefamaa
open Go.RowKit Go.MapKept

/-- All cells of a slice's block are bytes, the spare ones too. -/
def Bys (w : World) (v : Value) : Prop := ∀ g, v.ownBlock = some g → ∃ ys : List (BitVec 8), Whole w g 5 (ys.map vu8)
theorem okinj {α : Type} {v v' : α} {w w' : World} (h : Result.ok v w = Result.ok v' w') : v = v' ∧ w = w' := by
  injection h with h1 h2
  exact ⟨h1, h2⟩
theorem Bys.only {w w' : World} {S : Nat → Prop} {v : Value} (h : Bys w v) (ho : Only w w' S) (hs : ∀ g, v.ownBlock = some g → ¬ S g) : Bys w' v := fun g hg => by
  obtain ⟨ys, hW⟩ := h g hg
  exact ⟨ys, hW.only ho (hs g hg)⟩
theorem Bys.low {w w' : World} {v : Value} (h : Bys w v) (hb : Below w.heap.size w w') : Bys w' v := h.only (Only.of_below hb fun _ => False) fun _ _ h => h
def IsB (x : Value) : Prop := ∃ y : BitVec 8, x = vu8 y
theorem bys_list : ∀ {l : List Value}, (∀ x ∈ l, IsB x) → ∃ ys : List (BitVec 8), l = ys.map vu8
  | [], _ => ⟨[], rfl⟩
  | x :: l, h => by
    obtain ⟨y, rfl⟩ := h x List.mem_cons_self
    obtain ⟨ys, rfl⟩ := bys_list fun z hz => h z (List.mem_cons_of_mem _ hz)
    exact ⟨y :: ys, rfl⟩
theorem zero_bys (n : Nat) : ∀ x ∈ (Builtin.zeroCells (Value.int .u8 0).cells n).toList, IsB x := by
  intro x hx
  simp [Builtin.zeroCells, Value.cells] at hx
  obtain ⟨i, _, rfl⟩ := hx
  exact ⟨0, by simp [Nat.mod_one, vu8]⟩
theorem append_bys {w : World} (B : Nat) (t ty : TypeId) (i : TypeInfo) (ht : Try.prog.underlying t = some (.slice 5)) (hi : Try.prog.info? 5 = some i) (hz : i.zero = some (.int .u8 0)) (hsize : i.size = 1) (hby : i.bytes = 1)
    (v : Value) (n : Nat) (xs : List Value) (hown : w.ownsRow B 5 1 v n xs) (hS : Bys w v) (hxs : ∀ u ∈ xs, IsB u)
    (a : Addr) (m c : Nat) (news : List Value) (hl : news.length = m) (hnews : ∀ j u, news[j]? = some u → w.cell? (a.add j) = some u) (h1 : ∀ u ∈ news, IsB u)
    (hbig : n + m ≤ 100000000000) (hbase : B ≤ w.heap.size) :
    ∃ v' w', (Builtin.append_ #[t, t] ty #[v, .slice (some a) m c]).run Try.prog w = .ok v' w' ∧ w'.ownsRow B 5 1 v' (n + m) (xs ++ news) ∧ w.grownBy w' v.ownBlock ∧ Moved w v v' ∧ Bys w' v' := by
  have hone : ∀ u ∈ news, u.oneCell' = true := fun u hu => by
    obtain ⟨s, rfl⟩ := h1 u hu
    rfl
  have hl1 : news.length = m * 1 := by omega
  have hl2 : news.length = m * i.size := by rw [hsize]; omega
  obtain ⟨v', w', hr, h2, h3, h4, h5⟩ := run_append_own_at (P := Try.prog) w B t ty 5 i _ 1 1 ht hi hz hsize hby rfl (by decide) v n xs hown a m c news hl1 hnews hone (by simp only [maxLen]; omega) (by omega) hbase
  refine ⟨v', w', hr, h2, h3, h5.imp id fun h => ⟨_, h, Nat.le_refl _⟩, fun g hg => ?_⟩
  have fin : ∀ {cur : List Value}, Whole w' g 5 cur → (∀ x ∈ cur, IsB x) → ∃ ys : List (BitVec 8), Whole w' g 5 (ys.map vu8) := fun hW hc => by
    obtain ⟨ys, rfl⟩ := bys_list hc
    exact ⟨ys, hW⟩
  have bys3 : ∀ k, ∀ x ∈ (xs.toArray ++ news.toArray ++ Builtin.zeroCells (Value.int .u8 0).cells k).toList, IsB x := fun k x hx => by
    simp only [Array.toList_append, List.mem_append] at hx
    rcases hx with (hx | hx) | hx
    · exact hxs x (by simpa using hx)
    · exact h1 x (by simpa using hx)
    · exact zero_bys k x hx
  rcases hown.2 with ⟨rfl, rfl⟩ | ⟨b, cap, cur, rfl, hbg, hbb, hnc, hcm, hcs, htake⟩
  · obtain rfl : xs = [] := List.eq_nil_of_length_eq_zero (by simpa using hown.1)
    by_cases hm : m = 0
    · rw [h4.2 ⟨rfl, hm⟩] at hg
      cases hg
    · have hr2 := run_append_nil (P := Try.prog) w t ty 5 i _ ht hi hz a m c news hl2 hnews (by omega) (by omega) (by rw [hby]; omega)
      obtain ⟨rfl, rfl⟩ := okinj (hr.symm.trans hr2)
      have hg := Option.some.inj hg
      subst hg
      have s3 := bys3 (grownCap w m 0 5 - m)
      simp only [Array.empty_append] at s3
      exact fin (heap_alloc_new w.drew _) s3
  · by_cases hroom : n + m ≤ cap
    · have hr2 := run_append_room (P := Try.prog) w t ty 5 i ht hi b n cap cur hbb a m c news hl2 hnews hone hroom (by rw [hsize, hl, hcs]; omega)
      obtain ⟨rfl, rfl⟩ := okinj (hr.symm.trans hr2)
      have hg := Option.some.inj hg
      subst hg
      refine fin (setRow_heap w b cur _ 5 _ hbb) (fun x hx => ?_)
      obtain ⟨ys, hW⟩ := hS b rfl
      have hcur : ys.map vu8 = cur.toList := by
        have e := Option.some.inj (hbb.symm.trans hW)
        rw [(Obj.cells.inj e).1]
      have hc : ∀ x ∈ cur.toList, IsB x := fun x hx => by
        rw [← hcur] at hx
        obtain ⟨y, _, rfl⟩ := List.mem_map.1 hx
        exact ⟨y, rfl⟩
      simp only [List.mem_append] at hx
      rcases hx with (hx | hx) | hx
      · exact hc x (List.mem_of_mem_take hx)
      · exact h1 x hx
      · exact hc x (List.mem_of_mem_drop hx)
    · have holds : ∀ j u, xs[j]? = some u → w.cell? ((⟨b, 0, none⟩ : Addr).add j) = some u := hown.cells (g := b) rfl
      have hr2 := run_append_grow (P := Try.prog) w t ty 5 i _ ht hi hz ⟨b, 0, none⟩ n cap xs (by rw [hown.1, hsize]) holds a m c news hl2 hnews (by omega) (by omega) (growslice_fits (by omega) (by rw [hby]; omega))
      obtain ⟨rfl, rfl⟩ := okinj (hr.symm.trans hr2)
      have hg := Option.some.inj hg
      subst hg
      exact fin (heap_alloc_new w.drew _) (bys3 _)

theorem is_bys (ys : List (BitVec 8)) : ∀ u ∈ ys.map vu8, IsB u := fun u hu => by
  obtain ⟨y, _, rfl⟩ := List.mem_map.1 hu
  exact ⟨y, rfl⟩
theorem wpList_append_bysM {w : World} {ops : Array Oper} {rest : List Oper} {o : Oper} {a : Act} {Q : Exit → Act → World → Prop} (hgd : o.guard = none) (s x : Operand)
    (ho : o.op = .call { callee := .builtin .append, args := #[s, x], argTypes := #[34, 34] })
    (B : Nat) (v : Value) (xs : List (BitVec 8)) (hs : a.eval s = v) (hown : Own w B v xs) (hS : Bys w v)
    (sl : Value) (ys : List (BitVec 8)) (hx : a.eval x = sl) (hy : SliceIs w sl ys)
    (hlen : xs.length + ys.length ≤ 100000000000) (hbase : B ≤ w.heap.size)
    (h : ∀ v' w', Own w' B v' (xs ++ ys) → w.grownBy w' v.ownBlock → Moved w v v' → Bys w' v' → wpList Try.prog ops Q rest (a.put o.dst v') w') : wpList Try.prog ops Q (o :: rest) a w := by
  refine wpList_plain hgd fun K hK => ?_
  obtain ⟨i, hi, hz, hsz, hby⟩ := info_u8
  have use : ∀ ad c, sl = .slice (some ad) ys.length c → (∀ j u, (ys.map vu8)[j]? = some u → w.cell? (ad.add j) = some u) → o.wp Try.prog a w K Q := fun ad c hsl hcells => by
    obtain ⟨v', w', hr, h2, h3, h4, h5⟩ := append_bys B 34 o.type i Try.underlying34 hi hz hsz hby v xs.length (xs.map vu8) hown hS (is_bys xs) ad ys.length c (ys.map vu8) (by simp) hcells (is_bys ys) hlen hbase
    rw [hsl] at hx
    unfold Oper.wp execOp
    simp only [ho, resolve, invoke, builtin, Sem.run_bind, Sem.run_pure, Result.andThen_ok, List.map_toArray, List.map_cons, List.map_nil, hs, hx, hr]
    refine hK _ _ (h v' w' ?_ h3 h4 h5)
    unfold Own
    rw [List.length_append, List.map_append]
    exact h2
  rcases hy with ⟨rfl, rfl | ⟨ad, c, rfl⟩⟩ | ⟨b, of, c, rfl, _, hb⟩
  · have hrun := run_append_owned_none (P := Try.prog) (w := w) B 34 o.type 5 i 1 Try.underlying34 hi v xs.length (xs.map vu8) hown
    unfold Oper.wp execOp
    simp only [ho, resolve, invoke, builtin, Sem.run_bind, Sem.run_pure, Result.andThen_ok, List.map_toArray, List.map_cons, List.map_nil, hs, hx, hrun]
    exact hK _ _ (h v w (by simpa using hown) (World.grownBy.refl _ _) (.inl rfl) hS)
  · exact use ad c rfl fun j u hu => by simp at hu
  · refine use ⟨b, of, none⟩ c rfl fun j u hu => ?_
    rw [List.getElem?_map] at hu
    rw [Addr.add_lit]
    cases hj : ys[j]? with
    | none => simp [hj] at hu
    | some y =>
      simp [hj] at hu
      rw [← hu]
      exact hb j y hj
theorem Bys.lit (w : World) : Bys (w.alloc (.cells #[] 5)) (.slice (some ⟨w.heap.size, 0, none⟩) 0 0) := fun g hg => by
  have hg := Option.some.inj hg
  subst hg
  exact ⟨[], Whole.new w 5 #[]⟩

set_option maxRecDepth 100000 in
set_option maxHeartbeats 1000000 in
theorem clone_bys (w : World) (v : Value) (l : List (BitVec 8)) (hv : SliceIs w v l) (hlen : l.length ≤ 100000000000) :
    Calls Try.prog 46 #[v] w fun e w' => ∃ u, e = .returned u ∧ (∃ a n c, u = .slice a n c) ∧ Own w' w.heap.size u l ∧ Bys w' u ∧ Below w.heap.size w w' := by
  have b1 : Below w.heap.size w (w.alloc (.cells #[] 5)) := (Below.refl _ _).alloc (Nat.le_refl _) _
  have hne : ∀ ad n c, v = .slice (some ad) n c → Calls Try.prog 46 #[v] w fun e w' => ∃ u, e = .returned u ∧ (∃ a n c, u = .slice a n c) ∧ Own w' w.heap.size u l ∧ Bys w' u ∧ Below w.heap.size w w' := by
    rintro ad n c rfl
    have hv2 := hv.low b1
    have q0 := Lib.run_eql_slice_nil (P := Try.prog) w 34 5 (some ad) n c 0 0 Try.underlying34
    have hO : Own (w.alloc (.cells #[] 5)) w.heap.size (.slice (some ⟨w.heap.size, 0, none⟩) 0 0) [] := World.ownsRow_lit w #[] 0 (Nat.le_refl _) (by decide) (by simp)
    go_enter Try.func46, Try.ntmps46
    go_wp2_with (first
      | (refine wpList_append_bysM (w := w.alloc (.cells #[] 5)) (by rfl) _ _ (by rfl) w.heap.size _ [] (by rfl) hO (Bys.lit w) _ l (by rfl) hv2 (by simpa using hlen) b1.size ?_; intro v3 w3 O3 G3 _ S3)
      | fail)
    go_ret
    refine ⟨v3, rfl, slice_any O3, by simpa using O3, S3, b1.grown G3 b1.size (fun i hi => Nat.le_of_eq (by simpa [Value.ownBlock] using hi))⟩
  rcases hv with ⟨rfl, rfl | ⟨ad, c, rfl⟩⟩ | ⟨b, o, c, rfl, _, _⟩
  · have q0 := Lib.run_eql_slice_nil (P := Try.prog) w 34 5 none 0 0 0 0 Try.underlying34
    go_enter Try.func46, Try.ntmps46
    go_wp2
    go_ret
    exact ⟨_, rfl, ⟨_, _, _, rfl⟩, Own.nil _ _, (fun g hg => by cases hg), Below.refl _ _⟩
  · exact hne _ _ _ rfl
  · exact hne _ _ _ rfl

set_option maxHeartbeats 1000000 in
theorem after_add_bys (w : World) (B : Nat) (v bv : Value) (l b : List (BitVec 8)) (h : Own w B v l) (hS : Bys w v) (hb : SliceIs w bv b) (hlen : l.length + b.length ≤ 100000000000) (hB : B ≤ w.heap.size) :
    Calls Try.prog 47 #[.agg #[.bool false, .int .i64 0, bv], v] w fun e w' => ∃ v', e = .returned v' ∧ (∃ a n c, v' = .slice a n c) ∧ After w w' B v v' (l ++ b) ∧ Bys w' v' := by
  obtain ⟨a1, k1, c1, rfl⟩ := slice_any h
  obtain ⟨a2, k2, c2, rfl⟩ := slice_look hb
  have b1 : Below w.heap.size w (w.alloc (.cells #[.bool false, .int .i64 0, .slice a2 k2 c2] 91)) := (Below.refl _ _).alloc (Nat.le_refl _) _
  have h1 := row_low h b1
  have h2 := hb.low b1
  go_enter Try.func47, Try.ntmps47
  go_wp2_with (first
    | (refine wpList_append_bysM (w := w.alloc (.cells #[.bool false, .int .i64 0, .slice a2 k2 c2] 91)) (by rfl) _ _ (by rfl) B _ l (by rfl) h1 (hS.low b1) _ b (by rfl) h2 hlen (Nat.le_trans hB b1.size) ?_; intro v3 w3 O3 G3 M3 S3)
    | fail)
  go_ret
  refine ⟨v3, rfl, slice_any O3, ⟨O3, ((Only.of_below b1 (fun _ => False)).trans (Only.of_grown G3)).weak (fun i _ hi => hi.elim False.elim id), fun g hg => ?_⟩, S3⟩
  rcases M3 with M3 | ⟨g', M3, hg'⟩
  · exact .inl (M3 ▸ hg)
  · rw [M3] at hg
    injection hg with hg
    exact .inr (hg ▸ Nat.le_trans b1.size hg')

set_option maxRecDepth 100000 in
set_option maxHeartbeats 1000000 in
theorem after_cut_bys (w : World) (B n : Nat) (v : Value) (l : List (BitVec 8)) (h : Own w B v l) (hS : Bys w v) (hn : n ≤ l.length) :
    Calls Try.prog 47 #[.agg #[.bool true, .int .i64 n, .slice none 0 0], v] w fun e w' => ∃ v', e = .returned v' ∧ (∃ a n c, v' = .slice a n c) ∧ After w w' B v v' (l.take n) ∧ Bys w' v' := by
  obtain ⟨a1, c1, hv, hc⟩ : ∃ a c, v = .slice a l.length c ∧ l.length ≤ c := by
    rcases Own.shape h with ⟨rfl, rfl⟩ | ⟨g, cap, rfl, _, _, _, hc, _⟩
    · exact ⟨_, _, rfl, Nat.le_refl _⟩
    · exact ⟨_, _, rfl, hc⟩
  subst hv
  have b1 : Below w.heap.size w (w.alloc (.cells #[.bool true, .int .i64 n, .slice none 0 0] 91)) := (Below.refl _ _).alloc (Nat.le_refl _) _
  have h1 := Own.front (row_low h b1) hn
  have i1 : (0 : Int) ≤ (n : Int) := by omega
  have i2 : (n : Int) ≤ (c1 : Int) := by omega
  go_enter Try.func47, Try.ntmps47
  go_wp2
  go_ret
  refine ⟨_, rfl, ⟨_, _, _, rfl⟩, ⟨h1, Only.of_below b1 _, fun g hg => ?_⟩, fun g hg => (hS.low b1) g (by cases a1 with | none => cases hg | some a => exact hg)⟩
  have hg2 : (Value.slice a1 n c1).ownBlock = some g := hg
  exact .inl (by cases a1 with | none => cases hg2 | some a => exact hg2)


set_option maxRecDepth 100000 in
set_option maxHeartbeats 2000000 in
theorem content_bys (w : World) (B fb : Nat) (own : Nat → Option Nat) (f : Dfile) (sv ov : Value) (l : List (Dop × Value)) (h : FileAt w B own fb f sv ov l) (hlen : f.ops.length ≤ 100000) :
    Calls Try.prog 48 #[.pointer (some ⟨fb, 0, none⟩)] w fun e w' => ∃ u, e = .returned u ∧ Own w' w.heap.size u f.content ∧ Bys w' u ∧ Below w.heap.size w w' := by
  obtain ⟨sa, sc, hsv⟩ := slice_of_row h.safe
  obtain ⟨oa, oc, hov⟩ := h.slice
  subst hsv hov
  have c0 := h.box.cell 0
  have c1 := h.box.cell 1
  obtain ⟨N, hN⟩ : ∃ n, f.ops.length = n := ⟨_, rfl⟩
  rw [hN] at h c1 hlen
  have HF := Lib.hid h
  have HN := Lib.hid hN
  have HCL := Lib.hid (clone_bys w _ f.safe (Own.slice h.safe) (by have := h.okf.1; omega))
  clear h hN
  go_enter Try.func48, Try.ntmps48
  go_upto_region 2 with (first
    | (go_at_call 46; refine HCL.out.mono ?_; rintro e w1 ⟨_, rfl, ⟨ua, un, uc, rfl⟩, O1, S1, b1⟩)
    | fail)
  have c1' := (b1.cell (p := ⟨fb, 1, none⟩) HF.out.box.lt).trans c1
  clear c0 c1
  go_wp2
  clear c1'
  go_loopw [3, 16] (fun x i wr => ∃ (k : Nat) (ua : Option Addr) (un uc : Nat), k ≤ N ∧ i = .int .i64 k ∧ x = .slice ua un uc ∧ Own wr w.heap.size (.slice ua un uc) (runOps f.safe (f.ops.take k)) ∧ Bys wr (.slice ua un uc) ∧ Below w.heap.size w wr) (fun _ i _ => N - (intOf i).toNat)
  case atStart => exact ⟨0, _, _, _, by omega, rfl, rfl, by rw [List.take_zero]; exact O1, S1, b1⟩
  case round =>
    clear O1 S1 b1
    obtain ⟨k, ua, un, uc, hk, rfl, rfl, hO, hSp, hB⟩ := hrel
    by_cases hlt : k < N
    · obtain ⟨p, hp⟩ : ∃ p, l[k]? = some p := ⟨_, List.getElem?_eq_getElem (by rw [HF.out.count, HN.out]; exact hlt)⟩
      obtain ⟨g, rfl, hr, ho, hok⟩ := (HF.out.low hB).op hp
      have i1 : (k : Int) < (N : Int) := by omega
      have i2 : 0 ≤ (k : Int) ∧ (k : Int) < (N : Int) := by omega
      have b2 : IntKind.i64.wrap ((k : Int) + 1) = (k : Int) + 1 := IntWalk.i64_in _ (by omega)
      have hst := runOps_step f.safe f.ops k _ hok
      have hmx := (okOps_at f.ops f.safe k _ HF.out.okf.2 hok)
      obtain ⟨X, hX⟩ : ∃ x, runOps f.safe (f.ops.take k) = x := ⟨_, rfl⟩
      rw [hX] at hst hmx hO
      have HST := Lib.hid (And.intro hst (And.intro hmx.2 hmx.1))
      clear hX hp hok hst hmx
      have c0 := hr 0
      have c1 := hr 1
      have c2 := hr 2
      obtain ⟨o, bv⟩ := p
      cases o with
      | add b =>
        obtain ⟨ba, bc, hbv⟩ := slice_of_row (show Own wr B bv b from ho)
        subst hbv
        have c0 := c0 _ rfl
        have c1 := c1 _ rfl
        have c2 := c2 _ rfl
        simp only [Nat.add_zero] at c0
        have b3 : Below wr.heap.size wr (wr.alloc (.cells #[.bool false, .int .i64 0, .slice ba b.length bc] 91)) := (Below.refl _ _).alloc (Nat.le_refl _) _
        have HAF := Lib.hid (after_add_bys (wr.alloc (.cells #[.bool false, .int .i64 0, .slice ba b.length bc] 91)) w.heap.size _ _ X b (row_low hO b3) (hSp.low b3) ((Own.slice ho).low b3) (by have := HST.out.2.1; rw [HST.out.1] at this; simp [Dop.run] at this; omega) (Nat.le_trans hB.size b3.size))
        have hB3 := hB.trans (b3.mono hB.size)
        have hge := fun i hi => own_ge hO (x := i) hi
        clear hr ho hO hSp b3
        go_wp2_with (first
          | (go_at_call 47; refine HAF.out.mono ?_; rintro e w4 ⟨_, rfl, ⟨a4, n4, c4, rfl⟩, ⟨O4, G4, _⟩, S4⟩)
          | fail)
        go_roundw
        case rel => exact ⟨k + 1, _, _, _, by omega, by go_num, rfl, by rw [HST.out.1]; exact O4, S4, hB3.trans ((G4.below hB3.size (fun i _ hi => hge i hi)))⟩
        case measure => simp [intOf]; omega
      | cut n =>
        have hbv : bv = .slice Option.none 0 0 := ho
        subst hbv
        have c0 := c0 _ rfl
        have c1 := c1 _ rfl
        have c2 := c2 _ rfl
        simp only [Nat.add_zero] at c0
        have b3 : Below wr.heap.size wr (wr.alloc (.cells #[.bool true, .int .i64 n, .slice Option.none 0 0] 91)) := (Below.refl _ _).alloc (Nat.le_refl _) _
        have HAF := Lib.hid (after_cut_bys (wr.alloc (.cells #[.bool true, .int .i64 n, .slice Option.none 0 0] 91)) w.heap.size n _ X (row_low hO b3) (hSp.low b3) (HST.out.2.2 n rfl))
        have hB3 := hB.trans (b3.mono hB.size)
        have hge := fun i hi => own_ge hO (x := i) hi
        clear hr ho hO hSp b3
        go_wp2_with (first
          | (go_at_call 47; refine HAF.out.mono ?_; rintro e w4 ⟨_, rfl, ⟨a4, n4, c4, rfl⟩, ⟨O4, G4, _⟩, S4⟩)
          | fail)
        go_roundw
        case rel => exact ⟨k + 1, _, _, _, by omega, by go_num, rfl, by rw [HST.out.1]; exact O4, S4, hB3.trans ((G4.below hB3.size (fun i _ hi => hge i hi)))⟩
        case measure => simp [intOf]; omega
    · obtain rfl : k = N := by omega
      have i1 : ¬ (k : Int) < (k : Int) := by omega
      rw [List.take_of_length_le (Nat.le_of_eq HN.out)] at hO
      go_wp2
      go_ret
      exact ⟨_, rfl, hO, hSp, hB⟩

set_option maxRecDepth 100000 in
set_option maxHeartbeats 1000000 in
theorem dread_bys (W w : World) (d fm rm n : Nat) (own : Nat → Option Nat) (L : List (ByteArray × Nat × Dfile)) (ks : List Int) (h : DiskAt W w d fm rm own L ks n) (s : ByteArray) (fb : Nat) (f : Dfile) (hg : getL L s = some (fb, f)) (hlen : f.ops.length ≤ 100000) :
    Calls Try.prog 20 #[.pointer (some ⟨d, 0, none⟩), .string s] w fun e w' => ∃ u, e = .returned (.tuple #[u, .int .i64 0]) ∧ Own w' w.heap.size u f.content ∧ Bys w' u ∧ Below w.heap.size w w' := by
  have HN := Lib.hid (dnone_calls w d fm (h.box.cell 0))
  have c0 := h.box.cell 0
  have hz : ∀ w : World, (zeroValue 83).run Try.prog w = .ok (.pointer none) w := fun w => by kernel_rfl
  have hlk := look_N (P := Try.prog) Try.underlying71 Try.underlying9 h.all s (hz _)
  rw [getL_find, hg] at hlk
  obtain ⟨sv, ov, l, hf⟩ := h.get hg
  have HC := Lib.hid (content_bys w W.heap.size fb own f sv ov l hf hlen)
  clear hf
  go_enter Try.func20, Try.ntmps20
  go_wp2_with (first
    | (go_at_call 48; refine HC.out.mono ?_; rintro e w2 ⟨u, rfl, O2, S2, b2⟩; obtain ⟨ua, un, uc, rfl⟩ := slice_any O2)
    | (go_at_call 40; refine HN.out.mono ?_; rintro e w' ⟨rfl, rfl⟩)
    | fail)
  go_ret2
  exact ⟨_, rfl, O2, S2, b2⟩

theorem kd_read_bys (W w : World) (d n : Nat) (S : Nat → Prop) (A : Fs) (ks : List Int) (h : KD W w d S A ks n) (hA : okA A) (s : ByteArray) :
    Calls Try.prog 20 #[.pointer (some ⟨d, 0, none⟩), .string s] w fun e w' => ∃ u, e = .returned (.tuple #[u, .int .i64 (if getA A s = none then 6 else 0)]) ∧ Own w' w.heap.size u (((getA A s).map Dfile.content).getD []) ∧ Bys w' u ∧ Below w.heap.size w w' := by
  obtain ⟨fm, rm, own, L, h1, rfl, hS⟩ := h
  cases hg : getA (viewL L) s with
  | none =>
    refine (dread_missing W w d fm rm n own L ks h1 s (view_none hg)).mono ?_
    rintro e w' ⟨rfl, rfl⟩
    exact ⟨_, rfl, Own.nil _ _, (fun g hg => by cases hg), Below.refl _ _⟩
  | some f =>
    obtain ⟨fb, hg2⟩ := view_some hg
    have hfo := hA.get hg
    refine (dread_bys W w d fm rm n own L ks h1 s fb f hg2 (by omega)).mono ?_
    rintro e w' ⟨u, rfl, hO, hS2, hB⟩
    exact ⟨u, rfl, hO, hS2, hB⟩

end Go.Proofs.Ytmmlpbepaefamaa
