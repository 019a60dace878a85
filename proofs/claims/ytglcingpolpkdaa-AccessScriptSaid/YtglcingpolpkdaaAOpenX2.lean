/- access.New and (*Book).Open: what they make. -/
import Derived.StillTailTactics
import Derived.Test.YtglcingpolpkdaaAMapX2
namespace Go.Proofs.Ytglcingpolpkdaa
open Go.RowKit

/-- All older blocks but those in S stay. -/
structure Only (w w' : World) (S : Nat → Prop) : Prop where
  os : w'.os = w.os
  tape : w'.tape = w.tape
  output : w'.output = w.output
  size : w.heap.size ≤ w'.heap.size
  block : ∀ i, i < w.heap.size → ¬ S i → w'.heap[i]? = w.heap[i]?
theorem Only.of_grown {w w' : World} {row : Option Nat} (h : w.grownBy w' row) : Only w w' fun i => row = some i :=
  ⟨h.os, h.tape, h.output, h.size, fun i hi hn => h.block i hi (fun e => hn e.symm)⟩
theorem Only.trans {a b c : World} {S T : Nat → Prop} (h : Only a b S) (k : Only b c T) : Only a c fun i => S i ∨ T i :=
  ⟨k.os.trans h.os, k.tape.trans h.tape, k.output.trans h.output, Nat.le_trans h.size k.size, fun i hi hn => (k.block i (Nat.lt_of_lt_of_le hi h.size) fun t => hn (.inr t)).trans (h.block i hi fun s => hn (.inl s))⟩
theorem Only.weak {a b : World} {S T : Nat → Prop} (h : Only a b S) (hs : ∀ i, i < a.heap.size → S i → T i) : Only a b T :=
  ⟨h.os, h.tape, h.output, h.size, fun i hi hn => h.block i hi fun s => hn (hs i hi s)⟩
theorem Only.of_below {w w' : World} (h : Below w.heap.size w w') (S : Nat → Prop) : Only w w' S := ⟨h.os, h.tape, h.output, h.size, fun i hi _ => h.block i hi⟩
theorem Only.below {w w' : World} {B : Nat} {S : Nat → Prop} (h : Only w w' S) (hB : B ≤ w.heap.size) (hs : ∀ i, i < w.heap.size → S i → B ≤ i) : Below B w w' :=
  ⟨h.os, h.tape, h.output, h.size, fun i hi => h.block i (Nat.lt_of_lt_of_le hi hB) fun s => by have := hs i (Nat.lt_of_lt_of_le hi hB) s; omega⟩
theorem Only.set (w : World) (p : Addr) (u : Value) : Only w (w.setCell p u) fun i => i = p.block :=
  ⟨rfl, rfl, rfl, by simp, fun i _ hn => Below.heap_setCell w p u i fun e => hn e⟩
theorem Only.alloc (w : World) (o : Obj) (S : Nat → Prop) : Only w (w.alloc o) S := Only.of_below ((Below.refl _ _).alloc (Nat.le_refl _) _) S
theorem Whole.only {w w' : World} {S : Nat → Prop} {g : Nat} {t : TypeId} {l : List Value} (h : Whole w g t l) (ho : Only w w' S) (hs : ¬ S g) : Whole w' g t l := (ho.block g h.lt hs).trans h
theorem MapS.only {w w' : World} {S : Nat → Prop} {m : Nat} {l : List (ByteArray × Value)} (h : MapS w m l) (ho : Only w w' S) (hs : ¬ S m) : MapS w' m l := by
  obtain ⟨e, c, hm, hl⟩ := h
  exact ⟨e, c, (ho.block m (Array.getElem?_eq_some_iff.1 hm).1 hs).trans hm, hl⟩
theorem row_only {w w' : World} {S : Nat → Prop} {B n size : Nat} {e : TypeId} {v : Value} {xs : List Value} (h : w.ownsRow B e size v n xs) (ho : Only w w' S) (hs : ∀ g, v.ownBlock = some g → ¬ S g) : w'.ownsRow B e size v n xs := by
  obtain ⟨h1, h2⟩ := h
  refine ⟨h1, ?_⟩
  rcases h2 with h2 | ⟨g, cap, cur, rfl, hb, hg, hr⟩
  · exact .inl h2
  · exact .inr ⟨g, cap, cur, rfl, hb, (ho.block g (Array.getElem?_eq_some_iff.1 hg).1 (hs g rfl)).trans hg, hr⟩
/-- A row that is owned is of its elements' type. -/
theorem row_type {w : World} {B n size : Nat} {e : TypeId} {v : Value} {xs : List Value} (h : w.ownsRow B e size v n xs) {g : Nat} (hg : v.ownBlock = some g) : ∃ cur, w.heap[g]? = some (.cells cur e (0, 0)) := by
  rcases h.2 with ⟨rfl, _⟩ | ⟨g', cap, cur, rfl, _, hc, _⟩
  · cases hg
  · have : g' = g := by simpa [Value.ownBlock] using hg
    subst this
    exact ⟨cur, hc⟩
theorem slice_of_row {w : World} {B n size : Nat} {e : TypeId} {v : Value} {xs : List Value} (h : w.ownsRow B e size v n xs) : ∃ a c, v = .slice a n c := by
  rcases row_shape h with ⟨rfl, hn⟩ | ⟨g, cap, rfl, _, _, _⟩
  · exact ⟨none, 0, by rw [hn]⟩
  · exact ⟨_, cap, rfl⟩
theorem slice_any {w : World} {B n size : Nat} {e : TypeId} {v : Value} {xs : List Value} (h : w.ownsRow B e size v n xs) : ∃ a k c, v = .slice a k c := by
  obtain ⟨a, c, h⟩ := slice_of_row h
  exact ⟨a, n, c, h⟩
theorem row_ne_whole {w : World} {B n size g : Nat} {e t : TypeId} {v : Value} {xs l : List Value} (h : w.ownsRow B e size v n xs) (hw : Whole w g t l) (ht : e ≠ t) : v.ownBlock ≠ some g := fun hg => by
  obtain ⟨cur, hc⟩ := row_type h hg
  unfold Whole at hw
  rw [hw] at hc
  injection hc with hc
  injection hc with _ hc _
  exact ht hc.symm
theorem row_ne_map {w : World} {B n size m : Nat} {e : TypeId} {v : Value} {xs : List Value} {ents : Array MapEntry} {c : Nat} (h : w.ownsRow B e size v n xs) (hm : w.heap[m]? = some (.map ents c)) : v.ownBlock ≠ some m := fun hg => by
  obtain ⟨cur, hc⟩ := row_type h hg
  rw [hm] at hc
  cases hc
theorem whole_ne_map {w : World} {g m : Nat} {t : TypeId} {l : List Value} {ents : Array MapEntry} {c : Nat} (h : Whole w g t l) (hm : w.heap[m]? = some (.map ents c)) : g ≠ m := fun e => by
  subst e
  unfold Whole at h
  rw [hm] at h
  cases h

/-- The set of a tenant's members. -/
def MapM (w : World) (m : Nat) (ms : List (ByteArray × ByteArray)) : Prop :=
  ∃ ents c, w.heap[m]? = some (.map ents c) ∧ ents.toList.map (fun e => (e.key, e.val)) = ms.map fun p => (Value.agg #[.string p.1, .string p.2], Value.bool true)

/-- A book in memory. -/
structure BookAt (W w : World) (b m : Nat) (nv : Value) (names : List ByteArray) (l : List (ByteArray × Value)) : Prop where
  book : Whole w b 46 [nv, .map (some m)]
  names : OwnS w W.heap.size nv names
  all : MapS w m l
  geb : W.heap.size ≤ b
  gem : W.heap.size ≤ m
  below : Below W.heap.size W w
theorem BookAt.on {W w w' : World} {b m : Nat} {nv : Value} {names : List ByteArray} {l : List (ByteArray × Value)} (h : BookAt W w b m nv names l) (hb : Below w.heap.size w w') : BookAt W w' b m nv names l :=
  ⟨h.book.below hb h.book.lt, row_low h.names hb, h.all.low hb h.all.lt, h.geb, h.gem, h.below.trans (hb.mono h.below.size)⟩
/-- A tenant in memory. -/
structure TenOwn (W w : World) (t : Nat) (rv mv : Value) (mi : Nat) (rules : List Rl) (ms : List (ByteArray × ByteArray)) : Prop where
  ten : Whole w t 101 [rv, mv, .map (some mi)]
  rules : OwnR w W.heap.size rv rules
  mems : OwnM w W.heap.size mv ms
  isIn : MapM w mi ms
  get : W.heap.size ≤ t
  gei : W.heap.size ≤ mi

set_option maxRecDepth 100000 in
theorem open_mem {W wA w1 : World} {b m : Nat} {nv v1 : Value} {names : List ByteArray} {l : List (ByteArray × Value)} {name : ByteArray} (hB : BookAt W wA b m nv names l) (hn : findS l name = none)
    (hO1 : OwnS w1 W.heap.size v1 (names ++ [name])) (hG1 : wA.grownBy w1 nv.ownBlock) :
    w1.cell? ⟨b, 0, none⟩ = some nv ∧ w1.frozen? ⟨b, 0, none⟩ = false ∧ w1.cell? ⟨b, 1, none⟩ = some (.map (some m)) ∧
    ∃ w4, (Instr.mapUpdate 44 (.map (some m)) (.string name) (.pointer (some ⟨w1.heap.size + 1, 0, none⟩))).run Try.prog (((w1.setCell ⟨b, 0, none⟩ v1).alloc (.map #[] 0)).alloc (.cells #[.slice none 0 0, .slice none 0 0, .map (some w1.heap.size)] 101)) = .ok () w4 ∧
      BookAt W w4 b m v1 (names ++ [name]) (l ++ [(name, .pointer (some ⟨w1.heap.size + 1, 0, none⟩))]) ∧ TenOwn W w4 (w1.heap.size + 1) (.slice none 0 0) (.slice none 0 0) w1.heap.size [] [] ∧
      Only wA w4 (fun i => i = b ∨ i = m ∨ nv.ownBlock = some i) ∧ wA.heap.size ≤ w1.heap.size := by
  obtain ⟨ents, c, hm, hl⟩ := hB.all
  have nb : nv.ownBlock ≠ some b := row_ne_whole hB.names hB.book (by decide)
  have nm : nv.ownBlock ≠ some m := row_ne_map hB.names hm
  have bm : b ≠ m := whole_ne_map hB.book hm
  have o1 := Only.of_grown hG1
  have b1 := hB.book.only o1 (fun h => nb h)
  have m1 := hB.all.only o1 (fun h => nm h)
  have hW := hB.below.size
  have o2 := Only.set w1 ⟨b, 0, none⟩ v1
  have b2 : Whole (w1.setCell ⟨b, 0, none⟩ v1) b 46 [v1, .map (some m)] := b1.put 0 v1
  have m2 := m1.only o2 (fun h => bm h.symm)
  obtain ⟨e1, c1, hm1, _⟩ := m1
  have vb : v1.ownBlock ≠ some b := row_ne_whole hO1 b1 (by decide)
  have vm : v1.ownBlock ≠ some m := row_ne_map hO1 hm1
  have n2 := row_only hO1 o2 (fun g hg (e : g = b) => vb (by rw [hg, e]))
  have b3 := (b2.alloc (.map #[] 0)).alloc (.cells #[.slice none 0 0, .slice none 0 0, .map (some w1.heap.size)] 101)
  have oA := (Only.alloc (w1.setCell ⟨b, 0, none⟩ v1) (.map #[] 0) (fun _ => False)).trans (Only.alloc _ (.cells #[.slice none 0 0, .slice none 0 0, .map (some w1.heap.size)] 101) (fun _ => False))
  have m3 := m2.only oA (by simp)
  have n3 := row_only n2 oA (by simp)
  have i3 : (((w1.setCell ⟨b, 0, none⟩ v1).alloc (.map #[] 0)).alloc (.cells #[.slice none 0 0, .slice none 0 0, .map (some w1.heap.size)] 101)).heap[w1.heap.size]? = some (.map #[] 0) := by
    have h := heap_alloc_new (w1.setCell ⟨b, 0, none⟩ v1) (.map #[] 0)
    have hs : (w1.setCell ⟨b, 0, none⟩ v1).heap.size = w1.heap.size := by simp
    rw [hs] at h
    exact (Below.heap_alloc _ _ _ (by simp)).trans h
  have t3 := Whole.new ((w1.setCell ⟨b, 0, none⟩ v1).alloc (.map #[] 0)) 101 #[.slice none 0 0, .slice none 0 0, .map (some w1.heap.size)]
  have hs3 : ((w1.setCell ⟨b, 0, none⟩ v1).alloc (.map #[] 0)).heap.size = w1.heap.size + 1 := by simp
  rw [hs3] at t3
  have hmlt : m < w1.heap.size := (Array.getElem?_eq_some_iff.1 hm1).1
  obtain ⟨w4, hr, hM4, hG4, _⟩ := put_S (P := Try.prog) Try.underlying44 Try.underlying9 m3 name (.pointer (some ⟨w1.heap.size + 1, 0, none⟩)) hn
  have o4 := Only.of_grown hG4
  obtain ⟨e3, c3, hm3, _⟩ := m3
  have hAll : Only wA w4 (fun i => i = b ∨ i = m ∨ nv.ownBlock = some i) := ((((o1.trans o2).trans oA)).trans o4).weak fun i _ h => by
    rcases h with ((h | h) | (h | h)) | h
    · exact .inr (.inr h)
    · exact .inl h
    · exact h.elim
    · exact h.elim
    · exact .inr (.inl (by injection h with h; exact h.symm))
  refine ⟨b1.cell 0, b1.free 0, b1.cell 1, w4, hr, ⟨b3.only o4 (fun h => bm (by injection h with h; exact h.symm)), row_only n3 o4 (fun g hg (e : some m = some g) => ?_), hM4, hB.geb, hB.gem, ?_⟩, ⟨t3.only o4 (fun h => ?_), World.ownsRow_nil w4 _ _ _, World.ownsRow_nil w4 _ _ _, ⟨#[], 0, ?_, rfl⟩, ?_, ?_⟩, hAll, hG1.size⟩
  · exact vm (by rw [hg, e])
  · refine hB.below.trans (hAll.below hW fun i _ h => ?_)
    rcases h with rfl | rfl | h
    · exact hB.geb
    · exact hB.gem
    · exact own_ge hB.names h
  · injection h with h
    omega
  · refine (o4.block _ (by simp; omega) (fun h => ?_)).trans i3
    injection h with h
    omega
  · have := hG1.size
    omega
  · have := hG1.size
    omega

theorem new_calls (w : World) : Calls Try.prog 12 #[] w fun e w' => ∃ b, e = .returned (.pointer (some ⟨b, 0, none⟩)) ∧ ∃ m, BookAt w w' b m (.slice none 0 0) [] [] := by
  have hmm : ∀ w : World, (Instr.makeMap 44 none).run Try.prog w = .ok (.map (some w.heap.size)) (w.alloc (.map #[] 0)) := fun w => run_makeMap _ w
  have h1 := (MapS.new w).only (Only.alloc (w.alloc (.map #[] 0)) (.cells #[.slice none 0 0, .map (some w.heap.size)] 46) (fun _ => False)) (by simp)
  have h2 := Whole.new (w.alloc (.map #[] 0)) 46 #[.slice none 0 0, .map (some w.heap.size)]
  rw [World.size_alloc] at h2
  go_enter Try.func12, Try.ntmps12
  go_wp2
  go_ret
  exact ⟨w.heap.size + 1, rfl, w.heap.size, h2, OwnS.nil _ _, h1, by omega, Nat.le_refl _, ((Below.refl _ _).alloc (Nat.le_refl _) _).alloc (by simp) _⟩


set_option maxRecDepth 100000 in
set_option maxHeartbeats 1000000 in
theorem open_calls (W w : World) (b m : Nat) (nv : Value) (names : List ByteArray) (l : List (ByteArray × Value)) (name : ByteArray) (hB : BookAt W w b m nv names l) (hname : nameB name = true) (hn : findS l name = none) (hlen : names.length < 64) :
    Calls Try.prog 13 #[.pointer (some ⟨b, 0, none⟩), .string name] w fun e w' => e = .returned (.int .i64 0) ∧ ∃ nv' t mi,
      BookAt W w' b m nv' (names ++ [name]) (l ++ [(name, .pointer (some ⟨t, 0, none⟩))]) ∧ TenOwn W w' t (.slice none 0 0) (.slice none 0 0) mi [] [] ∧ Only w w' (fun i => i = b ∨ i = m ∨ nv.ownBlock = some i) ∧ w.heap.size ≤ t ∧ w.heap.size ≤ mi := by
  have hshape : ∃ a c, nv = .slice a names.length c := by
    rcases row_shape hB.names with ⟨rfl, hn⟩ | ⟨g, cap, rfl, _, _, _⟩
    · exact ⟨none, 0, by rw [hn]⟩
    · exact ⟨_, cap, rfl⟩
  obtain ⟨ap, cp, hnv⟩ := hshape
  have i1 : ¬ (64 : Int) ≤ (names.length : Int) := by omega
  have hmm : ∀ w : World, (Instr.makeMap 98 none).run Try.prog w = .ok (.map (some w.heap.size)) (w.alloc (.map #[] 0)) := fun w => run_makeMap _ w
  have hz : ∀ w : World, (zeroValue 97).run Try.prog w = .ok (.pointer none) w := fun w => by kernel_rfl
  have NC := Lib.hid (fun (w : World) => hname ▸ name_calls w name)
  have mk := made_calls w b m (hB.book.cell 1)
  have HB := Lib.hid hB
  have HN := Lib.hid hn
  have HL := Lib.hid hlen
  have HNV := Lib.hid hnv
  subst hnv
  clear hB hn hname
  go_enter Try.func13, Try.ntmps13
  go_wp2_with (first
    | (go_at_call 42; refine mk.mono ?_; rintro e w' ⟨rfl, hw⟩; rw [hw]; clear hw)
    | (go_at_call 43; refine (NC.out _).mono ?_; rintro e w1 ⟨rfl, hB1⟩; have hK := HB.out.on hB1; have c0 := hK.book.cell 0; have c1 := hK.book.cell 1; have hlk := look_S Try.underlying44 Try.underlying9 hK.all name (hz w1); rw [HN.out] at hlk; have HK := Lib.hid hK; clear hK)
    | (refine wpList_append_str (w := w1) (by rfl) _ _ (by rfl) W.heap.size w1.heap.size _ _ (by rfl) HK.out.names name (by rfl) rfl (by have := HL.out; omega) HK.out.below.size ?_; intro v2 w2 hO2 hG2; obtain ⟨x2, k2, y2, hv2⟩ := slice_any hO2; subst hv2; obtain ⟨d0, f0, d1, w4, hrun, hfin⟩ := open_mem HK.out HN.out hO2 hG2; have HF := Lib.hid hfin; clear hfin))
  all_goals first
    | (exfalso; omega)
    | (go_ret
       exact ⟨rfl, _, _, _, HF.out.1, HF.out.2.1, ((Only.of_below hB1 (fun _ => False)).trans HF.out.2.2.1).weak (fun i _ h => h.elim False.elim id), Nat.le_succ_of_le (Nat.le_trans hB1.size HF.out.2.2.2), Nat.le_trans hB1.size HF.out.2.2.2⟩)


set_option maxRecDepth 100000 in
set_option maxHeartbeats 1000000 in
theorem open_there (W w : World) (b m : Nat) (nv : Value) (names : List ByteArray) (l : List (ByteArray × Value)) (name : ByteArray) (t : Addr) (hB : BookAt W w b m nv names l) (hname : nameB name = true) (hn : findS l name = some (.pointer (some t))) :
    Calls Try.prog 13 #[.pointer (some ⟨b, 0, none⟩), .string name] w fun e w' => e = .returned (.int .i64 7) ∧ Below w.heap.size w w' := by
  have hz : ∀ w : World, (zeroValue 97).run Try.prog w = .ok (.pointer none) w := fun w => by kernel_rfl
  have NC := Lib.hid (fun (w : World) => hname ▸ name_calls w name)
  have mk := made_calls w b m (hB.book.cell 1)
  have HB := Lib.hid hB
  have HN := Lib.hid hn
  clear hB hn hname
  go_enter Try.func13, Try.ntmps13
  go_wp2_with (first
    | (go_at_call 42; refine mk.mono ?_; rintro e w' ⟨rfl, hw⟩; rw [hw]; clear hw)
    | (go_at_call 43; refine (NC.out _).mono ?_; rintro e w1 ⟨rfl, hB1⟩; have hK := HB.out.on hB1; have c1 := hK.book.cell 1; have hlk := look_S Try.underlying44 Try.underlying9 hK.all name (hz w1); rw [HN.out] at hlk))
  go_ret
  exact ⟨rfl, hB1⟩

end Go.Proofs.Ytglcingpolpkdaa

/- slices.Contains at rules: is a rule in a list? -/
namespace Go.Proofs.Ytglcingpolpkdaa
open Go.RowKit

/-- Are two rules the same? -/
def eqR (r s : Rl) : Bool := (r.who.toList == s.who.toList) && ((r.what == s.what) && ((r.key.toList == s.key.toList) && (r.deny == s.deny)))
def hasR (rules : List Rl) (r : Rl) : Bool := rules.any fun s => eqR r s
theorem hasR_next {rules : List Rl} {k : Nat} {s : Rl} (r : Rl) (hp : rules[k]? = some s) : hasR (rules.take (k + 1)) r = (hasR (rules.take k) r || eqR r s) := by
  have hk : k < rules.length := (List.getElem?_eq_some_iff.1 hp).1
  unfold hasR
  rw [List.take_succ_eq_append_getElem hk, (List.getElem?_eq_some_iff.1 hp).2, List.any_append]
  simp
theorem hasR_here {rules : List Rl} {k : Nat} {r s : Rl} (hp : rules[k]? = some s) (he : eqR r s = true) : hasR rules r = true := by
  unfold hasR
  rw [List.any_eq_true]
  exact ⟨s, List.mem_of_getElem? hp, he⟩

set_option maxRecDepth 100000 in
theorem eql_rule (w : World) (who key swho skey : ByteArray) (what swhat : Int) (deny sdeny : Bool) :
    (Op.equalIn 10000 29 (.agg #[.string who, .int .i64 what, .string key, .bool deny]) (.agg #[.string swho, .int .i64 swhat, .string skey, .bool sdeny])).run Try.prog w = .ok (eqR ⟨who, what, key, deny⟩ ⟨swho, swhat, skey, sdeny⟩) w := by
  go_simp
  unfold eqR
  by_cases h1 : who.toList = swho.toList <;> by_cases h2 : what = swhat <;> by_cases h3 : key.toList = skey.toList <;> by_cases h4 : deny = sdeny <;> simp [h1, h2, h3, h4]

set_option maxRecDepth 100000 in
set_option maxHeartbeats 2000000 in
theorem index_calls (w : World) (B : Nat) (rv : Value) (rules : List Rl) (who key : ByteArray) (what : Int) (deny : Bool) (hr : OwnR w B rv rules) (hlen : rules.length ≤ 1000) :
    Calls Try.prog 85 #[rv, .agg #[.string who, .int .i64 what, .string key, .bool deny]] w fun e w' => ∃ i : Int, e = .returned (.int .i64 i) ∧ decide (0 ≤ i) = hasR rules ⟨who, what, key, deny⟩ ∧ Below w.heap.size w w' := by
  obtain ⟨N, hN⟩ : ∃ N, rules.length = N := ⟨_, rfl⟩
  obtain ⟨ap, cp, hv⟩ := slice_of_row hr
  rw [hN] at hv hlen
  subst hv
  have hR : RuleAt w (w.alloc (.cells #[.string who, .int .i64 what, .string key, .bool deny] 29)) w.heap.size who what key deny :=
    ⟨Whole.new w 29 #[.string who, .int .i64 what, .string key, .bool deny], (Below.refl _ _).alloc (Nat.le_refl _) _⟩
  have hO := row_low hr hR.below
  have HN := Lib.hid hN
  clear hN hr
  go_enter Try.func85, Try.ntmps85
  go_wp2_with (refine wpList_box_cells (by rfl) 29 _ (by rfl) #[.string who, .int .i64 what, .string key, .bool deny] (by rfl) ?_)
  generalize (w.alloc (.cells #[.string who, .int .i64 what, .string key, .bool deny] 29)) = w0 at hR hO ⊢
  go_loopw [8] (fun i wr => ∃ k : Nat, k ≤ N ∧ i = .int .i64 k ∧ hasR (rules.take k) ⟨who, what, key, deny⟩ = false ∧ RuleAt w wr w.heap.size who what key deny ∧ OwnR wr B (.slice ap N cp) rules) (fun i _ => N - (intOf i).toNat)
  case atStart => exact ⟨0, by omega, rfl, rfl, hR, hO⟩
  case round =>
    clear hR hO
    obtain ⟨k, hkN, rfl, hno, hR, hO⟩ := hrel
    by_cases hlt : k < N
    · obtain ⟨s, hp⟩ : ∃ r, rules[k]? = some r := ⟨_, List.getElem?_eq_getElem (by rw [HN.out]; exact hlt)⟩
      obtain ⟨g, cap, he, hg, c0, c1, c2, c3⟩ := hO.four hp
      have he : ap = some ⟨g, 0, none⟩ := by injection he
      subst he
      obtain ⟨r0, r1, r2⟩ := hR.three
      have r3 := hR.cells.cell 3
      have i1 : (k : Int) < (N : Int) := by omega
      have i2 : 0 ≤ (k : Int) ∧ (k : Int) < (N : Int) := by omega
      have b2 : IntKind.i64.wrap ((k : Int) + 1) = (k : Int) + 1 := IntWalk.i64_in _ (by omega)
      have hnx := hasR_next ⟨who, what, key, deny⟩ hp
      obtain ⟨swho, swhat, skey, sdeny⟩ := s
      obtain ⟨a, ha⟩ : ∃ a, eqR ⟨who, what, key, deny⟩ ⟨swho, swhat, skey, sdeny⟩ = a := ⟨_, rfl⟩
      have hq : ∀ w, (Op.equalIn 10000 29 (.agg #[.string who, .int .i64 what, .string key, .bool deny]) (.agg #[.string swho, .int .i64 swhat, .string skey, .bool sdeny])).run Try.prog w = .ok a w := fun w => by
        rw [← ha]
        exact eql_rule w _ _ _ _ _ _ _ _
      have hgd : Try.prog.eqGuardType Try.prog.depth 29 = false := by kernel_rfl
      have HX := Lib.hid (And.intro hnx (And.intro ha hp))
      have HR := Lib.hid hR
      have HO := Lib.hid hO
      have HNO := Lib.hid hno
      clear hnx ha hp hR hO hno
      have hD : Below wr.heap.size wr wr.drew := (Below.refl _ _).drew
      go_wp2
      go_still (by kernel_rfl)
      change Exit.then _ _ Exit.normal _ wr.drew
      have hR2 := HR.out.on hD
      have hO2 := row_low HO.out hD
      clear r0 r1 r2 r3 c0 c1 c2 c3
      generalize wr.drew = w2 at hR2 hO2 ⊢
      cases a
      · go_wp2
        go_roundw
        case rel => exact ⟨k + 1, by omega, by go_num, by rw [HX.out.1, HX.out.2.1, HNO.out]; rfl, hR2, hO2⟩
        case measure => simp [intOf]; omega
      · have hh := hasR_here HX.out.2.2 HX.out.2.1
        go_wp2
        go_ret
        exact ⟨k, rfl, by rw [hh]; simp, hR2.below⟩
    · obtain rfl : k = N := by omega
      rw [← HN.out, List.take_length] at hno
      have i1 : ¬ (k : Int) < (k : Int) := by omega
      go_wp2
      go_ret
      exact ⟨-1, rfl, by first | omega | (rw [hno]; rfl), hR.below⟩


set_option maxRecDepth 100000 in
theorem contains_rule (w : World) (B : Nat) (rv : Value) (rules : List Rl) (who key : ByteArray) (what : Int) (deny : Bool) (hr : OwnR w B rv rules) (hlen : rules.length ≤ 1000) :
    Calls Try.prog 45 #[rv, .agg #[.string who, .int .i64 what, .string key, .bool deny]] w fun e w' => e = .returned (.bool (hasR rules ⟨who, what, key, deny⟩)) ∧ Below w.heap.size w w' := by
  have hR : RuleAt w (w.alloc (.cells #[.string who, .int .i64 what, .string key, .bool deny] 29)) w.heap.size who what key deny :=
    ⟨Whole.new w 29 #[.string who, .int .i64 what, .string key, .bool deny], (Below.refl _ _).alloc (Nat.le_refl _) _⟩
  have hO := row_low hr hR.below
  obtain ⟨r0, r1, r2⟩ := hR.three
  have r3 := hR.cells.cell 3
  have IC := Lib.hid (index_calls (w.alloc (.cells #[.string who, .int .i64 what, .string key, .bool deny] 29)) B rv rules who key what deny hO hlen)
  have HR := Lib.hid hR
  clear hr hO hR
  go_enter Try.func45, Try.ntmps45
  go_wp2_with (first
    | (refine wpList_box_cells (by rfl) 29 _ (by rfl) #[.string who, .int .i64 what, .string key, .bool deny] (by rfl) ?_)
    | (go_at_call 85; refine IC.out.mono ?_; rintro e w1 ⟨i, rfl, hi, hB1⟩))
  go_ret
  refine ⟨?_, HR.out.below.trans (hB1.mono HR.out.below.size)⟩
  rw [← hi]
  rfl

end Go.Proofs.Ytglcingpolpkdaa
