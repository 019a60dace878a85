/- A meter with no budget, and one with one. -/
import Derived.Test.YtglcingpolpkdaaDoorMapI
namespace Go.Proofs.YtglcingpolpkdaaDoor
open Go.RowKit Go.MapKept

set_option maxRecDepth 100000 in
theorem eql_key (w : World) (a c : ByteArray) (b d : Int) : (Op.equal 86 (.agg #[.string a, .int .i64 b]) (.agg #[.string c, .int .i64 d])).run Tryd.prog w = .ok ((a.toList == c.toList) && (b == d)) w := by
  show (Op.equalIn 10000 86 (.agg #[.string a, .int .i64 b]) (.agg #[.string c, .int .i64 d])).run Tryd.prog w = _
  go_simp
  by_cases h1 : a.toList = c.toList <;> by_cases h2 : b = d <;> simp [h1, h2]
set_option maxRecDepth 100000 in
theorem check_key (e : Bool) (w : World) (a : ByteArray) (b : Int) : (Instr.checkKey e 10000 86 (.agg #[.string a, .int .i64 b])).run Tryd.prog w = .ok () w := by
  have h1 : (Instr.checkKey e 9999 9 (.string a)).run Tryd.prog w = .ok () w := MapKept.run_checkKey Tryd.underlying9 (by simp [IsKey]) e 9998
  have h2 : (Instr.checkKey e 9999 34 (.int .i64 b)).run Tryd.prog w = .ok () w := MapKept.run_checkKey Tryd.underlying34 (by simp [IsKey]) e 9998
  unfold Instr.checkKey
  go_simp

/-- Block m is a map of budgets with just one entry. -/
def MapK1 (w : World) (m : Nat) (s : ByteArray) (n : Int) (v : Value) : Prop := ∃ b c, w.heap[m]? = some (.map #[⟨.agg #[.string s, .int .i64 n], v, b⟩] c)

theorem find_K (w : World) (s s' : ByteArray) (n n' : Int) (v : Value) (b : Nat) :
    (Instr.findKey 86 (.agg #[.string s', .int .i64 n']) [⟨.agg #[.string s, .int .i64 n], v, b⟩]).run Tryd.prog w = .ok (if ((s'.toList == s.toList) && (n' == n)) = true then some (0, v) else none) w := by
  unfold Instr.findKey
  simp only [Sem.run_bind, run_underlying Tryd.underlying86, Result.andThen_ok, Instr.findNow, Instr.sameNow, Instr.findAsking, eql_key]
  cases ((s'.toList == s.toList) && (n' == n)) <;> simp
theorem look_K1 {w : World} {m : Nat} {s : ByteArray} {n : Int} {v : Value} (h : MapK1 w m s n v) (s' : ByteArray) (n' : Int) {r : Bool} (hr : ((s'.toList == s.toList) && (n' == n)) = r) :
    (Instr.lookup 54 (.map (some m)) (.agg #[.string s', .int .i64 n']) false).run Tryd.prog w = .ok (if r = true then v else .pointer none) w := by
  obtain ⟨b, c, hm⟩ := h
  have hz : (zeroValue 84).run Tryd.prog w = .ok (.pointer none) w := by kernel_rfl
  unfold Instr.lookup
  simp only [Sem.run_bind, run_underlying Tryd.underlying54, Result.andThen_ok, MapKept.run_getObj_map hm, Sem.run_pure, check_key, find_K, hr]
  cases r <;> simp [hz]
theorem look_K0 {w : World} {m c : Nat} (hm : w.heap[m]? = some (.map #[] c)) (s' : ByteArray) (n' : Int) :
    (Instr.lookup 54 (.map (some m)) (.agg #[.string s', .int .i64 n']) false).run Tryd.prog w = .ok (.pointer none) w := by
  have hz : (zeroValue 84).run Tryd.prog w = .ok (.pointer none) w := by kernel_rfl
  have hf : (Instr.findKey 86 (.agg #[.string s', .int .i64 n']) []).run Tryd.prog w = .ok none w := by
    unfold Instr.findKey
    simp only [Sem.run_bind, run_underlying Tryd.underlying86, Result.andThen_ok, Instr.findNow, Sem.run_pure]
  unfold Instr.lookup
  simp only [Sem.run_bind, run_underlying Tryd.underlying54, Result.andThen_ok, MapKept.run_getObj_map hm, Sem.run_pure, check_key, hf]
  simp [hz]
theorem put_K0 {w : World} {m c : Nat} (hm : w.heap[m]? = some (.map #[] c)) (s : ByteArray) (n : Int) (v : Value) :
    ∃ w', (Instr.mapUpdate 54 (.map (some m)) (.agg #[.string s, .int .i64 n]) v).run Tryd.prog w = .ok () w' ∧ MapK1 w' m s n v ∧ w.grownBy w' (some m) := by
  have hlt : m < w.heap.size := (Array.getElem?_eq_some_iff.1 hm).1
  have hf : (Instr.findKey 86 (.agg #[.string s, .int .i64 n]) []).run Tryd.prog w = .ok none w := by
    unfold Instr.findKey
    simp only [Sem.run_bind, run_underlying Tryd.underlying86, Result.andThen_ok, Instr.findNow, Sem.run_pure]
  refine ⟨{ w with heap := w.heap.setIfInBounds m (.map #[⟨.agg #[.string s, .int .i64 n], v, c⟩] (c + 1)) }, ?_, ⟨c, c + 1, by simp [hlt]⟩, ⟨rfl, rfl, rfl, by simp, fun i hi hne => ?_⟩⟩
  · unfold Instr.mapUpdate
    simp only [Sem.run_bind, run_underlying Tryd.underlying54, Result.andThen_ok, MapKept.run_getObj_map hm, check_key, hf, MapKept.run_setObj_map _ hm]
    rfl
  · have : m ≠ i := fun h => hne (by rw [h])
    simp [this]
theorem MapK1.of_block {w w' : World} {m : Nat} {s : ByteArray} {n : Int} {v : Value} (h : MapK1 w m s n v) (hb : w'.heap[m]? = w.heap[m]?) : MapK1 w' m s n v := by
  obtain ⟨b, c, h⟩ := h
  exact ⟨b, c, hb.trans h⟩
theorem whole_ne_map1 {w : World} {g m : Nat} {t : TypeId} {l : List Value} {s : ByteArray} {n : Int} {v : Value} (h : Whole w g t l) (hm : MapK1 w m s n v) : g ≠ m := by
  obtain ⟨e, c, hm⟩ := hm
  exact whole_ne_map h hm
theorem MapK1.lt {w : World} {m : Nat} {s : ByteArray} {n : Int} {v : Value} (h : MapK1 w m s n v) : m < w.heap.size := by
  obtain ⟨_, _, h⟩ := h
  exact (Array.getElem?_eq_some_iff.1 h).1

/-- A meter with no budget, beside a trail without notes. -/
structure Met0 (W w : World) (b m r : Nat) : Prop where
  tr : Whole w r 60 [.slice none 0 0, .bool true]
  box : Whole w b 56 [.map (some m)]
  all : w.heap[m]? = some (.map #[] 0)
  geb : W.heap.size ≤ b
  gem : W.heap.size ≤ m
  below : Below W.heap.size W w
/-- A meter with one budget: of the right 2 of 't1'. -/
structure Met1 (W w : World) (b m d t r : Nat) (win most last : Int) (l : List (Int × Int)) : Prop where
  tr : Whole w r 60 [.slice none 0 0, .bool true]
  box : Whole w b 56 [.map (some m)]
  all : MapK1 w m ⟨#[116, 49]⟩ 2 (.pointer (some ⟨d, 0, none⟩))
  bud : Whole w d 90 [.int .i64 win, .int .i64 most, .int .i64 last, .map (some t)]
  tak : MapI w t l
  geb : W.heap.size ≤ b
  gem : W.heap.size ≤ m
  ged : W.heap.size ≤ d
  get : W.heap.size ≤ t
  mt : m ≠ t
  below : Below W.heap.size W w
theorem Met1.on {W w w' : World} {b m d t r : Nat} {win most last : Int} {l : List (Int × Int)} (h : Met1 W w b m d t r win most last l) (hb : Below w.heap.size w w') : Met1 W w' b m d t r win most last l :=
  ⟨h.tr.below hb h.tr.lt, h.box.below hb h.box.lt, h.all.of_block (hb.block _ h.all.lt), h.bud.below hb h.bud.lt, h.tak.of_block (hb.block _ h.tak.lt), h.geb, h.gem, h.ged, h.get, h.mt, h.below.trans (hb.mono h.below.size)⟩
theorem Met0.on {W w w' : World} {b m r : Nat} (h : Met0 W w b m r) (hb : Below w.heap.size w w') : Met0 W w' b m r :=
  ⟨h.tr.below hb h.tr.lt, h.box.below hb h.box.lt, (hb.block _ (Array.getElem?_eq_some_iff.1 h.all).1).trans h.all, h.geb, h.gem, h.below.trans (hb.mono h.below.size)⟩

set_option maxHeartbeats 400000 in
theorem mnew_calls (w : World) : Calls Tryd.prog 24 #[] w fun e w' => e = .returned (.pointer (some ⟨w.heap.size + 1, 0, none⟩)) ∧ w' = (w.alloc (.map #[] 0)).alloc (.cells #[.map (some w.heap.size)] 56) := by
  have hmm : ∀ w : World, (Instr.makeMap 54 none).run Tryd.prog w = .ok (.map (some w.heap.size)) (w.alloc (.map #[] 0)) := fun w => run_makeMap _ w
  go_enter Tryd.func24, Tryd.ntmps24
  go_wp2
  go_ret
  exact ⟨rfl, rfl⟩
theorem Met0.start (w : World) : Met0 w (((w.alloc (.map #[] 0)).alloc (.cells #[.map (some w.heap.size)] 56)).alloc (.cells #[.slice none 0 0, .bool true] 60)) (w.heap.size + 1) w.heap.size (w.heap.size + 2) := by
  have h2 := (Whole.new (w.alloc (.map #[] 0)) 56 #[.map (some w.heap.size)]).alloc (.cells #[.slice none 0 0, .bool true] 60)
  rw [World.size_alloc] at h2
  have h3 := Whole.new ((w.alloc (.map #[] 0)).alloc (.cells #[.map (some w.heap.size)] 56)) 60 #[.slice none 0 0, .bool true]
  rw [World.size_alloc, World.size_alloc] at h3
  exact ⟨h3, h2, (Below.heap_alloc _ _ _ (by simp; omega)).trans ((Below.heap_alloc _ _ _ (by simp)).trans (heap_alloc_new w _)), by omega, Nat.le_refl _, (((Below.refl _ _).alloc (Nat.le_refl _) _).alloc (by simp) _).alloc (by simp; omega) _⟩
set_option maxRecDepth 100000 in
theorem mnone_no (w : World) (b m : Nat) (hc : w.cell? ⟨b, 0, none⟩ = some (.map (some m))) : Calls Tryd.prog 34 #[.pointer (some ⟨b, 0, none⟩)] w fun e w' => e = .returned (.bool false) ∧ w = w' := by
  have q : (binOp .eql 54 (.map (some m)) (.map none)).run Tryd.prog w = .ok (.bool false) w := run_eql_map_nil w _ _ _ _ Tryd.underlying54
  go_enter Tryd.func34, Tryd.ntmps34
  go_wp2
  go_ret
  exact ⟨rfl, rfl⟩
set_option maxHeartbeats 400000 in
theorem tick_yes (w : World) (n : Int) (h0 : 0 ≤ n) (h1 : n ≤ 1099511627776) : Calls Tryd.prog 35 #[.int .i64 n] w fun e w' => e = .returned (.bool true) ∧ w' = w := by
  go_enter Tryd.func35, Tryd.ntmps35
  go_wp2
  go_ret
  exact ⟨by simp [*], rfl⟩

end Go.Proofs.YtglcingpolpkdaaDoor
