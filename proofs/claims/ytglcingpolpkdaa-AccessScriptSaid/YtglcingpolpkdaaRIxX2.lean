/- The reference's Tenant.member and Tenant.rule. -/
import Derived.Test.YtglcingpolpkdaaRNameX2
namespace Go.Proofs.Ytglcingpolpkdaa
open Go.RowKit

set_option maxRecDepth 100000 in
theorem eql_rmem (w : World) (a b c d : ByteArray) : (Op.equal 144 (.agg #[.string a, .string b]) (.agg #[.string c, .string d])).run Try.prog w = .ok (eqM (a, b) (c, d)) w := by
  show (Op.equalIn 10000 144 (.agg #[.string a, .string b]) (.agg #[.string c, .string d])).run Try.prog w = _
  go_simp
  unfold eqM
  by_cases h1 : a.toList = c.toList <;> by_cases h2 : b.toList = d.toList <;> simp [h1, h2]

set_option maxRecDepth 100000 in
set_option maxHeartbeats 2000000 in
theorem refmember_calls (w : World) (B : Nat) (name : ByteArray) (v : Value) (rv : Value) (l : List (ByteArray × ByteArray)) (r : (ByteArray × ByteArray)) (hv : OwnN w B v l) (hlen : l.length ≤ 1000) :
    Calls Try.prog 94 #[.agg #[.string name, v, rv], .agg (memCells r).toArray] w fun e w' => ∃ i : Int, e = .returned (.int .i64 i) ∧ ((i = -1 ∧ ∀ x ∈ l, eqM x r = false) ∨ ∃ k : Nat, i = k ∧ k < l.length ∧ (∃ x, l[k]? = some x ∧ eqM x r = true) ∧ ∀ j x, j < k → l[j]? = some x → eqM x r = false) ∧ Below w.heap.size w w' := by
  obtain ⟨N, hN⟩ : ∃ N, l.length = N := ⟨_, rfl⟩
  obtain ⟨p, c, hp⟩ := slice_of_row hv
  rw [hN] at hp hlen
  subst hp
  obtain ⟨srole, swho⟩ := r
  have hBA : Below w.heap.size w ((w.alloc (.cells #[.string name, .slice p N c, rv] 141)).alloc (.cells #[.string srole, .string swho] 144)) := ((Below.refl _ _).alloc (Nat.le_refl _) _).alloc (by simp) _
  have hT0 := (Whole.new w 141 #[.string name, .slice p N c, rv]).alloc (.cells #[.string srole, .string swho] 144)
  have hR0 := Whole.new (w.alloc (.cells #[.string name, .slice p N c, rv] 141)) 144 #[.string srole, .string swho]
  have hV0 := row_low hv hBA
  obtain ⟨TB, hTB⟩ : ∃ b, w.heap.size = b := ⟨_, rfl⟩
  obtain ⟨RB, hRB⟩ : ∃ b, (w.alloc (.cells #[.string name, .slice p N c, rv] 141)).heap.size = b := ⟨_, rfl⟩
  rw [hTB] at hT0
  rw [hRB] at hR0
  have HN := Lib.hid hN
  clear hN hv
  show Calls Try.prog 94 #[.agg #[.string name, .slice p N c, rv], .agg #[.string srole, .string swho]] w _
  generalize hw : ((w.alloc (.cells #[.string name, .slice p N c, rv] 141)).alloc (.cells #[.string srole, .string swho] 144)) = w0 at hBA hT0 hR0 hV0
  go_enter Try.func94, Try.ntmps94
  go_upto_region 1 with (first
    | (refine wpList_box_cells (by rfl) 144 _ (by rfl) #[.string srole, .string swho] (by rfl) ?_; rw [hw, hRB])
    | (refine wpList_box_cells (by rfl) 141 _ (by rfl) #[.string name, .slice p N c, rv] (by rfl) ?_; rw [hTB])
    | fail)
  have HV := Lib.hid hV0
  have HT := Lib.hid hT0
  have HR := Lib.hid hR0
  clear hw hTB hRB hV0 hT0 hR0
  have t1 := HT.out.cell 1
  go_wp2
  clear t1
  go_loopw [5] (fun i wr => ∃ k : Nat, k ≤ N ∧ i = .int .i64 k ∧ (∀ j x, j < k → l[j]? = some x → eqM x ⟨srole, swho⟩ = false) ∧ Below w0.heap.size w0 wr) (fun i _ => N - (intOf i).toNat)
  case atStart => exact ⟨0, by omega, rfl, fun j x hj => absurd hj (Nat.not_lt_zero _), Below.refl _ _⟩
  case round =>
    obtain ⟨k, hkN, rfl, hno, hB⟩ := hrel
    have hT := HT.out.below hB HT.out.lt
    have hR := HR.out.below hB HR.out.lt
    have t1 := hT.cell 1
    have t2 := hT.cell 2
    by_cases hlt : k < N
    · obtain ⟨x, hx⟩ : ∃ x, l[k]? = some x := ⟨_, List.getElem?_eq_getElem (by rw [HN.out]; exact hlt)⟩
      obtain ⟨g, rfl, hrng⟩ := own_at lenM (row_low HV.out hB) hx
      have i1 : (k : Int) < (N : Int) := by omega
      have i2 : 0 ≤ (k : Int) ∧ (k : Int) < (N : Int) := by omega
      have b2 : IntKind.i64.wrap ((k : Int) + 1) = (k : Int) + 1 := IntWalk.i64_in _ (by omega)
      obtain ⟨a, ha⟩ : ∃ a, eqM x ⟨srole, swho⟩ = a := ⟨_, rfl⟩
      have HX := Lib.hid (And.intro hx ha)
      have HNO := Lib.hid hno
      clear hx hno
      obtain ⟨role, who⟩ := x
      have hq : ∀ w, (Op.equalIn 10000 144 (.agg #[.string role, .string who]) (.agg #[.string srole, .string swho])).run Try.prog w = .ok a w := fun w => by
        rw [← ha]
        exact eql_rmem w _ _ _ _
      have hgd : Try.prog.eqGuardType Try.prog.depth 144 = false := by kernel_rfl
      have c0 : wr.cell? ⟨g, k * 2, none⟩ = some (.string role) := hrng 0 _ rfl
      have r0 := hR.cell 0
      have c1 : wr.cell? ⟨g, k * 2 + 1, none⟩ = some (.string who) := hrng 1 _ rfl
      have r1 := hR.cell 1
      have hD : Below wr.heap.size wr wr.drew := (Below.refl _ _).drew
      have hB2 := hB.trans (hD.mono hB.size)
      clear ha hrng hT hR
      go_wp2
      go_still (by kernel_rfl)
      change Exit.then _ _ Exit.normal _ wr.drew
      clear t1 t2 c0 r0 c1 r1
      generalize wr.drew = w2 at hB2 ⊢
      cases a
      · go_wp2
        go_roundw
        case rel => exact ⟨k + 1, by omega, by go_num, fun j y hj hy => by
          by_cases hjk : j = k
          · subst hjk
            rw [HX.out.1] at hy
            injection hy with hy
            exact hy ▸ HX.out.2
          · exact HNO.out j y (by omega) hy, hB2⟩
        case measure => simp [intOf]; omega
      · go_wp2
        go_ret
        exact ⟨k, rfl, .inr ⟨k, rfl, by rw [HN.out]; exact hlt, ⟨_, HX.out.1, HX.out.2⟩, HNO.out⟩, hBA.trans (hB2.mono hBA.size)⟩
    · obtain rfl : k = N := by omega
      have i1 : ¬ (k : Int) < (k : Int) := by omega
      have hall : ∀ x ∈ l, eqM x ⟨srole, swho⟩ = false := fun x hx => by
        obtain ⟨j, hj⟩ := List.mem_iff_getElem?.1 hx
        exact hno j x (by have := (List.getElem?_eq_some_iff.1 hj).1; rw [HN.out] at this; exact this) hj
      go_wp2
      go_ret
      exact ⟨-1, rfl, .inl ⟨rfl, fun a b h => hall (a, b) h⟩, hBA.trans (hB.mono hBA.size)⟩

set_option maxRecDepth 100000 in
set_option maxHeartbeats 2000000 in
theorem refrule_calls (w : World) (B : Nat) (name : ByteArray) (v : Value) (mv : Value) (l : List Rl) (r : Rl) (hv : OwnR w B v l) (hlen : l.length ≤ 1000) :
    Calls Try.prog 96 #[.agg #[.string name, mv, v], .agg (Rl.cells r).toArray] w fun e w' => ∃ i : Int, e = .returned (.int .i64 i) ∧ ((i = -1 ∧ ∀ x ∈ l, eqR x r = false) ∨ ∃ k : Nat, i = k ∧ k < l.length ∧ (∃ x, l[k]? = some x ∧ eqR x r = true) ∧ ∀ j x, j < k → l[j]? = some x → eqR x r = false) ∧ Below w.heap.size w w' := by
  obtain ⟨N, hN⟩ : ∃ N, l.length = N := ⟨_, rfl⟩
  obtain ⟨p, c, hp⟩ := slice_of_row hv
  rw [hN] at hp hlen
  subst hp
  obtain ⟨swho, swhat, skey, sdeny⟩ := r
  have hBA : Below w.heap.size w ((w.alloc (.cells #[.string name, mv, .slice p N c] 141)).alloc (.cells #[.string swho, .int .i64 swhat, .string skey, .bool sdeny] 29)) := ((Below.refl _ _).alloc (Nat.le_refl _) _).alloc (by simp) _
  have hT0 := (Whole.new w 141 #[.string name, mv, .slice p N c]).alloc (.cells #[.string swho, .int .i64 swhat, .string skey, .bool sdeny] 29)
  have hR0 := Whole.new (w.alloc (.cells #[.string name, mv, .slice p N c] 141)) 29 #[.string swho, .int .i64 swhat, .string skey, .bool sdeny]
  have hV0 := row_low hv hBA
  obtain ⟨TB, hTB⟩ : ∃ b, w.heap.size = b := ⟨_, rfl⟩
  obtain ⟨RB, hRB⟩ : ∃ b, (w.alloc (.cells #[.string name, mv, .slice p N c] 141)).heap.size = b := ⟨_, rfl⟩
  rw [hTB] at hT0
  rw [hRB] at hR0
  have HN := Lib.hid hN
  clear hN hv
  show Calls Try.prog 96 #[.agg #[.string name, mv, .slice p N c], .agg #[.string swho, .int .i64 swhat, .string skey, .bool sdeny]] w _
  generalize hw : ((w.alloc (.cells #[.string name, mv, .slice p N c] 141)).alloc (.cells #[.string swho, .int .i64 swhat, .string skey, .bool sdeny] 29)) = w0 at hBA hT0 hR0 hV0
  go_enter Try.func96, Try.ntmps96
  go_upto_region 1 with (first
    | (refine wpList_box_cells (by rfl) 29 _ (by rfl) #[.string swho, .int .i64 swhat, .string skey, .bool sdeny] (by rfl) ?_; rw [hw, hRB])
    | (refine wpList_box_cells (by rfl) 141 _ (by rfl) #[.string name, mv, .slice p N c] (by rfl) ?_; rw [hTB])
    | fail)
  have HV := Lib.hid hV0
  have HT := Lib.hid hT0
  have HR := Lib.hid hR0
  clear hw hTB hRB hV0 hT0 hR0
  have t2 := HT.out.cell 2
  go_wp2
  clear t2
  go_loopw [5] (fun i wr => ∃ k : Nat, k ≤ N ∧ i = .int .i64 k ∧ (∀ j x, j < k → l[j]? = some x → eqR x ⟨swho, swhat, skey, sdeny⟩ = false) ∧ Below w0.heap.size w0 wr) (fun i _ => N - (intOf i).toNat)
  case atStart => exact ⟨0, by omega, rfl, fun j x hj => absurd hj (Nat.not_lt_zero _), Below.refl _ _⟩
  case round =>
    obtain ⟨k, hkN, rfl, hno, hB⟩ := hrel
    have hT := HT.out.below hB HT.out.lt
    have hR := HR.out.below hB HR.out.lt
    have t1 := hT.cell 1
    have t2 := hT.cell 2
    by_cases hlt : k < N
    · obtain ⟨x, hx⟩ : ∃ x, l[k]? = some x := ⟨_, List.getElem?_eq_getElem (by rw [HN.out]; exact hlt)⟩
      obtain ⟨g, rfl, hrng⟩ := own_at lenR (row_low HV.out hB) hx
      have i1 : (k : Int) < (N : Int) := by omega
      have i2 : 0 ≤ (k : Int) ∧ (k : Int) < (N : Int) := by omega
      have b2 : IntKind.i64.wrap ((k : Int) + 1) = (k : Int) + 1 := IntWalk.i64_in _ (by omega)
      obtain ⟨a, ha⟩ : ∃ a, eqR x ⟨swho, swhat, skey, sdeny⟩ = a := ⟨_, rfl⟩
      have HX := Lib.hid (And.intro hx ha)
      have HNO := Lib.hid hno
      clear hx hno
      obtain ⟨who, what, key, deny⟩ := x
      have hq : ∀ w, (Op.equalIn 10000 29 (.agg #[.string who, .int .i64 what, .string key, .bool deny]) (.agg #[.string swho, .int .i64 swhat, .string skey, .bool sdeny])).run Try.prog w = .ok a w := fun w => by
        rw [← ha]
        exact eql_rule w _ _ _ _ _ _ _ _
      have hgd : Try.prog.eqGuardType Try.prog.depth 29 = false := by kernel_rfl
      have c0 : wr.cell? ⟨g, k * 4, none⟩ = some (.string who) := hrng 0 _ rfl
      have r0 := hR.cell 0
      have c1 : wr.cell? ⟨g, k * 4 + 1, none⟩ = some (.int .i64 what) := hrng 1 _ rfl
      have r1 := hR.cell 1
      have c2 : wr.cell? ⟨g, k * 4 + 2, none⟩ = some (.string key) := hrng 2 _ rfl
      have r2 := hR.cell 2
      have c3 : wr.cell? ⟨g, k * 4 + 3, none⟩ = some (.bool deny) := hrng 3 _ rfl
      have r3 := hR.cell 3
      have hD : Below wr.heap.size wr wr.drew := (Below.refl _ _).drew
      have hB2 := hB.trans (hD.mono hB.size)
      clear ha hrng hT hR
      go_wp2
      go_still (by kernel_rfl)
      change Exit.then _ _ Exit.normal _ wr.drew
      clear t1 t2 c0 r0 c1 r1 c2 r2 c3 r3
      generalize wr.drew = w2 at hB2 ⊢
      cases a
      · go_wp2
        go_roundw
        case rel => exact ⟨k + 1, by omega, by go_num, fun j y hj hy => by
          by_cases hjk : j = k
          · subst hjk
            rw [HX.out.1] at hy
            injection hy with hy
            exact hy ▸ HX.out.2
          · exact HNO.out j y (by omega) hy, hB2⟩
        case measure => simp [intOf]; omega
      · go_wp2
        go_ret
        exact ⟨k, rfl, .inr ⟨k, rfl, by rw [HN.out]; exact hlt, ⟨_, HX.out.1, HX.out.2⟩, HNO.out⟩, hBA.trans (hB2.mono hBA.size)⟩
    · obtain rfl : k = N := by omega
      have i1 : ¬ (k : Int) < (k : Int) := by omega
      have hall : ∀ x ∈ l, eqR x ⟨swho, swhat, skey, sdeny⟩ = false := fun x hx => by
        obtain ⟨j, hj⟩ := List.mem_iff_getElem?.1 hx
        exact hno j x (by have := (List.getElem?_eq_some_iff.1 hj).1; rw [HN.out] at this; exact this) hj
      go_wp2
      go_ret
      exact ⟨-1, rfl, .inl ⟨rfl, hall⟩, hBA.trans (hB.mono hBA.size)⟩

end Go.Proofs.Ytglcingpolpkdaa

/- Rows of whatever elements: one more, a copy; the reference's Open. -/
namespace Go.Proofs.Ytglcingpolpkdaa
open Go.RowKit

section
variable {α : Type} {f : α → List Value} {n : Nat}
/-- Elements in a block of their own: what can be appended. -/
def SrcG (f : α → List Value) (n : Nat) (w : World) (v : Value) (l : List α) : Prop :=
  (v = .slice none 0 0 ∧ l = []) ∨ ∃ g c, v = .slice (some ⟨g, 0, none⟩) l.length c ∧ g < w.heap.size ∧ ∀ i a, l[i]? = some a → w.rangeAt g (i * n) (f a)
theorem SrcG.low {w w' : World} {v : Value} {l : List α} (h : SrcG f n w v l) (hb : Below w.heap.size w w') : SrcG f n w' v l := by
  rcases h with h | ⟨g, c, rfl, hg, hc⟩
  · exact .inl h
  · exact .inr ⟨g, c, rfl, Nat.lt_of_lt_of_le hg hb.size, fun i a ha j u hj => (hb.cell (p := ⟨g, i * n + j, none⟩) hg).trans (hc i a ha j u hj)⟩
theorem src_of_own {w : World} {B : Nat} {e : TypeId} {v : Value} {l : List α} (hf : ∀ a, (f a).length = n) (h : w.ownsRow B e n v l.length (l.flatMap f)) : SrcG f n w v l := by
  rcases row_shape h with ⟨rfl, hn⟩ | ⟨g, cap, rfl, _, hg, hc⟩
  · exact .inl ⟨rfl, List.eq_nil_of_length_eq_zero hn⟩
  · exact .inr ⟨g, cap, rfl, hg, fun i a ha j u hj => hc _ _ (flat_at hf l i a j u ha hj)⟩
theorem src_new (w : World) (e : TypeId) (a : α) : SrcG f n (w.alloc (.cells (f a).toArray e)) (.slice (some ⟨w.heap.size, 0, none⟩) 1 1) [a] := by
  refine .inr ⟨w.heap.size, 1, rfl, by simp, fun i b hb j u hj => ?_⟩
  have hi : i = 0 := by
    have := (List.getElem?_eq_some_iff.1 hb).1
    simpa using this
  subst hi
  have : a = b := by simpa using hb
  subst this
  rw [Nat.zero_mul, Nat.zero_add]
  rw [(Whole.new w e (f a).toArray).cell]
  exact hj
theorem own_empty (w : World) (e : TypeId) : (w.alloc (.cells #[] e)).ownsRow w.heap.size e n (.slice (some ⟨w.heap.size, 0, none⟩) 0 0) ([] : List α).length (([] : List α).flatMap f) := World.ownsRow_lit w #[] 0 (Nat.le_refl _) (by decide) (by simp)

theorem wp_append_gen {P : Program} {w : World} {o : Oper} {a : Act} {K : Act → World → Prop} {Q : Exit → Act → World → Prop} (s x : Operand) (t e : TypeId)
    (ho : o.op = .call { callee := .builtin .append, args := #[s, x], argTypes := #[t, t] })
    (z : Value) (bytes : Nat) (ht : P.underlying t = some (.slice e)) (hi : ∃ i, P.info? e = some i ∧ i.zero = some z ∧ i.size = n ∧ i.bytes = bytes) (hzs : z.cells.size = n) (hn : 0 < n) (hby : bytes ≤ 1000) (hf : ∀ a, (f a).length = n)
    (B : Nat) (v u : Value) (l m : List α) (hs : a.eval s = v) (hown : w.ownsRow B e n v l.length (l.flatMap f)) (hx : a.eval x = u) (hu : SrcG f n w u m) (hone : ∀ b ∈ m, ∀ y ∈ f b, y.oneCell' = true) (hlen : l.length + m.length ≤ 100000) (hbase : B ≤ w.heap.size)
    (h : ∀ v' w', w'.ownsRow B e n v' (l ++ m).length ((l ++ m).flatMap f) → w.grownBy w' v.ownBlock → Moved w v v' → K (a.put o.dst v') w') :
    o.wp P a w K Q := by
  obtain ⟨i, hi, hz, hsz, hbys⟩ := hi
  rcases hu with ⟨rfl, rfl⟩ | ⟨g, c, rfl, hg, hc⟩
  · have hrun := run_append_owned_none (P := P) (w := w) B t o.type e i n ht hi v l.length (l.flatMap f) hown
    unfold Oper.wp execOp
    simp only [ho, resolve, invoke, builtin, Sem.run_bind, Sem.run_pure, Result.andThen_ok, List.map_toArray, List.map_cons, List.map_nil, hs, hx, hrun]
    exact h v w (by simpa using hown) (World.grownBy.refl _ _) (.inl rfl)
  · refine wp_append_at w s x t ho B e i z n bytes ht hi hz hsz hbys hzs hn v l.length (l.flatMap f) hs hown ⟨g, 0, none⟩ m.length c (m.flatMap f) hx (flat_len hf m) (fun j y hj => ?_) (fun y hy => ?_) (by simp only [maxLen]; omega) (Nat.le_trans (Nat.mul_le_mul hlen hby) (by decide)) hbase fun v' w' h1 h2 h4 => h v' w' ?_ h2 h4
    · obtain ⟨k, r, b, rfl, hb, hr⟩ := flat_inv hf m j y hj
      have := hc k b hb r y hr
      rwa [Addr.add_mid, Nat.zero_add]
    · obtain ⟨b, hb1, hb⟩ := List.mem_flatMap.1 hy
      exact hone b hb1 y hb
    · rw [List.length_append, List.flatMap_append]
      exact h1
theorem wpList_append_gen {P : Program} {w : World} {ops : Array Oper} {rest : List Oper} {o : Oper} {a : Act} {Q : Exit → Act → World → Prop} (hgd : o.guard = none) (s x : Operand) (t e : TypeId)
    (ho : o.op = .call { callee := .builtin .append, args := #[s, x], argTypes := #[t, t] })
    (z : Value) (bytes : Nat) (ht : P.underlying t = some (.slice e)) (hi : ∃ i, P.info? e = some i ∧ i.zero = some z ∧ i.size = n ∧ i.bytes = bytes) (hzs : z.cells.size = n) (hn : 0 < n) (hby : bytes ≤ 1000) (hf : ∀ a, (f a).length = n)
    (B : Nat) (v u : Value) (l m : List α) (hs : a.eval s = v) (hown : w.ownsRow B e n v l.length (l.flatMap f)) (hx : a.eval x = u) (hu : SrcG f n w u m) (hone : ∀ b ∈ m, ∀ y ∈ f b, y.oneCell' = true) (hlen : l.length + m.length ≤ 100000) (hbase : B ≤ w.heap.size)
    (h : ∀ v' w', w'.ownsRow B e n v' (l ++ m).length ((l ++ m).flatMap f) → w.grownBy w' v.ownBlock → Moved w v v' → wpList P ops Q rest (a.put o.dst v') w') :
    wpList P ops Q (o :: rest) a w := wpList_plain hgd fun _ hK => wp_append_gen s x t e ho z bytes ht hi hzs hn hby hf B v u l m hs hown hx hu hone hlen hbase fun v' w' h1 h2 h3 => hK _ _ (h v' w' h1 h2 h3)
end

theorem info_ten : ∃ i, Try.prog.info? 141 = some i ∧ i.zero = some (.agg #[.string ⟨#[]⟩, .slice none 0 0, .slice none 0 0]) ∧ i.size = 3 ∧ i.bytes = 64 := info_of (by kernel_rfl)
theorem info_rmem : ∃ i, Try.prog.info? 144 = some i ∧ i.zero = some (.agg #[.string ⟨#[]⟩, .string ⟨#[]⟩]) ∧ i.size = 2 ∧ i.bytes = 32 := info_of (by kernel_rfl)
theorem row_one {w : World} {B k n : Nat} {e : TypeId} {v : Value} {xs : List Value} (h : w.ownsRow B e n v k xs) : v.oneCell' = true := by
  obtain ⟨a, c, rfl⟩ := slice_of_row h
  rfl
theorem RefBook.one {W w : World} {m : Nat} {lv : Value} {xs : List (ByteArray × Value × Value)} {ts : List Tn} (h : RefBook W w m lv xs ts) : ∀ x ∈ xs, ∀ y ∈ tenCells x, y.oneCell' = true := fun x hx y hy => by
  obtain ⟨i, hi⟩ := List.mem_iff_getElem?.1 hx
  have hl : i < ts.length := by rw [← h.len]; exact (List.getElem?_eq_some_iff.1 hi).1
  obtain ⟨_, h2, h3⟩ := h.each i x _ hi (List.getElem?_eq_getElem hl)
  simp [tenCells] at hy
  rcases hy with rfl | rfl | rfl
  · rfl
  · exact row_one h2
  · exact row_one h3

/-- What Open answers, and what it leaves: no more than 64 tenants. -/
def openF (ts : List Tn) (name : ByteArray) : Int × List Tn :=
  if nameB name = false then (2, ts) else match getT ts name with
    | some _ => (7, ts)
    | none => if 64 ≤ ts.length then (8, ts) else (0, ts ++ [⟨name, [], []⟩])

theorem RefBook.more {W w w' : World} {m : Nat} {lv lv' : Value} {xs : List (ByteArray × Value × Value)} {ts : List Tn} {name : ByteArray} (h : RefBook W w m lv xs ts) (hb : Below w.heap.size w w') (hO : OwnT w' w.heap.size lv' (xs ++ [(name, .slice none 0 0, .slice none 0 0)])) :
    RefIs W (w'.setCell ⟨m, 0, none⟩ lv') m (ts ++ [⟨name, [], []⟩]) := by
  have h' := h.on hb
  have o := Only.set w' ⟨m, 0, none⟩ lv'
  have hz : W.heap.size ≤ w.heap.size := h.below.size
  have hO2 : OwnT w' W.heap.size lv' (xs ++ [(name, .slice none 0 0, .slice none 0 0)]) := by
    obtain ⟨h1, h2⟩ := hO
    refine ⟨h1, h2.imp id ?_⟩
    rintro ⟨g, cap, cur, e, hb, r⟩
    exact ⟨g, cap, cur, e, Nat.le_trans hz hb, r⟩
  have ne : ∀ {B n k : Nat} {e : TypeId} {v : Value} {ys : List Value}, w'.ownsRow B e n v k ys → e ≠ 56 → ∀ g, v.ownBlock = some g → ¬ g = m := fun hr he g hg e2 => by
    subst e2
    exact row_ne_whole hr h'.book he hg
  refine ⟨lv', _, h'.book.put 0 lv', row_only hO2 o (ne hO2 (by decide)), by simp [h.len], fun i x t hx ht => ?_, h.gem, h'.below.trans (o.below h'.below.size fun i _ e => by rw [e]; exact h.gem)⟩
  by_cases hi : i < xs.length
  · rw [List.getElem?_append_left hi] at hx
    rw [List.getElem?_append_left (by rw [← h.len]; exact hi)] at ht
    obtain ⟨h1, h2, h3⟩ := h'.each i x t hx ht
    exact ⟨h1, row_only h2 o (ne h2 (by decide)), row_only h3 o (ne h3 (by decide))⟩
  · have hil : i = xs.length := by
      have := (List.getElem?_eq_some_iff.1 hx).1
      simp at this
      omega
    subst hil
    rw [List.getElem?_append_right (Nat.le_refl _)] at hx
    rw [h.len, List.getElem?_append_right (Nat.le_refl _)] at ht
    have e1 : (name, Value.slice none 0 0, Value.slice none 0 0) = x := by simpa using hx
    have e2 : (⟨name, [], []⟩ : Tn) = t := by simpa using ht
    subst e1 e2
    exact ⟨rfl, World.ownsRow_nil _ _ _ _, World.ownsRow_nil _ _ _ _⟩

set_option maxRecDepth 100000 in
set_option maxHeartbeats 2000000 in
theorem refopen_calls (W w : World) (m : Nat) (ts : List Tn) (n : ByteArray) (h : RefIs W w m ts) (hl : ts.length ≤ 1000) : Calls Try.prog 58 #[.pointer (some ⟨m, 0, none⟩), .string n] w fun e w' => e = .returned (.int .i64 (openF ts n).1) ∧ RefIs W w' m (openF ts n).2 ∧ Below W.heap.size W w' := by
  have HAT := Lib.hid (refat_calls W w m ts n h hl)
  obtain ⟨lv, xs, h⟩ := h
  unfold openF
  obtain ⟨x, hx⟩ : ∃ x, nameB n = x := ⟨_, rfl⟩
  have HNM := Lib.hid (hx ▸ refname_calls w n)
  rw [hx]
  cases x
  · rw [if_pos rfl]
    have HB := Lib.hid h
    clear h hx
    go_enter Try.func58, Try.ntmps58
    go_wp2_with (go_at_call 92; refine HNM.out.mono ?_; rintro e w' ⟨rfl, hw⟩; rw [hw]; clear hw)
    go_ret
    exact ⟨rfl, ⟨_, _, HB.out⟩, HB.out.below⟩
  · rw [if_neg (by simp)]
    unfold atT at HAT
    cases hg : getT ts n with
    | some q =>
      obtain ⟨i, t⟩ := q
      rw [hg] at HAT
      have i1 : (0 : Int) ≤ (i : Int) := by omega
      have HB := Lib.hid h
      clear h hx hg
      go_enter Try.func58, Try.ntmps58
      go_wp2_with (first
        | (go_at_call 92; refine HNM.out.mono ?_; rintro e w' ⟨rfl, hw⟩; rw [hw]; clear hw)
        | (go_at_call 93; refine HAT.out.mono ?_; rintro e w' ⟨rfl, hw⟩; rw [hw]; clear hw))
      go_ret
      exact ⟨rfl, ⟨_, _, HB.out⟩, HB.out.below⟩
    | none =>
      rw [hg] at HAT
      obtain ⟨N, hN⟩ : ∃ N, ts.length = N := ⟨_, rfl⟩
      obtain ⟨p, c, hv⟩ := slice_of_row h.row
      rw [h.len, hN] at hv
      subst hv
      rw [hN] at hl ⊢
      have c0 := h.book.cell 0
      by_cases h64 : 64 ≤ N
      · rw [if_pos h64]
        have i1 : (64 : Int) ≤ (N : Int) := by omega
        have HB := Lib.hid h
        clear h hx hg
        go_enter Try.func58, Try.ntmps58
        go_wp2_with (first
          | (go_at_call 92; refine HNM.out.mono ?_; rintro e w' ⟨rfl, hw⟩; rw [hw]; clear hw)
          | (go_at_call 93; refine HAT.out.mono ?_; rintro e w' ⟨rfl, hw⟩; rw [hw]; clear hw))
        go_ret
        exact ⟨rfl, ⟨_, _, HB.out⟩, HB.out.below⟩
      · rw [if_neg h64]
        have i1 : ¬ (64 : Int) ≤ (N : Int) := by omega
        have HB := Lib.hid h
        have HN := Lib.hid hN
        have hsrc : SrcG tenCells 3 w (.slice p N c) xs := src_of_own lenT h.row
        have hA1 : Below w.heap.size w (w.alloc (.cells #[] 141)) := (Below.refl _ _).alloc (Nat.le_refl _) _
        have c1 := (h.book.below hA1 h.book.lt).cell 0
        clear h hx hg
        go_enter Try.func58, Try.ntmps58
        go_wp2_with (first
          | (refine wpList_append_gen (f := tenCells) (n := 3) (by rfl) _ _ _ 141 (by rfl) _ 64 Try.underlying54 info_ten rfl (by decide) (by decide) lenT w.heap.size _ _ xs [(n, .slice none 0 0, .slice none 0 0)] (by rfl) (row_low hO5 ((Below.refl _ _).alloc (Nat.le_refl _) _)) (by rfl) (src_new (f := tenCells) (n := 3) w5 141 (n, .slice none 0 0, .slice none 0 0)) (fun b hb y hy => by simp at hb; subst hb; simp [tenCells] at hy; rcases hy with rfl | rfl | rfl <;> rfl) (by simp; have := HB.out.len; have := HN.out; omega) (Nat.le_trans hB5.size (by simp)) ?_; intro v6 w6 hO6 hG6 hM6; have hB6 := hB5.trans (((Below.refl w5.heap.size w5).alloc (Nat.le_refl _) (.cells (tenCells (n, .slice none 0 0, .slice none 0 0)).toArray 141)).mono hB5.size) |>.trans ((Only.of_grown hG6).below (Nat.le_trans hB5.size (by simp)) fun _ _ e => own_ge hO5 e); have c6 := (HB.out.book.below hB6 HB.out.book.lt).cell 0; have c7 := (HB.out.book.below hB6 HB.out.book.lt).free 0; obtain ⟨x7, k7, y7, he7⟩ := slice_any hO6; subst he7)
          | (refine wpList_append_gen (f := tenCells) (n := 3) (by rfl) _ _ _ 141 (by rfl) _ 64 Try.underlying54 info_ten rfl (by decide) (by decide) lenT w.heap.size _ _ [] xs (by rfl) (own_empty w _) (by rfl) (hsrc.low hA1) HB.out.one (by simp; have := HB.out.len; have := HN.out; omega) (by simp) ?_; intro v5 w5 hO5 hG5 hM5; have hB5 : Below w.heap.size w w5 := hA1.trans ((Only.of_grown hG5).below (by simp) fun _ _ e => own_ge (own_empty (f := tenCells) (n := 3) w 141) e); obtain ⟨x5, k5, y5, he5⟩ := slice_any hO5; subst he5)
          | (go_at_call 92; refine HNM.out.mono ?_; rintro e w' ⟨rfl, hw⟩; rw [hw]; clear hw)
          | (go_at_call 93; refine HAT.out.mono ?_; rintro e w' ⟨rfl, hw⟩; rw [hw]; clear hw))
        go_ret
        have hfin := HB.out.more hB6 hO6
        obtain ⟨lv, xs', hf⟩ := hfin
        exact ⟨rfl, ⟨lv, xs', hf⟩, hf.below⟩

end Go.Proofs.Ytglcingpolpkdaa
