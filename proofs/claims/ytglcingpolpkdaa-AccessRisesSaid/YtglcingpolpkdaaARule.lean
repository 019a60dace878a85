/- slices.Contains at rules: is a rule in a list? -/
import Derived.Test.YtglcingpolpkdaaAOpen
import Derived.StillTailTactics
namespace Go.Proofs.Ytglcingpolpkdaa
open Go.RowKit

/-- Are two rules the same? -/
def eqR (r s : Rl) : Bool := (r.who.toList == s.who.toList) && ((r.what == s.what) && ((r.key.toList == s.key.toList) && (r.deny == s.deny)))
def hasR (rules : List Rl) (r : Rl) : Bool := rules.any fun s => eqR r s
theorem hasR_next {rules : List Rl} {k : Nat} {s : Rl} (r : Rl) (hp : rules[k]? = some s) : hasR (rules.take (k + 1)) r = (hasR (rules.take k) r || eqR r s) := by
  have hk : k < rules.length := (List.getElem?_eq_some_iff.1 hp).1
  unfold hasR
  rw [List.take_succ_eq_append_getElem hk, (List.getElem?_eq_some_iff.1 hp).2, List.any_append]
  simp
theorem hasR_here {rules : List Rl} {k : Nat} {r s : Rl} (hp : rules[k]? = some s) (he : eqR r s = true) : hasR rules r = true := by
  unfold hasR
  rw [List.any_eq_true]
  exact ⟨s, List.mem_of_getElem? hp, he⟩

set_option maxRecDepth 100000 in
theorem eql_rule (w : World) (who key swho skey : ByteArray) (what swhat : Int) (deny sdeny : Bool) :
    (Op.equalIn 10000 29 (.agg #[.string who, .int .i64 what, .string key, .bool deny]) (.agg #[.string swho, .int .i64 swhat, .string skey, .bool sdeny])).run Try.prog w = .ok (eqR ⟨who, what, key, deny⟩ ⟨swho, swhat, skey, sdeny⟩) w := by
  go_simp
  unfold eqR
  by_cases h1 : who.toList = swho.toList <;> by_cases h2 : what = swhat <;> by_cases h3 : key.toList = skey.toList <;> by_cases h4 : deny = sdeny <;> simp [h1, h2, h3, h4]

set_option maxRecDepth 100000 in
set_option maxHeartbeats 2000000 in
theorem index_calls (w : World) (B : Nat) (rv : Value) (rules : List Rl) (who key : ByteArray) (what : Int) (deny : Bool) (hr : OwnR w B rv rules) (hlen : rules.length ≤ 1000) :
    Calls Try.prog 85 #[rv, .agg #[.string who, .int .i64 what, .string key, .bool deny]] w fun e w' => ∃ i : Int, e = .returned (.int .i64 i) ∧ decide (0 ≤ i) = hasR rules ⟨who, what, key, deny⟩ ∧ Below w.heap.size w w' := by
  obtain ⟨N, hN⟩ : ∃ N, rules.length = N := ⟨_, rfl⟩
  obtain ⟨ap, cp, hv⟩ := slice_of_row hr
  rw [hN] at hv hlen
  subst hv
  have hR : RuleAt w (w.alloc (.cells #[.string who, .int .i64 what, .string key, .bool deny] 29)) w.heap.size who what key deny :=
    ⟨Whole.new w 29 #[.string who, .int .i64 what, .string key, .bool deny], (Below.refl _ _).alloc (Nat.le_refl _) _⟩
  have hO := row_low hr hR.below
  have HN := Lib.hid hN
  clear hN hr
  go_enter Try.func85, Try.ntmps85
  go_wp2_with (refine wpList_box_cells (by rfl) 29 _ (by rfl) #[.string who, .int .i64 what, .string key, .bool deny] (by rfl) ?_)
  generalize (w.alloc (.cells #[.string who, .int .i64 what, .string key, .bool deny] 29)) = w0 at hR hO ⊢
  go_loopw [8] (fun i wr => ∃ k : Nat, k ≤ N ∧ i = .int .i64 k ∧ hasR (rules.take k) ⟨who, what, key, deny⟩ = false ∧ RuleAt w wr w.heap.size who what key deny ∧ OwnR wr B (.slice ap N cp) rules) (fun i _ => N - (intOf i).toNat)
  case atStart => exact ⟨0, by omega, rfl, rfl, hR, hO⟩
  case round =>
    clear hR hO
    obtain ⟨k, hkN, rfl, hno, hR, hO⟩ := hrel
    by_cases hlt : k < N
    · obtain ⟨s, hp⟩ : ∃ r, rules[k]? = some r := ⟨_, List.getElem?_eq_getElem (by rw [HN.out]; exact hlt)⟩
      obtain ⟨g, cap, he, hg, c0, c1, c2, c3⟩ := hO.four hp
      have he : ap = some ⟨g, 0, none⟩ := by injection he
      subst he
      obtain ⟨r0, r1, r2⟩ := hR.three
      have r3 := hR.cells.cell 3
      have i1 : (k : Int) < (N : Int) := by omega
      have i2 : 0 ≤ (k : Int) ∧ (k : Int) < (N : Int) := by omega
      have b2 : IntKind.i64.wrap ((k : Int) + 1) = (k : Int) + 1 := IntWalk.i64_in _ (by omega)
      have hnx := hasR_next ⟨who, what, key, deny⟩ hp
      obtain ⟨swho, swhat, skey, sdeny⟩ := s
      obtain ⟨a, ha⟩ : ∃ a, eqR ⟨who, what, key, deny⟩ ⟨swho, swhat, skey, sdeny⟩ = a := ⟨_, rfl⟩
      have hq : ∀ w, (Op.equalIn 10000 29 (.agg #[.string who, .int .i64 what, .string key, .bool deny]) (.agg #[.string swho, .int .i64 swhat, .string skey, .bool sdeny])).run Try.prog w = .ok a w := fun w => by
        rw [← ha]
        exact eql_rule w _ _ _ _ _ _ _ _
      have hgd : Try.prog.eqGuardType Try.prog.depth 29 = false := by kernel_rfl
      have HX := Lib.hid (And.intro hnx (And.intro ha hp))
      have HR := Lib.hid hR
      have HO := Lib.hid hO
      have HNO := Lib.hid hno
      clear hnx ha hp hR hO hno
      have hD : Below wr.heap.size wr wr.drew := (Below.refl _ _).drew
      go_wp2
      go_still (by kernel_rfl)
      change Exit.then _ _ Exit.normal _ wr.drew
      have hR2 := HR.out.on hD
      have hO2 := row_low HO.out hD
      clear r0 r1 r2 r3 c0 c1 c2 c3
      generalize wr.drew = w2 at hR2 hO2 ⊢
      cases a
      · go_wp2
        go_roundw
        case rel => exact ⟨k + 1, by omega, by go_num, by rw [HX.out.1, HX.out.2.1, HNO.out]; rfl, hR2, hO2⟩
        case measure => simp [intOf]; omega
      · have hh := hasR_here HX.out.2.2 HX.out.2.1
        go_wp2
        go_ret
        exact ⟨k, rfl, by rw [hh]; simp, hR2.below⟩
    · obtain rfl : k = N := by omega
      rw [← HN.out, List.take_length] at hno
      have i1 : ¬ (k : Int) < (k : Int) := by omega
      go_wp2
      go_ret
      exact ⟨-1, rfl, by first | omega | (rw [hno]; rfl), hR.below⟩


set_option maxRecDepth 100000 in
theorem contains_rule (w : World) (B : Nat) (rv : Value) (rules : List Rl) (who key : ByteArray) (what : Int) (deny : Bool) (hr : OwnR w B rv rules) (hlen : rules.length ≤ 1000) :
    Calls Try.prog 45 #[rv, .agg #[.string who, .int .i64 what, .string key, .bool deny]] w fun e w' => e = .returned (.bool (hasR rules ⟨who, what, key, deny⟩)) ∧ Below w.heap.size w w' := by
  have hR : RuleAt w (w.alloc (.cells #[.string who, .int .i64 what, .string key, .bool deny] 29)) w.heap.size who what key deny :=
    ⟨Whole.new w 29 #[.string who, .int .i64 what, .string key, .bool deny], (Below.refl _ _).alloc (Nat.le_refl _) _⟩
  have hO := row_low hr hR.below
  obtain ⟨r0, r1, r2⟩ := hR.three
  have r3 := hR.cells.cell 3
  have IC := Lib.hid (index_calls (w.alloc (.cells #[.string who, .int .i64 what, .string key, .bool deny] 29)) B rv rules who key what deny hO hlen)
  have HR := Lib.hid hR
  clear hr hO hR
  go_enter Try.func45, Try.ntmps45
  go_wp2_with (first
    | (refine wpList_box_cells (by rfl) 29 _ (by rfl) #[.string who, .int .i64 what, .string key, .bool deny] (by rfl) ?_)
    | (go_at_call 85; refine IC.out.mono ?_; rintro e w1 ⟨i, rfl, hi, hB1⟩))
  go_ret
  refine ⟨?_, HR.out.below.trans (hB1.mono HR.out.below.size)⟩
  rw [← hi]
  rfl

end Go.Proofs.Ytglcingpolpkdaa
