/- The reference's Allowed. -/
import Derived.Test.YtglcingpolpkdaaRAbout
import Derived.Test.YtglcingpolpkdaaRTell
namespace Go.Proofs.Ytglcingpolpkdaa
open Go.RowKit

set_option maxRecDepth 100000 in
set_option maxHeartbeats 4000000 in
theorem refallowed_calls (W w : World) (m : Nat) (ts : List Tn) (n who key : ByteArray) (what : Int) (h : RefIs W w m ts) (hlen : ts.length ≤ 1000) (hml : ∀ t ∈ ts, t.ms.length ≤ 1000) (hrl : ∀ t ∈ ts, t.rules.length ≤ 1000) (hks : ∀ t ∈ ts, ∀ r ∈ t.rules, r.key.size ≤ 1000000) :
    Calls Try.prog 63 #[.pointer (some ⟨m, 0, none⟩), .string n, .string who, .int .i64 what, .string key] w fun e w' => e = .returned (.bool (allowT ts n who what key)) ∧ Below w.heap.size w w' := by
  have HAT := Lib.hid (refat_calls W w m ts n h hlen)
  rw [allowT_eq]
  unfold rulesT memsT
  unfold atT at HAT
  cases hg : getT ts n with
  | none =>
    rw [hg] at HAT
    rw [show allowedB (match (none : Option (Nat × Tn)) with | none => [] | some (_, t) => t.rules) (match (none : Option (Nat × Tn)) with | none => [] | some (_, t) => t.ms) who what key = false from allowed_nil _ _ _ _]
    clear h hg
    go_enter Try.func63, Try.ntmps63
    go_wp2_with (go_at_call 93; refine HAT.out.mono ?_; rintro e w' ⟨rfl, hw⟩; rw [hw]; clear hw)
    go_ret
    exact ⟨rfl, Below.refl _ _⟩
  | some q =>
    obtain ⟨i, t⟩ := q
    rw [hg] at HAT
    show Calls _ _ _ _ fun e w' => e = .returned (.bool (allowedB t.rules t.ms who what key)) ∧ _
    have hti := (getT_at hg).1
    have htm := List.mem_of_getElem? hti
    have hmx := hml t htm
    have hrx := hrl t htm
    have hkx := hks t htm
    obtain ⟨g, c, mv, rv, hT⟩ := h.ten hti
    obtain ⟨NT, hNT⟩ : ∃ N, ts.length = N := ⟨_, rfl⟩
    rw [hNT] at hT
    obtain ⟨M, hM⟩ : ∃ N, t.ms.length = N := ⟨_, rfl⟩
    obtain ⟨N, hN⟩ : ∃ N, t.rules.length = N := ⟨_, rfl⟩
    obtain ⟨pm, cm, hv⟩ := slice_of_row hT.mems
    rw [hM] at hv hmx
    subst hv
    obtain ⟨pr, cr, hv⟩ := slice_of_row hT.rules
    rw [hN] at hv hrx
    subst hv
    have i0 : ¬ (i : Int) < 0 := by omega
    have i3 : 0 ≤ (i : Int) ∧ (i : Int) < (NT : Int) := by have := hT.lti; omega
    have HT := Lib.hid hT
    have HM := Lib.hid hM
    have HN := Lib.hid hN
    have HNW := Lib.hid (fun w => refname_calls w who)
    have HNK := Lib.hid (fun w => refname_calls w key)
    obtain ⟨x1, hx1⟩ : ∃ x, nameB who = x := ⟨_, rfl⟩
    obtain ⟨x2, hx2⟩ : ∃ x, nameB key = x := ⟨_, rfl⟩
    have hall : allowedB t.rules t.ms who what key = ((x1 && (x2 && (decide (1 ≤ what) && decide (what ≤ 7)))) && (anyAbout t.rules (rolesOf t.ms who) who what key false && !anyAbout t.rules (rolesOf t.ms who) who what key true)) := by
      rw [← hx1, ← hx2]
      rfl
    rw [hall]
    rw [hx1] at HNW
    rw [hx2] at HNK
    clear h hg hT hM hN hNT hti htm hx1 hx2 hall hml hrl hks
    go_enter Try.func63, Try.ntmps63
    by_cases hgood : (x1 && (x2 && (decide (1 ≤ what) && decide (what ≤ 7)))) = true
    · have hh := hgood
      simp only [Bool.and_eq_true, decide_eq_true_eq] at hh
      obtain ⟨rfl, rfl, h1, h7⟩ := hh
      have j1 : ¬ what < 1 := by omega
      have j2 : ¬ 7 < what := by omega
      rw [hgood, Bool.true_and]
      clear hgood h1 h7
      go_upto_block 0 with (first
        | (go_at_call 93; refine HAT.out.mono ?_; rintro e w' ⟨rfl, hw⟩; rw [hw]; clear hw)
        | (go_at_call 92; refine (HNK2.out _).mono ?_; rintro e w' ⟨rfl, hw⟩; rw [hw]; clear hw)
        | (go_at_call 92; refine (HNW.out _).mono ?_; rintro e w' ⟨rfl, hw⟩; rw [hw]; clear hw; have HNK2 := HNK)
        | fail)
      go_wp2
      go_loopw [12, 13] (fun v j wr => ∃ k : Nat, k ≤ M ∧ j = .int .i64 k ∧ OwnS wr w.heap.size v (rolesOf (t.ms.take k) who) ∧ Below w.heap.size w wr) (fun _ j _ => M - (intOf j).toNat)
      case atStart => exact ⟨0, by omega, rfl, by simpa [rolesOf] using OwnS.nil w _, Below.refl _ _⟩
      case round =>
        obtain ⟨k, hk, rfl, hO, hBr⟩ := hrel
        have hTr := HT.out.on hBr
        have q0 := hTr.book
        have q1 := hTr.c1
        by_cases hlt : k < M
        · obtain ⟨⟨role, mem⟩, hp⟩ : ∃ p, t.ms[k]? = some p := ⟨_, List.getElem?_eq_getElem (by rw [HM.out]; exact hlt)⟩
          obtain ⟨mg, cap, he, hmg, h0, h1⟩ := hTr.mems.two hp
          have he : pm = some ⟨mg, 0, none⟩ := by injection he
          subst he
          have i1 : (k : Int) < (M : Int) := by omega
          have i2 : 0 ≤ (k : Int) ∧ (k : Int) < (M : Int) := by omega
          have b2 : IntKind.i64.wrap ((k : Int) + 1) = (k : Int) + 1 := IntWalk.i64_in _ (by omega)
          have hnx := rolesOf_next who hp
          have hle := rolesOf_le (t.ms.take k) who
          have hlk : (t.ms.take k).length ≤ k := by simp; omega
          have HP := Lib.hid (And.intro hnx (And.intro hle hlk))
          have HO := Lib.hid hO
          have HG := Lib.hid (fun (x : Nat) hx => own_ge (x := x) hO hx)
          clear hnx hle hlk hp hTr hO
          by_cases hmw : mem.toList = who.toList
          · have hq : (mem.toList == who.toList) = true := by simpa using hmw
            go_wp2_with (refine wpList_append_str (w := wr) (by rfl) _ _ (by rfl) w.heap.size wr.heap.size _ _ (by rfl) HO.out role (by rfl) (by simp) (by have := HP.out; omega) hBr.size ?_; intro v1 w1 hO1 hG1)
            go_roundw
            case rel => exact ⟨k + 1, by omega, by go_num, by rw [HP.out.1, if_pos hmw]; exact hO1, hBr.grown hG1 hBr.size (fun j hj => HG.out j hj)⟩
            case measure => simp [intOf]; omega
          · have hq : (mem.toList == who.toList) = false := by simpa using hmw
            go_wp2
            go_roundw
            case rel => exact ⟨k + 1, by omega, by go_num, by rw [HP.out.1, if_neg hmw, List.append_nil]; exact HO.out, hBr⟩
            case measure => simp [intOf]; omega
        · obtain rfl : k = M := by omega
          rw [← HM.out, List.take_length] at hO
          have i1 : ¬ (k : Int) < (k : Int) := by omega
          have hle := rolesOf_le t.ms who
          rw [HM.out] at hle
          have HV := Lib.hid hO.texts
          have HLE := Lib.hid hle
          clear hle hTr hO
          go_wp2
          clear q0 q1
          obtain ⟨wA, hwA⟩ : ∃ z, z = wr := ⟨_, rfl⟩
          subst hwA
          go_loopw [14, 15] (fun y j wr => ∃ k : Nat, k ≤ N ∧ j = .int .i64 k ∧ y = .bool (anyAbout (t.rules.take k) (rolesOf t.ms who) who what key false) ∧ anyAbout (t.rules.take k) (rolesOf t.ms who) who what key true = false ∧ Below wA.heap.size wA wr) (fun _ j _ => N - (intOf j).toNat)
          case atStart => exact ⟨0, by omega, rfl, rfl, rfl, Below.refl _ _⟩
          case round =>
            obtain ⟨k2, hk2, rfl, rfl, hno, hBq⟩ := hrel
            have hBwq := hBr.trans (hBq.mono hBr.size)
            have hTq := HT.out.on hBwq
            have q0 := hTq.book
            have q2 := hTq.c2
            by_cases hlt2 : k2 < N
            · obtain ⟨r, hp⟩ : ∃ r, t.rules[k2]? = some r := ⟨_, List.getElem?_eq_getElem (by rw [HN.out]; exact hlt2)⟩
              obtain ⟨rg, rfl, hrng⟩ := own_at (n := 4) lenR (show wr.ownsRow W.heap.size 29 4 (.slice pr N cr) t.rules.length (t.rules.flatMap Rl.cells) from hTq.rules) hp
              have j3 : (k2 : Int) < (N : Int) := by omega
              have j4 : 0 ≤ (k2 : Int) ∧ (k2 : Int) < (N : Int) := by omega
              have b2 : IntKind.i64.wrap ((k2 : Int) + 1) = (k2 : Int) + 1 := IntWalk.i64_in _ (by omega)
              have hn0 := any_next (rolesOf t.ms who) who what key false hp
              have hn1 := any_next (rolesOf t.ms who) who what key true hp
              obtain ⟨a, ha⟩ : ∃ a, aboutB r (rolesOf t.ms who) who what key = a := ⟨_, rfl⟩
              obtain ⟨d, hd⟩ : ∃ d, r.deny = d := ⟨_, rfl⟩
              have hBA : Below wr.heap.size wr (wr.alloc (.cells r.cells.toArray 29)) := (Below.refl _ _).alloc (Nat.le_refl _) _
              have hWX := Whole.new wr 29 r.cells.toArray
              have hrs : ∀ ww v, TextsAt ww v (rolesOf t.ms who) → Calls Try.prog 97 #[.agg r.cells.toArray, v, .string who, .int .i64 what, .string key] ww fun e w' => e = .returned (.bool a) ∧ Below ww.heap.size ww w' := fun ww v hv => by
                have := refabout_calls ww r.who r.key r.what r.deny v (rolesOf t.ms who) who what key hv (by have := HLE.out; omega) (hkx r (List.mem_of_getElem? hp))
                rw [show aboutB ⟨r.who, r.what, r.key, r.deny⟩ (rolesOf t.ms who) who what key = a from ha] at this
                exact this
              have AB := Lib.hid (hrs _ _ (HV.out.low (hBq.trans (hBA.mono hBq.size))))
              have HX := Lib.hid (And.intro hn0 (And.intro hn1 (And.intro ha (And.intro hp hd))))
              have HW := Lib.hid hWX
              have HNO := Lib.hid hno
              have hld := whole_rangeG hWX
              clear hrs hn0 hn1 ha hp hd hTq hWX hno
              go_upto_region 15 with (first
                | (refine wpList_load_R (by rfl) _ (by rfl) rg (k2 * 4) (by rfl) r hrng ?_)
                | (refine wpList_alloc_row (by rfl) 29 (by rfl) _ _ infoR ?_)
                | (refine wpList_new_R (by rfl) _ _ (by rfl) r (by rfl) (by rfl) ?_)
                | fail)
              clear hrng q0 q2
              cases a <;> cases d
              all_goals go_wp2_with (first
                | (go_at_call 97; refine AB.out.mono ?_; rintro e w3 ⟨rfl, hB3⟩; have d3 : w3.cell? ⟨wr.heap.size, 3, none⟩ = some (.bool r.deny) := (HW.out.below hB3 HW.out.lt).cell 3; rw [HX.out.2.2.2.2] at d3)
                | (refine wpList_load_R (by rfl) _ (by rfl) wr.heap.size 0 (by rfl) r hld ?_))
              · go_roundw
                case rel => exact ⟨k2 + 1, by omega, by go_num, by rw [HX.out.1, HX.out.2.2.1]; simp, by rw [HX.out.2.1, HX.out.2.2.1, HNO.out]; rfl, hBq.trans ((hBA.trans (hB3.mono hBA.size)).mono hBq.size)⟩
                case measure => simp [intOf]; omega
              · go_roundw
                case rel => exact ⟨k2 + 1, by omega, by go_num, by rw [HX.out.1, HX.out.2.2.1]; simp, by rw [HX.out.2.1, HX.out.2.2.1, HNO.out]; rfl, hBq.trans ((hBA.trans (hB3.mono hBA.size)).mono hBq.size)⟩
                case measure => simp [intOf]; omega
              · go_roundw
                case rel => exact ⟨k2 + 1, by omega, by go_num, by rw [HX.out.1, HX.out.2.2.1, HX.out.2.2.2.2]; simp, by rw [HX.out.2.1, HX.out.2.2.1, HNO.out, HX.out.2.2.2.2]; rfl, hBq.trans ((hBA.trans (hB3.mono hBA.size)).mono hBq.size)⟩
                case measure => simp [intOf]; omega
              · go_ret
                have hh := any_here HX.out.2.2.2.1 HX.out.2.2.1 HX.out.2.2.2.2
                refine ⟨?_, hBr.trans ((hBq.trans ((hBA.trans (hB3.mono hBA.size)).mono hBq.size)).mono hBr.size)⟩
                show Ending.returned (.bool _) = Ending.returned (.bool _)
                rw [hh]
                simp
            · obtain rfl : k2 = N := by omega
              rw [← HN.out, List.take_length] at hno
              have HK := Lib.hid (show t.rules.take k2 = t.rules by rw [← HN.out, List.take_length])
              rw [HK.out]
              have j3 : ¬ (k2 : Int) < (k2 : Int) := by omega
              go_wp2
              go_ret
              refine ⟨?_, hBwq⟩
              first
                | rfl
                | (show Ending.returned (.bool _) = Ending.returned (.bool _)
                   rw [hno]
                   simp)
                | (simp [hno]; done)
                | simp
    · have hf : (x1 && (x2 && (decide (1 ≤ what) && decide (what ≤ 7)))) = false := by simpa using hgood
      rw [hf, Bool.false_and]
      have HF := Lib.hid hf
      clear hgood hf
      go_upto_block 0 with (first
        | (go_at_call 93; refine HAT.out.mono ?_; rintro e w' ⟨rfl, hw⟩; rw [hw]; clear hw)
        | (go_at_call 92; refine (HNK2.out _).mono ?_; rintro e w' ⟨rfl, hw⟩; rw [hw]; clear hw)
        | (go_at_call 92; refine (HNW.out _).mono ?_; rintro e w' ⟨rfl, hw⟩; rw [hw]; clear hw; have HNK2 := HNK)
        | fail)
      all_goals first
        | (go_ret
           exact ⟨by first | rfl | simp, Below.refl _ _⟩)
        | (exfalso
           have := HF.out
           simp_all
           done)
        | (exfalso
           have := HF.out
           simp_all
           omega)

end Go.Proofs.Ytglcingpolpkdaa
