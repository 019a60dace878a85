/- The reference's May. -/
import Derived.Test.YtglcingpolpkdaaRNameX2
namespace Go.Proofs.Ytglcingpolpkdaa
open Go.RowKit

theorem ext_list (s : ByteArray) (a b : Nat) : (s.extract a b).data.toList = (s.data.toList.drop a).take (b - a) := by
  rw [← Lib.toList_data]
  exact Lib.extract_toList s a b
theorem size_len (s : ByteArray) : s.size = s.data.toList.length := Lib.size_eq s

/-- How a text begins. -/
theorem who_shape (s : ByteArray) : (s.size = 0 ∧ hasP s tAt = false) ∨ (∃ c n, s.data.toList[0]? = some c ∧ c.toNat = n ∧ n ≠ 64 ∧ 0 < s.size ∧ hasP s tAt = false) ∨ (∃ c, s.data.toList[0]? = some c ∧ c.toNat = 64 ∧ 0 < s.size ∧ hasP s tAt = true ∧ s.extract 1 s.size = behind s tAt) := by
  have hl := size_len s
  unfold hasP behind Lib.trimPrefix Lib.hasPrefix
  cases h : s.data.toList with
  | nil =>
    left
    rw [h] at hl
    exact ⟨hl, rfl⟩
  | cons c r =>
    right
    rw [h] at hl
    have hpos : 0 < s.size := by rw [hl]; simp
    have e : tAt.data.toList.isPrefixOf (c :: r) = (64 == c) := by
      show ([64] : List UInt8).isPrefixOf (c :: r) = _
      simp [List.isPrefixOf]
    rw [e]
    by_cases hc : c.toNat = 64
    · right
      have hc2 : c = 64 := UInt8.toNat_inj.1 hc
      refine ⟨c, rfl, hc, hpos, by simp [hc2], ?_⟩
      apply Go.WideShapes.bytes_inj
      rw [ext_list, h, hc2]
      show _ = (if ((64 : UInt8) == 64) = true then List.drop 1 (64 :: r) else 64 :: r).toArray.toList
      rw [if_pos (by rfl)]
      simp only [List.drop_succ_cons, List.drop_zero]
      rw [hl]
      simp
    · left
      refine ⟨c, c.toNat, rfl, rfl, hc, hpos, ?_⟩
      rw [beq_eq_false_iff_ne]
      intro h2
      rw [← h2] at hc
      exact hc rfl

/-- How a text ends. -/
theorem key_shape (s : ByteArray) : (s.size = 0 ∧ hasS s tStar = false) ∨ (∃ c n, s.data.toList[s.size - 1]? = some c ∧ c.toNat = n ∧ n ≠ 42 ∧ 0 < s.size ∧ hasS s tStar = false) ∨ (∃ c, s.data.toList[s.size - 1]? = some c ∧ c.toNat = 42 ∧ 0 < s.size ∧ hasS s tStar = true ∧ s.extract 0 (s.size - 1) = front s tStar) := by
  have hl := size_len s
  unfold hasS front Lib.trimSuffix Lib.hasSuffix
  rcases List.eq_nil_or_concat s.data.toList with h | ⟨r, c, h⟩
  · left
    rw [h] at hl ⊢
    exact ⟨hl, rfl⟩
  · right
    have hl2 : s.size = r.length + 1 := by rw [hl, h]; simp
    have hpos : 0 < s.size := by omega
    have hat : s.data.toList[s.size - 1]? = some c := by rw [h, hl2]; simp
    have e : tStar.data.toList.isSuffixOf s.data.toList = (42 == c) := by
      show ([42] : List UInt8).isSuffixOf _ = _
      rw [h]
      simp [List.isSuffixOf, List.isPrefixOf]
    rw [e]
    by_cases hc : c.toNat = 42
    · right
      have hc2 : c = 42 := UInt8.toNat_inj.1 hc
      refine ⟨c, hat, hc, hpos, by simp [hc2], ?_⟩
      apply Go.WideShapes.bytes_inj
      rw [ext_list, hc2]
      show _ = (if ((42 : UInt8) == 42) = true then List.take (s.data.toList.length - 1) s.data.toList else s.data.toList).toArray.toList
      rw [if_pos (by rfl), ← hl]
      simp
    · left
      refine ⟨c, c.toNat, hat, rfl, hc, hpos, ?_⟩
      rw [beq_eq_false_iff_ne]
      intro h2
      rw [← h2] at hc
      exact hc rfl

theorem idx_0 {s : ByteArray} {n : Nat} {c : UInt8} (h : s.data.toList[0]? = some c) (hn : c.toNat = n) (w : World) : (Instr.index 9 (.string s) (.int .i64 0)).run Try.prog w = .ok (.int .u8 (n : Int)) w := idx_s (k := 0) h hn w
theorem idx_last {s : ByteArray} {n N : Nat} {c : UInt8} (_ : s.size = N) (hp : 0 < N) (h : s.data.toList[N - 1]? = some c) (hn : c.toNat = n) (w : World) : (Instr.index 9 (.string s) (.int .i64 ((N : Int) - 1))).run Try.prog w = .ok (.int .u8 (n : Int)) w := by
  have := idx_s h hn w
  rwa [show (((N - 1 : Nat)) : Int) = (N : Int) - 1 by omega] at this
theorem cut_1 {s r : ByteArray} (h : s.extract 1 s.size = r) (hp : 0 < s.size) (w : World) : (Instr.slice 9 (.string s) (some (.int .i64 1)) none none).run Try.prog w = .ok (.string r) w := by
  rw [run_slice_string_l w 9 s Try.underlying9 .i64 1 (by decide) (by omega), ← h]
  rfl
theorem cut_last {s r : ByteArray} {N : Nat} (hN : s.size = N) (hp : 0 < N) (h : s.extract 0 (N - 1) = r) (w : World) : (Instr.slice 9 (.string s) none (some (.int .i64 ((N : Int) - 1))) none).run Try.prog w = .ok (.string r) w := by
  rw [run_slice_string_h w 9 s Try.underlying9 .i64 _ (by omega) (by omega), ← h]
  congr 3
  omega

set_option maxRecDepth 100000 in
set_option maxHeartbeats 4000000 in
theorem refmay_calls (w : World) (who key : ByteArray) (what : Int) (deny : Bool) (hsz : key.size ≤ 1000000) : Calls Try.prog 95 #[.agg #[.string who, .int .i64 what, .string key, .bool deny]] w
    fun e w' => e = .returned (.bool (mayB ⟨who, what, key, deny⟩)) ∧ Below w.heap.size w w' := by
  have hBA : Below w.heap.size w (w.alloc (.cells #[.string who, .int .i64 what, .string key, .bool deny] 29)) := (Below.refl _ _).alloc (Nat.le_refl _) _
  have hW := Whole.new w 29 #[.string who, .int .i64 what, .string key, .bool deny]
  have r0 := hW.cell 0
  have r1 := hW.cell 1
  have r2 := hW.cell 2
  have hm : mayB ⟨who, what, key, deny⟩ = ((eqB who tStar || (nameB who || (hasP who tAt && nameB (behind who tAt)))) && ((nameB key || (hasS key tStar && decide (key.size ≤ 64) && lettersB (front key tStar))) && (decide (0 ≤ what) && decide (what ≤ 7)))) := rfl
  rw [hm]
  obtain ⟨x, hx⟩ : ∃ x, (eqB who tStar || (nameB who || (hasP who tAt && nameB (behind who tAt)))) = x := ⟨_, rfl⟩
  obtain ⟨y, hy⟩ : ∃ y, (nameB key || (hasS key tStar && decide (key.size ≤ 64) && lettersB (front key tStar))) = y := ⟨_, rfl⟩
  rw [hx, hy]
  rw [eqB_star] at hx
  have HX := Lib.hid hx
  have HY := Lib.hid hy
  obtain ⟨N, hN⟩ : ∃ N, key.size = N := ⟨_, rfl⟩
  rw [hN] at hsz
  have HNN := Lib.hid hN
  clear hm hx hy hW hN
  go_enter Try.func95, Try.ntmps95
  go_upto_region 1 with (refine wpList_box_cells (by rfl) 29 _ (by rfl) #[.string who, .int .i64 what, .string key, .bool deny] (by rfl) ?_)
  generalize (w.alloc (.cells #[.string who, .int .i64 what, .string key, .bool deny] 29)) = w0 at *
  go_cut [3] (fun v w' => v = .bool x ∧ w0 = w')
  case first =>
    clear HY
    rcases who_shape who with ⟨hz, hp⟩ | ⟨c, n, hc, hn, h64, hz, hp⟩ | ⟨c, hc, hn, hz, hp, he⟩
    · have f1 : ¬ (0 : Int) < (who.size : Int) := by omega
      rw [hp] at HX
      clear hp hz
      go_wp2_with (go_at_call 92; refine (refname_calls _ _).mono ?_; rintro e w' ⟨rfl, hw⟩; rw [hw]; clear hw)
      all_goals
        go_meet
        refine ⟨?_, rfl⟩
        rw [← HX.out]
        show Value.bool _ = Value.bool _
        simp [*]
    · have f1 : (0 : Int) < (who.size : Int) := by omega
      have f2 := idx_0 hc hn
      have f3 : ((n : Int) == 64) = false := by simp; omega
      rw [hp] at HX
      clear hp hz hc hn h64
      go_wp2_with (go_at_call 92; refine (refname_calls _ _).mono ?_; rintro e w' ⟨rfl, hw⟩; rw [hw]; clear hw)
      all_goals
        go_meet
        refine ⟨?_, rfl⟩
        rw [← HX.out]
        show Value.bool _ = Value.bool _
        simp [*]
    · have f1 : (0 : Int) < (who.size : Int) := by omega
      have f2 := idx_0 hc hn
      have f4 := cut_1 he hz
      rw [hp] at HX
      clear hp hz hc hn
      go_wp2_with (go_at_call 92; refine (refname_calls _ _).mono ?_; rintro e w' ⟨rfl, hw⟩; rw [hw]; clear hw)
      all_goals
        go_meet
        refine ⟨?_, rfl⟩
        rw [← HX.out]
        show Value.bool _ = Value.bool _
        simp [*]
  case rest =>
    obtain ⟨rfl, rfl⟩ := hcut
    go_upto_region 3 with fail
    rw [HNN.out]
    go_cut [5] (fun v w' => v = .bool y ∧ w0 = w')
    case first =>
      clear HX
      have HFS := Lib.hid (show N ≤ 64 → (front key tStar).size ≤ 4611686018427387904 from fun h => front_size _ _ (by rw [HNN.out]; exact h))
      have hkN := HNN.out
      rcases key_shape key with ⟨hz, hp⟩ | ⟨c, n, hc, hn, h42, hz, hp⟩ | ⟨c, hc, hn, hz, hp, he⟩
      · have f1 : ¬ (1 : Int) ≤ (N : Int) := by omega
        rw [hp] at HY
        clear hp hz
        go_wp2_with (first
          | (go_at_call 92; refine (refname_calls _ _).mono ?_; rintro e w' ⟨rfl, hw⟩; rw [hw]; clear hw)
          | (go_at_call 109; refine (refletters_calls _ _ (HFS.out (by omega))).mono ?_; rintro e w' ⟨rfl, hw⟩; rw [hw]; clear hw))
        all_goals
          go_meet
          refine ⟨?_, rfl⟩
          rw [← HY.out]
          show Value.bool _ = Value.bool _
          first
            | (simp [*]; done)
            | (simp [*]; omega)
            | (simp_all; done)
            | (simp_all; omega)
      · rw [hkN] at hc hz
        have f1 : (1 : Int) ≤ (N : Int) := by omega
        have f0 : IntKind.i64.wrap ((N : Int) - 1) = (N : Int) - 1 := IntWalk.i64_in _ (by omega)
        have f2 := idx_last hkN hz hc hn
        have f3 : ((n : Int) == 42) = false := by simp; omega
        rw [hp] at HY
        clear hp hz hc hn h42
        go_wp2_with (first
          | (go_at_call 92; refine (refname_calls _ _).mono ?_; rintro e w' ⟨rfl, hw⟩; rw [hw]; clear hw)
          | (go_at_call 109; refine (refletters_calls _ _ (HFS.out (by omega))).mono ?_; rintro e w' ⟨rfl, hw⟩; rw [hw]; clear hw))
        all_goals
          go_meet
          refine ⟨?_, rfl⟩
          rw [← HY.out]
          show Value.bool _ = Value.bool _
          first
            | (simp [*]; done)
            | (simp [*]; omega)
            | (simp_all; done)
            | (simp_all; omega)
      · rw [hkN] at hc hz he
        have f1 : (1 : Int) ≤ (N : Int) := by omega
        have f0 : IntKind.i64.wrap ((N : Int) - 1) = (N : Int) - 1 := IntWalk.i64_in _ (by omega)
        have f2 := idx_last hkN hz hc hn
        have f4 := cut_last hkN hz he
        rw [hp] at HY
        clear hp hz hc hn
        go_wp2_with (first
          | (go_at_call 92; refine (refname_calls _ _).mono ?_; rintro e w' ⟨rfl, hw⟩; rw [hw]; clear hw)
          | (go_at_call 109; refine (refletters_calls _ _ (HFS.out (by omega))).mono ?_; rintro e w' ⟨rfl, hw⟩; rw [hw]; clear hw))
        all_goals
          go_meet
          refine ⟨?_, rfl⟩
          rw [← HY.out]
          show Value.bool _ = Value.bool _
          first
            | (simp [*]; done)
            | (simp [*]; omega)
            | (simp_all; done)
            | (simp_all; omega)
    case rest =>
      obtain ⟨rfl, rfl⟩ := hcut
      clear HX HY HNN
      cases x <;> cases y <;> go_wp2
      all_goals
        go_ret
        refine ⟨?_, hBA⟩
        show Ending.returned (.bool _) = Ending.returned (.bool _)
        first
          | (simp [*]; done)
          | (simp [*]; omega)
          | (simp_all; done)
          | (simp_all; omega)

end Go.Proofs.Ytglcingpolpkdaa
