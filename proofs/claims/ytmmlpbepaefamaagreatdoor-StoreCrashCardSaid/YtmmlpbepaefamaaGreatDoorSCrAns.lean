/- The law's walk serves whatever the arguments are. -/
import Derived.ChangeMaps5
import Derived.Test.YtmmlpbepaefamaaGreatDoorMemX6
import Derived.Test.YtmmlpbepaefamaaGreatDoorSCw
namespace Go.Proofs.YtmmlpbepaefamaaGreatDoor
open Go.RowKit

theorem scr_walk (W : World) (v0 v1 v2 : Value) (rl : List Int) (l : List StepA) (kp : List Kp) (h0 : NumsAt W v0 rl) (h1 : StepsAt W v1 l) (h2 : KeepsAt W v2 kp) (hf : ∀ a ∈ l, fitL a.L) : Answers Tryz.prog 4 #[v0, v1, v2] W := by
  obtain ⟨p0, c0, rfl⟩ : ∃ p c, v0 = .slice p rl.length c := by
    rcases h0 with ⟨a, c, rfl, rfl⟩ | ⟨b, o, c, rfl, _⟩ <;> exact ⟨_, _, rfl⟩
  obtain ⟨p1, c1, rfl⟩ := h1.len
  obtain ⟨p2, c2, rfl⟩ := h2.len
  by_cases hR : rl.length ≤ 60
  · by_cases hN : l.length ≤ 30
    · by_cases hK : kp.length ≤ 20
      · exact scr_main W p0 p1 p2 _ c0 _ c1 _ c2 rl l kp h0 h1 h2 rfl rfl rfl hR hN hK hf
      · exact scr_long_c W p0 p1 p2 _ c0 _ c1 _ c2 hR hN (by omega)
    · exact scr_long_b W p0 p1 p2 _ c0 _ c1 _ c2 hR (by omega)
  · exact scr_long_a W p0 p1 p2 _ c0 _ c1 _ c2 (by omega)

set_option maxRecDepth 100000 in
open Go.ChangeShapes Go.WideShapes Go.ChangeMaps in
theorem storeCrash_answers {H : Type} {enc : TypeId × Value → H} (W : World) (base : Nat) (args : Array Value) (ds gs : List (DataW H)) (before : List MemPlace)
    (hval : ∀ (j : Nat) t v, Tryz.f4.params[j]? = some t → args[j]? = some v → Value.okWide Tryz.prog W .any base t v)
    (hW : DataW.Whole enc Tryz.prog Tryz.f4.params.toList Rows.storeCrashSpec.vars false W args.toList ds gs before)
    (hsz : (DataW.weightsEach Tryz.prog (Tryz.f4.params.toList ++ Rows.storeCrashSpec.plain.varTypes Tryz.prog) (ds ++ gs)).all (· ≤ reachBytes) = true)
    (_ : laidMetH Tryz.prog Rows.storeCrashRow.laid W) : Answers Tryz.prog 4 args W := by
  obtain ⟨p, q, hA, _, _, _, _⟩ := hW
  rw [Tryz.params4] at hA hval
  obtain ⟨v0, v1, v2, d0, d1, d2, p0, p1, p2, hv, rfl, _, h0, h1, h2⟩ := trodAll_three hA
  rw [hv] at hval ⊢
  rw [Tryz.params4] at hsz
  have hw : ∀ n ∈ d1.weights Tryz.prog 51, n ≤ 140737488355328 := fun n hn => by
    have h := List.all_eq_true.1 hsz n (DataW.weights_mem_each (j := 1) (t := 51) (d := d1) rfl rfl n hn)
    have h2 : n ≤ reachBytes := by simpa using h
    have := reachBytes_lt
    omega
  obtain ⟨rl, hR, _⟩ := nums_arg (hval 0 _ v0 rfl rfl) h0
  obtain ⟨l, hl, _, hf⟩ := steps_arg (hval 1 _ v1 rfl rfl) h1 hw
  obtain ⟨kp, hk, _⟩ := keeps_arg (hval 2 _ v2 rfl rfl) h2
  exact scr_walk W v0 v1 v2 rl l kp hR hl hk hf

end Go.Proofs.YtmmlpbepaefamaaGreatDoor
