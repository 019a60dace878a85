/- reliquarykit.Pick: a number below another. -/
import Derived.Test.YtmmlpbepaefamaaProg
import Derived.Test.YtmmlpbepaefamaaMem
namespace Go.Proofs.Ytmmlpbepaefamaa
open Go.RowKit

set_option maxRecDepth 100000 in
theorem pick_calls (w : World) (x n : Int) (h1 : 1 ≤ n) (h2 : n ≤ 1000000000) : Calls Try.prog 11 #[.int .i64 x, .int .i64 n] w fun e w' => ∃ r : Int, e = .returned (.int .i64 r) ∧ (0 ≤ r ∧ r < n) ∧ w = w' := by
  obtain ⟨m, hm⟩ : ∃ m, x.tmod n = m := ⟨_, rfl⟩
  have m1 : m < n := hm ▸ Int.tmod_lt_of_pos x (by omega)
  have m2 : -n < m := hm ▸ Int.lt_tmod_of_pos x (by omega)
  have i1 : ¬ n < 1 := by omega
  have i2 : IntKind.i64.wrap m = m := IntWalk.i64_in _ (by omega)
  have i3 : IntKind.i64.wrap (m + n) = m + n := IntWalk.i64_in _ (by omega)
  have i4 : n ≠ 0 := by omega
  by_cases h0 : m < 0
  · go_enter Try.func11, Try.ntmps11
    go_wp2
    go_ret
    exact ⟨m + n, rfl, by omega, rfl⟩
  · go_enter Try.func11, Try.ntmps11
    go_wp2
    go_ret
    exact ⟨m, rfl, by omega, rfl⟩

end Go.Proofs.Ytmmlpbepaefamaa
