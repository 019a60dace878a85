/- DigestSums: the law's walk. -/
import Derived.Test.YtngklnijmhlikaaDoorDigest
import Derived.Test.YtngklnijmhlikaaDoorRefSum
import Derived.Test.YtngklnijmhlikaaDoorKit
import Derived.Test.YtngklnijmhlikaaDoorArgs
namespace Go.Proofs.YtngklnijmhlikaaDoor
open Go.RowKit

theorem info_d_u8 : ∃ i, Tryd.prog.info? 5 = some i ∧ i.size = 1 := by
  obtain ⟨i, h, _, h2, _⟩ := info_u8
  exact ⟨i, h, h2⟩

theorem eql_digest (a b : List (BitVec 8)) (ha : a.length = 32) (hb : b.length = 32) (w : World) :
    (binOp .eql 25 (.agg (a.map vu8).toArray) (.agg (b.map vu8).toArray)).run Tryd.prog w = .ok (.bool (decide (a = b))) w := by
  obtain ⟨i, hi, hs⟩ := info_d_u8
  exact run_eql_bytes w Tryd.underlying25 hi hs Tryd.underlying5 a b ha hb
theorem neq_digest (a b : List (BitVec 8)) (ha : a.length = 32) (hb : b.length = 32) (w : World) :
    (binOp .neq 25 (.agg (a.map vu8).toArray) (.agg (b.map vu8).toArray)).run Tryd.prog w = .ok (.bool (!decide (a = b))) w := by
  obtain ⟨i, hi, hs⟩ := info_d_u8
  exact run_neq_bytes w Tryd.underlying25 hi hs Tryd.underlying5 a b ha hb

set_option maxRecDepth 100000 in
set_option maxHeartbeats 1000000 in
theorem digestSums_walk (w : World) (sl : Value) (bs : List (BitVec 8)) (hs : SliceIs w sl bs) (hK : KTab w) : Answers Tryd.prog 3 #[sl] w := by
  obtain ⟨sp, c, rfl, _⟩ := hs.cells
  have heq := eql_digest (sha bs) (sha bs) (sha_length bs) (sha_length bs)
  unfold Answers
  by_cases hlen : 100000 < bs.length
  · have h1 : (100000 : Int) < (bs.length : Int) := by omega
    go_enter Tryd.func3, Tryd.ntmps3
    go_wp2
    go_ret
    exact ⟨rfl, Below.refl _ _⟩
  · have h1 : ¬ (100000 : Int) < (bs.length : Int) := by omega
    have h2 : bs.length ≤ 100000 := by omega
    go_enter Tryd.func3, Tryd.ntmps3
    go_wp2_with (first
      | (go_at_call 17; refine (lent_calls _ _ bs hs (by omega)).mono ?_; rintro e w1 ⟨g, rfl, hg, hl1, hB1⟩)
      | (go_at_call 18; refine (digest_sum _ bs _ hl1.slice (hK.below hB1 hK.1) (by omega)).mono ?_; rintro e w2 ⟨rfl, hB2⟩)
      | (go_at_call 19; refine (refsum_calls _ bs _ ((hs.low hB1).low hB2) (by omega)).mono ?_; rintro e w3 ⟨rfl, hB3⟩)
      | (go_at_call 20; refine (kept_calls _ g _ bs ((hl1.low hB2).low hB3) (((hs.low hB1).low hB2).low hB3) (by omega)).mono ?_; rintro e w4 ⟨rfl, hB4⟩))
    go_ret
    exact ⟨rfl, ((hB1.trans (hB2.mono hB1.size)).trans (hB3.mono (Nat.le_trans hB1.size hB2.size))).trans (hB4.mono (Nat.le_trans hB1.size (Nat.le_trans hB2.size hB3.size)))⟩

set_option maxRecDepth 100000 in
open Go.ChangeShapes Go.WideShapes in
theorem digestSums_answers {H : Type} {enc : TypeId × Value → H} (W : World) (base : Nat) (args : Array Value) (ds gs : List (DataW H)) (before : List MemPlace)
    (hval : ∀ (j : Nat) t v, Tryd.f3.params[j]? = some t → args[j]? = some v → Value.okWide Tryd.prog W .any base t v)
    (hW : DataW.Whole enc Tryd.prog Tryd.f3.params.toList Rows.digestSumsSpec.vars false W args.toList ds gs before)
    (_ : (DataW.weightsEach Tryd.prog (Tryd.f3.params.toList ++ Rows.digestSumsSpec.plain.varTypes Tryd.prog) (ds ++ gs)).all (· ≤ reachBytes) = true)
    (hL : laidMetH Tryd.prog Rows.digestSumsRow.laid W) : Answers Tryd.prog 3 args W := by
  obtain ⟨p, q, hA, _, _, _, _⟩ := hW
  rw [Tryd.params3] at hA hval
  obtain ⟨v0, d0, rfl, _, h0⟩ := trodAll_one hA
  obtain ⟨bs, hs, _⟩ := bytes_arg (hval 0 _ v0 rfl rfl) h0
  exact digestSums_walk W v0 bs hs (ktab_of hL)

end Go.Proofs.YtngklnijmhlikaaDoor
