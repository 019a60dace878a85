/- AccessScript: the walk. -/
import Derived.Test.YtglcingpolpkdaaAAct
import Derived.Test.YtglcingpolpkdaaALongX2
import Derived.Test.YtglcingpolpkdaaFrameP
namespace Go.Proofs.Ytglcingpolpkdaa
open Go.RowKit

theorem long_no {l : List Ac} (h : longB l = false) : l.length ≤ 400 ∧ ∀ a ∈ l, sumA a ≤ 500 := by
  unfold longB at h
  rw [Bool.or_eq_false_iff] at h
  refine ⟨by have := h.2; simpa using this, fun a ha => ?_⟩
  have := h.1
  rw [List.any_eq_false] at this
  have := this a ha
  simpa using this

theorem duo_new {w w1 : World} {b m : Nat} (h : BookAt w w1 b m (.slice none 0 0) [] []) : Duo w (w1.alloc (.cells #[.slice none 0 0] 56)) b w1.heap.size [] [] := by
  have hB : Below w1.heap.size w1 (w1.alloc (.cells #[.slice none 0 0] 56)) := (Below.refl _ _).alloc (Nat.le_refl _) _
  refine ⟨m, _, [], .slice none 0 0, [], (Books.new h).on hB, ⟨Whole.new w1 _ #[.slice none 0 0], World.ownsRow_nil _ _ _ _, rfl, fun i x t hx _ => by simp at hx, h.below.size, h.below.trans (hB.mono h.below.size)⟩, fun a ha => by cases ha⟩

set_option maxRecDepth 100000 in
set_option maxHeartbeats 4000000 in
theorem accessScript_walk (W : World) (v0 : Value) (l : List Ac) (hA : ActsAt W v0 l) (hl : l.length ≤ 9223372036854775807) (hf : ∀ a ∈ l, Fits a) : Answers Try.prog 7 #[v0] W := by
  unfold Answers
  obtain ⟨N, hN⟩ : ∃ N, l.length = N := ⟨_, rfl⟩
  obtain ⟨p, c, hv⟩ : ∃ p c, v0 = .slice p N c := by
    obtain ⟨a, c, h⟩ := hA.len
    exact ⟨a, c, by rw [← hN]; exact h⟩
  subst hv
  obtain ⟨lg, hlg⟩ : ∃ b, longB l = b := ⟨_, rfl⟩
  have HL := Lib.hid (hlg ▸ long_calls W _ l hA hl hf)
  have HA := Lib.hid hA
  have HN := Lib.hid hN
  cases lg
  case true =>
    clear hA hN hf hlg
    go_enter Try.func7, Try.ntmps7
    go_wp2_with (go_at_call 18; refine HL.out.mono ?_; rintro e w1 ⟨rfl, hB1⟩)
    go_ret
    exact ⟨rfl, hB1⟩
  case false =>
    obtain ⟨h400, h500⟩ := long_no hlg
    rw [hN] at h400
    have HS := Lib.hid h500
    have HNEW := Lib.hid (fun w => new_calls w)
    clear hA hN hf hlg hl h500
    go_enter Try.func7, Try.ntmps7
    go_wp2_with (first
      | (refine wpList_box_cells (by rfl) 56 _ (by rfl) #[.slice none 0 0] (by rfl) ?_)
      | (go_at_call 12; refine (HNEW.out w1).mono ?_; rintro e w2 ⟨b, rfl, m, hB2⟩; have hD0 := duo_new hB2)
      | (go_at_call 18; refine HL.out.mono ?_; rintro e w1 ⟨rfl, hB1⟩))
    generalize hw3 : (w2.alloc (.cells #[.slice none 0 0] 56)) = w3 at hD0
    obtain ⟨g, hg⟩ : ∃ g, w2.heap.size = g := ⟨_, rfl⟩
    rw [hg] at hD0
    simp only [hg]
    clear hB2 hw3 hg
    go_loopw [5] (fun i wr => ∃ k : Nat, k ≤ N ∧ i = .int .i64 k ∧ ∃ ts, Duo w1 wr b g ts ts ∧ Inv ts) (fun i _ => N - (intOf i).toNat)
    case atStart => exact ⟨0, by omega, rfl, [], hD0, Inv.nil⟩
    case round =>
      clear hD0
      obtain ⟨k, hkN, rfl, ts, hD, hI⟩ := hrel
      by_cases hlt : k < N
      · obtain ⟨a, hp⟩ : ∃ a, l[k]? = some a := ⟨_, List.getElem?_eq_getElem (by rw [HN.out]; exact hlt)⟩
        obtain ⟨ab, off, rfl, _, hrng⟩ := (HA.out.low (hB1.trans (hD.below.mono hB1.size))).at hp
        have hs := HS.out a (List.mem_of_getElem? hp)
        unfold sumA at hs
        have HD := Lib.hid (act_calls a hD hI (by omega) (by omega) (by omega))
        have HI := Lib.hid (do_inv a hI (by omega) (by omega) (by omega))
        have i1 : (k : Int) < (N : Int) := by omega
        have i2 : 0 ≤ (k : Int) ∧ (k : Int) < (N : Int) := by omega
        have b2 : IntKind.i64.wrap ((k : Int) + 1) = (k : Int) + 1 := IntWalk.i64_in _ (by omega)
        clear hD hI hp hs
        go_wp2_with (first
          | (refine wpList_load_mid (by rfl) 38 _ (by rfl) ab (off + k * 10) (by rfl) a.cells _ hrng Try.underlying38 (by rfl) size_ac ?_)
          | (go_at_call 26; refine HD.out.mono ?_; rintro e w5 ⟨rfl, hD5⟩))
        go_roundw
        case rel => exact ⟨k + 1, by omega, by go_num, _, hD5, HI.out⟩
        case measure => simp [intOf]; omega
      · obtain rfl : k = N := by omega
        have i1 : ¬ (k : Int) < (k : Int) := by omega
        go_wp2
        go_ret
        exact ⟨rfl, hB1.trans (hD.below.mono hB1.size)⟩

end Go.Proofs.Ytglcingpolpkdaa

/- The law's walk serves whatever the arguments are. -/
namespace Go.Proofs.Ytglcingpolpkdaa
open Go.RowKit

set_option maxRecDepth 100000 in
open Go.ChangeShapes Go.WideShapes in
theorem accessScript_answers {H : Type} {enc : TypeId × Value → H} (W : World) (base : Nat) (args : Array Value) (ds gs : List (DataW H)) (before : List MemPlace)
    (hval : ∀ (j : Nat) t v, Try.f7.params[j]? = some t → args[j]? = some v → Value.okWide Try.prog W .any base t v)
    (hW : DataW.Whole enc Try.prog Try.f7.params.toList Rows.accessScriptSpec.vars false W args.toList ds gs before)
    (hsz : (DataW.weightsEach Try.prog (Try.f7.params.toList ++ Rows.accessScriptSpec.plain.varTypes Try.prog) (ds ++ gs)).all (· ≤ reachBytes) = true) : Answers Try.prog 7 args W := by
  obtain ⟨p, q, hA, _, _, _, _⟩ := hW
  rw [Try.params7] at hA hval
  rw [Try.params7] at hsz
  obtain ⟨v0, d0, rfl, rfl, h0⟩ := trodAll_one hA
  have hw : ∀ n ∈ d0.weights Try.prog 35, n ≤ 140737488355328 := fun n hn => by
    have h := List.all_eq_true.1 hsz n (DataW.weights_mem_each (j := 0) (t := 35) (d := d0) rfl rfl n hn)
    have h2 : n ≤ reachBytes := by simpa using h
    have := reachBytes_lt
    omega
  obtain ⟨l, hl, hll, hf⟩ := acts_arg (hval 0 _ v0 rfl rfl) h0 hw
  exact accessScript_walk W v0 l hl hll hf

end Go.Proofs.Ytglcingpolpkdaa
