/- Do notes lead from a head to another? -/
import Derived.Test.YtglcingpolpkdaaDoorNs
import Derived.Shelf.Abstract
namespace Go.Proofs.YtglcingpolpkdaaDoor
open Go.RowKit

def eqD (a b : Dg) : Bool := decide (a.1 = b.1)
theorem eqD_iff (a b : Dg) : eqD a b = true ↔ a = b := by
  unfold eqD
  rw [decide_eq_true_eq]
  exact ⟨Subtype.ext, fun h => by rw [h]⟩
theorem eql_dg (w : World) (a b : Dg) : (binOp .eql 24 (.agg a.vs.toArray) (.agg b.vs.toArray)).run Tryd.prog w = .ok (.bool (eqD a b)) w := by
  obtain ⟨i, hi, hs⟩ := Option.map_eq_some_iff.1 info_b
  exact run_eql_bytes w Tryd.underlying24 hi hs Tryd.underlying5 a.1 b.1 a.2 b.2
theorem eqlIn_dg (w : World) (a b : Dg) : (Op.equalIn 10000 24 (.agg a.vs.toArray) (.agg b.vs.toArray)).run Tryd.prog w = .ok (eqD a b) w := by
  obtain ⟨i, hi, hs⟩ := Option.map_eq_some_iff.1 info_b
  exact run_equal_bytes w Tryd.underlying24 hi hs Tryd.underlying5 a.1 b.1 a.2 b.2
theorem load_dg (w : World) (g : Nat) (a : Dg) (h : Whole w g 24 a.vs) : (Instr.loadAt 24 (.pointer (some ⟨g, 0, none⟩))).run Tryd.prog w = .ok (.agg a.vs.toArray) w :=
  run_loadAt_mid w g 0 24 a.vs _ (whole_rangeG h) Tryd.underlying24 (by rfl) (by rw [size_d, Dg.vs_length])
/-- What Check answers. -/
def checkT (first : Dg) (l : List Nt) (last : Dg) : Bool := l.all nextOk && eqD (l.foldl nextG first) last
theorem KTab.off {w w' : World} {g : Nat} (h : KTab w) (hG : w.grownBy w' (some g)) (hg : 0 < g) : KTab w' := h.grown hG (fun e => by injection e with e; omega)

set_option maxRecDepth 100000 in
set_option maxHeartbeats 2000000 in
theorem closure_calls (w : World) (FB : Nat) (n : Nt) (vs : List Value) (hvs : vs.length = 32) (E : Dg) (C : Int) (hF : Whole w FB 24 vs) (HN : Hid (∀ w', KTab w' → Calls Tryd.prog 11 #[.agg vs.toArray, .agg n.cells.toArray] w' fun e w'' => e = .returned (.tuple #[.agg E.vs.toArray, .int .i64 C]) ∧ Below w'.heap.size w' w'')) (hK : KTab w) :
    Calls Tryd.prog 33 #[.agg n.cells.toArray, .pointer (some ⟨FB, 0, none⟩)] w fun e w' => e = .returned (.bool (C != 0)) ∧ Whole w' FB 24 E.vs ∧ w.grownBy w' (some FB) := by
  have b1 : Below w.heap.size w (w.alloc (.cells n.cells.toArray 36)) := (Below.refl _ _).alloc (Nat.le_refl _) _
  have h1 := Whole.new w 36 n.cells.toArray
  replace hF := hF.below b1 hF.lt
  replace hK := hK.below b1 hK.1
  replace h1 : Whole (w.alloc (.cells n.cells.toArray 36)) w.heap.size 36 n.cells := h1
  go_enter Tryd.func33, Tryd.ntmps33
  go_upto_region 1 with (first | (refine wpList_box_cells (by rfl) 36 _ (by rfl) n.cells.toArray (by rfl) ?_) | fail)
  generalize w.alloc (.cells n.cells.toArray 36) = w1 at b1 h1 hF hK ⊢
  obtain ⟨NB, hNB⟩ : ∃ x, w.heap.size = x := ⟨_, rfl⟩
  rw [hNB] at h1 ⊢
  clear hNB
  go_upto_region 2 with (first
    | (refine wpList_store_row (by rfl) 24 _ _ (by rfl) w2.heap.size E.vs.toArray (by rfl) (by rfl) 24 _ h3 (by rw [size_d]; simp [Dg.vs_length]) (by simp [zeroNums, Dg.vs_length]) (Dg.all_one _) ?_; replace h3 := h3.row E.vs; have b4 : Below w2.heap.size w2 (w3.setRow w2.heap.size E.vs.toArray) := b3.grown (grown_row (World.grownBy.refl w3 (some w2.heap.size)) (.inl rfl) _) b3.size (fun k hk => by injection hk with hk; omega); generalize w3.setRow w2.heap.size E.vs.toArray = w4 at h3 b4 ⊢; obtain ⟨H, hH⟩ : ∃ x, w2.heap.size = x := ⟨_, rfl⟩; rw [hH] at h3 ⊢; clear hH)
    | (refine wpList_alloc_row (by rfl) 24 (by rfl) _ _ info_d ?_; have h3 := Whole.new w2 24 (zeroNums .u8 32).toArray; have b3 : Below w2.heap.size w2 (w2.alloc (.cells (zeroNums .u8 32).toArray 24)) := (Below.refl _ _).alloc (Nat.le_refl _) _; generalize w2.alloc (.cells (zeroNums .u8 32).toArray 24) = w3 at h3 b3 ⊢)
    | (go_at_call 11; refine (HN.out _ hK).mono ?_; rintro e w2 ⟨rfl, b2⟩)
    | (refine wpList_load_mid (by rfl) 36 _ (by rfl) NB 0 (by rfl) n.cells _ (whole_rangeG h1) Tryd.underlying36 (by rfl) (by rw [size_n]; rfl) ?_)
    | (refine wpList_load_row (by rfl) 24 _ (by rfl) FB (by rfl) 24 vs.toArray (0, 0) _ hF Tryd.underlying24 (by rfl) (by rw [size_d]; simp [hvs]) ?_)
    | fail)
  have b24 := b2.trans (b4.mono b2.size)
  have hF4 := hF.below b24 hF.lt
  have b04 := b1.trans (b24.mono b1.size)
  go_wp2_with (first
    | (refine wpList_load_row (by rfl) 24 _ (by rfl) H (by rfl) 24 E.vs.toArray (0, 0) _ h3 Tryd.underlying24 (by rfl) (by rw [size_d]; simp [Dg.vs_length]) ?_)
    | (refine wpList_store_row (by rfl) 24 _ _ (by rfl) FB E.vs.toArray (by rfl) (by rfl) 24 _ hF4 (by rw [size_d]; simp [Dg.vs_length]) (by simp [hvs, Dg.vs_length]) (Dg.all_one _) ?_)
    | fail)
  go_ret
  exact ⟨rfl, hF4.row _, grown_row (below_grown b04 _) (.inl rfl) _⟩

set_option maxRecDepth 100000 in
set_option maxHeartbeats 2000000 in
theorem idx_calls (W0 w : World) (FB : Nat) (d : Dg) (v : Value) (l : List Nt) (hv : NotesAt W0 v l) (hB : Below W0.heap.size W0 w) (hFB : W0.heap.size ≤ FB) (hF : Whole w FB 24 d.vs) (hK : KTab w) (hK0 : 0 < W0.heap.size) (hlen : l.length ≤ 1000) :
    Calls Tryd.prog 43 #[v, .func (.func 33) #[] #[.pointer (some ⟨FB, 0, none⟩)]] w fun e w' => ∃ i : Int, e = .returned (.int .i64 i) ∧ decide (0 ≤ i) = !l.all nextOk ∧ (l.all nextOk = true → Whole w' FB 24 (l.foldl nextG d).vs) ∧ w.grownBy w' (some FB) := by
  obtain ⟨p, c, rfl⟩ := hv.len
  obtain ⟨N, hN⟩ : ∃ N, l.length = N := ⟨_, rfl⟩
  have HN := Lib.hid hN
  have HV := Lib.hid hv
  have HB := Lib.hid hB
  have HFB := Lib.hid (And.intro hFB (Nat.lt_of_lt_of_le hK0 hFB))
  have HS := Lib.hid (And.intro hF hK)
  rw [hN] at HV hlen
  rw [hN]
  have eg : ∀ args w, (callFunc 33 args).run Tryd.prog w = .ok (.enter 33 args) w := enters_of Tryd.func33 (by kernel_rfl) rfl
  clear hN hv hF hK hFB hK0 hB
  go_enter Tryd.func43, Tryd.ntmps43
  go_wp2
  go_loopw [8] (fun i wr => ∃ k : Nat, k ≤ N ∧ i = .int .i64 k ∧ (l.take k).all nextOk = true ∧ Whole wr FB 24 ((l.take k).foldl nextG d).vs ∧ w.grownBy wr (some FB)) (fun i _ => N - (intOf i).toNat)
  case atStart => exact ⟨0, by omega, rfl, by rw [List.take_zero]; rfl, by rw [List.take_zero]; exact HS.out.1, World.grownBy.refl _ _⟩
  case round =>
    obtain ⟨k, hkN, rfl, hok, hF, hG⟩ := hrel
    by_cases hlt : k < N
    · obtain ⟨n, hx⟩ : ∃ x, l[k]? = some x := ⟨_, List.getElem?_eq_getElem (by rw [HN.out]; exact hlt)⟩
      have hBr : Below W0.heap.size W0 wr := HB.out.grown hG HB.out.size (fun i hi => by injection hi with hi; have := HFB.out.1; omega)
      obtain ⟨g, o, rfl, _, hrng⟩ := (HV.out.low hBr).at hx
      have i1 : (k : Int) < (N : Int) := by omega
      have i2 : 0 ≤ (k : Int) ∧ (k : Int) < (N : Int) := by omega
      have b2 : IntKind.i64.wrap ((k : Int) + 1) = (k : Int) + 1 := IntWalk.i64_in _ (by omega)
      have hKr := HS.out.2.off hG HFB.out.2
      have hNx := fun w' (hK' : KTab w') => next_dg w' ((l.take k).foldl nextG d) n hK'
      unfold nextE nextC at hNx
      have ht1 : (l.take (k + 1)).all nextOk = nextOk n := by rw [List.take_add_one, List.all_append, hok, hx]; simp
      have ht2 : (l.take (k + 1)).foldl nextG d = nextG ((l.take k).foldl nextG d) n := by rw [List.take_add_one, List.foldl_append, hx]; rfl
      by_cases hn : nextOk n = true
      · simp only [if_pos hn] at hNx
        have HCL := Lib.hid (closure_calls wr FB n _ (Dg.vs_length _) _ 0 hF (Lib.hid hNx) hKr)
        rw [← ht2] at HCL
        rw [hn] at ht1
        have HR := Lib.hid (And.intro ht1 hG)
        clear hx hok hF hG hBr hKr hNx ht1 ht2 hn
        go_wp2_with (first
          | (refine wpList_load_mid (by rfl) 36 _ (by rfl) g (o + k * 6) (by rfl) n.cells _ hrng Tryd.underlying36 (by rfl) (by rw [size_n]; rfl) ?_)
          | (go_at_fn 33; refine HCL.out.mono ?_; rintro e w2 ⟨rfl, hF2, hG2⟩)
          | fail)
        go_roundw
        case rel => exact ⟨k + 1, by omega, by go_num, HR.out.1, hF2, grown_trans HR.out.2 hG2⟩
        case measure => simp [intOf]; omega
      · simp only [if_neg hn] at hNx
        have HCL := Lib.hid (closure_calls wr FB n _ (Dg.vs_length _) _ 2 hF (Lib.hid hNx) hKr)
        have hno : l.all nextOk = false := by
          rw [← Bool.not_eq_true, List.all_eq_true]
          exact fun h => hn (h n (List.mem_of_getElem? hx))
        have HR := Lib.hid (And.intro hno hG)
        clear hx hok hF hG hBr hKr hNx ht1 ht2 hn hno
        go_wp2_with (first
          | (refine wpList_load_mid (by rfl) 36 _ (by rfl) g (o + k * 6) (by rfl) n.cells _ hrng Tryd.underlying36 (by rfl) (by rw [size_n]; rfl) ?_)
          | (go_at_fn 33; refine HCL.out.mono ?_; rintro e w2 ⟨rfl, hF2, hG2⟩)
          | fail)
        go_ret
        refine ⟨k, rfl, ?_, fun h => ?_, grown_trans HR.out.2 hG2⟩
        · rw [HR.out.1]
          simp
        · rw [HR.out.1] at h
          cases h
    · obtain rfl : k = N := by omega
      have i1 : ¬ (k : Int) < (k : Int) := by omega
      rw [List.take_of_length_le (Nat.le_of_eq HN.out)] at hok hF
      have HO := Lib.hid hok
      clear hok
      go_wp2
      go_ret
      exact ⟨-1, rfl, by rw [HO.out]; rfl, fun _ => hF, hG⟩

set_option maxRecDepth 100000 in
set_option maxHeartbeats 2000000 in
theorem con_calls (W0 w : World) (FB : Nat) (d : Dg) (v : Value) (l : List Nt) (hv : NotesAt W0 v l) (hB : Below W0.heap.size W0 w) (hFB : W0.heap.size ≤ FB) (hF : Whole w FB 24 d.vs) (hK : KTab w) (hK0 : 0 < W0.heap.size) (hlen : l.length ≤ 1000) :
    Calls Tryd.prog 32 #[v, .func (.func 33) #[] #[.pointer (some ⟨FB, 0, none⟩)]] w fun e w' => e = .returned (.bool (!l.all nextOk)) ∧ (l.all nextOk = true → Whole w' FB 24 (l.foldl nextG d).vs) ∧ w.grownBy w' (some FB) := by
  have HI := Lib.hid (idx_calls W0 w FB d v l hv hB hFB hF hK hK0 hlen)
  obtain ⟨p, c, rfl⟩ := hv.len
  obtain ⟨q, hq⟩ : ∃ q, l.all nextOk = q := ⟨_, rfl⟩
  rw [hq] at HI ⊢
  clear hv hB hFB hF hK hK0 hq
  go_enter Tryd.func32, Tryd.ntmps32
  go_wp2_with (first | (go_at_call 43; refine HI.out.mono ?_; rintro e w2 ⟨i, rfl, hi, hF2, hG2⟩; have hI := Lib.hid hi; clear hi) | fail)
  go_ret
  exact ⟨by rw [← hI.out]; rfl, hF2, hG2⟩

set_option maxRecDepth 100000 in
set_option maxHeartbeats 2000000 in
theorem check_calls (w : World) (first last : Dg) (v : Value) (l : List Nt) (hv : NotesAt w v l) (hK : KTab w) (hlen : l.length ≤ 1000) :
    Calls Tryd.prog 19 #[.agg first.vs.toArray, v, .agg last.vs.toArray] w fun e w' => e = .returned (.bool (checkT first l last)) ∧ Below w.heap.size w w' := by
  have b1 : Below w.heap.size w (w.alloc (.cells first.vs.toArray 24)) := (Below.refl _ _).alloc (Nat.le_refl _) _
  have h1 : Whole (w.alloc (.cells first.vs.toArray 24)) w.heap.size 24 first.vs := Whole.new w 24 first.vs.toArray
  have s1 : (w.alloc (.cells first.vs.toArray 24)).heap.size = w.heap.size + 1 := by simp
  unfold checkT
  obtain ⟨q, hq⟩ : ∃ q, l.all nextOk = q := ⟨_, rfl⟩
  rw [hq]
  go_enter Tryd.func19, Tryd.ntmps19
  go_upto_region 1 with (first
    | (refine wpList_box_cells (by rfl) 24 _ (by rfl) last.vs.toArray (by rfl) ?_)
    | (refine wpList_box_cells (by rfl) 24 _ (by rfl) first.vs.toArray (by rfl) ?_)
    | fail)
  generalize w.alloc (.cells first.vs.toArray 24) = w1 at b1 h1 s1 ⊢
  have b2 : Below w1.heap.size w1 (w1.alloc (.cells last.vs.toArray 24)) := (Below.refl _ _).alloc (Nat.le_refl _) _
  have h2 : Whole (w1.alloc (.cells last.vs.toArray 24)) w1.heap.size 24 last.vs := Whole.new w1 24 last.vs.toArray
  replace h1 := h1.below b2 h1.lt
  replace b1 := b1.trans (b2.mono b1.size)
  rw [s1] at h2
  have HC := Lib.hid (con_calls w _ w.heap.size first v l hv b1 (Nat.le_refl _) h1 (hK.below b1 hK.1) hK.1 hlen)
  try simp only [World.size_alloc]
  try rw [s1]
  generalize w1.alloc (.cells last.vs.toArray 24) = w2 at b1 h1 h2 HC ⊢
  obtain ⟨FB, hFB⟩ : ∃ x, w.heap.size = x := ⟨_, rfl⟩
  obtain ⟨LB, hLB⟩ : ∃ x, FB + 1 = x := ⟨_, rfl⟩
  rw [hFB] at h1 h2 HC ⊢
  rw [hLB] at h2 ⊢
  have HE := Lib.hid (show w.heap.size ≤ FB ∧ LB ≠ FB by omega)
  obtain ⟨p, c, rfl⟩ := hv.len
  clear hv s1 hFB hLB h1 hK
  rw [hq] at HC
  clear hq
  go_upto_region 2 with (first | (go_at_call 32; refine HC.out.mono ?_; rintro e w3 ⟨rfl, hF, hG⟩) | fail)
  have hB3 := b1.grown hG b1.size (fun k hk => by injection hk with hk; have := HE.out.1; omega)
  have hL3 := h2.grown hG (fun e => HE.out.2 (by injection e))
  cases q
  · clear hF
    go_wp2
    go_ret
    exact ⟨rfl, hB3⟩
  · replace hF := hF rfl
    have l3 := fun w => eql_dg w (l.foldl nextG first) last
    have l4 := fun w => eqlIn_dg w (l.foldl nextG first) last
    have hgd : Tryd.prog.eqGuardType Tryd.prog.depth 24 = false := by kernel_rfl
    clear h2 hG b1 HC
    obtain ⟨X, hX⟩ : ∃ X, l.foldl nextG first = X := ⟨_, rfl⟩
    rw [hX] at l3 l4 hF
    have HX := Lib.hid hX
    clear hX
    go_wp2_with (first
      | (refine BigFrame.wpList_want (by rfl) fun K hK => wp_load_mid 24 _ (by rfl) FB 0 (by rfl) X.vs _ (whole_rangeG hF) Tryd.underlying24 (by rfl) (by rw [size_d, Dg.vs_length]) (hK _ _ ?_))
      | (refine BigFrame.wpList_want (by rfl) fun K hK => wp_load_mid 24 _ (by rfl) LB 0 (by rfl) last.vs _ (whole_rangeG hL3) Tryd.underlying24 (by rfl) (by rw [size_d, Dg.vs_length]) (hK _ _ ?_))
      | fail)
    go_ret
    exact ⟨by rw [HX.out]; rfl, hB3⟩

end Go.Proofs.YtglcingpolpkdaaDoor
