/- Lists of bytes that are lent and kept. -/
import Derived.Test.YtngklnijmhlikaaDoorJoin
namespace Go.Proofs.YtngklnijmhlikaaDoor
open Go.RowKit

theorem info_sl : ∃ i, Tryd.prog.info? 22 = some i ∧ i.zero = some (.slice none 0 0) ∧ i.size = 1 ∧ i.bytes = 24 := by
  have h : (Tryd.prog.info? 22).map (fun i => (i.zero, i.size, i.bytes)) = some (some (.slice none 0 0), 1, 24) := by kernel_rfl
  cases hi : Tryd.prog.info? 22 with
  | none => rw [hi] at h; cases h
  | some i =>
    rw [hi] at h
    simp only [Option.map_some, Option.some.injEq, Prod.mk.injEq] at h
    exact ⟨i, rfl, h.1, h.2.1, h.2.2⟩

/-- A list of slices that the call owns. -/
def OwnL (w : World) (B : Nat) (v : Value) (vs : List Value) : Prop := w.ownsRow B 22 1 v vs.length vs

/-- Lists of bytes that were lent. -/
def LentsAt (w : World) (B : Nat) (v : Value) (ls : List (List (BitVec 8))) : Prop :=
  ∃ vs, OwnL w B v vs ∧ vs.length = ls.length ∧ ∀ (i : Nat) (bs : List (BitVec 8)), ls[i]? = some bs → ∃ g, vs[i]? = some (Value.slice (some ⟨g, 0, none⟩) bs.length (bs.length + 3)) ∧ B ≤ g ∧ LentAt w g bs

section
variable {w w' : World} {B g : Nat} {v : Value} {vs : List Value} {ls : List (List (BitVec 8))} {bs : List (BitVec 8)}
theorem OwnL.apart (h : OwnL w B v vs) (hl : LentAt w g bs) : v.ownBlock ≠ some g := by
  intro e
  rcases h.2 with ⟨rfl, _⟩ | ⟨g', cap, cur, rfl, _, hg, _⟩
  · cases e
  · have : g' = g := by simpa [Value.ownBlock] using e
    subst this
    unfold LentAt Whole at hl
    rw [hl] at hg
    injection hg with hg
    injection hg with _ ht _
    exact absurd ht (by decide)
theorem LentsAt.low (h : LentsAt w B v ls) (hb : Below w.heap.size w w') : LentsAt w' B v ls := by
  obtain ⟨vs, ho, hl, hx⟩ := h
  refine ⟨vs, World.ownsRow.kept ho (below_grown hb none) (by cases v.ownBlock <;> simp), hl, fun i bs hi => ?_⟩
  obtain ⟨g, h1, h2, h3⟩ := hx i bs hi
  exact ⟨g, h1, h2, h3.low hb⟩
theorem OwnL.shape (h : OwnL w B v vs) : (v = .slice none 0 0 ∧ vs = []) ∨ ∃ g cap, v = .slice (some ⟨g, 0, none⟩) vs.length cap ∧ B ≤ g ∧ g < w.heap.size ∧ (∀ j x, vs[j]? = some x → w.cell? ⟨g, j, none⟩ = some x) := by
  rcases h.2 with ⟨rfl, hn⟩ | ⟨g, cap, cur, rfl, hb, hg, hle, hm, _⟩
  · exact .inl ⟨rfl, List.eq_nil_of_length_eq_zero hn⟩
  · refine .inr ⟨g, cap, rfl, hb, (Array.getElem?_eq_some_iff.1 hg).1, fun j x hx => ?_⟩
    have := World.ownsRow.cells h (g := g) rfl j x (by simpa using hx)
    rwa [Addr.add_lit, Nat.zero_add] at this
theorem LentsAt.lists (h : LentsAt w B v ls) : ListsAt w v ls := by
  obtain ⟨vs, ho, hl, hx⟩ := h
  rcases ho.shape with ⟨rfl, rfl⟩ | ⟨g, cap, rfl, hB, hg, hc⟩
  · have : ls = [] := List.eq_nil_of_length_eq_zero (by simpa using hl.symm)
    subst this
    exact ⟨none, 0, rfl, fun h => absurd rfl h⟩
  · refine ⟨some ⟨g, 0, none⟩, cap, by rw [hl], fun _ => ⟨g, 0, rfl, hg, fun i bs hi => ?_⟩⟩
    obtain ⟨g1, h1, h2, h3⟩ := hx i bs hi
    exact ⟨_, by rw [Nat.zero_add]; exact hc i _ h1, h3.slice⟩
theorem LentsAt.next {v' : Value} (ho : OwnL w B v vs) (hlen : vs.length = ls.length) (hx : ∀ (i : Nat) (bs : List (BitVec 8)), ls[i]? = some bs → ∃ g, vs[i]? = some (Value.slice (some ⟨g, 0, none⟩) bs.length (bs.length + 3)) ∧ B ≤ g ∧ LentAt w g bs) (hl : LentAt w g bs) (hB : B ≤ g)
    (hO : OwnL w' B v' (vs ++ [Value.slice (some ⟨g, 0, none⟩) bs.length (bs.length + 3)])) (hG : w.grownBy w' v.ownBlock) : LentsAt w' B v' (ls ++ [bs]) := by
  refine ⟨_, hO, by simp [hlen], fun i xs hi => ?_⟩
  by_cases hil : i < ls.length
  · rw [List.getElem?_append_left hil] at hi
    obtain ⟨g1, h1, h2, h3⟩ := hx i xs hi
    exact ⟨g1, by rw [List.getElem?_append_left (by omega)]; exact h1, h2, h3.grown hG (Ne.symm (ho.apart h3))⟩
  · have hie : i = ls.length := by
      have := (List.getElem?_eq_some_iff.1 hi).1
      simp at this
      omega
    subst hie
    have : xs = bs := by simpa using hi.symm
    subst this
    exact ⟨g, by rw [← hlen]; simp, hB, hl.grown hG (Ne.symm (ho.apart hl))⟩
end

/-- 'append(l, x)', l a list of slices that the call owns. -/
theorem wpList_append_sl {w : World} {ops : Array Oper} {rest : List Oper} {o : Oper} {a : Act} {Q : Exit → Act → World → Prop} (hgd : o.guard = none) (s x : Operand)
    (ho : o.op = .call { callee := .builtin .append, args := #[s, x], argTypes := #[43, 43] })
    (B : Nat) (v : Value) (vs : List Value) (hs : a.eval s = v) (hown : OwnL w B v vs) (c : Value) (hc : c.oneCell' = true)
    (hx : a.eval x = .slice (some ⟨w.heap.size, 0, none⟩) 1 1) (hlen : vs.length + 1 ≤ 1000000) (hbase : B ≤ w.heap.size)
    (h : ∀ v' w', OwnL w' B v' (vs ++ [c]) → w.grownBy w' v.ownBlock → wpList Tryd.prog ops Q rest (a.put o.dst v') w') :
    wpList Tryd.prog ops Q (o :: rest) a (w.alloc (.cells #[c] 22)) := by
  obtain ⟨i, hi, hz, hsz, hby⟩ := info_sl
  refine wpList_append_own (w := w.alloc (.cells #[c] 22)) hgd s x _ ho B _ i _ 1 24 Tryd.underlying43 hi hz hsz hby rfl (by decide) v vs.length vs hs (World.ownsRow.alloc hown _) ⟨w.heap.size, 0, none⟩ 1 1 [c] hx rfl (fun j u hj => ?_) (fun u hu => ?_) (by simp only [maxLen]; omega) (by omega) (by simp; omega) fun v' w' h1 h2 _ => h v' w' ?_ (grown_trans (grown_alloc (World.grownBy.refl _ _) _) h2)
  · have hj0 : j = 0 := by
      have := (List.getElem?_eq_some_iff.1 hj).1
      simpa using this
    subst hj0
    rw [Addr.add_lit, (Whole.new w _ #[c]).cell]
    exact hj
  · have : u = c := by simpa using hu
    rw [this]
    exact hc
  · unfold OwnL
    rw [List.length_append]
    exact h1

theorem ListsAt.at_ {w : World} {sl : Value} {ls : List (List (BitVec 8))} (h : ListsAt w sl ls) : ∃ ao c, sl = .slice ao ls.length c := by
  obtain ⟨ao, c, h, _⟩ := h
  exact ⟨ao, c, h⟩

set_option maxRecDepth 100000 in
set_option maxHeartbeats 1000000 in
theorem lents_calls (w : World) (sl : Value) (ls : List (List (BitVec 8))) (hs : ListsAt w sl ls) (hsz : ls.length ≤ 100000) (hsz2 : ∀ bs ∈ ls, bs.length ≤ 1099511627776) :
    Calls Tryd.prog 33 #[sl] w fun e w' => ∃ v, e = .returned v ∧ LentsAt w' w.heap.size v ls ∧ Below w.heap.size w w' := by
  obtain ⟨ao, cp, rfl, hl⟩ := hs
  obtain ⟨N, hN⟩ : ∃ N, ls.length = N := ⟨_, rfl⟩
  rw [hN] at hsz ⊢
  have HN := Lib.hid hN
  have HL := Lib.hid hl
  obtain ⟨i0, hi, hz0, hz1, hz2⟩ := info_sl
  have hnil : LentsAt w w.heap.size (.slice none 0 0) [] := ⟨[], World.ownsRow_nil w _ _ _, rfl, fun i bs h => by simp at h⟩
  clear hN hl
  go_enter Tryd.func33, Tryd.ntmps33
  go_wp2
  go_loopw [3, 4] (fun v i wr => ∃ k : Nat, k ≤ N ∧ i = .int .i64 k ∧ LentsAt wr w.heap.size v (ls.take k) ∧ Below w.heap.size w wr) (fun _ i _ => N - (intOf i).toNat)
  case atStart => exact ⟨0, by omega, rfl, by simpa using hnil, Below.refl _ _⟩
  case round =>
    obtain ⟨k, hk, rfl, hO, hBr⟩ := hrel
    by_cases hlt : k < N
    · obtain ⟨bs, hbs⟩ : ∃ bs, ls[k]? = some bs := ⟨_, List.getElem?_eq_getElem (by rw [HN.out]; exact hlt)⟩
      obtain ⟨ab, ao', rfl, hab, hcell⟩ := HL.out (by rintro rfl; simp at hbs)
      obtain ⟨v, hv, hsv⟩ := hcell k bs hbs
      have hbl := hsz2 bs (List.mem_of_getElem? hbs)
      obtain ⟨vp, vc, rfl, _⟩ := hsv.cells
      have cV : wr.cell? ⟨ab, ao' + k, none⟩ = some (.slice vp bs.length vc) := (hBr.cell (p := ⟨ab, ao' + k, none⟩) hab).trans hv
      have i1 : (k : Int) < (N : Int) := by omega
      have i2 : 0 ≤ (k : Int) ∧ (k : Int) < (N : Int) := by omega
      have b2 : IntKind.i64.wrap ((k : Int) + 1) = (k : Int) + 1 := IntWalk.i64_in _ (by omega)
      have hsr := hsv.low hBr
      have habr := hBr.size
      have hnx : ls.take (k + 1) = ls.take k ++ [bs] := by
        have hkl : k < ls.length := (List.getElem?_eq_some_iff.1 hbs).1
        rw [List.take_succ_eq_append_getElem hkl, (List.getElem?_eq_some_iff.1 hbs).2]
      have HX := Lib.hid hnx
      have htl : (ls.take k).length = k := by simp [HN.out]; omega
      clear hnx hcell HL
      go_wp2_with (first
        | (go_at_call 17; refine (lent_calls wr _ bs hsr hbl).mono ?_; rintro e w1 ⟨g, rfl, hg, hl1, hB1⟩
           obtain ⟨vs, ho, hlen, hx⟩ := hO.low hB1
           have hz1 := hB1.size)
        | (at_builtin; refine wpList_append_sl (by rfl) (.tmp 11) (.tmp 17) (by rfl) w.heap.size u3 vs (by rfl) ho (.slice (some ⟨g, 0, none⟩) bs.length (bs.length + 3)) (by rfl) (by rfl) (by omega) (by omega) ?_; intro v2 w2 hO2 hG2))
      go_roundw
      case rel =>
        refine ⟨k + 1, by omega, by go_num, ?_, ?_⟩
        · rw [HX.out]
          exact LentsAt.next ho hlen hx hl1 (by omega) hO2 hG2
        · exact (hBr.trans (hB1.mono hBr.size)).grown hG2 (Nat.le_trans hBr.size hB1.size) (fun j hj => (World.ownsRow.lt ho j hj).1)
      case measure => simp [intOf]; omega
    · obtain rfl : k = N := by omega
      have hfull : ls.take k = ls := List.take_of_length_le (by rw [HN.out]; omega)
      rw [hfull] at hO
      go_wp2
      go_ret
      exact ⟨_, rfl, hO, hBr⟩

set_option maxRecDepth 100000 in
set_option maxHeartbeats 1000000 in
theorem keptLists_calls (w : World) (B : Nat) (v sl : Value) (ls : List (List (BitVec 8))) (hv : LentsAt w B v ls) (hs : ListsAt w sl ls) (hsz : ls.length ≤ 100000) (hsz2 : ∀ bs ∈ ls, bs.length ≤ 1099511627776) :
    Calls Tryd.prog 38 #[v, sl] w fun e w' => e = .returned (.bool true) ∧ Below w.heap.size w w' := by
  obtain ⟨av, cv, rfl⟩ := hv.lists.at_
  obtain ⟨ao, cp, rfl, hl⟩ := hs
  obtain ⟨N, hN⟩ : ∃ N, ls.length = N := ⟨_, rfl⟩
  have HV := Lib.hid hv
  rw [hN] at hsz ⊢
  have HN := Lib.hid hN
  have HL := Lib.hid hl
  clear hN hl hv
  go_enter Tryd.func38, Tryd.ntmps38
  go_wp2
  go_loopw [5] (fun i wr => ∃ k : Nat, k ≤ N ∧ i = .int .i64 k ∧ Below w.heap.size w wr) (fun i _ => N - (intOf i).toNat)
  case atStart => exact ⟨0, by omega, rfl, Below.refl _ _⟩
  case round =>
    obtain ⟨k, hk, rfl, hBr⟩ := hrel
    by_cases hlt : k < N
    · obtain ⟨bs, hbs⟩ : ∃ bs, ls[k]? = some bs := ⟨_, List.getElem?_eq_getElem (by rw [HN.out]; exact hlt)⟩
      obtain ⟨ab, ao', rfl, hab, hcell⟩ := HL.out (by rintro rfl; simp at hbs)
      obtain ⟨v, hv, hsv⟩ := hcell k bs hbs
      have hbl := hsz2 bs (List.mem_of_getElem? hbs)
      obtain ⟨vp, vc, rfl, _⟩ := hsv.cells
      obtain ⟨vs, ho, hlen, hx⟩ := HV.out
      obtain ⟨g, hg1, hg2, hg3⟩ := hx k bs hbs
      rcases ho.shape with ⟨_, rfl⟩ | ⟨gv, cap, heq, hgB, hgl, hgc⟩
      · simp at hg1
      injection heq with e1 _ e3
      subst e1 e3
      have cL : wr.cell? ⟨gv, k, none⟩ = some (.slice (some ⟨g, 0, none⟩) bs.length (bs.length + 3)) := (hBr.cell (p := ⟨gv, k, none⟩) hgl).trans (hgc k _ hg1)
      have cV : wr.cell? ⟨ab, ao' + k, none⟩ = some (.slice vp bs.length vc) := (hBr.cell (p := ⟨ab, ao' + k, none⟩) hab).trans hv
      have i1 : (k : Int) < (N : Int) := by omega
      have i2 : 0 ≤ (k : Int) ∧ (k : Int) < (N : Int) := by omega
      have b2 : IntKind.i64.wrap ((k : Int) + 1) = (k : Int) + 1 := IntWalk.i64_in _ (by omega)
      have hsr := hsv.low hBr
      have hlr := hg3.low hBr
      have habr := hBr.size
      clear hcell HL hx hgc
      go_upto_region 4 with (fail)
      go_region_held3 (fun w' => w'.cell? ⟨gv, k, none⟩ = some (.slice (some ⟨g, 0, none⟩) bs.length (bs.length + 3)) ∧ w'.cell? ⟨ab, ao' + k, none⟩ = some (.slice vp bs.length vc))
        (first
          | exact ⟨cL, cV⟩
          | exact ⟨(hB1.cell (p := ⟨gv, k, none⟩) (Nat.lt_of_lt_of_le hgl habr)).trans cL, (hB1.cell (p := ⟨ab, ao' + k, none⟩) (Nat.lt_of_lt_of_le hab habr)).trans cV⟩
          | go_keep)
        (first
          | ((go_at_call 20; refine (kept_calls _ g _ bs (show LentAt wr.drew g bs from hlr) (show SliceIs wr.drew _ bs from hsr) hbl).mono ?_; rintro e w1 ⟨rfl, hB1⟩))
          | fail)
      all_goals
        go_wp2
        have hD : Below w.heap.size w wr.drew := hBr.drew
        exact ⟨⟨k + 1, by omega, by go_num, hD.trans (hB1.mono hD.size)⟩, by simp [intOf]; omega⟩
    · obtain rfl : k = N := by omega
      go_wp2
      go_ret
      exact ⟨rfl, hBr⟩

end Go.Proofs.YtngklnijmhlikaaDoor
