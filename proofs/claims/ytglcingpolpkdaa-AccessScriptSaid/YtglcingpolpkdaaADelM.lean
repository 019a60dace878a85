/- slices.IndexFunc and DeleteFunc of members with Leave's closure. -/
import Derived.Test.YtglcingpolpkdaaARowGX2
namespace Go.Proofs.Ytglcingpolpkdaa
open Go.RowKit

theorem lenM (a : (ByteArray × ByteArray)) : (memCells a).length = 2 := rfl
theorem oneM (a : (ByteArray × ByteArray)) : (memCells a).toArray.all (·.oneCell') = true := all_oneCell_toArray fun u hu => by
  simp [memCells] at hu
  rcases hu with rfl | rfl <;> rfl
theorem sizeM : (Try.prog.info? 106).map (·.size) = some 2 := by kernel_rfl
theorem infoM : (Try.prog.info? 106).map (fun i => (i.zero, i.size)) = some (some (.agg #[.string ⟨#[]⟩, .string ⟨#[]⟩]), 2) := by kernel_rfl

theorem wpList_load_M {w : World} {ops : Array Oper} {rest : List Oper} {op : Oper} {a : Act} {Q : Exit → Act → World → Prop} (hgd : op.guard = none) (x : Operand) (ho : op.op = .load 106 x) (b o : Nat) (hx : a.eval x = .pointer (some ⟨b, o, none⟩)) (q : (ByteArray × ByteArray)) (hc : w.rangeAt b o (memCells q))
    (h : wpList Try.prog ops Q rest (a.put op.dst (.agg (memCells q).toArray)) w) : wpList Try.prog ops Q (op :: rest) a w := wpList_load_mid hgd 106 x ho b o hx (memCells q) _ hc Try.underlying106 (by rfl) sizeM h
theorem wpList_store_M {w : World} {ops : Array Oper} {rest : List Oper} {op : Oper} {a : Act} {Q : Exit → Act → World → Prop} (hgd : op.guard = none) (x y : Operand) (ho : op.op = .store 106 x y) (b o : Nat) (q : (ByteArray × ByteArray)) (hx : a.eval x = .pointer (some ⟨b, o, none⟩)) (hy : a.eval y = .agg (memCells q).toArray) (ht : w.there b o 2)
    (h : wpList Try.prog ops Q rest (a.put op.dst undef) (w.setCells b o (memCells q))) : wpList Try.prog ops Q (op :: rest) a w :=
  wpList_store_mid hgd 106 x y ho b o (memCells q).toArray hx hy (by simpa [lenM] using ht) (by rw [sizeM]; simp [lenM]) (oneM q) (by simpa using h)
theorem wpList_new_M {w : World} {ops : Array Oper} {rest : List Oper} {op : Oper} {a : Act} {Q : Exit → Act → World → Prop} (hgd : op.guard = none) (x y : Operand) (ho : op.op = .store 106 x y) (q : (ByteArray × ByteArray)) (hx : a.eval x = .pointer (some ⟨w.heap.size, 0, none⟩)) (hy : a.eval y = .agg (memCells q).toArray)
    (h : wpList Try.prog ops Q rest (a.put op.dst undef) (w.alloc (.cells (memCells q).toArray 106))) : wpList Try.prog ops Q (op :: rest) a (w.alloc (.cells #[.string ⟨#[]⟩, .string ⟨#[]⟩] 106)) :=
  wpList_store_new hgd 106 x y ho #[.string ⟨#[]⟩, .string ⟨#[]⟩] (memCells q).toArray 106 hx hy (by rw [sizeM]; simp [lenM]) (by simp [lenM]) (oneM q) h

set_option maxRecDepth 100000 in
set_option maxHeartbeats 1000000 in
theorem closure_M (w : World) (R : Nat) (x r : (ByteArray × ByteArray)) (hR : Whole w R 106 (memCells r)) :
    Calls Try.prog 55 #[.agg (memCells x).toArray, .pointer (some ⟨R, 0, none⟩)] w fun e w' => e = .returned (.bool (eqM x r)) ∧ Below w.heap.size w w' := by
  obtain ⟨role, who⟩ := x
  obtain ⟨srole, swho⟩ := r
  have hBA : Below w.heap.size w (w.alloc (.cells #[.string role, .string who] 106)) := (Below.refl _ _).alloc (Nat.le_refl _) _
  have hX := Whole.new w 106 #[.string role, .string who]
  have hR0 := hR.alloc (.cells #[.string role, .string who] 106)
  replace hR0 : Whole (w.alloc (.cells #[.string role, .string who] 106)) R 106 [.string srole, .string swho] := hR0
  obtain ⟨a, ha⟩ : ∃ a, eqM ⟨role, who⟩ ⟨srole, swho⟩ = a := ⟨_, rfl⟩
  have hq : ∀ w, (Op.equalIn 10000 106 (.agg #[.string role, .string who]) (.agg #[.string srole, .string swho])).run Try.prog w = .ok a w := fun w => by
    rw [← ha]
    exact eql_mem w _ _ _ _
  have hgd : Try.prog.eqGuardType Try.prog.depth 106 = false := by kernel_rfl
  have x0 := hX.cell 0
  have r0 := hR0.cell 0
  have x1 := hX.cell 1
  have r1 := hR0.cell 1
  rw [ha]
  clear hX hR0 ha hR
  generalize hw : (w.alloc (.cells #[.string role, .string who] 106)) = w0 at *
  show Calls Try.prog 55 #[.agg #[.string role, .string who], .pointer (some ⟨R, 0, none⟩)] w _
  go_enter Try.func55, Try.ntmps55
  go_wp2_with (refine wpList_box_cells (by rfl) 106 _ (by rfl) #[.string role, .string who] (by rfl) ?_; rw [hw])
  go_ret
  exact ⟨rfl, hBA⟩

set_option maxRecDepth 100000 in
set_option maxHeartbeats 2000000 in
theorem indexfunc_M (w : World) (B R : Nat) (v : Value) (l : List (ByteArray × ByteArray)) (r : (ByteArray × ByteArray)) (hv : OwnM w B v l) (hR : Whole w R 106 (memCells r)) (hlen : l.length ≤ 1000) :
    Calls Try.prog 91 #[v, .func (.func 55) #[] #[.pointer (some ⟨R, 0, none⟩)]] w fun e w' => ∃ i : Int, e = .returned (.int .i64 i) ∧ ((i = -1 ∧ ∀ x ∈ l, eqM x r = false) ∨ ∃ k : Nat, i = k ∧ k < l.length ∧ (∃ x, l[k]? = some x ∧ eqM x r = true) ∧ ∀ j x, j < k → l[j]? = some x → eqM x r = false) ∧ Below w.heap.size w w' := by
  obtain ⟨N, hN⟩ : ∃ N, l.length = N := ⟨_, rfl⟩
  obtain ⟨p, c, hp⟩ := slice_of_row hv
  rw [hN] at hp hlen
  subst hp
  have HN := Lib.hid hN
  have HV := Lib.hid hv
  have HR := Lib.hid hR
  have eg : ∀ args w, (callFunc 55 args).run Try.prog w = .ok (.enter 55 args) w := enters_of Try.func55 (by kernel_rfl) rfl
  clear hN hv hR
  go_enter Try.func91, Try.ntmps91
  go_wp2
  go_loopw [8] (fun i wr => ∃ k : Nat, k ≤ N ∧ i = .int .i64 k ∧ (∀ j x, j < k → l[j]? = some x → eqM x r = false) ∧ Below w.heap.size w wr) (fun i _ => N - (intOf i).toNat)
  case atStart => exact ⟨0, by omega, rfl, fun j x hj => absurd hj (Nat.not_lt_zero _), Below.refl _ _⟩
  case round =>
    obtain ⟨k, hkN, rfl, hno, hB⟩ := hrel
    by_cases hlt : k < N
    · obtain ⟨x, hx⟩ : ∃ x, l[k]? = some x := ⟨_, List.getElem?_eq_getElem (by rw [HN.out]; exact hlt)⟩
      obtain ⟨g, rfl, hrng⟩ := own_at lenM (row_low HV.out hB) hx
      have i1 : (k : Int) < (N : Int) := by omega
      have i2 : 0 ≤ (k : Int) ∧ (k : Int) < (N : Int) := by omega
      have b2 : IntKind.i64.wrap ((k : Int) + 1) = (k : Int) + 1 := IntWalk.i64_in _ (by omega)
      obtain ⟨a, ha⟩ : ∃ a, eqM x r = a := ⟨_, rfl⟩
      have HCL := Lib.hid (ha ▸ closure_M wr R x r (HR.out.below hB HR.out.lt))
      have HX := Lib.hid (And.intro hx ha)
      have HNO := Lib.hid hno
      clear hx ha hno
      cases a
      · go_wp2_with (first
          | (refine wpList_load_M (by rfl) _ (by rfl) g (k * 2) (by rfl) x hrng ?_)
          | (go_at_fn 55; refine HCL.out.mono ?_; rintro e w2 ⟨rfl, hB2⟩))
        go_roundw
        case rel => exact ⟨k + 1, by omega, by go_num, fun j y hj hy => by
          by_cases hjk : j = k
          · subst hjk
            rw [HX.out.1] at hy
            injection hy with hy
            exact hy ▸ HX.out.2
          · exact HNO.out j y (by omega) hy, hB.trans (hB2.mono hB.size)⟩
        case measure => simp [intOf]; omega
      · go_wp2_with (first
          | (refine wpList_load_M (by rfl) _ (by rfl) g (k * 2) (by rfl) x hrng ?_)
          | (go_at_fn 55; refine HCL.out.mono ?_; rintro e w2 ⟨rfl, hB2⟩))
        go_ret
        exact ⟨k, rfl, .inr ⟨k, rfl, by rw [HN.out]; exact hlt, ⟨x, HX.out.1, HX.out.2⟩, HNO.out⟩, hB.trans (hB2.mono hB.size)⟩
    · obtain rfl : k = N := by omega
      have i1 : ¬ (k : Int) < (k : Int) := by omega
      have hall : ∀ x ∈ l, eqM x r = false := fun x hx => by
        obtain ⟨j, hj⟩ := List.mem_iff_getElem?.1 hx
        exact hno j x (by have := (List.getElem?_eq_some_iff.1 hj).1; rw [HN.out] at this; exact this) hj
      go_wp2
      go_ret
      exact ⟨-1, rfl, .inl ⟨rfl, fun a b h => hall (a, b) h⟩, hB⟩

/-- While the row is filtered. -/
structure DelM (w wr : World) (g R cap : Nat) (l : List (ByteArray × ByteArray)) (r : (ByteArray × ByteArray)) (ls : List (ByteArray × ByteArray)) : Prop where
  row : RowG memCells 2 wr g ls
  whole : ∃ cur, Whole wr g 106 cur ∧ cur.length = cap * 2
  held : Whole wr R 106 (memCells r)
  only : Only w wr fun i => i = g
theorem DelM.on {w wr w' : World} {g R cap : Nat} {l : List (ByteArray × ByteArray)} {r : (ByteArray × ByteArray)} {ls : List (ByteArray × ByteArray)} (h : DelM w wr g R cap l r ls) (hb : Below wr.heap.size wr w') : DelM w w' g R cap l r ls := by
  obtain ⟨cur, hW, hc⟩ := h.whole
  exact ⟨h.row.below hb hW.lt, ⟨cur, hW.below hb hW.lt, hc⟩, h.held.below hb h.held.lt, (h.only.trans (Only.of_below hb fun _ => False)).weak fun _ _ h => h.elim id False.elim⟩
theorem DelM.set {w wr : World} {g R cap i : Nat} {l : List (ByteArray × ByteArray)} {r : (ByteArray × ByteArray)} {ls : List (ByteArray × ByteArray)} (h : DelM w wr g R cap l r ls) (hR : g ≠ R) (hi : i < ls.length) (x : (ByteArray × ByteArray)) : DelM w (wr.setCells g (i * 2) (memCells x)) g R cap l r (ls.set i x) := by
  obtain ⟨cur, hW, hc⟩ := h.whole
  obtain ⟨cur', hW', hc'⟩ := whole_setCells (memCells x) (i * 2) hW
  have ho := only_setCells g (memCells x) (i * 2) wr
  exact ⟨h.row.set lenM hi x, ⟨cur', hW', hc'.trans hc⟩, h.held.only ho (Ne.symm hR), (h.only.trans ho).weak fun _ _ h => h.elim id id⟩

set_option maxRecDepth 100000 in
set_option maxHeartbeats 4000000 in
/-- DeleteFunc of a row that holds the element. -/
theorem deletefunc_M (w : World) (B R g : Nat) (v : Value) (l : List (ByteArray × ByteArray)) (r : (ByteArray × ByteArray)) (hv : OwnM w B v l) (hg : v.ownBlock = some g) (hR : Whole w R 106 (memCells r)) (hgR : g ≠ R) (hlen : l.length ≤ 1000) (hin : ∃ x ∈ l, eqM x r = true) :
    Calls Try.prog 54 #[v, .func (.func 55) #[] #[.pointer (some ⟨R, 0, none⟩)]] w fun e w' => ∃ v', e = .returned v' ∧ OwnM w' B v' (l.filter fun x => !eqM x r) ∧ v'.ownBlock = some g ∧ Only w w' fun i => i = g := by
  obtain ⟨N, hN⟩ : ∃ N, l.length = N := ⟨_, rfl⟩
  have IDX := Lib.hid (indexfunc_M w B R v l r hv hR hlen)
  obtain ⟨cap, cur, hp, hBg, hW, hcap, hmax, hcl⟩ := own_full hv hg
  have hD0 : DelM w w g R cap l r l := ⟨own_rowG lenM (by rw [hp] at hv; exact hv), ⟨cur, hW, hcl⟩, hR, Only.of_below (Below.refl _ _) _⟩
  rw [hN] at hp hlen hcap
  subst hp
  have HN := Lib.hid hN
  have HIN := Lib.hid hin
  have eg : ∀ args w, (callFunc 55 args).run Try.prog w = .ok (.enter 55 args) w := enters_of Try.func55 (by kernel_rfl) rfl
  have HD0 := Lib.hid hD0
  clear hN hv hR hW hcl hin hD0
  go_enter Try.func54, Try.ntmps54
  go_wp2_with (go_at_call 91; (refine IDX.out.mono ?_; rintro e w1 ⟨i0, rfl, hi, hB1⟩; obtain ⟨k0, rfl, hk0, hx0, hn0⟩ : ∃ k : Nat, i0 = k ∧ k < l.length ∧ (∃ x, l[k]? = some x ∧ eqM x r = true) ∧ ∀ j x, j < k → l[j]? = some x → eqM x r = false := hi.elim (fun h => by
    obtain ⟨x, hx, hq⟩ := HIN.out
    exact absurd hq (by rw [h.2 x hx]; simp)) id; have hne : ¬ (k0 : Int) = -1 := (by omega)))
  rw [HN.out] at hk0
  have b0 : wrap64 ((k0 : Int) + 1) = (k0 : Int) + 1 := by
    unfold wrap64
    omega
  generalize ((k0 : Int) == -1) = c0
  generalize wrap64 ((k0 : Int) + 1) = z0 at b0 ⊢
  have HZ := Lib.hid b0
  clear b0
  obtain ⟨x0, hx0, hq0⟩ := hx0
  have HF0 := Lib.hid (Filt.start hx0 hq0 hn0)
  have HD1 := Lib.hid (HD0.out.on hB1)
  clear hx0 hq0 hn0 hi
  go_loopw [5, 6] (fun a b wr => ∃ (i j : Nat) (ls : List (ByteArray × ByteArray)), a = .int .i64 i ∧ b = .int .i64 j ∧ j ≤ N ∧ Filt (fun x => eqM x r) l ls i j ∧ DelM w wr g R cap l r ls) (fun _ b _ => N - (intOf b).toNat)
  case atStart => exact ⟨k0, k0 + 1, l, rfl, by rw [HZ.out]; rfl, by omega, HF0.out, HD1.out⟩
  case round =>
    obtain ⟨i, j, ls, rfl, rfl, hjN, hF, hD⟩ := hrel
    clear HF0 HD1 IDX HD0
    have hij := hF.lt
    have hll : ls.length = N := hF.len.trans HN.out
    by_cases hlt : j < N
    · obtain ⟨x, hx⟩ : ∃ x, l[j]? = some x := ⟨_, List.getElem?_eq_getElem (by rw [HN.out]; exact hlt)⟩
      have hxs := (hF.rest j (Nat.le_refl _)).trans hx
      have hrng := (hD.row j x hxs).1
      have i1 : (j : Int) < (N : Int) := by omega
      have i2 : 0 ≤ (j : Int) ∧ (j : Int) < (N : Int) := by omega
      have i3 : 0 ≤ (i : Int) ∧ (i : Int) < (N : Int) := by omega
      have b2 : IntKind.i64.wrap ((j : Int) + 1) = (j : Int) + 1 := IntWalk.i64_in _ (by omega)
      have b3 : IntKind.i64.wrap ((i : Int) + 1) = (i : Int) + 1 := IntWalk.i64_in _ (by omega)
      obtain ⟨q, hq⟩ : ∃ q, eqM x r = q := ⟨_, rfl⟩
      have hBA : Below wr.heap.size wr (wr.alloc (.cells (memCells x).toArray 106)) := (Below.refl _ _).alloc (Nat.le_refl _) _
      have hWX := Whole.new wr 106 (memCells x).toArray
      have hDA := hD.on hBA
      have HCL := Lib.hid (hq ▸ closure_M (wr.alloc (.cells (memCells x).toArray 106)) R x r hDA.held)
      have HX := Lib.hid (And.intro hx hq)
      have HF := Lib.hid hF
      have HD := Lib.hid hDA
      have HW := Lib.hid hWX
      have hld := whole_rangeG hWX
      clear hx hxs hq hF hD hDA hWX hBA
      cases q
      · go_wp2_with (first
          | (refine wpList_store_M (by rfl) _ _ (by rfl) g (i * 2) x (by rfl) (by rfl) hth2 ?_; have hD3 := hD2.set hgR (show i < ls.length by omega) x; generalize (w2.setCells g (i * 2) (memCells x)) = w3 at hD3 ⊢)
          | (refine wpList_load_M (by rfl) _ (by rfl) wr.heap.size 0 (by rfl) x hld2 ?_)
          | (go_at_fn 55; refine HCL.out.mono ?_; rintro e w2 ⟨rfl, hB2⟩; have hld2 := whole_rangeG (HW.out.below hB2 HW.out.lt); have hD2 := HD.out.on hB2; obtain ⟨y, hy⟩ : ∃ y, ls[i]? = some y := ⟨_, List.getElem?_eq_getElem (by omega)⟩; have hth2 := (hD2.row i y hy).2; clear hy)
          | (refine wpList_load_M (by rfl) _ (by rfl) wr.heap.size 0 (by rfl) x hld ?_)
          | (refine wpList_load_M (by rfl) _ (by rfl) g (j * 2) (by rfl) x hrng ?_)
          | (refine wpList_alloc_row (by rfl) 106 (by rfl) _ _ infoM ?_)
          | (refine wpList_new_M (by rfl) _ _ (by rfl) x (by rfl) (by rfl) ?_))
        go_roundw
        case rel => exact ⟨i + 1, j + 1, ls.set i x, by go_num, by go_num, by omega, HF.out.keep HX.out.1 HX.out.2, hD3⟩
        case measure => simp [intOf]; omega
      · go_wp2_with (first
          | (go_at_fn 55; refine HCL.out.mono ?_; rintro e w2 ⟨rfl, hB2⟩; have hD2 := HD.out.on hB2)
          | (refine wpList_load_M (by rfl) _ (by rfl) wr.heap.size 0 (by rfl) x hld ?_)
          | (refine wpList_load_M (by rfl) _ (by rfl) g (j * 2) (by rfl) x hrng ?_)
          | (refine wpList_alloc_row (by rfl) 106 (by rfl) _ _ infoM ?_)
          | (refine wpList_new_M (by rfl) _ _ (by rfl) x (by rfl) (by rfl) ?_))
        go_roundw
        case rel => exact ⟨i, j + 1, ls, rfl, by go_num, by omega, HF.out.skip HX.out.1 HX.out.2, hD2⟩
        case measure => simp [intOf]; omega
    · obtain rfl : j = N := by omega
      have i1 : ¬ (j : Int) < (j : Int) := by omega
      have i3 : 0 ≤ (i : Int) ∧ (i : Int) ≤ (j : Int) := by omega
      have hth : wr.there g (i * 2) ((j - i) * 2) := fun t ht => by
        obtain ⟨cur, hW, hc⟩ := hD.whole
        have hlt2 : i * 2 + t < cur.length := by omega
        exact ⟨by rw [hW.cell, List.getElem?_eq_getElem hlt2]; rfl, hW.free _⟩
      have hcl : ∀ ty, (Builtin.clear_ #[99] ty #[.slice (some ⟨g, i * 2, none⟩) (j - i) (cap - i)]).run Try.prog wr = .ok (.tuple #[]) (wr.setCells g (i * 2) (Builtin.zeroCells #[.string ⟨#[]⟩, .string ⟨#[]⟩] (j - i)).toList) := fun ty =>
        run_clear_rows (n := 2) wr _ 106 ty (.agg #[.string ⟨#[]⟩, .string ⟨#[]⟩]) Try.underlying99 (fun w => by kernel_rfl) rfl (by decide) (by intro v hv; simp [Value.cells] at hv; rcases hv with rfl | rfl <;> rfl) g (i * 2) (j - i) (cap - i) (by omega) hth
      clear hth
      go_wp2
      go_ret
      obtain ⟨cur, hW, hc⟩ := hD.whole
      obtain ⟨cur', hW', hc'⟩ := whole_setCells (Builtin.zeroCells #[.string ⟨#[]⟩, .string ⟨#[]⟩] (j - i)).toList (i * 2) hW
      have hfin := hF
      rw [← HN.out] at hfin
      have hl2 : (l.filter fun x => !eqM x r).length = i := by
        rw [← hfin.end_, List.length_take, hll]
        omega
      have hrow := hD.row.front lenM i (Builtin.zeroCells #[.string ⟨#[]⟩, .string ⟨#[]⟩] (j - i)).toList
      rw [hfin.end_] at hrow
      have hown := own_of (B := B) lenM hW' (hc'.trans hc) hBg (by rw [hl2]; omega) hmax hrow
      rw [hl2] at hown
      refine ⟨_, rfl, ?_, rfl, (hD.only.trans (only_setCells g _ _ wr)).weak fun _ _ h => h.elim id id⟩
      unfold OwnM
      rw [hl2]
      exact hown

end Go.Proofs.Ytglcingpolpkdaa
