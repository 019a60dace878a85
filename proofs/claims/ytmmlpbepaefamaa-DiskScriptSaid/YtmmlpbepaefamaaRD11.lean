/- The document's disk: Crash. -/
import Derived.Test.YtmmlpbepaefamaaRD10
namespace Go.Proofs.Ytmmlpbepaefamaa
open Go.RowKit

/-- What the keeps say of a file. -/
def rawK (ks : List Kp) (s : ByteArray) : Int × Int := match ks.find? (isK s) with
  | some k => (k.ops, k.bytes)
  | none => (0, 0)
theorem rawK_keep (ks : List Kp) (s : ByteArray) : keepOf ks s = (max (rawK ks s).1 0, max (rawK ks s).2 0) := by
  unfold keepOf rawK
  cases ks.find? (isK s) <;> rfl
theorem rawK_drop (ks : List Kp) (s : ByteArray) (j : Nat) (k : Kp) (h : ks[j]? = some k) : rawK (ks.drop j) s = if isK s k = true then (k.ops, k.bytes) else rawK (ks.drop (j + 1)) s := by
  obtain ⟨h1, h2⟩ := List.getElem?_eq_some_iff.1 h
  have e : ks.drop j = k :: ks.drop (j + 1) := by rw [← h2]; exact List.drop_eq_getElem_cons h1
  rw [e]
  unfold rawK
  rw [List.find?_cons]
  cases hk : isK s k <;> simp
theorem crashF_append (ks : List Kp) : ∀ A B : Fs, crashF ks (A ++ B) = crashF ks A ++ crashF ks B
  | [], _ => rfl
  | x :: A, B => by
    show (if _ then _ else _) ++ crashF ks (A ++ B) = ((if _ then _ else _) ++ crashF ks A) ++ crashF ks B
    rw [crashF_append ks A B, List.append_assoc]
/-- How many bytes of the operation that stands behind are kept. -/
def crashP (f : Dfile) (x y : Int) : Nat := match f.ops[crashK f x]? with
  | some (.add b) => min y.toNat b.length
  | _ => 0
theorem crashB_eq (f : Dfile) (x y : Int) : crashB f x y = (!f.fresh || decide (0 < crashK f x) || decide (0 < crashP f x y)) := by
  unfold crashB crashP
  rw [Bool.or_assoc]
  congr 2
  cases hh : f.ops[crashK f x]? with
  | none => simp
  | some o => cases o <;> simp
def isAdd : Option Dop → Bool
  | some (.add _) => true
  | _ => false
/-- A row of keeps, one of them. -/
theorem keeps_at {w : World} {p : Option Addr} {n c k : Nat} {ks : List Kp} {x : Kp} (h : KeepsAt w (.slice p n c) ks) (hx : ks[k]? = some x) : ∃ g o, p = some ⟨g, o, none⟩ ∧ w.rangeAt g (o + k * 3) x.cells := by
  rcases h with ⟨rfl, _⟩ | ⟨g, o, c', he, _, hr⟩
  · simp at hx
  · injection he with he
    exact ⟨g, o, he, hr k x hx⟩
theorem keeps_len {w : World} {v : Value} {ks : List Kp} (h : KeepsAt w v ks) : ∃ p c, v = .slice p ks.length c := by
  rcases h with ⟨rfl, a, c, rfl⟩ | ⟨g, o, c, rfl, _⟩
  · exact ⟨_, _, rfl⟩
  · exact ⟨_, _, rfl⟩

set_option maxRecDepth 100000 in
set_option maxHeartbeats 4000000 in
theorem rcrash_calls (w : World) (B m n : Nat) (T : Nat → Prop) (fv rv : Value) (l : List Rx) (rl : List Int) (h : RD w B m T fv rv l rl n) (hl : l.length ≤ 1000) (v : Value) (kp : List Kp) (hv : KeepsAt w v kp) (hkl : kp.length ≤ 1000000) (hol : ∀ x ∈ l, x.f.ops.length ≤ 90000) :
    Calls Try.prog 61 #[.pointer (some ⟨m, 0, none⟩), v] w fun e w' => e = .returned (.tuple #[]) ∧ RX w w' B m T (crashF kp (viewX l)) rl n := by
  obtain ⟨fa, fc, hfv⟩ := slice_of_row h.row
  obtain ⟨N, hN⟩ : ∃ k, l.length = k := ⟨_, rfl⟩
  rw [hN] at hfv hl
  subst hfv
  obtain ⟨ka, kc, rfl⟩ := keeps_len hv
  obtain ⟨K, hK⟩ : ∃ k, kp.length = k := ⟨_, rfl⟩
  rw [hK] at hv hkl ⊢
  have HK := Lib.hid (And.intro hK hv)
  have HN := Lib.hid hN
  have H := Lib.hid h
  have HOL := Lib.hid hol
  have c0 := h.box.cell 0
  have HB0 := Lib.hid (show B ≤ w.heap.size from by have := h.old m h.tm; omega)
  clear h hN hK hv hol
  go_enter Try.func61, Try.ntmps61
  go_wp2
  clear c0
  go_loopw [4, 5] (fun x i wr => ∃ (k : Nat) (ua : Option Addr) (un uc : Nat) (q : List Rx), k ≤ N ∧ i = .int .i64 k ∧ x = .slice ua un uc ∧ wr.ownsRow w.heap.size 116 4 (.slice ua un uc) q.length (q.flatMap Rx.cells) ∧ viewX q = crashF kp (viewX (l.take k)) ∧ q.length ≤ k ∧ (∀ x ∈ q, RxAt wr B (TX T w.heap.size wr.heap.size) x) ∧ Below w.heap.size w wr) (fun _ i _ => N - (intOf i).toNat)
  case atStart => exact ⟨0, none, 0, 0, [], by omega, rfl, rfl, World.ownsRow_nil w _ _ _, rfl, Nat.zero_le _, (fun x hx => by cases hx), Below.refl _ _⟩
  case round =>
    obtain ⟨k, ua, un, uc, q, hk, rfl, rfl, hO, hq, hqk, he, hB⟩ := hrel
    obtain ⟨w0, rfl⟩ : ∃ w0, w0 = wr := ⟨_, rfl⟩
    have hR := H.out.low hB
    have c0 := hR.box.cell 0
    by_cases hlt : k < N
    · obtain ⟨x, hx⟩ : ∃ x, l[k]? = some x := ⟨_, List.getElem?_eq_getElem (by rw [HN.out]; exact hlt)⟩
      obtain ⟨g, rfl, hr⟩ := own_atX hR.row hx
      have hxa := hR.each x (List.mem_of_getElem? hx)
      have i1 : (k : Int) < (N : Int) := by omega
      have i2 : 0 ≤ (k : Int) ∧ (k : Int) < (N : Int) := by omega
      have s2 : IntKind.i64.wrap ((k : Int) + 1) = (k : Int) + 1 := IntWalk.i64_in _ (by omega)
      have hxl := HOL.out x (List.mem_of_getElem? hx)
      have HQ := Lib.hid (And.intro hq (And.intro hqk (And.intro he hO)))
      have HX := Lib.hid (And.intro hx hxl)
      clear hq hqk he hO hx hxl
      go_upto_region 5 with (first
        | (refine wpList_load_X (by rfl) _ (by rfl) g (k * 4) (by rfl) x hr ?_)
        | (refine wpList_store_Xnew (by rfl) _ _ (by rfl) x (by rfl) (by rfl) hxa.one ?_)
        | fail)
      have b1 : Below w0.heap.size w0 (w0.alloc (.cells x.cells.toArray 116)) := (Below.refl _ _).alloc (Nat.le_refl _) _
      have hX := Whole.new w0 116 x.cells.toArray
      replace hX : Whole _ w0.heap.size 116 x.cells := hX
      obtain ⟨fb, hfb⟩ : ∃ b, w0.heap.size = b := ⟨_, rfl⟩
      rw [hfb] at hX ⊢
      have HW := Lib.hid (And.intro hfb b1)
      clear hfb c0 hr
      generalize w0.alloc (.cells x.cells.toArray 116) = w1 at hX HW ⊢
      have HX1 := Lib.hid hX
      have HXA := Lib.hid (hxa.low HW.out.2)
      clear hxa hX
      have z1 : IntKind.i64.wrap ((K : Int) - 1) = (K : Int) - 1 := IntWalk.i64_in _ (by omega)
      go_wp2
      clear z1
      go_loopw [7, 8, 9] (fun a b c w2 => ∃ j : Nat, j ≤ K ∧ a = .int .i64 (rawK (kp.drop j) x.name).1 ∧ b = .int .i64 (rawK (kp.drop j) x.name).2 ∧ c = .int .i64 ((j : Int) - 1) ∧ Below w1.heap.size w1 w2) (fun _ _ c _ => (intOf c + 1).toNat)
      case atStart => exact ⟨K, Nat.le_refl _, by rw [List.drop_of_length_le (Nat.le_of_eq HK.out.1)]; exact ⟨rfl, rfl, rfl, Below.refl _ _⟩⟩
      case round =>
        obtain ⟨j, hj, rfl, rfl, rfl, hB2⟩ := hrel
        have hB2w : Below w.heap.size w wr := (hB.trans (HW.out.2.mono hB.size)).trans (hB2.mono (Nat.le_trans hB.size HW.out.2.size))
        have hXw := HX1.out.below hB2 HX1.out.lt
        obtain ⟨A1, hA1⟩ : ∃ a, (rawK (kp.drop j) x.name).1 = a := ⟨_, rfl⟩
        obtain ⟨A2, hA2⟩ : ∃ a, (rawK (kp.drop j) x.name).2 = a := ⟨_, rfl⟩
        rw [hA1, hA2]
        have HA := Lib.hid (And.intro hA1 hA2)
        clear hA1 hA2
        by_cases hj0 : 0 < j
        · obtain ⟨i, rfl⟩ : ∃ i, j = i + 1 := ⟨j - 1, by omega⟩
          have ec : (((i + 1 : Nat) : Int) - 1) = (i : Int) := by omega
          rw [ec]
          obtain ⟨kx, hkx⟩ : ∃ kx, kp[i]? = some kx := ⟨_, List.getElem?_eq_getElem (by rw [HK.out.1]; omega)⟩
          obtain ⟨gk, ok, hka, hrk⟩ := keeps_at (HK.out.2.low hB2w) hkx
          have d0 := hrk 0 _ rfl
          simp only [Nat.add_zero] at d0
          have e0 : wr.cell? ⟨fb, 0, none⟩ = some (.string x.name) := hXw.cell 0
          have i5 : 0 ≤ (i : Int) := by omega
          have i6 : 0 ≤ (i : Int) ∧ (i : Int) < (K : Int) := by omega
          have s3 : IntKind.i64.wrap ((i : Int) - 1) = (i : Int) - 1 := IntWalk.i64_in _ (by omega)
          have HD := Lib.hid (And.intro hka (And.intro (rawK_drop kp x.name i kx hkx) ec))
          subst hka
          obtain ⟨t, ht⟩ : ∃ t, (kx.name.toList == x.name.toList) = t := ⟨_, rfl⟩
          have HT := Lib.hid (show isK x.name kx = t from ht)
          have hbd := (Below.refl wr.heap.size wr).drew
          have hB3 := hB2.trans (hbd.mono hB2.size)
          have d1 := (rangeAt_low hrk (by
            rcases HK.out.2.low hB2w with ⟨hn, _⟩ | ⟨g2, o2, c2, he2, hl2, _⟩
            · rw [hn] at hkx; cases hkx
            · injection he2 with he2; injection he2 with he2; injection he2 with he2; exact he2 ▸ hl2) hbd) 1 _ rfl
          have d2 := (rangeAt_low hrk (by
            rcases HK.out.2.low hB2w with ⟨hn, _⟩ | ⟨g2, o2, c2, he2, hl2, _⟩
            · rw [hn] at hkx; cases hkx
            · injection he2 with he2; injection he2 with he2; injection he2 with he2; exact he2 ▸ hl2) hbd) 2 _ rfl
          clear hrk hkx hXw hB2w hB2 hbd
          cases t
          · go_wp2
            go_still (by kernel_rfl)
            change Exit.then _ _ Exit.normal _ wr.drew
            generalize wr.drew = w3 at hB3 d1 d2 ⊢
            clear d0 e0 ht
            go_wp2
            go_roundw
            case rel => exact ⟨i, by omega, by (have e1 := HD.out.2.1; rw [HT.out, if_neg (by decide)] at e1; rw [e1]; exact ⟨by rw [HA.out.1], by rw [HA.out.2], by go_num, hB3⟩)⟩
            case measure => simp [intOf]
          · go_wp2
            go_still (by kernel_rfl)
            change Exit.then _ _ Exit.normal _ wr.drew
            generalize wr.drew = w3 at hB3 d1 d2 ⊢
            clear d0 e0 ht
            go_wp2
            go_roundw
            case rel => exact ⟨i, by omega, by (have e1 := HD.out.2.1; rw [HT.out, if_pos rfl] at e1; rw [e1]; exact ⟨rfl, rfl, by go_num, hB3⟩)⟩
            case measure => simp [intOf]
        · obtain rfl : j = 0 := by omega
          have ec : (((0 : Nat) : Int) - 1) = -1 := by omega
          rw [ec]
          clear ec hj hj0
          rw [List.drop_zero] at HA
          obtain ⟨oa, oc, hov⟩ := slice_of_row HXA.out.row
          obtain ⟨sa, sc, hsv⟩ := slice_of_row HXA.out.safe
          have hcnt : x.ops.length = x.f.ops.length := by rw [← HXA.out.ops]; simp
          obtain ⟨NO, hNO⟩ : ∃ n, x.f.ops.length = n := ⟨_, rfl⟩
          have e2 : wr.cell? ⟨fb, 2, none⟩ = some (.slice oa NO oc) := by
            have e := hXw.cell 2
            rw [← hNO, ← hcnt, ← hov]
            exact e
          have hNO9 : NO ≤ 90000 := by rw [← hNO]; exact HX.out.2
          have HNO := Lib.hid (And.intro hNO (And.intro hcnt (And.intro hov hsv)))
          clear hov hsv hcnt hNO
          obtain ⟨M, hM⟩ : ∃ M : Nat, max 0 (min A1 (NO : Int)) = (M : Int) := ⟨(max 0 (min A1 (NO : Int))).toNat, by omega⟩
          have hMN : M ≤ NO := by omega
          have HM := Lib.hid (show M = crashK x.f (keepOf kp x.name).1 by
            unfold crashK
            rw [rawK_keep, HA.out.1, HNO.out.1]
            show M = min (max A1 0).toNat NO
            omega)
          obtain ⟨w5, rfl⟩ : ∃ w5, w5 = wr := ⟨_, rfl⟩
          have HXA5 := Lib.hid (HXA.out.low hB2)
          have e1 : w5.cell? ⟨fb, 1, none⟩ = some (.slice sa x.f.safe.length sc) := by
            have e := hXw.cell 1
            rw [← HNO.out.2.2.2]
            exact e
          go_upto_region 13 with fail
          clear hM
          go_wp2
          clear e1 e2 hXw
          go_loopw [10, 11] (fun b c wr => ∃ (j : Nat) (va : Option Addr) (vn vc : Nat), j ≤ M ∧ b = .slice va vn vc ∧ c = .int .i64 j ∧ Own wr B (.slice va vn vc) (runOps x.f.safe (x.f.ops.take j)) ∧ Below w5.heap.size w5 wr) (fun _ c _ => M - (intOf c).toNat)
          case atStart => exact ⟨0, _, _, _, Nat.zero_le _, rfl, rfl, by rw [List.take_zero, ← HNO.out.2.2.2]; exact HXA5.out.safe, Below.refl _ _⟩
          case round =>
            obtain ⟨j, va, vn, vc, hj, rfl, rfl, hV, hB6⟩ := hrel
            have hX6 := (HX1.out.below hB2 HX1.out.lt).below hB6 (HX1.out.below hB2 HX1.out.lt).lt
            have e2 : wr.cell? ⟨fb, 2, none⟩ = some (.slice oa NO oc) := by
              have e := hX6.cell 2
              rw [← HNO.out.1, ← HNO.out.2.1, ← HNO.out.2.2.1]
              exact e
            have hx6 := HXA5.out.low hB6
            have hrow6 : wr.ownsRow B 120 3 (.slice oa x.ops.length oc) x.ops.length (x.ops.flatMap opC) := HNO.out.2.2.1 ▸ hx6.row
            have hBw5 : B ≤ w5.heap.size := Nat.le_trans HB0.out (Nat.le_trans hB.size (Nat.le_trans HW.out.2.size hB2.size))
            by_cases hlt2 : j < M
            · obtain ⟨p, hp⟩ : ∃ p, x.ops[j]? = some p := ⟨_, List.getElem?_eq_getElem (by rw [HNO.out.2.1, HNO.out.1]; omega)⟩
              obtain ⟨g2, hg2, hr2⟩ := own_at opC_length hrow6 hp
              subst hg2
              have ho := hx6.each p (List.mem_of_getElem? hp)
              have hok : x.f.ops[j]? = some p.1 := by
                rw [← HXA5.out.ops, List.getElem?_map, hp]
                rfl
              have i3 : (j : Int) < (M : Int) := by omega
              have i4 : 0 ≤ (j : Int) ∧ (j : Int) < (NO : Int) := by omega
              have b2 : IntKind.i64.wrap ((j : Int) + 1) = (j : Int) + 1 := IntWalk.i64_in _ (by omega)
              have hst := runOps_step x.f.safe x.f.ops j _ hok
              have hmx := (okOps_at x.f.ops x.f.safe j _ HXA5.out.okf.2 hok)
              have hml := okOps_len _ _ HXA5.out.okf.1 (okOps_take x.f.ops x.f.safe j HXA5.out.okf.2)
              obtain ⟨X, hX⟩ : ∃ z, runOps x.f.safe (x.f.ops.take j) = z := ⟨_, rfl⟩
              rw [hX] at hst hV hml
              have HST := Lib.hid (And.intro hst (And.intro hmx.2 hml))
              clear hX hp hok hst hmx hml hx6 hrow6 hX6
              have c0 := hr2 0
              have c1 := hr2 1
              have c2 := hr2 2
              obtain ⟨o, bv⟩ := p
              have hge := Nat.le_trans hBw5 hB6.size
              cases o with
              | add b =>
                have hbo : SliceIs wr bv b := Own.slice (show Own wr B bv b from ho)
                obtain ⟨ba, bc, hbv⟩ := slice_of_row (show Own wr B bv b from ho)
                subst hbv
                have c0 := c0 _ rfl
                have c1 := c1 _ rfl
                have c2 := c2 _ rfl
                simp only [Nat.add_zero] at c0
                have HDN := Lib.hid (rdone_add wr _ _ X b hV.slice hbo (by have := HST.out.2.2; omega) (by have h1 := HST.out.2.1; rw [HST.out.1] at h1; simp [Dop.run] at h1; omega))
                clear hr2 ho hV hbo
                go_wp2_with (first
                  | (go_at_call 83; refine HDN.out.mono ?_; rintro e w8 ⟨_, rfl, ⟨a4, n4, c4, rfl⟩, O4, b4⟩)
                  | fail)
                go_roundw
                case rel => exact ⟨j + 1, _, _, _, by omega, rfl, by go_num, by rw [HST.out.1]; exact own_down hge O4, hB6.trans (b4.mono hB6.size)⟩
                case measure => simp [intOf]; omega
              | cut z =>
                have hbv : bv = .slice Option.none 0 0 := ho
                subst hbv
                have c0 := c0 _ rfl
                have c1 := c1 _ rfl
                have c2 := c2 _ rfl
                simp only [Nat.add_zero] at c0
                have HDN := Lib.hid (rdone_cut wr _ X z hV.slice hV.roomy (by have := HST.out.2.2; omega))
                clear hr2 ho hV
                go_wp2_with (first
                  | (go_at_call 83; refine HDN.out.mono ?_; rintro e w8 ⟨_, rfl, ⟨a4, n4, c4, rfl⟩, O4, b4⟩)
                  | fail)
                go_roundw
                case rel => exact ⟨j + 1, _, _, _, by omega, rfl, by go_num, by rw [HST.out.1]; exact own_down hge O4, hB6.trans (b4.mono hB6.size)⟩
                case measure => simp [intOf]; omega
            · obtain rfl : j = M := by omega
              have i3 : ¬ (j : Int) < (j : Int) := by omega
              obtain ⟨w6, rfl⟩ : ∃ w6, w6 = wr := ⟨_, rfl⟩
              go_upto_region 19 with fail
              obtain ⟨X1, hX1⟩ : ∃ z, (keepOf kp x.name).1 = z := ⟨_, rfl⟩
              obtain ⟨X2, hX2⟩ : ∃ z, (keepOf kp x.name).2 = z := ⟨_, rfl⟩
              have HX2 := Lib.hid (show X2 = max A2 0 by rw [← hX2, rawK_keep, ← HA.out.2])
              rw [hX1] at HM
              have HXX := Lib.hid (And.intro hX1 hX2)
              clear hX1 hX2 hlt2
              have hlenS := okOps_len _ _ HXA5.out.okf.1 (okOps_take x.f.ops x.f.safe j HXA5.out.okf.2)
              have HCUT := Lib.hid (And.intro hV (And.intro hB6 (And.intro hlenS hX6)))
              obtain ⟨ad, had⟩ : ∃ ad, isAdd x.f.ops[j]? = ad := ⟨_, rfl⟩
              have HAD := Lib.hid had
              clear had
              go_cut [87] (fun v wq => v = .bool ad ∧ w6 = wq)
              case first =>
                cases hop : x.f.ops[j]? with
                | none =>
                  have i4 : ¬ (j : Int) < (NO : Int) := by
                    have := List.getElem?_eq_none_iff.1 hop
                    rw [HNO.out.1] at this
                    omega
                  have HP := Lib.hid (show ad = false by rw [← HAD.out, hop]; rfl)
                  clear hop hV hrow6 hx6
                  go_wp2
                  go_meet
                  exact ⟨by rw [HP.out] <;> rfl, rfl⟩
                | some o =>
                  have hjl := (List.getElem?_eq_some_iff.1 hop).1
                  rw [HNO.out.1] at hjl
                  obtain ⟨p, hp⟩ : ∃ p, x.ops[j]? = some p := ⟨_, List.getElem?_eq_getElem (by rw [HNO.out.2.1, HNO.out.1]; exact hjl)⟩
                  have hpo : p.1 = o := by
                    have e := hop
                    rw [← HXA5.out.ops, List.getElem?_map, hp] at e
                    exact Option.some.inj e
                  obtain ⟨g2, hg2, hr2⟩ := own_at opC_length hrow6 hp
                  subst hg2
                  have i4 : (j : Int) < (NO : Int) := by omega
                  have i5 : 0 ≤ (j : Int) ∧ (j : Int) < (NO : Int) := by omega
                  obtain ⟨o', bv⟩ := p
                  obtain rfl : o' = o := hpo
                  have c0 := hr2 0
                  cases o' with
                  | cut z =>
                    have c0 := c0 _ rfl
                    simp only [Nat.add_zero] at c0
                    have HP := Lib.hid (show ad = false by rw [← HAD.out, hop]; rfl)
                    clear hop hV hrow6 hx6 hr2 hp
                    go_wp2
                    go_meet
                    exact ⟨by rw [HP.out] <;> rfl, rfl⟩
                  | add b =>
                    have c0 := c0 _ rfl
                    simp only [Nat.add_zero] at c0
                    have HP := Lib.hid (show ad = true by rw [← HAD.out, hop]; rfl)
                    clear hop hV hrow6 hx6 hr2 hp
                    go_wp2
                    go_meet
                    exact ⟨by rw [HP.out] <;> rfl, rfl⟩
              case rest =>
              obtain ⟨rfl, rfl⟩ := hcut
              go_upto_if 87 with fail
              go_cut [10, 12] (fun b c wq => ∃ (za : Option Addr) (zn zc : Nat), b = .slice za zn zc ∧ c = .int .i64 (crashP x.f X1 X2) ∧ Own wq B (.slice za zn zc) (crashS x.f X1 X2) ∧ Below w5.heap.size w5 wq)
              case first =>
                cases ad with
                | false =>
                  have HP := Lib.hid (show crashP x.f X1 X2 = 0 ∧ crashS x.f X1 X2 = runOps x.f.safe (x.f.ops.take j) by
                    have h2 := HAD.out
                    unfold crashP crashS
                    rw [← HM.out]
                    unfold isAdd at h2
                    cases hop : x.f.ops[j]? with
                    | none => exact ⟨rfl, rfl⟩
                    | some o =>
                      cases o with
                      | cut z => exact ⟨rfl, rfl⟩
                      | add b => rw [hop] at h2; cases h2)
                  clear hV hrow6 hx6
                  go_wp2
                  go_meet
                  exact ⟨_, _, _, rfl, by rw [HP.out.1] <;> rfl, by rw [HP.out.2]; exact HCUT.out.1, hB6⟩
                | true =>
                  obtain ⟨b, hop⟩ : ∃ b, x.f.ops[j]? = some (.add b) := by
                    have h2 := HAD.out
                    unfold isAdd at h2
                    cases hop : x.f.ops[j]? with
                    | none => rw [hop] at h2; cases h2
                    | some o =>
                      cases o with
                      | cut z => rw [hop] at h2; cases h2
                      | add b => exact ⟨b, rfl⟩
                  have hjl := (List.getElem?_eq_some_iff.1 hop).1
                  rw [HNO.out.1] at hjl
                  obtain ⟨p, hp⟩ : ∃ p, x.ops[j]? = some p := ⟨_, List.getElem?_eq_getElem (by rw [HNO.out.2.1, HNO.out.1]; exact hjl)⟩
                  have hpo : p.1 = .add b := by
                    have e := hop
                    rw [← HXA5.out.ops, List.getElem?_map, hp] at e
                    exact Option.some.inj e
                  obtain ⟨g2, hg2, hr2⟩ := own_at opC_length hrow6 hp
                  subst hg2
                  have ho := hx6.each p (List.mem_of_getElem? hp)
                  have i5 : 0 ≤ (j : Int) ∧ (j : Int) < (NO : Int) := by omega
                  obtain ⟨o', bv⟩ := p
                  obtain rfl : o' = .add b := hpo
                  have hbo : SliceIs w6 bv b := Own.slice (show Own w6 B bv b from ho)
                  obtain ⟨ba, bc, hbv⟩ := slice_of_row (show Own w6 B bv b from ho)
                  subst hbv
                  have hcap := row_cap (show Own w6 B _ b from ho)
                  have c2 := hr2 2 _ rfl
                  obtain ⟨P, hP⟩ : ∃ P : Nat, max 0 (min A2 (b.length : Int)) = (P : Int) := ⟨(max 0 (min A2 (b.length : Int))).toNat, by omega⟩
                  have hPb : P ≤ b.length := by omega
                  have hPX : P = min X2.toNat b.length := by rw [HX2.out]; omega
                  have j1 : (0 : Int) ≤ (P : Int) := by omega
                  have j2 : (P : Int) ≤ (bc : Int) := by omega
                  have HP := Lib.hid (show crashP x.f X1 X2 = P ∧ crashS x.f X1 X2 = runOps x.f.safe (x.f.ops.take j) ++ b.take P by
                    unfold crashP crashS
                    rw [← HM.out, hop, hPX]
                    exact ⟨rfl, rfl⟩)
                  have hbl : b.length ≤ 2000000 := by
                    have h2 := (okOps_at x.f.ops x.f.safe j _ HXA5.out.okf.2 hop).2
                    rw [runOps_step x.f.safe x.f.ops j _ hop] at h2
                    simp [Dop.run] at h2
                    omega
                  have HDN := Lib.hid (rdone_add w6 _ _ _ (b.take P) hV.slice (hbo.take hPb) (by omega) (by rw [List.length_take]; omega))
                  have hge := Nat.le_trans hBw5 hB6.size
                  clear hop hV hrow6 hx6 hr2 ho hp hPX hPb hbo hcap hlenS
                  go_wp2_with (first
                    | (go_at_call 83; refine HDN.out.mono ?_; rintro e w8 ⟨_, rfl, ⟨a4, n4, c4, rfl⟩, O4, b4⟩)
                    | fail)
                  go_meet
                  exact ⟨_, _, _, rfl, by rw [HP.out.1] <;> rfl, by rw [HP.out.2]; exact own_down hge O4, hB6.trans (b4.mono hB6.size)⟩
              case rest =>
                obtain ⟨za, zn, zc, rfl, rfl, hV7, hB7⟩ := hcut
                obtain ⟨w7, rfl⟩ : ∃ w7, w7 = wc := ⟨_, rfl⟩
                clear hV hB6 hX6 hlenS hx6 hrow6 e2
                have hX7 := (HX1.out.below hB2 HX1.out.lt).below hB7 (HX1.out.below hB2 HX1.out.lt).lt
                obtain ⟨P, hP⟩ : ∃ z, crashP x.f X1 X2 = z := ⟨_, rfl⟩
                obtain ⟨fr, hfr⟩ : ∃ z, x.f.fresh = z := ⟨_, rfl⟩
                have HCB := Lib.hid (show crashB x.f X1 X2 = (!fr || decide (0 < j) || decide (0 < P)) by rw [crashB_eq, ← HM.out, hP, hfr])
                have e3 : w7.cell? ⟨fb, 3, none⟩ = some (.bool (!fr)) := by
                  have e := hX7.cell 3
                  rw [← hfr]
                  exact e
                have HX7 := Lib.hid hX7
                rw [hP]
                clear hP hfr hX7
                go_upto_region 22 with fail
                go_cut [118] (fun v wq => v = .bool (crashB x.f X1 X2) ∧ w7 = wq)
                case first =>
                  cases fr with
                  | false =>
                    go_wp2
                    go_meet
                    exact ⟨by rw [HCB.out] <;> rfl, rfl⟩
                  | true =>
                    by_cases h1 : 0 < j
                    · have i6 : (0 : Int) < (j : Int) := by omega
                      go_wp2
                      go_meet
                      exact ⟨by rw [HCB.out, decide_eq_true h1] <;> rfl, rfl⟩
                    · have i6 : ¬ (0 : Int) < (j : Int) := by omega
                      by_cases h2 : 0 < P
                      · have i7 : (0 : Int) < (P : Int) := by omega
                        go_wp2
                        go_meet
                        exact ⟨by rw [HCB.out, decide_eq_false h1, decide_eq_true h2] <;> rfl, rfl⟩
                      · have i7 : ¬ (0 : Int) < (P : Int) := by omega
                        go_wp2
                        go_meet
                        exact ⟨by rw [HCB.out, decide_eq_false h1, decide_eq_false h2] <;> rfl, rfl⟩
                case rest =>
                  obtain ⟨rfl, rfl⟩ := hcut
                  have HF := Lib.hid (show crashF kp (viewX (l.take (k + 1))) = crashF kp (viewX (l.take k)) ++ (if crashB x.f X1 X2 = true then [(x.name, ⟨crashS x.f X1 X2, [], false⟩)] else []) from by
                    have e1 : viewX (l.take (k + 1)) = viewX (l.take k) ++ [(x.name, x.f)] := by
                      rw [List.take_add_one, HX.out.1]
                      unfold viewX
                      rw [List.map_append]
                      rfl
                    rw [e1, crashF_append]
                    show _ ++ ((if crashB x.f (keepOf kp x.name).1 (keepOf kp x.name).2 = true then [(x.name, (⟨crashS x.f (keepOf kp x.name).1 (keepOf kp x.name).2, [], false⟩ : Dfile))] else []) ++ []) = _
                    rw [HXX.out.1, HXX.out.2, List.append_nil])
                  have h07 : Below w0.heap.size w0 w7 := (HW.out.2.trans (hB2.mono HW.out.2.size)).trans (hB7.mono (Nat.le_trans HW.out.2.size hB2.size))
                  cases hcb : crashB x.f X1 X2 with
                  | false =>
                    have HOq := Lib.hid (row_low HQ.out.2.2.2 h07)
                    clear hV7
                    go_wp2
                    go_roundw
                    case rel =>
                      refine ⟨k + 1, _, _, _, q, by omega, by go_num, rfl, HOq.out, ?_, Nat.le_succ_of_le HQ.out.2.1, fun y hy => (HQ.out.2.2.1 y hy).only (Only.of_below h07 (fun _ => False)) (fun _ _ e => e.elim) (fun i hi => hi.imp id (fun e => ⟨e.1, Nat.lt_of_lt_of_le e.2 h07.size⟩)), hB.trans (h07.mono hB.size)⟩
                      rw [HF.out, hcb, if_neg (by decide), List.append_nil]
                      exact HQ.out.1
                    case measure => simp [intOf]; omega
                  | true =>
                    go_upto_region 23 with fail
                    refine wp_region_noPanic ?_
                    refine wp_region_held_drew (S := fun w2 => w2.cell? ⟨fb, 0, none⟩ = some (.string x.name)) (by kernel_rfl) (HX7.out.cell 0) (fun hhS => ?_)
                    have hbd := (Below.refl w7.heap.size w7).drew
                    have h0d := h07.trans (hbd.mono h07.size)
                    have hOq := row_low HQ.out.2.2.2 h0d
                    have hVs : Own w7.drew B (.slice za zn zc) (crashS x.f X1 X2) := row_low hV7 hbd
                    have hXd := HX7.out.below hbd HX7.out.lt
                    clear hbd h07 hV7 e3
                    generalize w7.drew = wd at h0d hOq hVs hXd hhS ⊢
                    have HLS := Lib.hid (crashS_len x.f HXA5.out.okf X1 X2)
                    refine wpAnyH_take (i := 0) (oi := ⟨some 119, _, _, _, _, _⟩) (v := ?_) rfl (by kernel_rfl) (by kernel_rfl) (by kernel_rfl) (fun _ _ _ h => h) (Or.inl ⟨by rfl, ?_⟩) (by assumption) ?_
                    rotate_left
                    · intro w hSw
                      (try dsimp only at hSw)
                      go_simp
                      all_goals (with_reducible rfl)
                    try simp only [Act.put, List.setIfInBounds_toArray, List.set_cons_zero, List.set_cons_succ]
                    refine wpAnyH_take (i := 1) (oi := ⟨some 120, _, _, _, _, _⟩) (v := ?_) rfl (by kernel_rfl) (by kernel_rfl) (by kernel_rfl) (fun _ _ _ h => h) (Or.inl ⟨by rfl, ?_⟩) (by assumption) ?_
                    rotate_left
                    · intro w hSw
                      (try dsimp only at hSw)
                      go_simp
                      all_goals (with_reducible rfl)
                    try simp only [Act.put, List.setIfInBounds_toArray, List.set_cons_zero, List.set_cons_succ]
                    refine wpAnyH_take (i := 2) (oi := ⟨some 121, _, _, _, _, _⟩) (v := ?_) rfl (by kernel_rfl) (by kernel_rfl) (by kernel_rfl) (fun _ _ _ h => h) (Or.inl ⟨by rfl, ?_⟩) (by assumption) ?_
                    rotate_left
                    · intro w hSw
                      (try dsimp only at hSw)
                      go_simp
                      all_goals (with_reducible rfl)
                    try simp only [Act.put, List.setIfInBounds_toArray, List.set_cons_zero, List.set_cons_succ]
                    refine wpAnyH_take (i := 4) (oi := ⟨some 123, _, _, _, _, _⟩) (v := ?_) rfl (by kernel_rfl) (by kernel_rfl) (by kernel_rfl) (fun _ _ _ h => h) (Or.inl ⟨by rfl, ?_⟩) (by assumption) ?_
                    rotate_left
                    · intro w hSw
                      (try dsimp only at hSw)
                      go_simp
                      all_goals (with_reducible rfl)
                    try simp only [Act.put, List.setIfInBounds_toArray, List.set_cons_zero, List.set_cons_succ]
                    refine wpAnyH_ready (rs := [3]) (by kernel_rfl) (by simp) ?_
                    refine AllReadyH.cons (o := ⟨some 122, _, _, _, _, _⟩) rfl (fun K hK => ?_) AllReadyH.nil
                    go_simp
                    have b3 : Below wd.heap.size wd (wd.alloc (.cells #[] 5)) := (Below.refl _ _).alloc (Nat.le_refl _) _
                    have hE := made_empty wd
                    have S3 := (Own.slice hVs).low b3
                    refine hK.out _ _ ((hXd.below b3 hXd.lt).cell 0) (fun _ => ?_)
                    clear hK K
                    try simp only [Act.put, List.setIfInBounds_toArray, List.set_cons_zero, List.set_cons_succ]
                    refine wpAnyH_ready (rs := [5]) (by kernel_rfl) (by simp) ?_
                    refine AllReadyH.cons (o := ⟨some 124, _, _, _, _, _⟩) rfl (fun K hK => ?_) AllReadyH.nil
                    rw [if_pos (by rfl)]
                    refine wp_append_bytesM _ _ (by rfl) wd.heap.size _ [] (by rfl) hE _ (crashS x.f X1 X2) (by rfl) S3 (by (have := HLS.out; simp only [List.length_nil]; omega)) b3.size ?_
                    intro v5 w8 O5 G5 _
                    obtain ⟨a5, n5, c5, h5⟩ := slice_any O5
                    subst h5
                    rw [List.nil_append] at O5
                    have B5 := b3.grown G5 b3.size (fun i hi => own_ge hE hi)
                    have O6 := row_low hOq B5
                    refine hK.out _ _ ((hXd.below B5 hXd.lt).cell 0) (fun _ => ?_)
                    clear hK K
                    try simp only [Act.put, List.setIfInBounds_toArray, List.set_cons_zero, List.set_cons_succ]
                    refine wpAnyH_take (i := 6) (oi := ⟨some 125, _, _, _, _, _⟩) (v := ?_) rfl (by kernel_rfl) (by kernel_rfl) (by kernel_rfl) (fun _ _ _ h => h) (Or.inl ⟨by rfl, ?_⟩) (by assumption) ?_
                    rotate_left
                    · intro w hSw
                      (try dsimp only at hSw)
                      go_simp
                      all_goals (with_reducible rfl)
                    try simp only [Act.put, List.setIfInBounds_toArray, List.set_cons_zero, List.set_cons_succ]
                    refine wpAnyH_ready (rs := [7]) (by kernel_rfl) (by simp) ?_
                    refine AllReadyH.cons (o := ⟨some 126, _, _, _, _, _⟩) rfl (fun K hK => ?_) AllReadyH.nil
                    go_simp
                    have b7 : Below w8.heap.size w8 (w8.alloc (.cells (Rx.cells ⟨x.name, .slice a5 n5 c5, .slice none 0 0, [], ⟨crashS x.f X1 X2, [], false⟩⟩).toArray 116)) := (Below.refl _ _).alloc (Nat.le_refl _) _
                    have O7 := row_low O6 b7
                    have P7 : Own _ wd.heap.size (.slice a5 n5 c5) (crashS x.f X1 X2) := row_low O5 b7
                    have s7 := src_new (f := Rx.cells) (n := 4) w8 116 ⟨x.name, .slice a5 n5 c5, .slice none 0 0, [], ⟨crashS x.f X1 X2, [], false⟩⟩
                    have B7 := B5.trans (b7.mono B5.size)
                    refine hK.out _ _ ((hXd.below B7 hXd.lt).cell 0) (fun _ => ?_)
                    clear hK K
                    try simp only [Act.put, List.setIfInBounds_toArray, List.set_cons_zero, List.set_cons_succ]
                    refine wpAnyH_ready (rs := [8]) (by kernel_rfl) (by simp) ?_
                    refine AllReadyH.cons (o := ⟨some 127, _, _, _, _, _⟩) rfl (fun K hK => ?_) AllReadyH.nil
                    rw [if_pos (by rfl)]
                    refine wp_append_gen (f := Rx.cells) (n := 4) (w := w8.alloc (.cells (Rx.cells ⟨x.name, .slice a5 n5 c5, .slice none 0 0, [], ⟨crashS x.f X1 X2, [], false⟩⟩).toArray 116)) _ _ 97 116 (by rfl) _ 72 Try.underlying97 info_file rfl (by decide) (by decide) lenX w.heap.size _ _ q [⟨x.name, .slice a5 n5 c5, .slice none 0 0, [], ⟨crashS x.f X1 X2, [], false⟩⟩] (by rfl) O7 (by rfl) s7 (fun y hy z hz => by (obtain rfl : y = _ := by simpa using hy); (simp only [Rx.cells, List.mem_cons, List.not_mem_nil, or_false] at hz); (rcases hz with rfl | rfl | rfl | rfl <;> rfl)) (by (have := HQ.out.2.1; simp only [List.length_cons, List.length_nil]; omega)) (Nat.le_trans (Nat.le_trans hB.size h0d.size) B7.size) ?_
                    intro v9 w9 O9 G9 M9
                    obtain ⟨a9, n9, c9, h9⟩ := slice_any O9
                    subst h9
                    have hne : ¬ (Value.slice ua un uc).ownBlock = some fb := fun e => by (have e2 := row_lt HQ.out.2.2.2 e; rw [HW.out.1] at e2; omega)
                    refine hK.out _ _ (((hXd.below B7 hXd.lt).only (Only.of_grown G9) hne).cell 0) (fun _ => ?_)
                    clear hK K
                    try simp only [Act.put, List.setIfInBounds_toArray, List.set_cons_zero, List.set_cons_succ]
                    refine wpAnyH_take (i := 9) (oi := ⟨some 4, _, _, _, _, _⟩) (v := ?_) rfl (by kernel_rfl) (by kernel_rfl) (by kernel_rfl) (fun _ _ _ h => h) (Or.inl ⟨by rfl, ?_⟩) (by assumption) ?_
                    rotate_left
                    · intro w hSw
                      (try dsimp only at hSw)
                      go_simp
                      all_goals (with_reducible rfl)
                    try simp only [Act.put, List.setIfInBounds_toArray, List.set_cons_zero, List.set_cons_succ]
                    refine wpAnyH_done (by kernel_rfl) ?_ _
                    refine NoPanic.normal ?_
                    have hB9 := ((hB.trans (h0d.mono hB.size)).trans (B7.mono (Nat.le_trans hB.size h0d.size))).grown G9 (Nat.le_trans (Nat.le_trans hB.size h0d.size) B7.size) (fun i hi => own_ge O7 hi)
                    have ho9 := ((Only.of_below h0d (fun _ => False)).trans (Only.of_below B7 (fun _ => False))).trans (Only.of_grown G9)
                    have hnew : RxAt w9 B (TX T w.heap.size w9.heap.size) ⟨x.name, .slice a5 n5 c5, .slice none 0 0, [], ⟨crashS x.f X1 X2, [], false⟩⟩ := ⟨own_down (Nat.le_trans HB0.out (Nat.le_trans hB.size h0d.size)) (row_only P7 (Only.of_grown G9) (fun i hi e => rows_apart P7 O7 (by decide) hi e)), World.ownsRow_nil w9 _ _ _, fun p hp => (by cases hp), rfl, fun i hi => .inr ⟨Nat.le_trans (Nat.le_trans hB.size h0d.size) (own_ge P7 hi), Nat.lt_of_lt_of_le (row_lt P7 hi) (Only.of_grown G9).size⟩, fun _ e => (by cases e), fun p hp => (by cases hp), ⟨HLS.out, trivial⟩⟩
                    have HR9 := Lib.hid (And.intro O9 (And.intro hB9 (And.intro ho9 hnew)))
                    clear O9 hB9 ho9 hnew O7 P7 s7 B7 b7 O6 B5 O5 G5 G9 M9 hE S3 b3 hOq hVs hXd h0d hne
                    go_wp2
                    go_roundw
                    case rel =>
                      refine ⟨k + 1, _, _, _, q ++ [⟨x.name, .slice a5 n5 c5, .slice none 0 0, [], ⟨crashS x.f X1 X2, [], false⟩⟩], by omega, by go_num, rfl, HR9.out.1, ?_, ?_, fun y hy => ?_, HR9.out.2.1⟩
                      · rw [HF.out, hcb, if_pos rfl, ← HQ.out.1]
                        unfold viewX
                        rw [List.map_append]
                        rfl
                      · rw [List.length_append]
                        exact Nat.add_le_add_right HQ.out.2.1 1
                      · rcases List.mem_append.1 hy with hy | hy
                        · refine (HQ.out.2.2.1 y hy).only HR9.out.2.2.1 (fun i _ e => ?_) (fun i hi => hi.imp id (fun e => ⟨e.1, Nat.lt_of_lt_of_le e.2 HR9.out.2.2.1.size⟩))
                          rcases e with (e | e) | e
                          · exact e.elim
                          · exact e.elim
                          · obtain ⟨cc, hcc⟩ := row_type HQ.out.2.2.2 e
                            exact ⟨_, _, hcc, by decide, by decide⟩
                        · obtain rfl : y = _ := by simpa using hy
                          exact HR9.out.2.2.2
                    case measure => simp [intOf]; omega
    · obtain rfl : k = N := by omega
      have i1 : ¬ (k : Int) < (k : Int) := by omega
      rw [List.take_of_length_le (Nat.le_of_eq HN.out)] at hq
      have hF := H.out.files hB hO he
      have f0 := hR.box.free 0
      have HF := Lib.hid (And.intro hF hq)
      clear hF hR hO hq he
      go_wp2
      go_end0
      exact ⟨rfl, RX.of HF.out.1.1 HF.out.2 HF.out.1.2 (fun i _ e => e ▸ H.out.tm) (fun i e => e.elim .inl (fun e => .inr e.1))⟩

end Go.Proofs.Ytmmlpbepaefamaa
