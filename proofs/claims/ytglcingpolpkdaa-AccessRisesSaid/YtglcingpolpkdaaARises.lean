/- AccessRises: one more rule, and one less: the plain law. -/
import Derived.Test.YtglcingpolpkdaaABookMore
import Derived.Test.YtglcingpolpkdaaATurned
namespace Go.Proofs.Ytglcingpolpkdaa
open Go.RowKit

theorem grant_zero {ts : List Tn} {n : ByteArray} {r : Rl} (h : (grantT ts n r).1 = 0) :
    ∃ i t, mayB r = true ∧ getT ts n = some (i, t) ∧ hasR t.rules r = false ∧ (grantT ts n r).2 = ts.set i ⟨t.name, t.rules ++ [r], t.ms⟩ := by
  unfold grantT at h ⊢
  by_cases hb : mayB r = false
  · rw [if_pos hb] at h
    simp at h
  · rw [if_neg hb] at h ⊢
    cases hg : getT ts n with
    | none =>
      rw [hg] at h
      simp at h
    | some q =>
      obtain ⟨i, t⟩ := q
      rw [hg] at h
      by_cases hh : hasR t.rules r = true
      · simp [hh] at h
      · exact ⟨i, t, by simpa using hb, rfl, by simpa using hh, by simp [hh]⟩
theorem rise_same {ts : List Tn} {n : ByteArray} {r : Rl} (h : (grantT ts n r).1 ≠ 0) : (grantT ts n r).2 = ts := by
  unfold grantT at h ⊢
  by_cases hb : mayB r = false
  · rw [if_pos hb]
  · rw [if_neg hb] at h ⊢
    cases hg : getT ts n with
    | none => rfl
    | some q =>
      obtain ⟨i, t⟩ := q
      rw [hg] at h
      by_cases hh : hasR t.rules r = true
      · simp [hh]
      · simp [hh] at h
theorem rise_back {ts : List Tn} {n : ByteArray} {r : Rl} (h : (grantT ts n r).1 = 0) : revokeT (grantT ts n r).2 n r = (0, ts) := by
  obtain ⟨i, t, hb, hg, hh, he⟩ := grant_zero h
  obtain ⟨h1, h2⟩ := getT_at hg
  have hi : i < ts.length := (List.getElem?_eq_some_iff.1 h1).1
  rw [he]
  unfold revokeT
  have hs := getT_set ts i t ⟨t.name, t.rules ++ [r], t.ms⟩ n h1 rfl
  rw [hg] at hs
  rw [if_neg (by simp [hb]), hs]
  have hin : hasR (t.rules ++ [r]) r = true := hasR_iff.2 (by simp)
  have hno : ∀ x ∈ t.rules, (!eqR x r) = true := fun x hx => by
    cases hq : eqR x r with
    | false => rfl
    | true =>
      rw [eqR_iff.1 hq] at hx
      rw [hasR_iff.2 hx] at hh
      cases hh
  have hfl : (t.rules ++ [r]).filter (fun x => !eqR x r) = t.rules := by
    rw [List.filter_append, List.filter_eq_self.2 hno, List.filter_cons_of_neg (by rw [eqR_iff.2 rfl]; simp), List.filter_nil, List.append_nil]
  have hset : (ts.set i ⟨t.name, t.rules ++ [r], t.ms⟩).set i ⟨t.name, t.rules, t.ms⟩ = ts := by
    rw [List.set_set]
    apply List.ext_getElem?
    intro j
    by_cases hj : j = i
    · rw [hj, List.getElem?_set_self hi, h1]
    · rw [List.getElem?_set_ne (Ne.symm hj)]
  simp only [Option.map_some, if_true]
  rw [hin, hfl, hset]
  rfl
theorem any_more (l : List Rl) (r : Rl) (roles : List ByteArray) (who : ByteArray) (what : Int) (key : ByteArray) (d : Bool) : anyAbout (l ++ [r]) roles who what key d = (anyAbout l roles who what key d || (aboutB r roles who what key && (r.deny == d))) := by
  unfold anyAbout
  rw [List.any_append]
  simp
theorem rise_law {ts : List Tn} {n : ByteArray} {r : Rl} (h : (grantT ts n r).1 = 0) (who : ByteArray) (what : Int) (key : ByteArray) :
    (r.deny = true → allowT (grantT ts n r).2 n who what key = true → allowT ts n who what key = true) ∧ (r.deny = false → allowT ts n who what key = true → allowT (grantT ts n r).2 n who what key = true) := by
  obtain ⟨i, t, _, hg, _, he⟩ := grant_zero h
  obtain ⟨_, s2, s3⟩ := set_T (t' := ⟨t.name, t.rules ++ [r], t.ms⟩) hg rfl n
  have e1 : rulesT ts n = t.rules := by
    unfold rulesT
    rw [hg]
  have e2 : memsT ts n = t.ms := by
    unfold memsT
    rw [hg]
  rw [if_pos rfl] at s2 s3
  rw [he, allowT_eq, allowT_eq, s2, s3, e1, e2]
  unfold allowedB
  rw [any_more, any_more]
  generalize (nameB who && (nameB key && (decide (1 ≤ what) && decide (what ≤ 7)))) = gd
  constructor
  · intro hd
    rw [hd]
    cases (anyAbout t.rules (rolesOf t.ms who) who what key false) <;> cases (anyAbout t.rules (rolesOf t.ms who) who what key true) <;> cases gd <;> simp
  · intro hd
    rw [hd]
    cases (anyAbout t.rules (rolesOf t.ms who) who what key false) <;> cases (anyAbout t.rules (rolesOf t.ms who) who what key true) <;> cases gd <;> simp

/-- The rule and the question, where they lie. -/
theorem rise_facts {W1 w : World} {b RB B : Nat} {ts : List Tn} {awho akey : ByteArray} {awhat : Int} {adeny : Bool} {kind rwhat what : Int} {tenant role who rwho rkey key : ByteArray} {deny : Bool} (h : BookIs W1 w b ts) (hR : Whole W1 RB 29 [.string awho, .int .i64 awhat, .string akey, .bool adeny]) (hC : Whole W1 B 38 [.int .u8 kind, .string tenant, .string role, .string who, .string rwho, .int .i64 rwhat, .string rkey, .bool deny, .int .i64 what, .string key]) :
    w.cell? ⟨RB, 0, none⟩ = some (.string awho) ∧ w.cell? ⟨RB, 1, none⟩ = some (.int .i64 awhat) ∧ w.cell? ⟨RB, 2, none⟩ = some (.string akey) ∧ w.cell? ⟨RB, 3, none⟩ = some (.bool adeny) ∧
    w.cell? ⟨B, 1, none⟩ = some (.string tenant) ∧ w.cell? ⟨B, 3, none⟩ = some (.string who) ∧ w.cell? ⟨B, 8, none⟩ = some (.int .i64 what) ∧ w.cell? ⟨B, 9, none⟩ = some (.string key) := by
  have h1 := hR.below (book_below h) hR.lt
  have h2 := hC.below (book_below h) hC.lt
  exact ⟨h1.cell 0, h1.cell 1, h1.cell 2, h1.cell 3, h2.cell 1, h2.cell 3, h2.cell 8, h2.cell 9⟩
theorem SrcA.new2 (w : World) (a b : Ac) : SrcA (w.alloc (.cells (a.cells ++ b.cells).toArray 38)) (.slice (some ⟨w.heap.size, 0, none⟩) 2 2) [a, b] := by
  have hW := Whole.new w 38 (a.cells ++ b.cells).toArray
  refine .inr ⟨w.heap.size, 2, rfl, by simp, fun i c hc j u hj => ?_⟩
  have hj10 : j < 10 := by
    have := (List.getElem?_eq_some_iff.1 hj).1
    rwa [cells_ac] at this
  rw [hW.cell]
  match i, hc with
  | 0, hc =>
    have : a = c := by simpa using hc
    subst this
    rw [Nat.zero_mul, Nat.zero_add, List.getElem?_append_left (by rw [cells_ac]; exact hj10)]
    exact hj
  | 1, hc =>
    have : b = c := by simpa using hc
    subst this
    rw [List.getElem?_append_right (by rw [cells_ac]; omega), cells_ac, Nat.one_mul, Nat.add_sub_cancel_left]
    exact hj

set_option maxRecDepth 100000 in
set_option maxHeartbeats 8000000 in
theorem accessRises_walk (W : World) (v0 : Value) (l : List Ac) (r : Rl) (q : Ac) (hA : ActsAt W v0 l) (hl : l.length ≤ 9223372036854775807) (hf : ∀ a ∈ l, Fits a) (hr : Fits ⟨0, ⟨#[]⟩, ⟨#[]⟩, ⟨#[]⟩, r, 0, ⟨#[]⟩⟩) (hq : Fits q) : Answers Try.prog 5 #[v0, .agg r.cells.toArray, .agg q.cells.toArray] W := by
  unfold Answers
  obtain ⟨N, hN⟩ : ∃ N, l.length = N := ⟨_, rfl⟩
  obtain ⟨p, c, hv⟩ : ∃ p c, v0 = .slice p N c := by
    obtain ⟨a, c, h⟩ := hA.len
    exact ⟨a, c, by rw [← hN]; exact h⟩
  subst hv
  obtain ⟨b1, hb1⟩ : ∃ b, longB l = b := ⟨_, rfl⟩
  obtain ⟨b2, hb2⟩ : ∃ b, longB [q, ⟨0, ⟨#[]⟩, ⟨#[]⟩, ⟨#[]⟩, r, 0, ⟨#[]⟩⟩] = b := ⟨_, rfl⟩
  have HL1 := Lib.hid (fun (w : World) (h : Below W.heap.size W w) => hb1 ▸ long_calls w _ l (hA.low h) hl hf)
  have HL2 := Lib.hid (fun (w : World) => hb2 ▸ long_calls _ _ [q, ⟨0, ⟨#[]⟩, ⟨#[]⟩, ⟨#[]⟩, r, 0, ⟨#[]⟩⟩] (SrcA.new2 w q ⟨0, ⟨#[]⟩, ⟨#[]⟩, ⟨#[]⟩, r, 0, ⟨#[]⟩⟩).acts (by simp) (by simpa using ⟨hq, hr⟩))
  have hBA : Below W.heap.size W (W.alloc (.cells r.cells.toArray 29)) := (Below.refl _ _).alloc (Nat.le_refl _) _
  have hBA2 : Below W.heap.size W ((W.alloc (.cells r.cells.toArray 29)).alloc (.cells q.cells.toArray 38)) := hBA.alloc hBA.size _
  have hR := (Whole.new W 29 r.cells.toArray).alloc (.cells q.cells.toArray 38)
  have hC := Whole.new (W.alloc (.cells r.cells.toArray 29)) 38 q.cells.toArray
  have hsz : r.key.size ≤ 9223372036854775807 := by have := hr.rkey; simp only at this; omega
  have HF := Lib.hid hf
  have HA := Lib.hid hA
  have HN := Lib.hid hN
  rw [hN] at hl
  clear hf hA hb1 hb2 hN hq hr hBA
  obtain ⟨awho, awhat, akey, adeny⟩ := r
  obtain ⟨kind, tenant, role, who, ⟨rwho, rwhat, rkey, deny⟩, what, key⟩ := q
  change Below W.heap.size W ((W.alloc (.cells #[.string awho, .int .i64 awhat, .string akey, .bool adeny] 29)).alloc (.cells #[.int .u8 kind, .string tenant, .string role, .string who, .string rwho, .int .i64 rwhat, .string rkey, .bool deny, .int .i64 what, .string key] 38)) at hBA2
  change Whole ((W.alloc (.cells #[.string awho, .int .i64 awhat, .string akey, .bool adeny] 29)).alloc (.cells #[.int .u8 kind, .string tenant, .string role, .string who, .string rwho, .int .i64 rwhat, .string rkey, .bool deny, .int .i64 what, .string key] 38)) W.heap.size 29 [.string awho, .int .i64 awhat, .string akey, .bool adeny] at hR
  change Whole ((W.alloc (.cells #[.string awho, .int .i64 awhat, .string akey, .bool adeny] 29)).alloc (.cells #[.int .u8 kind, .string tenant, .string role, .string who, .string rwho, .int .i64 rwhat, .string rkey, .bool deny, .int .i64 what, .string key] 38)) (W.alloc (.cells #[.string awho, .int .i64 awhat, .string akey, .bool adeny] 29)).heap.size 38 [.int .u8 kind, .string tenant, .string role, .string who, .string rwho, .int .i64 rwhat, .string rkey, .bool deny, .int .i64 what, .string key] at hC
  have HB := Lib.hid hBA2
  have HC := Lib.hid hC
  have HR := Lib.hid hR
  clear hBA2 hC hR
  show Calls Try.prog 5 #[.slice p N c, .agg #[.string awho, .int .i64 awhat, .string akey, .bool adeny], .agg #[.int .u8 kind, .string tenant, .string role, .string who, .string rwho, .int .i64 rwhat, .string rkey, .bool deny, .int .i64 what, .string key]] W _
  generalize hw0 : ((W.alloc (.cells #[.string awho, .int .i64 awhat, .string akey, .bool adeny] 29)).alloc (.cells #[.int .u8 kind, .string tenant, .string role, .string who, .string rwho, .int .i64 rwhat, .string rkey, .bool deny, .int .i64 what, .string key] 38)) = w0 at HB HC HR
  obtain ⟨RB, hRq⟩ : ∃ RB, W.heap.size = RB := ⟨_, rfl⟩
  obtain ⟨B, hBq⟩ : ∃ B, (W.alloc (.cells #[.string awho, .int .i64 awhat, .string akey, .bool adeny] 29)).heap.size = B := ⟨_, rfl⟩
  rw [hBq] at HC
  rw [hRq] at HR
  go_enter Try.func5, Try.ntmps5
  go_upto_region 2 with (first
    | (refine wpList_box_cells (by rfl) 38 _ (by rfl) #[.int .u8 kind, .string tenant, .string role, .string who, .string rwho, .int .i64 rwhat, .string rkey, .bool deny, .int .i64 what, .string key] (by rfl) ?_; rw [hw0, hBq])
    | (refine wpList_box_cells (by rfl) 29 _ (by rfl) #[.string awho, .int .i64 awhat, .string akey, .bool adeny] (by rfl) ?_; rw [hRq])
    | (go_at_call 3; refine (accessKnown_walk w0).mono ?_; rintro e w1 ⟨rfl, hB1⟩)
    | fail)
  have hC1 := HC.out.below hB1 HC.out.lt
  have hR1 := HR.out.below hB1 HR.out.lt
  replace hB1 : Below W.heap.size W w1 := HB.out.trans (hB1.mono HB.out.size)
  clear hw0 hRq hBq
  have hld : ∀ w' : World, Below w1.heap.size w1 w' → w'.cell? ⟨RB, 0, none⟩ = some (.string awho) ∧ w'.cell? ⟨RB, 1, none⟩ = some (.int .i64 awhat) ∧ w'.cell? ⟨RB, 2, none⟩ = some (.string akey) ∧ w'.cell? ⟨RB, 3, none⟩ = some (.bool adeny) := fun w' h => by
    have h1 := hR1.below h hR1.lt
    exact ⟨h1.cell 0, h1.cell 1, h1.cell 2, h1.cell 3⟩
  have HLD := Lib.hid hld
  clear hld
  cases b1
  case true =>
    go_wp2_with (go_at_call 18; refine (HL1.out w1 hB1).mono ?_; rintro e w2 ⟨rfl, hB2⟩)
    go_ret
    exact ⟨rfl, hB1.trans (hB2.mono hB1.size)⟩
  case false =>
    cases b2
    case true =>
      go_wp2_with (first
        | (go_at_call 18; refine (HL2.out w2).mono ?_; rintro e w3 ⟨rfl, hB3⟩)
        | (go_at_call 18; refine (HL1.out w1 hB1).mono ?_; rintro e w2 ⟨rfl, hB2⟩; obtain ⟨d0, d1, d2, d3, d4, d5, d6, d7, d8, d9⟩ := ten_cells (hC1.below hB2 hC1.lt); obtain ⟨r0, r1, r2, r3⟩ := HLD.out w2 hB2))
      go_ret
      exact ⟨rfl, hB1.trans ((hB2.trans ((((Below.refl _ _).alloc (Nat.le_refl _) _).trans (hB3.mono (by simp))).mono hB2.size)).mono hB1.size)⟩
    case false =>
      by_cases h60 : 60 < N
      · have i1 : (60 : Int) < (N : Int) := by omega
        go_wp2_with (first
          | (go_at_call 18; refine (HL2.out w2).mono ?_; rintro e w3 ⟨rfl, hB3⟩)
          | (go_at_call 18; refine (HL1.out w1 hB1).mono ?_; rintro e w2 ⟨rfl, hB2⟩; obtain ⟨d0, d1, d2, d3, d4, d5, d6, d7, d8, d9⟩ := ten_cells (hC1.below hB2 hC1.lt); obtain ⟨r0, r1, r2, r3⟩ := HLD.out w2 hB2))
        go_ret
        exact ⟨rfl, hB1.trans ((hB2.trans ((((Below.refl _ _).alloc (Nat.le_refl _) _).trans (hB3.mono (by simp))).mono hB2.size)).mono hB1.size)⟩
      · have i1 : ¬ (60 : Int) < (N : Int) := by omega
        go_upto_region 4 with (first
          | (go_at_call 18; refine (HL2.out w2).mono ?_; rintro e w3 ⟨rfl, hB3⟩)
          | (go_at_call 18; refine (HL1.out w1 hB1).mono ?_; rintro e w2 ⟨rfl, hB2⟩; obtain ⟨d0, d1, d2, d3, d4, d5, d6, d7, d8, d9⟩ := ten_cells (hC1.below hB2 hC1.lt); obtain ⟨r0, r1, r2, r3⟩ := HLD.out w2 hB2)
          | fail)
        have hB13 : Below w1.heap.size w1 w3 := hB2.trans ((((Below.refl _ _).alloc (Nat.le_refl _) _).trans (hB3.mono (by simp))).mono hB2.size)
        have hC3 := hC1.below hB13 hC1.lt
        have hR3 := hR1.below hB13 hR1.lt
        have hBW3 := hB1.trans (hB13.mono hB1.size)
        clear hC1 d0 d1 d2 d3 d4 d5 d6 d7 d8 d9 r0 r1 r2 r3 hB1 hB2 hB3 hB13
        have hgood : Good 60 (fillA l) := (fillA_good l HF.out).mono (by rw [HN.out]; omega)
        obtain ⟨ts, hts⟩ : ∃ ts, fillA l = ts := ⟨_, rfl⟩
        have HFL := Lib.hid (hts ▸ filled_any w3 _ l (HA.out.low hBW3) (by rw [HN.out]; omega) HF.out)
        rw [hts] at hgood
        clear hts
        obtain ⟨was, hwas⟩ : ∃ x, allowT ts tenant who what key = x := ⟨_, rfl⟩
        obtain ⟨e1, he1⟩ : ∃ x, (grantT ts tenant ⟨awho, awhat, akey, adeny⟩).1 = x := ⟨_, rfl⟩
        obtain ⟨ts1, hts1⟩ : ∃ x, (grantT ts tenant ⟨awho, awhat, akey, adeny⟩).2 = x := ⟨_, rfl⟩
        have HA1 := Lib.hid (fun w b (h : BookIs w3 w b ts) => hwas ▸ allowed_book w3 w b ts tenant who key what h (hgood.mono (by omega)).small)
        have HG := Lib.hid (fun w b (h : BookIs w3 w b ts) => he1 ▸ hts1 ▸ grant_book w3 w b ts tenant awho akey awhat adeny h (hgood.mono (by omega)).small hsz)
        by_cases hge : e1 = 0
        · subst hge
          obtain ⟨now, hnow⟩ : ∃ x, allowT ts1 tenant who what key = x := ⟨_, rfl⟩
          have hg1 : Good 61 ts1 := by
            have := doA_good (a := ⟨3, tenant, ⟨#[]⟩, ⟨#[]⟩, ⟨awho, awhat, akey, adeny⟩, 0, ⟨#[]⟩⟩) hgood hsz
            have e : doA ts ⟨3, tenant, ⟨#[]⟩, ⟨#[]⟩, ⟨awho, awhat, akey, adeny⟩, 0, ⟨#[]⟩⟩ = ts1 := hts1
            rwa [e] at this
          have hlaw := rise_law he1 who what key
          have hback := rise_back he1
          rw [hts1] at hlaw hback
          rw [hwas, hnow] at hlaw
          have HA2 := Lib.hid (fun w b (h : BookIs w3 w b ts1) => hnow ▸ allowed_book w3 w b ts1 tenant who key what h (hg1.mono (by omega)).small)
          have HRV := Lib.hid (fun w b (h : BookIs w3 w b ts1) => hback ▸ revoke_book w3 w b ts1 tenant awho akey awhat adeny h (hg1.mono (by omega)) hsz)
          clear hwas he1 hts1 hnow hg1 hback hgood
          go_upto_region 11 with (first
            | (go_at_call 15; refine (HA2.out w6 b h6).mono ?_; rintro e w7 ⟨rfl, h7⟩; obtain ⟨r0, r1, r2, r3, d1, d3, d8, d9⟩ := rise_facts h7 hR3 hC3)
            | (go_at_call 14; refine (HG.out w5 b h5).mono ?_; rintro e w6 ⟨rfl, h6⟩; obtain ⟨r0, r1, r2, r3, d1, d3, d8, d9⟩ := rise_facts h6 hR3 hC3)
            | (go_at_call 15; refine (HA1.out w4 b h4).mono ?_; rintro e w5 ⟨rfl, h5⟩; obtain ⟨r0, r1, r2, r3, d1, d3, d8, d9⟩ := rise_facts h5 hR3 hC3)
            | (go_at_call 20; refine HFL.out.mono ?_; rintro e w4 ⟨b, rfl, h4⟩; obtain ⟨r0, r1, r2, r3, d1, d3, d8, d9⟩ := rise_facts h4 hR3 hC3)
            | fail)
          cases adeny <;> cases was <;> cases now
          all_goals first
            | (exfalso; simp at hlaw; done)
            | (clear hlaw
               go_wp2_with (first
                 | (go_at_call 15; refine (HA1.out w8 b h8).mono ?_; rintro e w9 ⟨rfl, h9⟩)
                 | (go_at_call 21; refine (HRV.out w7 b h7).mono ?_; rintro e w8 ⟨rfl, h8⟩; obtain ⟨r0, r1, r2, r3, d1, d3, d8, d9⟩ := rise_facts h8 hR3 hC3))
               go_ret
               exact ⟨rfl, hBW3.trans ((book_below h9).mono hBW3.size)⟩)
        · have hsame := rise_same (show (grantT ts tenant ⟨awho, awhat, akey, adeny⟩).1 ≠ 0 by rw [he1]; exact hge)
          rw [hts1] at hsame
          subst hsame
          have j1 : (e1 != 0) = true := by simpa using hge
          clear hwas he1 hts1 hgood
          go_wp2_with (first
            | (go_at_call 15; refine (HA1.out w6 b h6).mono ?_; rintro e w7 ⟨rfl, h7⟩)
            | (go_at_call 14; refine (HG.out w5 b h5).mono ?_; rintro e w6 ⟨rfl, h6⟩; obtain ⟨r0, r1, r2, r3, d1, d3, d8, d9⟩ := rise_facts h6 hR3 hC3)
            | (go_at_call 15; refine (HA1.out w4 b h4).mono ?_; rintro e w5 ⟨rfl, h5⟩; obtain ⟨r0, r1, r2, r3, d1, d3, d8, d9⟩ := rise_facts h5 hR3 hC3)
            | (go_at_call 20; refine HFL.out.mono ?_; rintro e w4 ⟨b, rfl, h4⟩; obtain ⟨r0, r1, r2, r3, d1, d3, d8, d9⟩ := rise_facts h4 hR3 hC3))
          go_ret
          exact ⟨by simp, hBW3.trans ((book_below h7).mono hBW3.size)⟩

end Go.Proofs.Ytglcingpolpkdaa
