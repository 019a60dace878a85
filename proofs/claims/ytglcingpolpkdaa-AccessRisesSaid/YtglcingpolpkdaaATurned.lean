/- AccessTurned: the walk. -/
import Derived.Test.YtglcingpolpkdaaATAsk
namespace Go.Proofs.Ytglcingpolpkdaa
open Go.RowKit

theorem IntsAt.low {w w' : World} {v : Value} {l : List Int} (h : IntsAt w v l) (hb : Below w.heap.size w w') : IntsAt w' v l := by
  rcases h with h | ⟨b, off, c, rfl, hl, hc⟩
  · exact .inl h
  · exact .inr ⟨b, off, c, rfl, Nat.lt_of_lt_of_le hl hb.size, fun j z hz => (hb.cell (p := ⟨b, off + j, none⟩) hl).trans (hc j z hz)⟩
theorem IntsAt.len {w : World} {v : Value} {l : List Int} (h : IntsAt w v l) : ∃ a c, v = .slice a l.length c := by
  rcases h with ⟨a, c, rfl, rfl⟩ | ⟨b, off, c, rfl, _, _⟩
  · exact ⟨a, c, rfl⟩
  · exact ⟨_, c, rfl⟩
theorem OwnA.empty (w : World) : OwnA (w.alloc (.cells #[] 38)) w.heap.size (.slice (some ⟨w.heap.size, 0, none⟩) 0 0) [] := World.ownsRow_lit w #[] 0 (Nat.le_refl _) (by decide) rfl
theorem OwnA.some {w w0 : World} {B g n c : Nat} {v : Value} {l : List Ac} (h : OwnA w B v l) (hm : Moved w0 (.slice (some ⟨g, 0, none⟩) n c) v) : ∃ g' c', v = .slice (some ⟨g', 0, none⟩) l.length c' ∧ B ≤ g' ∧ g' < w.heap.size := by
  rcases row_shape h with ⟨rfl, _⟩ | ⟨g', c', rfl, hb, hg, _⟩
  · rcases hm with hm | ⟨k, hk, _⟩
    · cases hm
    · cases hk
  · exact ⟨g', c', rfl, hb, hg⟩
/-- Behind an append to a row that the law made. -/
theorem below_app {w w' : World} {v : Value} {l : List Ac} {B : Nat} (hB : B ≤ w.heap.size) (h : OwnA w B v l) (hg : w.grownBy w' v.ownBlock) : Below B w w' := (Only.of_grown hg).below hB fun _ _ e => own_ge h e
theorem whole_range {w : World} {g : Nat} {t : TypeId} {cs : List Value} (h : Whole w g t cs) : w.rangeAt g 0 cs := fun j v hj => by
  rw [Nat.zero_add, h.cell]
  exact hj
theorem ten_cells {w : World} {B : Nat} {kind rwhat what : Int} {tenant role who rwho rkey key : ByteArray} {deny : Bool} (h : Whole w B 38 [.int .u8 kind, .string tenant, .string role, .string who, .string rwho, .int .i64 rwhat, .string rkey, .bool deny, .int .i64 what, .string key]) :
    w.cell? ⟨B, 0, none⟩ = some (.int .u8 kind) ∧ w.cell? ⟨B, 1, none⟩ = some (.string tenant) ∧ w.cell? ⟨B, 2, none⟩ = some (.string role) ∧ w.cell? ⟨B, 3, none⟩ = some (.string who) ∧ w.cell? ⟨B, 4, none⟩ = some (.string rwho) ∧ w.cell? ⟨B, 5, none⟩ = some (.int .i64 rwhat) ∧ w.cell? ⟨B, 6, none⟩ = some (.string rkey) ∧ w.cell? ⟨B, 7, none⟩ = some (.bool deny) ∧ w.cell? ⟨B, 8, none⟩ = some (.int .i64 what) ∧ w.cell? ⟨B, 9, none⟩ = some (.string key) :=
  ⟨h.cell 0, h.cell 1, h.cell 2, h.cell 3, h.cell 4, h.cell 5, h.cell 6, h.cell 7, h.cell 8, h.cell 9⟩
theorem book_below {W w : World} {b : Nat} {ts : List Tn} (h : BookIs W w b ts) : Below W.heap.size W w := by
  obtain ⟨_, _, _, h⟩ := h
  exact h.book.below
theorem split_len : ∀ l : List Ac, (opensOf l).length + (addsOf l).length ≤ l.length
  | [] => Nat.le_refl _
  | a :: l => by
    have ih := split_len l
    unfold opensOf addsOf at ih ⊢
    by_cases h0 : a.kind = 0
    · rw [List.filter_cons_of_pos (by simpa using h0), List.filter_cons_of_neg (by simp [h0])]
      simp only [List.length_cons]
      omega
    · rw [List.filter_cons_of_neg (by simpa using h0)]
      have := List.length_filter_le (fun a : Ac => decide (a.kind = 1) || decide (a.kind = 3)) [a]
      have e : (a :: l).filter (fun a : Ac => decide (a.kind = 1) || decide (a.kind = 3)) = [a].filter (fun a : Ac => decide (a.kind = 1) || decide (a.kind = 3)) ++ l.filter (fun a : Ac => decide (a.kind = 1) || decide (a.kind = 3)) := by
        rw [← List.filter_append]
        rfl
      rw [e, List.length_append]
      simp only [List.length_cons, List.length_nil] at this ⊢
      omega

set_option maxRecDepth 100000 in
set_option maxHeartbeats 8000000 in
theorem accessTurned_walk (W : World) (v0 v1 : Value) (l : List Ac) (zs : List Int) (q : Ac) (hA : ActsAt W v0 l) (hl : l.length ≤ 9223372036854775807) (hf : ∀ a ∈ l, Fits a) (hI : IntsAt W v1 zs) (hq : Fits q) : Answers Try.prog 4 #[v0, v1, .agg q.cells.toArray] W := by
  unfold Answers
  obtain ⟨N, hN⟩ : ∃ N, l.length = N := ⟨_, rfl⟩
  obtain ⟨p, c, hv⟩ : ∃ p c, v0 = .slice p N c := by
    obtain ⟨a, c, h⟩ := hA.len
    exact ⟨a, c, by rw [← hN]; exact h⟩
  subst hv
  obtain ⟨T, hT⟩ : ∃ T, zs.length = T := ⟨_, rfl⟩
  obtain ⟨tp, tc, hv⟩ : ∃ p c, v1 = .slice p T c := by
    obtain ⟨a, c, h⟩ := hI.len
    exact ⟨a, c, by rw [← hT]; exact h⟩
  subst hv
  obtain ⟨b1, hb1⟩ : ∃ b, longB l = b := ⟨_, rfl⟩
  obtain ⟨b2, hb2⟩ : ∃ b, longB [q] = b := ⟨_, rfl⟩
  have HL1 := Lib.hid (fun (w : World) (h : Below W.heap.size W w) => hb1 ▸ long_calls w _ l (hA.low h) hl hf)
  have HL2 := Lib.hid (fun (w : World) => hb2 ▸ long_calls _ _ [q] (SrcA.new w q).acts (by simp) (by simpa using hq))
  have hBA : Below W.heap.size W (W.alloc (.cells q.cells.toArray 38)) := (Below.refl _ _).alloc (Nat.le_refl _) _
  have hC := Whole.new W 38 q.cells.toArray
  have HF := Lib.hid hf
  have HA := Lib.hid hA
  have HI := Lib.hid hI
  have HN := Lib.hid hN
  have HT := Lib.hid hT
  rw [hN] at hl
  clear hf hA hI hb1 hb2 hN hT hq
  obtain ⟨kind, tenant, role, who, ⟨rwho, rwhat, rkey, deny⟩, what, key⟩ := q
  change Below W.heap.size W (W.alloc (.cells #[.int .u8 kind, .string tenant, .string role, .string who, .string rwho, .int .i64 rwhat, .string rkey, .bool deny, .int .i64 what, .string key] 38)) at hBA
  change Whole (W.alloc (.cells #[.int .u8 kind, .string tenant, .string role, .string who, .string rwho, .int .i64 rwhat, .string rkey, .bool deny, .int .i64 what, .string key] 38)) W.heap.size 38 [.int .u8 kind, .string tenant, .string role, .string who, .string rwho, .int .i64 rwhat, .string rkey, .bool deny, .int .i64 what, .string key] at hC
  have HB := Lib.hid hBA
  have HC := Lib.hid hC
  clear hBA hC
  show Calls Try.prog 4 #[.slice p N c, .slice tp T tc, .agg #[.int .u8 kind, .string tenant, .string role, .string who, .string rwho, .int .i64 rwhat, .string rkey, .bool deny, .int .i64 what, .string key]] W _
  generalize hw0 : (W.alloc (.cells #[.int .u8 kind, .string tenant, .string role, .string who, .string rwho, .int .i64 rwhat, .string rkey, .bool deny, .int .i64 what, .string key] 38)) = w0 at HB HC
  obtain ⟨B, hBq⟩ : ∃ B, W.heap.size = B := ⟨_, rfl⟩
  rw [hBq] at HC
  go_enter Try.func4, Try.ntmps4
  go_upto_region 2 with (first
    | (refine wpList_box_cells (by rfl) 38 _ (by rfl) #[.int .u8 kind, .string tenant, .string role, .string who, .string rwho, .int .i64 rwhat, .string rkey, .bool deny, .int .i64 what, .string key] (by rfl) ?_; rw [hw0, hBq])
    | (go_at_call 3; refine (accessKnown_walk w0).mono ?_; rintro e w1 ⟨rfl, hB1⟩)
    | fail)
  have hC1 := HC.out.below hB1 HC.out.lt
  replace hB1 : Below W.heap.size W w1 := HB.out.trans (hB1.mono HB.out.size)
  clear hw0
  cases b1
  case true =>
    go_wp2_with (go_at_call 18; refine (HL1.out w1 hB1).mono ?_; rintro e w2 ⟨rfl, hB2⟩)
    go_ret
    exact ⟨rfl, hB1.trans (hB2.mono hB1.size)⟩
  case false =>
    cases b2
    case true =>
      go_wp2_with (first
        | (go_at_call 18; refine (HL2.out w2).mono ?_; rintro e w3 ⟨rfl, hB3⟩)
        | (go_at_call 18; refine (HL1.out w1 hB1).mono ?_; rintro e w2 ⟨rfl, hB2⟩; obtain ⟨d0, d1, d2, d3, d4, d5, d6, d7, d8, d9⟩ := ten_cells (hC1.below hB2 hC1.lt)))
      go_ret
      exact ⟨rfl, hB1.trans ((hB2.trans ((((Below.refl _ _).alloc (Nat.le_refl _) _).trans (hB3.mono (by simp))).mono hB2.size)).mono hB1.size)⟩
    case false =>
      by_cases h60 : 60 < N
      · have i1 : (60 : Int) < (N : Int) := by omega
        go_wp2_with (first
          | (go_at_call 18; refine (HL2.out w2).mono ?_; rintro e w3 ⟨rfl, hB3⟩)
          | (go_at_call 18; refine (HL1.out w1 hB1).mono ?_; rintro e w2 ⟨rfl, hB2⟩; obtain ⟨d0, d1, d2, d3, d4, d5, d6, d7, d8, d9⟩ := ten_cells (hC1.below hB2 hC1.lt)))
        go_ret
        exact ⟨rfl, hB1.trans ((hB2.trans ((((Below.refl _ _).alloc (Nat.le_refl _) _).trans (hB3.mono (by simp))).mono hB2.size)).mono hB1.size)⟩
      · have i1 : ¬ (60 : Int) < (N : Int) := by omega
        go_upto_block 0 with (first
          | (go_at_call 18; refine (HL2.out w2).mono ?_; rintro e w3 ⟨rfl, hB3⟩)
          | (go_at_call 18; refine (HL1.out w1 hB1).mono ?_; rintro e w2 ⟨rfl, hB2⟩; obtain ⟨d0, d1, d2, d3, d4, d5, d6, d7, d8, d9⟩ := ten_cells (hC1.below hB2 hC1.lt))
          | fail)
        have hB13 : Below w1.heap.size w1 w3 := hB2.trans ((((Below.refl _ _).alloc (Nat.le_refl _) _).trans (hB3.mono (by simp))).mono hB2.size)
        have hC3 := hC1.below hB13 hC1.lt
        have hBW3 := hB1.trans (hB13.mono hB1.size)
        clear hC1 d0 d1 d2 d3 d4 d5 d6 d7 d8 d9 hB1 hB2 hB3 hB13
        refine turned_split w3 w3 p N c l (HA.out.low hBW3) HN.out (by omega) (Below.refl _ _) ?_
        intro vo va
        intros
        rename_i w4 hT4
        have hW4 := hBW3.trans (hT4.below.mono hBW3.size)
        have hC4 := hC3.below hT4.below hC3.lt
        go_upto_block 2 with (first
          | (refine wpList_append_acts (by rfl) _ _ (by rfl) w4.heap.size _ _ [] (addsOf l) (by rfl) (OwnA.empty w4) (by rfl) (hT4.b.src.low ((Below.refl _ _).alloc (Nat.le_refl _) _)) (by have := List.length_filter_le (fun a : Ac => decide (a.kind = 1) || decide (a.kind = 3)) l; have := HN.out; unfold addsOf; simp; omega) (by simp) ?_; intro v5 w5 hO5 hG5 hM5)
          | fail)
        have hB5 : Below w4.heap.size w4 w5 := ((Below.refl _ _).alloc (Nat.le_refl _) _).trans (below_app (by simp) (OwnA.empty w4) hG5)
        obtain ⟨g, c5, hv5, hg5, hz5⟩ := hO5.some hM5
        have hO5' : OwnA w5 w4.heap.size v5 (addsOf l) := hO5
        obtain ⟨n, hn⟩ : ∃ n, (addsOf l).length = n := ⟨_, rfl⟩
        have hv5 : v5 = .slice (some ⟨g, 0, none⟩) n c5 := by rw [← hn]; exact hv5
        subst hv5
        have hn1 : n ≤ N := by
          rw [← hn, ← HN.out]
          exact List.length_filter_le _ _
        clear hO5 hM5 hG5
        refine turned_swap w4 w5 tp T tc g n c5 zs (addsOf l) (HI.out.low hW4) HT.out hB5 hg5 hO5'.row hn hz5 (by omega) ?_
        intros
        rename_i w6 ls hlen hmem hR6 hB6 hz6
        have hs1 : SrcA w6 vo (opensOf l) := hT4.a.src.low hB6
        have hs2 : SrcA w6 va (addsOf l) := hT4.b.src.low hB6
        have hs3 : SrcA w6 (.slice (some ⟨g, 0, none⟩) n c5) ls := .inr ⟨g, c5, by rw [hlen], hz6, fun i a ha => (hR6 i a ha).1⟩
        have hsl := split_len l
        have hN := HN.out
        have hk0 : ∀ a ∈ opensOf l, a.kind = 0 ∧ a ∈ l := fun a ha => by
          obtain ⟨h1, h2⟩ := List.mem_filter.1 ha
          exact ⟨by simpa using h2, h1⟩
        have hk1 : ∀ a ∈ addsOf l, (a.kind = 1 ∨ a.kind = 3) ∧ a ∈ l := fun a ha => by
          obtain ⟨h1, h2⟩ := List.mem_filter.1 ha
          exact ⟨by simpa using h2, h1⟩
        have hf1 : ∀ a ∈ opensOf l ++ addsOf l, Fits a := fun a ha => HF.out a ((List.mem_append.1 ha).elim (fun h => (hk0 a h).2) fun h => (hk1 a h).2)
        have ha1 : ∀ a ∈ opensOf l ++ addsOf l, adds a := fun a ha => (List.mem_append.1 ha).elim (fun h => .inl (hk0 a h).1) fun h => (hk1 a h).1.elim (fun h => .inr (.inl h)) fun h => .inr (.inr h)
        have hf2 : ∀ a ∈ opensOf l ++ ls, Fits a := fun a ha => hf1 a (List.mem_append.2 ((List.mem_append.1 ha).imp id fun h => (hmem a).1 h))
        have ha2 : ∀ a ∈ opensOf l ++ ls, adds a := fun a ha => ha1 a (List.mem_append.2 ((List.mem_append.1 ha).imp id fun h => (hmem a).1 h))
        have hl1 : (opensOf l ++ addsOf l).length ≤ 63 := by rw [List.length_append]; omega
        have hl2 : (opensOf l ++ ls).length ≤ 63 := by rw [List.length_append]; omega
        have HF1 := Lib.hid (fun w v (h : ActsAt w v (opensOf l ++ addsOf l)) => filled_calls w v _ h hl1 hf1 ha1)
        have HF2 := Lib.hid (fun w v (h : ActsAt w v (opensOf l ++ ls)) => filled_calls w v _ h hl2 hf2 ha2)
        have HS := Lib.hid (And.intro ((fill_small _ hf1).mono hl1) (And.intro ((fill_small _ hf2).mono hl2) (turned_same (opensOf l) (addsOf l) ls (fun a h => (hk1 a h).1) hmem tenant who what key)))
        have HLEN := Lib.hid (show (opensOf l).length ≤ 1000 ∧ (addsOf l).length ≤ 1000 ∧ ls.length ≤ 1000 by omega)
        have hW6 := hW4.trans (hB6.mono hW4.size)
        have hC6 := hC4.below hB6 hC4.lt
        clear hk0 hk1 hf1 ha1 hf2 ha2 hl1 hl2 hsl hlen hmem hR6 hB6 hz6 hT4 hO5' hB5 hz5 hg5 hC3 hC4 hBW3 hW4
        go_upto_region 21 with (first
          | (go_at_call 20; refine (HF2.out w11 v11 hO11.acts).mono ?_; rintro e w12 ⟨k2, rfl, hK2⟩)
          | (refine wpList_append_acts (by rfl) _ _ (by rfl) w9.heap.size _ _ (opensOf l) ls (by rfl) hO10 (by rfl) (hs3.low (hB9.trans (hB10.mono hB9.size))) (by have := HLEN.out; omega) hB10.size ?_; intro v11 w11 hO11 hG11 hM11; have hB11 := hB10.trans (below_app hB10.size hO10 hG11))
          | (refine wpList_append_acts (by rfl) _ _ (by rfl) w9.heap.size _ _ [] (opensOf l) (by rfl) (OwnA.empty w9) (by rfl) (hs1.low (hB9.alloc hB9.size _)) (by have := HLEN.out; simp; omega) (by simp) ?_; intro v10 w10 hO10 hG10 hM10; have hB10 : Below w9.heap.size w9 w10 := ((Below.refl _ _).alloc (Nat.le_refl _) _).trans (below_app (by simp) (OwnA.empty w9) hG10))
          | (go_at_call 20; refine (HF1.out w8 v8 hO8.acts).mono ?_; rintro e w9 ⟨k1, rfl, hK1⟩; have hB9 := hB8.trans ((book_below hK1).mono hB8.size))
          | (refine wpList_append_acts (by rfl) _ _ (by rfl) w6.heap.size _ _ (opensOf l) (addsOf l) (by rfl) hO7 (by rfl) (hs2.low hB7) (by have := HLEN.out; omega) hB7.size ?_; intro v8 w8 hO8 hG8 hM8; have hB8 := hB7.trans (below_app hB7.size hO7 hG8))
          | (refine wpList_append_acts (by rfl) _ _ (by rfl) w6.heap.size _ _ [] (opensOf l) (by rfl) (OwnA.empty w6) (by rfl) (hs1.low ((Below.refl _ _).alloc (Nat.le_refl _) _)) (by have := HLEN.out; simp; omega) (by simp) ?_; intro v7 w7 hO7 hG7 hM7; have hB7 : Below w6.heap.size w6 w7 := ((Below.refl _ _).alloc (Nat.le_refl _) _).trans (below_app (by simp) (OwnA.empty w6) hG7))
          | fail)
        have hB12 := hB9.trans ((hB11.trans ((book_below hK2).mono hB11.size)).mono hB9.size)
        have hK1' := hK1.on (hB11.trans ((book_below hK2).mono hB11.size))
        refine turned_ask W w8 w11 w12 B k1 k2 (fillT (opensOf l ++ addsOf l)) (fillT (opensOf l ++ ls)) kind tenant role who rwho rwhat rkey deny what key ⟨hK1', hK2, hC6.below hB12 hC6.lt, hW6.trans (hB12.mono hW6.size)⟩ HS.out.1 HS.out.2.1 HS.out.2.2 ?_
        intros
        rename_i w13 hB13
        go_wp2
        go_ret
        exact ⟨rfl, hB13⟩

end Go.Proofs.Ytglcingpolpkdaa
