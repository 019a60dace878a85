/- Long and filled: what they compute. -/
import Derived.Laws.AppendOwnNone
import Derived.Deep.RegionHeld3
import Derived.Deep.RegionHeldLaw
import Derived.Test.YtglcingpolpkdaaAActs
namespace Go.Proofs.Ytglcingpolpkdaa
open Go.RowKit

def sumA (a : Ac) : Nat := a.tenant.size + a.role.size + a.who.size + a.r.who.size + a.r.key.size + a.key.size
def longB (l : List Ac) : Bool := l.any (fun a => decide (500 < sumA a)) || decide (400 < l.length)
theorem long_here {l : List Ac} {k : Nat} {a : Ac} (h : l[k]? = some a) (hs : 500 < sumA a) : longB l = true := by
  unfold longB
  rw [show (l.any fun a => decide (500 < sumA a)) = true from List.any_eq_true.2 ⟨a, List.mem_of_getElem? h, by simpa using hs⟩]
  rfl
theorem long_none {l : List Ac} (h : ∀ (j : Nat) a, j < l.length → l[j]? = some a → sumA a ≤ 500) : longB l = decide (400 < l.length) := by
  unfold longB
  rw [show (l.any fun a => decide (500 < sumA a)) = false from List.any_eq_false.2 fun a ha => by
    obtain ⟨j, hj⟩ := List.mem_iff_getElem?.1 ha
    have := h j a (List.getElem?_eq_some_iff.1 hj).1 hj
    simpa using this]
  rfl

set_option maxRecDepth 100000 in
set_option maxHeartbeats 2000000 in
theorem long_calls (w : World) (v : Value) (l : List Ac) (h : ActsAt w v l) (hl : l.length ≤ 9223372036854775807) (hf : ∀ a ∈ l, Fits a) :
    Calls Try.prog 18 #[v] w fun e w' => e = .returned (.bool (longB l)) ∧ Below w.heap.size w w' := by
  obtain ⟨N, hN⟩ : ∃ N, l.length = N := ⟨_, rfl⟩
  obtain ⟨p, c, hv⟩ : ∃ p c, v = .slice p N c := by
    obtain ⟨a, c, h⟩ := h.len
    exact ⟨a, c, by rw [← hN]; exact h⟩
  subst hv
  rw [hN] at hl
  have HN := Lib.hid hN
  have HF := Lib.hid hf
  have HA := Lib.hid h
  clear hN h hf
  go_enter Try.func18, Try.ntmps18
  go_wp2
  go_loopw [3] (fun i wr => ∃ k : Nat, k ≤ N ∧ i = .int .i64 k ∧ (∀ (j : Nat) a, j < k → l[j]? = some a → sumA a ≤ 500) ∧ Below w.heap.size w wr) (fun i _ => N - (intOf i).toNat)
  case atStart => exact ⟨0, by omega, rfl, fun j a hj => absurd hj (by omega), Below.refl _ _⟩
  case round =>
    obtain ⟨k, hkN, rfl, hno, hB⟩ := hrel
    by_cases hlt : k < N
    · obtain ⟨a, hp⟩ : ∃ a, l[k]? = some a := ⟨_, List.getElem?_eq_getElem (by rw [HN.out]; exact hlt)⟩
      obtain ⟨b, off, rfl, hb, hc⟩ := (HA.out.low hB).at hp
      have hfa := HF.out a (List.mem_of_getElem? hp)
      have c1 := hc 1 _ rfl
      have c2 := hc 2 _ rfl
      have c3 := hc 3 _ rfl
      have c4 : wr.cell? ⟨b, off + k * 10 + 4, none⟩ = some (.string a.r.who) := hc 4 _ rfl
      have c6 : wr.cell? ⟨b, off + k * 10 + 4 + 2, none⟩ = some (.string a.r.key) := hc 6 _ rfl
      have c6' : wr.cell? ⟨b, off + k * 10 + 6, none⟩ = some (.string a.r.key) := hc 6 _ rfl
      have c9 := hc 9 _ rfl
      have hs : sumA a = a.tenant.size + a.role.size + a.who.size + a.r.who.size + a.r.key.size + a.key.size := rfl
      obtain ⟨f1, f2, f3, f4, f5, f6⟩ := hfa
      obtain ⟨kind, tenant, role, who, ⟨rwho, rwhat, rkey, deny⟩, what, key⟩ := a
      simp only at f1 f2 f3 f4 f5 f6 c1 c2 c3 c4 c6 c6' c9 hs
      have s1 : IntKind.i64.wrap ((tenant.size : Int) + (role.size : Int)) = (tenant.size : Int) + (role.size : Int) := IntWalk.i64_in _ (by omega)
      have s2 : IntKind.i64.wrap ((tenant.size : Int) + (role.size : Int) + (who.size : Int)) = (tenant.size : Int) + (role.size : Int) + (who.size : Int) := IntWalk.i64_in _ (by omega)
      have s3 : IntKind.i64.wrap ((tenant.size : Int) + (role.size : Int) + (who.size : Int) + (rwho.size : Int)) = (tenant.size : Int) + (role.size : Int) + (who.size : Int) + (rwho.size : Int) := IntWalk.i64_in _ (by omega)
      have s4 : IntKind.i64.wrap ((tenant.size : Int) + (role.size : Int) + (who.size : Int) + (rwho.size : Int) + (rkey.size : Int)) = (tenant.size : Int) + (role.size : Int) + (who.size : Int) + (rwho.size : Int) + (rkey.size : Int) := IntWalk.i64_in _ (by omega)
      have s5 : IntKind.i64.wrap ((tenant.size : Int) + (role.size : Int) + (who.size : Int) + (rwho.size : Int) + (rkey.size : Int) + (key.size : Int)) = (tenant.size : Int) + (role.size : Int) + (who.size : Int) + (rwho.size : Int) + (rkey.size : Int) + (key.size : Int) := IntWalk.i64_in _ (by omega)
      have i1 : (k : Int) < (N : Int) := by omega
      have i2 : 0 ≤ (k : Int) ∧ (k : Int) < (N : Int) := by omega
      have b2 : IntKind.i64.wrap ((k : Int) + 1) = (k : Int) + 1 := IntWalk.i64_in _ (by omega)
      have hD : Below wr.heap.size wr wr.drew := (Below.refl _ _).drew
      have HP := Lib.hid hp
      have HO := Lib.hid hno
      have HS := Lib.hid hs
      clear hc hp hno f1 f2 f3 f4 f5 f6 hs
      go_wp2
      go_still (by kernel_rfl)
      change Exit.then _ _ Exit.normal _ wr.drew
      have hB2 := hB.trans (hD.mono hB.size)
      clear c1 c2 c3 c4 c6 c6' c9
      generalize wr.drew = w2 at hB2 ⊢
      by_cases h5 : (500 : Int) < (tenant.size : Int) + (role.size : Int) + (who.size : Int) + (rwho.size : Int) + (rkey.size : Int) + (key.size : Int)
      · have hh := long_here HP.out (by rw [HS.out]; omega)
        go_wp2
        go_ret
        exact ⟨by rw [hh]; rfl, hB2⟩
      · go_wp2
        go_roundw
        case rel => exact ⟨k + 1, by omega, by go_num, fun j a hj ha => by
          by_cases hjk : j = k
          · subst hjk
            rw [HP.out] at ha
            injection ha with ha
            rw [← ha, HS.out]
            omega
          · exact HO.out j a (by omega) ha, hB2⟩
        case measure => simp [intOf]; omega
    · obtain rfl : k = N := by omega
      have i1 : ¬ (k : Int) < (k : Int) := by omega
      have hh := long_none (l := l) (fun j a hj ha => hno j a (by rw [HN.out] at hj; exact hj) ha)
      rw [HN.out] at hh
      by_cases h4 : (400 : Int) < (k : Int)
      · rw [show decide (400 < k) = true from decide_eq_true (by omega)] at hh
        go_wp2
        go_ret
        exact ⟨by first | rfl | (rw [hh]; rfl), hB⟩
      · rw [show decide (400 < k) = false from decide_eq_false (by omega)] at hh
        go_wp2
        go_ret
        exact ⟨by first | rfl | (rw [hh]; rfl), hB⟩

def fillT (l : List Ac) : List Tn := l.foldl doT []
theorem fill_small : ∀ (l : List Ac), (∀ a ∈ l, Fits a) → Small l.length (fillT l) := by
  have key : ∀ (l : List Ac) (k : Nat) (ts : List Tn), Small k ts → (∀ a ∈ l, Fits a) → Small (k + l.length) (l.foldl doT ts) := fun l => by
    induction l with
    | nil => exact fun k ts h _ => h
    | cons a l ih =>
      intro k ts h hf
      have := ih (k + 1) (doT ts a) (doT_small h (by have := (hf a (by simp)).rkey; omega)) fun b hb => hf b (by simp [hb])
      rw [List.foldl_cons, List.length_cons]
      rwa [Nat.add_assoc, Nat.add_comm 1] at this
  intro l hf
  have := key l 0 [] ⟨Nat.le_refl _, fun t ht => by cases ht⟩ hf
  rwa [Nat.zero_add] at this

set_option maxRecDepth 100000 in
set_option maxHeartbeats 2000000 in
theorem filled_calls (w : World) (v : Value) (l : List Ac) (h : ActsAt w v l) (hl : l.length ≤ 63) (hf : ∀ a ∈ l, Fits a) (hk : ∀ a ∈ l, adds a) :
    Calls Try.prog 20 #[v] w fun e w' => ∃ b, e = .returned (.pointer (some ⟨b, 0, none⟩)) ∧ BookIs w w' b (fillT l) := by
  obtain ⟨N, hN⟩ : ∃ N, l.length = N := ⟨_, rfl⟩
  obtain ⟨p, c, hv⟩ : ∃ p c, v = .slice p N c := by
    obtain ⟨a, c, h⟩ := h.len
    exact ⟨a, c, by rw [← hN]; exact h⟩
  subst hv
  rw [hN] at hl
  have HN := Lib.hid hN
  have HF := Lib.hid hf
  have HA := Lib.hid h
  have HK := Lib.hid hk
  have HNEW := Lib.hid (new_calls w)
  clear hN h hf hk
  go_enter Try.func20, Try.ntmps20
  go_wp2_with (go_at_call 12; refine HNEW.out.mono ?_; rintro e w1 ⟨b, rfl, m, hB1⟩)
  have hI0 : BookIs w w1 b [] := ⟨m, _, _, Books.new hB1⟩
  clear hB1 HNEW
  go_loopw [4] (fun i wr => ∃ k : Nat, k ≤ N ∧ i = .int .i64 k ∧ BookIs w wr b (fillT (l.take k))) (fun i _ => N - (intOf i).toNat)
  case atStart => exact ⟨0, by omega, rfl, hI0⟩
  case round =>
    obtain ⟨k, hkN, rfl, hI⟩ := hrel
    clear hI0
    by_cases hlt : k < N
    · obtain ⟨a, hp⟩ : ∃ a, l[k]? = some a := ⟨_, List.getElem?_eq_getElem (by rw [HN.out]; exact hlt)⟩
      have hb0 : Below w.heap.size w wr := by
        obtain ⟨_, _, _, h⟩ := hI
        exact h.book.below
      obtain ⟨ab, off, rfl, _, hrng⟩ := (HA.out.low hb0).at hp
      have hsm : Small 63 (fillT (l.take k)) := (fill_small (l.take k) fun a ha => HF.out a (List.mem_of_mem_take ha)).mono (by simp; omega)
      have hnx : fillT (l.take (k + 1)) = doT (fillT (l.take k)) a := by
        have hk' : k < l.length := (List.getElem?_eq_some_iff.1 hp).1
        unfold fillT
        rw [List.take_succ_eq_append_getElem hk', (List.getElem?_eq_some_iff.1 hp).2, List.foldl_append]
        rfl
      have HD := Lib.hid (done_calls w wr b _ a hI hsm (HK.out a (List.mem_of_getElem? hp)) (by have := (HF.out a (List.mem_of_getElem? hp)).rkey; omega))
      have i1 : (k : Int) < (N : Int) := by omega
      have i2 : 0 ≤ (k : Int) ∧ (k : Int) < (N : Int) := by omega
      have b2 : IntKind.i64.wrap ((k : Int) + 1) = (k : Int) + 1 := IntWalk.i64_in _ (by omega)
      have HX := Lib.hid hnx
      clear hI hsm hnx hp hb0
      go_wp2_with (first
        | (refine wpList_load_mid (by rfl) 38 _ (by rfl) ab (off + k * 10) (by rfl) a.cells _ hrng Try.underlying38 (by rfl) size_ac ?_)
        | (go_at_call 51; refine HD.out.mono ?_; rintro e w2 ⟨⟨z, rfl⟩, hI2⟩))
      go_roundw
      case rel => exact ⟨k + 1, by omega, by go_num, by rw [HX.out]; exact hI2⟩
      case measure => simp [intOf]; omega
    · obtain rfl : k = N := by omega
      rw [← HN.out, List.take_length] at hI
      have i1 : ¬ (k : Int) < (k : Int) := by omega
      go_wp2
      go_ret
      exact ⟨b, rfl, hI⟩

end Go.Proofs.Ytglcingpolpkdaa

/- Rows of calls: one more; two exchanged. -/
namespace Go.Proofs.Ytglcingpolpkdaa
open Go.RowKit

theorem info_ac : ∃ i, Try.prog.info? 38 = some i ∧ i.zero = some (.agg #[.int .u8 0, .string ⟨#[]⟩, .string ⟨#[]⟩, .string ⟨#[]⟩, .string ⟨#[]⟩, .int .i64 0, .string ⟨#[]⟩, .bool false, .int .i64 0, .string ⟨#[]⟩]) ∧ i.size = 10 ∧ i.bytes = 128 := info_of (by kernel_rfl)

theorem below_setCells {B : Nat} {a : World} (g : Nat) (hg : B ≤ g) : ∀ (vs : List Value) (o : Nat) (w : World), Below B a w → Below B a (w.setCells g o vs)
  | [], _, _, h => h
  | v :: vs, o, _, h => below_setCells g hg vs (o + 1) _ (h.setCell (p := ⟨g, o, none⟩) hg v)
theorem size_cells (g : Nat) : ∀ (vs : List Value) (o : Nat) (w : World), (w.setCells g o vs).heap.size = w.heap.size
  | [], _, _ => rfl
  | v :: vs, o, w => (size_cells g vs (o + 1) _).trans (by simp)

theorem flat_inv {α : Type} {f : α → List Value} {n : Nat} (hf : ∀ a, (f a).length = n) : ∀ (l : List α) (j : Nat) (x : Value), (l.flatMap f)[j]? = some x → ∃ i r a, j = i * n + r ∧ l[i]? = some a ∧ (f a)[r]? = some x
  | [], j, x, h => by simp at h
  | a :: l, j, x, h => by
    rw [List.flatMap_cons] at h
    by_cases hj : j < (f a).length
    · rw [List.getElem?_append_left hj] at h
      exact ⟨0, j, a, by simp, rfl, h⟩
    · rw [List.getElem?_append_right (by omega)] at h
      obtain ⟨i, r, b, h1, h2, h3⟩ := flat_inv hf l _ x h
      refine ⟨i + 1, r, b, ?_, by simpa using h2, h3⟩
      rw [hf] at h1 hj
      rw [Nat.succ_mul]
      omega
theorem flat_length (l : List Ac) : (l.flatMap Ac.cells).length = l.length * 10 := by
  induction l with
  | nil => rfl
  | cons a l ih => rw [List.flatMap_cons, List.length_append, ih, cells_ac, List.length_cons, Nat.succ_mul, Nat.add_comm]

/-- Calls in a block of their own: what can be appended. -/
def SrcA (w : World) (v : Value) (l : List Ac) : Prop :=
  (v = .slice none 0 0 ∧ l = []) ∨ ∃ g c, v = .slice (some ⟨g, 0, none⟩) l.length c ∧ g < w.heap.size ∧ ∀ i a, l[i]? = some a → w.rangeAt g (i * 10) a.cells
theorem SrcA.acts {w : World} {v : Value} {l : List Ac} (h : SrcA w v l) : ActsAt w v l := by
  rcases h with ⟨rfl, rfl⟩ | ⟨g, c, rfl, hg, hc⟩
  · exact .inl ⟨none, 0, rfl, rfl⟩
  · exact .inr ⟨g, 0, c, rfl, hg, fun i a ha => by rw [Nat.zero_add]; exact hc i a ha⟩
theorem SrcA.low {w w' : World} {v : Value} {l : List Ac} (h : SrcA w v l) (hb : Below w.heap.size w w') : SrcA w' v l := by
  rcases h with h | ⟨g, c, rfl, hg, hc⟩
  · exact .inl h
  · exact .inr ⟨g, c, rfl, Nat.lt_of_lt_of_le hg hb.size, fun i a ha j u hj => (hb.cell (p := ⟨g, i * 10 + j, none⟩) hg).trans (hc i a ha j u hj)⟩
theorem OwnA.src {w : World} {B : Nat} {v : Value} {l : List Ac} (h : OwnA w B v l) : SrcA w v l := by
  rcases row_shape h with ⟨rfl, hn⟩ | ⟨g, cap, rfl, _, hg, hc⟩
  · exact .inl ⟨rfl, List.eq_nil_of_length_eq_zero hn⟩
  · exact .inr ⟨g, cap, rfl, hg, fun i a ha j u hj => hc _ _ (flat_at cells_ac l i a j u ha hj)⟩
theorem SrcA.new (w : World) (a : Ac) : SrcA (w.alloc (.cells a.cells.toArray 38)) (.slice (some ⟨w.heap.size, 0, none⟩) 1 1) [a] := by
  refine .inr ⟨w.heap.size, 1, rfl, by simp, fun i b hb j u hj => ?_⟩
  have hi : i = 0 := by
    have := (List.getElem?_eq_some_iff.1 hb).1
    simpa using this
  subst hi
  have : a = b := by simpa using hb
  subst this
  rw [Nat.zero_mul, Nat.zero_add]
  rw [(Whole.new w 38 a.cells.toArray).cell]
  exact hj

theorem wpList_append_acts {w : World} {ops : Array Oper} {rest : List Oper} {o : Oper} {a : Act} {Q : Exit → Act → World → Prop} (hgd : o.guard = none) (s x : Operand)
    (ho : o.op = .call { callee := .builtin .append, args := #[s, x], argTypes := #[35, 35] })
    (B : Nat) (v u : Value) (l m : List Ac) (hs : a.eval s = v) (hown : OwnA w B v l) (hx : a.eval x = u) (hu : SrcA w u m) (hlen : l.length + m.length ≤ 1000000) (hbase : B ≤ w.heap.size)
    (h : ∀ v' w', OwnA w' B v' (l ++ m) → w.grownBy w' v.ownBlock → Moved w v v' → wpList Try.prog ops Q rest (a.put o.dst v') w') :
    wpList Try.prog ops Q (o :: rest) a w := by
  obtain ⟨i, hi, hz, hsz, hby⟩ := info_ac
  rcases hu with ⟨rfl, rfl⟩ | ⟨g, c, rfl, hg, hc⟩
  · refine wpList_append_own_none hgd s x _ ho B _ i 10 Try.underlying35 hi v l.length (l.flatMap Ac.cells) hs hown hx (h v w ?_ (World.grownBy.refl _ _) (.inl rfl))
    rw [List.append_nil]
    exact hown
  · refine wpList_append_own_at w hgd s x _ ho B _ i _ 10 128 Try.underlying35 hi hz hsz hby rfl (by decide) v l.length (l.flatMap Ac.cells) hs hown ⟨g, 0, none⟩ m.length c (m.flatMap Ac.cells) hx (flat_length m) (fun j y hj => ?_) (fun y hy => ?_) (by simp only [maxLen]; omega) (by omega) hbase fun v' w' h1 h2 _ h4 => h v' w' ?_ h2 (h4.imp id fun h => ⟨_, h, Nat.le_refl _⟩)
    · obtain ⟨k, r, b, rfl, hb, hr⟩ := flat_inv cells_ac m j y hj
      have := hc k b hb r y hr
      rwa [Addr.add_mid, Nat.zero_add]
    · obtain ⟨b, _, hb⟩ := List.mem_flatMap.1 hy
      exact cells_one b y hb
    · unfold OwnA
      rw [List.length_append, List.flatMap_append]
      exact h1

/-- Two rows of the law's own. -/
structure Two (W w : World) (u v : Value) (l m : List Ac) : Prop where
  a : OwnA w W.heap.size u l
  b : OwnA w W.heap.size v m
  ne : ∀ g, u.ownBlock = some g → v.ownBlock ≠ some g
  below : Below W.heap.size W w
theorem Two.symm {W w : World} {u v : Value} {l m : List Ac} (h : Two W w u v l m) : Two W w v u m l := ⟨h.b, h.a, fun g h1 h2 => h.ne g h2 h1, h.below⟩
theorem Two.on {W w w' : World} {u v : Value} {l m : List Ac} (h : Two W w u v l m) (hb : Below w.heap.size w w') : Two W w' u v l m := ⟨row_low h.a hb, row_low h.b hb, h.ne, h.below.trans (hb.mono h.below.size)⟩
theorem Two.more {W w w' : World} {u v u' : Value} {l l' m : List Ac} (h : Two W w u v l m) (ho : OwnA w' W.heap.size u' l') (hg : w.grownBy w' u.ownBlock) (hm : Moved w u u') : Two W w' u' v l' m := by
  have o := Only.of_grown hg
  refine ⟨ho, row_only h.b o fun g hg e => h.ne g e hg, fun g h1 h2 => ?_, h.below.trans (o.below h.below.size fun i _ e => own_ge h.a e)⟩
  rcases hm with hm | ⟨k, hk, hl⟩
  · exact h.ne g (hm ▸ h1) h2
  · rw [hk] at h1
    injection h1 with h1
    have := row_lt h.b h2
    omega

/-- Calls in block g, which can be written over. -/
def RowA (w : World) (g : Nat) (l : List Ac) : Prop := ∀ i a, l[i]? = some a → w.rangeAt g (i * 10) a.cells ∧ w.there g (i * 10) 10
theorem RowA.set {w : World} {g x : Nat} {l : List Ac} (h : RowA w g l) (hx : x < l.length) (a : Ac) : RowA (w.setCells g (x * 10) a.cells) g (l.set x a) := by
  intro i b hb
  have hi : i < l.length := by
    have := (List.getElem?_eq_some_iff.1 hb).1
    simpa using this
  obtain ⟨h1, h2⟩ := h i _ (List.getElem?_eq_getElem hi)
  have hl := cells_ac a
  generalize hcs : a.cells = cs at hl ⊢
  refine ⟨?_, World.there_setCells h2 g (x * 10) cs⟩
  by_cases hix : i = x
  · rw [hix, List.getElem?_set_self hx] at hb
    have hb := Option.some.inj hb
    rw [← hb, hcs, hix]
    rw [hix] at h2
    exact World.rangeAt_setCells_same w g (x * 10) cs (hl ▸ h2)
  · rw [List.getElem?_set_ne (Ne.symm hix), List.getElem?_eq_getElem hi] at hb
    have hb := Option.some.inj hb
    rw [← hb]
    exact World.rangeAt_setCells_apart h1 g (x * 10) cs (.inr (by rw [cells_ac, hl]; omega))
theorem OwnA.row {w : World} {B g n c : Nat} {l : List Ac} (h : OwnA w B (.slice (some ⟨g, 0, none⟩) n c) l) : RowA w g l := fun i a ha => by
  rcases h.2 with ⟨he, _⟩ | ⟨g', cap, cur, he, hb, hg, hle, hm, hsz, htk⟩
  · cases he
  · injection he with he _ _
    injection he with he
    injection he with he _ _
    subst he
    have hi : i < l.length := (List.getElem?_eq_some_iff.1 ha).1
    have hcell : ∀ j u, a.cells[j]? = some u → w.cell? ⟨g, i * 10 + j, none⟩ = some u := fun j u hj => by
      rw [cell_of_row w g _ cur _ _ hg]
      have h1 := flat_at cells_ac l i a j u ha hj
      have hj10 : j < 10 := by
        have := (List.getElem?_eq_some_iff.1 hj).1
        rwa [cells_ac] at this
      rw [← htk, List.getElem?_take, if_pos (by omega)] at h1
      simpa using h1
    exact ⟨hcell, fun j hj => ⟨by rw [hcell j _ (List.getElem?_eq_getElem (by rw [cells_ac]; exact hj))]; rfl, frozen_of_row w g _ cur _ hg⟩⟩

end Go.Proofs.Ytglcingpolpkdaa
