/- Long and filled: what they compute. -/
import Derived.Test.YtglcingpolpkdaaAActs
namespace Go.Proofs.Ytglcingpolpkdaa
open Go.RowKit

def sumA (a : Ac) : Nat := a.tenant.size + a.role.size + a.who.size + a.r.who.size + a.r.key.size + a.key.size
def longB (l : List Ac) : Bool := l.any (fun a => decide (500 < sumA a)) || decide (400 < l.length)
theorem long_here {l : List Ac} {k : Nat} {a : Ac} (h : l[k]? = some a) (hs : 500 < sumA a) : longB l = true := by
  unfold longB
  rw [show (l.any fun a => decide (500 < sumA a)) = true from List.any_eq_true.2 ⟨a, List.mem_of_getElem? h, by simpa using hs⟩]
  rfl
theorem long_none {l : List Ac} (h : ∀ (j : Nat) a, j < l.length → l[j]? = some a → sumA a ≤ 500) : longB l = decide (400 < l.length) := by
  unfold longB
  rw [show (l.any fun a => decide (500 < sumA a)) = false from List.any_eq_false.2 fun a ha => by
    obtain ⟨j, hj⟩ := List.mem_iff_getElem?.1 ha
    have := h j a (List.getElem?_eq_some_iff.1 hj).1 hj
    simpa using this]
  rfl

set_option maxRecDepth 100000 in
set_option maxHeartbeats 2000000 in
theorem long_calls (w : World) (v : Value) (l : List Ac) (h : ActsAt w v l) (hl : l.length ≤ 9223372036854775807) (hf : ∀ a ∈ l, Fits a) :
    Calls Try.prog 18 #[v] w fun e w' => e = .returned (.bool (longB l)) ∧ Below w.heap.size w w' := by
  obtain ⟨N, hN⟩ : ∃ N, l.length = N := ⟨_, rfl⟩
  obtain ⟨p, c, hv⟩ : ∃ p c, v = .slice p N c := by
    obtain ⟨a, c, h⟩ := h.len
    exact ⟨a, c, by rw [← hN]; exact h⟩
  subst hv
  rw [hN] at hl
  have HN := Lib.hid hN
  have HF := Lib.hid hf
  have HA := Lib.hid h
  clear hN h hf
  go_enter Try.func18, Try.ntmps18
  go_wp2
  go_loopw [3] (fun i wr => ∃ k : Nat, k ≤ N ∧ i = .int .i64 k ∧ (∀ (j : Nat) a, j < k → l[j]? = some a → sumA a ≤ 500) ∧ Below w.heap.size w wr) (fun i _ => N - (intOf i).toNat)
  case atStart => exact ⟨0, by omega, rfl, fun j a hj => absurd hj (by omega), Below.refl _ _⟩
  case round =>
    obtain ⟨k, hkN, rfl, hno, hB⟩ := hrel
    by_cases hlt : k < N
    · obtain ⟨a, hp⟩ : ∃ a, l[k]? = some a := ⟨_, List.getElem?_eq_getElem (by rw [HN.out]; exact hlt)⟩
      obtain ⟨b, off, rfl, hb, hc⟩ := (HA.out.low hB).at hp
      have hfa := HF.out a (List.mem_of_getElem? hp)
      have c1 := hc 1 _ rfl
      have c2 := hc 2 _ rfl
      have c3 := hc 3 _ rfl
      have c4 : wr.cell? ⟨b, off + k * 10 + 4, none⟩ = some (.string a.r.who) := hc 4 _ rfl
      have c6 : wr.cell? ⟨b, off + k * 10 + 4 + 2, none⟩ = some (.string a.r.key) := hc 6 _ rfl
      have c6' : wr.cell? ⟨b, off + k * 10 + 6, none⟩ = some (.string a.r.key) := hc 6 _ rfl
      have c9 := hc 9 _ rfl
      have hs : sumA a = a.tenant.size + a.role.size + a.who.size + a.r.who.size + a.r.key.size + a.key.size := rfl
      obtain ⟨f1, f2, f3, f4, f5, f6⟩ := hfa
      obtain ⟨kind, tenant, role, who, ⟨rwho, rwhat, rkey, deny⟩, what, key⟩ := a
      simp only at f1 f2 f3 f4 f5 f6 c1 c2 c3 c4 c6 c6' c9 hs
      have s1 : IntKind.i64.wrap ((tenant.size : Int) + (role.size : Int)) = (tenant.size : Int) + (role.size : Int) := IntWalk.i64_in _ (by omega)
      have s2 : IntKind.i64.wrap ((tenant.size : Int) + (role.size : Int) + (who.size : Int)) = (tenant.size : Int) + (role.size : Int) + (who.size : Int) := IntWalk.i64_in _ (by omega)
      have s3 : IntKind.i64.wrap ((tenant.size : Int) + (role.size : Int) + (who.size : Int) + (rwho.size : Int)) = (tenant.size : Int) + (role.size : Int) + (who.size : Int) + (rwho.size : Int) := IntWalk.i64_in _ (by omega)
      have s4 : IntKind.i64.wrap ((tenant.size : Int) + (role.size : Int) + (who.size : Int) + (rwho.size : Int) + (rkey.size : Int)) = (tenant.size : Int) + (role.size : Int) + (who.size : Int) + (rwho.size : Int) + (rkey.size : Int) := IntWalk.i64_in _ (by omega)
      have s5 : IntKind.i64.wrap ((tenant.size : Int) + (role.size : Int) + (who.size : Int) + (rwho.size : Int) + (rkey.size : Int) + (key.size : Int)) = (tenant.size : Int) + (role.size : Int) + (who.size : Int) + (rwho.size : Int) + (rkey.size : Int) + (key.size : Int) := IntWalk.i64_in _ (by omega)
      have i1 : (k : Int) < (N : Int) := by omega
      have i2 : 0 ≤ (k : Int) ∧ (k : Int) < (N : Int) := by omega
      have b2 : IntKind.i64.wrap ((k : Int) + 1) = (k : Int) + 1 := IntWalk.i64_in _ (by omega)
      have hD : Below wr.heap.size wr wr.drew := (Below.refl _ _).drew
      have HP := Lib.hid hp
      have HO := Lib.hid hno
      have HS := Lib.hid hs
      clear hc hp hno f1 f2 f3 f4 f5 f6 hs
      go_wp2
      go_still (by kernel_rfl)
      change Exit.then _ _ Exit.normal _ wr.drew
      have hB2 := hB.trans (hD.mono hB.size)
      clear c1 c2 c3 c4 c6 c6' c9
      generalize wr.drew = w2 at hB2 ⊢
      by_cases h5 : (500 : Int) < (tenant.size : Int) + (role.size : Int) + (who.size : Int) + (rwho.size : Int) + (rkey.size : Int) + (key.size : Int)
      · have hh := long_here HP.out (by rw [HS.out]; omega)
        go_wp2
        go_ret
        exact ⟨by rw [hh]; rfl, hB2⟩
      · go_wp2
        go_roundw
        case rel => exact ⟨k + 1, by omega, by go_num, fun j a hj ha => by
          by_cases hjk : j = k
          · subst hjk
            rw [HP.out] at ha
            injection ha with ha
            rw [← ha, HS.out]
            omega
          · exact HO.out j a (by omega) ha, hB2⟩
        case measure => simp [intOf]; omega
    · obtain rfl : k = N := by omega
      have i1 : ¬ (k : Int) < (k : Int) := by omega
      have hh := long_none (l := l) (fun j a hj ha => hno j a (by rw [HN.out] at hj; exact hj) ha)
      rw [HN.out] at hh
      by_cases h4 : (400 : Int) < (k : Int)
      · rw [show decide (400 < k) = true from decide_eq_true (by omega)] at hh
        go_wp2
        go_ret
        exact ⟨by first | rfl | (rw [hh]; rfl), hB⟩
      · rw [show decide (400 < k) = false from decide_eq_false (by omega)] at hh
        go_wp2
        go_ret
        exact ⟨by first | rfl | (rw [hh]; rfl), hB⟩

def fillT (l : List Ac) : List Tn := l.foldl doT []
theorem fill_small : ∀ (l : List Ac), (∀ a ∈ l, Fits a) → Small l.length (fillT l) := by
  have key : ∀ (l : List Ac) (k : Nat) (ts : List Tn), Small k ts → (∀ a ∈ l, Fits a) → Small (k + l.length) (l.foldl doT ts) := fun l => by
    induction l with
    | nil => exact fun k ts h _ => h
    | cons a l ih =>
      intro k ts h hf
      have := ih (k + 1) (doT ts a) (doT_small h (by have := (hf a (by simp)).rkey; omega)) fun b hb => hf b (by simp [hb])
      rw [List.foldl_cons, List.length_cons]
      rwa [Nat.add_assoc, Nat.add_comm 1] at this
  intro l hf
  have := key l 0 [] ⟨Nat.le_refl _, fun t ht => by cases ht⟩ hf
  rwa [Nat.zero_add] at this

set_option maxRecDepth 100000 in
set_option maxHeartbeats 2000000 in
theorem filled_calls (w : World) (v : Value) (l : List Ac) (h : ActsAt w v l) (hl : l.length ≤ 63) (hf : ∀ a ∈ l, Fits a) (hk : ∀ a ∈ l, adds a) :
    Calls Try.prog 20 #[v] w fun e w' => ∃ b, e = .returned (.pointer (some ⟨b, 0, none⟩)) ∧ BookIs w w' b (fillT l) := by
  obtain ⟨N, hN⟩ : ∃ N, l.length = N := ⟨_, rfl⟩
  obtain ⟨p, c, hv⟩ : ∃ p c, v = .slice p N c := by
    obtain ⟨a, c, h⟩ := h.len
    exact ⟨a, c, by rw [← hN]; exact h⟩
  subst hv
  rw [hN] at hl
  have HN := Lib.hid hN
  have HF := Lib.hid hf
  have HA := Lib.hid h
  have HK := Lib.hid hk
  have HNEW := Lib.hid (new_calls w)
  clear hN h hf hk
  go_enter Try.func20, Try.ntmps20
  go_wp2_with (go_at_call 12; refine HNEW.out.mono ?_; rintro e w1 ⟨b, rfl, m, hB1⟩)
  have hI0 : BookIs w w1 b [] := ⟨m, _, _, Books.new hB1⟩
  clear hB1 HNEW
  go_loopw [4] (fun i wr => ∃ k : Nat, k ≤ N ∧ i = .int .i64 k ∧ BookIs w wr b (fillT (l.take k))) (fun i _ => N - (intOf i).toNat)
  case atStart => exact ⟨0, by omega, rfl, hI0⟩
  case round =>
    obtain ⟨k, hkN, rfl, hI⟩ := hrel
    clear hI0
    by_cases hlt : k < N
    · obtain ⟨a, hp⟩ : ∃ a, l[k]? = some a := ⟨_, List.getElem?_eq_getElem (by rw [HN.out]; exact hlt)⟩
      have hb0 : Below w.heap.size w wr := by
        obtain ⟨_, _, _, h⟩ := hI
        exact h.book.below
      obtain ⟨ab, off, rfl, _, hrng⟩ := (HA.out.low hb0).at hp
      have hsm : Small 63 (fillT (l.take k)) := (fill_small (l.take k) fun a ha => HF.out a (List.mem_of_mem_take ha)).mono (by simp; omega)
      have hnx : fillT (l.take (k + 1)) = doT (fillT (l.take k)) a := by
        have hk' : k < l.length := (List.getElem?_eq_some_iff.1 hp).1
        unfold fillT
        rw [List.take_succ_eq_append_getElem hk', (List.getElem?_eq_some_iff.1 hp).2, List.foldl_append]
        rfl
      have HD := Lib.hid (done_calls w wr b _ a hI hsm (HK.out a (List.mem_of_getElem? hp)) (by have := (HF.out a (List.mem_of_getElem? hp)).rkey; omega))
      have i1 : (k : Int) < (N : Int) := by omega
      have i2 : 0 ≤ (k : Int) ∧ (k : Int) < (N : Int) := by omega
      have b2 : IntKind.i64.wrap ((k : Int) + 1) = (k : Int) + 1 := IntWalk.i64_in _ (by omega)
      have HX := Lib.hid hnx
      clear hI hsm hnx hp hb0
      go_wp2_with (first
        | (refine wpList_load_mid (by rfl) 38 _ (by rfl) ab (off + k * 10) (by rfl) a.cells _ hrng Try.underlying38 (by rfl) size_ac ?_)
        | (go_at_call 51; refine HD.out.mono ?_; rintro e w2 ⟨⟨z, rfl⟩, hI2⟩))
      go_roundw
      case rel => exact ⟨k + 1, by omega, by go_num, by rw [HX.out]; exact hI2⟩
      case measure => simp [intOf]; omega
    · obtain rfl : k = N := by omega
      rw [← HN.out, List.take_length] at hI
      have i1 : ¬ (k : Int) < (k : Int) := by omega
      go_wp2
      go_ret
      exact ⟨b, rfl, hI⟩

end Go.Proofs.Ytglcingpolpkdaa
