/- QuotaNil: the law's walk. -/
import Derived.Test.YtglcingpolpkdaaDoorQNilA
import Derived.Test.YtglcingpolpkdaaDoorQNilB
import Derived.Test.YtglcingpolpkdaaDoorQNilC
namespace Go.Proofs.YtglcingpolpkdaaDoor
open Go.RowKit

theorem q_start (W : World) (c0 c3 c4 c5 n0 n1 n2 n3 n4 n5 : Value) (x : ByteArray) (y : Int) : QK W ((((((W.alloc (.cells #[c0, .string x, .int .i64 y, c3, c4, c5] 52)).alloc (.cells #[n0, n1, n2, n3, n4, n5] 36)).alloc (.cells #[.map none] 56)).alloc (.cells #[.pointer none, .pointer (some ⟨W.heap.size + 2, 0, none⟩)] 53)).alloc (.cells #[.slice none 0 0, .bool false] 60)).alloc (.cells #[.pointer none, .pointer (some ⟨W.heap.size + 4, 0, none⟩)] 26)) W.heap.size c0 (.string x) (.int .i64 y) c3 c4 c5 n0 n1 n2 n3 n4 n5 := by
  have h0 := Whole.new W 52 #[c0, .string x, .int .i64 y, c3, c4, c5]
  have h1 := Whole.new (W.alloc (.cells #[c0, .string x, .int .i64 y, c3, c4, c5] 52)) 36 #[n0, n1, n2, n3, n4, n5]
  have h2 := Whole.new ((W.alloc (.cells #[c0, .string x, .int .i64 y, c3, c4, c5] 52)).alloc (.cells #[n0, n1, n2, n3, n4, n5] 36)) 56 #[.map none]
  have h3 := Whole.new (((W.alloc (.cells #[c0, .string x, .int .i64 y, c3, c4, c5] 52)).alloc (.cells #[n0, n1, n2, n3, n4, n5] 36)).alloc (.cells #[.map none] 56)) 53 #[.pointer none, .pointer (some ⟨W.heap.size + 2, 0, none⟩)]
  have h4 := Whole.new ((((W.alloc (.cells #[c0, .string x, .int .i64 y, c3, c4, c5] 52)).alloc (.cells #[n0, n1, n2, n3, n4, n5] 36)).alloc (.cells #[.map none] 56)).alloc (.cells #[.pointer none, .pointer (some ⟨W.heap.size + 2, 0, none⟩)] 53)) 60 #[.slice none 0 0, .bool false]
  have h5 := Whole.new (((((W.alloc (.cells #[c0, .string x, .int .i64 y, c3, c4, c5] 52)).alloc (.cells #[n0, n1, n2, n3, n4, n5] 36)).alloc (.cells #[.map none] 56)).alloc (.cells #[.pointer none, .pointer (some ⟨W.heap.size + 2, 0, none⟩)] 53)).alloc (.cells #[.slice none 0 0, .bool false] 60)) 26 #[.pointer none, .pointer (some ⟨W.heap.size + 4, 0, none⟩)]
  simp only [World.size_alloc] at h1 h2 h3 h4 h5
  refine ⟨((((h0.alloc _).alloc _).alloc _).alloc _).alloc _, (((h1.alloc _).alloc _).alloc _).alloc _, (h3.alloc _).alloc _, h5, .inr ⟨_, rfl, (((h2.alloc _).alloc _).alloc _).cell 0⟩, .inr ⟨_, rfl, (h4.alloc _).cell 1⟩, by simp, rfl, ?_⟩
  exact ((((((Below.refl _ _).alloc (Nat.le_refl _) _).alloc (by simp) _).alloc (by simp; omega) _).alloc (by simp; omega) _).alloc (by simp; omega) _).alloc (by simp; omega) _

theorem at_one (w3 : World) : Whole ((w3.alloc (.cells zeroNote.toArray 36)).alloc (.cells (zeroNums .u8 32).toArray 24)) w3.heap.size 36 zeroNote := (Whole.new w3 36 zeroNote.toArray).alloc _
theorem at_two (w3 : World) : Whole (((w3.alloc (.cells zeroNote.toArray 36)).alloc (.cells (zeroNums .u8 32).toArray 24)).setRow w3.heap.size zeroNote.toArray) (w3.heap.size + 1) 24 (zeroNums .u8 32) := by
  have h := Whole.new (w3.alloc (.cells zeroNote.toArray 36)) 24 (zeroNums .u8 32).toArray
  rw [World.size_alloc] at h
  exact h.row_far (by omega) _
/-- Behind the two stores. -/
def AtEnd (w3 w4 : World) : Prop := Below w3.heap.size w3 w4 ∧ Whole w4 w3.heap.size 36 zeroNote ∧ Whole w4 (w3.heap.size + 1) 24 (zeroNums .u8 32)
theorem at_new (w3 : World) : Whole (((w3.alloc (.cells zeroNote.toArray 36)).alloc (.cells (zeroNums .u8 32).toArray 24)).setRow w3.heap.size zeroNote.toArray) (w3.alloc (.cells zeroNote.toArray 36)).heap.size 24 (zeroNums .u8 32) := by
  rw [World.size_alloc]
  exact at_two w3
theorem at_end (w3 : World) : AtEnd w3 ((((w3.alloc (.cells zeroNote.toArray 36)).alloc (.cells (zeroNums .u8 32).toArray 24)).setRow w3.heap.size zeroNote.toArray).setRow (w3.alloc (.cells zeroNote.toArray 36)).heap.size (zeroNums .u8 32).toArray) := by
  rw [World.size_alloc]
  have hB : Below w3.heap.size w3 ((w3.alloc (.cells zeroNote.toArray 36)).alloc (.cells (zeroNums .u8 32).toArray 24)) := ((Below.refl _ _).alloc (Nat.le_refl _) _).alloc (by simp) _
  have hB2 := hB.grown (grown_row (World.grownBy.refl _ (some w3.heap.size)) (.inl rfl) zeroNote.toArray) hB.size (fun k hk => by simp at hk; omega)
  exact ⟨hB2.grown (grown_row (World.grownBy.refl _ (some (w3.heap.size + 1))) (.inl rfl) _) (by simpa [World.setRow] using hB.size) (fun k hk => by simp at hk; omega), ((at_one w3).row _).row_far (by omega) _, (at_two w3).row _⟩

set_option maxRecDepth 100000 in
set_option maxHeartbeats 2000000 in
theorem quotaNil_walk (W : World) (c0 c3 c4 c5 n0 n1 n2 n3 n4 n5 : Value) (x : ByteArray) (y : Int) : Answers Tryd.prog 4 #[.agg #[c0, .string x, .int .i64 y, c3, c4, c5], .agg #[n0, n1, n2, n3, n4, n5]] W := by
  have hK := q_start W c0 c3 c4 c5 n0 n1 n2 n3 n4 n5 x y
  unfold Answers
  go_enter Tryd.func4, Tryd.ntmps4
  go_wp2_with (first
    | (refine wpList_box_cells (by rfl) 52 _ (by rfl) #[c0, .string x, .int .i64 y, c3, c4, c5] (by rfl) ?_)
    | (refine wpList_box_cells (by rfl) 36 _ (by rfl) #[n0, n1, n2, n3, n4, n5] (by rfl) ?_))
  simp only [Nat.add_assoc, Nat.reduceAdd]
  generalize ((((((W.alloc (.cells #[c0, .string x, .int .i64 y, c3, c4, c5] 52)).alloc (.cells #[n0, n1, n2, n3, n4, n5] 36)).alloc (.cells #[.map none] 56)).alloc (.cells #[.pointer none, .pointer (some ⟨W.heap.size + 2, 0, none⟩)] 53)).alloc (.cells #[.slice none 0 0, .bool false] 60)).alloc (.cells #[.pointer none, .pointer (some ⟨W.heap.size + 4, 0, none⟩)] 26)) = w0 at hK ⊢
  go_loopw [7] (fun i wr => ∃ k : Nat, k ≤ 2 ∧ i = .int .i64 k ∧ QK W wr W.heap.size c0 (.string x) (.int .i64 y) c3 c4 c5 n0 n1 n2 n3 n4 n5) (fun i _ => 2 - (intOf i).toNat)
  case atStart => exact ⟨0, by omega, rfl, hK⟩
  case round =>
    clear hK
    obtain ⟨k, hk, rfl, hK⟩ := hrel
    by_cases hlt : k < 2
    · obtain ⟨p, t, hat⟩ : ∃ p t, QAt W.heap.size k p t := by
        have h01 : k = 0 ∨ k = 1 := by omega
        rcases h01 with rfl | rfl
        · exact ⟨_, _, .inl ⟨rfl, rfl, rfl⟩⟩
        · exact ⟨_, _, .inr ⟨rfl, rfl, rfl⟩⟩
      go_wp2
      refine qnil_left W _ W.heap.size k p t c0 c3 c4 c5 n0 n1 n2 n3 n4 n5 x y hlt hat hK ?_
      clear hK
      intro _ _ _ _ _ _ _ _ _ _ _ _ _ _ w1 hK
      go_wp2
      refine qnil_add W _ W.heap.size k p t c0 c3 c4 c5 n0 n1 n2 n3 n4 n5 x y hlt hat hK ?_
      clear hK
      intro _ _ _ _ _ _ _ _ _ D w2 hK hD hDl
      have FA := hK.facts hat
      have pt := FA.pt
      have hB0 : ∀ (wx : World) o, Below wx.heap.size wx (wx.alloc o) := fun wx o => (Below.refl _ _).alloc (Nat.le_refl _) o
      have hnt := FA.nt
      have hlt2 := Lib.hid FA.lt
      have hat2 := Lib.hid hat
      have hK2 := Lib.hid hK
      have hD2 := Lib.hid hD
      clear FA hat hK hD
      go_wp2_with (first
        | (go_at_call 16; refine (at_no _ _ _ hnt hlt2.out).mono ?_; rintro e w3 ⟨rfl, hB3⟩)
        | (refine wpList_alloc_row (by rfl) 36 (by rfl) _ _ info_n ?_)
        | (refine wpList_alloc_row (by rfl) 24 (by rfl) _ _ info_d ?_)
        | (refine wpList_store_row (o := ⟨none, _, _, _, _, _⟩) (by rfl) 36 _ _ (by rfl) w3.heap.size zeroNote.toArray (by rfl) (by rfl) 36 _ (at_one w3) size_n rfl note_ones ?_)
        | (refine wpList_store_row (o := ⟨none, _, _, _, _, _⟩) (by rfl) 24 _ _ (by rfl) (w3.alloc (.cells zeroNote.toArray 36)).heap.size (zeroNums .u8 32).toArray (by rfl) (by rfl) 24 _ (at_new w3) size_d rfl (all_zeros _ _) ?_; have hE := at_end w3; generalize ((((w3.alloc (.cells zeroNote.toArray 36)).alloc (.cells (zeroNums .u8 32).toArray 24)).setRow w3.heap.size zeroNote.toArray).setRow (w3.alloc (.cells zeroNote.toArray 36)).heap.size (zeroNums .u8 32).toArray) = w4 at *; have hK4 := hK2.out.on (hB3.trans (hE.1.mono hB3.size)); have pt4 := (hK4.facts hat2.out).pt; have nt4 := (hK4.facts hat2.out).nt; have h9 := Lib.hid (show QK9 W w4 W.heap.size D w3.heap.size (w3.heap.size + 1) c0 (.string x) (.int .i64 y) c3 c4 c5 n0 n1 n2 n3 n4 n5 from ⟨hK4, hD2.out.below (hB3.trans (hE.1.mono hB3.size)) hD2.out.lt, hE.2.1, hE.2.2⟩); clear hK4 hE)
        | (go_at_call 17; refine (notes_no _ _ _ _ nt4).mono ?_; rintro e w' ⟨rfl, rfl⟩)
        | fail)
      refine qnil_end W _ W.heap.size k p t c0 c3 c4 c5 n0 n1 n2 n3 n4 n5 x y D w3.heap.size (w3.heap.size + 1) hlt hat2.out h9.out ?_
      intro _ _ _ _ _ _ _ _ _ _ _ _ _ _ _ _ _ _ _ _ _ _ _ _ _ _ _ _ _ _ _ _ _ _ _ _ _ _ _ _ _ _ _ _ _ _ _ _ _ _ _ _ _ _ _ _ _ _ _ _ _ _ _ _ _ _ _ _ _ _ _ _ _ _ _ _ _ _ _ _ _ _ _ _ w5 hK5
      have hK5h := Lib.hid hK5
      clear hK5 h9
      go_wp2
      go_roundw
      case rel => exact ⟨k + 1, by omega, by go_num, hK5h.out⟩
      case measure => simp [intOf]; omega
    · obtain rfl : k = 2 := by omega
      have hb := hK.below
      go_wp2
      go_ret
      exact ⟨rfl, hb⟩

end Go.Proofs.YtglcingpolpkdaaDoor
