/- MacCodes: the law's walk. -/
import Derived.Test.YtngklnijmhlikaaDoorCodes
namespace Go.Proofs.YtngklnijmhlikaaDoor
open Go.RowKit

set_option maxRecDepth 100000 in
set_option maxHeartbeats 2000000 in
theorem macCodes_walk (w : World) (sk sb : Value) (key b : List (BitVec 8)) (hk : SliceIs w sk key) (hb : SliceIs w sb b) (hK : KTab w) : Answers Tryd.prog 6 #[sk, sb] w := by
  obtain ⟨kp, kc, rfl, _⟩ := hk.cells
  obtain ⟨bp, bc, rfl, _⟩ := hb.cells
  obtain ⟨nk, hnk⟩ : ∃ n, key.length = n := ⟨_, rfl⟩
  obtain ⟨nb, hnb⟩ : ∃ n, b.length = n := ⟨_, rfl⟩
  have HNK := Lib.hid hnk
  have HNB := Lib.hid hnb
  rw [hnk] at hk ⊢
  rw [hnb] at hb ⊢
  clear hnk hnb
  unfold Answers
  by_cases h1 : 20000 < nk
  · have i1 : (20000 : Int) < (nk : Int) := by omega
    go_enter Tryd.func6, Tryd.ntmps6
    go_wp2
    go_ret
    exact ⟨rfl, Below.refl _ _⟩
  have i1 : ¬ (20000 : Int) < (nk : Int) := by omega
  by_cases h2 : 20000 < nb
  · have i2 : (20000 : Int) < (nb : Int) := by omega
    go_enter Tryd.func6, Tryd.ntmps6
    go_wp2
    go_ret
    exact ⟨rfl, Below.refl _ _⟩
  have i2 : ¬ (20000 : Int) < (nb : Int) := by omega
  have hBA : ∀ (wx : World) o, Below wx.heap.size wx (wx.alloc o) := fun wx o => (Below.refl _ _).alloc (Nat.le_refl _) o
  have L1 := Lib.hid (fun (wx : World) (h1 : SliceIs wx (.slice kp nk kc) key) => HNK.out ▸ lent_calls wx (.slice kp nk kc) key h1 (by have := HNK.out; omega))
  have L2 := Lib.hid (fun (wx : World) (h1 : SliceIs wx (.slice bp nb bc) b) => HNB.out ▸ lent_calls wx (.slice bp nb bc) b h1 (by have := HNB.out; omega))
  obtain ⟨M, hM⟩ : ∃ M, macCode key b = M := ⟨_, rfl⟩
  have lM : M.length = 32 := by rw [← hM]; exact macCode_length _ _
  have CC := Lib.hid (fun (wx : World) (g1 g2 : Nat) (h1 : LentAt wx g1 key) (h2 : LentAt wx g2 b) (hk : KTab wx) => hM ▸ code_calls wx (.slice (some ⟨g1, 0, none⟩) nk (nk + 3)) (.slice (some ⟨g2, 0, none⟩) nb (nb + 3)) key b (by have h := h1.slice; rw [HNK.out] at h; exact h) (by have h := h2.slice; rw [HNB.out] at h; exact h) hk (by have := HNK.out; omega) (by have := HNB.out; omega))
  have HM := Lib.hid hM
  clear hM
  go_enter Tryd.func6, Tryd.ntmps6
  go_upto_region 5 with (first
    | (go_at_call 17; refine (L2.out w1 (hb.low hB1)).mono ?_; rintro e w2 ⟨g2, rfl, hg2, hl2, hB2⟩)
    | (go_at_call 17; refine (L1.out w hk).mono ?_; rintro e w1 ⟨g1, rfl, hg1, hl1, hB1⟩)
    | (go_at_call 28; refine (CC.out w2 g1 g2 (hl1.low hB2) hl2 ((hK.below hB1 hK.1).below hB2 (Nat.lt_of_lt_of_le hK.1 hB1.size))).mono ?_; rintro e w3 ⟨rfl, hB3⟩)
    | (refine wpList_alloc_row (by rfl) 25 (by rfl) _ _ info_d ?_)
    | (refine wpList_store_new (o := ⟨none, _, _, _, _, _⟩) (by rfl) 25 _ _ (by rfl) _ (M.map vu8).toArray 25 (by rfl) (by rfl) (by rw [size_d]; simp [lM]) (by simp [zeroNums, lM]) (all_u8 _) ?_)
    | fail)
  have hD4 := Whole.new w3 25 (M.map vu8).toArray
  have hB24 := hB3.trans ((hBA w3 (.cells (M.map vu8).toArray 25)).mono hB3.size)
  have cB2 := hB1.trans (hB2.mono hB1.size)
  have cB4 := cB2.trans (hB24.mono cB2.size)
  have hl14 := (hl1.low hB2).low hB24
  have hl24 := hl2.low hB24
  have zD : w3.heap.size < (w3.alloc (.cells (M.map vu8).toArray 25)).heap.size := by simp
  try simp only [Act.put, List.setIfInBounds_toArray, List.set_cons_zero, List.set_cons_succ]
  generalize (w3.alloc (.cells (M.map vu8).toArray 25)) = w4 at *
  generalize w3.heap.size = D at *
  have hs4 : CodesIn w w4 g1 g2 D key b M := ⟨cB4, hl14, hl24, range_whole hD4, zD⟩
  refine codes_end w w4 g1 g2 D nk nb kc bc kp bp key b M HNK.out HNB.out (by omega) (by omega) hK hk hb hs4 HM.out ?_
  intros
  go_wp2
  go_ret
  refine ⟨rfl, ?_⟩
  rename_i hkn
  exact hkn.1

end Go.Proofs.YtngklnijmhlikaaDoor
