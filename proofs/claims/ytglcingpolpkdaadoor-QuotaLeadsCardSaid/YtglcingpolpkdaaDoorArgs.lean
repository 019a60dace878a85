/- From a law's arguments, and from the table that its row lays, to the facts of the walks. -/
import Derived.Test.YtglcingpolpkdaaDoorOwn
import Derived.Test.YtglcingpolpkdaaDoorNil
import Derived.Test.YtglcingpolpkdaaDoorBlk
import Derived.ChangeSlices
import Derived.MakeChecks
import Derived.Lib.LaidTab
namespace Go.Proofs.YtglcingpolpkdaaDoor
open Go.ChangeShapes Go.WideShapes Go.RowKit Go.MakeChecks

theorem block_lt {w : World} {a : Addr} {v : Value} (h : w.cell? a = some v) : a.block < w.heap.size := by
  rcases Nat.lt_or_ge a.block w.heap.size with hl | hl
  · exact hl
  · simp [World.cell?, Array.getElem?_eq_none hl] at h

theorem cells_u8 : Tryd.prog.cellsOf 5 = 1 := by kernel_rfl

/-- Integers of a byte's range as bytes. -/
theorem bytes_of_ints {w : World} {b o : Nat} {zs : List Int} (h : ∀ i, i < zs.length → w.cell? ⟨b, o + i, none⟩ = some (.int .u8 (zs.getD i 0))) (hw : ∀ n ∈ zs, (Lit.int .u8 n).wf = true) (k : Nat) :
    BytesAt w b o ((zs.take k).map (BitVec.ofInt 8)) := fun j x hx => by
  rw [List.getElem?_map] at hx
  cases hj : (zs.take k)[j]? with
  | none => simp [hj] at hx
  | some z =>
    simp [hj] at hx
    have hjk : j < (zs.take k).length := (List.getElem?_eq_some_iff.1 hj).1
    have hjz : j < zs.length := by simp at hjk; omega
    have hz : zs[j]? = some z := by
      rw [List.getElem?_take] at hj
      split at hj
      · exact hj
      · cases hj
    rw [h j hjz, List.getD_eq_getElem?_getD, hz, ← hx]
    have hb := bounds_u8 (hw z (List.mem_of_getElem? hz))
    exact congrArg some (lit_u8 z hb.1 (by omega))

section
variable {H : Type} {enc : TypeId × Value → H} {w : World} {base b0 : Nat} {sp : Nat → Bool} {held : Bool} {r : Reach}


set_option maxRecDepth 100000 in
theorem bytes_arg {v : Value} {d : DataW H} {ps : List MemPlace} (hv : Value.okWide Tryd.prog w r b0 75 v) (h : DataW.Trod enc Tryd.prog w base sp held 75 v d ps) : ∃ bs, SliceIs w v bs ∧ bs.length ≤ 9223372036854775807 := by
  obtain ⟨ao, len, cap, rfl⟩ := okWide_slice Tryd.underlying75 hv
  obtain ⟨fuel, h⟩ := h
  rcases open_ints Tryd.underlying75 Tryd.underlying5 cells_u8 h with ⟨hcs, _⟩ | ⟨a, len', cap', zs, hcs, _, hl, hm, hz, _, hcell, hwz⟩
  · simp [Value.cells] at hcs
    obtain ⟨rfl, rfl, rfl⟩ := hcs
    exact ⟨[], .inl ⟨rfl, .inl rfl⟩, Nat.zero_le _⟩
  · simp [Value.cells] at hcs
    obtain ⟨rfl, rfl, rfl⟩ := hcs
    have hle : len ≤ zs.length := by rw [hz]; split <;> omega
    by_cases h0 : len = 0
    · subst h0
      exact ⟨[], .inl ⟨rfl, .inr ⟨a, cap, rfl⟩⟩, Nat.zero_le _⟩
    · obtain ⟨b, off, rfl, hc⟩ := ints_at hcell (by omega)
      have hb := bytes_of_ints hc hwz len
      have hlen : ((zs.take len).map (BitVec.ofInt 8)).length = len := by simp; omega
      refine ⟨(zs.take len).map (BitVec.ofInt 8), .inr ⟨b, off, cap, by rw [hlen], ?_, hb⟩, by rw [hlen]; simp [maxLen] at hm; omega⟩
      exact block_lt (hc 0 (by omega))
end

/-- The table k, out of the row's condition. -/
theorem ktab_of {W : World} (h : laidMetH Tryd.prog [("reliquary/digest.k", Rows.laid_reliquary_digest_k)] W) : KTab W := by
  rw [laidMetH_plain _ _ _ (by kernel_rfl)] at h
  have hd : (Rows.laid_reliquary_digest_k : DataW Unit) = Lib.tabData .u32 (shaK.map fun x => (x.toNat : Int)) := by kernel_rfl
  rw [hd] at h
  have hg : Tryd.prog.globalNamed "reliquary/digest.k" = some 0 := by kernel_rfl
  have htab := Lib.tabIs_of_head hg (t := 112) (by kernel_rfl) Tryd.underlying112 Tryd.underlying103 (by kernel_rfl) (by kernel_rfl) h
  have hc : ∀ i x, shaK[i]? = some x → W.cell? ⟨0, i, none⟩ = some (vu32 x) := fun i x hx => by
    have hi : i < shaK.length := (List.getElem?_eq_some_iff.1 hx).1
    have := htab.cell hg i (by simpa using hi)
    rw [this, List.getD_eq_getElem?_getD, List.getElem?_map, hx]
    rfl
  exact ⟨block_lt (hc 0 _ rfl), hc⟩

end Go.Proofs.YtglcingpolpkdaaDoor
