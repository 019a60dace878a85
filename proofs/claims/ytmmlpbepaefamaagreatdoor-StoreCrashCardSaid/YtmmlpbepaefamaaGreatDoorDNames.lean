/- Disk.Names: the files' names, ascending. -/
import Derived.Test.YtmmlpbepaefamaaGreatDoorDiskX2
import Derived.Test.YtmmlpbepaefamaaGreatDoorSortLay
namespace Go.Proofs.YtmmlpbepaefamaaGreatDoor
open Go.RowKit Go.Maps Go.Sort Go.Shelf Go.MapKept

theorem sortsK (m : Nat) : AnyZ.SortsIn Tryz.prog sortedK_ren Fence.wide m :=
  ⟨fun blk off cap ss W hH hblk hsz => callsIn_wide.2 (AnyM.slices_Sort_string sortK blk off cap ss W hH hblk hsz),
   fun p cap W => callsIn_wide.2 (AnyM.slices_Sort_string_none sortK p cap W)⟩

/-- A map with texts as keys, as the shelf's contracts want it. -/
theorem MapN.owns {w : World} {m : Nat} {l : List (ByteArray × Value)} (h : MapN w m l) (hn : l.length ≤ 1000000) (hs : ∀ p ∈ l, p.1.size ≤ 1000000) :
    ∃ D0 : DataW Unit, w.ownsMap Tryz.prog 9 (fun _ => some (.nil, [])) m 1000000 D0 ∧ Maps.size D0 = l.length ∧ (strKeys D0).Perm (l.map (·.1.data.toList)) := by
  obtain ⟨ents, c, hm, hst, hl⟩ := h
  have hk : Tryz.prog.underlying 9 = some .string := Tryz.underlying9
  have hlen : ents.size = l.length := by
    have := congrArg List.length hl
    simpa using this
  have hrd : ∀ x ∈ ents.toList, ∃ p ∈ l, x.key = .string p.1 ∧ WideElems.rd Tryz.prog 9 (fun _ => some ((.nil : DataW Unit), ([] : List MemPlace))) x = some (.string p.1.data.toList, .nil) := fun x hx => by
    have h1 : (x.key, x.val) ∈ l.map fun p => (Value.string p.1, p.2) := hl ▸ List.mem_map_of_mem (f := fun e : MapEntry => (e.key, e.val)) hx
    obtain ⟨p, hp, he⟩ := List.mem_map.1 h1
    injection he with h2 h3
    refine ⟨p, hp, h2.symm, ?_⟩
    have h64 : p.1.size ≤ maxLen := Nat.le_trans (hs p hp) (by decide)
    obtain ⟨key, val, born⟩ := x
    obtain rfl : key = .string p.1 := h2.symm
    exact WideElems.rd_mk (yv := ((.nil : DataW Unit), ([] : List MemPlace))) (by simp [keyOf, mapKey, hk, h64]) rfl
  refine ⟨.map ((ents.toList.map (WideElems.rg Tryz.prog 9 fun _ => some ((.nil : DataW Unit), ([] : List MemPlace)))).foldr DataW.insert []), ⟨ents, c, hm, ⟨by rw [hlen]; exact Nat.le_trans hn (by decide), hst, fun x hx => ?_⟩, by omega, rfl⟩, ?_, ?_⟩
  · obtain ⟨p, _, _, h⟩ := hrd x hx
    exact ⟨_, h⟩
  · show (List.foldr DataW.insert [] _).length = _
    rw [(WideShapes.sorted_perm _).length_eq, List.length_map, Array.length_toList, hlen]
  · show (List.map (fun p : Lit × DataW Unit => strOf p.1) _).Perm _
    refine ((WideShapes.sorted_perm _).map _).trans ?_
    rw [List.map_map]
    have e1 : ents.toList.map ((fun p : Lit × DataW Unit => strOf p.1) ∘ WideElems.rg Tryz.prog 9 fun _ => some ((.nil : DataW Unit), ([] : List MemPlace))) = ents.toList.map fun e => (match e.key with | .string s => s.data.toList | _ => []) := by
      refine List.map_congr_left fun x hx => ?_
      obtain ⟨p, _, hkx, h⟩ := hrd x hx
      rw [Function.comp_apply, WideElems.rg_of h, hkx]
      rfl
    rw [e1]
    have e2 : (ents.toList.map fun e => (match e.key with | .string s => s.data.toList | _ => [])) = (ents.toList.map fun e => (e.key, e.val)).map fun q => (match q.1 with | .string s => s.data.toList | _ => []) := by
      rw [List.map_map]
      rfl
    rw [e2, hl, List.map_map]
    exact List.Perm.refl _

/-- The files' names, ascending. -/
def namesOf (L : List (ByteArray × Nat × Dfile)) : List (List UInt8) := (L.map (·.1.data.toList)).mergeSort (fun x y => decide (x ≤ y))
set_option maxRecDepth 100000 in
set_option maxHeartbeats 4000000 in
theorem dnames_calls (W w : World) (d fm rm n : Nat) (own : Nat → Option Nat) (L : List (ByteArray × Nat × Dfile)) (kss : List Int) (h : DiskAt W w d fm rm own L kss n) (hl : L.length ≤ 1000000) (hs : ∀ x ∈ L, x.1.size ≤ 1000000) :
    Calls Tryz.prog 19 #[.pointer (some ⟨d, 0, none⟩)] w fun e w' => ∃ v, e = .returned v ∧ (∃ a c, v = .slice a L.length c) ∧ w'.ownsRow w.heap.size 9 1 v L.length ((namesOf L).map encStr) ∧ Below w.heap.size w w' := by
  have HN := Lib.hid (dnone_calls w d fm (h.box.cell 0))
  have c0 := h.box.cell 0
  obtain ⟨D0, hown, hsz, hperm⟩ := h.all.owns (by simpa using hl) (fun p hp => by
    obtain ⟨x, hx, rfl⟩ := List.mem_map.1 hp
    exact hs x hx)
  have hbl := hown.lt
  have b1 : Below w.heap.size w (w.alloc (.cells #[.map (some fm)] 57)) := (Below.refl _ w).alloc (Nat.le_refl _) _
  rw [List.length_map] at hsz
  rw [List.map_map] at hperm
  have hseq : SeqGives Fence.wide 2 Tryz.prog 77 #[.pointer (some ⟨w.heap.size, 0, none⟩)] encStr (fun ss => ss.Perm (strKeys D0)) (Maps.size D0) (w.alloc (.cells #[.map (some fm)] 57)) :=
    AnyZ.keys_gives (ρ := keysK_ren) { keysK with } Fence.wide _ trivial rfl (by omega) w.heap.size fm 1000000 D0 _ (by simp) (by simp) (by
      obtain ⟨es, clock, hb, Ft, hs, hD⟩ := hown
      exact ⟨es, clock, (Below.heap_alloc _ _ fm hbl).trans hb, Ft, hs, hD⟩)
  have cK : ∀ mb W, Calls Tryz.prog 49 #[.map mb] W fun e w' => e = .returned (.func (.func 77) #[] #[.pointer (some ⟨W.heap.size, 0, none⟩)]) ∧ w' = W.alloc (.cells #[.map mb] 57) := fun mb W => (callsIn_wide (n := 5)).1 (AnyZ.keys_in keysK Fence.wide 5 trivial rfl mb W)
  have cS := AnyZ.sorted_in sortedK Fence.wide 5 trivial trivial trivial trivial rfl (by omega) (sortsK _) (enters_of Tryz.func65 (by kernel_rfl) rfl) 77 #[.pointer (some ⟨w.heap.size, 0, none⟩)] trivial (enters_of Tryz.func77 (by kernel_rfl) rfl) _ _ (by rw [hsz]; exact Nat.le_trans hl (by decide)) (by rw [hsz]; omega) _ hseq
  change CallsIn _ _ Tryz.prog 33 _ _ _ at cS
  have HS := Lib.hid ((callsIn_wide (n := 5)).1 cS)
  have HK := Lib.hid (cK (some fm) w)
  have HP := Lib.hid hperm
  clear h hown hbl hseq cK cS hperm hs
  go_enter Tryz.func19, Tryz.ntmps19
  go_wp2_with (first
    | (go_at_call 33; refine HS.out.mono ?_; rintro e w2 ⟨v, ss, rfl, hS, hrow, hnil, hb⟩)
    | (go_at_call 49; refine HK.out.mono ?_; rintro e w1 ⟨rfl, rfl⟩)
    | (go_at_call 35; refine HN.out.mono ?_; rintro e w' ⟨rfl, rfl⟩)
    | fail)
  go_ret
  have hp2 := hS.trans HP.out
  have hl2 : ss.length = L.length := by rw [hp2.length_eq, List.length_map]
  rw [hl2] at hrow
  refine ⟨v, rfl, slice_of_row hrow, ?_, b1.trans (hb.mono b1.size)⟩
  have e1 : namesOf L = ss.mergeSort (fun x y => decide (x ≤ y)) := (mergeSort_of_perm hp2).symm
  rw [e1]
  exact ownsRow_base_a hrow b1.size

end Go.Proofs.YtmmlpbepaefamaaGreatDoor
