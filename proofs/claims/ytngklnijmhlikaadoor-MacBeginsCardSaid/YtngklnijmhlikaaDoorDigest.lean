/- digest.Sum: the digest of bytes. -/
import Derived.Test.YtngklnijmhlikaaDoorSum
namespace Go.Proofs.YtngklnijmhlikaaDoor
open Go.RowKit

set_option maxHeartbeats 1000000 in
theorem write_empty (w : World) (h : Nat) (m : List (BitVec 8)) (hh : HashIs w h m) (ao : Option Addr) (cap : Nat) :
    Calls Tryd.prog 21 #[.pointer (some ⟨h, 0, none⟩), .slice ao 0 cap] w fun e w' => e = .returned (.int .i64 0) ∧ w = w' := by
  have hm := hh.made
  go_enter Tryd.func21, Tryd.ntmps21
  go_wp2_with (go_at_call 71; refine (none_made _ _ _ hm).mono ?_; rintro e w' ⟨rfl, rfl⟩)
  go_loopw [11] (fun i wr => i = .int .i64 0 ∧ wr = w) (fun _ _ => 0)
  case atStart => exact ⟨rfl, rfl⟩
  case round =>
    obtain ⟨rfl, rfl⟩ := hrel
    go_wp2
    go_ret
    exact ⟨rfl, rfl⟩

theorem write_slice (w : World) (h : Nat) (m bs : List (BitVec 8)) (sl : Value) (hh : HashIs w h m) (hK : KTab w) (h0 : h ≠ 0) (hsz : m.length + bs.length ≤ 4611686018427387904) (hs : SliceIs w sl bs)
    (hne : ∀ b o c, sl = .slice (some ⟨b, o, none⟩) bs.length c → bs ≠ [] → b ≠ h) :
    Calls Tryd.prog 21 #[.pointer (some ⟨h, 0, none⟩), sl] w fun e w' => e = .returned (.int .i64 0) ∧ HashIs w' h (m ++ bs) ∧ w.grownBy w' (some h) := by
  rcases hs with ⟨rfl, rfl | ⟨ad, c, rfl⟩⟩ | ⟨b, o, c, rfl, hbl, hb⟩
  · refine (write_empty w h m hh none 0).mono ?_
    rintro e w' ⟨rfl, rfl⟩
    exact ⟨rfl, by simpa using hh, World.grownBy.refl _ _⟩
  · refine (write_empty w h m hh (some ad) c).mono ?_
    rintro e w' ⟨rfl, rfl⟩
    exact ⟨rfl, by simpa using hh, World.grownBy.refl _ _⟩
  · by_cases he : bs = []
    · subst he
      refine (write_empty w h m hh _ c).mono ?_
      rintro e w' ⟨rfl, rfl⟩
      exact ⟨rfl, by simpa using hh, World.grownBy.refl _ _⟩
    · exact write_hash w h m bs hh hK h0 hsz b o c (hne b o c rfl he) hbl hb

set_option maxHeartbeats 1000000 in
theorem digest_sum (w : World) (bs : List (BitVec 8)) (sl : Value) (hs : SliceIs w sl bs) (hK : KTab w) (hsz : bs.length ≤ 1099511627776) :
    Calls Tryd.prog 18 #[sl] w fun e w' => e = .returned (.agg ((sha bs).map vu8).toArray) ∧ Below w.heap.size w w' := by
  go_enter Tryd.func18, Tryd.ntmps18
  go_upto_region 1 with (refine wpList_alloc_row (by rfl) 25 (by rfl) _ _ info_d ?_)
  have hr := Whole.new w 25 (zeroNums .u8 32).toArray
  have hB : Below w.heap.size w (w.alloc (.cells (zeroNums .u8 32).toArray 25)) := (Below.refl _ _).alloc (Nat.le_refl _) _
  have hz1 : (w.alloc (.cells (zeroNums .u8 32).toArray 25)).heap.size = w.heap.size + 1 := by simp
  generalize (w.alloc (.cells (zeroNums .u8 32).toArray 25)) = w1 at *
  have hs1 := hs.low hB
  go_upto_region 2 with (go_at_call 25; refine (new_hash w1).mono ?_; rintro e w2 ⟨h, rfl, hh1, hh2, hh3⟩)
  have hs2 := hs1.low hh3
  have hlow : ∀ b o c, sl = .slice (some ⟨b, o, none⟩) bs.length c → bs ≠ [] → b ≠ h := by
    intro b o c e hne
    rcases hs1 with ⟨rfl, _⟩ | ⟨b', o', c', rfl, hl, _⟩
    · exact absurd rfl hne
    · cases e
      omega
  have hK2 := (hK.below hB (by have := hK.1; omega)).below hh3 (by omega)
  go_upto_region 3 with (go_at_call 21; refine (write_slice w2 h [] bs sl hh2 hK2 (by have := hK.1; omega) (by simp; omega) hs2 hlow).mono ?_; rintro e w3 ⟨rfl, hh4, hG3⟩)
  rw [List.nil_append] at hh4
  have hK3 := hK2.grown hG3 (by have := hK.1; simp; omega)
  have hB3 : Below (w.heap.size + 1) w1 w3 := by
    rw [← hz1]
    exact hh3.grown hG3 hh3.size (fun k hk => by simp at hk; omega)
  have hr3 := hr.below hB3 (by omega)
  have hsz3 := hh4.lt
  have hlen : ((sha bs).map vu8).length = 32 := by simp [sha_length]
  go_wp2_with (first
    | (go_at_call 22; refine (sum_hash w3 h bs hh4 hK3 hsz).mono ?_; rintro e w4 ⟨rfl, hB4⟩; have hr4 := hr3.below hB4 (by omega))
    | (refine wpList_store_row (by rfl) 25 _ _ (by rfl) w.heap.size ((sha bs).map vu8).toArray (by rfl) (by rfl) 25 _ hr4 (by rw [size_d]; simp [sha_length]) (by simp [zeroNums, sha_length]) (all_u8 _) ?_))
  refine bodyPost_ret (results_cell_row rfl _ _ w.heap.size 25 _ (0, 0) _ rfl (hr4.row _) Tryd.underlying25 rfl (by rw [size_d]; simp [sha_length])) rfl ⟨rfl, ?_⟩
  have hB5 : Below w.heap.size w w4 := (hB.trans (hB3.mono (by omega))).trans (hB4.mono (by omega))
  exact hB5.grown (grown_row (World.grownBy.refl _ (some w.heap.size)) (.inl rfl) _) hB5.size (fun k hk => by simp at hk; omega)

end Go.Proofs.YtngklnijmhlikaaDoor
