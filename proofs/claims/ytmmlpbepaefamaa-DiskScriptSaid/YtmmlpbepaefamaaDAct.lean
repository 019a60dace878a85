/- act: a call of both disks, and what both tell behind it. -/
import Derived.Test.YtmmlpbepaefamaaDAsk
import Derived.Test.YtmmlpbepaefamaaDAsw
namespace Go.Proofs.Ytmmlpbepaefamaa
open Go.RowKit Go.MapKept Go.Maps Go.Sort Go.Shelf

theorem size_da : (Try.prog.info? 63).map (·.size) = some 6 := by kernel_rfl

set_option maxRecDepth 100000 in
set_option maxHeartbeats 4000000 in
theorem act_calls {W w : World} {B d m j : Nat} {ks rl : List Int} (h : Sc W w B d m (fun _ => False) ks rl j) (hf : Fx ks rl) (hj : j ≤ 800) (a : DA) (hat : a.At W) (hbl : a.b.length ≤ 1000000000) (hkl : a.keeps.length ≤ 40) (hs : a.name.size ≤ 1000) (hd : a.dst.size ≤ 1000) (hz : a.n ≤ 9223372036854775807) :
    Calls Try.prog 29 #[.pointer (some ⟨d, 0, none⟩), .pointer (some ⟨m, 0, none⟩), .agg a.cells.toArray] w fun e w' => e = .returned (.bool true) ∧ Sc W w' B d m (fun _ => False) ks rl (j + 1) := by
  obtain ⟨kind, name, dst, bv, b, z, kv, ks0⟩ := a
  obtain ⟨kd, hkd⟩ : ∃ kd : Int, vu8 kind = .int .u8 kd := ⟨_, rfl⟩
  have hcells : DA.cells ⟨kind, name, dst, bv, b, z, kv, ks0⟩ = [.int .u8 kd, .string name, .string dst, bv, .int .i64 z, kv] := by
    unfold DA.cells
    rw [hkd]
  rw [hcells]
  obtain ⟨hb, hk⟩ := hat
  dsimp only at hbl hkl hs hd hz hb hk
  have hBA : Below w.heap.size w (w.alloc (.cells #[.int .u8 kd, .string name, .string dst, bv, .int .i64 z, kv] 63)) := (Below.refl _ _).alloc (Nat.le_refl _) _
  have hC := Whole.new w 63 #[.int .u8 kd, .string name, .string dst, bv, .int .i64 z, kv]
  have hS0 : Sc W (w.alloc (.cells #[.int .u8 kd, .string name, .string dst, bv, .int .i64 z, kv] 63)) B d m (fun i => i = w.heap.size) ks rl j := (h.add hBA (Z := fun i => i = w.heap.size) fun i e => by subst e; exact ⟨Nat.le_refl _, hC.lt⟩).fewer fun i e => .inr e
  have HC := Lib.hid hC
  have HS := Lib.hid hS0
  have HB := Lib.hid hb
  have HK := Lib.hid hk
  generalize hw0 : w.alloc (.cells #[.int .u8 kd, .string name, .string dst, bv, .int .i64 z, kv] 63) = w0 at HC HS
  obtain ⟨X, hXq⟩ : ∃ X, w.heap.size = X := ⟨_, rfl⟩
  rw [hXq] at HC HS
  have c0 := HC.out.cell 0
  clear hC hBA hS0 h hb hk hkd hcells
  go_enter Try.func29, Try.ntmps29
  go_upto_block 0 with (first
    | (refine wpList_box_cells (by rfl) 63 _ (by rfl) #[.int .u8 kd, .string name, .string dst, bv, .int .i64 z, kv] (by rfl) ?_; rw [hw0, hXq]; clear hw0)
    | fail)
  clear c0
  refine act_switch W w0 B d m X ks rl j kd name dst bv z kv b ks0 HB.out hbl hs hd hz HK.out hkl HS.out HC.out hf hj ?_
  intros
  rename_i w2 hS2 hX2
  obtain ⟨S, T, A, R, n, hx⟩ := hS2
  have HN := Lib.hid (kd_names_spare W w2 d n S A ks hx.duo.disk (hx.okA (by omega)))
  have hsx := hx.low (Below.refl w2.heap.size w2)
  go_upto_region 32 with (first
    | (go_at_call 21; refine HN.out.mono ?_; rintro r w3 ⟨v, rfl, _, hrow, hsp, hb3⟩)
    | fail)
  rw [← names_len A] at hrow hsp
  refine act_ask W w2 w3 B d m X S T A R ks rl n (j + 1) v kd name dst bv z kv ⟨hx.low hb3, hX2.below hb3 hX2.lt, hrow, hsp, hb3⟩ (by omega) ?_
  intros
  rename_i w4 hA4
  have HO := Lib.hid (overnames_calls w4 w2.heap.size v (namesA A) hA4.row hA4.spare hA4.small)
  have HA4 := Lib.hid hA4
  have HX := Lib.hid hx
  clear hA4 hx hsx hX2 hrow hsp hb3
  go_wp2_with (first
    | (go_at_call 67; refine HO.out.mono ?_; rintro r w5 ⟨rfl, ho5⟩)
    | fail)
  go_ret
  refine ⟨rfl, S, T, A, R, n, ?_⟩
  have hge : ∀ i, v.ownBlock = some i → w2.heap.size ≤ i := fun i e => own_ge HA4.out.row e
  have h5 := HA4.out.sx.only ho5 (fun i e => ⟨fun hs => by have := (HX.out.duo.disk.old hs).1; have := hge i e; omega, fun ht => by have := (HX.out.duo.doc.old ht).2; have := hge i e; omega⟩) (fun i _ e => Nat.le_trans HX.out.below.size (hge i e))
  exact ⟨h5.duo, h5.alike, h5.ok, h5.hn, fun i e => e.elim, fun i e => e.elim⟩

end Go.Proofs.Ytmmlpbepaefamaa
