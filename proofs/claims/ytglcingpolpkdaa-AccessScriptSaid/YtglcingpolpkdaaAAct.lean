/- act: both books answer alike, and what was told may be written over. -/
import Derived.Test.YtglcingpolpkdaaAActAsk
namespace Go.Proofs.Ytglcingpolpkdaa
open Go.RowKit

/-- Each rule of a list has a flag that can be turned. -/
def Flip (w : World) (lv : Value) (N : Nat) : Prop := ∀ i, i < N → ∃ g c d cur, lv = .slice (some ⟨g, 0, none⟩) N c ∧ Whole w g 29 cur ∧ cur[i * 4 + 3]? = some (.bool d)
theorem Flip.of {w : World} {B : Nat} {lv : Value} {l : List Rl} (h : OwnR w B lv l) : Flip w lv l.length := fun i hi => by
  obtain ⟨g, c, he, _, _, _, _, h3⟩ := h.four (List.getElem?_eq_getElem hi)
  subst he
  obtain ⟨cap, cur, he, hB, hW, _⟩ := own_full h rfl
  exact ⟨g, c, _, cur, rfl, hW, by rw [← hW.cell]; exact h3⟩
theorem Flip.step {w : World} {g c N k : Nat} {d : Bool} (h : Flip w (.slice (some ⟨g, 0, none⟩) N c) N) (hk : k < N) : Flip (w.setCell ⟨g, k * 4 + 3, none⟩ (.bool d)) (.slice (some ⟨g, 0, none⟩) N c) N := fun i hi => by
  obtain ⟨g1, c1, d1, cur, he, hW, hx⟩ := h i hi
  have hg : g = g1 := by
    injection he with he
    injection he with he
    injection he
  subst hg
  refine ⟨g, c, if i = k then d else d1, _, rfl, hW.put _ _, ?_⟩
  by_cases hik : i = k
  · subst hik
    rw [if_pos rfl, List.getElem?_set_self (List.getElem?_eq_some_iff.1 hx).1]
  · rw [if_neg hik, List.getElem?_set_ne (by omega)]
    exact hx

set_option maxRecDepth 100000 in
set_option maxHeartbeats 4000000 in
theorem act_calls {W w : World} {b g : Nat} {ts : List Tn} (a : Ac) (hD : Duo W w b g ts ts) (hi : Inv ts) (hz : a.r.key.size ≤ 1000000) (ht : a.tenant.size ≤ 1000000) (hw : a.who.size ≤ 1000000) :
    Calls Try.prog 26 #[.pointer (some ⟨b, 0, none⟩), .pointer (some ⟨g, 0, none⟩), .agg a.cells.toArray] w fun e w' => e = .returned (.bool true) ∧ Duo W w' b g (doF ts a).2 (doF ts a).2 := by
  have hi2 := do_inv a hi hz ht hw
  obtain ⟨kind, tenant, role, who, ⟨rwho, rwhat, rkey, deny⟩, what, key⟩ := a
  have hBA : Below w.heap.size w (w.alloc (.cells #[.int .u8 kind, .string tenant, .string role, .string who, .string rwho, .int .i64 rwhat, .string rkey, .bool deny, .int .i64 what, .string key] 38)) := (Below.refl _ _).alloc (Nat.le_refl _) _
  have hC := Whole.new w 38 #[.int .u8 kind, .string tenant, .string role, .string who, .string rwho, .int .i64 rwhat, .string rkey, .bool deny, .int .i64 what, .string key]
  have HC := Lib.hid hC
  have HDO := Lib.hid (donef_calls ⟨kind, tenant, role, who, ⟨rwho, rwhat, rkey, deny⟩, what, key⟩ (hD.on hBA) hi hz)
  obtain ⟨ts2, hts⟩ : ∃ x, (doF ts ⟨kind, tenant, role, who, ⟨rwho, rwhat, rkey, deny⟩, what, key⟩).2 = x := ⟨_, rfl⟩
  obtain ⟨q, hq⟩ : ∃ x, (doF ts ⟨kind, tenant, role, who, ⟨rwho, rwhat, rkey, deny⟩, what, key⟩).1 = x := ⟨_, rfl⟩
  have HI := Lib.hid hi
  have HI2 := Lib.hid hi2
  have HQ := Lib.hid hq
  have HZ := Lib.hid hz
  have HRG := Lib.hid (whole_rangeG hC)
  rw [hts] at HI2
  rw [hts, hq] at HDO
  rw [hts]
  have HT2 := Lib.hid hts
  generalize hw0 : w.alloc (.cells #[.int .u8 kind, .string tenant, .string role, .string who, .string rwho, .int .i64 rwhat, .string rkey, .bool deny, .int .i64 what, .string key] 38) = w0 at HC HRG HDO
  obtain ⟨B, hBq⟩ : ∃ B, w.heap.size = B := ⟨_, rfl⟩
  rw [hBq] at HC HRG
  clear hD hi hi2 hC hBA ht hw hts hq hz
  show Calls Try.prog 26 #[.pointer (some ⟨b, 0, none⟩), .pointer (some ⟨g, 0, none⟩), .agg #[.int .u8 kind, .string tenant, .string role, .string who, .string rwho, .int .i64 rwhat, .string rkey, .bool deny, .int .i64 what, .string key]] w _
  go_enter Try.func26, Try.ntmps26
  go_upto_block 0 with (first
    | (refine wpList_box_cells (by rfl) 38 _ (by rfl) #[.int .u8 kind, .string tenant, .string role, .string who, .string rwho, .int .i64 rwhat, .string rkey, .bool deny, .int .i64 what, .string key] (by rfl) ?_; rw [hw0, hBq]; clear hw0)
    | (refine wpList_load_mid (by rfl) 38 _ (by rfl) B 0 (by rfl) [.int .u8 kind, .string tenant, .string role, .string who, .string rwho, .int .i64 rwhat, .string rkey, .bool deny, .int .i64 what, .string key] _ HRG.out Try.underlying38 (by rfl) size_ac ?_)
    | (go_at_call 51; refine HDO.out.mono ?_; rintro e w1 ⟨rfl, hD1, hK1⟩; have hC1 := hK1 _ _ HC.out; have c0 := hC1.cell 0)
    | fail)
  clear c0
  refine act_switch W w1 B b g ts2 ts kind tenant role who rwho rwhat rkey deny what key hD1 hC1 HI.out HZ.out ?_
  rw [HQ.out, HT2.out]
  intros
  rename_i w2 hD2 hC2
  go_upto_region 14 with fail
  refine act_tell W w2 B b g ts2 kind tenant role who rwho rwhat rkey deny what key hD2 hC2 HI2.out ?_
  intro lv tv mv
  intros
  rename_i w3 hT3
  go_upto_region 15 with fail
  refine act_ask W w2 w3 B b g ts2 q lv tv mv kind tenant role who rwho rwhat rkey deny what key hT3 HI2.out ?_
  intros
  rename_i w4 hT4
  have hN : (rulesT ts2 tenant).length ≤ 128 := rulesT_len tenant HI2.out.cap
  have hF4 := Flip.of hT4.rules
  obtain ⟨p, c, hlv⟩ := slice_of_row hT4.rules
  generalize (rulesT ts2 tenant).length = N at hN hF4 hlv
  subst hlv
  have HT := Lib.hid hT4
  have HD2 := Lib.hid hD2
  clear hT3 hT4 hC1 hC2 hD1 hD2 hK1
  go_wp2
  go_loopw [13] (fun i wr => ∃ k : Nat, k ≤ N ∧ i = .int .i64 k ∧ Flip wr (.slice p N c) N ∧ Only w4 wr fun k => (Value.slice p N c).ownBlock = some k) (fun i _ => N - (intOf i).toNat)
  case atStart => exact ⟨0, by omega, rfl, hF4, Only.of_below (Below.refl _ _) _⟩
  case round =>
    clear hF4
    obtain ⟨k, hk, rfl, hF, hO⟩ := hrel
    by_cases hlt : k < N
    · have i1 : (k : Int) < (N : Int) := by omega
      have i2 : 0 ≤ (k : Int) ∧ (k : Int) < (N : Int) := by omega
      have b2 : IntKind.i64.wrap ((k : Int) + 1) = (k : Int) + 1 := IntWalk.i64_in _ (by omega)
      obtain ⟨gl, c1, d, cur, he, hW, hx⟩ := hF k hlt
      have he : p = some ⟨gl, 0, none⟩ := by injection he
      subst he
      have c0 : wr.cell? ⟨gl, k * 4 + 3, none⟩ = some (.bool d) := hW.cell_of hx
      have hfree := hW.free (k * 4 + 3)
      have HF := Lib.hid hF
      clear hx hW hF he
      go_wp2
      go_roundw
      case rel => exact ⟨k + 1, by omega, by go_num, HF.out.step hlt, (hO.trans (Only.set wr ⟨gl, k * 4 + 3, none⟩ _)).weak fun i _ hi => hi.elim id fun e => by rw [e]; rfl⟩
      case measure => simp [intOf]; omega
    · obtain rfl : k = N := by omega
      have i1 : ¬ (k : Int) < (k : Int) := by omega
      have hoff : ∀ {v : Value} {l : List ByteArray}, OwnS w4 w2.heap.size v l → ∀ x, v.ownBlock = some x → ¬ (Value.slice p k c).ownBlock = some x := fun h x h1 h2 => by
        have t1 : HasTy w4 x 9 := row_type h h1
        have t2 : HasTy w4 x 29 := row_type HT.out.rules h2
        exact absurd (t1.one t2) (by decide)
      have hn5 : OwnS wr w2.heap.size tv (ts2.map Tn.name) := row_only HT.out.names hO (hoff HT.out.names)
      have hs5 := HT.out.tsp.only hO (hoff HT.out.names)
      have hm5 : OwnS wr w2.heap.size mv (whoHas (memsT ts2 tenant) role) := row_only HT.out.mems hO (hoff HT.out.mems)
      have ht5 := HT.out.msp.only hO (hoff HT.out.mems)
      have hB5 : Below w2.heap.size w2 wr := HT.out.below.trans (hO.below HT.out.below.size fun _ _ e => own_ge HT.out.rules e)
      clear hF hoff hO
      go_wp2_with (first
        | (go_at_call 69; refine (overtexts_calls _ _ mv _ hm6 ht6).mono ?_; rintro e w7 ⟨rfl, hO7⟩)
        | (go_at_call 69; refine (overtexts_calls _ _ tv _ hn5 hs5).mono ?_; rintro e w6 ⟨rfl, hO6⟩; have hm6 : OwnS w6 w2.heap.size mv (whoHas (memsT ts2 tenant) role) := row_only hm5 hO6 (fun x h1 h2 => HT.out.two x h2 h1); have ht6 := ht5.only hO6 (fun x h1 h2 => HT.out.two x h2 h1)))
      go_ret
      have hB6 : Below w2.heap.size w2 w6 := hB5.trans (hO6.below hB5.size fun _ _ e => own_ge hn5 e)
      have hB7 : Below w2.heap.size w2 w7 := hB6.trans (hO7.below hB6.size fun _ _ e => own_ge hm6 e)
      exact ⟨rfl, HD2.out.on hB7⟩

end Go.Proofs.Ytglcingpolpkdaa
