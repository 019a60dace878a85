/- AccessKnown: the law's walk. -/
import Derived.Test.YtglcingpolpkdaaAJoined
import Derived.Test.YtglcingpolpkdaaFrameP
namespace Go.Proofs.Ytglcingpolpkdaa
open Go.RowKit

/-- The book of the chapter's examples: one tenant. -/
def KState (W w : World) (b m t mi : Nat) (nv rv mv : Value) (rules : List Rl) (ms : List (ByteArray × ByteArray)) : Prop :=
  BookAt W w b m nv [⟨#[116, 49]⟩] [(⟨#[116, 49]⟩, .pointer (some ⟨t, 0, none⟩))] ∧ TenOwn W w t rv mv mi rules ms
theorem KState.on {W w w' : World} {b m t mi : Nat} {nv rv mv : Value} {rules : List Rl} {ms : List (ByteArray × ByteArray)} (h : KState W w b m t mi nv rv mv rules ms) (hb : Below w.heap.size w w') : KState W w' b m t mi nv rv mv rules ms :=
  ⟨h.1.on hb, h.2.on hb⟩
theorem find_one (t : Nat) : findS [(⟨#[116, 49]⟩, Value.pointer (some ⟨t, 0, none⟩))] ⟨#[116, 49]⟩ = some (.pointer (some ⟨t, 0, none⟩)) := by
  unfold findS
  rw [if_pos rfl]

theorem known_allowed {W w : World} {b m t mi : Nat} {nv rv mv : Value} {rules : List Rl} {ms : List (ByteArray × ByteArray)} (h : KState W w b m t mi nv rv mv rules ms) (who : ByteArray) (what : Int) (key : ByteArray) (a : Bool) (ha : allowedB rules ms who what key = a)
    (hr : rules.length ≤ 1000) (hm : ms.length ≤ 1000) (hk : (rules.all fun r => decide (r.key.size ≤ 9223372036854775807)) = true) :
    Calls Try.prog 15 #[.pointer (some ⟨b, 0, none⟩), .string ⟨#[116, 49]⟩, .string who, .int .i64 what, .string key] w fun e w' => e = .returned (.bool a) ∧ KState W w' b m t mi nv rv mv rules ms := by
  have hT : TenAt w w b m t ⟨#[116, 49]⟩ [(⟨#[116, 49]⟩, .pointer (some ⟨t, 0, none⟩))] W.heap.size rv mv rules ms :=
    ⟨h.1.book.cell 1, h.1.all, find_one t, h.2.ten.cell 0, h.2.ten.cell 1, h.2.rules, h.2.mems, Below.refl _ _⟩
  refine (allowed_calls w b m t W.heap.size ⟨#[116, 49]⟩ who key what _ rv mv rules ms hT hr hm (fun r hr => by simpa using List.all_eq_true.1 hk r hr)).mono ?_
  rintro e w' ⟨rfl, hb⟩
  exact ⟨by rw [ha], h.on hb⟩

theorem about_known (w : World) (h : aboutB ⟨⟨#[64, 111, 112, 115]⟩, 0, ⟨#[42]⟩, false⟩ [⟨#[111, 112, 115]⟩] ⟨#[98, 111, 98]⟩ 2 ⟨#[107]⟩ = true) : Calls Try.prog 17 #[.agg #[.string ⟨#[64, 111, 112, 115]⟩, .int .i64 0, .string ⟨#[42]⟩, .bool false], .slice (some ⟨w.heap.size, 0, none⟩) 1 1, .string ⟨#[98, 111, 98]⟩, .int .i64 2, .string ⟨#[107]⟩] (w.alloc (.cells #[.string ⟨#[111, 112, 115]⟩] 9))
    fun e w' => e = .returned (.bool true) ∧ Below (w.alloc (.cells #[.string ⟨#[111, 112, 115]⟩] 9)).heap.size (w.alloc (.cells #[.string ⟨#[111, 112, 115]⟩] 9)) w' := by
  have hv : TextsAt (w.alloc (.cells #[.string ⟨#[111, 112, 115]⟩] 9)) (.slice (some ⟨w.heap.size, 0, none⟩) 1 1) [⟨#[111, 112, 115]⟩] := .inr ⟨w.heap.size, 0, 1, rfl, by simp, fun j hj => by
    obtain rfl : j = 0 := by simpa using hj
    exact (Whole.new w 9 #[.string ⟨#[111, 112, 115]⟩]).cell 0⟩
  refine (about_calls _ ⟨#[64, 111, 112, 115]⟩ ⟨#[42]⟩ 0 false _ _ ⟨#[98, 111, 98]⟩ 2 ⟨#[107]⟩ hv (by decide) (by decide)).mono ?_
  rintro e w' ⟨rfl, hb⟩
  exact ⟨by rw [h], hb⟩

theorem kf_hnm : nameB ⟨#[116, 49]⟩ = true := by kernel_rfl
theorem kf_hops : nameB ⟨#[111, 112, 115]⟩ = true := by kernel_rfl
theorem kf_hbob : nameB ⟨#[98, 111, 98]⟩ = true := by kernel_rfl
theorem kf_hm3 : mayB ⟨⟨#[97, 110, 110]⟩, 2, ⟨#[107, 42]⟩, false⟩ = true := by kernel_rfl
theorem kf_hn3 : hasR [] ⟨⟨#[97, 110, 110]⟩, 2, ⟨#[107, 42]⟩, false⟩ = false := by kernel_rfl
theorem kf_ha4 : allowedB [⟨⟨#[97, 110, 110]⟩, 2, ⟨#[107, 42]⟩, false⟩] [] ⟨#[97, 110, 110]⟩ 2 ⟨#[107, 49]⟩ = true := by kernel_rfl
theorem kf_ha5 : allowedB [⟨⟨#[97, 110, 110]⟩, 2, ⟨#[107, 42]⟩, false⟩] [] ⟨#[98, 111, 98]⟩ 2 ⟨#[107, 49]⟩ = false := by kernel_rfl
theorem kf_ha6 : allowedB [⟨⟨#[97, 110, 110]⟩, 2, ⟨#[107, 42]⟩, false⟩] [] ⟨#[97, 110, 110]⟩ 3 ⟨#[107, 49]⟩ = false := by kernel_rfl
theorem kf_ha7 : allowedB [⟨⟨#[97, 110, 110]⟩, 2, ⟨#[107, 42]⟩, false⟩] [] ⟨#[97, 110, 110]⟩ 2 ⟨#[120]⟩ = false := by kernel_rfl
theorem kf_hm8 : mayB ⟨⟨#[64, 111, 112, 115]⟩, 0, ⟨#[42]⟩, false⟩ = true := by kernel_rfl
theorem kf_hn8 : hasR [⟨⟨#[97, 110, 110]⟩, 2, ⟨#[107, 42]⟩, false⟩] ⟨⟨#[64, 111, 112, 115]⟩, 0, ⟨#[42]⟩, false⟩ = false := by kernel_rfl
theorem kf_hh9 : hasM [] (⟨#[111, 112, 115]⟩, ⟨#[98, 111, 98]⟩) = false := by kernel_rfl
theorem kf_ha10 : allowedB [⟨⟨#[97, 110, 110]⟩, 2, ⟨#[107, 42]⟩, false⟩, ⟨⟨#[64, 111, 112, 115]⟩, 0, ⟨#[42]⟩, false⟩] [(⟨#[111, 112, 115]⟩, ⟨#[98, 111, 98]⟩)] ⟨#[98, 111, 98]⟩ 3 ⟨#[120]⟩ = true := by kernel_rfl
theorem kf_hm11 : mayB ⟨⟨#[42]⟩, 2, ⟨#[107, 49]⟩, true⟩ = true := by kernel_rfl
theorem kf_hn11 : hasR [⟨⟨#[97, 110, 110]⟩, 2, ⟨#[107, 42]⟩, false⟩, ⟨⟨#[64, 111, 112, 115]⟩, 0, ⟨#[42]⟩, false⟩] ⟨⟨#[42]⟩, 2, ⟨#[107, 49]⟩, true⟩ = false := by kernel_rfl
theorem kf_ha12 : allowedB [⟨⟨#[97, 110, 110]⟩, 2, ⟨#[107, 42]⟩, false⟩, ⟨⟨#[64, 111, 112, 115]⟩, 0, ⟨#[42]⟩, false⟩, ⟨⟨#[42]⟩, 2, ⟨#[107, 49]⟩, true⟩] [(⟨#[111, 112, 115]⟩, ⟨#[98, 111, 98]⟩)] ⟨#[97, 110, 110]⟩ 2 ⟨#[107, 49]⟩ = false := by kernel_rfl
theorem kf_ha13 : allowedB [⟨⟨#[97, 110, 110]⟩, 2, ⟨#[107, 42]⟩, false⟩, ⟨⟨#[64, 111, 112, 115]⟩, 0, ⟨#[42]⟩, false⟩, ⟨⟨#[42]⟩, 2, ⟨#[107, 49]⟩, true⟩] [(⟨#[111, 112, 115]⟩, ⟨#[98, 111, 98]⟩)] ⟨#[98, 111, 98]⟩ 2 ⟨#[107, 50]⟩ = true := by kernel_rfl
theorem kf_hm14 : mayB ⟨⟨#[65, 110, 110]⟩, 2, ⟨#[107]⟩, false⟩ = false := by kernel_rfl
theorem kf_hm15 : mayB ⟨⟨#[97, 110, 110]⟩, 8, ⟨#[107]⟩, false⟩ = false := by kernel_rfl
theorem kf_hab : aboutB ⟨⟨#[64, 111, 112, 115]⟩, 0, ⟨#[42]⟩, false⟩ [⟨#[111, 112, 115]⟩] ⟨#[98, 111, 98]⟩ 2 ⟨#[107]⟩ = true := by kernel_rfl

set_option maxRecDepth 100000 in
set_option maxHeartbeats 4000000 in
theorem accessKnown_walk (w : World) : Answers Try.prog 3 #[] w := by
  have hnm := Lib.hid kf_hnm
  have hops := Lib.hid kf_hops
  have hbob := Lib.hid kf_hbob
  have hm3 := Lib.hid kf_hm3
  have hn3 := Lib.hid kf_hn3
  have ha4 := Lib.hid kf_ha4
  have ha5 := Lib.hid kf_ha5
  have ha6 := Lib.hid kf_ha6
  have ha7 := Lib.hid kf_ha7
  have hm8 := Lib.hid kf_hm8
  have hn8 := Lib.hid kf_hn8
  have hh9 := Lib.hid kf_hh9
  have ha10 := Lib.hid kf_ha10
  have hm11 := Lib.hid kf_hm11
  have hn11 := Lib.hid kf_hn11
  have ha12 := Lib.hid kf_ha12
  have ha13 := Lib.hid kf_ha13
  have hm14 := Lib.hid kf_hm14
  have hm15 := Lib.hid kf_hm15
  have hab := Lib.hid kf_hab
  unfold Answers
  go_enter Try.func3, Try.ntmps3
  go_wp2_with (first
    | (go_at_call 17; refine (about_known w16 hab.out).mono ?_; rintro e w17 ⟨rfl, hb17⟩; have K17 := Lib.hid (K16.out.on (((Below.refl _ _).alloc (Nat.le_refl _) (.cells #[.string ⟨#[111, 112, 115]⟩] 9)).trans (hb17.mono (by simp)))); clear hb17)
    | (go_at_call 13; refine (open_there w _ b m nv [⟨#[116, 49]⟩] [(⟨#[116, 49]⟩, .pointer (some ⟨t, 0, none⟩))] ⟨#[116, 49]⟩ _ K15.out.1 hnm.out HF.out).mono ?_; rintro e w16 ⟨rfl, hb16⟩; have K16 := Lib.hid (K15.out.on hb16); clear hb16)
    | (go_at_call 14; refine (grant_refused w _ b m nv [⟨#[116, 49]⟩] [(⟨#[116, 49]⟩, .pointer (some ⟨t, 0, none⟩))] ⟨#[116, 49]⟩ ⟨#[97, 110, 110]⟩ ⟨#[107]⟩ 8 false _ K14.out.1 HF.out hm15.out (by decide)).mono ?_; rintro e w15 ⟨rfl, hb15⟩; have K15 := Lib.hid (K14.out.on hb15); clear hb15)
    | (go_at_call 14; refine (grant_refused w _ b m nv [⟨#[116, 49]⟩] [(⟨#[116, 49]⟩, .pointer (some ⟨t, 0, none⟩))] ⟨#[116, 49]⟩ ⟨#[65, 110, 110]⟩ ⟨#[107]⟩ 2 false _ K13.out.1 HF.out hm14.out (by decide)).mono ?_; rintro e w14 ⟨rfl, hb14⟩; have K14 := Lib.hid (K13.out.on hb14); clear hb14)
    | (go_at_call 15; refine (known_allowed (rules := [⟨⟨#[97, 110, 110]⟩, 2, ⟨#[107, 42]⟩, false⟩, ⟨⟨#[64, 111, 112, 115]⟩, 0, ⟨#[42]⟩, false⟩, ⟨⟨#[42]⟩, 2, ⟨#[107, 49]⟩, true⟩]) (ms := [(⟨#[111, 112, 115]⟩, ⟨#[98, 111, 98]⟩)]) K12.out ⟨#[98, 111, 98]⟩ 2 ⟨#[107, 50]⟩ true ha13.out (by decide) (by decide) (by decide)).mono ?_; rintro e w13 ⟨rfl, hK13⟩; have K13 := Lib.hid hK13; clear hK13)
    | (go_at_call 15; refine (known_allowed (rules := [⟨⟨#[97, 110, 110]⟩, 2, ⟨#[107, 42]⟩, false⟩, ⟨⟨#[64, 111, 112, 115]⟩, 0, ⟨#[42]⟩, false⟩, ⟨⟨#[42]⟩, 2, ⟨#[107, 49]⟩, true⟩]) (ms := [(⟨#[111, 112, 115]⟩, ⟨#[98, 111, 98]⟩)]) K11.out ⟨#[97, 110, 110]⟩ 2 ⟨#[107, 49]⟩ false ha12.out (by decide) (by decide) (by decide)).mono ?_; rintro e w12 ⟨rfl, hK12⟩; have K12 := Lib.hid hK12; clear hK12)
    | (go_at_call 14; refine (grant_new w _ b m t mi nv rv8 mv9 [⟨#[116, 49]⟩] [(⟨#[116, 49]⟩, .pointer (some ⟨t, 0, none⟩))] ⟨#[116, 49]⟩ [⟨⟨#[97, 110, 110]⟩, 2, ⟨#[107, 42]⟩, false⟩, ⟨⟨#[64, 111, 112, 115]⟩, 0, ⟨#[42]⟩, false⟩] [(⟨#[111, 112, 115]⟩, ⟨#[98, 111, 98]⟩)] ⟨#[42]⟩ ⟨#[107, 49]⟩ 2 true K10.out.1 K10.out.2 HF.out hm11.out hn11.out (by decide) (by decide)).mono ?_; rintro e w11 ⟨rfl, hb11, ⟨rv11, ht11, _⟩, _⟩; have K11 := Lib.hid (show KState w w11 b m t mi nv rv11 mv9 [⟨⟨#[97, 110, 110]⟩, 2, ⟨#[107, 42]⟩, false⟩, ⟨⟨#[64, 111, 112, 115]⟩, 0, ⟨#[42]⟩, false⟩, ⟨⟨#[42]⟩, 2, ⟨#[107, 49]⟩, true⟩] [(⟨#[111, 112, 115]⟩, ⟨#[98, 111, 98]⟩)] from ⟨hb11, ht11⟩); clear hb11 ht11)
    | (go_at_call 15; refine (known_allowed (rules := [⟨⟨#[97, 110, 110]⟩, 2, ⟨#[107, 42]⟩, false⟩, ⟨⟨#[64, 111, 112, 115]⟩, 0, ⟨#[42]⟩, false⟩]) (ms := [(⟨#[111, 112, 115]⟩, ⟨#[98, 111, 98]⟩)]) K9.out ⟨#[98, 111, 98]⟩ 3 ⟨#[120]⟩ true ha10.out (by decide) (by decide) (by decide)).mono ?_; rintro e w10 ⟨rfl, hK10⟩; have K10 := Lib.hid hK10; clear hK10)
    | (go_at_call 16; refine (join_new w _ b m t mi nv rv8 (.slice none 0 0) [⟨#[116, 49]⟩] [(⟨#[116, 49]⟩, .pointer (some ⟨t, 0, none⟩))] ⟨#[116, 49]⟩ ⟨#[111, 112, 115]⟩ ⟨#[98, 111, 98]⟩ [⟨⟨#[97, 110, 110]⟩, 2, ⟨#[107, 42]⟩, false⟩, ⟨⟨#[64, 111, 112, 115]⟩, 0, ⟨#[42]⟩, false⟩] [] K8.out.1 K8.out.2 HF.out hops.out hbob.out hh9.out (by decide)).mono ?_; rintro e w9 ⟨rfl, hb9, ⟨mv9, ht9, _⟩, _⟩; have K9 := Lib.hid (show KState w w9 b m t mi nv rv8 mv9 [⟨⟨#[97, 110, 110]⟩, 2, ⟨#[107, 42]⟩, false⟩, ⟨⟨#[64, 111, 112, 115]⟩, 0, ⟨#[42]⟩, false⟩] [(⟨#[111, 112, 115]⟩, ⟨#[98, 111, 98]⟩)] from ⟨hb9, ht9⟩); clear hb9 ht9)
    | (go_at_call 14; refine (grant_new w _ b m t mi nv rv3 (.slice none 0 0) [⟨#[116, 49]⟩] [(⟨#[116, 49]⟩, .pointer (some ⟨t, 0, none⟩))] ⟨#[116, 49]⟩ [⟨⟨#[97, 110, 110]⟩, 2, ⟨#[107, 42]⟩, false⟩] [] ⟨#[64, 111, 112, 115]⟩ ⟨#[42]⟩ 0 false K7.out.1 K7.out.2 HF.out hm8.out hn8.out (by decide) (by decide)).mono ?_; rintro e w8 ⟨rfl, hb8, ⟨rv8, ht8, _⟩, _⟩; have K8 := Lib.hid (show KState w w8 b m t mi nv rv8 (.slice none 0 0) [⟨⟨#[97, 110, 110]⟩, 2, ⟨#[107, 42]⟩, false⟩, ⟨⟨#[64, 111, 112, 115]⟩, 0, ⟨#[42]⟩, false⟩] [] from ⟨hb8, ht8⟩); clear hb8 ht8)
    | (go_at_call 15; refine (known_allowed (rules := [⟨⟨#[97, 110, 110]⟩, 2, ⟨#[107, 42]⟩, false⟩]) (ms := []) K6.out ⟨#[97, 110, 110]⟩ 2 ⟨#[120]⟩ false ha7.out (by decide) (by decide) (by decide)).mono ?_; rintro e w7 ⟨rfl, hK7⟩; have K7 := Lib.hid hK7; clear hK7)
    | (go_at_call 15; refine (known_allowed (rules := [⟨⟨#[97, 110, 110]⟩, 2, ⟨#[107, 42]⟩, false⟩]) (ms := []) K5.out ⟨#[97, 110, 110]⟩ 3 ⟨#[107, 49]⟩ false ha6.out (by decide) (by decide) (by decide)).mono ?_; rintro e w6 ⟨rfl, hK6⟩; have K6 := Lib.hid hK6; clear hK6)
    | (go_at_call 15; refine (known_allowed (rules := [⟨⟨#[97, 110, 110]⟩, 2, ⟨#[107, 42]⟩, false⟩]) (ms := []) K4.out ⟨#[98, 111, 98]⟩ 2 ⟨#[107, 49]⟩ false ha5.out (by decide) (by decide) (by decide)).mono ?_; rintro e w5 ⟨rfl, hK5⟩; have K5 := Lib.hid hK5; clear hK5)
    | (go_at_call 15; refine (known_allowed (rules := [⟨⟨#[97, 110, 110]⟩, 2, ⟨#[107, 42]⟩, false⟩]) (ms := []) K3.out ⟨#[97, 110, 110]⟩ 2 ⟨#[107, 49]⟩ true ha4.out (by decide) (by decide) (by decide)).mono ?_; rintro e w4 ⟨rfl, hK4⟩; have K4 := Lib.hid hK4; clear hK4)
    | (go_at_call 14; refine (grant_new w _ b m t mi nv (.slice none 0 0) (.slice none 0 0) [⟨#[116, 49]⟩] [(⟨#[116, 49]⟩, .pointer (some ⟨t, 0, none⟩))] ⟨#[116, 49]⟩ [] [] ⟨#[97, 110, 110]⟩ ⟨#[107, 42]⟩ 2 false K2.out.1 K2.out.2 HF.out hm3.out hn3.out (by decide) (by decide)).mono ?_; rintro e w3 ⟨rfl, hb3, ⟨rv3, ht3, _⟩, _⟩; have K3 := Lib.hid (show KState w w3 b m t mi nv rv3 (.slice none 0 0) [⟨⟨#[97, 110, 110]⟩, 2, ⟨#[107, 42]⟩, false⟩] [] from ⟨hb3, ht3⟩); clear hb3 ht3)
    | (go_at_call 13; refine (open_calls w _ b m (.slice none 0 0) [] [] ⟨#[116, 49]⟩ K1.out hnm.out rfl (by decide)).mono ?_; rintro e w2 ⟨rfl, nv, t, mi, hb2, ht2, _⟩; have K2 := Lib.hid (show KState w w2 b m t mi nv (.slice none 0 0) (.slice none 0 0) [] [] from ⟨hb2, ht2⟩); have HF := Lib.hid (find_one t); clear hb2 ht2)
    | (go_at_call 12; refine (new_calls _).mono ?_; rintro e w1 ⟨b, rfl, m, hK1⟩; have K1 := Lib.hid hK1; clear hK1))
  go_ret
  exact ⟨rfl, K17.out.1.below⟩

end Go.Proofs.Ytglcingpolpkdaa
