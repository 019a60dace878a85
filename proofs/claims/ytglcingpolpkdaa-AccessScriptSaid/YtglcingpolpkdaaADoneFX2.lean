/- done: a call of the book beside the reference's. -/
import Derived.Test.YtglcingpolpkdaaABookFX2
import Derived.Test.YtglcingpolpkdaaADuo
namespace Go.Proofs.Ytglcingpolpkdaa
open Go.RowKit

set_option maxRecDepth 100000 in
set_option maxHeartbeats 1000000 in
theorem donef_open {W w : World} {b g : Nat} {ts us : List Tn} (tenant role who rwho rkey key : ByteArray) (rwhat what : Int) (deny : Bool) (h : Duo W w b g ts us) (hc : Cap ts) :
    Calls Try.prog 51 #[.pointer (some ⟨b, 0, none⟩), .agg #[.int .u8 0, .string tenant, .string role, .string who, .string rwho, .int .i64 rwhat, .string rkey, .bool deny, .int .i64 what, .string key]] w fun e w' => e = .returned (.int .i64 (openF ts tenant).1) ∧ Duo W w' b g (openF ts tenant).2 us ∧ Keep w w' := by
  have hBA : Below w.heap.size w (w.alloc (.cells #[.int .u8 0, .string tenant, .string role, .string who, .string rwho, .int .i64 rwhat, .string rkey, .bool deny, .int .i64 what, .string key] 38)) := (Below.refl _ _).alloc (Nat.le_refl _) _
  have hC := Whole.new w 38 #[.int .u8 0, .string tenant, .string role, .string who, .string rwho, .int .i64 rwhat, .string rkey, .bool deny, .int .i64 what, .string key]
  have c0 := hC.cell 0
  have c1 := hC.cell 1
  have c2 := hC.cell 2
  have c3 := hC.cell 3
  have c4 := hC.cell 4
  have c5 := hC.cell 5
  have c6 := hC.cell 6
  have c7 := hC.cell 7
  have HKA := Lib.hid (Keep.of hBA)
  have HC := Lib.hid (duo_open tenant (h.on hBA) hc)
  clear hC h hBA
  revert HC
  generalize openF ts tenant = q
  obtain ⟨q1, q2⟩ := q
  intro HC
  go_enter Try.func51, Try.ntmps51
  go_wp2_with (first
    | (refine wpList_box_cells (by rfl) 38 _ (by rfl) #[.int .u8 0, .string tenant, .string role, .string who, .string rwho, .int .i64 rwhat, .string rkey, .bool deny, .int .i64 what, .string key] (by rfl) ?_)
    | (go_at_call 13; refine HC.out.mono ?_; rintro e w1 ⟨rfl, h1, h2⟩))
  go_ret
  exact ⟨rfl, h1, HKA.out.trans h2⟩

set_option maxRecDepth 100000 in
set_option maxHeartbeats 1000000 in
theorem donef_join {W w : World} {b g : Nat} {ts us : List Tn} (tenant role who rwho rkey key : ByteArray) (rwhat what : Int) (deny : Bool) (h : Duo W w b g ts us) (hc : Cap ts) :
    Calls Try.prog 51 #[.pointer (some ⟨b, 0, none⟩), .agg #[.int .u8 1, .string tenant, .string role, .string who, .string rwho, .int .i64 rwhat, .string rkey, .bool deny, .int .i64 what, .string key]] w fun e w' => e = .returned (.int .i64 (joinF ts tenant role who).1) ∧ Duo W w' b g (joinF ts tenant role who).2 us ∧ Keep w w' := by
  have hBA : Below w.heap.size w (w.alloc (.cells #[.int .u8 1, .string tenant, .string role, .string who, .string rwho, .int .i64 rwhat, .string rkey, .bool deny, .int .i64 what, .string key] 38)) := (Below.refl _ _).alloc (Nat.le_refl _) _
  have hC := Whole.new w 38 #[.int .u8 1, .string tenant, .string role, .string who, .string rwho, .int .i64 rwhat, .string rkey, .bool deny, .int .i64 what, .string key]
  have c0 := hC.cell 0
  have c1 := hC.cell 1
  have c2 := hC.cell 2
  have c3 := hC.cell 3
  have c4 := hC.cell 4
  have c5 := hC.cell 5
  have c6 := hC.cell 6
  have c7 := hC.cell 7
  have HKA := Lib.hid (Keep.of hBA)
  have HC := Lib.hid (duo_join tenant role who (h.on hBA) hc)
  clear hC h hBA
  revert HC
  generalize joinF ts tenant role who = q
  obtain ⟨q1, q2⟩ := q
  intro HC
  go_enter Try.func51, Try.ntmps51
  go_wp2_with (first
    | (refine wpList_box_cells (by rfl) 38 _ (by rfl) #[.int .u8 1, .string tenant, .string role, .string who, .string rwho, .int .i64 rwhat, .string rkey, .bool deny, .int .i64 what, .string key] (by rfl) ?_)
    | (go_at_call 16; refine HC.out.mono ?_; rintro e w1 ⟨rfl, h1, h2⟩))
  go_ret
  exact ⟨rfl, h1, HKA.out.trans h2⟩

set_option maxRecDepth 100000 in
set_option maxHeartbeats 1000000 in
theorem donef_leave {W w : World} {b g : Nat} {ts us : List Tn} (tenant role who rwho rkey key : ByteArray) (rwhat what : Int) (deny : Bool) (h : Duo W w b g ts us) (hc : Cap ts) :
    Calls Try.prog 51 #[.pointer (some ⟨b, 0, none⟩), .agg #[.int .u8 2, .string tenant, .string role, .string who, .string rwho, .int .i64 rwhat, .string rkey, .bool deny, .int .i64 what, .string key]] w fun e w' => e = .returned (.int .i64 (leaveT ts tenant role who).1) ∧ Duo W w' b g (leaveT ts tenant role who).2 us ∧ Keep w w' := by
  have hBA : Below w.heap.size w (w.alloc (.cells #[.int .u8 2, .string tenant, .string role, .string who, .string rwho, .int .i64 rwhat, .string rkey, .bool deny, .int .i64 what, .string key] 38)) := (Below.refl _ _).alloc (Nat.le_refl _) _
  have hC := Whole.new w 38 #[.int .u8 2, .string tenant, .string role, .string who, .string rwho, .int .i64 rwhat, .string rkey, .bool deny, .int .i64 what, .string key]
  have c0 := hC.cell 0
  have c1 := hC.cell 1
  have c2 := hC.cell 2
  have c3 := hC.cell 3
  have c4 := hC.cell 4
  have c5 := hC.cell 5
  have c6 := hC.cell 6
  have c7 := hC.cell 7
  have HKA := Lib.hid (Keep.of hBA)
  have HC := Lib.hid (duo_leave tenant role who (h.on hBA) hc)
  clear hC h hBA
  revert HC
  generalize leaveT ts tenant role who = q
  obtain ⟨q1, q2⟩ := q
  intro HC
  go_enter Try.func51, Try.ntmps51
  go_wp2_with (first
    | (refine wpList_box_cells (by rfl) 38 _ (by rfl) #[.int .u8 2, .string tenant, .string role, .string who, .string rwho, .int .i64 rwhat, .string rkey, .bool deny, .int .i64 what, .string key] (by rfl) ?_)
    | (go_at_call 22; refine HC.out.mono ?_; rintro e w1 ⟨rfl, h1, h2⟩))
  go_ret
  exact ⟨rfl, h1, HKA.out.trans h2⟩

set_option maxRecDepth 100000 in
set_option maxHeartbeats 1000000 in
theorem donef_grant {W w : World} {b g : Nat} {ts us : List Tn} (tenant role who rwho rkey key : ByteArray) (rwhat what : Int) (deny : Bool) (h : Duo W w b g ts us) (hc : Cap ts) (hsz : rkey.size ≤ 1000000) :
    Calls Try.prog 51 #[.pointer (some ⟨b, 0, none⟩), .agg #[.int .u8 3, .string tenant, .string role, .string who, .string rwho, .int .i64 rwhat, .string rkey, .bool deny, .int .i64 what, .string key]] w fun e w' => e = .returned (.int .i64 (grantF ts tenant ⟨rwho, rwhat, rkey, deny⟩).1) ∧ Duo W w' b g (grantF ts tenant ⟨rwho, rwhat, rkey, deny⟩).2 us ∧ Keep w w' := by
  have hBA : Below w.heap.size w (w.alloc (.cells #[.int .u8 3, .string tenant, .string role, .string who, .string rwho, .int .i64 rwhat, .string rkey, .bool deny, .int .i64 what, .string key] 38)) := (Below.refl _ _).alloc (Nat.le_refl _) _
  have hC := Whole.new w 38 #[.int .u8 3, .string tenant, .string role, .string who, .string rwho, .int .i64 rwhat, .string rkey, .bool deny, .int .i64 what, .string key]
  have c0 := hC.cell 0
  have c1 := hC.cell 1
  have c2 := hC.cell 2
  have c3 := hC.cell 3
  have c4 := hC.cell 4
  have c5 := hC.cell 5
  have c6 := hC.cell 6
  have c7 := hC.cell 7
  have HKA := Lib.hid (Keep.of hBA)
  have HC := Lib.hid (duo_grant tenant rwho rkey rwhat deny (h.on hBA) hc hsz)
  clear hC h hBA
  revert HC
  generalize grantF ts tenant ⟨rwho, rwhat, rkey, deny⟩ = q
  obtain ⟨q1, q2⟩ := q
  intro HC
  go_enter Try.func51, Try.ntmps51
  go_wp2_with (first
    | (refine wpList_box_cells (by rfl) 38 _ (by rfl) #[.int .u8 3, .string tenant, .string role, .string who, .string rwho, .int .i64 rwhat, .string rkey, .bool deny, .int .i64 what, .string key] (by rfl) ?_)
    | (go_at_call 14; refine HC.out.mono ?_; rintro e w1 ⟨rfl, h1, h2⟩))
  go_ret
  exact ⟨rfl, h1, HKA.out.trans h2⟩

set_option maxRecDepth 100000 in
set_option maxHeartbeats 1000000 in
theorem donef_revoke {W w : World} {b g : Nat} {ts us : List Tn} (tenant role who rwho rkey key : ByteArray) (rwhat what : Int) (deny : Bool) (h : Duo W w b g ts us) (hc : Cap ts) (hsz : rkey.size ≤ 1000000) :
    Calls Try.prog 51 #[.pointer (some ⟨b, 0, none⟩), .agg #[.int .u8 4, .string tenant, .string role, .string who, .string rwho, .int .i64 rwhat, .string rkey, .bool deny, .int .i64 what, .string key]] w fun e w' => e = .returned (.int .i64 (revokeT ts tenant ⟨rwho, rwhat, rkey, deny⟩).1) ∧ Duo W w' b g (revokeT ts tenant ⟨rwho, rwhat, rkey, deny⟩).2 us ∧ Keep w w' := by
  have hBA : Below w.heap.size w (w.alloc (.cells #[.int .u8 4, .string tenant, .string role, .string who, .string rwho, .int .i64 rwhat, .string rkey, .bool deny, .int .i64 what, .string key] 38)) := (Below.refl _ _).alloc (Nat.le_refl _) _
  have hC := Whole.new w 38 #[.int .u8 4, .string tenant, .string role, .string who, .string rwho, .int .i64 rwhat, .string rkey, .bool deny, .int .i64 what, .string key]
  have c0 := hC.cell 0
  have c1 := hC.cell 1
  have c2 := hC.cell 2
  have c3 := hC.cell 3
  have c4 := hC.cell 4
  have c5 := hC.cell 5
  have c6 := hC.cell 6
  have c7 := hC.cell 7
  have HKA := Lib.hid (Keep.of hBA)
  have HC := Lib.hid (duo_revoke tenant rwho rkey rwhat deny (h.on hBA) hc hsz)
  clear hC h hBA
  revert HC
  generalize revokeT ts tenant ⟨rwho, rwhat, rkey, deny⟩ = q
  obtain ⟨q1, q2⟩ := q
  intro HC
  go_enter Try.func51, Try.ntmps51
  go_wp2_with (first
    | (refine wpList_box_cells (by rfl) 38 _ (by rfl) #[.int .u8 4, .string tenant, .string role, .string who, .string rwho, .int .i64 rwhat, .string rkey, .bool deny, .int .i64 what, .string key] (by rfl) ?_)
    | (go_at_call 21; refine HC.out.mono ?_; rintro e w1 ⟨rfl, h1, h2⟩))
  go_ret
  exact ⟨rfl, h1, HKA.out.trans h2⟩

set_option maxRecDepth 100000 in
set_option maxHeartbeats 1000000 in
theorem donef_other {W w : World} {b g : Nat} {ts us : List Tn} (kind : Int) (tenant role who rwho rkey key : ByteArray) (rwhat what : Int) (deny : Bool) (h : Duo W w b g ts us) (h0 : ¬ kind = 0) (h1 : ¬ kind = 1) (h2 : ¬ kind = 2) (h3 : ¬ kind = 3) (h4 : ¬ kind = 4) :
    Calls Try.prog 51 #[.pointer (some ⟨b, 0, none⟩), .agg #[.int .u8 kind, .string tenant, .string role, .string who, .string rwho, .int .i64 rwhat, .string rkey, .bool deny, .int .i64 what, .string key]] w fun e w' => e = .returned (.int .i64 0) ∧ Duo W w' b g ts us ∧ Keep w w' := by
  have hBA : Below w.heap.size w (w.alloc (.cells #[.int .u8 kind, .string tenant, .string role, .string who, .string rwho, .int .i64 rwhat, .string rkey, .bool deny, .int .i64 what, .string key] 38)) := (Below.refl _ _).alloc (Nat.le_refl _) _
  have hC := Whole.new w 38 #[.int .u8 kind, .string tenant, .string role, .string who, .string rwho, .int .i64 rwhat, .string rkey, .bool deny, .int .i64 what, .string key]
  have c0 := hC.cell 0
  have c1 := hC.cell 1
  have c2 := hC.cell 2
  have c3 := hC.cell 3
  have c4 := hC.cell 4
  have c5 := hC.cell 5
  have c6 := hC.cell 6
  have c7 := hC.cell 7
  have e0 : (kind == 0) = false := by simpa using h0
  have e1 : (kind == 1) = false := by simpa using h1
  have e2 : (kind == 2) = false := by simpa using h2
  have e3 : (kind == 3) = false := by simpa using h3
  have e4 : (kind == 4) = false := by simpa using h4
  have HI := Lib.hid (And.intro (h.on hBA) (Keep.of hBA))
  clear hC h hBA
  go_enter Try.func51, Try.ntmps51
  go_wp2_with (refine wpList_box_cells (by rfl) 38 _ (by rfl) #[.int .u8 kind, .string tenant, .string role, .string who, .string rwho, .int .i64 rwhat, .string rkey, .bool deny, .int .i64 what, .string key] (by rfl) ?_)
  go_ret
  exact ⟨rfl, HI.out⟩

theorem donef_calls {W w : World} {b g : Nat} {ts us : List Tn} (a : Ac) (h : Duo W w b g ts us) (hi : Inv ts) (hsz : a.r.key.size ≤ 1000000) :
    Calls Try.prog 51 #[.pointer (some ⟨b, 0, none⟩), .agg a.cells.toArray] w fun e w' => e = .returned (.int .i64 (doF ts a).1) ∧ Duo W w' b g (doF ts a).2 us ∧ Keep w w' := by
  obtain ⟨kind, tenant, role, who, ⟨rwho, rwhat, rkey, deny⟩, what, key⟩ := a
  unfold doF
  by_cases h0 : kind = 0
  · subst h0
    exact donef_open tenant role who rwho rkey key rwhat what deny h hi.cap
  rw [if_neg h0]
  by_cases h1 : kind = 1
  · subst h1
    exact donef_join tenant role who rwho rkey key rwhat what deny h hi.cap
  rw [if_neg h1]
  by_cases h2 : kind = 2
  · subst h2
    exact donef_leave tenant role who rwho rkey key rwhat what deny h hi.cap
  rw [if_neg h2]
  by_cases h3 : kind = 3
  · subst h3
    exact donef_grant tenant role who rwho rkey key rwhat what deny h hi.cap hsz
  rw [if_neg h3]
  by_cases h4 : kind = 4
  · subst h4
    exact donef_revoke tenant role who rwho rkey key rwhat what deny h hi.cap hsz
  rw [if_neg h4]
  exact donef_other kind tenant role who rwho rkey key rwhat what deny h h0 h1 h2 h3 h4

end Go.Proofs.Ytglcingpolpkdaa

/- act: the reference's call beside the book's. -/
namespace Go.Proofs.Ytglcingpolpkdaa
open Go.RowKit

noncomputable def actSwitch : Code := subCode [1, 1, 1, 0, 1] ((Try.f26.body).getD .skip)

set_option maxRecDepth 100000 in
set_option maxHeartbeats 4000000 in
theorem act_switch {z2 z3 z4 z6 z7 z9 z10 z11 z12 z13 z14 z15 z16 z17 z19 z20 z21 z22 z23 z24 z25 z26 z27 z28 z29 z30 z31 z32 z33 z34 z35 z36 z37 z38 z39 z40 z41 z42 z43 z44 z45 z46 z47 z48 z49 z50 z51 z52 z53 z54 z55 z56 z57 z58 z59 z60 z61 z62 z63 z64 z65 z66 z67 z68 z69 z70 z71 z72 z73 z74 z75 z76 z77 z78 z79 z80 z81 z82 z83 z84 z85 z86 z87 z88 z89 z90 z91 z92 z93 z94 z95 z96 z97 z98 z99 z100 z101 z102 z103 z104 z105 z106 z107 z108 z109 z110 z111 z112 z113 z114 z115 z116 z117 z118 z119 z120 z121 z122 z123 z124 z125 z126 z127 z128 z129 z130 z131 z132 z133 z134 z135 z136 z137 z138 z139 z140 z141 z142 z143 : Value} (W w : World) (B b g : Nat) (ts us : List Tn) (kind : Int) (tenant role who rwho : ByteArray) (rwhat : Int) (rkey : ByteArray) (deny : Bool) (what : Int) (key : ByteArray) (hD : Duo W w b g ts us) (hC : Whole w B 38 [.int .u8 kind, .string tenant, .string role, .string who, .string rwho, .int .i64 rwhat, .string rkey, .bool deny, .int .i64 what, .string key]) (hi : Inv us) (hsz : rkey.size ≤ 1000000) {Q : Exit → Act → World → Prop}
    (hq : ∀ (y19 y20 y21 y22 y23 y24 y25 y26 y27 y28 y29 y30 y31 y32 y33 y34 y35 y36 y37 y38 y39 y40 y41 y42 y43 y44 y45 y46 y47 y48 y49 y50 y51 y52 y53 y54 y55 y56 y57 y58 y59 y60 : Value) (w' : World), Duo W w' b g ts (doF us ⟨kind, tenant, role, who, ⟨rwho, rwhat, rkey, deny⟩, what, key⟩).2 → Whole w' B 38 [.int .u8 kind, .string tenant, .string role, .string who, .string rwho, .int .i64 rwhat, .string rkey, .bool deny, .int .i64 what, .string key] → Q .normal ⟨(.pointer (some ⟨b, 0, none⟩) :: .pointer (some ⟨g, 0, none⟩) :: z2 :: z3 :: z4 :: .pointer (some ⟨B, 0, none⟩) :: z6 :: z7 :: .int .i64 (doF us ⟨kind, tenant, role, who, ⟨rwho, rwhat, rkey, deny⟩, what, key⟩).1 :: z9 :: z10 :: z11 :: z12 :: z13 :: z14 :: z15 :: z16 :: z17 :: .int .u8 kind :: y19 :: y20 :: y21 :: y22 :: y23 :: y24 :: y25 :: y26 :: y27 :: y28 :: y29 :: y30 :: y31 :: y32 :: y33 :: y34 :: y35 :: y36 :: y37 :: y38 :: y39 :: y40 :: y41 :: y42 :: y43 :: y44 :: y45 :: y46 :: y47 :: y48 :: y49 :: y50 :: y51 :: y52 :: y53 :: y54 :: y55 :: y56 :: y57 :: y58 :: y59 :: y60 :: z61 :: z62 :: z63 :: z64 :: z65 :: z66 :: z67 :: z68 :: z69 :: z70 :: z71 :: z72 :: z73 :: z74 :: z75 :: z76 :: z77 :: z78 :: z79 :: z80 :: z81 :: z82 :: z83 :: z84 :: z85 :: z86 :: z87 :: z88 :: z89 :: z90 :: z91 :: z92 :: z93 :: z94 :: z95 :: z96 :: z97 :: z98 :: z99 :: z100 :: z101 :: z102 :: z103 :: z104 :: z105 :: z106 :: z107 :: z108 :: z109 :: z110 :: z111 :: z112 :: z113 :: z114 :: z115 :: z116 :: z117 :: z118 :: z119 :: z120 :: z121 :: z122 :: z123 :: z124 :: z125 :: z126 :: z127 :: z128 :: z129 :: z130 :: z131 :: z132 :: z133 :: z134 :: z135 :: z136 :: z137 :: z138 :: z139 :: z140 :: z141 :: z142 :: z143 :: []).toArray, []⟩ w') : Code.wp Try.prog actSwitch Q ⟨(.pointer (some ⟨b, 0, none⟩) :: .pointer (some ⟨g, 0, none⟩) :: z2 :: z3 :: z4 :: .pointer (some ⟨B, 0, none⟩) :: z6 :: z7 :: .int .i64 0 :: z9 :: z10 :: z11 :: z12 :: z13 :: z14 :: z15 :: z16 :: z17 :: .int .u8 kind :: z19 :: z20 :: z21 :: z22 :: z23 :: z24 :: z25 :: z26 :: z27 :: z28 :: z29 :: z30 :: z31 :: z32 :: z33 :: z34 :: z35 :: z36 :: z37 :: z38 :: z39 :: z40 :: z41 :: z42 :: z43 :: z44 :: z45 :: z46 :: z47 :: z48 :: z49 :: z50 :: z51 :: z52 :: z53 :: z54 :: z55 :: z56 :: z57 :: z58 :: z59 :: z60 :: z61 :: z62 :: z63 :: z64 :: z65 :: z66 :: z67 :: z68 :: z69 :: z70 :: z71 :: z72 :: z73 :: z74 :: z75 :: z76 :: z77 :: z78 :: z79 :: z80 :: z81 :: z82 :: z83 :: z84 :: z85 :: z86 :: z87 :: z88 :: z89 :: z90 :: z91 :: z92 :: z93 :: z94 :: z95 :: z96 :: z97 :: z98 :: z99 :: z100 :: z101 :: z102 :: z103 :: z104 :: z105 :: z106 :: z107 :: z108 :: z109 :: z110 :: z111 :: z112 :: z113 :: z114 :: z115 :: z116 :: z117 :: z118 :: z119 :: z120 :: z121 :: z122 :: z123 :: z124 :: z125 :: z126 :: z127 :: z128 :: z129 :: z130 :: z131 :: z132 :: z133 :: z134 :: z135 :: z136 :: z137 :: z138 :: z139 :: z140 :: z141 :: z142 :: z143 :: []).toArray, []⟩ w := by
  conv => arg 2; whnf
  by_cases h0 : kind = 0
  · subst h0
    have e : doF us ⟨0, tenant, role, who, ⟨rwho, rwhat, rkey, deny⟩, what, key⟩ = openF us tenant := by simp [doF]
    rw [e] at hq
    have HC := Lib.hid (duo_refopen tenant hD hi.cap)
    have HB := Lib.hid hC
    have c0 := hC.cell 0
    have c1 := hC.cell 1
    have c2 := hC.cell 2
    have c3 := hC.cell 3
    have c4 := hC.cell 4
    have c5 := hC.cell 5
    have c6 := hC.cell 6
    have c7 := hC.cell 7
    clear hC hD e
    revert HC hq
    generalize openF us tenant = q
    obtain ⟨q1, q2⟩ := q
    intro hq HC
    have HQ := Lib.hid hq
    clear hq
    go_wp2_with (go_at_call 58; refine HC.out.mono ?_; rintro e w1 ⟨rfl, hD1, hK1⟩)
    exact HQ.out _ _ _ _ _ _ _ _ _ _ _ _ _ _ _ _ _ _ _ _ _ _ _ _ _ _ _ _ _ _ _ _ _ _ _ _ _ _ _ _ _ _ _ hD1 (hK1 _ _ HB.out)
  by_cases h1 : kind = 1
  · subst h1
    have e : doF us ⟨1, tenant, role, who, ⟨rwho, rwhat, rkey, deny⟩, what, key⟩ = joinF us tenant role who := by simp [doF]
    rw [e] at hq
    have HC := Lib.hid (duo_refjoin tenant role who hD hi.cap)
    have HB := Lib.hid hC
    have c0 := hC.cell 0
    have c1 := hC.cell 1
    have c2 := hC.cell 2
    have c3 := hC.cell 3
    have c4 := hC.cell 4
    have c5 := hC.cell 5
    have c6 := hC.cell 6
    have c7 := hC.cell 7
    clear hC hD e
    revert HC hq
    generalize joinF us tenant role who = q
    obtain ⟨q1, q2⟩ := q
    intro hq HC
    have HQ := Lib.hid hq
    clear hq
    go_wp2_with (go_at_call 59; refine HC.out.mono ?_; rintro e w1 ⟨rfl, hD1, hK1⟩)
    exact HQ.out _ _ _ _ _ _ _ _ _ _ _ _ _ _ _ _ _ _ _ _ _ _ _ _ _ _ _ _ _ _ _ _ _ _ _ _ _ _ _ _ _ _ _ hD1 (hK1 _ _ HB.out)
  by_cases h2 : kind = 2
  · subst h2
    have e : doF us ⟨2, tenant, role, who, ⟨rwho, rwhat, rkey, deny⟩, what, key⟩ = leaveT us tenant role who := by simp [doF]
    rw [e] at hq
    have HC := Lib.hid (duo_refleave tenant role who hD hi.cap)
    have HB := Lib.hid hC
    have c0 := hC.cell 0
    have c1 := hC.cell 1
    have c2 := hC.cell 2
    have c3 := hC.cell 3
    have c4 := hC.cell 4
    have c5 := hC.cell 5
    have c6 := hC.cell 6
    have c7 := hC.cell 7
    clear hC hD e
    revert HC hq
    generalize leaveT us tenant role who = q
    obtain ⟨q1, q2⟩ := q
    intro hq HC
    have HQ := Lib.hid hq
    clear hq
    go_wp2_with (go_at_call 60; refine HC.out.mono ?_; rintro e w1 ⟨rfl, hD1, hK1⟩)
    exact HQ.out _ _ _ _ _ _ _ _ _ _ _ _ _ _ _ _ _ _ _ _ _ _ _ _ _ _ _ _ _ _ _ _ _ _ _ _ _ _ _ _ _ _ _ hD1 (hK1 _ _ HB.out)
  by_cases h3 : kind = 3
  · subst h3
    have e : doF us ⟨3, tenant, role, who, ⟨rwho, rwhat, rkey, deny⟩, what, key⟩ = grantF us tenant ⟨rwho, rwhat, rkey, deny⟩ := by simp [doF]
    rw [e] at hq
    have HC := Lib.hid (duo_refgrant tenant rwho rkey rwhat deny hD hi.cap hsz)
    have HB := Lib.hid hC
    have c0 := hC.cell 0
    have c1 := hC.cell 1
    have c2 := hC.cell 2
    have c3 := hC.cell 3
    have c4 := hC.cell 4
    have c5 := hC.cell 5
    have c6 := hC.cell 6
    have c7 := hC.cell 7
    clear hC hD e
    revert HC hq
    generalize grantF us tenant ⟨rwho, rwhat, rkey, deny⟩ = q
    obtain ⟨q1, q2⟩ := q
    intro hq HC
    have HQ := Lib.hid hq
    clear hq
    go_wp2_with (go_at_call 61; refine HC.out.mono ?_; rintro e w1 ⟨rfl, hD1, hK1⟩)
    exact HQ.out _ _ _ _ _ _ _ _ _ _ _ _ _ _ _ _ _ _ _ _ _ _ _ _ _ _ _ _ _ _ _ _ _ _ _ _ _ _ _ _ _ _ _ hD1 (hK1 _ _ HB.out)
  by_cases h4 : kind = 4
  · subst h4
    have e : doF us ⟨4, tenant, role, who, ⟨rwho, rwhat, rkey, deny⟩, what, key⟩ = revokeT us tenant ⟨rwho, rwhat, rkey, deny⟩ := by simp [doF]
    rw [e] at hq
    have HC := Lib.hid (duo_refrevoke tenant rwho rkey rwhat deny hD hi.cap hi.rules hsz)
    have HB := Lib.hid hC
    have c0 := hC.cell 0
    have c1 := hC.cell 1
    have c2 := hC.cell 2
    have c3 := hC.cell 3
    have c4 := hC.cell 4
    have c5 := hC.cell 5
    have c6 := hC.cell 6
    have c7 := hC.cell 7
    clear hC hD e
    revert HC hq
    generalize revokeT us tenant ⟨rwho, rwhat, rkey, deny⟩ = q
    obtain ⟨q1, q2⟩ := q
    intro hq HC
    have HQ := Lib.hid hq
    clear hq
    go_wp2_with (go_at_call 62; refine HC.out.mono ?_; rintro e w1 ⟨rfl, hD1, hK1⟩)
    exact HQ.out _ _ _ _ _ _ _ _ _ _ _ _ _ _ _ _ _ _ _ _ _ _ _ _ _ _ _ _ _ _ _ _ _ _ _ _ _ _ _ _ _ _ _ hD1 (hK1 _ _ HB.out)
  have e : doF us ⟨kind, tenant, role, who, ⟨rwho, rwhat, rkey, deny⟩, what, key⟩ = (0, us) := by simp [doF, h0, h1, h2, h3, h4]
  rw [e] at hq
  have HQ := Lib.hid hq
  have e0 : (kind == 0) = false := by simpa using h0
  have e1 : (kind == 1) = false := by simpa using h1
  have e2 : (kind == 2) = false := by simpa using h2
  have e3 : (kind == 3) = false := by simpa using h3
  have e4 : (kind == 4) = false := by simpa using h4
  clear hq e
  go_wp2
  exact HQ.out _ _ _ _ _ _ _ _ _ _ _ _ _ _ _ _ _ _ _ _ _ _ _ _ _ _ _ _ _ _ _ _ _ _ _ _ _ _ _ _ _ _ _ hD hC

end Go.Proofs.Ytglcingpolpkdaa
