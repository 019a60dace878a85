/- act: the three lists that the book tells. -/
import Derived.Test.YtglcingpolpkdaaADoneFX2
import Derived.Test.YtglcingpolpkdaaASpare
import Derived.Test.YtglcingpolpkdaaRAllow
namespace Go.Proofs.Ytglcingpolpkdaa
open Go.RowKit

theorem rulesT_len {ts : List Tn} (n : ByteArray) (h : Cap ts) : (rulesT ts n).length ≤ 128 := by
  unfold rulesT
  cases hg : getT ts n with
  | none => simp
  | some p => exact h.rules _ (List.mem_of_getElem? (getT_at hg).1)
theorem memsT_len {ts : List Tn} (n : ByteArray) (h : Cap ts) : (memsT ts n).length ≤ 256 := by
  unfold memsT
  cases hg : getT ts n with
  | none => simp
  | some p => exact h.ms _ (List.mem_of_getElem? (getT_at hg).1)

theorem duo_rules {W w : World} {b g : Nat} {ts us : List Tn} (name : ByteArray) (h : Duo W w b g ts us) (hc : Cap ts) :
    Calls Try.prog 24 #[.pointer (some ⟨b, 0, none⟩), .string name] w fun e w' => ∃ v, e = .returned v ∧ OwnR w' w.heap.size v (rulesT ts name) ∧ Below w.heap.size w w' := by
  obtain ⟨m, nv, ads, lv, xs, h1, _, _⟩ := h
  exact rules_calls W w b m nv ts ads name h1 hc
theorem duo_tenants {W w : World} {b g : Nat} {ts us : List Tn} (h : Duo W w b g ts us) (hc : Inv ts) :
    Calls Try.prog 23 #[.pointer (some ⟨b, 0, none⟩)] w fun e w' => ∃ v, e = .returned v ∧ OwnS w' w.heap.size v (ts.map Tn.name) ∧ Strs w' v ∧ Below w.heap.size w w' := by
  obtain ⟨m, nv, ads, lv, xs, h1, _, _⟩ := h
  exact tenants_strs W w b m nv ts ads h1 hc
theorem duo_members {W w : World} {b g : Nat} {ts us : List Tn} (name role : ByteArray) (h : Duo W w b g ts us) (hc : Inv ts) :
    Calls Try.prog 25 #[.pointer (some ⟨b, 0, none⟩), .string name, .string role] w fun e w' => ∃ v, e = .returned v ∧ OwnS w' w.heap.size v (whoHas (memsT ts name) role) ∧ Strs w' v ∧ Below w.heap.size w w' := by
  obtain ⟨m, nv, ads, lv, xs, h1, _, _⟩ := h
  exact members_strs W w b m nv ts ads name role h1 hc
theorem duo_allowed {W w : World} {b g : Nat} {ts us : List Tn} (name who key : ByteArray) (what : Int) (h : Duo W w b g ts us) (hc : Cap ts) :
    Calls Try.prog 15 #[.pointer (some ⟨b, 0, none⟩), .string name, .string who, .int .i64 what, .string key] w fun e w' => e = .returned (.bool (allowT ts name who what key)) ∧ Below w.heap.size w w' := by
  obtain ⟨m, nv, ads, _, _, h, _, _⟩ := h
  unfold allowT
  cases hg : getT ts name with
  | none => exact allowed_missing W w b m nv _ _ name who key what h.book (find_none h hg)
  | some p =>
    obtain ⟨i, t⟩ := p
    obtain ⟨a, ht, _, _, hf, hT⟩ := find_book h hg
    have ht := List.mem_of_getElem? ht
    have hA : TenAt w w b m a.t name (entries ts ads) W.heap.size a.rv a.mv t.rules t.ms := ⟨h.book.book.cell 1, h.book.all, hf, hT.ten.cell 0, hT.ten.cell 1, hT.rules, hT.mems, Below.refl _ _⟩
    exact allowed_calls w b m a.t W.heap.size name who key what _ a.rv a.mv t.rules t.ms hA (by have := hc.rules t ht; omega) (by have := hc.ms t ht; omega) (fun r hr => by have := hc.keys t ht r hr; omega)
theorem duo_refallowed {W w : World} {b g : Nat} {ts us : List Tn} (name who key : ByteArray) (what : Int) (h : Duo W w b g ts us) (hc : Cap us) :
    Calls Try.prog 63 #[.pointer (some ⟨g, 0, none⟩), .string name, .string who, .int .i64 what, .string key] w fun e w' => e = .returned (.bool (allowT us name who what key)) ∧ Below w.heap.size w w' :=
  refallowed_calls W w g us name who key what h.ref (by have := hc.len; omega) (fun t ht => by have := hc.ms t ht; omega) (fun t ht => by have := hc.rules t ht; omega) hc.keys
theorem duo_refrules {W w : World} {b g : Nat} {ts us : List Tn} (name : ByteArray) (h : Duo W w b g ts us) (hc : Cap us) :
    Calls Try.prog 65 #[.pointer (some ⟨g, 0, none⟩), .string name] w fun e w' => ∃ v, e = .returned v ∧ OwnR w' w.heap.size v (rulesT us name) ∧ Below w.heap.size w w' :=
  refrules_calls W w g us name h.ref (by have := hc.len; omega) (fun t ht => by have := hc.rules t ht; omega)
theorem duo_reftenants {W w : World} {b g : Nat} {ts us : List Tn} (h : Duo W w b g ts us) (hc : Cap us) :
    Calls Try.prog 67 #[.pointer (some ⟨g, 0, none⟩)] w fun e w' => ∃ v, e = .returned v ∧ OwnS w' w.heap.size v (us.map Tn.name) ∧ Below w.heap.size w w' :=
  reftenants_calls W w g us h.ref (by have := hc.len; omega)
theorem duo_refmembers {W w : World} {b g : Nat} {ts us : List Tn} (name role : ByteArray) (h : Duo W w b g ts us) (hc : Cap us) :
    Calls Try.prog 68 #[.pointer (some ⟨g, 0, none⟩), .string name, .string role] w fun e w' => ∃ v, e = .returned v ∧ OwnS w' w.heap.size v (whoHas (memsT us name) role) ∧ Below w.heap.size w w' :=
  refmembers_calls W w g us name role h.ref (by have := hc.len; omega) (fun t ht => by have := hc.ms t ht; omega)

/-- What lies when the books are asked. -/
structure Rest (W w0 w : World) (B b g : Nat) (ts : List Tn) (kind : Int) (tenant role who rwho : ByteArray) (rwhat : Int) (rkey : ByteArray) (deny : Bool) (what : Int) (key : ByteArray) : Prop where
  duo : Duo W w b g ts ts
  box : Whole w B 38 [.int .u8 kind, .string tenant, .string role, .string who, .string rwho, .int .i64 rwhat, .string rkey, .bool deny, .int .i64 what, .string key]
  below : Below w0.heap.size w0 w
theorem Rest.on {W w0 w w' : World} {B b g : Nat} {ts : List Tn} {kind : Int} {tenant role who rwho : ByteArray} {rwhat : Int} {rkey : ByteArray} {deny : Bool} {what : Int} {key : ByteArray} (h : Rest W w0 w B b g ts kind tenant role who rwho rwhat rkey deny what key) (hb : Below w.heap.size w w') : Rest W w0 w' B b g ts kind tenant role who rwho rwhat rkey deny what key :=
  ⟨h.duo.on hb, h.box.below hb h.box.lt, h.below.trans (hb.mono h.below.size)⟩
/-- The book told three lists. -/
structure Told (W w0 w : World) (B b g : Nat) (ts : List Tn) (lv tv mv : Value) (kind : Int) (tenant role who rwho : ByteArray) (rwhat : Int) (rkey : ByteArray) (deny : Bool) (what : Int) (key : ByteArray) : Prop where
  duo : Duo W w b g ts ts
  box : Whole w B 38 [.int .u8 kind, .string tenant, .string role, .string who, .string rwho, .int .i64 rwhat, .string rkey, .bool deny, .int .i64 what, .string key]
  rules : OwnR w w0.heap.size lv (rulesT ts tenant)
  names : OwnS w w0.heap.size tv (ts.map Tn.name)
  tsp : Strs w tv
  mems : OwnS w w0.heap.size mv (whoHas (memsT ts tenant) role)
  msp : Strs w mv
  two : ∀ k, tv.ownBlock = some k → mv.ownBlock = some k → False
  below : Below w0.heap.size w0 w
theorem Told.on {W w0 w w' : World} {B b g : Nat} {ts : List Tn} {lv tv mv : Value} {kind : Int} {tenant role who rwho : ByteArray} {rwhat : Int} {rkey : ByteArray} {deny : Bool} {what : Int} {key : ByteArray} (h : Told W w0 w B b g ts lv tv mv kind tenant role who rwho rwhat rkey deny what key) (hb : Below w.heap.size w w') : Told W w0 w' B b g ts lv tv mv kind tenant role who rwho rwhat rkey deny what key :=
  ⟨h.duo.on hb, h.box.below hb h.box.lt, row_low h.rules hb, row_low h.names hb, h.tsp.low hb, row_low h.mems hb, h.msp.low hb, h.two, h.below.trans (hb.mono h.below.size)⟩

noncomputable def actTell : Code := subCode [1, 1, 1, 1, 0] ((Try.f26.body).getD .skip)

set_option maxRecDepth 100000 in
set_option maxHeartbeats 4000000 in
theorem act_tell {z2 z3 z4 z6 z7 z8 z9 z10 z11 z12 z13 z14 z15 z16 z17 z18 z19 z20 z21 z22 z23 z24 z25 z26 z27 z28 z29 z30 z31 z32 z33 z34 z35 z36 z37 z38 z39 z40 z41 z42 z43 z44 z45 z46 z47 z48 z49 z50 z51 z52 z53 z54 z55 z56 z57 z58 z59 z60 z61 z62 z63 z64 z65 z66 z67 z68 z69 z70 z71 z72 z73 z74 z75 z76 z77 z78 z79 z80 z81 z82 z83 z84 z85 z86 z87 z88 z89 z90 z91 z92 z93 z94 z95 z96 z97 z98 z99 z100 z101 z102 z103 z104 z105 z106 z107 z108 z109 z110 z111 z112 z113 z114 z115 z116 z117 z118 z119 z120 z121 z122 z123 z124 z125 z126 z127 z128 z129 z130 z131 z132 z133 z134 z135 z136 z137 z138 z139 z140 z141 z142 z143 : Value} (W w : World) (B b g : Nat) (ts : List Tn) (kind : Int) (tenant role who rwho : ByteArray) (rwhat : Int) (rkey : ByteArray) (deny : Bool) (what : Int) (key : ByteArray) (hD : Duo W w b g ts ts) (hC : Whole w B 38 [.int .u8 kind, .string tenant, .string role, .string who, .string rwho, .int .i64 rwhat, .string rkey, .bool deny, .int .i64 what, .string key]) (hi : Inv ts) {Q : Exit → Act → World → Prop}
    (hq : ∀ (lv tv mv y61 y62 y63 y64 y65 y66 y67 y68 y69 y70 y71 y72 : Value) (w' : World), Told W w w' B b g ts lv tv mv kind tenant role who rwho rwhat rkey deny what key → Q .normal ⟨(.pointer (some ⟨b, 0, none⟩) :: .pointer (some ⟨g, 0, none⟩) :: z2 :: z3 :: z4 :: .pointer (some ⟨B, 0, none⟩) :: z6 :: z7 :: z8 :: lv :: tv :: mv :: z12 :: z13 :: z14 :: z15 :: z16 :: z17 :: z18 :: z19 :: z20 :: z21 :: z22 :: z23 :: z24 :: z25 :: z26 :: z27 :: z28 :: z29 :: z30 :: z31 :: z32 :: z33 :: z34 :: z35 :: z36 :: z37 :: z38 :: z39 :: z40 :: z41 :: z42 :: z43 :: z44 :: z45 :: z46 :: z47 :: z48 :: z49 :: z50 :: z51 :: z52 :: z53 :: z54 :: z55 :: z56 :: z57 :: z58 :: z59 :: z60 :: y61 :: y62 :: y63 :: y64 :: y65 :: y66 :: y67 :: y68 :: y69 :: y70 :: y71 :: y72 :: z73 :: z74 :: z75 :: z76 :: z77 :: z78 :: z79 :: z80 :: z81 :: z82 :: z83 :: z84 :: z85 :: z86 :: z87 :: z88 :: z89 :: z90 :: z91 :: z92 :: z93 :: z94 :: z95 :: z96 :: z97 :: z98 :: z99 :: z100 :: z101 :: z102 :: z103 :: z104 :: z105 :: z106 :: z107 :: z108 :: z109 :: z110 :: z111 :: z112 :: z113 :: z114 :: z115 :: z116 :: z117 :: z118 :: z119 :: z120 :: z121 :: z122 :: z123 :: z124 :: z125 :: z126 :: z127 :: z128 :: z129 :: z130 :: z131 :: z132 :: z133 :: z134 :: z135 :: z136 :: z137 :: z138 :: z139 :: z140 :: z141 :: z142 :: z143 :: []).toArray, []⟩ w') : Code.wp Try.prog actTell Q ⟨(.pointer (some ⟨b, 0, none⟩) :: .pointer (some ⟨g, 0, none⟩) :: z2 :: z3 :: z4 :: .pointer (some ⟨B, 0, none⟩) :: z6 :: z7 :: z8 :: z9 :: z10 :: z11 :: z12 :: z13 :: z14 :: z15 :: z16 :: z17 :: z18 :: z19 :: z20 :: z21 :: z22 :: z23 :: z24 :: z25 :: z26 :: z27 :: z28 :: z29 :: z30 :: z31 :: z32 :: z33 :: z34 :: z35 :: z36 :: z37 :: z38 :: z39 :: z40 :: z41 :: z42 :: z43 :: z44 :: z45 :: z46 :: z47 :: z48 :: z49 :: z50 :: z51 :: z52 :: z53 :: z54 :: z55 :: z56 :: z57 :: z58 :: z59 :: z60 :: z61 :: z62 :: z63 :: z64 :: z65 :: z66 :: z67 :: z68 :: z69 :: z70 :: z71 :: z72 :: z73 :: z74 :: z75 :: z76 :: z77 :: z78 :: z79 :: z80 :: z81 :: z82 :: z83 :: z84 :: z85 :: z86 :: z87 :: z88 :: z89 :: z90 :: z91 :: z92 :: z93 :: z94 :: z95 :: z96 :: z97 :: z98 :: z99 :: z100 :: z101 :: z102 :: z103 :: z104 :: z105 :: z106 :: z107 :: z108 :: z109 :: z110 :: z111 :: z112 :: z113 :: z114 :: z115 :: z116 :: z117 :: z118 :: z119 :: z120 :: z121 :: z122 :: z123 :: z124 :: z125 :: z126 :: z127 :: z128 :: z129 :: z130 :: z131 :: z132 :: z133 :: z134 :: z135 :: z136 :: z137 :: z138 :: z139 :: z140 :: z141 :: z142 :: z143 :: []).toArray, []⟩ w := by
  conv => arg 2; whnf
  have HQ := Lib.hid hq
  have hS : Rest W w w B b g ts kind tenant role who rwho rwhat rkey deny what key := ⟨hD, hC, Below.refl _ _⟩
  have HC3 := Lib.hid (fun w' (h : Rest W w w' B b g ts kind tenant role who rwho rwhat rkey deny what key) => duo_rules tenant h.duo hi.cap)
  have HC5 := Lib.hid (fun w' (h : Rest W w w' B b g ts kind tenant role who rwho rwhat rkey deny what key) => duo_tenants h.duo hi)
  have HC11 := Lib.hid (fun w' (h : Rest W w w' B b g ts kind tenant role who rwho rwhat rkey deny what key) => duo_members tenant role h.duo hi)
  clear hq hi hD hC
  refine wp_region_noPanic ?_
  refine wp_region_held_drew (S := fun w' => Rest W w w' B b g ts kind tenant role who rwho rwhat rkey deny what key) (by kernel_rfl) (hS.on ((Below.refl _ _).drew)) (fun hhS => ?_)
  refine wpAnyH_take (i := 0) (oi := ⟨some 61, _, _, _, _, _⟩) (v := ?_) rfl (by kernel_rfl) (by kernel_rfl) (by kernel_rfl) (fun _ _ _ h => h) (Or.inl ⟨by rfl, ?_⟩) (by assumption) ?_
  rotate_left
  · intro w hSw
    (try dsimp only at hSw)
    go_simp
    all_goals (with_reducible rfl)
  try simp only [Act.put, List.setIfInBounds_toArray, List.set_cons_zero, List.set_cons_succ]
  refine wpAnyH_take (i := 1) (oi := ⟨some 62, _, _, _, _, _⟩) (v := ?_) rfl (by kernel_rfl) (by kernel_rfl) (by kernel_rfl) (fun _ _ _ h => h) (Or.inl ⟨by rfl, ?_⟩) (by assumption) ?_
  rotate_left
  · intro w hSw
    (try dsimp only at hSw)
    go_simp
    all_goals (with_reducible rfl)
  try simp only [Act.put, List.setIfInBounds_toArray, List.set_cons_zero, List.set_cons_succ]
  refine wpAnyH_take (i := 2) (oi := ⟨some 63, _, _, _, _, _⟩) (v := ?_) rfl (by kernel_rfl) (by kernel_rfl) (by kernel_rfl) (fun _ _ _ h => h) (Or.inl ⟨by rfl, ?_⟩) (by assumption) ?_
  rotate_left
  · intro w hSw
    (try dsimp only at hSw)
    have x1 := hSw.box.cell 1
    have x2 := hSw.box.cell 2
    go_simp
    all_goals (with_reducible rfl)
  try simp only [Act.put, List.setIfInBounds_toArray, List.set_cons_zero, List.set_cons_succ]
  refine wpAnyH_take (i := 4) (oi := ⟨some 65, _, _, _, _, _⟩) (v := ?_) rfl (by kernel_rfl) (by kernel_rfl) (by kernel_rfl) (fun _ _ _ h => h) (Or.inl ⟨by rfl, ?_⟩) (by assumption) ?_
  rotate_left
  · intro w hSw
    (try dsimp only at hSw)
    go_simp
    all_goals (with_reducible rfl)
  try simp only [Act.put, List.setIfInBounds_toArray, List.set_cons_zero, List.set_cons_succ]
  refine wpAnyH_take (i := 6) (oi := ⟨some 67, _, _, _, _, _⟩) (v := ?_) rfl (by kernel_rfl) (by kernel_rfl) (by kernel_rfl) (fun _ _ _ h => h) (Or.inl ⟨by rfl, ?_⟩) (by assumption) ?_
  rotate_left
  · intro w hSw
    (try dsimp only at hSw)
    go_simp
    all_goals (with_reducible rfl)
  try simp only [Act.put, List.setIfInBounds_toArray, List.set_cons_zero, List.set_cons_succ]
  refine wpAnyH_take (i := 7) (oi := ⟨some 68, _, _, _, _, _⟩) (v := ?_) rfl (by kernel_rfl) (by kernel_rfl) (by kernel_rfl) (fun _ _ _ h => h) (Or.inl ⟨by rfl, ?_⟩) (by assumption) ?_
  rotate_left
  · intro w hSw
    (try dsimp only at hSw)
    go_simp
    all_goals (with_reducible rfl)
  try simp only [Act.put, List.setIfInBounds_toArray, List.set_cons_zero, List.set_cons_succ]
  refine wpAnyH_take (i := 8) (oi := ⟨some 69, _, _, _, _, _⟩) (v := ?_) rfl (by kernel_rfl) (by kernel_rfl) (by kernel_rfl) (fun _ _ _ h => h) (Or.inl ⟨by rfl, ?_⟩) (by assumption) ?_
  rotate_left
  · intro w hSw
    (try dsimp only at hSw)
    have x1 := hSw.box.cell 1
    have x2 := hSw.box.cell 2
    go_simp
    all_goals (with_reducible rfl)
  try simp only [Act.put, List.setIfInBounds_toArray, List.set_cons_zero, List.set_cons_succ]
  refine wpAnyH_take (i := 9) (oi := ⟨some 70, _, _, _, _, _⟩) (v := ?_) rfl (by kernel_rfl) (by kernel_rfl) (by kernel_rfl) (fun _ _ _ h => h) (Or.inl ⟨by rfl, ?_⟩) (by assumption) ?_
  rotate_left
  · intro w hSw
    (try dsimp only at hSw)
    go_simp
    all_goals (with_reducible rfl)
  try simp only [Act.put, List.setIfInBounds_toArray, List.set_cons_zero, List.set_cons_succ]
  refine wpAnyH_take (i := 10) (oi := ⟨some 71, _, _, _, _, _⟩) (v := ?_) rfl (by kernel_rfl) (by kernel_rfl) (by kernel_rfl) (fun _ _ _ h => h) (Or.inl ⟨by rfl, ?_⟩) (by assumption) ?_
  rotate_left
  · intro w hSw
    (try dsimp only at hSw)
    have x1 := hSw.box.cell 1
    have x2 := hSw.box.cell 2
    go_simp
    all_goals (with_reducible rfl)
  try simp only [Act.put, List.setIfInBounds_toArray, List.set_cons_zero, List.set_cons_succ]
  refine wpAnyH_ready (rs := [3]) (by kernel_rfl) (by simp) ?_
  refine AllReadyH.cons (o := ⟨some 64, _, _, _, _, _⟩) rfl (fun K hK => ?_) AllReadyH.nil
  go_simp
  refine (HC3.out _ hhS).mono ?_
  rintro e w3 ⟨v3, rfl, hO3, hb3⟩
  have S3 := hhS.on hb3
  refine hK.out _ _ (S3) (fun hh3 => ?_)
  clear hK K
  try simp only [Act.put, List.setIfInBounds_toArray, List.set_cons_zero, List.set_cons_succ]
  refine wpAnyH_ready (rs := [5]) (by kernel_rfl) (by simp) ?_
  refine AllReadyH.cons (o := ⟨some 66, _, _, _, _, _⟩) rfl (fun K hK => ?_) AllReadyH.nil
  go_simp
  refine (HC5.out _ S3).mono ?_
  rintro e w5 ⟨v5, rfl, hO5, hT5, hb5⟩
  have S5 := S3.on hb5
  refine hK.out _ _ (S5) (fun hh5 => ?_)
  clear hK K
  try simp only [Act.put, List.setIfInBounds_toArray, List.set_cons_zero, List.set_cons_succ]
  refine wpAnyH_ready (rs := [11]) (by kernel_rfl) (by simp) ?_
  refine AllReadyH.cons (o := ⟨some 72, _, _, _, _, _⟩) rfl (fun K hK => ?_) AllReadyH.nil
  go_simp
  refine (HC11.out _ S5).mono ?_
  rintro e w11 ⟨v11, rfl, hO11, hT11, hb11⟩
  have S11 := S5.on hb11
  refine hK.out _ _ (S11) (fun hh11 => ?_)
  clear hK K
  try simp only [Act.put, List.setIfInBounds_toArray, List.set_cons_zero, List.set_cons_succ]
  refine wpAnyH_take (i := 12) (oi := ⟨some 9, _, _, _, _, _⟩) (v := ?_) rfl (by kernel_rfl) (by kernel_rfl) (by kernel_rfl) (fun _ _ _ h => h) (Or.inl ⟨by rfl, ?_⟩) (by assumption) ?_
  rotate_left
  · intro w hSw
    (try dsimp only at hSw)
    go_simp
    all_goals (with_reducible rfl)
  try simp only [Act.put, List.setIfInBounds_toArray, List.set_cons_zero, List.set_cons_succ]
  refine wpAnyH_take (i := 13) (oi := ⟨some 10, _, _, _, _, _⟩) (v := ?_) rfl (by kernel_rfl) (by kernel_rfl) (by kernel_rfl) (fun _ _ _ h => h) (Or.inl ⟨by rfl, ?_⟩) (by assumption) ?_
  rotate_left
  · intro w hSw
    (try dsimp only at hSw)
    go_simp
    all_goals (with_reducible rfl)
  try simp only [Act.put, List.setIfInBounds_toArray, List.set_cons_zero, List.set_cons_succ]
  refine wpAnyH_take (i := 14) (oi := ⟨some 11, _, _, _, _, _⟩) (v := ?_) rfl (by kernel_rfl) (by kernel_rfl) (by kernel_rfl) (fun _ _ _ h => h) (Or.inl ⟨by rfl, ?_⟩) (by assumption) ?_
  rotate_left
  · intro w hSw
    (try dsimp only at hSw)
    go_simp
    all_goals (with_reducible rfl)
  try simp only [Act.put, List.setIfInBounds_toArray, List.set_cons_zero, List.set_cons_succ]
  refine wpAnyH_done (by kernel_rfl) ?_ _
  refine NoPanic.normal ?_
  exact HQ.out _ _ _ _ _ _ _ _ _ _ _ _ _ _ _ _ ⟨S11.duo, S11.box, row_low (row_low (own_down hhS.below.size hO3) hb5) hb11, row_low (own_down S3.below.size hO5) hb11, hT5.low hb11, own_down S5.below.size hO11, hT11, fun k h1 h2 => absurd (row_lt hO5 h1) (by have := own_ge hO11 h2; omega), S11.below⟩

end Go.Proofs.Ytglcingpolpkdaa
