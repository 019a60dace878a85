/- AccessTurned: what the two books allow, and the walk. -/
import Derived.Test.YtglcingpolpkdaaATSwap
import Derived.Test.YtglcingpolpkdaaAKnown
namespace Go.Proofs.Ytglcingpolpkdaa
open Go.RowKit

theorem allowed_below (W w : World) (b : Nat) (ts : List Tn) (name who key : ByteArray) (what : Int) (h : BookIs W w b ts) (hs : Small 63 ts) :
    Calls Try.prog 15 #[.pointer (some ⟨b, 0, none⟩), .string name, .string who, .int .i64 what, .string key] w fun e w' => e = .returned (.bool (allowT ts name who what key)) ∧ Below w.heap.size w w' := by
  obtain ⟨m, nv, ads, h⟩ := h
  unfold allowT
  cases hg : getT ts name with
  | none => exact allowed_missing W w b m nv _ _ name who key what h.book (find_none h hg)
  | some p =>
    obtain ⟨i, t⟩ := p
    obtain ⟨a, ht, _, _, hf, hT⟩ := find_book h hg
    have hsm := small_at hs ht
    have hA : TenAt w w b m a.t name (entries ts ads) W.heap.size a.rv a.mv t.rules t.ms := ⟨h.book.book.cell 1, h.book.all, hf, hT.ten.cell 0, hT.ten.cell 1, hT.rules, hT.mems, Below.refl _ _⟩
    exact allowed_calls w b m a.t W.heap.size name who key what _ a.rv a.mv t.rules t.ms hA (by omega) (by omega) hsm.2.2

/-- What lies when both books are asked. -/
structure Ask (W W1 W2 w : World) (B b1 b2 : Nat) (t1 t2 : List Tn) (kind : Int) (tenant role who rwho : ByteArray) (rwhat : Int) (rkey : ByteArray) (deny : Bool) (what : Int) (key : ByteArray) : Prop where
  one : BookIs W1 w b1 t1
  two : BookIs W2 w b2 t2
  asked : Whole w B 38 [.int .u8 kind, .string tenant, .string role, .string who, .string rwho, .int .i64 rwhat, .string rkey, .bool deny, .int .i64 what, .string key]
  below : Below W.heap.size W w
theorem Ask.on {W W1 W2 w w' : World} {B b1 b2 : Nat} {t1 t2 : List Tn} {kind : Int} {tenant role who rwho : ByteArray} {rwhat : Int} {rkey : ByteArray} {deny : Bool} {what : Int} {key : ByteArray} (h : Ask W W1 W2 w B b1 b2 t1 t2 kind tenant role who rwho rwhat rkey deny what key) (hb : Below w.heap.size w w') : Ask W W1 W2 w' B b1 b2 t1 t2 kind tenant role who rwho rwhat rkey deny what key :=
  ⟨h.one.on hb, h.two.on hb, h.asked.below hb h.asked.lt, h.below.trans (hb.mono h.below.size)⟩

noncomputable def turnedAsk : Code := subCode [1, 1, 1, 1, 1, 1, 1, 1, 1, 0] ((Try.f4.body).getD .skip)

set_option maxRecDepth 100000 in
set_option maxHeartbeats 4000000 in
theorem turned_ask {z0 z1 z2 z3 z4 z6 z8 z9 z10 z11 z12 z13 z14 z17 z18 z19 z20 z21 z22 z23 z24 z25 z26 z27 z28 z29 z30 z31 z32 z33 z34 z35 z36 z37 z38 z39 z40 z41 z42 z43 z44 z45 z46 z47 z48 z49 z50 z51 z52 z53 z54 z55 z56 z57 z58 z59 z60 z61 z62 z63 z64 z65 z66 z67 z68 z69 z70 z71 z72 z73 z74 z75 z76 z77 z78 z79 z80 z81 z82 z83 z84 z85 z86 z87 z88 z89 z90 z91 z92 z93 z94 z95 z96 z97 z98 z99 z100 z101 z102 z103 z104 z105 z106 z107 z108 z109 z110 z111 z112 z113 z114 z115 z116 z117 z118 z119 z120 z121 z122 z123 z124 z125 z126 z127 z128 z129 z130 z131 z132 z133 z134 z135 z136 z137 z138 z139 z140 z141 z142 z143 z144 z145 z146 z147 z148 z149 z150 z151 z152 z153 z154 z155 : Value} (W W1 W2 w : World) (B b1 b2 : Nat) (t1 t2 : List Tn) (kind : Int) (tenant role who rwho : ByteArray) (rwhat : Int) (rkey : ByteArray) (deny : Bool) (what : Int) (key : ByteArray) (hS : Ask W W1 W2 w B b1 b2 t1 t2 kind tenant role who rwho rwhat rkey deny what key) (hs1 : Small 63 t1) (hs2 : Small 63 t2) (hsame : allowT t1 tenant who what key = allowT t2 tenant who what key) {Q : Exit → Act → World → Prop}
    (hq : ∀ (y132 y133 y134 y135 y136 y137 y138 y139 y140 y141 y142 y143 y144 y145 y146 y147 y148 y149 y150 y151 y152 y153 y154 y155 : Value) (w' : World), Below W.heap.size W w' → Q .normal ⟨(z0 :: z1 :: z2 :: z3 :: z4 :: .pointer (some ⟨B, 0, none⟩) :: .bool true :: .bool true :: z8 :: z9 :: z10 :: z11 :: z12 :: z13 :: z14 :: .pointer (some ⟨b1, 0, none⟩) :: .pointer (some ⟨b2, 0, none⟩) :: z17 :: z18 :: z19 :: z20 :: z21 :: z22 :: z23 :: z24 :: z25 :: z26 :: z27 :: z28 :: z29 :: z30 :: z31 :: z32 :: z33 :: z34 :: z35 :: z36 :: z37 :: z38 :: z39 :: z40 :: z41 :: z42 :: z43 :: z44 :: z45 :: z46 :: z47 :: z48 :: z49 :: z50 :: z51 :: z52 :: z53 :: z54 :: z55 :: z56 :: z57 :: z58 :: z59 :: z60 :: z61 :: z62 :: z63 :: z64 :: z65 :: z66 :: z67 :: z68 :: z69 :: z70 :: z71 :: z72 :: z73 :: z74 :: z75 :: z76 :: z77 :: z78 :: z79 :: z80 :: z81 :: z82 :: z83 :: z84 :: z85 :: z86 :: z87 :: z88 :: z89 :: z90 :: z91 :: z92 :: z93 :: z94 :: z95 :: z96 :: z97 :: z98 :: z99 :: z100 :: z101 :: z102 :: z103 :: z104 :: z105 :: z106 :: z107 :: z108 :: z109 :: z110 :: z111 :: z112 :: z113 :: z114 :: z115 :: z116 :: z117 :: z118 :: z119 :: z120 :: z121 :: z122 :: z123 :: z124 :: z125 :: z126 :: z127 :: z128 :: z129 :: z130 :: z131 :: y132 :: y133 :: y134 :: y135 :: y136 :: y137 :: y138 :: y139 :: y140 :: y141 :: y142 :: y143 :: y144 :: y145 :: y146 :: y147 :: y148 :: y149 :: y150 :: y151 :: y152 :: y153 :: y154 :: y155 :: []).toArray, []⟩ w') : Code.wp Try.prog turnedAsk Q ⟨(z0 :: z1 :: z2 :: z3 :: z4 :: .pointer (some ⟨B, 0, none⟩) :: z6 :: .bool true :: z8 :: z9 :: z10 :: z11 :: z12 :: z13 :: z14 :: .pointer (some ⟨b1, 0, none⟩) :: .pointer (some ⟨b2, 0, none⟩) :: z17 :: z18 :: z19 :: z20 :: z21 :: z22 :: z23 :: z24 :: z25 :: z26 :: z27 :: z28 :: z29 :: z30 :: z31 :: z32 :: z33 :: z34 :: z35 :: z36 :: z37 :: z38 :: z39 :: z40 :: z41 :: z42 :: z43 :: z44 :: z45 :: z46 :: z47 :: z48 :: z49 :: z50 :: z51 :: z52 :: z53 :: z54 :: z55 :: z56 :: z57 :: z58 :: z59 :: z60 :: z61 :: z62 :: z63 :: z64 :: z65 :: z66 :: z67 :: z68 :: z69 :: z70 :: z71 :: z72 :: z73 :: z74 :: z75 :: z76 :: z77 :: z78 :: z79 :: z80 :: z81 :: z82 :: z83 :: z84 :: z85 :: z86 :: z87 :: z88 :: z89 :: z90 :: z91 :: z92 :: z93 :: z94 :: z95 :: z96 :: z97 :: z98 :: z99 :: z100 :: z101 :: z102 :: z103 :: z104 :: z105 :: z106 :: z107 :: z108 :: z109 :: z110 :: z111 :: z112 :: z113 :: z114 :: z115 :: z116 :: z117 :: z118 :: z119 :: z120 :: z121 :: z122 :: z123 :: z124 :: z125 :: z126 :: z127 :: z128 :: z129 :: z130 :: z131 :: z132 :: z133 :: z134 :: z135 :: z136 :: z137 :: z138 :: z139 :: z140 :: z141 :: z142 :: z143 :: z144 :: z145 :: z146 :: z147 :: z148 :: z149 :: z150 :: z151 :: z152 :: z153 :: z154 :: z155 :: []).toArray, []⟩ w := by
  conv => arg 2; whnf
  have HQ := Lib.hid hq
  obtain ⟨al, hal⟩ : ∃ al, allowT t1 tenant who what key = al := ⟨_, rfl⟩
  have HC1 := Lib.hid (fun w' (h : Ask W W1 W2 w' B b1 b2 t1 t2 kind tenant role who rwho rwhat rkey deny what key) => hal ▸ allowed_below W1 w' b1 t1 tenant who key what h.one hs1)
  have HC2 := Lib.hid (fun w' (h : Ask W W1 W2 w' B b1 b2 t1 t2 kind tenant role who rwho rwhat rkey deny what key) => (hsame.symm.trans hal) ▸ allowed_below W2 w' b2 t2 tenant who key what h.two hs2)
  clear hq hs1 hs2 hsame hal
  refine wp_region_noPanic ?_
  refine wp_region_held_drew (S := fun w' => Ask W W1 W2 w' B b1 b2 t1 t2 kind tenant role who rwho rwhat rkey deny what key) (by kernel_rfl) (hS.on ((Below.refl _ _).drew)) (fun hhS => ?_)
  refine wpAnyH_take (i := 0) (oi := ⟨some 132, _, _, _, _, _⟩) (v := ?_) rfl (by kernel_rfl) (by kernel_rfl) (by kernel_rfl) (fun _ _ _ h => h) (Or.inl ⟨by rfl, ?_⟩) (by assumption) ?_
  rotate_left
  · intro w hSw
    (try dsimp only at hSw)
    have x1 := hSw.asked.cell 1
    have x3 := hSw.asked.cell 3
    have x8 := hSw.asked.cell 8
    have x9 := hSw.asked.cell 9
    go_simp
    all_goals (with_reducible rfl)
  try simp only [Act.put, List.setIfInBounds_toArray, List.set_cons_zero, List.set_cons_succ]
  refine wpAnyH_take (i := 1) (oi := ⟨some 133, _, _, _, _, _⟩) (v := ?_) rfl (by kernel_rfl) (by kernel_rfl) (by kernel_rfl) (fun _ _ _ h => h) (Or.inl ⟨by rfl, ?_⟩) (by assumption) ?_
  rotate_left
  · intro w hSw
    (try dsimp only at hSw)
    have x1 := hSw.asked.cell 1
    have x3 := hSw.asked.cell 3
    have x8 := hSw.asked.cell 8
    have x9 := hSw.asked.cell 9
    go_simp
    all_goals (with_reducible rfl)
  try simp only [Act.put, List.setIfInBounds_toArray, List.set_cons_zero, List.set_cons_succ]
  refine wpAnyH_take (i := 2) (oi := ⟨some 134, _, _, _, _, _⟩) (v := ?_) rfl (by kernel_rfl) (by kernel_rfl) (by kernel_rfl) (fun _ _ _ h => h) (Or.inl ⟨by rfl, ?_⟩) (by assumption) ?_
  rotate_left
  · intro w hSw
    (try dsimp only at hSw)
    have x1 := hSw.asked.cell 1
    have x3 := hSw.asked.cell 3
    have x8 := hSw.asked.cell 8
    have x9 := hSw.asked.cell 9
    go_simp
    all_goals (with_reducible rfl)
  try simp only [Act.put, List.setIfInBounds_toArray, List.set_cons_zero, List.set_cons_succ]
  refine wpAnyH_take (i := 3) (oi := ⟨some 135, _, _, _, _, _⟩) (v := ?_) rfl (by kernel_rfl) (by kernel_rfl) (by kernel_rfl) (fun _ _ _ h => h) (Or.inl ⟨by rfl, ?_⟩) (by assumption) ?_
  rotate_left
  · intro w hSw
    (try dsimp only at hSw)
    have x1 := hSw.asked.cell 1
    have x3 := hSw.asked.cell 3
    have x8 := hSw.asked.cell 8
    have x9 := hSw.asked.cell 9
    go_simp
    all_goals (with_reducible rfl)
  try simp only [Act.put, List.setIfInBounds_toArray, List.set_cons_zero, List.set_cons_succ]
  refine wpAnyH_take (i := 4) (oi := ⟨some 136, _, _, _, _, _⟩) (v := ?_) rfl (by kernel_rfl) (by kernel_rfl) (by kernel_rfl) (fun _ _ _ h => h) (Or.inl ⟨by rfl, ?_⟩) (by assumption) ?_
  rotate_left
  · intro w hSw
    (try dsimp only at hSw)
    have x1 := hSw.asked.cell 1
    have x3 := hSw.asked.cell 3
    have x8 := hSw.asked.cell 8
    have x9 := hSw.asked.cell 9
    go_simp
    all_goals (with_reducible rfl)
  try simp only [Act.put, List.setIfInBounds_toArray, List.set_cons_zero, List.set_cons_succ]
  refine wpAnyH_take (i := 5) (oi := ⟨some 137, _, _, _, _, _⟩) (v := ?_) rfl (by kernel_rfl) (by kernel_rfl) (by kernel_rfl) (fun _ _ _ h => h) (Or.inl ⟨by rfl, ?_⟩) (by assumption) ?_
  rotate_left
  · intro w hSw
    (try dsimp only at hSw)
    have x1 := hSw.asked.cell 1
    have x3 := hSw.asked.cell 3
    have x8 := hSw.asked.cell 8
    have x9 := hSw.asked.cell 9
    go_simp
    all_goals (with_reducible rfl)
  try simp only [Act.put, List.setIfInBounds_toArray, List.set_cons_zero, List.set_cons_succ]
  refine wpAnyH_take (i := 6) (oi := ⟨some 138, _, _, _, _, _⟩) (v := ?_) rfl (by kernel_rfl) (by kernel_rfl) (by kernel_rfl) (fun _ _ _ h => h) (Or.inl ⟨by rfl, ?_⟩) (by assumption) ?_
  rotate_left
  · intro w hSw
    (try dsimp only at hSw)
    have x1 := hSw.asked.cell 1
    have x3 := hSw.asked.cell 3
    have x8 := hSw.asked.cell 8
    have x9 := hSw.asked.cell 9
    go_simp
    all_goals (with_reducible rfl)
  try simp only [Act.put, List.setIfInBounds_toArray, List.set_cons_zero, List.set_cons_succ]
  refine wpAnyH_take (i := 7) (oi := ⟨some 139, _, _, _, _, _⟩) (v := ?_) rfl (by kernel_rfl) (by kernel_rfl) (by kernel_rfl) (fun _ _ _ h => h) (Or.inl ⟨by rfl, ?_⟩) (by assumption) ?_
  rotate_left
  · intro w hSw
    (try dsimp only at hSw)
    have x1 := hSw.asked.cell 1
    have x3 := hSw.asked.cell 3
    have x8 := hSw.asked.cell 8
    have x9 := hSw.asked.cell 9
    go_simp
    all_goals (with_reducible rfl)
  try simp only [Act.put, List.setIfInBounds_toArray, List.set_cons_zero, List.set_cons_succ]
  refine wpAnyH_take (i := 8) (oi := ⟨some 140, _, _, _, _, _⟩) (v := ?_) rfl (by kernel_rfl) (by kernel_rfl) (by kernel_rfl) (fun _ _ _ h => h) (Or.inl ⟨by rfl, ?_⟩) (by assumption) ?_
  rotate_left
  · intro w hSw
    (try dsimp only at hSw)
    have x1 := hSw.asked.cell 1
    have x3 := hSw.asked.cell 3
    have x8 := hSw.asked.cell 8
    have x9 := hSw.asked.cell 9
    go_simp
    all_goals (with_reducible rfl)
  try simp only [Act.put, List.setIfInBounds_toArray, List.set_cons_zero, List.set_cons_succ]
  refine wpAnyH_take (i := 9) (oi := ⟨some 141, _, _, _, _, _⟩) (v := ?_) rfl (by kernel_rfl) (by kernel_rfl) (by kernel_rfl) (fun _ _ _ h => h) (Or.inl ⟨by rfl, ?_⟩) (by assumption) ?_
  rotate_left
  · intro w hSw
    (try dsimp only at hSw)
    have x1 := hSw.asked.cell 1
    have x3 := hSw.asked.cell 3
    have x8 := hSw.asked.cell 8
    have x9 := hSw.asked.cell 9
    go_simp
    all_goals (with_reducible rfl)
  try simp only [Act.put, List.setIfInBounds_toArray, List.set_cons_zero, List.set_cons_succ]
  refine wpAnyH_take (i := 10) (oi := ⟨some 142, _, _, _, _, _⟩) (v := ?_) rfl (by kernel_rfl) (by kernel_rfl) (by kernel_rfl) (fun _ _ _ h => h) (Or.inl ⟨by rfl, ?_⟩) (by assumption) ?_
  rotate_left
  · intro w hSw
    (try dsimp only at hSw)
    have x1 := hSw.asked.cell 1
    have x3 := hSw.asked.cell 3
    have x8 := hSw.asked.cell 8
    have x9 := hSw.asked.cell 9
    go_simp
    all_goals (with_reducible rfl)
  try simp only [Act.put, List.setIfInBounds_toArray, List.set_cons_zero, List.set_cons_succ]
  refine wpAnyH_take (i := 12) (oi := ⟨some 144, _, _, _, _, _⟩) (v := ?_) rfl (by kernel_rfl) (by kernel_rfl) (by kernel_rfl) (fun _ _ _ h => h) (Or.inl ⟨by rfl, ?_⟩) (by assumption) ?_
  rotate_left
  · intro w hSw
    (try dsimp only at hSw)
    have x1 := hSw.asked.cell 1
    have x3 := hSw.asked.cell 3
    have x8 := hSw.asked.cell 8
    have x9 := hSw.asked.cell 9
    go_simp
    all_goals (with_reducible rfl)
  try simp only [Act.put, List.setIfInBounds_toArray, List.set_cons_zero, List.set_cons_succ]
  refine wpAnyH_take (i := 13) (oi := ⟨some 145, _, _, _, _, _⟩) (v := ?_) rfl (by kernel_rfl) (by kernel_rfl) (by kernel_rfl) (fun _ _ _ h => h) (Or.inl ⟨by rfl, ?_⟩) (by assumption) ?_
  rotate_left
  · intro w hSw
    (try dsimp only at hSw)
    have x1 := hSw.asked.cell 1
    have x3 := hSw.asked.cell 3
    have x8 := hSw.asked.cell 8
    have x9 := hSw.asked.cell 9
    go_simp
    all_goals (with_reducible rfl)
  try simp only [Act.put, List.setIfInBounds_toArray, List.set_cons_zero, List.set_cons_succ]
  refine wpAnyH_take (i := 14) (oi := ⟨some 146, _, _, _, _, _⟩) (v := ?_) rfl (by kernel_rfl) (by kernel_rfl) (by kernel_rfl) (fun _ _ _ h => h) (Or.inl ⟨by rfl, ?_⟩) (by assumption) ?_
  rotate_left
  · intro w hSw
    (try dsimp only at hSw)
    have x1 := hSw.asked.cell 1
    have x3 := hSw.asked.cell 3
    have x8 := hSw.asked.cell 8
    have x9 := hSw.asked.cell 9
    go_simp
    all_goals (with_reducible rfl)
  try simp only [Act.put, List.setIfInBounds_toArray, List.set_cons_zero, List.set_cons_succ]
  refine wpAnyH_take (i := 15) (oi := ⟨some 147, _, _, _, _, _⟩) (v := ?_) rfl (by kernel_rfl) (by kernel_rfl) (by kernel_rfl) (fun _ _ _ h => h) (Or.inl ⟨by rfl, ?_⟩) (by assumption) ?_
  rotate_left
  · intro w hSw
    (try dsimp only at hSw)
    have x1 := hSw.asked.cell 1
    have x3 := hSw.asked.cell 3
    have x8 := hSw.asked.cell 8
    have x9 := hSw.asked.cell 9
    go_simp
    all_goals (with_reducible rfl)
  try simp only [Act.put, List.setIfInBounds_toArray, List.set_cons_zero, List.set_cons_succ]
  refine wpAnyH_take (i := 16) (oi := ⟨some 148, _, _, _, _, _⟩) (v := ?_) rfl (by kernel_rfl) (by kernel_rfl) (by kernel_rfl) (fun _ _ _ h => h) (Or.inl ⟨by rfl, ?_⟩) (by assumption) ?_
  rotate_left
  · intro w hSw
    (try dsimp only at hSw)
    have x1 := hSw.asked.cell 1
    have x3 := hSw.asked.cell 3
    have x8 := hSw.asked.cell 8
    have x9 := hSw.asked.cell 9
    go_simp
    all_goals (with_reducible rfl)
  try simp only [Act.put, List.setIfInBounds_toArray, List.set_cons_zero, List.set_cons_succ]
  refine wpAnyH_take (i := 17) (oi := ⟨some 149, _, _, _, _, _⟩) (v := ?_) rfl (by kernel_rfl) (by kernel_rfl) (by kernel_rfl) (fun _ _ _ h => h) (Or.inl ⟨by rfl, ?_⟩) (by assumption) ?_
  rotate_left
  · intro w hSw
    (try dsimp only at hSw)
    have x1 := hSw.asked.cell 1
    have x3 := hSw.asked.cell 3
    have x8 := hSw.asked.cell 8
    have x9 := hSw.asked.cell 9
    go_simp
    all_goals (with_reducible rfl)
  try simp only [Act.put, List.setIfInBounds_toArray, List.set_cons_zero, List.set_cons_succ]
  refine wpAnyH_take (i := 18) (oi := ⟨some 150, _, _, _, _, _⟩) (v := ?_) rfl (by kernel_rfl) (by kernel_rfl) (by kernel_rfl) (fun _ _ _ h => h) (Or.inl ⟨by rfl, ?_⟩) (by assumption) ?_
  rotate_left
  · intro w hSw
    (try dsimp only at hSw)
    have x1 := hSw.asked.cell 1
    have x3 := hSw.asked.cell 3
    have x8 := hSw.asked.cell 8
    have x9 := hSw.asked.cell 9
    go_simp
    all_goals (with_reducible rfl)
  try simp only [Act.put, List.setIfInBounds_toArray, List.set_cons_zero, List.set_cons_succ]
  refine wpAnyH_take (i := 19) (oi := ⟨some 151, _, _, _, _, _⟩) (v := ?_) rfl (by kernel_rfl) (by kernel_rfl) (by kernel_rfl) (fun _ _ _ h => h) (Or.inl ⟨by rfl, ?_⟩) (by assumption) ?_
  rotate_left
  · intro w hSw
    (try dsimp only at hSw)
    have x1 := hSw.asked.cell 1
    have x3 := hSw.asked.cell 3
    have x8 := hSw.asked.cell 8
    have x9 := hSw.asked.cell 9
    go_simp
    all_goals (with_reducible rfl)
  try simp only [Act.put, List.setIfInBounds_toArray, List.set_cons_zero, List.set_cons_succ]
  refine wpAnyH_take (i := 20) (oi := ⟨some 152, _, _, _, _, _⟩) (v := ?_) rfl (by kernel_rfl) (by kernel_rfl) (by kernel_rfl) (fun _ _ _ h => h) (Or.inl ⟨by rfl, ?_⟩) (by assumption) ?_
  rotate_left
  · intro w hSw
    (try dsimp only at hSw)
    have x1 := hSw.asked.cell 1
    have x3 := hSw.asked.cell 3
    have x8 := hSw.asked.cell 8
    have x9 := hSw.asked.cell 9
    go_simp
    all_goals (with_reducible rfl)
  try simp only [Act.put, List.setIfInBounds_toArray, List.set_cons_zero, List.set_cons_succ]
  refine wpAnyH_ready (rs := [11]) (by kernel_rfl) (by simp) ?_
  refine AllReadyH.cons (o := ⟨some 143, _, _, _, _, _⟩) rfl (fun K hK => ?_) AllReadyH.nil
  go_simp
  refine (HC1.out _ hhS).mono ?_
  rintro e w1 ⟨rfl, hb1⟩
  have S1 := hhS.on hb1
  refine hK.out _ _ S1 (fun hh1 => ?_)
  clear hK K
  try simp only [Act.put, List.setIfInBounds_toArray, List.set_cons_zero, List.set_cons_succ]
  refine wpAnyH_ready (rs := [21]) (by kernel_rfl) (by simp) ?_
  refine AllReadyH.cons (o := ⟨some 153, _, _, _, _, _⟩) rfl (fun K hK => ?_) AllReadyH.nil
  go_simp
  refine (HC2.out _ S1).mono ?_
  rintro e w2 ⟨rfl, hb2⟩
  have S2 := S1.on hb2
  refine hK.out _ _ S2 (fun hh2 => ?_)
  clear hK K
  try simp only [Act.put, List.setIfInBounds_toArray, List.set_cons_zero, List.set_cons_succ]
  refine wpAnyH_take (i := 22) (oi := ⟨some 154, _, _, _, _, _⟩) (v := ?_) rfl (by kernel_rfl) (by kernel_rfl) (by kernel_rfl) (fun _ _ _ h => h) (Or.inl ⟨by rfl, ?_⟩) (by assumption) ?_
  rotate_left
  · intro w hSw
    (try dsimp only at hSw)
    go_simp
    all_goals (with_reducible rfl)
  try simp only [Act.put, List.setIfInBounds_toArray, List.set_cons_zero, List.set_cons_succ]
  refine wpAnyH_take (i := 23) (oi := ⟨some 155, _, _, _, _, _⟩) (v := ?_) rfl (by kernel_rfl) (by kernel_rfl) (by kernel_rfl) (fun _ _ _ h => h) (Or.inl ⟨by rfl, ?_⟩) (by assumption) ?_
  rotate_left
  · intro w hSw
    (try dsimp only at hSw)
    go_simp
    all_goals (with_reducible rfl)
  try simp only [Act.put, List.setIfInBounds_toArray, List.set_cons_zero, List.set_cons_succ]
  refine wpAnyH_take (i := 24) (oi := ⟨some 6, _, _, _, _, _⟩) (v := ?_) rfl (by kernel_rfl) (by kernel_rfl) (by kernel_rfl) (fun _ _ _ h => h) (Or.inl ⟨by rfl, ?_⟩) (by assumption) ?_
  rotate_left
  · intro w hSw
    (try dsimp only at hSw)
    go_simp
    all_goals (with_reducible rfl)
  try simp only [Act.put, List.setIfInBounds_toArray, List.set_cons_zero, List.set_cons_succ]
  refine wpAnyH_done (by kernel_rfl) ?_ _
  refine NoPanic.normal ?_
  exact HQ.out _ _ _ _ _ _ _ _ _ _ _ _ _ _ _ _ _ _ _ _ _ _ _ _ _ S2.below

end Go.Proofs.Ytglcingpolpkdaa
