/- act: behind each call both disks tell the same names, operations under way, and counts. -/
import Derived.Test.YtmmlpbepaefamaaDSc
import Derived.Test.YtmmlpbepaefamaaTxtX3
namespace Go.Proofs.Ytmmlpbepaefamaa
open Go.RowKit Go.MapKept Go.Maps Go.Sort Go.Shelf

def TxtV (x : Value) : Prop := ∃ s : ByteArray, x = .string s ∧ s.size ≤ 1000000
def OverS (w : World) (g c j : Nat) : Prop := ∃ cur, Whole w g 9 cur ∧ cur.length = c ∧ ∀ i x, j ≤ i → cur[i]? = some x → TxtV x

set_option maxRecDepth 100000 in
set_option maxHeartbeats 1000000 in
/-- OverTexts of a row whose spare cells are empty texts: it writes the row's own block alone. -/
theorem overnames_calls (w : World) (B : Nat) (v : Value) (ss : List (List UInt8)) (hv : w.ownsRow B 9 1 v ss.length (ss.map encStr)) (hS : SpareT 9 w v ss.length) (hl : ∀ s ∈ ss, s.length ≤ 1000000) :
    Calls Try.prog 67 #[v] w fun e w' => e = .returned (.tuple #[]) ∧ Only w w' fun k => v.ownBlock = some k := by
  by_cases hg0 : v.ownBlock = none
  · rcases row_shape hv with ⟨rfl, _⟩ | ⟨g, cap, rfl, _, _, _⟩
    · clear hv hS hg0
      go_enter Try.func67, Try.ntmps67
      go_wp2
      go_loopw [3] (fun i wr => i = .int .i64 0 ∧ w = wr) (fun _ _ => 0)
      case atStart => exact ⟨rfl, rfl⟩
      case round =>
        obtain ⟨rfl, rfl⟩ := hrel
        go_wp2
        go_end0
        exact ⟨rfl, Only.of_below (Below.refl _ _) _⟩
    · cases hg0
  · obtain ⟨g, hg⟩ := Option.ne_none_iff_exists'.1 hg0
    obtain ⟨cur0, hc0, hz⟩ := hS g hg
    obtain ⟨c, rfl, h0, hle, hmax⟩ : ∃ c, v = .slice (some ⟨g, 0, none⟩) ss.length c ∧ OverS w g c 0 ∧ ss.length ≤ c ∧ c ≤ maxLen := by
      rcases hv.2 with ⟨rfl, _⟩ | ⟨g2, cap, cur, rfl, _, hc, h1, h2, h3, h4⟩
      · cases hg
      · obtain rfl := Option.some.inj hg
        have e : cur = cur0 := (Obj.cells.inj (Option.some.inj (hc.symm.trans hc0))).1
        subst e
        refine ⟨cap, rfl, ⟨cur.toList, hc, by rw [Array.length_toList, h3, Nat.mul_one], fun i x _ hx => ?_⟩, h1, h2⟩
        by_cases hi : i < ss.length
        · have h5 : (cur.toList.take (ss.length * 1))[i]? = some x := by rw [List.getElem?_take_of_lt (by omega)]; exact hx
          rw [h4, List.getElem?_map, List.getElem?_eq_getElem hi] at h5
          have h5 : encStr ss[i] = x := Option.some.inj h5
          exact ⟨⟨ss[i].toArray⟩, h5.symm, by have := hl ss[i] (List.getElem_mem hi); simpa [ByteArray.size] using this⟩
        · rw [Array.getElem?_toList] at hx
          exact ⟨_, hz i x (by omega) hx, by decide⟩
    simp only [maxLen] at hmax
    generalize ss.length = n at hle
    have e0 : (Value.slice (some ⟨g, 0, none⟩) n c).ownBlock = some g := rfl
    rw [e0]
    clear hv hS hg0 hg hz hc0 e0 hl
    go_enter Try.func67, Try.ntmps67
    go_wp2
    go_loopw [3] (fun i wr => ∃ j : Nat, j ≤ c ∧ i = .int .i64 j ∧ OverS wr g c j ∧ Only w wr fun k => some g = some k) (fun i _ => c - (intOf i).toNat)
    case atStart => exact ⟨0, by omega, rfl, h0, Only.of_below (Below.refl _ _) _⟩
    case round =>
      clear h0
      obtain ⟨j, hj, rfl, ⟨cur, hW, hcl, hT⟩, hO⟩ := hrel
      by_cases hlt : j < c
      · have i1 : (j : Int) < (c : Int) := by omega
        have i2 : 0 ≤ (j : Int) ∧ (j : Int) < (c : Int) := by omega
        have b2 : IntKind.i64.wrap ((j : Int) + 1) = (j : Int) + 1 := IntWalk.i64_in _ (by omega)
        obtain ⟨x, hx⟩ : ∃ x, cur[j]? = some x := ⟨_, List.getElem?_eq_getElem (by omega)⟩
        obtain ⟨y, rfl, hy⟩ := hT j x (Nat.le_refl _) hx
        have c0 : wr.cell? ⟨g, j, none⟩ = some (.string y) := hW.cell_of hx
        have hfree := hW.free j
        have HT := Lib.hid (And.intro hcl hT)
        have HW := Lib.hid hW
        clear hx hW hcl hT
        go_wp2
        go_roundw
        case rel =>
          refine ⟨j + 1, by omega, by go_num, ⟨_, HW.out.put j _, by simpa using HT.out.1, fun i x hi hx => HT.out.2 i x (by omega) ?_⟩, (hO.trans (Only.set wr ⟨g, j, none⟩ _)).weak fun i _ hi => hi.elim id fun e => by rw [e]⟩
          rwa [List.getElem?_set_ne (by omega)] at hx
        case measure => simp [intOf]; omega
      · obtain rfl : j = c := by omega
        have i1 : ¬ (j : Int) < (j : Int) := by omega
        clear hW hT
        go_wp2
        go_end0
        exact ⟨rfl, hO.weak fun _ _ e => Option.some.inj e⟩

/-- What lies when both are asked. -/
structure Asked (W w0 w : World) (B d m X : Nat) (S T : Nat → Prop) (A R : Fs) (ks rl : List Int) (n k : Nat) (v : Value) (kd : Int) (name dst : ByteArray) (bv : Value) (z : Int) (kv : Value) : Prop where
  sx : Sx W w B d m (fun i => i = X) S T A R ks rl n k
  box : Whole w X 63 [.int .u8 kd, .string name, .string dst, bv, .int .i64 z, kv]
  row : w.ownsRow w0.heap.size 9 1 v (namesA A).length ((namesA A).map encStr)
  spare : SpareT 9 w v (namesA A).length
  below : Below w0.heap.size w0 w
section
variable {W w0 w w' : World} {B d m X n k : Nat} {S T : Nat → Prop} {A R : Fs} {ks rl : List Int} {v : Value} {kd : Int} {name dst : ByteArray} {bv : Value} {z : Int} {kv : Value}
theorem Asked.low (h : Asked W w0 w B d m X S T A R ks rl n k v kd name dst bv z kv) (hb : Below w.heap.size w w') : Asked W w0 w' B d m X S T A R ks rl n k v kd name dst bv z kv :=
  ⟨h.sx.low hb, h.box.below hb h.box.lt, row_low h.row hb, fun g e => by
    obtain ⟨cur, hc, hx⟩ := h.spare g e
    exact ⟨cur, (hb.block g (Array.getElem?_eq_some_iff.1 hc).1).trans hc, hx⟩, h.below.trans (hb.mono h.below.size)⟩
theorem Asked.count (h : Asked W w0 w B d m X S T A R ks rl n k v kd name dst bv z kv) : w.cell? ⟨m, 2, none⟩ = some (.int .i64 n) := by
  obtain ⟨_, _, _, h1, _⟩ := h.sx.duo.doc
  exact h1.box.cell 2
theorem names_len (A : Fs) : (namesA A).length = A.length := by
  unfold namesA
  rw [List.length_mergeSort, List.length_map]
theorem Asked.names (h : Asked W w0 w B d m X S T A R ks rl n k v kd name dst bv z kv) : TxtAt w v (R.map (·.1)) := by
  have h1 := TxtAt.of_row h.row
  rw [h.sx.alike.names, List.map_map] at h1
  have e : R.map ((fun x : List UInt8 => (⟨x.toArray⟩ : ByteArray)) ∘ fun x => keyN x.1) = R.map (·.1) := List.map_congr_left fun x _ => rfl
  rwa [e] at h1
theorem Asked.small (h : Asked W w0 w B d m X S T A R ks rl n k v kd name dst bv z kv) : ∀ s ∈ namesA A, s.length ≤ 1000000 := fun s hs => by
  unfold namesA at hs
  rw [List.mem_mergeSort] at hs
  obtain ⟨x, hx, rfl⟩ := List.mem_map.1 hs
  have h1 := (h.sx.ok.2 x.1 x.2 (get_of_mem h.sx.alike.nod x hx)).2
  have h2 : x.1.data.toList.length = x.1.size := rfl
  omega
end

noncomputable def actAsk : Code := subCode [1, 1, 1, 1, 0] ((Try.f29.body).getD .skip)

set_option maxRecDepth 100000 in
set_option maxHeartbeats 4000000 in
theorem act_ask {z2 z3 z4 z8 z9 z10 z11 z12 z13 z14 z15 z17 z18 z19 z20 z21 z22 z23 z24 z25 z26 z27 z28 z29 z30 z31 z32 z33 z34 z35 z36 z37 z38 z39 z40 z41 z42 z43 z44 z45 z46 z47 z48 z49 z50 z51 z52 z53 z54 z55 z56 z57 z58 z59 z60 z61 z62 z63 z64 z65 z66 z67 z68 z69 z70 z71 z72 z73 z74 z75 z76 z77 z78 z79 z80 z81 z82 z83 z84 z85 z86 z87 z88 z89 z90 z91 z92 z93 z94 z95 z96 z97 z98 z99 z100 z101 z102 z103 z104 z105 z106 z107 z108 z109 z110 z111 z112 z113 z114 z115 z116 z117 z118 z119 z120 z121 z122 z123 z124 z125 z126 z127 z128 z129 z130 z131 z132 z133 z134 z135 z136 z137 z138 z139 z140 z141 z142 z143 z144 z145 z146 z147 z148 z149 z150 z151 z152 z153 z154 z155 z156 z157 z158 z159 z160 z161 z162 z163 z164 z165 z166 z167 z168 z169 z170 z171 z172 z173 z174 z175 z176 z177 z178 z179 z180 z181 z182 z183 z184 z185 z186 z187 z188 z189 z190 z191 z192 z193 z194 z195 z196 z197 z198 z199 z200 z201 z202 : Value} (W w0 w : World) (B d m X : Nat) (S T : Nat → Prop) (A R : Fs) (ks rl : List Int) (n k : Nat) (v : Value) (kd : Int) (name dst : ByteArray) (bv : Value) (z : Int) (kv : Value) (h : Asked W w0 w B d m X S T A R ks rl n k v kd name dst bv z kv) (hk : k ≤ 900) {Q : Exit → Act → World → Prop}
    (hq : ∀ (y173 y174 y175 y176 y177 y178 y179 y180 y181 y182 y183 y184 y185 y186 y187 y188 y189 y190 y191 y192 y193 y194 y195 y196 y197 y198 y199 : Value) (w' : World), Asked W w0 w' B d m X S T A R ks rl n k v kd name dst bv z kv → Q .normal ⟨(.pointer (some ⟨d, 0, none⟩) :: .pointer (some ⟨m, 0, none⟩) :: z2 :: z3 :: z4 :: .pointer (some ⟨X, 0, none⟩) :: .bool false :: .bool true :: z8 :: z9 :: z10 :: z11 :: z12 :: z13 :: z14 :: z15 :: v :: z17 :: z18 :: z19 :: z20 :: z21 :: z22 :: z23 :: z24 :: z25 :: z26 :: z27 :: z28 :: z29 :: z30 :: z31 :: z32 :: z33 :: z34 :: z35 :: z36 :: z37 :: z38 :: z39 :: z40 :: z41 :: z42 :: z43 :: z44 :: z45 :: z46 :: z47 :: z48 :: z49 :: z50 :: z51 :: z52 :: z53 :: z54 :: z55 :: z56 :: z57 :: z58 :: z59 :: z60 :: z61 :: z62 :: z63 :: z64 :: z65 :: z66 :: z67 :: z68 :: z69 :: z70 :: z71 :: z72 :: z73 :: z74 :: z75 :: z76 :: z77 :: z78 :: z79 :: z80 :: z81 :: z82 :: z83 :: z84 :: z85 :: z86 :: z87 :: z88 :: z89 :: z90 :: z91 :: z92 :: z93 :: z94 :: z95 :: z96 :: z97 :: z98 :: z99 :: z100 :: z101 :: z102 :: z103 :: z104 :: z105 :: z106 :: z107 :: z108 :: z109 :: z110 :: z111 :: z112 :: z113 :: z114 :: z115 :: z116 :: z117 :: z118 :: z119 :: z120 :: z121 :: z122 :: z123 :: z124 :: z125 :: z126 :: z127 :: z128 :: z129 :: z130 :: z131 :: z132 :: z133 :: z134 :: z135 :: z136 :: z137 :: z138 :: z139 :: z140 :: z141 :: z142 :: z143 :: z144 :: z145 :: z146 :: z147 :: z148 :: z149 :: z150 :: z151 :: z152 :: z153 :: z154 :: z155 :: z156 :: z157 :: z158 :: z159 :: z160 :: z161 :: z162 :: z163 :: z164 :: z165 :: z166 :: z167 :: z168 :: z169 :: z170 :: z171 :: z172 :: y173 :: y174 :: y175 :: y176 :: y177 :: y178 :: y179 :: y180 :: y181 :: y182 :: y183 :: y184 :: y185 :: y186 :: y187 :: y188 :: y189 :: y190 :: y191 :: y192 :: y193 :: y194 :: y195 :: y196 :: y197 :: y198 :: y199 :: z200 :: z201 :: z202 :: []).toArray, []⟩ w') : Code.wp Try.prog actAsk Q ⟨(.pointer (some ⟨d, 0, none⟩) :: .pointer (some ⟨m, 0, none⟩) :: z2 :: z3 :: z4 :: .pointer (some ⟨X, 0, none⟩) :: .bool false :: .bool true :: z8 :: z9 :: z10 :: z11 :: z12 :: z13 :: z14 :: z15 :: v :: z17 :: z18 :: z19 :: z20 :: z21 :: z22 :: z23 :: z24 :: z25 :: z26 :: z27 :: z28 :: z29 :: z30 :: z31 :: z32 :: z33 :: z34 :: z35 :: z36 :: z37 :: z38 :: z39 :: z40 :: z41 :: z42 :: z43 :: z44 :: z45 :: z46 :: z47 :: z48 :: z49 :: z50 :: z51 :: z52 :: z53 :: z54 :: z55 :: z56 :: z57 :: z58 :: z59 :: z60 :: z61 :: z62 :: z63 :: z64 :: z65 :: z66 :: z67 :: z68 :: z69 :: z70 :: z71 :: z72 :: z73 :: z74 :: z75 :: z76 :: z77 :: z78 :: z79 :: z80 :: z81 :: z82 :: z83 :: z84 :: z85 :: z86 :: z87 :: z88 :: z89 :: z90 :: z91 :: z92 :: z93 :: z94 :: z95 :: z96 :: z97 :: z98 :: z99 :: z100 :: z101 :: z102 :: z103 :: z104 :: z105 :: z106 :: z107 :: z108 :: z109 :: z110 :: z111 :: z112 :: z113 :: z114 :: z115 :: z116 :: z117 :: z118 :: z119 :: z120 :: z121 :: z122 :: z123 :: z124 :: z125 :: z126 :: z127 :: z128 :: z129 :: z130 :: z131 :: z132 :: z133 :: z134 :: z135 :: z136 :: z137 :: z138 :: z139 :: z140 :: z141 :: z142 :: z143 :: z144 :: z145 :: z146 :: z147 :: z148 :: z149 :: z150 :: z151 :: z152 :: z153 :: z154 :: z155 :: z156 :: z157 :: z158 :: z159 :: z160 :: z161 :: z162 :: z163 :: z164 :: z165 :: z166 :: z167 :: z168 :: z169 :: z170 :: z171 :: z172 :: z173 :: z174 :: z175 :: z176 :: z177 :: z178 :: z179 :: z180 :: z181 :: z182 :: z183 :: z184 :: z185 :: z186 :: z187 :: z188 :: z189 :: z190 :: z191 :: z192 :: z193 :: z194 :: z195 :: z196 :: z197 :: z198 :: z199 :: z200 :: z201 :: z202 :: []).toArray, []⟩ w := by
  conv => arg 2; whnf
  have HQ := Lib.hid hq
  have hR := h.sx.okR hk
  have hlen : R.length ≤ 1000000 := Nat.le_trans hR.1 (by decide)
  obtain ⟨p, hp⟩ : ∃ p : Int, ((((getA A name).map fun f => f.ops.length).getD 0 : Nat) : Int) = p := ⟨_, rfl⟩
  have hp2 : ((((getA R name).map fun f => f.ops.length).getD 0 : Nat) : Int) = p := by rw [← h.sx.alike.get name]; exact hp
  have HC4 := Lib.hid (fun w' (h : Asked W w0 w' B d m X S T A R ks rl n k v kd name dst bv z kv) => rk_names h.sx.duo.doc hR)
  have HC5 := Lib.hid (fun w' u (h : Asked W w0 w' B d m X S T A R ks rl n k v kd name dst bv z kv) (ht : TxtAt w' u (R.map (·.1))) => sametxt_calls w' v u (R.map (·.1)) h.names ht (by rw [List.length_map]; exact hlen))
  have HC11 := Lib.hid (fun w' (h : Asked W w0 w' B d m X S T A R ks rl n k v kd name dst bv z kv) => hp ▸ kd_pending W w' d n S A ks h.sx.duo.disk name)
  have HC15 := Lib.hid (fun w' (h : Asked W w0 w' B d m X S T A R ks rl n k v kd name dst bv z kv) => hp2 ▸ rk_pending h.sx.duo.doc hR name)
  have HC20 := Lib.hid (fun w' (h : Asked W w0 w' B d m X S T A R ks rl n k v kd name dst bv z kv) => kd_ops W w' d n S A ks h.sx.duo.disk)
  have hS := h.low ((Below.refl w.heap.size w).drew)
  clear hq h hk hlen hp hp2 hR
  refine wp_region_noPanic ?_
  refine wp_region_held_drew (S := fun w' => Asked W w0 w' B d m X S T A R ks rl n k v kd name dst bv z kv) (by kernel_rfl) (hS) (fun hhS => ?_)
  clear hS
  generalize w.drew = wd at hhS ⊢
  refine wpAnyH_take (i := 0) (oi := ⟨some 173, _, _, _, _, _⟩) (v := ?_) rfl (by kernel_rfl) (by kernel_rfl) (by kernel_rfl) (fun _ _ _ h => h) (Or.inl ⟨by rfl, ?_⟩) (by assumption) ?_
  rotate_left
  · intro w hSw
    (try dsimp only at hSw)
    go_simp
    all_goals (with_reducible rfl)
  try simp only [Act.put, List.setIfInBounds_toArray, List.set_cons_zero, List.set_cons_succ]
  refine wpAnyH_take (i := 1) (oi := ⟨some 174, _, _, _, _, _⟩) (v := ?_) rfl (by kernel_rfl) (by kernel_rfl) (by kernel_rfl) (fun _ _ _ h => h) (Or.inl ⟨by rfl, ?_⟩) (by assumption) ?_
  rotate_left
  · intro w hSw
    (try dsimp only at hSw)
    go_simp
    all_goals (with_reducible rfl)
  try simp only [Act.put, List.setIfInBounds_toArray, List.set_cons_zero, List.set_cons_succ]
  refine wpAnyH_take (i := 2) (oi := ⟨some 175, _, _, _, _, _⟩) (v := ?_) rfl (by kernel_rfl) (by kernel_rfl) (by kernel_rfl) (fun _ _ _ h => h) (Or.inl ⟨by rfl, ?_⟩) (by assumption) ?_
  rotate_left
  · intro w hSw
    (try dsimp only at hSw)
    go_simp
    all_goals (with_reducible rfl)
  try simp only [Act.put, List.setIfInBounds_toArray, List.set_cons_zero, List.set_cons_succ]
  refine wpAnyH_take (i := 3) (oi := ⟨some 176, _, _, _, _, _⟩) (v := ?_) rfl (by kernel_rfl) (by kernel_rfl) (by kernel_rfl) (fun _ _ _ h => h) (Or.inl ⟨by rfl, ?_⟩) (by assumption) ?_
  rotate_left
  · intro w hSw
    (try dsimp only at hSw)
    go_simp
    all_goals (with_reducible rfl)
  try simp only [Act.put, List.setIfInBounds_toArray, List.set_cons_zero, List.set_cons_succ]
  refine wpAnyH_ready (rs := [4]) (by kernel_rfl) (by simp) ?_
  refine AllReadyH.cons (o := ⟨some 177, _, _, _, _, _⟩) rfl (fun K hK => ?_) AllReadyH.nil
  go_simp
  refine (HC4.out _ hhS).mono ?_
  rintro r w4 ⟨v4, rfl, T4, hb4⟩
  have S4 := hhS.low hb4
  refine hK.out _ _ (S4) (fun _ => ?_)
  clear hK K
  try simp only [Act.put, List.setIfInBounds_toArray, List.set_cons_zero, List.set_cons_succ]
  refine wpAnyH_ready (rs := [5]) (by kernel_rfl) (by simp) ?_
  refine AllReadyH.cons (o := ⟨some 178, _, _, _, _, _⟩) rfl (fun K hK => ?_) AllReadyH.nil
  go_simp
  refine (HC5.out _ v4 S4 T4).mono ?_
  rintro r w5 ⟨rfl, hb5⟩
  have S5 := S4.low hb5
  refine hK.out _ _ (S5) (fun _ => ?_)
  clear hK K
  try simp only [Act.put, List.setIfInBounds_toArray, List.set_cons_zero, List.set_cons_succ]
  refine wpAnyH_take (i := 6) (oi := ⟨some 179, _, _, _, _, _⟩) (v := (.bool true)) rfl (by kernel_rfl) (by kernel_rfl) (by kernel_rfl) (fun _ _ _ h => h) (Or.inl ⟨by rfl, ?_⟩) (by assumption) ?_
  · intro w hSw
    (try dsimp only at hSw)
    go_simp
    all_goals (first | done | simp)
  try simp only [Act.put, List.setIfInBounds_toArray, List.set_cons_zero, List.set_cons_succ]
  refine wpAnyH_take (i := 7) (oi := ⟨some 180, _, _, _, _, _⟩) (v := ?_) rfl (by kernel_rfl) (by kernel_rfl) (by kernel_rfl) (fun _ _ _ h => h) (Or.inl ⟨by rfl, ?_⟩) (by assumption) ?_
  rotate_left
  · intro w hSw
    (try dsimp only at hSw)
    go_simp
    all_goals (with_reducible rfl)
  try simp only [Act.put, List.setIfInBounds_toArray, List.set_cons_zero, List.set_cons_succ]
  refine wpAnyH_take (i := 8) (oi := ⟨some 181, _, _, _, _, _⟩) (v := ?_) rfl (by kernel_rfl) (by kernel_rfl) (by kernel_rfl) (fun _ _ _ h => h) (Or.inl ⟨by rfl, ?_⟩) (by assumption) ?_
  rotate_left
  · intro w hSw
    (try dsimp only at hSw)
    go_simp
    all_goals (with_reducible rfl)
  try simp only [Act.put, List.setIfInBounds_toArray, List.set_cons_zero, List.set_cons_succ]
  refine wpAnyH_take (i := 9) (oi := ⟨some 182, _, _, _, _, _⟩) (v := ?_) rfl (by kernel_rfl) (by kernel_rfl) (by kernel_rfl) (fun _ _ _ h => h) (Or.inl ⟨by rfl, ?_⟩) (by assumption) ?_
  rotate_left
  · intro w hSw
    (try dsimp only at hSw)
    go_simp
    all_goals (with_reducible rfl)
  try simp only [Act.put, List.setIfInBounds_toArray, List.set_cons_zero, List.set_cons_succ]
  refine wpAnyH_take (i := 10) (oi := ⟨some 183, _, _, _, _, _⟩) (v := ?_) rfl (by kernel_rfl) (by kernel_rfl) (by kernel_rfl) (fun _ _ _ h => h) (Or.inl ⟨by rfl, ?_⟩) (by assumption) ?_
  rotate_left
  · intro w hSw
    (try dsimp only at hSw)
    have x1 := hSw.box.cell 1
    have x2 := hSw.count
    go_simp
    all_goals (with_reducible rfl)
  try simp only [Act.put, List.setIfInBounds_toArray, List.set_cons_zero, List.set_cons_succ]
  refine wpAnyH_take (i := 12) (oi := ⟨some 185, _, _, _, _, _⟩) (v := ?_) rfl (by kernel_rfl) (by kernel_rfl) (by kernel_rfl) (fun _ _ _ h => h) (Or.inl ⟨by rfl, ?_⟩) (by assumption) ?_
  rotate_left
  · intro w hSw
    (try dsimp only at hSw)
    go_simp
    all_goals (with_reducible rfl)
  try simp only [Act.put, List.setIfInBounds_toArray, List.set_cons_zero, List.set_cons_succ]
  refine wpAnyH_take (i := 13) (oi := ⟨some 186, _, _, _, _, _⟩) (v := ?_) rfl (by kernel_rfl) (by kernel_rfl) (by kernel_rfl) (fun _ _ _ h => h) (Or.inl ⟨by rfl, ?_⟩) (by assumption) ?_
  rotate_left
  · intro w hSw
    (try dsimp only at hSw)
    go_simp
    all_goals (with_reducible rfl)
  try simp only [Act.put, List.setIfInBounds_toArray, List.set_cons_zero, List.set_cons_succ]
  refine wpAnyH_take (i := 14) (oi := ⟨some 187, _, _, _, _, _⟩) (v := ?_) rfl (by kernel_rfl) (by kernel_rfl) (by kernel_rfl) (fun _ _ _ h => h) (Or.inl ⟨by rfl, ?_⟩) (by assumption) ?_
  rotate_left
  · intro w hSw
    (try dsimp only at hSw)
    have x1 := hSw.box.cell 1
    have x2 := hSw.count
    go_simp
    all_goals (with_reducible rfl)
  try simp only [Act.put, List.setIfInBounds_toArray, List.set_cons_zero, List.set_cons_succ]
  refine wpAnyH_ready (rs := [11]) (by kernel_rfl) (by simp) ?_
  refine AllReadyH.cons (o := ⟨some 184, _, _, _, _, _⟩) rfl (fun K hK => ?_) AllReadyH.nil
  go_simp
  refine (HC11.out _ S5).mono ?_
  rintro r w11 ⟨rfl, rfl⟩
  refine hK.out _ _ (S5) (fun _ => ?_)
  clear hK K
  try simp only [Act.put, List.setIfInBounds_toArray, List.set_cons_zero, List.set_cons_succ]
  refine wpAnyH_ready (rs := [15]) (by kernel_rfl) (by simp) ?_
  refine AllReadyH.cons (o := ⟨some 188, _, _, _, _, _⟩) rfl (fun K hK => ?_) AllReadyH.nil
  go_simp
  refine (HC15.out _ S5).mono ?_
  rintro r w15 ⟨rfl, rfl⟩
  refine hK.out _ _ (S5) (fun _ => ?_)
  clear hK K
  try simp only [Act.put, List.setIfInBounds_toArray, List.set_cons_zero, List.set_cons_succ]
  refine wpAnyH_take (i := 16) (oi := ⟨some 189, _, _, _, _, _⟩) (v := (.bool true)) rfl (by kernel_rfl) (by kernel_rfl) (by kernel_rfl) (fun _ _ _ h => h) (Or.inl ⟨by rfl, ?_⟩) (by assumption) ?_
  · intro w hSw
    (try dsimp only at hSw)
    go_simp
    all_goals (first | done | simp)
  try simp only [Act.put, List.setIfInBounds_toArray, List.set_cons_zero, List.set_cons_succ]
  refine wpAnyH_take (i := 17) (oi := ⟨some 190, _, _, _, _, _⟩) (v := (.bool true)) rfl (by kernel_rfl) (by kernel_rfl) (by kernel_rfl) (fun _ _ _ h => h) (Or.inl ⟨by rfl, ?_⟩) (by assumption) ?_
  · intro w hSw
    (try dsimp only at hSw)
    go_simp
    all_goals (first | done | simp)
  try simp only [Act.put, List.setIfInBounds_toArray, List.set_cons_zero, List.set_cons_succ]
  refine wpAnyH_take (i := 18) (oi := ⟨some 191, _, _, _, _, _⟩) (v := ?_) rfl (by kernel_rfl) (by kernel_rfl) (by kernel_rfl) (fun _ _ _ h => h) (Or.inl ⟨by rfl, ?_⟩) (by assumption) ?_
  rotate_left
  · intro w hSw
    (try dsimp only at hSw)
    go_simp
    all_goals (with_reducible rfl)
  try simp only [Act.put, List.setIfInBounds_toArray, List.set_cons_zero, List.set_cons_succ]
  refine wpAnyH_take (i := 19) (oi := ⟨some 192, _, _, _, _, _⟩) (v := ?_) rfl (by kernel_rfl) (by kernel_rfl) (by kernel_rfl) (fun _ _ _ h => h) (Or.inl ⟨by rfl, ?_⟩) (by assumption) ?_
  rotate_left
  · intro w hSw
    (try dsimp only at hSw)
    go_simp
    all_goals (with_reducible rfl)
  try simp only [Act.put, List.setIfInBounds_toArray, List.set_cons_zero, List.set_cons_succ]
  refine wpAnyH_take (i := 21) (oi := ⟨some 194, _, _, _, _, _⟩) (v := ?_) rfl (by kernel_rfl) (by kernel_rfl) (by kernel_rfl) (fun _ _ _ h => h) (Or.inl ⟨by rfl, ?_⟩) (by assumption) ?_
  rotate_left
  · intro w hSw
    (try dsimp only at hSw)
    go_simp
    all_goals (with_reducible rfl)
  try simp only [Act.put, List.setIfInBounds_toArray, List.set_cons_zero, List.set_cons_succ]
  refine wpAnyH_take (i := 22) (oi := ⟨some 195, _, _, _, _, _⟩) (v := ?_) rfl (by kernel_rfl) (by kernel_rfl) (by kernel_rfl) (fun _ _ _ h => h) (Or.inl ⟨by rfl, ?_⟩) (by assumption) ?_
  rotate_left
  · intro w hSw
    (try dsimp only at hSw)
    go_simp
    all_goals (with_reducible rfl)
  try simp only [Act.put, List.setIfInBounds_toArray, List.set_cons_zero, List.set_cons_succ]
  refine wpAnyH_take (i := 23) (oi := ⟨some 196, _, _, _, _, _⟩) (v := ?_) rfl (by kernel_rfl) (by kernel_rfl) (by kernel_rfl) (fun _ _ _ h => h) (Or.inl ⟨by rfl, ?_⟩) (by assumption) ?_
  rotate_left
  · intro w hSw
    (try dsimp only at hSw)
    go_simp
    all_goals (with_reducible rfl)
  try simp only [Act.put, List.setIfInBounds_toArray, List.set_cons_zero, List.set_cons_succ]
  refine wpAnyH_take (i := 24) (oi := ⟨some 197, _, _, _, _, _⟩) (v := ?_) rfl (by kernel_rfl) (by kernel_rfl) (by kernel_rfl) (fun _ _ _ h => h) (Or.inl ⟨by rfl, ?_⟩) (by assumption) ?_
  rotate_left
  · intro w hSw
    (try dsimp only at hSw)
    have x1 := hSw.box.cell 1
    have x2 := hSw.count
    go_simp
    all_goals (with_reducible rfl)
  try simp only [Act.put, List.setIfInBounds_toArray, List.set_cons_zero, List.set_cons_succ]
  refine wpAnyH_ready (rs := [20]) (by kernel_rfl) (by simp) ?_
  refine AllReadyH.cons (o := ⟨some 193, _, _, _, _, _⟩) rfl (fun K hK => ?_) AllReadyH.nil
  go_simp
  refine (HC20.out _ S5).mono ?_
  rintro r w20 ⟨rfl, rfl⟩
  refine hK.out _ _ (S5) (fun _ => ?_)
  clear hK K
  try simp only [Act.put, List.setIfInBounds_toArray, List.set_cons_zero, List.set_cons_succ]
  refine wpAnyH_take (i := 25) (oi := ⟨some 198, _, _, _, _, _⟩) (v := (.bool true)) rfl (by kernel_rfl) (by kernel_rfl) (by kernel_rfl) (fun _ _ _ h => h) (Or.inl ⟨by rfl, ?_⟩) (by assumption) ?_
  · intro w hSw
    (try dsimp only at hSw)
    go_simp
    all_goals (first | done | simp)
  try simp only [Act.put, List.setIfInBounds_toArray, List.set_cons_zero, List.set_cons_succ]
  refine wpAnyH_take (i := 26) (oi := ⟨some 199, _, _, _, _, _⟩) (v := (.bool true)) rfl (by kernel_rfl) (by kernel_rfl) (by kernel_rfl) (fun _ _ _ h => h) (Or.inl ⟨by rfl, ?_⟩) (by assumption) ?_
  · intro w hSw
    (try dsimp only at hSw)
    go_simp
    all_goals (first | done | simp)
  try simp only [Act.put, List.setIfInBounds_toArray, List.set_cons_zero, List.set_cons_succ]
  refine wpAnyH_take (i := 27) (oi := ⟨some 7, _, _, _, _, _⟩) (v := ?_) rfl (by kernel_rfl) (by kernel_rfl) (by kernel_rfl) (fun _ _ _ h => h) (Or.inl ⟨by rfl, ?_⟩) (by assumption) ?_
  rotate_left
  · intro w hSw
    (try dsimp only at hSw)
    go_simp
    all_goals (with_reducible rfl)
  try simp only [Act.put, List.setIfInBounds_toArray, List.set_cons_zero, List.set_cons_succ]
  refine wpAnyH_done (by kernel_rfl) ?_ _
  refine NoPanic.normal ?_
  exact HQ.out _ _ _ _ _ _ _ _ _ _ _ _ _ _ _ _ _ _ _ _ _ _ _ _ _ _ _ _ S5

end Go.Proofs.Ytmmlpbepaefamaa
