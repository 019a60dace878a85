/- access.About: what it computes. -/
import Derived.Deep.QuietTactic
import Derived.BigQuiet
import Derived.Deep.DeepCutAuto
import Derived.Deep.CutBlock
import Derived.Laws.AppendOwn
import Derived.Maps.AppendAt
import Derived.Test.YtglcingpolpkdaaANameX2
namespace Go.Proofs.Ytglcingpolpkdaa
open Go.RowKit

/-- Texts lie in a slice. -/
def TextsAt (w : World) (v : Value) (l : List ByteArray) : Prop :=
  (∃ a c, v = .slice a 0 c ∧ l = []) ∨ ∃ b off c, v = .slice (some ⟨b, off, none⟩) l.length c ∧ b < w.heap.size ∧ ∀ j, j < l.length → w.cell? ⟨b, off + j, none⟩ = some (.string (l.getD j ByteArray.empty))
theorem TextsAt.low {w w' : World} {v : Value} {l : List ByteArray} (h : TextsAt w v l) (hb : Below w.heap.size w w') : TextsAt w' v l := by
  rcases h with h | ⟨b, off, c, rfl, hl, hc⟩
  · exact .inl h
  · exact .inr ⟨b, off, c, rfl, Nat.lt_of_lt_of_le hl hb.size, fun j hj => (hb.cell (p := ⟨b, off + j, none⟩) hl).trans (hc j hj)⟩

theorem contains_calls (w : World) (v : Value) (l : List ByteArray) (x : ByteArray) (h : TextsAt w v l) (hl : l.length ≤ 9223372036854775807) :
    Calls Try.prog 49 #[v, .string x] w fun e w' => e = .returned (.bool (Lib.containsS l x)) ∧ w' = w := by
  rcases h with ⟨a, c, rfl, rfl⟩ | ⟨b, off, c, rfl, _, hc⟩
  · exact slices_Contains_string_empty a c x w
  · have h := slices_Contains_string b off l.length c l x w (Nat.le_refl _) hl hc
    rwa [List.take_length] at h

theorem eqB_dec (a b : ByteArray) : eqB a b = decide (a.toList = b.toList) := by
  unfold eqB
  rw [Bool.eq_iff_iff]
  simp

def aboutB (r : Rl) (roles : List ByteArray) (who : ByteArray) (what : Int) (key : ByteArray) : Bool :=
  ((eqB r.who who || (eqB r.who tStar || (hasP r.who tAt && Lib.containsS roles (behind r.who tAt)))) && (decide (r.what = what) || decide (r.what = 0))) && (eqB r.key key || (hasS r.key tStar && hasP key (front r.key tStar)))

noncomputable def aboutEnd : Code := subCode [1, 1, 1, 1, 1, 0] ((Try.f17.body).getD .skip)
noncomputable def aboutRest : Code := subCode [1, 1, 1, 1, 0] ((Try.f17.body).getD .skip)

set_option maxRecDepth 100000 in
set_option maxHeartbeats 1000000 in
theorem about_end {z0 z1 z2 z6 z7 z8 z9 z10 z11 z12 z17 z18 z19 z20 z21 z22 z23 z24 z25 z26 z27 z28 z29 z30 z31 z32 z33 z34 z35 z36 z37 z38 z39 z40 z41 z42 z43 z44 z45 z46 z47 z48 z49 z50 z51 z52 z53 z54 z55 z56 z57 z58 z59 z60 z61 z62 z63 z64 z65 z66 z67 z68 z69 z70 z71 z72 : Value} (w : World) (B : Nat) (rkey key fr : ByteArray) (what : Int) (q a b : Bool) (r2 : w.cell? ⟨B, 2, none⟩ = some (.string rkey)) {Q : Exit → Act → World → Prop}
    (hq : ∀ (x y14 y55 y56 y57 y58 y59 y60 y61 y62 y63 y64 y65 y66 y67 y68 y69 y70 y71 y72 : Value), x = .bool ((a && b) && (decide (rkey.toList = key.toList) || (q && hasP key fr))) → Q .normal ⟨(z0 :: z1 :: z2 :: .int .i64 what :: .string key :: .pointer (some ⟨B, 0, none⟩) :: z6 :: z7 :: z8 :: z9 :: x :: z11 :: z12 :: .string fr :: y14 :: .bool a :: .bool b :: z17 :: z18 :: z19 :: z20 :: z21 :: z22 :: z23 :: z24 :: z25 :: z26 :: z27 :: z28 :: z29 :: z30 :: z31 :: z32 :: z33 :: z34 :: z35 :: z36 :: z37 :: z38 :: z39 :: z40 :: z41 :: z42 :: z43 :: z44 :: z45 :: z46 :: z47 :: z48 :: z49 :: z50 :: z51 :: z52 :: z53 :: z54 :: y55 :: y56 :: y57 :: y58 :: y59 :: y60 :: y61 :: y62 :: y63 :: y64 :: y65 :: y66 :: y67 :: y68 :: y69 :: y70 :: y71 :: y72 :: []).toArray, []⟩ w) : Code.wp Try.prog aboutEnd Q ⟨(z0 :: z1 :: z2 :: .int .i64 what :: .string key :: .pointer (some ⟨B, 0, none⟩) :: z6 :: z7 :: z8 :: z9 :: z10 :: z11 :: z12 :: .string fr :: .bool q :: .bool a :: .bool b :: z17 :: z18 :: z19 :: z20 :: z21 :: z22 :: z23 :: z24 :: z25 :: z26 :: z27 :: z28 :: z29 :: z30 :: z31 :: z32 :: z33 :: z34 :: z35 :: z36 :: z37 :: z38 :: z39 :: z40 :: z41 :: z42 :: z43 :: z44 :: z45 :: z46 :: z47 :: z48 :: z49 :: z50 :: z51 :: z52 :: z53 :: z54 :: z55 :: z56 :: z57 :: z58 :: z59 :: z60 :: z61 :: z62 :: z63 :: z64 :: z65 :: z66 :: z67 :: z68 :: z69 :: z70 :: z71 :: z72 :: []).toArray, []⟩ w := by
  conv => arg 2; whnf
  have hQ := Lib.hid hq
  clear hq
  cases a <;> cases b <;> go_wp2_with (go_at_call 50; refine (strings_HasPrefix _ _ _).mono ?_; rintro e w' ⟨rfl, hw⟩; rw [hw]; clear hw)
  all_goals
    refine hQ.out _ _ _ _ _ _ _ _ _ _ _ _ _ _ _ _ _ _ _ _ ?_
    simp [hasP, *]

set_option maxRecDepth 100000 in
set_option maxHeartbeats 1000000 in
theorem about_rest {z0 z1 z2 z6 z7 z8 z9 z10 z11 z12 z15 z16 z17 z18 z19 z20 z21 z22 z23 z24 z25 z26 z27 z28 z29 z30 z31 z32 z33 z34 z35 z36 z37 z38 z39 z40 z41 z42 z43 z44 z45 z46 z47 z48 z49 z50 z51 z52 z53 z54 z55 z56 z57 z58 z59 z60 z61 z62 z63 z64 z65 z66 z67 z68 z69 z70 z71 z72 : Value} (w : World) (B : Nat) (rwhat : Int) (key fr : ByteArray) (what : Int) (q : Bool) (r1 : w.cell? ⟨B, 1, none⟩ = some (.int .i64 rwhat)) {Q : Exit → Act → World → Prop}
    (hq : ∀ (x y46 y47 y48 y49 y50 y51 y52 y53 y54 : Value), x = .bool (decide (rwhat = what) || decide (rwhat = 0)) → Q .normal ⟨(z0 :: z1 :: z2 :: .int .i64 what :: .string key :: .pointer (some ⟨B, 0, none⟩) :: z6 :: z7 :: z8 :: z9 :: z10 :: z11 :: z12 :: .string fr :: .bool q :: z15 :: x :: z17 :: z18 :: z19 :: z20 :: z21 :: z22 :: z23 :: z24 :: z25 :: z26 :: z27 :: z28 :: z29 :: z30 :: z31 :: z32 :: z33 :: z34 :: z35 :: z36 :: z37 :: z38 :: z39 :: z40 :: z41 :: z42 :: z43 :: z44 :: z45 :: y46 :: y47 :: y48 :: y49 :: y50 :: y51 :: y52 :: y53 :: y54 :: z55 :: z56 :: z57 :: z58 :: z59 :: z60 :: z61 :: z62 :: z63 :: z64 :: z65 :: z66 :: z67 :: z68 :: z69 :: z70 :: z71 :: z72 :: []).toArray, []⟩ w) : Code.wp Try.prog aboutRest Q ⟨(z0 :: z1 :: z2 :: .int .i64 what :: .string key :: .pointer (some ⟨B, 0, none⟩) :: z6 :: z7 :: z8 :: z9 :: z10 :: z11 :: z12 :: .string fr :: .bool q :: z15 :: z16 :: z17 :: z18 :: z19 :: z20 :: z21 :: z22 :: z23 :: z24 :: z25 :: z26 :: z27 :: z28 :: z29 :: z30 :: z31 :: z32 :: z33 :: z34 :: z35 :: z36 :: z37 :: z38 :: z39 :: z40 :: z41 :: z42 :: z43 :: z44 :: z45 :: z46 :: z47 :: z48 :: z49 :: z50 :: z51 :: z52 :: z53 :: z54 :: z55 :: z56 :: z57 :: z58 :: z59 :: z60 :: z61 :: z62 :: z63 :: z64 :: z65 :: z66 :: z67 :: z68 :: z69 :: z70 :: z71 :: z72 :: []).toArray, []⟩ w := by
  conv => arg 2; whnf
  have hQ := Lib.hid hq
  clear hq
  go_wp2
  all_goals
    refine hQ.out _ _ _ _ _ _ _ _ _ _ ?_
    show Value.bool _ = Value.bool _
    rw [Value.bool.injEq, Bool.eq_iff_iff]
    simp [*]

set_option maxRecDepth 100000 in
set_option maxHeartbeats 2000000 in
theorem about_calls (w : World) (rwho rkey : ByteArray) (rwhat : Int) (deny : Bool) (v : Value) (roles : List ByteArray) (who : ByteArray) (what : Int) (key : ByteArray) (hv : TextsAt w v roles) (hl : roles.length ≤ 9223372036854775807) (hsz : rkey.size ≤ 9223372036854775807) :
    Calls Try.prog 17 #[.agg #[.string rwho, .int .i64 rwhat, .string rkey, .bool deny], v, .string who, .int .i64 what, .string key] w
    fun e w' => e = .returned (.bool (aboutB ⟨rwho, rwhat, rkey, deny⟩ roles who what key)) ∧ Below w.heap.size w w' := by
  have hR : RuleAt w (w.alloc (.cells #[.string rwho, .int .i64 rwhat, .string rkey, .bool deny] 29)) w.heap.size rwho rwhat rkey deny :=
    ⟨Whole.new w 29 #[.string rwho, .int .i64 rwhat, .string rkey, .bool deny], (Below.refl _ _).alloc (Nat.le_refl _) _⟩
  have hv2 := hv.low hR.below
  have c1 := Lib.hid (fun w : World => strings_CutPrefix rwho tAt w)
  have c2 := Lib.hid (fun w : World => strings_CutSuffix rkey tStar w hsz)
  obtain ⟨p, hp⟩ : ∃ p, hasP rwho tAt = p := ⟨_, rfl⟩
  obtain ⟨q, hq⟩ : ∃ q, hasS rkey tStar = q := ⟨_, rfl⟩
  obtain ⟨role, hrole⟩ : ∃ s, behind rwho tAt = s := ⟨_, rfl⟩
  obtain ⟨fr, hfr⟩ : ∃ s, front rkey tStar = s := ⟨_, rfl⟩
  have C1 := Lib.hid (fun w : World => (show Calls Try.prog 47 #[.string rwho, .string ⟨#[64]⟩] w fun e w' => e = .returned (.tuple #[.string role, .bool p]) ∧ w' = w from by rw [← hp, ← hrole]; exact c1.out w))
  have C2 := Lib.hid (fun w : World => (show Calls Try.prog 48 #[.string rkey, .string ⟨#[42]⟩] w fun e w' => e = .returned (.tuple #[.string fr, .bool q]) ∧ w' = w from by rw [← hq, ← hfr]; exact c2.out w))
  have hm : aboutB ⟨rwho, rwhat, rkey, deny⟩ roles who what key = (((eqB rwho who || (eqB rwho tStar || (p && Lib.containsS roles role))) && (decide (rwhat = what) || decide (rwhat = 0))) && (eqB rkey key || (q && hasP key fr))) := by
    unfold aboutB
    rw [← hp, ← hq, ← hrole, ← hfr]
  rw [hm, eqB_star, eqB_dec, eqB_dec]
  have HV := Lib.hid hv2
  obtain ⟨r0, r1, r2⟩ := hR.three
  have HB := Lib.hid hR.below
  clear c1 c2 hm hp hq hrole hfr hv hv2 hR
  go_enter Try.func17, Try.ntmps17
  go_upto_region 1 with (refine wpList_box_cells (by rfl) 29 _ (by rfl) #[.string rwho, .int .i64 rwhat, .string rkey, .bool deny] (by rfl) ?_)
  generalize (w.alloc (.cells #[.string rwho, .int .i64 rwhat, .string rkey, .bool deny] 29)) = w0 at *
  go_upto_region 4 with (first
    | (go_at_call 47; refine (C1.out _).mono ?_; rintro e w' ⟨rfl, hw⟩; rw [hw]; clear hw)
    | (go_at_call 48; refine (C2.out _).mono ?_; rintro e w' ⟨rfl, hw⟩; rw [hw]; clear hw)
    | (go_at_call 49; refine (contains_calls _ _ _ _ HV.out hl).mono ?_; rintro e w' ⟨rfl, hw⟩; rw [hw]; clear hw))
  all_goals
    refine about_rest w0 w.heap.size rwhat key fr what q r1 ?_
    intro x _ _ _ _ _ _ _ _ _ hx
    obtain ⟨b, hb⟩ : ∃ b, (decide (rwhat = what) || decide (rwhat = 0)) = b := ⟨_, rfl⟩
    rw [hb] at hx
    have hbh := Lib.hid hb
    clear hb
    subst hx
    go_upto_region 5 with fail
    refine about_end w0 w.heap.size rkey key fr what q _ b r2 ?_
    intro x _ _ _ _ _ _ _ _ _ _ _ _ _ _ _ _ _ _ _ hx
    go_wp2
    go_ret
    refine ⟨?_, HB.out⟩
    clear C1 C2 HV HB
    show Ending.returned x = Ending.returned (.bool _)
    rw [hx, ← hbh.out, Ending.returned.injEq, Value.bool.injEq, Bool.eq_iff_iff]
    clear hx
    simp [*]

end Go.Proofs.Ytglcingpolpkdaa

/- Rows of texts, members and rules that a call owns; (*tenant).roles. -/
namespace Go.Proofs.Ytglcingpolpkdaa
open Go.RowKit

theorem info_of {t : TypeId} {z : Value} {n b : Nat} (h : (Try.prog.info? t).map (fun i => (i.zero, i.size, i.bytes)) = some (some z, n, b)) : ∃ i, Try.prog.info? t = some i ∧ i.zero = some z ∧ i.size = n ∧ i.bytes = b := by
  cases hi : Try.prog.info? t with
  | none => rw [hi] at h; cases h
  | some i =>
    rw [hi] at h
    simp only [Option.map_some, Option.some.injEq, Prod.mk.injEq] at h
    exact ⟨i, rfl, h.1, h.2.1, h.2.2⟩
theorem info_str : ∃ i, Try.prog.info? 9 = some i ∧ i.zero = some (.string ⟨#[]⟩) ∧ i.size = 1 ∧ i.bytes = 16 := info_of (by kernel_rfl)
theorem info_mem : ∃ i, Try.prog.info? 106 = some i ∧ i.zero = some (.agg #[.string ⟨#[]⟩, .string ⟨#[]⟩]) ∧ i.size = 2 ∧ i.bytes = 32 := info_of (by kernel_rfl)
theorem info_rule : ∃ i, Try.prog.info? 29 = some i ∧ i.zero = some (.agg #[.string ⟨#[]⟩, .int .i64 0, .string ⟨#[]⟩, .bool false]) ∧ i.size = 4 ∧ i.bytes = 48 := info_of (by kernel_rfl)

/-- Where a row lies behind an append: where it lay, or in new memory. -/
def Moved (w : World) (v v' : Value) : Prop := v'.ownBlock = v.ownBlock ∨ ∃ g, v'.ownBlock = some g ∧ w.heap.size ≤ g

theorem wp_append_at {P : Program} (w : World) {o : Oper} {a : Act} {K : Act → World → Prop} {Q : Exit → Act → World → Prop} (s x : Operand) (t : TypeId)
    (ho : o.op = .call { callee := .builtin .append, args := #[s, x], argTypes := #[t, t] })
    (base : Nat) (e : TypeId) (i : TypeInfo) (z : Value) (size bytes : Nat) (ht : P.underlying t = some (.slice e)) (hi : P.info? e = some i) (hz : i.zero = some z)
    (hsize : i.size = size) (hby : i.bytes = bytes) (hzs : z.cells.size = size) (hsz : 0 < size)
    (v : Value) (n : Nat) (xs : List Value) (hs : a.eval s = v) (hown : w.ownsRow base e size v n xs)
    (ad : Addr) (m c : Nat) (news : List Value) (hx : a.eval x = .slice (some ad) m c) (hl : news.length = m * size) (hnews : ∀ j u, news[j]? = some u → w.cell? (ad.add j) = some u) (h1 : ∀ u ∈ news, u.oneCell' = true)
    (h63 : n + m ≤ maxLen) (hbytes : (n + m) * bytes ≤ 140737488355328) (hbase : base ≤ w.heap.size)
    (h : ∀ v' w', w'.ownsRow base e size v' (n + m) (xs ++ news) → w.grownBy w' v.ownBlock → Moved w v v' → K (a.put o.dst v') w') : o.wp P a w K Q := by
  obtain ⟨v', w', hr, h2, h3, _, h5⟩ := run_append_own_at (P := P) w base t o.type e i z size bytes ht hi hz hsize hby hzs hsz v n xs hown ad m c news hl hnews h1 h63 hbytes hbase
  unfold Oper.wp execOp
  simp only [ho, resolve, invoke, builtin, Sem.run_bind, Sem.run_pure, Result.andThen_ok, List.map_toArray, List.map_cons, List.map_nil, hs, hx, hr]
  exact h v' w' h2 h3 (h5.imp id fun h => ⟨_, h, Nat.le_refl _⟩)

def memCells (p : ByteArray × ByteArray) : List Value := [.string p.1, .string p.2]
def OwnS (w : World) (B : Nat) (v : Value) (l : List ByteArray) : Prop := w.ownsRow B 9 1 v l.length (l.map Value.string)
def OwnM (w : World) (B : Nat) (v : Value) (l : List (ByteArray × ByteArray)) : Prop := w.ownsRow B 106 2 v l.length (l.flatMap memCells)
def OwnR (w : World) (B : Nat) (v : Value) (l : List Rl) : Prop := w.ownsRow B 29 4 v l.length (l.flatMap Rl.cells)

theorem row_shape {w : World} {B n size : Nat} {e : TypeId} {v : Value} {xs : List Value} (h : w.ownsRow B e size v n xs) :
    (v = .slice none 0 0 ∧ n = 0) ∨ ∃ g cap, v = .slice (some ⟨g, 0, none⟩) n cap ∧ B ≤ g ∧ g < w.heap.size ∧ ∀ j x, xs[j]? = some x → w.cell? ⟨g, j, none⟩ = some x := by
  rcases h.2 with ⟨rfl, hn⟩ | ⟨g, cap, cur, rfl, hb, hg, hle, hm, _⟩
  · exact .inl ⟨rfl, hn⟩
  · refine .inr ⟨g, cap, rfl, hb, (Array.getElem?_eq_some_iff.1 hg).1, fun j x hx => ?_⟩
    have := World.ownsRow.cells h (g := g) rfl j x (by simpa using hx)
    rwa [Addr.add_lit, Nat.zero_add] at this
theorem row_low {w w' : World} {B n size : Nat} {e : TypeId} {v : Value} {xs : List Value} (h : w.ownsRow B e size v n xs) (hb : Below w.heap.size w w') : w'.ownsRow B e size v n xs :=
  World.ownsRow.kept h (below_grown hb none) (by cases v.ownBlock <;> simp)

theorem flat_at {α : Type} {f : α → List Value} {n : Nat} (hf : ∀ a, (f a).length = n) : ∀ (l : List α) (k : Nat) (a : α) (i : Nat) (x : Value), l[k]? = some a → (f a)[i]? = some x → (l.flatMap f)[k * n + i]? = some x
  | [], k, a, i, x, h, _ => by simp at h
  | b :: l, 0, a, i, x, h, hx => by
    have : b = a := by simpa using h
    subst this
    have hi : i < (f b).length := (List.getElem?_eq_some_iff.1 hx).1
    rw [List.flatMap_cons, Nat.zero_mul, Nat.zero_add, List.getElem?_append_left hi]
    exact hx
  | b :: l, k + 1, a, i, x, h, hx => by
    have ih := flat_at hf l k a i x (by simpa using h) hx
    rw [List.flatMap_cons, List.getElem?_append_right (by rw [hf, Nat.succ_mul]; omega), hf, ← ih]
    congr 1
    rw [Nat.succ_mul]
    omega

theorem OwnM.two {w : World} {B k : Nat} {v : Value} {l : List (ByteArray × ByteArray)} {p : ByteArray × ByteArray} (h : OwnM w B v l) (hp : l[k]? = some p) :
    ∃ g cap, v = .slice (some ⟨g, 0, none⟩) l.length cap ∧ g < w.heap.size ∧ w.cell? ⟨g, k * 2, none⟩ = some (.string p.1) ∧ w.cell? ⟨g, k * 2 + 1, none⟩ = some (.string p.2) := by
  rcases row_shape h with ⟨rfl, hn⟩ | ⟨g, cap, rfl, _, hg, hc⟩
  · rw [List.eq_nil_of_length_eq_zero hn] at hp
    simp at hp
  · exact ⟨g, cap, rfl, hg, hc _ _ (flat_at (n := 2) (fun _ => rfl) l k p 0 _ hp rfl), hc _ _ (flat_at (n := 2) (fun _ => rfl) l k p 1 _ hp rfl)⟩
theorem OwnR.four {w : World} {B k : Nat} {v : Value} {l : List Rl} {r : Rl} (h : OwnR w B v l) (hp : l[k]? = some r) :
    ∃ g cap, v = .slice (some ⟨g, 0, none⟩) l.length cap ∧ g < w.heap.size ∧ w.cell? ⟨g, k * 4, none⟩ = some (.string r.who) ∧ w.cell? ⟨g, k * 4 + 1, none⟩ = some (.int .i64 r.what) ∧ w.cell? ⟨g, k * 4 + 2, none⟩ = some (.string r.key) ∧ w.cell? ⟨g, k * 4 + 3, none⟩ = some (.bool r.deny) := by
  rcases row_shape h with ⟨rfl, hn⟩ | ⟨g, cap, rfl, _, hg, hc⟩
  · rw [List.eq_nil_of_length_eq_zero hn] at hp
    simp at hp
  · exact ⟨g, cap, rfl, hg, hc _ _ (flat_at (n := 4) (fun _ => rfl) l k r 0 _ hp rfl), hc _ _ (flat_at (n := 4) (fun _ => rfl) l k r 1 _ hp rfl), hc _ _ (flat_at (n := 4) (fun _ => rfl) l k r 2 _ hp rfl), hc _ _ (flat_at (n := 4) (fun _ => rfl) l k r 3 _ hp rfl)⟩
theorem OwnS.texts {w : World} {B : Nat} {v : Value} {l : List ByteArray} (h : OwnS w B v l) : TextsAt w v l := by
  rcases row_shape h with ⟨rfl, hn⟩ | ⟨g, cap, rfl, _, hg, hc⟩
  · exact .inl ⟨none, 0, rfl, List.eq_nil_of_length_eq_zero hn⟩
  · refine .inr ⟨g, 0, cap, rfl, hg, fun j hj => ?_⟩
    rw [Nat.zero_add]
    refine hc j _ ?_
    rw [List.getElem?_map, List.getD_eq_getElem?_getD, List.getElem?_eq_getElem hj]
    rfl
theorem OwnS.nil (w : World) (B : Nat) : OwnS w B (.slice none 0 0) [] := World.ownsRow_nil w _ _ _

/-- 'append(l, x)', l a list of texts that the call owns. -/
theorem wpList_append_str {w : World} {ops : Array Oper} {rest : List Oper} {o : Oper} {a : Act} {Q : Exit → Act → World → Prop} (hgd : o.guard = none) (s x : Operand)
    (ho : o.op = .call { callee := .builtin .append, args := #[s, x], argTypes := #[33, 33] })
    (B g : Nat) (v : Value) (l : List ByteArray) (hs : a.eval s = v) (hown : OwnS w B v l) (c : ByteArray)
    (hx : a.eval x = .slice (some ⟨g, 0, none⟩) 1 1) (hg : w.heap.size = g) (hlen : l.length + 1 ≤ 1000000) (hbase : B ≤ w.heap.size)
    (h : ∀ v' w', OwnS w' B v' (l ++ [c]) → w.grownBy w' v.ownBlock → wpList Try.prog ops Q rest (a.put o.dst v') w') :
    wpList Try.prog ops Q (o :: rest) a (w.alloc (.cells #[.string c] 9)) := by
  subst hg
  obtain ⟨i, hi, hz, hsz, hby⟩ := info_str
  refine wpList_append_own (w := w.alloc (.cells #[.string c] 9)) hgd s x _ ho B _ i _ 1 16 Try.underlying33 hi hz hsz hby rfl (by decide) v l.length (l.map Value.string) hs (World.ownsRow.alloc hown _) ⟨w.heap.size, 0, none⟩ 1 1 [.string c] hx rfl (fun j u hj => ?_) (fun u hu => ?_) (by simp only [maxLen]; omega) (by omega) (by simp; omega) fun v' w' h1 h2 _ => h v' w' ?_ (grown_trans (grown_alloc (World.grownBy.refl _ _) _) h2)
  · have hj0 : j = 0 := by
      have := (List.getElem?_eq_some_iff.1 hj).1
      simpa using this
    subst hj0
    rw [Addr.add_lit, (Whole.new w _ #[.string c]).cell]
    exact hj
  · have : u = .string c := by simpa using hu
    rw [this]
    rfl
  · unfold OwnS
    rw [List.length_append, List.map_append]
    exact h1

theorem own_ge {w : World} {B n size : Nat} {e : TypeId} {v : Value} {xs : List Value} (h : w.ownsRow B e size v n xs) {x : Nat} (hx : v.ownBlock = some x) : B ≤ x := by
  rcases row_shape h with ⟨rfl, _⟩ | ⟨g, cap, rfl, hb, _, _⟩
  · cases hx
  · have : g = x := by simpa [Value.ownBlock] using hx
    omega

def rolesOf (ms : List (ByteArray × ByteArray)) (who : ByteArray) : List ByteArray := (ms.filter fun p => decide (p.2.toList = who.toList)).map Prod.fst
theorem rolesOf_next {ms : List (ByteArray × ByteArray)} {k : Nat} {p : ByteArray × ByteArray} (who : ByteArray) (hp : ms[k]? = some p) :
    rolesOf (ms.take (k + 1)) who = rolesOf (ms.take k) who ++ (if p.2.toList = who.toList then [p.1] else []) := by
  have hk : k < ms.length := (List.getElem?_eq_some_iff.1 hp).1
  rw [List.take_succ_eq_append_getElem hk, (List.getElem?_eq_some_iff.1 hp).2]
  unfold rolesOf
  rw [List.filter_append, List.map_append]
  congr 1
  by_cases h : p.2.toList = who.toList <;> simp [h]
theorem rolesOf_le (ms : List (ByteArray × ByteArray)) (who : ByteArray) : (rolesOf ms who).length ≤ ms.length := by
  unfold rolesOf
  rw [List.length_map]
  exact List.length_filter_le _ _

set_option maxRecDepth 100000 in
set_option maxHeartbeats 1000000 in
theorem roles_calls (w : World) (t B : Nat) (mv : Value) (ms : List (ByteArray × ByteArray)) (who : ByteArray) (ht : w.cell? ⟨t, 1, none⟩ = some mv) (hm : OwnM w B mv ms) (hlen : ms.length ≤ 1000) :
    Calls Try.prog 46 #[.pointer (some ⟨t, 0, none⟩), .string who] w fun e w' => ∃ v, e = .returned v ∧ OwnS w' w.heap.size v (rolesOf ms who) ∧ Below w.heap.size w w' := by
  obtain ⟨N, hN⟩ : ∃ N, ms.length = N := ⟨_, rfl⟩
  have hshape : ∃ a c, mv = .slice a N c := by
    rcases row_shape hm with ⟨rfl, hn⟩ | ⟨g, cap, rfl, _, _, _⟩
    · exact ⟨none, 0, by rw [← hN, hn]⟩
    · exact ⟨_, cap, by rw [hN]⟩
  obtain ⟨ap, cp, rfl⟩ := hshape
  have HN := Lib.hid hN
  have HM := Lib.hid hm
  rw [hN] at hlen
  clear hN hm
  go_enter Try.func46, Try.ntmps46
  go_wp2
  go_loopw [5, 13] (fun v i wr => ∃ k : Nat, k ≤ N ∧ i = .int .i64 k ∧ OwnS wr w.heap.size v (rolesOf (ms.take k) who) ∧ Below w.heap.size w wr) (fun _ i _ => N - (intOf i).toNat)
  case atStart => exact ⟨0, by omega, rfl, by simpa [rolesOf] using OwnS.nil w _, Below.refl _ _⟩
  case round =>
    obtain ⟨k, hk, rfl, hO, hBr⟩ := hrel
    by_cases hlt : k < N
    · obtain ⟨⟨role, mem⟩, hp⟩ : ∃ p, ms[k]? = some p := ⟨_, List.getElem?_eq_getElem (by rw [HN.out]; exact hlt)⟩
      obtain ⟨g, cap, he, hg, h0, h1⟩ := HM.out.two hp
      have he : ap = some ⟨g, 0, none⟩ := by injection he
      subst he
      have c0 : wr.cell? ⟨g, k * 2, none⟩ = some (.string role) := (hBr.cell (p := ⟨g, k * 2, none⟩) hg).trans h0
      have c1 : wr.cell? ⟨g, k * 2 + 1, none⟩ = some (.string mem) := (hBr.cell (p := ⟨g, k * 2 + 1, none⟩) hg).trans h1
      have i1 : (k : Int) < (N : Int) := by omega
      have i2 : 0 ≤ (k : Int) ∧ (k : Int) < (N : Int) := by omega
      have b2 : IntKind.i64.wrap ((k : Int) + 1) = (k : Int) + 1 := IntWalk.i64_in _ (by omega)
      have hnx := rolesOf_next who hp
      have hle := rolesOf_le (ms.take k) who
      have hlk : (ms.take k).length ≤ k := by simp; omega
      have HP := Lib.hid (And.intro hnx (And.intro hle hlk))
      clear hnx hle hlk hp
      have HO := Lib.hid (World.ownsRow.alloc hO (.cells #[.string role, .string mem] 106))
      have HG := Lib.hid (fun (x : Nat) hx => own_ge (x := x) hO hx)
      go_wp2_with (refine wpList_append_str (w := wr.alloc (.cells #[.string role, .string mem] 106)) (by rfl) _ _ (by rfl) w.heap.size (wr.heap.size + 1) _ _ (by rfl) HO.out role (by rfl) (by simp) (by have := HP.out; omega) (by have := hBr.size; simp; omega) ?_; intro v1 w1 hO1 hG1)
      · have hmw : mem.toList = who.toList := by simpa using (by assumption : (mem.toList == who.toList) = true)
        go_roundw
        case rel => exact ⟨k + 1, by omega, by go_num, by rw [HP.out.1, if_pos hmw]; exact hO1, (hBr.alloc hBr.size _).grown hG1 (by have := hBr.size; simp; omega) (fun j hj => HG.out j hj)⟩
        case measure => simp [intOf]; omega
      · have hmw : ¬ mem.toList = who.toList := by first | (simpa using (by assumption : ¬ (mem.toList == who.toList) = true)) | (simpa using (by assumption : (mem.toList == who.toList) = false)) | assumption
        go_roundw
        case rel => exact ⟨k + 1, by omega, by go_num, by rw [HP.out.1, if_neg hmw, List.append_nil]; exact World.ownsRow.alloc hO _, hBr.alloc hBr.size _⟩
        case measure => simp [intOf]; omega
    · obtain rfl : k = N := by omega
      rw [← HN.out, List.take_length] at hO
      have i1 : ¬ (k : Int) < (k : Int) := by omega
      go_wp2
      go_ret
      exact ⟨_, rfl, hO, hBr⟩

end Go.Proofs.Ytglcingpolpkdaa
