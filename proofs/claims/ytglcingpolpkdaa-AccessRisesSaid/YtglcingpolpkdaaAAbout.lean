/- access.About: what it computes. -/
import Derived.Test.YtglcingpolpkdaaAMay
import Derived.Deep.QuietTactic
import Derived.BigQuiet
import Derived.Deep.DeepCutAuto
import Derived.Deep.CutBlock
namespace Go.Proofs.Ytglcingpolpkdaa
open Go.RowKit

/-- Texts lie in a slice. -/
def TextsAt (w : World) (v : Value) (l : List ByteArray) : Prop :=
  (∃ a c, v = .slice a 0 c ∧ l = []) ∨ ∃ b off c, v = .slice (some ⟨b, off, none⟩) l.length c ∧ b < w.heap.size ∧ ∀ j, j < l.length → w.cell? ⟨b, off + j, none⟩ = some (.string (l.getD j ByteArray.empty))
theorem TextsAt.low {w w' : World} {v : Value} {l : List ByteArray} (h : TextsAt w v l) (hb : Below w.heap.size w w') : TextsAt w' v l := by
  rcases h with h | ⟨b, off, c, rfl, hl, hc⟩
  · exact .inl h
  · exact .inr ⟨b, off, c, rfl, Nat.lt_of_lt_of_le hl hb.size, fun j hj => (hb.cell (p := ⟨b, off + j, none⟩) hl).trans (hc j hj)⟩

theorem contains_calls (w : World) (v : Value) (l : List ByteArray) (x : ByteArray) (h : TextsAt w v l) (hl : l.length ≤ 9223372036854775807) :
    Calls Try.prog 49 #[v, .string x] w fun e w' => e = .returned (.bool (Lib.containsS l x)) ∧ w' = w := by
  rcases h with ⟨a, c, rfl, rfl⟩ | ⟨b, off, c, rfl, _, hc⟩
  · exact slices_Contains_string_empty a c x w
  · have h := slices_Contains_string b off l.length c l x w (Nat.le_refl _) hl hc
    rwa [List.take_length] at h

theorem eqB_dec (a b : ByteArray) : eqB a b = decide (a.toList = b.toList) := by
  unfold eqB
  rw [Bool.eq_iff_iff]
  simp

def aboutB (r : Rl) (roles : List ByteArray) (who : ByteArray) (what : Int) (key : ByteArray) : Bool :=
  ((eqB r.who who || (eqB r.who tStar || (hasP r.who tAt && Lib.containsS roles (behind r.who tAt)))) && (decide (r.what = what) || decide (r.what = 0))) && (eqB r.key key || (hasS r.key tStar && hasP key (front r.key tStar)))

noncomputable def aboutEnd : Code := subCode [1, 1, 1, 1, 1, 0] ((Try.f17.body).getD .skip)
noncomputable def aboutRest : Code := subCode [1, 1, 1, 1, 0] ((Try.f17.body).getD .skip)

set_option maxRecDepth 100000 in
set_option maxHeartbeats 1000000 in
theorem about_end {z0 z1 z2 z6 z7 z8 z9 z10 z11 z12 z17 z18 z19 z20 z21 z22 z23 z24 z25 z26 z27 z28 z29 z30 z31 z32 z33 z34 z35 z36 z37 z38 z39 z40 z41 z42 z43 z44 z45 z46 z47 z48 z49 z50 z51 z52 z53 z54 z55 z56 z57 z58 z59 z60 z61 z62 z63 z64 z65 z66 z67 z68 z69 z70 z71 z72 : Value} (w : World) (B : Nat) (rkey key fr : ByteArray) (what : Int) (q a b : Bool) (r2 : w.cell? ⟨B, 2, none⟩ = some (.string rkey)) {Q : Exit → Act → World → Prop}
    (hq : ∀ (x y14 y55 y56 y57 y58 y59 y60 y61 y62 y63 y64 y65 y66 y67 y68 y69 y70 y71 y72 : Value), x = .bool ((a && b) && (decide (rkey.toList = key.toList) || (q && hasP key fr))) → Q .normal ⟨(z0 :: z1 :: z2 :: .int .i64 what :: .string key :: .pointer (some ⟨B, 0, none⟩) :: z6 :: z7 :: z8 :: z9 :: x :: z11 :: z12 :: .string fr :: y14 :: .bool a :: .bool b :: z17 :: z18 :: z19 :: z20 :: z21 :: z22 :: z23 :: z24 :: z25 :: z26 :: z27 :: z28 :: z29 :: z30 :: z31 :: z32 :: z33 :: z34 :: z35 :: z36 :: z37 :: z38 :: z39 :: z40 :: z41 :: z42 :: z43 :: z44 :: z45 :: z46 :: z47 :: z48 :: z49 :: z50 :: z51 :: z52 :: z53 :: z54 :: y55 :: y56 :: y57 :: y58 :: y59 :: y60 :: y61 :: y62 :: y63 :: y64 :: y65 :: y66 :: y67 :: y68 :: y69 :: y70 :: y71 :: y72 :: []).toArray, []⟩ w) : Code.wp Try.prog aboutEnd Q ⟨(z0 :: z1 :: z2 :: .int .i64 what :: .string key :: .pointer (some ⟨B, 0, none⟩) :: z6 :: z7 :: z8 :: z9 :: z10 :: z11 :: z12 :: .string fr :: .bool q :: .bool a :: .bool b :: z17 :: z18 :: z19 :: z20 :: z21 :: z22 :: z23 :: z24 :: z25 :: z26 :: z27 :: z28 :: z29 :: z30 :: z31 :: z32 :: z33 :: z34 :: z35 :: z36 :: z37 :: z38 :: z39 :: z40 :: z41 :: z42 :: z43 :: z44 :: z45 :: z46 :: z47 :: z48 :: z49 :: z50 :: z51 :: z52 :: z53 :: z54 :: z55 :: z56 :: z57 :: z58 :: z59 :: z60 :: z61 :: z62 :: z63 :: z64 :: z65 :: z66 :: z67 :: z68 :: z69 :: z70 :: z71 :: z72 :: []).toArray, []⟩ w := by
  conv => arg 2; whnf
  have hQ := Lib.hid hq
  clear hq
  cases a <;> cases b <;> go_wp2_with (go_at_call 50; refine (strings_HasPrefix _ _ _).mono ?_; rintro e w' ⟨rfl, hw⟩; rw [hw]; clear hw)
  all_goals
    refine hQ.out _ _ _ _ _ _ _ _ _ _ _ _ _ _ _ _ _ _ _ _ ?_
    simp [hasP, *]

set_option maxRecDepth 100000 in
set_option maxHeartbeats 1000000 in
theorem about_rest {z0 z1 z2 z6 z7 z8 z9 z10 z11 z12 z15 z16 z17 z18 z19 z20 z21 z22 z23 z24 z25 z26 z27 z28 z29 z30 z31 z32 z33 z34 z35 z36 z37 z38 z39 z40 z41 z42 z43 z44 z45 z46 z47 z48 z49 z50 z51 z52 z53 z54 z55 z56 z57 z58 z59 z60 z61 z62 z63 z64 z65 z66 z67 z68 z69 z70 z71 z72 : Value} (w : World) (B : Nat) (rwhat : Int) (key fr : ByteArray) (what : Int) (q : Bool) (r1 : w.cell? ⟨B, 1, none⟩ = some (.int .i64 rwhat)) {Q : Exit → Act → World → Prop}
    (hq : ∀ (x y46 y47 y48 y49 y50 y51 y52 y53 y54 : Value), x = .bool (decide (rwhat = what) || decide (rwhat = 0)) → Q .normal ⟨(z0 :: z1 :: z2 :: .int .i64 what :: .string key :: .pointer (some ⟨B, 0, none⟩) :: z6 :: z7 :: z8 :: z9 :: z10 :: z11 :: z12 :: .string fr :: .bool q :: z15 :: x :: z17 :: z18 :: z19 :: z20 :: z21 :: z22 :: z23 :: z24 :: z25 :: z26 :: z27 :: z28 :: z29 :: z30 :: z31 :: z32 :: z33 :: z34 :: z35 :: z36 :: z37 :: z38 :: z39 :: z40 :: z41 :: z42 :: z43 :: z44 :: z45 :: y46 :: y47 :: y48 :: y49 :: y50 :: y51 :: y52 :: y53 :: y54 :: z55 :: z56 :: z57 :: z58 :: z59 :: z60 :: z61 :: z62 :: z63 :: z64 :: z65 :: z66 :: z67 :: z68 :: z69 :: z70 :: z71 :: z72 :: []).toArray, []⟩ w) : Code.wp Try.prog aboutRest Q ⟨(z0 :: z1 :: z2 :: .int .i64 what :: .string key :: .pointer (some ⟨B, 0, none⟩) :: z6 :: z7 :: z8 :: z9 :: z10 :: z11 :: z12 :: .string fr :: .bool q :: z15 :: z16 :: z17 :: z18 :: z19 :: z20 :: z21 :: z22 :: z23 :: z24 :: z25 :: z26 :: z27 :: z28 :: z29 :: z30 :: z31 :: z32 :: z33 :: z34 :: z35 :: z36 :: z37 :: z38 :: z39 :: z40 :: z41 :: z42 :: z43 :: z44 :: z45 :: z46 :: z47 :: z48 :: z49 :: z50 :: z51 :: z52 :: z53 :: z54 :: z55 :: z56 :: z57 :: z58 :: z59 :: z60 :: z61 :: z62 :: z63 :: z64 :: z65 :: z66 :: z67 :: z68 :: z69 :: z70 :: z71 :: z72 :: []).toArray, []⟩ w := by
  conv => arg 2; whnf
  have hQ := Lib.hid hq
  clear hq
  go_wp2
  all_goals
    refine hQ.out _ _ _ _ _ _ _ _ _ _ ?_
    show Value.bool _ = Value.bool _
    rw [Value.bool.injEq, Bool.eq_iff_iff]
    simp [*]

set_option maxRecDepth 100000 in
set_option maxHeartbeats 2000000 in
theorem about_calls (w : World) (rwho rkey : ByteArray) (rwhat : Int) (deny : Bool) (v : Value) (roles : List ByteArray) (who : ByteArray) (what : Int) (key : ByteArray) (hv : TextsAt w v roles) (hl : roles.length ≤ 9223372036854775807) (hsz : rkey.size ≤ 9223372036854775807) :
    Calls Try.prog 17 #[.agg #[.string rwho, .int .i64 rwhat, .string rkey, .bool deny], v, .string who, .int .i64 what, .string key] w
    fun e w' => e = .returned (.bool (aboutB ⟨rwho, rwhat, rkey, deny⟩ roles who what key)) ∧ Below w.heap.size w w' := by
  have hR : RuleAt w (w.alloc (.cells #[.string rwho, .int .i64 rwhat, .string rkey, .bool deny] 29)) w.heap.size rwho rwhat rkey deny :=
    ⟨Whole.new w 29 #[.string rwho, .int .i64 rwhat, .string rkey, .bool deny], (Below.refl _ _).alloc (Nat.le_refl _) _⟩
  have hv2 := hv.low hR.below
  have c1 := Lib.hid (fun w : World => strings_CutPrefix rwho tAt w)
  have c2 := Lib.hid (fun w : World => strings_CutSuffix rkey tStar w hsz)
  obtain ⟨p, hp⟩ : ∃ p, hasP rwho tAt = p := ⟨_, rfl⟩
  obtain ⟨q, hq⟩ : ∃ q, hasS rkey tStar = q := ⟨_, rfl⟩
  obtain ⟨role, hrole⟩ : ∃ s, behind rwho tAt = s := ⟨_, rfl⟩
  obtain ⟨fr, hfr⟩ : ∃ s, front rkey tStar = s := ⟨_, rfl⟩
  have C1 := Lib.hid (fun w : World => (show Calls Try.prog 47 #[.string rwho, .string ⟨#[64]⟩] w fun e w' => e = .returned (.tuple #[.string role, .bool p]) ∧ w' = w from by rw [← hp, ← hrole]; exact c1.out w))
  have C2 := Lib.hid (fun w : World => (show Calls Try.prog 48 #[.string rkey, .string ⟨#[42]⟩] w fun e w' => e = .returned (.tuple #[.string fr, .bool q]) ∧ w' = w from by rw [← hq, ← hfr]; exact c2.out w))
  have hm : aboutB ⟨rwho, rwhat, rkey, deny⟩ roles who what key = (((eqB rwho who || (eqB rwho tStar || (p && Lib.containsS roles role))) && (decide (rwhat = what) || decide (rwhat = 0))) && (eqB rkey key || (q && hasP key fr))) := by
    unfold aboutB
    rw [← hp, ← hq, ← hrole, ← hfr]
  rw [hm, eqB_star, eqB_dec, eqB_dec]
  have HV := Lib.hid hv2
  obtain ⟨r0, r1, r2⟩ := hR.three
  have HB := Lib.hid hR.below
  clear c1 c2 hm hp hq hrole hfr hv hv2 hR
  go_enter Try.func17, Try.ntmps17
  go_upto_region 1 with (refine wpList_box_cells (by rfl) 29 _ (by rfl) #[.string rwho, .int .i64 rwhat, .string rkey, .bool deny] (by rfl) ?_)
  generalize (w.alloc (.cells #[.string rwho, .int .i64 rwhat, .string rkey, .bool deny] 29)) = w0 at *
  go_upto_region 4 with (first
    | (go_at_call 47; refine (C1.out _).mono ?_; rintro e w' ⟨rfl, hw⟩; rw [hw]; clear hw)
    | (go_at_call 48; refine (C2.out _).mono ?_; rintro e w' ⟨rfl, hw⟩; rw [hw]; clear hw)
    | (go_at_call 49; refine (contains_calls _ _ _ _ HV.out hl).mono ?_; rintro e w' ⟨rfl, hw⟩; rw [hw]; clear hw))
  all_goals
    refine about_rest w0 w.heap.size rwhat key fr what q r1 ?_
    intro x _ _ _ _ _ _ _ _ _ hx
    obtain ⟨b, hb⟩ : ∃ b, (decide (rwhat = what) || decide (rwhat = 0)) = b := ⟨_, rfl⟩
    rw [hb] at hx
    have hbh := Lib.hid hb
    clear hb
    subst hx
    go_upto_region 5 with fail
    refine about_end w0 w.heap.size rkey key fr what q _ b r2 ?_
    intro x _ _ _ _ _ _ _ _ _ _ _ _ _ _ _ _ _ _ _ hx
    go_wp2
    go_ret
    refine ⟨?_, HB.out⟩
    clear C1 C2 HV HB
    show Ending.returned x = Ending.returned (.bool _)
    rw [hx, ← hbh.out, Ending.returned.injEq, Value.bool.injEq, Bool.eq_iff_iff]
    clear hx
    simp [*]

end Go.Proofs.Ytglcingpolpkdaa
