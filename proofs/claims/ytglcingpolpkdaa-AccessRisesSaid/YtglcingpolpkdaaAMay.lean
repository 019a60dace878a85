/- access.may and access.About: what they compute. -/
import Derived.Test.YtglcingpolpkdaaAName
namespace Go.Proofs.Ytglcingpolpkdaa
open Go.RowKit

/-- A rule. -/
structure Rl where
  who : ByteArray
  what : Int
  key : ByteArray
  deny : Bool
def Rl.cells (r : Rl) : List Value := [.string r.who, .int .i64 r.what, .string r.key, .bool r.deny]
def Rl.val (r : Rl) : Value := .agg #[.string r.who, .int .i64 r.what, .string r.key, .bool r.deny]
/-- Are two texts the same? -/
def eqB (a b : ByteArray) : Bool := a.toList == b.toList
def tStar : ByteArray := ⟨#[42]⟩
def tAt : ByteArray := ⟨#[64]⟩
def behind (s p : ByteArray) : ByteArray := ⟨(Lib.trimPrefix s.data.toList p.data.toList).toArray⟩
def front (s p : ByteArray) : ByteArray := ⟨(Lib.trimSuffix s.data.toList p.data.toList).toArray⟩
def hasP (s p : ByteArray) : Bool := Lib.hasPrefix s.data.toList p.data.toList
def hasS (s p : ByteArray) : Bool := Lib.hasSuffix s.data.toList p.data.toList
def mayB (r : Rl) : Bool :=
  (eqB r.who tStar || (nameB r.who || (hasP r.who tAt && nameB (behind r.who tAt)))) && ((nameB r.key || (hasS r.key tStar && decide (r.key.size ≤ 64) && lettersB (front r.key tStar))) && (decide (0 ≤ r.what) && decide (r.what ≤ 7)))

/-- A rule lies in block B. -/
structure RuleAt (W w : World) (B : Nat) (who : ByteArray) (what : Int) (key : ByteArray) (deny : Bool) : Prop where
  cells : Whole w B 29 [.string who, .int .i64 what, .string key, .bool deny]
  below : Below W.heap.size W w
theorem RuleAt.on {W w w' : World} {B : Nat} {who key : ByteArray} {what : Int} {deny : Bool} (h : RuleAt W w B who what key deny) (hb : Below w.heap.size w w') : RuleAt W w' B who what key deny :=
  ⟨h.cells.below hb h.cells.lt, h.below.trans (hb.mono h.below.size)⟩
theorem RuleAt.three {W w : World} {B : Nat} {who key : ByteArray} {what : Int} {deny : Bool} (h : RuleAt W w B who what key deny) :
    w.cell? ⟨B, 0, none⟩ = some (.string who) ∧ w.cell? ⟨B, 1, none⟩ = some (.int .i64 what) ∧ w.cell? ⟨B, 2, none⟩ = some (.string key) := ⟨h.cells.cell 0, h.cells.cell 1, h.cells.cell 2⟩

theorem front_size (s p : ByteArray) (hs : s.size ≤ 64) : (front s p).size ≤ 4611686018427387904 := by
  have h1 : (front s p).size ≤ s.size := by
    unfold front Lib.trimSuffix
    split
    · show (List.take _ _).toArray.size ≤ s.data.size
      simp
    · show s.data.toList.toArray.size ≤ s.data.size
      simp
  omega

theorem star_list : tStar.toList = [42] := by kernel_rfl
theorem eqB_star (s : ByteArray) : eqB s tStar = decide (s.toList = [42]) := by
  unfold eqB
  rw [star_list, Bool.eq_iff_iff]
  simp

set_option maxRecDepth 100000 in
set_option maxHeartbeats 4000000 in
theorem may_calls (w : World) (who key : ByteArray) (what : Int) (deny : Bool) (hsz : key.size ≤ 9223372036854775807) : Calls Try.prog 44 #[.agg #[.string who, .int .i64 what, .string key, .bool deny]] w
    fun e w' => e = .returned (.bool (mayB ⟨who, what, key, deny⟩)) ∧ Below w.heap.size w w' := by
  have hR : RuleAt w (w.alloc (.cells #[.string who, .int .i64 what, .string key, .bool deny] 29)) w.heap.size who what key deny :=
    ⟨Whole.new w 29 #[.string who, .int .i64 what, .string key, .bool deny], (Below.refl _ _).alloc (Nat.le_refl _) _⟩
  have c1 := Lib.hid (fun w : World => strings_CutPrefix who tAt w)
  have c2 := Lib.hid (fun w : World => strings_CutSuffix key tStar w hsz)
  obtain ⟨p, hp⟩ : ∃ p, hasP who tAt = p := ⟨_, rfl⟩
  obtain ⟨q, hq⟩ : ∃ q, hasS key tStar = q := ⟨_, rfl⟩
  obtain ⟨role, hrole⟩ : ∃ s, behind who tAt = s := ⟨_, rfl⟩
  obtain ⟨fr, hfr⟩ : ∃ s, front key tStar = s := ⟨_, rfl⟩
  have hfs : key.size ≤ 64 → fr.size ≤ 4611686018427387904 := fun h => by rw [← hfr]; exact front_size _ _ h
  have C1 := Lib.hid (fun w : World => (show Calls Try.prog 47 #[.string who, .string ⟨#[64]⟩] w fun e w' => e = .returned (.tuple #[.string role, .bool p]) ∧ w' = w from by rw [← hp, ← hrole]; exact c1.out w))
  have C2 := Lib.hid (fun w : World => (show Calls Try.prog 48 #[.string key, .string ⟨#[42]⟩] w fun e w' => e = .returned (.tuple #[.string fr, .bool q]) ∧ w' = w from by rw [← hq, ← hfr]; exact c2.out w))
  have hm : mayB ⟨who, what, key, deny⟩ = ((eqB who tStar || (nameB who || (p && nameB role))) && ((nameB key || (q && decide (key.size ≤ 64) && lettersB fr)) && (decide (0 ≤ what) && decide (what ≤ 7)))) := by
    unfold mayB
    rw [← hp, ← hq, ← hrole, ← hfr]
  rw [hm, eqB_star]
  have HF := Lib.hid hfs
  clear c1 c2 hm hp hq hrole hfr hfs
  obtain ⟨r0, r1, r2⟩ := hR.three
  go_enter Try.func44, Try.ntmps44
  go_wp2_with (first
    | (refine wpList_box_cells (by rfl) 29 _ (by rfl) #[.string who, .int .i64 what, .string key, .bool deny] (by rfl) ?_; generalize (w.alloc (.cells #[.string who, .int .i64 what, .string key, .bool deny] 29)) = w0 at *)
    | (go_at_call 47; refine (C1.out _).mono ?_; rintro e w' ⟨rfl, rfl⟩)
    | (go_at_call 48; refine (C2.out _).mono ?_; rintro e w' ⟨rfl, rfl⟩)
    | (go_at_call 43; refine (name_calls _ _).mono ?_; rintro e w1 ⟨rfl, hB1⟩; have hR1 := RuleAt.on (by assumption) hB1; obtain ⟨r0, r1, r2⟩ := hR1.three)
    | (go_at_call 84; refine (letters_calls _ _ (HF.out (by omega))).mono ?_; rintro e w1 ⟨rfl, hB1⟩; have hR1 := RuleAt.on (by assumption) hB1; obtain ⟨r0, r1, r2⟩ := hR1.three))
  all_goals
    go_ret
    refine ⟨?_, RuleAt.below (by assumption)⟩
    show Ending.returned (.bool _) = Ending.returned (.bool _)
    clear C1 C2 HF
    first
      | (simp [*]; done)
      | (simp [*]; omega)

end Go.Proofs.Ytglcingpolpkdaa
