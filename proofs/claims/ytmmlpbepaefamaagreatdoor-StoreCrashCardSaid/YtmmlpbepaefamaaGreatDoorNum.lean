/- Numbers without a sign as bit vectors: what each operation of the language makes of them. -/
import Derived.WalkKit
import Derived.WalkSpells
import Derived.WalkLawsBesides
namespace Go.Proofs.YtmmlpbepaefamaaGreatDoor
open Go.RowKit

/-- A number of 8 bits without a sign. -/
def vu8 (x : BitVec 8) : Value := .int .u8 (x.toNat : Int)
theorem vu8_def (x : BitVec 8) : vu8 x = .int .u8 (x.toNat : Int) := rfl
theorem wrap_u8_of (n : Int) : IntKind.u8.wrap n = ((BitVec.ofInt 8 n).toNat : Int) := by
  simp [IntKind.wrap, IntKind.bits, IntKind.signed]
  omega
theorem vu8_inj {x y : BitVec 8} (h : vu8 x = vu8 y) : x = y := by
  unfold vu8 at h
  injection h with _ h
  exact BitVec.eq_of_toNat_eq (by omega)
theorem lit_u8 (n : Int) (h0 : 0 ≤ n) (h1 : n < 256) : Value.int .u8 n = vu8 (BitVec.ofInt 8 n) := by
  unfold vu8
  congr 1
  rw [BitVec.toNat_ofInt]
  omega
@[go_sem] theorem wrapped_u8 (n : Int) : Value.int .u8 (IntKind.u8.wrap n) = vu8 (BitVec.ofInt 8 n) := by rw [wrap_u8_of]; rfl
@[go_sem ↓] theorem cells_vu8 (x : BitVec 8) : (vu8 x).cells = #[vu8 x] := rfl
@[go_sem] theorem cells_match_vu8 (x : BitVec 8) : Value.cells.match_1 (fun _ => Array Value) (vu8 x) (fun cs => cs) (fun v => #[v]) = #[vu8 x] := rfl
@[go_sem] theorem one_vu8 (x : BitVec 8) : (vu8 x).oneCell' = true := rfl

/-- A number of 32 bits without a sign. -/
def vu32 (x : BitVec 32) : Value := .int .u32 (x.toNat : Int)
theorem vu32_def (x : BitVec 32) : vu32 x = .int .u32 (x.toNat : Int) := rfl
theorem wrap_u32_of (n : Int) : IntKind.u32.wrap n = ((BitVec.ofInt 32 n).toNat : Int) := by
  simp [IntKind.wrap, IntKind.bits, IntKind.signed]
  omega
theorem vu32_inj {x y : BitVec 32} (h : vu32 x = vu32 y) : x = y := by
  unfold vu32 at h
  injection h with _ h
  exact BitVec.eq_of_toNat_eq (by omega)
theorem lit_u32 (n : Int) (h0 : 0 ≤ n) (h1 : n < 4294967296) : Value.int .u32 n = vu32 (BitVec.ofInt 32 n) := by
  unfold vu32
  congr 1
  rw [BitVec.toNat_ofInt]
  omega
@[go_sem] theorem wrapped_u32 (n : Int) : Value.int .u32 (IntKind.u32.wrap n) = vu32 (BitVec.ofInt 32 n) := by rw [wrap_u32_of]; rfl
@[go_sem ↓] theorem cells_vu32 (x : BitVec 32) : (vu32 x).cells = #[vu32 x] := rfl
@[go_sem] theorem cells_match_vu32 (x : BitVec 32) : Value.cells.match_1 (fun _ => Array Value) (vu32 x) (fun cs => cs) (fun v => #[v]) = #[vu32 x] := rfl
@[go_sem] theorem one_vu32 (x : BitVec 32) : (vu32 x).oneCell' = true := rfl

/-- A number of 64 bits without a sign. -/
def vu64 (x : BitVec 64) : Value := .int .u64 (x.toNat : Int)
theorem vu64_def (x : BitVec 64) : vu64 x = .int .u64 (x.toNat : Int) := rfl
theorem wrap_u64_of (n : Int) : IntKind.u64.wrap n = ((BitVec.ofInt 64 n).toNat : Int) := by
  simp [IntKind.wrap, IntKind.bits, IntKind.signed]
  omega
theorem vu64_inj {x y : BitVec 64} (h : vu64 x = vu64 y) : x = y := by
  unfold vu64 at h
  injection h with _ h
  exact BitVec.eq_of_toNat_eq (by omega)
theorem lit_u64 (n : Int) (h0 : 0 ≤ n) (h1 : n < 18446744073709551616) : Value.int .u64 n = vu64 (BitVec.ofInt 64 n) := by
  unfold vu64
  congr 1
  rw [BitVec.toNat_ofInt]
  omega
@[go_sem] theorem wrapped_u64 (n : Int) : Value.int .u64 (IntKind.u64.wrap n) = vu64 (BitVec.ofInt 64 n) := by rw [wrap_u64_of]; rfl
@[go_sem ↓] theorem cells_vu64 (x : BitVec 64) : (vu64 x).cells = #[vu64 x] := rfl
@[go_sem] theorem cells_match_vu64 (x : BitVec 64) : Value.cells.match_1 (fun _ => Array Value) (vu64 x) (fun cs => cs) (fun v => #[v]) = #[vu64 x] := rfl
@[go_sem] theorem one_vu64 (x : BitVec 64) : (vu64 x).oneCell' = true := rfl

section
variable (op : BinOp) (t : TypeId) (x y : Operand) (v : Value) (a b : BitVec 8) (i : Int)
@[go_sem] theorem eqGuard_at_vu8 : eqGuard op t x y (vu8 a) v = pure () := by cases op <;> rfl
theorem ofInt_toNat_u8 (a : BitVec 8) : BitVec.ofInt 8 (a.toNat : Int) = a := by simp
theorem arith_add_u8 (p q : Int) : Op.intArith .add .u8 p q = pure (vu8 (BitVec.ofInt 8 p + BitVec.ofInt 8 q)) := by
  simp only [Op.intArith]
  rw [wrapped_u8]
  congr 2
  apply BitVec.eq_of_toInt_eq
  simp
@[go_sem] theorem binOp_add_vu8 : binOp .add t (vu8 a) (vu8 b) = pure (vu8 (a + b)) := by
  show Op.intArith .add .u8 _ _ = _
  rw [arith_add_u8, ofInt_toNat_u8, ofInt_toNat_u8]
@[go_sem] theorem binOp_add_vu8_lit : binOp .add t (vu8 a) (.int .u8 i) = pure (vu8 (a + BitVec.ofInt 8 i)) := by
  show Op.intArith .add .u8 _ _ = _
  rw [arith_add_u8, ofInt_toNat_u8]
@[go_sem] theorem binOp_add_lit_vu8 : binOp .add t (.int .u8 i) (vu8 a) = pure (vu8 (BitVec.ofInt 8 i + a)) := by
  show Op.intArith .add .u8 _ _ = _
  rw [arith_add_u8, ofInt_toNat_u8]
theorem arith_sub_u8 (p q : Int) : Op.intArith .sub .u8 p q = pure (vu8 (BitVec.ofInt 8 p - BitVec.ofInt 8 q)) := by
  simp only [Op.intArith]
  rw [wrapped_u8]
  congr 2
  apply BitVec.eq_of_toInt_eq
  simp
@[go_sem] theorem binOp_sub_vu8 : binOp .sub t (vu8 a) (vu8 b) = pure (vu8 (a - b)) := by
  show Op.intArith .sub .u8 _ _ = _
  rw [arith_sub_u8, ofInt_toNat_u8, ofInt_toNat_u8]
@[go_sem] theorem binOp_sub_vu8_lit : binOp .sub t (vu8 a) (.int .u8 i) = pure (vu8 (a - BitVec.ofInt 8 i)) := by
  show Op.intArith .sub .u8 _ _ = _
  rw [arith_sub_u8, ofInt_toNat_u8]
@[go_sem] theorem binOp_sub_lit_vu8 : binOp .sub t (.int .u8 i) (vu8 a) = pure (vu8 (BitVec.ofInt 8 i - a)) := by
  show Op.intArith .sub .u8 _ _ = _
  rw [arith_sub_u8, ofInt_toNat_u8]
theorem arith_mul_u8 (p q : Int) : Op.intArith .mul .u8 p q = pure (vu8 (BitVec.ofInt 8 p * BitVec.ofInt 8 q)) := by
  simp only [Op.intArith]
  rw [wrapped_u8]
  congr 2
  apply BitVec.eq_of_toInt_eq
  simp
@[go_sem] theorem binOp_mul_vu8 : binOp .mul t (vu8 a) (vu8 b) = pure (vu8 (a * b)) := by
  show Op.intArith .mul .u8 _ _ = _
  rw [arith_mul_u8, ofInt_toNat_u8, ofInt_toNat_u8]
@[go_sem] theorem binOp_mul_vu8_lit : binOp .mul t (vu8 a) (.int .u8 i) = pure (vu8 (a * BitVec.ofInt 8 i)) := by
  show Op.intArith .mul .u8 _ _ = _
  rw [arith_mul_u8, ofInt_toNat_u8]
@[go_sem] theorem binOp_mul_lit_vu8 : binOp .mul t (.int .u8 i) (vu8 a) = pure (vu8 (BitVec.ofInt 8 i * a)) := by
  show Op.intArith .mul .u8 _ _ = _
  rw [arith_mul_u8, ofInt_toNat_u8]
theorem bits_and_u8 (p q : Int) : Op.intBits .and .u8 p q = pure (vu8 (BitVec.ofInt 8 p &&& BitVec.ofInt 8 q)) := by
  show pure (Value.int .u8 (IntKind.u8.wrap ((BitVec.ofInt 8 p &&& BitVec.ofInt 8 q).toNat : Int))) = _
  rw [wrapped_u8, ofInt_toNat_u8]
@[go_sem] theorem binOp_and_vu8 : binOp .and t (vu8 a) (vu8 b) = pure (vu8 (a &&& b)) := by
  show Op.intBits .and .u8 _ _ = _
  rw [bits_and_u8, ofInt_toNat_u8, ofInt_toNat_u8]
@[go_sem] theorem binOp_and_vu8_lit : binOp .and t (vu8 a) (.int .u8 i) = pure (vu8 (a &&& BitVec.ofInt 8 i)) := by
  show Op.intBits .and .u8 _ _ = _
  rw [bits_and_u8, ofInt_toNat_u8]
@[go_sem] theorem binOp_and_lit_vu8 : binOp .and t (.int .u8 i) (vu8 a) = pure (vu8 (BitVec.ofInt 8 i &&& a)) := by
  show Op.intBits .and .u8 _ _ = _
  rw [bits_and_u8, ofInt_toNat_u8]
theorem bits_or_u8 (p q : Int) : Op.intBits .or .u8 p q = pure (vu8 (BitVec.ofInt 8 p ||| BitVec.ofInt 8 q)) := by
  show pure (Value.int .u8 (IntKind.u8.wrap ((BitVec.ofInt 8 p ||| BitVec.ofInt 8 q).toNat : Int))) = _
  rw [wrapped_u8, ofInt_toNat_u8]
@[go_sem] theorem binOp_or_vu8 : binOp .or t (vu8 a) (vu8 b) = pure (vu8 (a ||| b)) := by
  show Op.intBits .or .u8 _ _ = _
  rw [bits_or_u8, ofInt_toNat_u8, ofInt_toNat_u8]
@[go_sem] theorem binOp_or_vu8_lit : binOp .or t (vu8 a) (.int .u8 i) = pure (vu8 (a ||| BitVec.ofInt 8 i)) := by
  show Op.intBits .or .u8 _ _ = _
  rw [bits_or_u8, ofInt_toNat_u8]
@[go_sem] theorem binOp_or_lit_vu8 : binOp .or t (.int .u8 i) (vu8 a) = pure (vu8 (BitVec.ofInt 8 i ||| a)) := by
  show Op.intBits .or .u8 _ _ = _
  rw [bits_or_u8, ofInt_toNat_u8]
theorem bits_xor_u8 (p q : Int) : Op.intBits .xor .u8 p q = pure (vu8 (BitVec.ofInt 8 p ^^^ BitVec.ofInt 8 q)) := by
  show pure (Value.int .u8 (IntKind.u8.wrap ((BitVec.ofInt 8 p ^^^ BitVec.ofInt 8 q).toNat : Int))) = _
  rw [wrapped_u8, ofInt_toNat_u8]
@[go_sem] theorem binOp_xor_vu8 : binOp .xor t (vu8 a) (vu8 b) = pure (vu8 (a ^^^ b)) := by
  show Op.intBits .xor .u8 _ _ = _
  rw [bits_xor_u8, ofInt_toNat_u8, ofInt_toNat_u8]
@[go_sem] theorem binOp_xor_vu8_lit : binOp .xor t (vu8 a) (.int .u8 i) = pure (vu8 (a ^^^ BitVec.ofInt 8 i)) := by
  show Op.intBits .xor .u8 _ _ = _
  rw [bits_xor_u8, ofInt_toNat_u8]
@[go_sem] theorem binOp_xor_lit_vu8 : binOp .xor t (.int .u8 i) (vu8 a) = pure (vu8 (BitVec.ofInt 8 i ^^^ a)) := by
  show Op.intBits .xor .u8 _ _ = _
  rw [bits_xor_u8, ofInt_toNat_u8]
theorem shift_shl_u8 (yk : IntKind) (j : Nat) : Op.shift .shl .u8 (a.toNat : Int) yk (j : Int) = pure (vu8 (a <<< j)) := by
  simp only [Op.shift, show ¬ ((j : Int) < 0) by omega, if_false, Int.toNat_natCast]
  rw [wrapped_u8]
  congr 2
  apply BitVec.eq_of_toNat_eq
  show (BitVec.ofInt 8 (((a.toNat : Int)) * 2 ^ (min j 8))).toNat = _
  have e : ((a.toNat : Int)) * 2 ^ (min j 8) = ((a.toNat * 2 ^ (min j 8) : Nat) : Int) := by simp
  rw [e, BitVec.ofInt_natCast, BitVec.toNat_ofNat, BitVec.toNat_shiftLeft, Nat.shiftLeft_eq]
  rcases Nat.lt_or_ge j 8 with h | h
  · rw [Nat.min_eq_left (by omega)]
  · rw [Nat.min_eq_right h]
    obtain ⟨d, rfl⟩ : ∃ d, j = 8 + d := ⟨j - 8, by omega⟩
    have h1 : a.toNat * 2 ^ 8 % 2 ^ 8 = 0 := by simp
    have h2 : a.toNat * 2 ^ (8 + d) % 2 ^ 8 = 0 := by
      rw [Nat.pow_add, Nat.mul_left_comm]
      exact Nat.mul_mod_right _ _
    rw [h1, h2]
theorem shift_shr_u8 (yk : IntKind) (j : Nat) : Op.shift .shr .u8 (a.toNat : Int) yk (j : Int) = pure (vu8 (a >>> j)) := by
  simp only [Op.shift, show ¬ ((j : Int) < 0) by omega, if_false, Int.toNat_natCast]
  congr 1
  unfold vu8
  congr 1
  show ((a.toNat : Int)).fdiv (2 ^ (min j 8)) = _
  have e : ((2 : Int) ^ (min j 8)) = ((2 ^ (min j 8) : Nat) : Int) := by simp
  rw [e, BitVec.toNat_ushiftRight, Nat.shiftRight_eq_div_pow]
  rw [Int.fdiv_eq_ediv_of_nonneg _ (Int.natCast_nonneg _), ← Int.natCast_ediv]
  congr 1
  rcases Nat.lt_or_ge j 8 with h | h
  · rw [Nat.min_eq_left (by omega)]
  · rw [Nat.min_eq_right h]
    have hl := a.isLt
    rw [Nat.div_eq_of_lt hl, Nat.div_eq_of_lt (Nat.lt_of_lt_of_le hl (Nat.pow_le_pow_right (by decide) h))]
@[go_sem] theorem binOp_shl_vu8 (yk : IntKind) (j : Int) (h : 0 ≤ j) : binOp .shl t (vu8 a) (.int yk j) = pure (vu8 (a <<< j.toNat)) := by
  obtain ⟨j, rfl⟩ := Int.eq_ofNat_of_zero_le h
  exact shift_shl_u8 a yk j
@[go_sem] theorem binOp_shr_vu8 (yk : IntKind) (j : Int) (h : 0 ≤ j) : binOp .shr t (vu8 a) (.int yk j) = pure (vu8 (a >>> j.toNat)) := by
  obtain ⟨j, rfl⟩ := Int.eq_ofNat_of_zero_le h
  exact shift_shr_u8 a yk j
@[go_sem] theorem binOp_shl_vu8_v64 (c : BitVec 64) : binOp .shl t (vu8 a) (vu64 c) = pure (vu8 (a <<< c.toNat)) := shift_shl_u8 a .u64 c.toNat
@[go_sem] theorem binOp_shr_vu8_v64 (c : BitVec 64) : binOp .shr t (vu8 a) (vu64 c) = pure (vu8 (a >>> c.toNat)) := shift_shr_u8 a .u64 c.toNat
@[go_sem] theorem binOp_eql_vu8 : binOp .eql t (vu8 a) (vu8 b) = pure (.bool (a == b)) := by
  show pure (Value.bool (((a.toNat : Int)) == (b.toNat : Int))) = _
  congr 2
  rw [Bool.eq_iff_iff]
  simp [← BitVec.toNat_inj]
  omega
@[go_sem] theorem binOp_neq_vu8 : binOp .neq t (vu8 a) (vu8 b) = pure (.bool (a != b)) := by
  show pure (Value.bool (((a.toNat : Int)) != (b.toNat : Int))) = _
  congr 2
  rw [Bool.eq_iff_iff]
  simp [← BitVec.toNat_inj]
  omega
@[go_sem] theorem binOp_lss_vu8 : binOp .lss t (vu8 a) (vu8 b) = pure (.bool (decide (a.toNat < b.toNat))) := by
  show pure (Value.bool (decide (((a.toNat : Int)) < (b.toNat : Int)))) = _
  congr 2
  exact decide_eq_decide.2 (by omega)
@[go_sem] theorem binOp_eql_vu8_lit : binOp .eql t (vu8 a) (.int .u8 i) = pure (.bool ((a.toNat : Int) == i)) := rfl
@[go_sem] theorem binOp_neq_vu8_lit : binOp .neq t (vu8 a) (.int .u8 i) = pure (.bool ((a.toNat : Int) != i)) := rfl
@[go_sem] theorem binOp_lss_vu8_lit : binOp .lss t (vu8 a) (.int .u8 i) = pure (.bool (decide ((a.toNat : Int) < i))) := rfl
@[go_sem] theorem binOp_leq_vu8_lit : binOp .leq t (vu8 a) (.int .u8 i) = pure (.bool (decide ((a.toNat : Int) ≤ i))) := rfl
@[go_sem] theorem binOp_gtr_vu8_lit : binOp .gtr t (vu8 a) (.int .u8 i) = pure (.bool (decide ((a.toNat : Int) > i))) := rfl
@[go_sem] theorem binOp_geq_vu8_lit : binOp .geq t (vu8 a) (.int .u8 i) = pure (.bool (decide ((a.toNat : Int) ≥ i))) := rfl
@[go_sem] theorem unary_xor_vu8 : Op.unary .xor (vu8 a) = pure (vu8 (~~~a)) := by
  show Op.intBits .xor .u8 255 (a.toNat : Int) = _
  rw [bits_xor_u8, ofInt_toNat_u8]
  rw [show BitVec.ofInt 8 255 = BitVec.allOnes 8 from by decide, BitVec.allOnes_xor]
@[go_sem ↓] theorem asIntOf_vu8 : asIntOf (vu8 a) = pure (.u8, (a.toNat : Int)) := rfl
@[go_sem] theorem run_store_vu8 (P : Program) (w : World) (p : Addr) (m : Mode) : (store p (vu8 a) m).run P w = stored P w p (vu8 a) m := run_store P w p _ m rfl
end
@[go_sem] theorem convert_vu8_u8 {P : Program} (w : World) (src dst : TypeId) (a : BitVec 8) (hs : (P.underlying src).isSome = true) (hd : P.underlying dst = some (.int .u8)) :
    (convert src dst (vu8 a)).run P w = .ok (vu8 (a.setWidth 8)) w := by
  have e : P.intKind dst = .u8 := by simp [Program.intKind, hd]
  have h := run_convert_int (P := P) w src dst .u8 (a.toNat : Int) hs (by rw [e]; exact hd)
  rw [e, wrapped_u8] at h
  rw [show vu8 a = Value.int .u8 (a.toNat : Int) from rfl, h]
  congr 2
  all_goals (apply BitVec.eq_of_toNat_eq; simp)
@[go_sem] theorem convert_vu8_u32 {P : Program} (w : World) (src dst : TypeId) (a : BitVec 8) (hs : (P.underlying src).isSome = true) (hd : P.underlying dst = some (.int .u32)) :
    (convert src dst (vu8 a)).run P w = .ok (vu32 (a.setWidth 32)) w := by
  have e : P.intKind dst = .u32 := by simp [Program.intKind, hd]
  have h := run_convert_int (P := P) w src dst .u8 (a.toNat : Int) hs (by rw [e]; exact hd)
  rw [e, wrapped_u32] at h
  rw [show vu8 a = Value.int .u8 (a.toNat : Int) from rfl, h]
  congr 2
  all_goals (apply BitVec.eq_of_toNat_eq; simp)
@[go_sem] theorem convert_vu8_u64 {P : Program} (w : World) (src dst : TypeId) (a : BitVec 8) (hs : (P.underlying src).isSome = true) (hd : P.underlying dst = some (.int .u64)) :
    (convert src dst (vu8 a)).run P w = .ok (vu64 (a.setWidth 64)) w := by
  have e : P.intKind dst = .u64 := by simp [Program.intKind, hd]
  have h := run_convert_int (P := P) w src dst .u8 (a.toNat : Int) hs (by rw [e]; exact hd)
  rw [e, wrapped_u64] at h
  rw [show vu8 a = Value.int .u8 (a.toNat : Int) from rfl, h]
  congr 2
  all_goals (apply BitVec.eq_of_toNat_eq; simp)
@[go_sem] theorem convert_vu8_int {P : Program} (w : World) (src dst : TypeId) (a : BitVec 8) (hs : (P.underlying src).isSome = true) (hd : P.underlying dst = some (.int .i64)) :
    (convert src dst (vu8 a)).run P w = .ok (.int .i64 (a.toNat : Int)) w := by
  have e : P.intKind dst = .i64 := by simp [Program.intKind, hd]
  have h := run_convert_int (P := P) w src dst .u8 (a.toNat : Int) hs (by rw [e]; exact hd)
  have hl := a.isLt
  rw [e, IntWalk.i64_in _ (by omega)] at h
  exact h
section
variable (op : BinOp) (t : TypeId) (x y : Operand) (v : Value) (a b : BitVec 32) (i : Int)
@[go_sem] theorem eqGuard_at_vu32 : eqGuard op t x y (vu32 a) v = pure () := by cases op <;> rfl
theorem ofInt_toNat_u32 (a : BitVec 32) : BitVec.ofInt 32 (a.toNat : Int) = a := by simp
theorem arith_add_u32 (p q : Int) : Op.intArith .add .u32 p q = pure (vu32 (BitVec.ofInt 32 p + BitVec.ofInt 32 q)) := by
  simp only [Op.intArith]
  rw [wrapped_u32]
  congr 2
  apply BitVec.eq_of_toInt_eq
  simp
@[go_sem] theorem binOp_add_vu32 : binOp .add t (vu32 a) (vu32 b) = pure (vu32 (a + b)) := by
  show Op.intArith .add .u32 _ _ = _
  rw [arith_add_u32, ofInt_toNat_u32, ofInt_toNat_u32]
@[go_sem] theorem binOp_add_vu32_lit : binOp .add t (vu32 a) (.int .u32 i) = pure (vu32 (a + BitVec.ofInt 32 i)) := by
  show Op.intArith .add .u32 _ _ = _
  rw [arith_add_u32, ofInt_toNat_u32]
@[go_sem] theorem binOp_add_lit_vu32 : binOp .add t (.int .u32 i) (vu32 a) = pure (vu32 (BitVec.ofInt 32 i + a)) := by
  show Op.intArith .add .u32 _ _ = _
  rw [arith_add_u32, ofInt_toNat_u32]
theorem arith_sub_u32 (p q : Int) : Op.intArith .sub .u32 p q = pure (vu32 (BitVec.ofInt 32 p - BitVec.ofInt 32 q)) := by
  simp only [Op.intArith]
  rw [wrapped_u32]
  congr 2
  apply BitVec.eq_of_toInt_eq
  simp
@[go_sem] theorem binOp_sub_vu32 : binOp .sub t (vu32 a) (vu32 b) = pure (vu32 (a - b)) := by
  show Op.intArith .sub .u32 _ _ = _
  rw [arith_sub_u32, ofInt_toNat_u32, ofInt_toNat_u32]
@[go_sem] theorem binOp_sub_vu32_lit : binOp .sub t (vu32 a) (.int .u32 i) = pure (vu32 (a - BitVec.ofInt 32 i)) := by
  show Op.intArith .sub .u32 _ _ = _
  rw [arith_sub_u32, ofInt_toNat_u32]
@[go_sem] theorem binOp_sub_lit_vu32 : binOp .sub t (.int .u32 i) (vu32 a) = pure (vu32 (BitVec.ofInt 32 i - a)) := by
  show Op.intArith .sub .u32 _ _ = _
  rw [arith_sub_u32, ofInt_toNat_u32]
theorem arith_mul_u32 (p q : Int) : Op.intArith .mul .u32 p q = pure (vu32 (BitVec.ofInt 32 p * BitVec.ofInt 32 q)) := by
  simp only [Op.intArith]
  rw [wrapped_u32]
  congr 2
  apply BitVec.eq_of_toInt_eq
  simp
@[go_sem] theorem binOp_mul_vu32 : binOp .mul t (vu32 a) (vu32 b) = pure (vu32 (a * b)) := by
  show Op.intArith .mul .u32 _ _ = _
  rw [arith_mul_u32, ofInt_toNat_u32, ofInt_toNat_u32]
@[go_sem] theorem binOp_mul_vu32_lit : binOp .mul t (vu32 a) (.int .u32 i) = pure (vu32 (a * BitVec.ofInt 32 i)) := by
  show Op.intArith .mul .u32 _ _ = _
  rw [arith_mul_u32, ofInt_toNat_u32]
@[go_sem] theorem binOp_mul_lit_vu32 : binOp .mul t (.int .u32 i) (vu32 a) = pure (vu32 (BitVec.ofInt 32 i * a)) := by
  show Op.intArith .mul .u32 _ _ = _
  rw [arith_mul_u32, ofInt_toNat_u32]
theorem bits_and_u32 (p q : Int) : Op.intBits .and .u32 p q = pure (vu32 (BitVec.ofInt 32 p &&& BitVec.ofInt 32 q)) := by
  show pure (Value.int .u32 (IntKind.u32.wrap ((BitVec.ofInt 32 p &&& BitVec.ofInt 32 q).toNat : Int))) = _
  rw [wrapped_u32, ofInt_toNat_u32]
@[go_sem] theorem binOp_and_vu32 : binOp .and t (vu32 a) (vu32 b) = pure (vu32 (a &&& b)) := by
  show Op.intBits .and .u32 _ _ = _
  rw [bits_and_u32, ofInt_toNat_u32, ofInt_toNat_u32]
@[go_sem] theorem binOp_and_vu32_lit : binOp .and t (vu32 a) (.int .u32 i) = pure (vu32 (a &&& BitVec.ofInt 32 i)) := by
  show Op.intBits .and .u32 _ _ = _
  rw [bits_and_u32, ofInt_toNat_u32]
@[go_sem] theorem binOp_and_lit_vu32 : binOp .and t (.int .u32 i) (vu32 a) = pure (vu32 (BitVec.ofInt 32 i &&& a)) := by
  show Op.intBits .and .u32 _ _ = _
  rw [bits_and_u32, ofInt_toNat_u32]
theorem bits_or_u32 (p q : Int) : Op.intBits .or .u32 p q = pure (vu32 (BitVec.ofInt 32 p ||| BitVec.ofInt 32 q)) := by
  show pure (Value.int .u32 (IntKind.u32.wrap ((BitVec.ofInt 32 p ||| BitVec.ofInt 32 q).toNat : Int))) = _
  rw [wrapped_u32, ofInt_toNat_u32]
@[go_sem] theorem binOp_or_vu32 : binOp .or t (vu32 a) (vu32 b) = pure (vu32 (a ||| b)) := by
  show Op.intBits .or .u32 _ _ = _
  rw [bits_or_u32, ofInt_toNat_u32, ofInt_toNat_u32]
@[go_sem] theorem binOp_or_vu32_lit : binOp .or t (vu32 a) (.int .u32 i) = pure (vu32 (a ||| BitVec.ofInt 32 i)) := by
  show Op.intBits .or .u32 _ _ = _
  rw [bits_or_u32, ofInt_toNat_u32]
@[go_sem] theorem binOp_or_lit_vu32 : binOp .or t (.int .u32 i) (vu32 a) = pure (vu32 (BitVec.ofInt 32 i ||| a)) := by
  show Op.intBits .or .u32 _ _ = _
  rw [bits_or_u32, ofInt_toNat_u32]
theorem bits_xor_u32 (p q : Int) : Op.intBits .xor .u32 p q = pure (vu32 (BitVec.ofInt 32 p ^^^ BitVec.ofInt 32 q)) := by
  show pure (Value.int .u32 (IntKind.u32.wrap ((BitVec.ofInt 32 p ^^^ BitVec.ofInt 32 q).toNat : Int))) = _
  rw [wrapped_u32, ofInt_toNat_u32]
@[go_sem] theorem binOp_xor_vu32 : binOp .xor t (vu32 a) (vu32 b) = pure (vu32 (a ^^^ b)) := by
  show Op.intBits .xor .u32 _ _ = _
  rw [bits_xor_u32, ofInt_toNat_u32, ofInt_toNat_u32]
@[go_sem] theorem binOp_xor_vu32_lit : binOp .xor t (vu32 a) (.int .u32 i) = pure (vu32 (a ^^^ BitVec.ofInt 32 i)) := by
  show Op.intBits .xor .u32 _ _ = _
  rw [bits_xor_u32, ofInt_toNat_u32]
@[go_sem] theorem binOp_xor_lit_vu32 : binOp .xor t (.int .u32 i) (vu32 a) = pure (vu32 (BitVec.ofInt 32 i ^^^ a)) := by
  show Op.intBits .xor .u32 _ _ = _
  rw [bits_xor_u32, ofInt_toNat_u32]
theorem shift_shl_u32 (yk : IntKind) (j : Nat) : Op.shift .shl .u32 (a.toNat : Int) yk (j : Int) = pure (vu32 (a <<< j)) := by
  simp only [Op.shift, show ¬ ((j : Int) < 0) by omega, if_false, Int.toNat_natCast]
  rw [wrapped_u32]
  congr 2
  apply BitVec.eq_of_toNat_eq
  show (BitVec.ofInt 32 (((a.toNat : Int)) * 2 ^ (min j 32))).toNat = _
  have e : ((a.toNat : Int)) * 2 ^ (min j 32) = ((a.toNat * 2 ^ (min j 32) : Nat) : Int) := by simp
  rw [e, BitVec.ofInt_natCast, BitVec.toNat_ofNat, BitVec.toNat_shiftLeft, Nat.shiftLeft_eq]
  rcases Nat.lt_or_ge j 32 with h | h
  · rw [Nat.min_eq_left (by omega)]
  · rw [Nat.min_eq_right h]
    obtain ⟨d, rfl⟩ : ∃ d, j = 32 + d := ⟨j - 32, by omega⟩
    have h1 : a.toNat * 2 ^ 32 % 2 ^ 32 = 0 := by simp
    have h2 : a.toNat * 2 ^ (32 + d) % 2 ^ 32 = 0 := by
      rw [Nat.pow_add, Nat.mul_left_comm]
      exact Nat.mul_mod_right _ _
    rw [h1, h2]
theorem shift_shr_u32 (yk : IntKind) (j : Nat) : Op.shift .shr .u32 (a.toNat : Int) yk (j : Int) = pure (vu32 (a >>> j)) := by
  simp only [Op.shift, show ¬ ((j : Int) < 0) by omega, if_false, Int.toNat_natCast]
  congr 1
  unfold vu32
  congr 1
  show ((a.toNat : Int)).fdiv (2 ^ (min j 32)) = _
  have e : ((2 : Int) ^ (min j 32)) = ((2 ^ (min j 32) : Nat) : Int) := by simp
  rw [e, BitVec.toNat_ushiftRight, Nat.shiftRight_eq_div_pow]
  rw [Int.fdiv_eq_ediv_of_nonneg _ (Int.natCast_nonneg _), ← Int.natCast_ediv]
  congr 1
  rcases Nat.lt_or_ge j 32 with h | h
  · rw [Nat.min_eq_left (by omega)]
  · rw [Nat.min_eq_right h]
    have hl := a.isLt
    rw [Nat.div_eq_of_lt hl, Nat.div_eq_of_lt (Nat.lt_of_lt_of_le hl (Nat.pow_le_pow_right (by decide) h))]
@[go_sem] theorem binOp_shl_vu32 (yk : IntKind) (j : Int) (h : 0 ≤ j) : binOp .shl t (vu32 a) (.int yk j) = pure (vu32 (a <<< j.toNat)) := by
  obtain ⟨j, rfl⟩ := Int.eq_ofNat_of_zero_le h
  exact shift_shl_u32 a yk j
@[go_sem] theorem binOp_shr_vu32 (yk : IntKind) (j : Int) (h : 0 ≤ j) : binOp .shr t (vu32 a) (.int yk j) = pure (vu32 (a >>> j.toNat)) := by
  obtain ⟨j, rfl⟩ := Int.eq_ofNat_of_zero_le h
  exact shift_shr_u32 a yk j
@[go_sem] theorem binOp_shl_vu32_v64 (c : BitVec 64) : binOp .shl t (vu32 a) (vu64 c) = pure (vu32 (a <<< c.toNat)) := shift_shl_u32 a .u64 c.toNat
@[go_sem] theorem binOp_shr_vu32_v64 (c : BitVec 64) : binOp .shr t (vu32 a) (vu64 c) = pure (vu32 (a >>> c.toNat)) := shift_shr_u32 a .u64 c.toNat
@[go_sem] theorem binOp_eql_vu32 : binOp .eql t (vu32 a) (vu32 b) = pure (.bool (a == b)) := by
  show pure (Value.bool (((a.toNat : Int)) == (b.toNat : Int))) = _
  congr 2
  rw [Bool.eq_iff_iff]
  simp [← BitVec.toNat_inj]
  omega
@[go_sem] theorem binOp_neq_vu32 : binOp .neq t (vu32 a) (vu32 b) = pure (.bool (a != b)) := by
  show pure (Value.bool (((a.toNat : Int)) != (b.toNat : Int))) = _
  congr 2
  rw [Bool.eq_iff_iff]
  simp [← BitVec.toNat_inj]
  omega
@[go_sem] theorem binOp_lss_vu32 : binOp .lss t (vu32 a) (vu32 b) = pure (.bool (decide (a.toNat < b.toNat))) := by
  show pure (Value.bool (decide (((a.toNat : Int)) < (b.toNat : Int)))) = _
  congr 2
  exact decide_eq_decide.2 (by omega)
@[go_sem] theorem binOp_eql_vu32_lit : binOp .eql t (vu32 a) (.int .u32 i) = pure (.bool ((a.toNat : Int) == i)) := rfl
@[go_sem] theorem binOp_neq_vu32_lit : binOp .neq t (vu32 a) (.int .u32 i) = pure (.bool ((a.toNat : Int) != i)) := rfl
@[go_sem] theorem binOp_lss_vu32_lit : binOp .lss t (vu32 a) (.int .u32 i) = pure (.bool (decide ((a.toNat : Int) < i))) := rfl
@[go_sem] theorem binOp_leq_vu32_lit : binOp .leq t (vu32 a) (.int .u32 i) = pure (.bool (decide ((a.toNat : Int) ≤ i))) := rfl
@[go_sem] theorem binOp_gtr_vu32_lit : binOp .gtr t (vu32 a) (.int .u32 i) = pure (.bool (decide ((a.toNat : Int) > i))) := rfl
@[go_sem] theorem binOp_geq_vu32_lit : binOp .geq t (vu32 a) (.int .u32 i) = pure (.bool (decide ((a.toNat : Int) ≥ i))) := rfl
@[go_sem] theorem unary_xor_vu32 : Op.unary .xor (vu32 a) = pure (vu32 (~~~a)) := by
  show Op.intBits .xor .u32 4294967295 (a.toNat : Int) = _
  rw [bits_xor_u32, ofInt_toNat_u32]
  rw [show BitVec.ofInt 32 4294967295 = BitVec.allOnes 32 from by decide, BitVec.allOnes_xor]
@[go_sem ↓] theorem asIntOf_vu32 : asIntOf (vu32 a) = pure (.u32, (a.toNat : Int)) := rfl
@[go_sem] theorem run_store_vu32 (P : Program) (w : World) (p : Addr) (m : Mode) : (store p (vu32 a) m).run P w = stored P w p (vu32 a) m := run_store P w p _ m rfl
end
@[go_sem] theorem convert_vu32_u8 {P : Program} (w : World) (src dst : TypeId) (a : BitVec 32) (hs : (P.underlying src).isSome = true) (hd : P.underlying dst = some (.int .u8)) :
    (convert src dst (vu32 a)).run P w = .ok (vu8 (a.setWidth 8)) w := by
  have e : P.intKind dst = .u8 := by simp [Program.intKind, hd]
  have h := run_convert_int (P := P) w src dst .u32 (a.toNat : Int) hs (by rw [e]; exact hd)
  rw [e, wrapped_u8] at h
  rw [show vu32 a = Value.int .u32 (a.toNat : Int) from rfl, h]
  congr 2
  all_goals (apply BitVec.eq_of_toNat_eq; simp)
@[go_sem] theorem convert_vu32_u32 {P : Program} (w : World) (src dst : TypeId) (a : BitVec 32) (hs : (P.underlying src).isSome = true) (hd : P.underlying dst = some (.int .u32)) :
    (convert src dst (vu32 a)).run P w = .ok (vu32 (a.setWidth 32)) w := by
  have e : P.intKind dst = .u32 := by simp [Program.intKind, hd]
  have h := run_convert_int (P := P) w src dst .u32 (a.toNat : Int) hs (by rw [e]; exact hd)
  rw [e, wrapped_u32] at h
  rw [show vu32 a = Value.int .u32 (a.toNat : Int) from rfl, h]
  congr 2
  all_goals (apply BitVec.eq_of_toNat_eq; simp)
@[go_sem] theorem convert_vu32_u64 {P : Program} (w : World) (src dst : TypeId) (a : BitVec 32) (hs : (P.underlying src).isSome = true) (hd : P.underlying dst = some (.int .u64)) :
    (convert src dst (vu32 a)).run P w = .ok (vu64 (a.setWidth 64)) w := by
  have e : P.intKind dst = .u64 := by simp [Program.intKind, hd]
  have h := run_convert_int (P := P) w src dst .u32 (a.toNat : Int) hs (by rw [e]; exact hd)
  rw [e, wrapped_u64] at h
  rw [show vu32 a = Value.int .u32 (a.toNat : Int) from rfl, h]
  congr 2
  all_goals (apply BitVec.eq_of_toNat_eq; simp)
@[go_sem] theorem convert_vu32_int {P : Program} (w : World) (src dst : TypeId) (a : BitVec 32) (hs : (P.underlying src).isSome = true) (hd : P.underlying dst = some (.int .i64)) :
    (convert src dst (vu32 a)).run P w = .ok (.int .i64 (a.toNat : Int)) w := by
  have e : P.intKind dst = .i64 := by simp [Program.intKind, hd]
  have h := run_convert_int (P := P) w src dst .u32 (a.toNat : Int) hs (by rw [e]; exact hd)
  have hl := a.isLt
  rw [e, IntWalk.i64_in _ (by omega)] at h
  exact h
section
variable (op : BinOp) (t : TypeId) (x y : Operand) (v : Value) (a b : BitVec 64) (i : Int)
@[go_sem] theorem eqGuard_at_vu64 : eqGuard op t x y (vu64 a) v = pure () := by cases op <;> rfl
theorem ofInt_toNat_u64 (a : BitVec 64) : BitVec.ofInt 64 (a.toNat : Int) = a := by simp
theorem arith_add_u64 (p q : Int) : Op.intArith .add .u64 p q = pure (vu64 (BitVec.ofInt 64 p + BitVec.ofInt 64 q)) := by
  simp only [Op.intArith]
  rw [wrapped_u64]
  congr 2
  apply BitVec.eq_of_toInt_eq
  simp
@[go_sem] theorem binOp_add_vu64 : binOp .add t (vu64 a) (vu64 b) = pure (vu64 (a + b)) := by
  show Op.intArith .add .u64 _ _ = _
  rw [arith_add_u64, ofInt_toNat_u64, ofInt_toNat_u64]
@[go_sem] theorem binOp_add_vu64_lit : binOp .add t (vu64 a) (.int .u64 i) = pure (vu64 (a + BitVec.ofInt 64 i)) := by
  show Op.intArith .add .u64 _ _ = _
  rw [arith_add_u64, ofInt_toNat_u64]
@[go_sem] theorem binOp_add_lit_vu64 : binOp .add t (.int .u64 i) (vu64 a) = pure (vu64 (BitVec.ofInt 64 i + a)) := by
  show Op.intArith .add .u64 _ _ = _
  rw [arith_add_u64, ofInt_toNat_u64]
theorem arith_sub_u64 (p q : Int) : Op.intArith .sub .u64 p q = pure (vu64 (BitVec.ofInt 64 p - BitVec.ofInt 64 q)) := by
  simp only [Op.intArith]
  rw [wrapped_u64]
  congr 2
  apply BitVec.eq_of_toInt_eq
  simp
@[go_sem] theorem binOp_sub_vu64 : binOp .sub t (vu64 a) (vu64 b) = pure (vu64 (a - b)) := by
  show Op.intArith .sub .u64 _ _ = _
  rw [arith_sub_u64, ofInt_toNat_u64, ofInt_toNat_u64]
@[go_sem] theorem binOp_sub_vu64_lit : binOp .sub t (vu64 a) (.int .u64 i) = pure (vu64 (a - BitVec.ofInt 64 i)) := by
  show Op.intArith .sub .u64 _ _ = _
  rw [arith_sub_u64, ofInt_toNat_u64]
@[go_sem] theorem binOp_sub_lit_vu64 : binOp .sub t (.int .u64 i) (vu64 a) = pure (vu64 (BitVec.ofInt 64 i - a)) := by
  show Op.intArith .sub .u64 _ _ = _
  rw [arith_sub_u64, ofInt_toNat_u64]
theorem arith_mul_u64 (p q : Int) : Op.intArith .mul .u64 p q = pure (vu64 (BitVec.ofInt 64 p * BitVec.ofInt 64 q)) := by
  simp only [Op.intArith]
  rw [wrapped_u64]
  congr 2
  apply BitVec.eq_of_toInt_eq
  simp
@[go_sem] theorem binOp_mul_vu64 : binOp .mul t (vu64 a) (vu64 b) = pure (vu64 (a * b)) := by
  show Op.intArith .mul .u64 _ _ = _
  rw [arith_mul_u64, ofInt_toNat_u64, ofInt_toNat_u64]
@[go_sem] theorem binOp_mul_vu64_lit : binOp .mul t (vu64 a) (.int .u64 i) = pure (vu64 (a * BitVec.ofInt 64 i)) := by
  show Op.intArith .mul .u64 _ _ = _
  rw [arith_mul_u64, ofInt_toNat_u64]
@[go_sem] theorem binOp_mul_lit_vu64 : binOp .mul t (.int .u64 i) (vu64 a) = pure (vu64 (BitVec.ofInt 64 i * a)) := by
  show Op.intArith .mul .u64 _ _ = _
  rw [arith_mul_u64, ofInt_toNat_u64]
theorem bits_and_u64 (p q : Int) : Op.intBits .and .u64 p q = pure (vu64 (BitVec.ofInt 64 p &&& BitVec.ofInt 64 q)) := by
  show pure (Value.int .u64 (IntKind.u64.wrap ((BitVec.ofInt 64 p &&& BitVec.ofInt 64 q).toNat : Int))) = _
  rw [wrapped_u64, ofInt_toNat_u64]
@[go_sem] theorem binOp_and_vu64 : binOp .and t (vu64 a) (vu64 b) = pure (vu64 (a &&& b)) := by
  show Op.intBits .and .u64 _ _ = _
  rw [bits_and_u64, ofInt_toNat_u64, ofInt_toNat_u64]
@[go_sem] theorem binOp_and_vu64_lit : binOp .and t (vu64 a) (.int .u64 i) = pure (vu64 (a &&& BitVec.ofInt 64 i)) := by
  show Op.intBits .and .u64 _ _ = _
  rw [bits_and_u64, ofInt_toNat_u64]
@[go_sem] theorem binOp_and_lit_vu64 : binOp .and t (.int .u64 i) (vu64 a) = pure (vu64 (BitVec.ofInt 64 i &&& a)) := by
  show Op.intBits .and .u64 _ _ = _
  rw [bits_and_u64, ofInt_toNat_u64]
theorem bits_or_u64 (p q : Int) : Op.intBits .or .u64 p q = pure (vu64 (BitVec.ofInt 64 p ||| BitVec.ofInt 64 q)) := by
  show pure (Value.int .u64 (IntKind.u64.wrap ((BitVec.ofInt 64 p ||| BitVec.ofInt 64 q).toNat : Int))) = _
  rw [wrapped_u64, ofInt_toNat_u64]
@[go_sem] theorem binOp_or_vu64 : binOp .or t (vu64 a) (vu64 b) = pure (vu64 (a ||| b)) := by
  show Op.intBits .or .u64 _ _ = _
  rw [bits_or_u64, ofInt_toNat_u64, ofInt_toNat_u64]
@[go_sem] theorem binOp_or_vu64_lit : binOp .or t (vu64 a) (.int .u64 i) = pure (vu64 (a ||| BitVec.ofInt 64 i)) := by
  show Op.intBits .or .u64 _ _ = _
  rw [bits_or_u64, ofInt_toNat_u64]
@[go_sem] theorem binOp_or_lit_vu64 : binOp .or t (.int .u64 i) (vu64 a) = pure (vu64 (BitVec.ofInt 64 i ||| a)) := by
  show Op.intBits .or .u64 _ _ = _
  rw [bits_or_u64, ofInt_toNat_u64]
theorem bits_xor_u64 (p q : Int) : Op.intBits .xor .u64 p q = pure (vu64 (BitVec.ofInt 64 p ^^^ BitVec.ofInt 64 q)) := by
  show pure (Value.int .u64 (IntKind.u64.wrap ((BitVec.ofInt 64 p ^^^ BitVec.ofInt 64 q).toNat : Int))) = _
  rw [wrapped_u64, ofInt_toNat_u64]
@[go_sem] theorem binOp_xor_vu64 : binOp .xor t (vu64 a) (vu64 b) = pure (vu64 (a ^^^ b)) := by
  show Op.intBits .xor .u64 _ _ = _
  rw [bits_xor_u64, ofInt_toNat_u64, ofInt_toNat_u64]
@[go_sem] theorem binOp_xor_vu64_lit : binOp .xor t (vu64 a) (.int .u64 i) = pure (vu64 (a ^^^ BitVec.ofInt 64 i)) := by
  show Op.intBits .xor .u64 _ _ = _
  rw [bits_xor_u64, ofInt_toNat_u64]
@[go_sem] theorem binOp_xor_lit_vu64 : binOp .xor t (.int .u64 i) (vu64 a) = pure (vu64 (BitVec.ofInt 64 i ^^^ a)) := by
  show Op.intBits .xor .u64 _ _ = _
  rw [bits_xor_u64, ofInt_toNat_u64]
theorem shift_shl_u64 (yk : IntKind) (j : Nat) : Op.shift .shl .u64 (a.toNat : Int) yk (j : Int) = pure (vu64 (a <<< j)) := by
  simp only [Op.shift, show ¬ ((j : Int) < 0) by omega, if_false, Int.toNat_natCast]
  rw [wrapped_u64]
  congr 2
  apply BitVec.eq_of_toNat_eq
  show (BitVec.ofInt 64 (((a.toNat : Int)) * 2 ^ (min j 64))).toNat = _
  have e : ((a.toNat : Int)) * 2 ^ (min j 64) = ((a.toNat * 2 ^ (min j 64) : Nat) : Int) := by simp
  rw [e, BitVec.ofInt_natCast, BitVec.toNat_ofNat, BitVec.toNat_shiftLeft, Nat.shiftLeft_eq]
  rcases Nat.lt_or_ge j 64 with h | h
  · rw [Nat.min_eq_left (by omega)]
  · rw [Nat.min_eq_right h]
    obtain ⟨d, rfl⟩ : ∃ d, j = 64 + d := ⟨j - 64, by omega⟩
    have h1 : a.toNat * 2 ^ 64 % 2 ^ 64 = 0 := by simp
    have h2 : a.toNat * 2 ^ (64 + d) % 2 ^ 64 = 0 := by
      rw [Nat.pow_add, Nat.mul_left_comm]
      exact Nat.mul_mod_right _ _
    rw [h1, h2]
theorem shift_shr_u64 (yk : IntKind) (j : Nat) : Op.shift .shr .u64 (a.toNat : Int) yk (j : Int) = pure (vu64 (a >>> j)) := by
  simp only [Op.shift, show ¬ ((j : Int) < 0) by omega, if_false, Int.toNat_natCast]
  congr 1
  unfold vu64
  congr 1
  show ((a.toNat : Int)).fdiv (2 ^ (min j 64)) = _
  have e : ((2 : Int) ^ (min j 64)) = ((2 ^ (min j 64) : Nat) : Int) := by simp
  rw [e, BitVec.toNat_ushiftRight, Nat.shiftRight_eq_div_pow]
  rw [Int.fdiv_eq_ediv_of_nonneg _ (Int.natCast_nonneg _), ← Int.natCast_ediv]
  congr 1
  rcases Nat.lt_or_ge j 64 with h | h
  · rw [Nat.min_eq_left (by omega)]
  · rw [Nat.min_eq_right h]
    have hl := a.isLt
    rw [Nat.div_eq_of_lt hl, Nat.div_eq_of_lt (Nat.lt_of_lt_of_le hl (Nat.pow_le_pow_right (by decide) h))]
@[go_sem] theorem binOp_shl_vu64 (yk : IntKind) (j : Int) (h : 0 ≤ j) : binOp .shl t (vu64 a) (.int yk j) = pure (vu64 (a <<< j.toNat)) := by
  obtain ⟨j, rfl⟩ := Int.eq_ofNat_of_zero_le h
  exact shift_shl_u64 a yk j
@[go_sem] theorem binOp_shr_vu64 (yk : IntKind) (j : Int) (h : 0 ≤ j) : binOp .shr t (vu64 a) (.int yk j) = pure (vu64 (a >>> j.toNat)) := by
  obtain ⟨j, rfl⟩ := Int.eq_ofNat_of_zero_le h
  exact shift_shr_u64 a yk j
@[go_sem] theorem binOp_shl_vu64_v64 (c : BitVec 64) : binOp .shl t (vu64 a) (vu64 c) = pure (vu64 (a <<< c.toNat)) := shift_shl_u64 a .u64 c.toNat
@[go_sem] theorem binOp_shr_vu64_v64 (c : BitVec 64) : binOp .shr t (vu64 a) (vu64 c) = pure (vu64 (a >>> c.toNat)) := shift_shr_u64 a .u64 c.toNat
@[go_sem] theorem binOp_eql_vu64 : binOp .eql t (vu64 a) (vu64 b) = pure (.bool (a == b)) := by
  show pure (Value.bool (((a.toNat : Int)) == (b.toNat : Int))) = _
  congr 2
  rw [Bool.eq_iff_iff]
  simp [← BitVec.toNat_inj]
  omega
@[go_sem] theorem binOp_neq_vu64 : binOp .neq t (vu64 a) (vu64 b) = pure (.bool (a != b)) := by
  show pure (Value.bool (((a.toNat : Int)) != (b.toNat : Int))) = _
  congr 2
  rw [Bool.eq_iff_iff]
  simp [← BitVec.toNat_inj]
  omega
@[go_sem] theorem binOp_lss_vu64 : binOp .lss t (vu64 a) (vu64 b) = pure (.bool (decide (a.toNat < b.toNat))) := by
  show pure (Value.bool (decide (((a.toNat : Int)) < (b.toNat : Int)))) = _
  congr 2
  exact decide_eq_decide.2 (by omega)
@[go_sem] theorem binOp_eql_vu64_lit : binOp .eql t (vu64 a) (.int .u64 i) = pure (.bool ((a.toNat : Int) == i)) := rfl
@[go_sem] theorem binOp_neq_vu64_lit : binOp .neq t (vu64 a) (.int .u64 i) = pure (.bool ((a.toNat : Int) != i)) := rfl
@[go_sem] theorem binOp_lss_vu64_lit : binOp .lss t (vu64 a) (.int .u64 i) = pure (.bool (decide ((a.toNat : Int) < i))) := rfl
@[go_sem] theorem binOp_leq_vu64_lit : binOp .leq t (vu64 a) (.int .u64 i) = pure (.bool (decide ((a.toNat : Int) ≤ i))) := rfl
@[go_sem] theorem binOp_gtr_vu64_lit : binOp .gtr t (vu64 a) (.int .u64 i) = pure (.bool (decide ((a.toNat : Int) > i))) := rfl
@[go_sem] theorem binOp_geq_vu64_lit : binOp .geq t (vu64 a) (.int .u64 i) = pure (.bool (decide ((a.toNat : Int) ≥ i))) := rfl
@[go_sem] theorem unary_xor_vu64 : Op.unary .xor (vu64 a) = pure (vu64 (~~~a)) := by
  show Op.intBits .xor .u64 18446744073709551615 (a.toNat : Int) = _
  rw [bits_xor_u64, ofInt_toNat_u64]
  rw [show BitVec.ofInt 64 18446744073709551615 = BitVec.allOnes 64 from by decide, BitVec.allOnes_xor]
@[go_sem ↓] theorem asIntOf_vu64 : asIntOf (vu64 a) = pure (.u64, (a.toNat : Int)) := rfl
@[go_sem] theorem run_store_vu64 (P : Program) (w : World) (p : Addr) (m : Mode) : (store p (vu64 a) m).run P w = stored P w p (vu64 a) m := run_store P w p _ m rfl
end
@[go_sem] theorem convert_vu64_u8 {P : Program} (w : World) (src dst : TypeId) (a : BitVec 64) (hs : (P.underlying src).isSome = true) (hd : P.underlying dst = some (.int .u8)) :
    (convert src dst (vu64 a)).run P w = .ok (vu8 (a.setWidth 8)) w := by
  have e : P.intKind dst = .u8 := by simp [Program.intKind, hd]
  have h := run_convert_int (P := P) w src dst .u64 (a.toNat : Int) hs (by rw [e]; exact hd)
  rw [e, wrapped_u8] at h
  rw [show vu64 a = Value.int .u64 (a.toNat : Int) from rfl, h]
  congr 2
  all_goals (apply BitVec.eq_of_toNat_eq; simp)
@[go_sem] theorem convert_vu64_u32 {P : Program} (w : World) (src dst : TypeId) (a : BitVec 64) (hs : (P.underlying src).isSome = true) (hd : P.underlying dst = some (.int .u32)) :
    (convert src dst (vu64 a)).run P w = .ok (vu32 (a.setWidth 32)) w := by
  have e : P.intKind dst = .u32 := by simp [Program.intKind, hd]
  have h := run_convert_int (P := P) w src dst .u64 (a.toNat : Int) hs (by rw [e]; exact hd)
  rw [e, wrapped_u32] at h
  rw [show vu64 a = Value.int .u64 (a.toNat : Int) from rfl, h]
  congr 2
  all_goals (apply BitVec.eq_of_toNat_eq; simp)
@[go_sem] theorem convert_vu64_u64 {P : Program} (w : World) (src dst : TypeId) (a : BitVec 64) (hs : (P.underlying src).isSome = true) (hd : P.underlying dst = some (.int .u64)) :
    (convert src dst (vu64 a)).run P w = .ok (vu64 (a.setWidth 64)) w := by
  have e : P.intKind dst = .u64 := by simp [Program.intKind, hd]
  have h := run_convert_int (P := P) w src dst .u64 (a.toNat : Int) hs (by rw [e]; exact hd)
  rw [e, wrapped_u64] at h
  rw [show vu64 a = Value.int .u64 (a.toNat : Int) from rfl, h]
  congr 2
  all_goals (apply BitVec.eq_of_toNat_eq; simp)
end Go.Proofs.YtmmlpbepaefamaaGreatDoor
