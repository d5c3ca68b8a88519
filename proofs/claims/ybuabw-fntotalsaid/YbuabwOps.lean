/-
  THE OPERATIONS that this program uses, each by one rule. Own work for the seat Ybuabw.
-/
import Derived.Test.YbuabwEng
import Derived.WalkKit
namespace Go.Proofs.Ybuabw
open Go.RowKit
set_option linter.unusedVariables false

/-- A string, by its bytes. -/
def S (l : List UInt8) : Value := .string ⟨l.toArray⟩
/-- A byte. -/
def bt (c : UInt8) : Value := .int .u8 (c.toNat : Int)
/-- An int. -/
def iv (n : Int) : Value := .int .i64 n

theorem S_inj {a b : List UInt8} (h : S a = S b) : a = b := by
  simp only [S, Value.string.injEq, ByteArray.mk.injEq] at h
  simpa using congrArg Array.toList h

theorem ba_size (l : List UInt8) : (ByteArray.mk l.toArray).size = l.length := by show l.toArray.size = _; simp

variable {ρ : Env} {w : World} {ty t : TypeId} {x y z : Operand}

theorem pv_mv : PV ρ w (.move x) ty (ev ρ x) := rfl
theorem pv_as : PV ρ w (.assign x) ty (ev ρ x) := rfl

theorem pv_len_s {l : List UInt8} (h : ev ρ x = S l) : PV ρ w (.call { callee := .builtin .len, args := #[x], argTypes := #[9] }) ty (iv l.length) := by
  unfold PV xo execOp
  simp [resolve, invoke, builtin, h, S, Builtin.len_, run_underlying Yabc.underlying9, goInt, ba_size, iv]

theorem pv_len_v {ao : Option Addr} {n c : Nat} {e : TypeId} (hu : Yabc.prog.underlying t = some (.slice e)) (h : ev ρ x = .slice ao n c) :
    PV ρ w (.call { callee := .builtin .len, args := #[x], argTypes := #[t] }) ty (iv n) := by
  unfold PV xo execOp
  simp [resolve, invoke, builtin, h, Builtin.len_, run_underlying hu, goInt, iv]

/-! ints -/
theorem pv_add {a b : Int} (hx : ev ρ x = iv a) (hy : ev ρ y = iv b) (h : -9223372036854775808 ≤ a + b ∧ a + b ≤ 9223372036854775807) : PV ρ w (.binOp .add 3 x y 3) ty (iv (a + b)) := by
  unfold PV xo execOp
  simp [hx, hy, iv, eqGuard, binOp, Op.intArith, IntWalk.i64_in _ h]
theorem pv_sub {a b : Int} (hx : ev ρ x = iv a) (hy : ev ρ y = iv b) (h : -9223372036854775808 ≤ a - b ∧ a - b ≤ 9223372036854775807) : PV ρ w (.binOp .sub 3 x y 3) ty (iv (a - b)) := by
  unfold PV xo execOp
  simp [hx, hy, iv, eqGuard, binOp, Op.intArith, IntWalk.i64_in _ h]
theorem pv_mul {a b : Int} (hx : ev ρ x = iv a) (hy : ev ρ y = iv b) (h : -9223372036854775808 ≤ a * b ∧ a * b ≤ 9223372036854775807) : PV ρ w (.binOp .mul 3 x y 3) ty (iv (a * b)) := by
  unfold PV xo execOp
  simp [hx, hy, iv, eqGuard, binOp, Op.intArith, IntWalk.i64_in _ h]
theorem pv_quo {a b : Int} (hx : ev ρ x = iv a) (hy : ev ρ y = iv b) (h0 : 0 ≤ a) (h1 : a ≤ 9223372036854775807) (h2 : 0 < b) : PV ρ w (.binOp .quo 3 x y 3) ty (iv (a / b)) := by
  have e : IntKind.i64.wrap (a.tdiv b) = a / b := by
    rw [Int.tdiv_eq_ediv_of_nonneg h0]
    have h3 : 0 ≤ a / b := Int.ediv_nonneg h0 (by omega)
    have h4 : a / b ≤ a := Int.ediv_le_self _ h0
    exact IntWalk.i64_in _ ⟨by omega, by omega⟩
  have hb : b ≠ 0 := by omega
  unfold PV xo execOp
  simp [hx, hy, iv, eqGuard, binOp, Op.intDiv, hb, e]
theorem pv_rem {a b : Int} (hx : ev ρ x = iv a) (hy : ev ρ y = iv b) (h0 : 0 ≤ a) (h2 : 0 < b) : PV ρ w (.binOp .rem 3 x y 3) ty (iv (a % b)) := by
  have hb : b ≠ 0 := by omega
  unfold PV xo execOp
  simp [hx, hy, iv, eqGuard, binOp, Op.intDiv, hb, Int.tmod_eq_emod_of_nonneg h0]
theorem pv_eql {a b : Int} (hx : ev ρ x = iv a) (hy : ev ρ y = iv b) : PV ρ w (.binOp .eql 3 x y 3) ty (.bool (decide (a = b))) := by
  unfold PV xo execOp
  simp [hx, hy, iv, eqGuard, binOp, Op.intCmp]
  rw [Bool.eq_iff_iff]; simp
theorem pv_neq {a b : Int} (hx : ev ρ x = iv a) (hy : ev ρ y = iv b) : PV ρ w (.binOp .neq 3 x y 3) ty (.bool (decide (a ≠ b))) := by
  unfold PV xo execOp
  simp [hx, hy, iv, eqGuard, binOp, Op.intCmp]
  rw [Bool.eq_iff_iff]; simp
theorem pv_lss {a b : Int} (hx : ev ρ x = iv a) (hy : ev ρ y = iv b) : PV ρ w (.binOp .lss 3 x y 3) ty (.bool (decide (a < b))) := by
  unfold PV xo execOp
  simp [hx, hy, iv, eqGuard, binOp, Op.intCmp]
theorem pv_leq {a b : Int} (hx : ev ρ x = iv a) (hy : ev ρ y = iv b) : PV ρ w (.binOp .leq 3 x y 3) ty (.bool (decide (a ≤ b))) := by
  unfold PV xo execOp
  simp [hx, hy, iv, eqGuard, binOp, Op.intCmp]
theorem pv_gtr {a b : Int} (hx : ev ρ x = iv a) (hy : ev ρ y = iv b) : PV ρ w (.binOp .gtr 3 x y 3) ty (.bool (decide (b < a))) := by
  unfold PV xo execOp
  simp [hx, hy, iv, eqGuard, binOp, Op.intCmp]
theorem pv_geq {a b : Int} (hx : ev ρ x = iv a) (hy : ev ρ y = iv b) : PV ρ w (.binOp .geq 3 x y 3) ty (.bool (decide (b ≤ a))) := by
  unfold PV xo execOp
  simp [hx, hy, iv, eqGuard, binOp, Op.intCmp]

/-! bytes: a constant is '.int .u8 n' with n a numeral: 'bt n' by rfl -/
theorem u8_eq (a b : UInt8) : ((a.toNat : Int) = (b.toNat : Int)) ↔ a = b := by
  constructor
  · intro h; exact UInt8.toNat_inj.1 (by omega)
  · rintro rfl; rfl
theorem pv_eqlB {a b : UInt8} (hx : ev ρ x = bt a) (hy : ev ρ y = bt b) : PV ρ w (.binOp .eql 5 x y 5) ty (.bool (decide (a = b))) := by
  unfold PV xo execOp
  simp [hx, hy, bt, eqGuard, binOp, Op.intCmp]
  rw [Bool.eq_iff_iff]; simp only [beq_iff_eq, decide_eq_true_eq]; exact u8_eq a b
theorem pv_neqB {a b : UInt8} (hx : ev ρ x = bt a) (hy : ev ρ y = bt b) : PV ρ w (.binOp .neq 5 x y 5) ty (.bool (decide (a ≠ b))) := by
  unfold PV xo execOp
  simp [hx, hy, bt, eqGuard, binOp, Op.intCmp]
  rw [Bool.eq_iff_iff]; simp only [bne_iff_ne, ne_eq, Bool.not_eq_true', decide_eq_false_iff_not]; rw [u8_eq a b]
theorem pv_leqB {a b : UInt8} (hx : ev ρ x = bt a) (hy : ev ρ y = bt b) : PV ρ w (.binOp .leq 5 x y 5) ty (.bool (decide (a ≤ b))) := by
  unfold PV xo execOp
  simp [hx, hy, bt, eqGuard, binOp, Op.intCmp, UInt8.le_iff_toNat_le]
theorem pv_geqB {a b : UInt8} (hx : ev ρ x = bt a) (hy : ev ρ y = bt b) : PV ρ w (.binOp .geq 5 x y 5) ty (.bool (decide (b ≤ a))) := by
  unfold PV xo execOp
  simp [hx, hy, bt, eqGuard, binOp, Op.intCmp, UInt8.le_iff_toNat_le]
theorem u8_in (n : Int) (h : 0 ≤ n ∧ n ≤ 255) : IntKind.u8.wrap n = n := by
  unfold IntKind.wrap
  have e : (2 : Int) ^ IntKind.u8.bits = 256 := by decide
  have e2 : IntKind.u8.signed = false := rfl
  simp only [e, e2, Bool.false_and, Bool.false_eq_true, if_false]
  omega
theorem pv_subB {a b : UInt8} (hx : ev ρ x = bt a) (hy : ev ρ y = bt b) (h : b ≤ a) : PV ρ w (.binOp .sub 5 x y 5) ty (bt (a - b)) := by
  have h' := UInt8.le_iff_toNat_le.1 h
  have hl := UInt8.toNat_lt a
  have e : ((a - b).toNat : Int) = (a.toNat : Int) - b.toNat := by rw [UInt8.toNat_sub_of_le _ _ h]; omega
  unfold PV xo execOp
  simp [hx, hy, bt, eqGuard, binOp, Op.intArith, e, u8_in ((a.toNat : Int) - b.toNat) ⟨by omega, by omega⟩]
theorem pv_addB {a b : UInt8} (hx : ev ρ x = bt a) (hy : ev ρ y = bt b) (h : a.toNat + b.toNat ≤ 255) : PV ρ w (.binOp .add 5 x y 5) ty (bt (a + b)) := by
  have e : IntKind.u8.wrap ((a.toNat : Int) + b.toNat) = ((a + b).toNat : Int) := by
    rw [u8_in _ ⟨by omega, by omega⟩, UInt8.toNat_add]; omega
  unfold PV xo execOp
  simp only [hx, hy, bt, eqGuard, binOp, Op.intArith, e]
  simp
theorem pv_remB {a b : UInt8} (hx : ev ρ x = bt a) (hy : ev ρ y = bt b) (h : b ≠ 0) : PV ρ w (.binOp .rem 5 x y 5) ty (bt (a % b)) := by
  have hb : ¬ (b.toNat : Int) = 0 := fun e => h (by rw [← UInt8.toNat_inj]; exact_mod_cast e)
  have e : (a.toNat : Int).tmod b.toNat = ((a % b).toNat : Int) := by
    rw [Int.tmod_eq_emod_of_nonneg (by omega), UInt8.toNat_mod]; simp
  unfold PV xo execOp
  simp only [hx, hy, bt, eqGuard, binOp, Op.intDiv, hb, e]
  simp
theorem pv_quoB {a b : UInt8} (hx : ev ρ x = bt a) (hy : ev ρ y = bt b) (h : b ≠ 0) : PV ρ w (.binOp .quo 5 x y 5) ty (bt (a / b)) := by
  have hb : ¬ (b.toNat : Int) = 0 := fun e => h (by rw [← UInt8.toNat_inj]; exact_mod_cast e)
  have hl := UInt8.toNat_lt a
  have h4 : a.toNat / b.toNat ≤ a.toNat := Nat.div_le_self _ _
  have e : IntKind.u8.wrap ((a.toNat : Int).tdiv b.toNat) = ((a / b).toNat : Int) := by
    rw [Int.tdiv_eq_ediv_of_nonneg (by omega)]
    have : ((a.toNat : Int) / b.toNat) = ((a.toNat / b.toNat : Nat) : Int) := by simp
    rw [this, UInt8.toNat_div]
    exact u8_in _ ⟨Int.natCast_nonneg _, by omega⟩
  unfold PV xo execOp
  simp only [hx, hy, bt, eqGuard, binOp, Op.intDiv, hb, e]
  simp
theorem pv_int {a : UInt8} (hx : ev ρ x = bt a) : PV ρ w (.convert 5 3 x) ty (iv a.toNat) := by
  have hl := UInt8.toNat_lt a
  unfold PV xo execOp convert
  simp [hx, bt, run_underlying Yabc.underlying5, run_underlying Yabc.underlying3, Conv.intToInt, iv, IntWalk.i64_in (a.toNat : Int) ⟨by omega, by omega⟩]

/-! strings -/
theorem pv_eqlS {a b : List UInt8} (hx : ev ρ x = S a) (hy : ev ρ y = S b) : PV ρ w (.binOp .eql 9 x y 9) ty (.bool (decide (a = b))) := by
  unfold PV xo execOp
  simp [hx, hy, S, eqGuard, binOp, Op.stringOp]
  rw [Bool.eq_iff_iff]; simp
theorem pv_neqS {a b : List UInt8} (hx : ev ρ x = S a) (hy : ev ρ y = S b) : PV ρ w (.binOp .neq 9 x y 9) ty (.bool (decide (a ≠ b))) := by
  unfold PV xo execOp
  simp [hx, hy, S, eqGuard, binOp, Op.stringOp]
  rw [Bool.eq_iff_iff]; simp
theorem ba_append (a b : List UInt8) : (ByteArray.mk a.toArray) ++ (ByteArray.mk b.toArray) = ByteArray.mk (a ++ b).toArray := by
  apply ByteArray.ext
  simp [ByteArray.data_append]
theorem pv_addS {a b : List UInt8} (hx : ev ρ x = S a) (hy : ev ρ y = S b) (h : a.length + b.length ≤ 9223372036854775807) : PV ρ w (.binOp .add 9 x y 9) ty (S (a ++ b)) := by
  have h' : ¬ (((ByteArray.mk a.toArray).size + (ByteArray.mk b.toArray).size : Nat) : Int) > IntKind.i64.max := by
    have e : IntKind.i64.max = 9223372036854775807 := by decide
    rw [e]; simp only [ByteArray.size, List.size_toArray]; omega
  unfold PV xo execOp
  simp only [hx, hy, S, eqGuard, binOp, Op.stringOp, h']
  simp [ba_append]
theorem pv_index {l : List UInt8} {i : Int} {k : Nat} (hx : ev ρ x = S l) (hi : ev ρ y = iv i) (hk : i = k) (h : k < l.length) : PV ρ w (.index 9 x y) ty (bt (l.getD k 0)) := by
  subst hk
  have e : (ByteArray.mk l.toArray)[k]? = some (l.getD k 0) := by
    rw [ByteArray.getElem?_lt' _ _ (by simpa [ByteArray.size] using h)]
    simp [ByteArray.getElem_eq_getElem_data, h]
  unfold PV xo execOp Instr.index
  simp [hx, hi, S, iv, asIntOf, run_underlying Yabc.underlying9, e, bt]
theorem pv_not {b : Bool} (hx : ev ρ x = .bool b) : PV ρ w (.unOp .not t x) ty (.bool !b) := by
  unfold PV xo execOp
  simp [hx, Op.unary]

/-- s[i:j] -/
theorem pv_cut {l : List UInt8} {i j : Int} {a b : Nat} (hx : ev ρ x = S l) (hi : ev ρ y = iv i) (hj : ev ρ z = iv j) (ha : i = a) (hb : j = b) (h1 : a ≤ b) (h2 : b ≤ l.length) :
    PV ρ w (.slice 9 x (some y) (some z) none) ty (S ((l.drop a).take (b - a))) := by
  subst ha hb
  unfold PV xo execOp
  simp [hx, hi, hj, S, iv, Instr.sliceAt, Instr.slice, run_underlying Yabc.underlying9, Instr.sliceBounds, Instr.sliceBound, asIntOf, ba_size, h1, h2, ByteArray.extract_mk]
theorem pv_cutFrom {l : List UInt8} {i : Int} {a : Nat} (hx : ev ρ x = S l) (hi : ev ρ y = iv i) (ha : i = a) (h1 : a ≤ l.length) :
    PV ρ w (.slice 9 x (some y) none none) ty (S (l.drop a)) := by
  subst ha
  unfold PV xo execOp
  simp [hx, hi, S, iv, Instr.sliceAt, Instr.slice, run_underlying Yabc.underlying9, Instr.sliceBounds, Instr.sliceBound, asIntOf, ba_size, h1, ByteArray.extract_mk]
  rw [List.take_of_length_le (by simp)]
theorem pv_cutTo {l : List UInt8} {j : Int} {b : Nat} (hx : ev ρ x = S l) (hj : ev ρ z = iv j) (hb : j = b) (h2 : b ≤ l.length) :
    PV ρ w (.slice 9 x none (some z) none) ty (S (l.take b)) := by
  subst hb
  unfold PV xo execOp
  simp [hx, hj, S, iv, Instr.sliceAt, Instr.slice, run_underlying Yabc.underlying9, Instr.sliceBounds, Instr.sliceBound, asIntOf, ba_size, h2, ByteArray.extract_mk]

end Go.Proofs.Ybuabw
