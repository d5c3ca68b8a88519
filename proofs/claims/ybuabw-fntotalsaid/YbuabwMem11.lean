/-
  BYTES AS NUMBERS. Own work for the seat Ybuabw.
-/
import Derived.Test.YbuabwMem10
namespace Go.Proofs.Ybuabw
open Go.RowKit
set_option linter.unusedVariables false
variable {w : World} {ρ : Env} {ty : TypeId} {x y : Operand}

theorem pv_eqlBN {a b : UInt8} {n : Nat} (hx : ev ρ x = bt a) (hy : ev ρ y = bt b) (hn : b.toNat = n) : PV ρ w (.binOp .eql 5 x y 5) ty (.bool (decide (a.toNat = n))) := by
  have h := pv_eqlB (w := w) (ty := ty) hx hy
  have e : decide (a = b) = decide (a.toNat = n) := by
    rw [← hn]
    exact decide_eq_decide.2 UInt8.toNat_inj.symm
  rw [e] at h
  exact h
theorem rem_toNat (a b : UInt8) : (a % b).toNat = a.toNat % b.toNat := UInt8.toNat_mod a b
theorem u8_lt (a : UInt8) : a.toNat < 256 := UInt8.toNat_lt a

end Go.Proofs.Ybuabw
