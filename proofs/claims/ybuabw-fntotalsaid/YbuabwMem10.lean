/-
  STRUCTS COMPARED: equal structs are not unequal. Own work for the seat Ybuabw.
-/
import Derived.Test.YbuabwMem9
import Derived.Laws.StructEq
namespace Go.Proofs.Ybuabw
open Go.RowKit
set_option linter.unusedVariables false
set_option linter.unusedSimpArgs false
set_option maxRecDepth 20000

variable {w : World} {ρ : Env} {ty t : TypeId} {x y : Operand}

theorem rp3 (w : World) (xs : Array Value) (o : Nat) (v : Value) (h : xs[o]? = some v) : (part 3 xs o).run Yabc.prog w = .ok v w := by
  simp [part, h, run_isAgg ag3]
theorem rp9 (w : World) (xs : Array Value) (o : Nat) (v : Value) (h : xs[o]? = some v) : (part 9 xs o).run Yabc.prog w = .ok v w := by
  simp [part, h, run_isAgg ag9]

theorem pv_neqA {p : Tri} {f0 f1 f2 : Field} (hu : Yabc.prog.underlying t = some (.struct #[f0, f1, f2])) (hp : Yabc.prog.stoodInHeld t = false) (hm : Yabc.prog.eqGuardType Yabc.prog.depth t = false)
    (h0 : f0.type = 3 ∧ f0.offset = 0) (h1 : f1.type = 3 ∧ f1.offset = 1) (h2 : f2.type = 9 ∧ f2.offset = 2)
    (hx : ev ρ x = .agg (encT p).toArray) (hy : ev ρ y = .agg (encT p).toArray) : PV ρ w (.binOp .neq t x y t) ty (.bool false) := by
  have hf : Yabc.prog.fieldsOf t = #[f0, f1, f2] := by simp [Program.fieldsOf, hu]
  have key : (Op.equalIn 10000 t (.agg (encT p).toArray) (.agg (encT p).toArray)).run Yabc.prog w = .ok true w := by
    rw [run_equalIn_agg w 9999 t _ _ (by rw [hf]; exact hu) hp, hf]
    have e0 := run_equalIn_int (P := Yabc.prog) w 9998 3 .i64 .i64 p.a p.a Yabc.underlying3
    have e1 := run_equalIn_int (P := Yabc.prog) w 9998 3 .i64 .i64 p.b p.b Yabc.underlying3
    have e2 := run_equalIn_string (P := Yabc.prog) w 9998 9 (ByteArray.mk p.s.toArray) (ByteArray.mk p.s.toArray) Yabc.underlying9
    have q0 := rp3 w (encT p).toArray 0 (iv p.a) rfl
    have q1 := rp3 w (encT p).toArray 1 (iv p.b) rfl
    have q2 := rp9 w (encT p).toArray 2 (S p.s) rfl
    simp only [beq_self_eq_true] at e0 e1 e2
    simp only [iv, S] at q0 q1 q2
    simp only [Op.eqFields, h0.1, h0.2, h1.1, h1.2, h2.1, h2.2]
    simp [Sem.run_ite, q0, q1, q2, e0, e1, e2]
  unfold PV xo execOp
  simp [hx, hy, run_eqGuard_agg w _ _ _ _ _ _ hm, run_neq_struct, key]

theorem pv_neqAF {p : Frg} {f0 f1 f2 f3 : Field} (hu : Yabc.prog.underlying t = some (.struct #[f0, f1, f2, f3])) (hp : Yabc.prog.stoodInHeld t = false) (hm : Yabc.prog.eqGuardType Yabc.prog.depth t = false)
    (h0 : f0.type = 3 ∧ f0.offset = 0) (h1 : f1.type = 3 ∧ f1.offset = 1) (h2 : f2.type = 3 ∧ f2.offset = 2) (h3 : f3.type = 9 ∧ f3.offset = 3)
    (hx : ev ρ x = .agg (encF p).toArray) (hy : ev ρ y = .agg (encF p).toArray) : PV ρ w (.binOp .neq t x y t) ty (.bool false) := by
  have hf : Yabc.prog.fieldsOf t = #[f0, f1, f2, f3] := by simp [Program.fieldsOf, hu]
  have key : (Op.equalIn 10000 t (.agg (encF p).toArray) (.agg (encF p).toArray)).run Yabc.prog w = .ok true w := by
    rw [run_equalIn_agg w 9999 t _ _ (by rw [hf]; exact hu) hp, hf]
    have e0 := run_equalIn_int (P := Yabc.prog) w 9998 3 .i64 .i64 p.br p.br Yabc.underlying3
    have e1 := run_equalIn_int (P := Yabc.prog) w 9998 3 .i64 .i64 p.k p.k Yabc.underlying3
    have e2 := run_equalIn_int (P := Yabc.prog) w 9998 3 .i64 .i64 p.st p.st Yabc.underlying3
    have e3 := run_equalIn_string (P := Yabc.prog) w 9998 9 (ByteArray.mk p.s.toArray) (ByteArray.mk p.s.toArray) Yabc.underlying9
    have q0 := rp3 w (encF p).toArray 0 (iv p.br) rfl
    have q1 := rp3 w (encF p).toArray 1 (iv p.k) rfl
    have q2 := rp3 w (encF p).toArray 2 (iv p.st) rfl
    have q3 := rp9 w (encF p).toArray 3 (S p.s) rfl
    simp only [beq_self_eq_true] at e0 e1 e2 e3
    simp only [iv, S] at q0 q1 q2 q3
    simp only [Op.eqFields, h0.1, h0.2, h1.1, h1.2, h2.1, h2.2, h3.1, h3.2]
    simp [Sem.run_ite, q0, q1, q2, q3, e0, e1, e2, e3]
  unfold PV xo execOp
  simp [hx, hy, run_eqGuard_agg w _ _ _ _ _ _ hm, run_neq_struct, key]

theorem sh30 : Yabc.prog.stoodInHeld 30 = false := by kernel_rfl
theorem sh36 : Yabc.prog.stoodInHeld 36 = false := by kernel_rfl
theorem sh67 : Yabc.prog.stoodInHeld 67 = false := by kernel_rfl
theorem sh76 : Yabc.prog.stoodInHeld 76 = false := by kernel_rfl
theorem eg30 : Yabc.prog.eqGuardType Yabc.prog.depth 30 = false := by kernel_rfl
theorem eg36 : Yabc.prog.eqGuardType Yabc.prog.depth 36 = false := by kernel_rfl
theorem eg67 : Yabc.prog.eqGuardType Yabc.prog.depth 67 = false := by kernel_rfl
theorem eg76 : Yabc.prog.eqGuardType Yabc.prog.depth 76 = false := by kernel_rfl
theorem pv_neq30 {p : Tri} (hx : ev ρ x = .agg (encT p).toArray) (hy : ev ρ y = .agg (encT p).toArray) : PV ρ w (.binOp .neq 30 x y 30) ty (.bool false) := pv_neqA Yabc.underlying30 sh30 eg30 ⟨rfl, rfl⟩ ⟨rfl, rfl⟩ ⟨rfl, rfl⟩ hx hy
theorem pv_neq36 {p : Tri} (hx : ev ρ x = .agg (encT p).toArray) (hy : ev ρ y = .agg (encT p).toArray) : PV ρ w (.binOp .neq 36 x y 36) ty (.bool false) := pv_neqA Yabc.underlying36 sh36 eg36 ⟨rfl, rfl⟩ ⟨rfl, rfl⟩ ⟨rfl, rfl⟩ hx hy
theorem pv_neq67 {p : Tri} (hx : ev ρ x = .agg (encT p).toArray) (hy : ev ρ y = .agg (encT p).toArray) : PV ρ w (.binOp .neq 67 x y 67) ty (.bool false) := pv_neqA Yabc.underlying67 sh67 eg67 ⟨rfl, rfl⟩ ⟨rfl, rfl⟩ ⟨rfl, rfl⟩ hx hy
theorem pv_neq76 {p : Frg} (hx : ev ρ x = .agg (encF p).toArray) (hy : ev ρ y = .agg (encF p).toArray) : PV ρ w (.binOp .neq 76 x y 76) ty (.bool false) := pv_neqAF Yabc.underlying76 sh76 eg76 ⟨rfl, rfl⟩ ⟨rfl, rfl⟩ ⟨rfl, rfl⟩ ⟨rfl, rfl⟩ hx hy

end Go.Proofs.Ybuabw
