/-
  THE STATEMENT Rows.FnTotalSaid, PROVED: the frame is the guide's template at this function's number and types; the walk is ours.
-/
import Derived.Test.YbuabwRows
import Derived.Test.YbuabwL12
import Derived.ProofKit
namespace Go.Proofs.Ybuabw.fnTotal
open Go.ChangeShapes Go.WideShapes Go.ChangeAt Go.RowKit
open Go.ChangeMaps (open_string shut_string)
set_option linter.unusedVariables false

theorem own : ownKnob Yabc.prog.godebug = none := by kernel_rfl

theorem walk (a0 : ByteArray) (w : World) : Calls Yabc.prog 3 #[.string a0] w fun e w' => e = .returned (.bool true) ∧ Ext w w' := by
  have h := f3_ok a0.data.toList w
  unfold Fn S at h
  rw [Array.toArray_toList] at h
  exact h.mono fun e w' ⟨v, he, hv, hx⟩ => ⟨by rw [he, hv], hx⟩

set_option maxRecDepth 100000 in
theorem lifted (os : Os) (started : os.Started) (H : Type) (enc : TypeId × Value → H) :
    ReturnsInHanded {} Yabc.checked os 3 .any (Rows.fnTotalSpec.pre6 enc Yabc.prog Yabc.f3 Rows.fnTotalRow.domain false) (Rows.fnTotalSpec.post enc Yabc.prog Yabc.f3 false true false false) := by
  refine returnsInHanded_of_change (C := Yabc.checked) own started (by kernel_rfl) Yabc.func3
    (ChangeSpec.witness6 (enc := enc) (C := Yabc.checked) false ⟨#[], #[.string ByteArray.empty], []⟩ 8 (by kernel_rfl) (by kernel_rfl) (by kernel_rfl) (by kernel_rfl)) ?_
  intro W base args ds gs before hval0 hW hcnd _
  have hval : ∀ (j : Nat) t v, Yabc.f3.params[j]? = some t → args[j]? = some v → Value.okWide Yabc.prog W .any base t v := hval0
  have hW' := hW
  obtain ⟨p, q, hA0, hV, rfl, hfz, hnd⟩ := hW
  have hA : DataW.TrodAll enc Yabc.prog W 0 (fun _ => true) true Yabc.f3.params.toList args.toList ds p := hA0
  rw [Yabc.params3] at hA hval
  obtain ⟨v0, vs0, d0, ds0, p0, q0, hargs, rfl, rfl, h0, r0⟩ := trodAll_cons hA
  obtain ⟨rfl, rfl, rfl⟩ := trodAll_nil r0
  obtain rfl : args = #[v0] := by cases args; simp_all
  obtain ⟨rfl, rfl⟩ := trodVars_none hV
  obtain ⟨a0, rfl, rfl, rfl, w0⟩ := open_string Yabc.underlying9 (hval 0 9 v0 rfl rfl) h0
  clear hA0 hval0
  simp only [List.append_nil] at hW'
  refine (walk a0 W).mono fun e W' ⟨he, hg⟩ => ?_
  subst he
  exact ⟨_, rfl, _, _, _, [], [], [], hW', trodAll_mk1 (shut_bool Yabc.underlying4 _), trodAll_mk1 (shut_string Yabc.underlying9 w0), rfl, hg.below.frame _, fun h => by cases h⟩

theorem over : Rows.fnTotalRow.holds Yabc.pinned (OpenSpec.ofChange Rows.fnTotalSpec) :=
  OpenClaim.holds_of_wide 3 Yabc.f3 rfl rfl rfl rfl rfl rfl rfl ⟨rfl, rfl, rfl, rfl, rfl⟩ rfl rfl rfl rfl rfl (by kernel_rfl) Yabc.func3 (by kernel_rfl)
    (of_decide_eq_true (by kernel_rfl)) (by unfold Func.isWrapper; first | (rw [if_pos (by decide +kernel)]; kernel_rfl) | (rw [if_neg (by decide +kernel)]; exact ⟨rfl, rfl⟩))
    (fun os started H enc _ => lifted os started H enc)

/-- THE STATEMENT -/
theorem proved : Rows.FnTotalSaid := over
#print axioms proved
end Go.Proofs.Ybuabw.fnTotal
