/-
  THE STATEMENT Rows.FnExactRenderBlockSaid, PROVED: the frame is the guide's template at this function's number and types; the walk is ours.
-/
import Derived.Test.YbuabwRows
import Derived.Test.YbuabwL10
import Derived.Test.YbuabwOpen
import Derived.ProofKit
import Derived.SizedLaws
namespace Go.Proofs.Ybuabw.fnExactRenderBlock
open Go.ChangeShapes Go.WideShapes Go.ChangeAt Go.RowKit
set_option linter.unusedVariables false

theorem walk (b : Tri) (z : Int) (w : World) (hz : (Lit.int .i64 z).wf = true) (hs : b.s.length ≤ 140737488355328) : Calls Yabc.prog 12 #[.agg (encT b).toArray, .int .i64 z] w fun e w' => e = .returned (.bool true) ∧ Ext w w' := by
  have hz2 : z ≤ 9223372036854775807 := by
    simp only [Lit.wf, Bool.and_eq_true, decide_eq_true_eq] at hz
    have h2 : IntKind.i64.max = 9223372036854775807 := rfl
    omega
  have h := f12_ok b z w hz2 hs
  unfold Fn at h
  exact h.mono fun e w' ⟨v, he, hv, hx⟩ => ⟨by rw [he, hv], hx⟩

set_option maxRecDepth 100000 in
theorem lifted (os : Os) (started : os.Started) (H : Type) (enc : TypeId × Value → H) :
    ReturnsInHanded {} Yabc.checked os 12 .any (Rows.fnExactRenderBlockSpec.pre6 enc Yabc.prog Yabc.f12 Rows.fnExactRenderBlockRow.domain false) (Rows.fnExactRenderBlockSpec.post enc Yabc.prog Yabc.f12 false true false false) := by
  refine returnsInHanded_of_change_sized (C := Yabc.checked) ownK started (by kernel_rfl) Yabc.func12
    (ChangeSpec.witness6 (enc := enc) (C := Yabc.checked) false ⟨#[], #[.agg #[.int .i64 0, .int .i64 0, .string ByteArray.empty], .int .i64 0], []⟩ 8 (by kernel_rfl) (by kernel_rfl) (by kernel_rfl) (by kernel_rfl)) ?_
  intro W base args ds gs before hval0 hW _ hsz0 _
  have hsz : (DataW.weightsEach Yabc.prog (Yabc.f12.params.toList ++ Rows.fnExactRenderBlockSpec.plain.varTypes Yabc.prog) (ds ++ gs)).all (· ≤ reachBytes) = true := hsz0
  clear hsz0
  have hval : ∀ (j : Nat) t v, Yabc.f12.params[j]? = some t → args[j]? = some v → Value.okWide Yabc.prog W .any base t v := hval0
  have hW' := hW
  obtain ⟨p, q, hA0, hV, rfl, _, _⟩ := hW
  have hA : DataW.TrodAll enc Yabc.prog W 0 (fun _ => true) true Yabc.f12.params.toList args.toList ds p := hA0
  rw [Yabc.params12] at hA hval hsz
  obtain ⟨v0, v1, d0, d1, p0, p1, rfl, rfl, rfl, h0, h1⟩ := trodAll_two hA
  obtain ⟨rfl, rfl⟩ := trodVars_none hV
  obtain ⟨m, rfl, rfl, rfl, wm⟩ := open_int Yabc.underlying3 (hval 1 3 v1 rfl rfl) h1
  obtain ⟨cs, rfl, _⟩ := okWide_struct Yabc.underlying30 (hval 0 30 v0 rfl rfl)
  have h0k := h0
  obtain ⟨fuel, hf⟩ := h0
  clear hA0 hval0
  simp only [List.append_nil] at hW'
  have hlt : ∀ x ∈ p0, x.block < W.heap.size := fun x hx => by simpa using hW'.lt x (by simp [hx])
  obtain ⟨b, hcs, hd⟩ := open_tri_aux Yabc.underlying30 ce30 rfl hf
  obtain rfl : cs = (encT b).toArray := by
    have e : cs.toList = encT b := hcs
    rw [← e]
  simp only at hd
  subst hd
  have hbs : b.s.length ≤ 140737488355328 := by
    have hmem : b.s.length ∈ DataW.weightsEach Yabc.prog _ _ := DataW.weights_mem_each (j := 0) (ts := #[30, 3].toList ++ Rows.fnExactRenderBlockSpec.plain.varTypes Yabc.prog) (ds := [triD H b, .lit (.int .i64 m)] ++ []) rfl rfl _ (w30 b)
    have h3 : b.s.length ≤ reachBytes := by simpa using List.all_eq_true.1 hsz _ hmem
    unfold reachBytes at h3
    omega
  refine (walk b m W wm hbs).mono fun e W' ⟨he, hg⟩ => ?_
  subst he
  have hargs : DataW.Trod enc Yabc.prog W' 0 (fun b => decide (b < W.heap.size)) true 30 (.agg (encT b).toArray) (triD H b) p0 :=
    Below.trod laid (by kernel_rfl) (of_decide_eq_true (by kernel_rfl)) h0k hg.below hlt
  exact ⟨_, rfl, _, _, _, [], _, [], hW', trodAll_mk1 (shut_bool Yabc.underlying4 _), trodAll_mk2 hargs (shut_int Yabc.underlying3 wm), rfl, hg.below.frame _, fun h => by cases h⟩

theorem over : Rows.fnExactRenderBlockRow.holds Yabc.pinned (OpenSpec.ofChange Rows.fnExactRenderBlockSpec) :=
  OpenClaim.holds_of_wide 12 Yabc.f12 rfl rfl rfl rfl rfl rfl rfl ⟨rfl, rfl, rfl, rfl, rfl⟩ rfl rfl rfl rfl rfl (by kernel_rfl) Yabc.func12 (by kernel_rfl)
    (of_decide_eq_true (by kernel_rfl)) (by unfold Func.isWrapper; first | (rw [if_pos (by decide +kernel)]; kernel_rfl) | (rw [if_neg (by decide +kernel)]; exact ⟨rfl, rfl⟩))
    (fun os started H enc _ => lifted os started H enc)

/-- THE STATEMENT -/
theorem proved : Rows.FnExactRenderBlockSaid := over
#print axioms proved
end Go.Proofs.Ybuabw.fnExactRenderBlock
