/-
  THE STATEMENT Rows.FnExactRenderAllSaid, PROVED: the frame is the guide's template at this function's number and types; the walk is ours.
-/
import Derived.Test.YbuabwRows
import Derived.Test.YbuabwL11
import Derived.Test.YbuabwOpen
import Derived.ProofKit
import Derived.SizedLaws
namespace Go.Proofs.Ybuabw.fnExactRenderAll
open Go.ChangeShapes Go.WideShapes Go.ChangeAt Go.RowKit
set_option linter.unusedVariables false

theorem walk (v : Value) (z : Int) (l : List Tri) (w : World) (hz : (Lit.int .i64 z).wf = true) (h : Rd w tK v l) (h1 : l.length ≤ 4398046511104) (h2 : ∀ p ∈ l, p.s.length ≤ 140737488355328) : Calls Yabc.prog 13 #[v, .int .i64 z] w fun e w' => e = .returned (.bool true) ∧ Ext w w' := by
  have h := f13_ok v l z w hz h h1 h2
  unfold Fn at h
  exact h.mono fun e w' ⟨v, he, hv, hx⟩ => ⟨by rw [he, hv], hx⟩

set_option maxRecDepth 100000 in
theorem lifted (os : Os) (started : os.Started) (H : Type) (enc : TypeId × Value → H) :
    ReturnsInHanded {} Yabc.checked os 13 .any (Rows.fnExactRenderAllSpec.pre6 enc Yabc.prog Yabc.f13 Rows.fnExactRenderAllRow.domain false) (Rows.fnExactRenderAllSpec.post enc Yabc.prog Yabc.f13 false true false false) := by
  refine returnsInHanded_of_change_sized (C := Yabc.checked) ownK started (by kernel_rfl) Yabc.func13
    (ChangeSpec.witness6 (enc := enc) (C := Yabc.checked) false ⟨#[], #[.slice none 0 0, .int .i64 0], []⟩ 8 (by kernel_rfl) (by kernel_rfl) (by kernel_rfl) (by kernel_rfl)) ?_
  intro W base args ds gs before hval0 hW _ hsz0 _
  have hsz : (DataW.weightsEach Yabc.prog (Yabc.f13.params.toList ++ Rows.fnExactRenderAllSpec.plain.varTypes Yabc.prog) (ds ++ gs)).all (· ≤ reachBytes) = true := hsz0
  clear hsz0
  have hval : ∀ (j : Nat) t v, Yabc.f13.params[j]? = some t → args[j]? = some v → Value.okWide Yabc.prog W .any base t v := hval0
  have hW' := hW
  obtain ⟨p, q, hA0, hV, rfl, _, _⟩ := hW
  have hA : DataW.TrodAll enc Yabc.prog W 0 (fun _ => true) true Yabc.f13.params.toList args.toList ds p := hA0
  rw [Yabc.params13] at hA hval hsz
  obtain ⟨v0, v1, d0, d1, p0, p1, rfl, rfl, rfl, h0, h1⟩ := trodAll_two hA
  obtain ⟨rfl, rfl⟩ := trodVars_none hV
  obtain ⟨m, rfl, rfl, rfl, wm⟩ := open_int Yabc.underlying3 (hval 1 3 v1 rfl rfl) h1
  obtain ⟨a0, len, cap, rfl⟩ := okWide_slice Yabc.underlying27 (hval 0 27 v0 rfl rfl)
  have h0k := h0
  obtain ⟨fuel, hf⟩ := h0
  clear hA0 hval0
  simp only [List.append_nil] at hW'
  have hlt : ∀ x ∈ p0, x.block < W.heap.size := fun x hx => by simpa using hW'.lt x (by simp [hx])
  obtain ⟨l, hrd, hd⟩ := open_sl (T := tK) okK ⟨⟨0, 0, []⟩⟩ Yabc.underlying27 ce30 (triD H) (fun h => open_tri_aux Yabc.underlying30 ce30 rfl h) hf
  have hl12 : l.length ≤ 4398046511104 ∧ ∀ p ∈ l, p.s.length ≤ 140737488355328 := by
    rcases hd with ⟨_, rfl⟩ | ⟨sp, hsp⟩
    · exact ⟨Nat.zero_le _, fun p hp => by cases hp⟩
    · simp only at hsp
      subst hsp
      have := reach_sl (sOf := fun p : Tri => p.s) Yabc.underlying27 by30 w30 hsz rfl rfl
      exact ⟨by omega, this.2⟩
  obtain ⟨hl1, hl2⟩ := hl12
  refine (walk (.slice a0 len cap) m l W wm hrd hl1 hl2).mono fun e W' ⟨he, hg⟩ => ?_
  subst he
  have hargs : DataW.Trod enc Yabc.prog W' 0 (fun b => decide (b < W.heap.size)) true 27 (.slice a0 len cap) d0 p0 :=
    Below.trod laid (by kernel_rfl) (of_decide_eq_true (by kernel_rfl)) h0k hg.below hlt
  exact ⟨_, rfl, _, _, _, [], _, [], hW', trodAll_mk1 (shut_bool Yabc.underlying4 _), trodAll_mk2 hargs (shut_int Yabc.underlying3 wm), rfl, hg.below.frame _, fun h => by cases h⟩

theorem over : Rows.fnExactRenderAllRow.holds Yabc.pinned (OpenSpec.ofChange Rows.fnExactRenderAllSpec) :=
  OpenClaim.holds_of_wide 13 Yabc.f13 rfl rfl rfl rfl rfl rfl rfl ⟨rfl, rfl, rfl, rfl, rfl⟩ rfl rfl rfl rfl rfl (by kernel_rfl) Yabc.func13 (by kernel_rfl)
    (of_decide_eq_true (by kernel_rfl)) (by unfold Func.isWrapper; first | (rw [if_pos (by decide +kernel)]; kernel_rfl) | (rw [if_neg (by decide +kernel)]; exact ⟨rfl, rfl⟩))
    (fun os started H enc _ => lifted os started H enc)

/-- THE STATEMENT -/
theorem proved : Rows.FnExactRenderAllSaid := over
#print axioms proved
end Go.Proofs.Ybuabw.fnExactRenderAll
