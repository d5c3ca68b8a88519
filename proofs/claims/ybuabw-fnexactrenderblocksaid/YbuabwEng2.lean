/-
  THE ENGINE, second part: regions that draw their order and in which two events may come up at once. Own work for the seat Ybuabw.
-/
import Derived.Test.YbuabwEng
namespace Go.Proofs.Ybuabw
open Go.RowKit
set_option linter.unusedVariables false

variable {N : Nat} {ops : Array Oper} {C : World → Prop} {n : Nat} {listed : Array Bool} {ρ : Env} {w : World} {K : Env → World → Prop} {X : Nat → Env → World → Prop} {R : Env → World → Prop}

def DX (N : Nat) (ops : Array Oper) (C : World → Prop) (n : Nat) (listed : Array Bool) (ρ : Env) (w : World) (K : Env → World → Prop) : Prop :=
  ∀ a, Fr N ρ a → C w → Region.noSelect ops = true → ∀ (Q : Act → World → Prop), (∀ a' ρ' w', Fr N ρ' a' → K ρ' w' → Q a' w') → anyC ops C Q n listed a w

def chkP (ops : Array Oper) (listed : Array Bool) (i : Nat) : Bool := (Region.ready .any ops listed).contains i && Region.free .any ops listed i

theorem xu {i d : Nat} {op : Op} {ty : TypeId} {p : String} {af : Array Edge} {v : Value} (hc : chkP ops listed i = true) (ho : ops[i]? = some (Oper.mk (some d) op ty p af none)) (hd : Nat.blt d N = true) (h : ∀ w', C w' → PV ρ w' op ty v)
    (k : DX N ops C n (listed.setIfInBounds i true) (upd ρ d v) w K) : DX N ops C (n + 1) listed ρ w K := by
  intro a ha hC hs Q hQ
  simp only [chkP, Bool.and_eq_true] at hc
  refine anyC_first ho (Region.noSelect_spec hs) _ listed a w (Region.free_spec ho hc.2) (by simpa using hc.1) (.inl ⟨rfl, fun w' hw' => by rw [ha.eval]; exact h w' hw'⟩) hC ?_
  exact k _ (ha.put hd v) hC hs Q hQ

/-- The rest by one order. -/
theorem DX.rest (ord : List (Nat × Bool)) (hn : ord.length = n) (hB : ordB ops listed ord = true) (h : DW N ops C ord ρ w K) : DX N ops C n listed ρ w K := by
  subst hn
  exact fun a ha hC hs Q hQ => h a ha hC hs listed Q hB hQ

/-- Two events may come up: each first. -/
theorem DX.two {i j d e : Nat} {op op' : Op} {ty ty' : TypeId} {p p' : String} {af af' : Array Edge} (hr : (Region.ready .any ops listed == [i, j]) = true)
    (ho : ops[i]? = some (Oper.mk (some d) op ty p af none)) (ho' : ops[j]? = some (Oper.mk (some e) op' ty' p' af' none)) (hd : Nat.blt d N = true) (he : Nat.blt e N = true)
    (h1 : EV ρ w op ty fun v w' => C w' ∧ DX N ops C n (listed.setIfInBounds i true) (upd ρ d v) w' K)
    (h2 : EV ρ w op' ty' fun v w' => C w' ∧ DX N ops C n (listed.setIfInBounds j true) (upd ρ e v) w' K) : DX N ops C (n + 1) listed ρ w K := by
  intro a ha hC hs Q hQ
  have hr' : Region.ready .any ops listed = [i, j] := by simpa using hr
  refine ⟨fun h => (by rw [h] at hr'; cases hr'), fun k hk => ?_⟩
  rw [hr'] at hk
  have hk2 : k = i ∨ k = j := by simpa using hk
  rcases hk2 with rfl | rfl
  · unfold doesOp
    simp only [ho]
    rw [if_pos (by simp [Region.wanted])]
    exact (EV.does (o := Oper.mk (some d) op ty p af none) ha.eval h1).mono fun v w' ⟨hC', hk⟩ => ⟨hC', hk _ (ha.put hd v) hC' hs Q hQ⟩
  · unfold doesOp
    simp only [ho']
    rw [if_pos (by simp [Region.wanted])]
    exact (EV.does (o := Oper.mk (some e) op' ty' p' af' none) ha.eval h2).mono fun v w' ⟨hC', hk⟩ => ⟨hC', hk _ (ha.put he v) hC' hs Q hQ⟩

theorem SX.drawX {id : Nat} {l : List Oper} (C : World → Prop) (hB : Region.noSelect l.toArray = true) (hC : C w.drew) (h : DX N l.toArray C l.toArray.size (Array.replicate l.toArray.size false) ρ w.drew K) : SX N (.region id l.toArray true) ρ w K X R := by
  intro a ha
  refine wp_region_any mixed (anyC_any (C := C) (Q := fun a w => ∃ ρ', Fr N ρ' a ∧ K ρ' w) (fun a w h => h) _ _ _ _ ?_)
  exact h a ha hC hB (fun a w => ∃ ρ', Fr N ρ' a ∧ K ρ' w) fun a' ρ' w' h1 h2 => ⟨ρ', h1, h2⟩

end Go.Proofs.Ybuabw
