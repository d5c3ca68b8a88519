/-
  MEMORY, fifth part: a slice of slices; arithmetic on naturals. Own work for the seat Ybuabw.
-/
import Derived.Test.YbuabwMem4
namespace Go.Proofs.Ybuabw
open Go.RowKit
set_option linter.unusedVariables false
set_option maxRecDepth 8000

variable {α : Type} {T : ET α} {w w' w0 : World} {B : Nat} {v : Value} {ρ : Env} {ty t : TypeId} {x y s : Operand} {N : Nat} {ops : Array Oper} {rest : List Oper} {K : Env → World → Prop} {KV : Value → World → Prop}

def slv (p : Option Addr × Nat × Nat) : Value := .slice p.1 p.2.1 p.2.2

/-- A slice of slices that is being built, beside the inner slice in hand. -/
structure Ws (w0 w : World) (vw : Value) (P : List ((Option Addr × Nat × Nat) × List Tri)) (vc : Value) (cur : List Tri) : Prop where
  two : Two w0 w tV vw (P.map (·.1)) tI vc cur
  own : ∀ q ∈ P, Own w w0.heap.size tI (slv q.1) q.2
  sw : ∀ q ∈ P, Sep (slv q.1) vw
  sc : ∀ q ∈ P, Sep (slv q.1) vc

section
variable {vw vw' vc vc' : Value} {P : List ((Option Addr × Nat × Nat) × List Tri)} {cur cur' : List Tri}

theorem Ws.start (w : World) : Ws w w (.slice none 0 0) [] (.slice none 0 0) [] :=
  ⟨Two.start w tV tI, by simp, by simp, by simp⟩

theorem Ws.more (h : Ws w0 w vw P vc cur) (hx : Ext w w') : Ws w0 w' vw P vc cur :=
  ⟨h.two.more hx, fun q hq => (h.own q hq).ext hx, h.sw, h.sc⟩

theorem Ws.keepB (h : Ws w0 w vw P vc cur) {b : Nat} (hg : w.grownBy w' (some b)) (hb : w0.heap.size ≤ b) (h1 : some b ≠ vw.ownBlock) (h2 : some b ≠ vc.ownBlock) (h3 : ∀ q ∈ P, some b ≠ (slv q.1).ownBlock) : Ws w0 w' vw P vc cur :=
  ⟨h.two.keepB hg hb h1 h2, fun q hq => (h.own q hq).keep hg (.inr fun e => h3 q hq e.symm), h.sw, h.sc⟩

theorem Ws.pushC (h : Ws w0 w vw P vc cur) (g : Gw w w' vc vc') (o : Own w' w0.heap.size tI vc' cur') : Ws w0 w' vw P vc' cur' :=
  ⟨h.two.push2 g o, fun q hq => (h.own q hq).keep g.grown (h.sc q hq), h.sw, fun q hq => g.sep (h.sc q hq) (fun k hk => ((h.own q hq).lt k hk).2)⟩

theorem Ws.nilC (h : Ws w0 w vw P vc cur) : Ws w0 w vw P (.slice none 0 0) [] :=
  ⟨h.two.nil2, h.own, h.sw, fun q hq => Sep.nil_right _⟩

/-- The slice in hand is laid into the row of slices. -/
theorem Ws.pushW {a : Option Addr} {n c : Nat} (h : Ws w0 w vw P (.slice a n c) cur) (g : Gw w w' vw vw') (o : Own w' w0.heap.size tV vw' ((P ++ [((a, n, c), cur)]).map (·.1))) : Ws w0 w' vw' (P ++ [((a, n, c), cur)]) (.slice none 0 0) [] := by
  have h2 := h.two.push1 g o
  refine ⟨h2.nil2, ?_, ?_, fun q hq => Sep.nil_right _⟩
  · intro q hq
    rcases List.mem_append.1 hq with hq | hq
    · exact (h.own q hq).keep g.grown (h.sw q hq)
    · simp at hq; subst hq; exact h2.o2
  · intro q hq
    rcases List.mem_append.1 hq with hq | hq
    · exact g.sep (h.sw q hq) (fun k hk => ((h.own q hq).lt k hk).2)
    · simp at hq; subst hq; exact h2.s2
end

/-- The slice in hand beside a struct variable. -/
structure Wx (w0 w : World) (vw : Value) (P : List ((Option Addr × Nat × Nat) × List Tri)) (vc : Value) (cur : List Tri) (b : Nat) (e : TypeId) (cs : List Value) : Prop where
  ws : Ws w0 w vw P vc cur
  blk : Blk w b e cs

theorem Wx.make {w2 w3 w4 : World} {vw vc : Value} {P : List ((Option Addr × Nat × Nat) × List Tri)} {cur : List Tri} {e : TypeId} {cs0 cs : List Value} (h : Ws w0 w2 vw P vc cur) (hn : New w2 w3 e cs0) (hb : Blk w4 w2.heap.size e cs) (hg : w3.grownBy w4 (some w2.heap.size)) : Wx w0 w4 vw P vc cur w2.heap.size e cs :=
  ⟨(h.more hn.ext).keepB hg h.two.ext.size (ne_fresh h.two.o1) (ne_fresh h.two.o2) (fun q hq => ne_fresh (h.own q hq)), hb⟩

theorem pv_quoN {a b : Nat} {i j : Int} (hx : ev ρ x = iv i) (hy : ev ρ y = iv j) (hi : i = a) (hj : j = b) (h1 : a ≤ 9223372036854775807) (h2 : 0 < b) : PV ρ w (.binOp .quo 3 x y 3) ty (iv ((a / b : Nat) : Int)) := by
  subst hi hj
  have := pv_quo (w := w) (ty := ty) hx hy (by omega) (by omega) (by omega)
  simpa using this
theorem pv_remN {a b : Nat} {i j : Int} (hx : ev ρ x = iv i) (hy : ev ρ y = iv j) (hi : i = a) (hj : j = b) (h2 : 0 < b) : PV ρ w (.binOp .rem 3 x y 3) ty (iv ((a % b : Nat) : Int)) := by
  subst hi hj
  have := pv_rem (w := w) (ty := ty) hx hy (by omega) (by omega)
  simpa using this
theorem pv_mulN {a b : Nat} {i j : Int} (hx : ev ρ x = iv i) (hy : ev ρ y = iv j) (hi : i = a) (hj : j = b) (h : a * b ≤ 9223372036854775807) : PV ρ w (.binOp .mul 3 x y 3) ty (iv ((a * b : Nat) : Int)) := by
  subst hi hj
  have h' : ((a * b : Nat) : Int) ≤ 9223372036854775807 := by omega
  have h0 : (0 : Int) ≤ ((a * b : Nat) : Int) := by omega
  rw [Int.natCast_mul] at h' h0
  have := pv_mul (w := w) (ty := ty) hx hy ⟨by omega, h'⟩
  simpa using this
/-- A sum, said otherwise. -/
theorem pv_addN {i j : Int} (n : Int) (hx : ev ρ x = iv i) (hy : ev ρ y = iv j) (h : i + j = n) (hb : -9223372036854775808 ≤ n ∧ n ≤ 9223372036854775807) : PV ρ w (.binOp .add 3 x y 3) ty (iv n) := by
  subst h
  exact pv_add hx hy hb
theorem pv_subN {i j : Int} (n : Int) (hx : ev ρ x = iv i) (hy : ev ρ y = iv j) (h : i - j = n) (hb : -9223372036854775808 ≤ n ∧ n ≤ 9223372036854775807) : PV ρ w (.binOp .sub 3 x y 3) ty (iv n) := by
  subst h
  exact pv_sub hx hy hb

end Go.Proofs.Ybuabw
