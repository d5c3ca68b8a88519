/-
  MEMORY, ninth part: bytes that grow beside lines that are read; and the plain law of all blocks shown. Own work for the seat Ybuabw.
-/
import Derived.Test.YbuabwMem6
import Derived.Test.YbuabwPlain6
namespace Go.Proofs.Ybuabw
open Go.RowKit
set_option linter.unusedVariables false
set_option maxRecDepth 20000

structure Og (w0 w : World) (vo : Value) (out : List UInt8) (B : Nat) (vg : Value) (G : List Str) : Prop where
  ext : Ext w0 w
  own : Own w w0.heap.size tB vo out
  rg : OwnR w B tS vg G
  sg : Sep vg vo

section
variable {w0 w w' : World} {vo vo' vg : Value} {out out' : List UInt8} {B : Nat} {G : List Str}
theorem Og.more (h : Og w0 w vo out B vg G) (hx : Ext w w') : Og w0 w' vo out B vg G := ⟨h.ext.trans hx, h.own.ext hx, h.rg.ext hx, h.sg⟩
theorem Og.push (h : Og w0 w vo out B vg G) (g : Gw w w' vo vo') (o : Own w' w0.heap.size tB vo' out') : Og w0 w' vo' out' B vg G :=
  ⟨h.ext.step g.grown (fun k hk => (h.own.lt k hk).1), o, h.rg.keep g.grown h.sg, g.sep h.sg (fun k hk => (h.rg.lt k hk).2)⟩
/-- The lines come from a call. -/
theorem Og.call (hx : Ext w0 w) (ho : Own w w0.heap.size tB vo out) (hx2 : Ext w w') (hg : OwnR w' w.heap.size tS vg G) : Og w0 w' vo out w.heap.size vg G :=
  ⟨hx.trans hx2, ho.ext hx2, hg, by
    unfold Sep
    cases e : vg.ownBlock with
    | none => exact .inl rfl
    | some k => exact .inr (fun e2 => by have h1 := (hg.lt k e).1; have h2 := (ho.lt k e2.symm).2; omega)⟩
end

def grpN (g : List Str) : Nat → Str
  | 0 => []
  | k + 1 => grpN g k ++ g.getD k [] ++ [10]
theorem grpN_len (g : List Str) : ∀ k, k ≤ g.length → (grpN g k).length ≤ ttl (g.take k) + k
  | 0, _ => by simp [grpN]
  | k + 1, h => by
    have ih := grpN_len g k (by omega)
    rw [grpN, ttl_take g k (by omega), getD_lt _ _ _ (show k < g.length by omega)]
    simp only [List.length_append, List.length_singleton]
    omega

def sepN (n : Nat) : Str := if 0 < n then [10] else []
def raStep (z : Int) (x : Str × Nat) (b : Tri) : Str × Nat :=
  if renderBlock b z = [] then x else (x.1 ++ sepN x.2 ++ grpN (renderBlock b z) (renderBlock b z).length, x.2 + 1)
def raN (l : List Tri) (z : Int) : Nat → Str × Nat
  | 0 => ([], 0)
  | k + 1 => if h : k < l.length then raStep z (raN l z k) l[k] else raN l z k
def renderAll (l : List Tri) (z : Int) : Str := (raN l z l.length).1

theorem raN_step (l : List Tri) (z : Int) (k : Nat) (h : k < l.length) : raN l z (k + 1) = raStep z (raN l z k) l[k] := by rw [raN, dif_pos h]

theorem sepN_len (n : Nat) : (sepN n).length ≤ 1 := by unfold sepN; split <;> simp

theorem raN_len (l : List Tri) (z : Int) (hl : ∀ p ∈ l, p.s.length ≤ 1048576) : ∀ k, k ≤ l.length → (raN l z k).1.length ≤ 67108864 * k ∧ (raN l z k).2 ≤ k
  | 0, _ => by simp [raN]
  | k + 1, h => by
    have ih := raN_len l z hl k (by omega)
    rw [raN_step l z k (by omega)]
    unfold raStep
    have hb := renderBlock_bd l[k] z
    have hs := hl l[k] (List.getElem_mem _)
    split
    · exact ⟨by have := ih.1; omega, by have := ih.2; omega⟩
    · have h1 := grpN_len (renderBlock l[k] z) _ (Nat.le_refl _)
      rw [List.take_length] at h1
      have h2 := sepN_len (raN l z k).2
      simp only [List.length_append]
      omega

end Go.Proofs.Ybuabw
