/-
  MEMORY, fourth part: two slices beside a struct variable; slices cut at their heads. Own work for the seat Ybuabw.
-/
import Derived.Test.YbuabwMem3
namespace Go.Proofs.Ybuabw
open Go.RowKit
set_option linter.unusedVariables false
set_option maxRecDepth 8000

variable {α : Type} {T : ET α} {w w' : World} {B : Nat} {v : Value} {ρ : Env} {ty t : TypeId} {x y s : Operand} {N : Nat} {ops : Array Oper} {rest : List Oper} {K : Env → World → Prop} {KV : Value → World → Prop}

/-- Two slices of the call's own beside a struct variable. -/
structure Tx {α β : Type} (w0 w : World) (T1 : ET α) (v1 : Value) (l1 : List α) (T2 : ET β) (v2 : Value) (l2 : List β) (b : Nat) (e : TypeId) (cs : List Value) : Prop where
  two : Two w0 w T1 v1 l1 T2 v2 l2
  blk : Blk w b e cs
  n1 : some b ≠ v1.ownBlock
  n2 : some b ≠ v2.ownBlock

section
variable {β : Type} {w0 w2 w3 w4 : World} {T1 : ET α} {v1 v1' : Value} {l1 l1' : List α} {T2 : ET β} {v2 v2' : Value} {l2 l2' : List β} {b : Nat} {e : TypeId} {cs cs0 : List Value}

theorem ne_new {v v' : Value} (h : some b ≠ v.ownBlock) (hb : b < w.heap.size) (g : Gw w w' v v') : some b ≠ v'.ownBlock := by
  rcases g.own with e1 | ⟨b', e1, hb'⟩
  · rw [e1]; exact h
  · rw [e1]; intro e2; have := Option.some.inj e2; omega

theorem Tx.push1 (h : Tx w0 w T1 v1 l1 T2 v2 l2 b e cs) (g : Gw w w' v1 v1') (o : Own w' w0.heap.size T1 v1' l1') : Tx w0 w' T1 v1' l1' T2 v2 l2 b e cs :=
  ⟨h.two.push1 g o, h.blk.keep g.grown h.n1, ne_new h.n1 h.blk.lt g, h.n2⟩
theorem Tx.push2 (h : Tx w0 w T1 v1 l1 T2 v2 l2 b e cs) (g : Gw w w' v2 v2') (o : Own w' w0.heap.size T2 v2' l2') : Tx w0 w' T1 v1 l1 T2 v2' l2' b e cs :=
  ⟨h.two.push2 g o, h.blk.keep g.grown h.n2, h.n1, ne_new h.n2 h.blk.lt g⟩
theorem Tx.nil2 (h : Tx w0 w T1 v1 l1 T2 v2 l2 b e cs) : Tx w0 w T1 v1 l1 T2 (.slice none 0 0) [] b e cs :=
  ⟨h.two.nil2, h.blk, h.n1, by simp [Value.ownBlock]⟩
theorem Tx.nil1 (h : Tx w0 w T1 v1 l1 T2 v2 l2 b e cs) : Tx w0 w T1 (.slice none 0 0) [] T2 v2 l2 b e cs :=
  ⟨h.two.nil1, h.blk, by simp [Value.ownBlock], h.n2⟩
theorem Tx.more (h : Tx w0 w T1 v1 l1 T2 v2 l2 b e cs) (hx : Ext w w') : Tx w0 w' T1 v1 l1 T2 v2 l2 b e cs :=
  ⟨h.two.more hx, h.blk.ext hx, h.n1, h.n2⟩
theorem Tx.bx1 (h : Tx w0 w T1 v1 l1 T2 v2 l2 b e cs) : Bx w0 w T1 v1 l1 b e cs := ⟨h.two.ext, h.two.o1, h.blk, h.n1⟩

theorem Two.keepB (h : Two w0 w T1 v1 l1 T2 v2 l2) {b : Nat} (hg : w.grownBy w' (some b)) (hb : w0.heap.size ≤ b) (h1 : some b ≠ v1.ownBlock) (h2 : some b ≠ v2.ownBlock) : Two w0 w' T1 v1 l1 T2 v2 l2 :=
  ⟨h.ext.step hg (fun g e => by have := Option.some.inj e; omega), h.o1.keep hg (.inr fun e => h1 e.symm), h.o2.keep hg (.inr fun e => h2 e.symm), h.s1, h.s2⟩

theorem ne_fresh {l : List α} {B : Nat} (h : Own w B T v l) : some w.heap.size ≠ v.ownBlock := by
  intro e
  have := (h.lt _ e.symm).2
  omega

/-- A struct variable is made and written. -/
theorem Tx.make (h : Two w0 w2 T1 v1 l1 T2 v2 l2) (hn : New w2 w3 e cs0) (hb : Blk w4 w2.heap.size e cs) (hg : w3.grownBy w4 (some w2.heap.size)) : Tx w0 w4 T1 v1 l1 T2 v2 l2 w2.heap.size e cs :=
  ⟨(h.more hn.ext).keepB hg h.ext.size (ne_fresh h.o1) (ne_fresh h.o2), hb, ne_fresh h.o1, ne_fresh h.o2⟩

/-- The struct variable is written. -/
theorem Tx.write {cs' : List Value} (h : Tx w0 w T1 v1 l1 T2 v2 l2 b e cs) (hB : w0.heap.size ≤ b) (hb : Blk w' b e cs') (hg : w.grownBy w' (some b)) : Tx w0 w' T1 v1 l1 T2 v2 l2 b e cs' :=
  ⟨h.two.keepB hg hB h.n1 h.n2, hb, h.n1, h.n2⟩
end

theorem flat_drop (hT : T.Ok) (l : List α) (n : Nat) (hn : n ≤ l.length) : (l.drop n).flatMap T.enc = (l.flatMap T.enc).drop (n * T.sz) := by
  have h2 : ((l.take n).flatMap T.enc).length = n * T.sz := by rw [hT.length]; simp [Nat.min_eq_left hn]
  have h3 : l.flatMap T.enc = (l.take n).flatMap T.enc ++ (l.drop n).flatMap T.enc := by rw [← List.flatMap_append, List.take_append_drop]
  rw [h3, List.drop_left' h2]
theorem flat_take (hT : T.Ok) (l : List α) (n : Nat) (hn : n ≤ l.length) : (l.take n).flatMap T.enc = (l.flatMap T.enc).take (n * T.sz) := by
  have h2 : ((l.take n).flatMap T.enc).length = n * T.sz := by rw [hT.length]; simp [Nat.min_eq_left hn]
  have h3 : l.flatMap T.enc = (l.take n).flatMap T.enc ++ (l.drop n).flatMap T.enc := by rw [← List.flatMap_append, List.take_append_drop]
  rw [h3, List.take_left' h2]

/-- xs[n:] -/
theorem OwnR.from {l : List α} {ao : Option Addr} {m c : Nat} (hT : T.Ok) (h : OwnR w B T (.slice ao m c) l) (n : Nat) (hn : n ≤ l.length) : OwnR w B T (.slice (if c = n then ao else ao.map (·.add (n * T.sz))) (m - n) (c - n)) (l.drop n) := by
  obtain ⟨ao', cap, hv, hc, hx⟩ := h
  cases hv
  refine ⟨(if c = n then ao else ao.map (·.add (n * T.sz))), c - n, by simp, by simp; omega, ?_⟩
  rcases hx with ⟨rfl, rfl⟩ | ⟨g, off, cs, rfl, hB, hb, ht⟩
  · simp
  · by_cases hcn : c = n
    · rw [if_pos hcn]
      have : l.drop n = [] := List.drop_eq_nil_of_le (by omega)
      rw [this]
      exact .inr ⟨g, off, cs, rfl, hB, hb, by simp⟩
    · rw [if_neg hcn]
      refine .inr ⟨g, off + n * T.sz, cs, by simp [add_none], hB, hb, ?_⟩
      rw [flat_drop hT l n hn, ← ht, List.drop_take, List.drop_drop, List.length_drop, Nat.sub_mul]

/-- xs[:n] -/
theorem OwnR.to {l : List α} {ao : Option Addr} {m c : Nat} (hT : T.Ok) (h : OwnR w B T (.slice ao m c) l) (n : Nat) (hn : n ≤ l.length) : OwnR w B T (.slice ao n c) (l.take n) := by
  obtain ⟨ao', cap, hv, hc, hx⟩ := h
  cases hv
  have e : (l.take n).length = n := by simp; omega
  refine ⟨ao, c, by rw [e], by omega, ?_⟩
  rcases hx with ⟨rfl, rfl⟩ | ⟨g, off, cs, rfl, hB, hb, ht⟩
  · exact .inl ⟨rfl, by simp⟩
  · refine .inr ⟨g, off, cs, rfl, hB, hb, ?_⟩
    rw [e, flat_take hT l n hn, ← ht, List.take_take]
    congr 1
    have := Nat.mul_le_mul_right T.sz hn
    omega

theorem OwnR.form {l : List α} (h : OwnR w B T v l) : ∃ ao c, v = .slice ao l.length c ∧ l.length ≤ c := by
  obtain ⟨ao, c, hv, hc, _⟩ := h
  exact ⟨ao, c, hv, hc⟩

theorem pv_eqlT {a b : Int} (hx : ev ρ x = iv a) (hy : ev ρ y = iv b) (h : a = b) : PV ρ w (.binOp .eql 3 x y 3) ty (.bool true) := by
  have := pv_eql (w := w) (ty := ty) hx hy
  simpa [h] using this
theorem pv_eqlF {a b : Int} (hx : ev ρ x = iv a) (hy : ev ρ y = iv b) (h : ¬ a = b) : PV ρ w (.binOp .eql 3 x y 3) ty (.bool false) := by
  have := pv_eql (w := w) (ty := ty) hx hy
  simpa [h] using this
theorem pv_lssT {a b : Int} (hx : ev ρ x = iv a) (hy : ev ρ y = iv b) (h : a < b) : PV ρ w (.binOp .lss 3 x y 3) ty (.bool true) := by
  have := pv_lss (w := w) (ty := ty) hx hy
  simpa [h] using this
theorem pv_lssF {a b : Int} (hx : ev ρ x = iv a) (hy : ev ρ y = iv b) (h : ¬ a < b) : PV ρ w (.binOp .lss 3 x y 3) ty (.bool false) := by
  have := pv_lss (w := w) (ty := ty) hx hy
  rwa [decide_eq_false h] at this

/-- What was made later does not share a row with what was made earlier. -/
theorem OwnR.sep' {β : Type} {T' : ET β} {l : List α} {l' : List β} {B' : Nat} {v' : Value} {w2 : World} (h : OwnR w B T v l) (h' : OwnR w2 B' T' v' l') (hB : w2.heap.size ≤ B) : Sep v v' := by
  unfold Sep
  cases e : v.ownBlock with
  | none => exact .inl rfl
  | some k => exact .inr (fun e2 => by have h1 := (h.lt k e).1; have h2 := (h'.lt k e2.symm).2; omega)

end Go.Proofs.Ybuabw
