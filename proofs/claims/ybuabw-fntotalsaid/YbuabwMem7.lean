/-
  MEMORY, seventh part: slice literals of one element. Own work for the seat Ybuabw.
-/
import Derived.Test.YbuabwMem4
namespace Go.Proofs.Ybuabw
open Go.RowKit
set_option linter.unusedVariables false
set_option maxRecDepth 8000

variable {α β : Type} {T : ET α} {w w' w0 : World} {B : Nat} {v : Value} {T1 : ET α} {v1 v1' : Value} {l1 l1' : List α} {T2 : ET β} {v2 v2' : Value} {l2 l2' : List β} {b : Nat} {e : TypeId} {cs : List Value}

theorem Own.lit {x : α} (hT : T.Ok) (hn : New w w' T.e (T.enc x)) (hB : B ≤ w.heap.size) : Own w' B T (.slice (some ⟨w.heap.size, 0, none⟩) 1 1) [x] := by
  have hl := hT.length [x]
  refine ⟨hl, .inr ⟨w.heap.size, 1, (T.enc x).toArray, rfl, hB, by simpa [Blk] using hn.blk, Nat.le_refl _, by unfold maxLen; omega, ?_, ?_⟩⟩
  · simpa using hT.len x
  · simp [hT.len x, List.take_of_length_le]

theorem Tx.new2 (h : Tx w0 w T1 v1 l1 T2 v2 l2 b e cs) (hx : Ext w w') (o : Own w' w.heap.size T2 v2' l2') : Tx w0 w' T1 v1 l1 T2 v2' l2' b e cs :=
  ⟨h.two.new2 hx o, h.blk.ext hx, h.n1, fun e2 => by have h1 := (o.lt b e2.symm).1; have h2 := h.blk.lt; omega⟩

end Go.Proofs.Ybuabw
