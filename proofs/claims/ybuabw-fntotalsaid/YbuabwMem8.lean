/-
  MEMORY, eighth part: a field of an element is written. Own work for the seat Ybuabw.
-/
import Derived.Test.YbuabwMem7
namespace Go.Proofs.Ybuabw
open Go.RowKit
set_option linter.unusedVariables false
set_option maxRecDepth 8000

variable {α : Type} {T : ET α} {w w' w0 : World} {B : Nat} {v : Value} {ρ : Env} {ty t : TypeId} {x y s : Operand} {KV : Value → World → Prop}

theorem splice_fld (hT : T.Ok) (l : List α) (k o : Nat) (x1 : α) (u : Value) (hk : k < l.length) (ho : o < T.sz) (hx : T.enc x1 = (T.enc l[k]).take o ++ [u] ++ (T.enc l[k]).drop (o + 1)) :
    (l.set k x1).flatMap T.enc = (l.flatMap T.enc).take (k * T.sz + o) ++ [u] ++ (l.flatMap T.enc).drop (k * T.sz + o + 1) := by
  have h1 : (l.take k).length = k := by simp; omega
  have e2 : l.flatMap T.enc = (l.take k).flatMap T.enc ++ (T.enc l[k] ++ (l.drop (k + 1)).flatMap T.enc) := by
    rw [← List.flatMap_cons, ← List.flatMap_append]
    congr 1
    simp
  have hl : ((l.take k).flatMap T.enc).length = k * T.sz := by rw [hT.length, h1]
  have hle := hT.len l[k]
  have key : ∀ (A X D : List Value), A.length = k * T.sz → X.length = T.sz → (A ++ (X ++ D)).take (k * T.sz + o) = A ++ X.take o ∧ (A ++ (X ++ D)).drop (k * T.sz + o + 1) = X.drop (o + 1) ++ D := by
    intro A X D hA hX
    constructor
    · rw [List.take_append, hA, List.take_of_length_le (by omega), show k * T.sz + o - k * T.sz = o by omega, List.take_append_of_le_length (by omega)]
    · rw [Nat.add_assoc, List.drop_append, hA, List.drop_eq_nil_of_le (by omega), show k * T.sz + (o + 1) - k * T.sz = o + 1 by omega, List.drop_append_of_le_length (by omega)]
      simp
  obtain ⟨k1, k2⟩ := key _ _ ((l.drop (k + 1)).flatMap T.enc) hl hle
  rw [List.set_eq_take_append_cons_drop, if_pos hk, e2, k1, k2, List.flatMap_append, List.flatMap_cons, hx]
  simp

theorem ev_stF {l : List α} {k o : Nat} {u : Value} (x1 : α) (hT : T.Ok) (h : OwnR w B T v l) (hk : k < l.length) (ho : o < T.sz) (hsz : (Yabc.prog.info? t).map (fun i => i.size) = some 1)
    (hx : ev ρ x = .pointer (some (((base v).add (k * T.sz)).add o))) (hy : (ev ρ y).cells = [u].toArray) (hu : u.oneCell' = true) (he : T.enc x1 = (T.enc l[k]).take o ++ [u] ++ (T.enc l[k]).drop (o + 1))
    (kk : ∀ w', OwnR w' B T v (l.set k x1) → w.grownBy w' v.ownBlock → w'.heap.size = w.heap.size → (∀ g, v.ownBlock = some g → B ≤ g) → KV undef w') : EV ρ w (.store t x y) ty KV := by
  obtain ⟨ao, cap, rfl, hc, hx'⟩ := h
  rcases hx' with ⟨_, rfl⟩ | ⟨g, off, cs, rfl, hB, hb, ht⟩
  · simp at hk
  have hlen := hT.length l
  have hcl : off + l.length * T.sz ≤ cs.length := by
    have := congrArg List.length ht
    rw [hlen, List.length_take, List.length_drop] at this
    have h0 : 0 < l.length * T.sz := Nat.mul_pos (by omega) hT.pos
    omega
  have hks : k * T.sz + T.sz ≤ l.length * T.sz := by
    rw [← Nat.succ_mul]; exact Nat.mul_le_mul_right _ hk
  refine ev_st (off := off + (k * T.sz + o)) (nw := [u]) hb hsz (by rw [hx]; simp [base, add_none, Nat.add_assoc]) hy (by simp only [List.length_singleton]; omega) (by simpa using hu) fun w' hb' hg hs => ?_
  refine kk w' ⟨some ⟨g, off, none⟩, cap, by simp, by simpa using hc, .inr ⟨g, off, _, rfl, hB, hb', ?_⟩⟩ hg hs (fun g' e => by simp [Value.ownBlock] at e; omega)
  rw [splice_fld hT l k o x1 u hk ho he, List.length_set]
  rw [← hlen] at ht ⊢
  exact splice_list cs _ _ off (k * T.sz + o) 1 rfl (by rw [hlen]; omega) ht

end Go.Proofs.Ybuabw
