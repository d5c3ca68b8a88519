/-
  PLAIN FACTS on lists and numbers. Own work for the seat Ybuabw.
-/
namespace Go.Proofs.Ybuabw

theorem fill_step {β : Type} (l : List β) (z : β) (k : Nat) (hk : k < l.length) :
    (l.take k ++ List.replicate (l.length - k) z).set k l[k] = l.take (k + 1) ++ List.replicate (l.length - (k + 1)) z := by
  have h1 : (l.take k).length = k := by simp; omega
  have : l.length - k = (l.length - (k + 1)) + 1 := by omega
  rw [List.set_append_right _ _ (by omega), h1, Nat.sub_self, this, List.replicate_succ, List.set_cons_zero, List.take_succ_eq_append_getElem hk, List.append_assoc]
  rfl

theorem fill_len {β : Type} (l : List β) (z : β) (k : Nat) (hk : k ≤ l.length) : (l.take k ++ List.replicate (l.length - k) z).length = l.length := by
  simp; omega

theorem fill_end {β : Type} (l : List β) (z : β) (k : Nat) (hk : l.length ≤ k) : l.take k ++ List.replicate (l.length - k) z = l := by
  rw [List.take_of_length_le hk, show l.length - k = 0 by omega]; simp

theorem getD_lt {β : Type} (l : List β) (k : Nat) (d : β) (hk : k < l.length) : l.getD k d = l[k] := by
  simp [hk]

/-! ### Lines -/

def cutAll : List UInt8 → List (List UInt8)
  | [] => [[]]
  | c :: l => if c = 10 then [] :: cutAll l else (match cutAll l with | [] => [[c]] | x :: r => (c :: x) :: r)

def splitL (d : List UInt8) : List (List UInt8) :=
  if d = [] then [] else if d.getD (d.length - 1) 0 = 10 then (cutAll d).dropLast else cutAll d

theorem cut_none : ∀ (p : List UInt8), (∀ c ∈ p, c ≠ 10) → cutAll p = [p]
  | [], _ => rfl
  | c :: p, h => by
    have hc : c ≠ 10 := h c (by simp)
    simp only [cutAll, if_neg hc, cut_none p (fun x hx => h x (by simp [hx]))]

theorem cut_seg : ∀ (p r : List UInt8), (∀ c ∈ p, c ≠ 10) → cutAll (p ++ 10 :: r) = p :: cutAll r
  | [], r, _ => by simp [cutAll]
  | c :: p, r, h => by
    have hc : c ≠ 10 := h c (by simp)
    simp only [List.cons_append, cutAll, if_neg hc, cut_seg p r (fun x hx => h x (by simp [hx]))]

/-- What a round of the cutting loop hands on. -/
structure CutInv (d : List UInt8) (P : List (List UInt8)) (st i : Nat) : Prop where
  eq : cutAll d = P ++ cutAll (d.drop st)
  free : ∀ c ∈ (d.drop st).take (i - st), c ≠ 10
  le : st ≤ i
  hi : i ≤ d.length
  cnt : P.length ≤ st
  prev : st = 0 ∨ d.getD (st - 1) 0 = 10

theorem CutInv.start (d : List UInt8) : CutInv d [] 0 0 := ⟨by simp, by simp, by omega, by omega, by simp, .inl rfl⟩

theorem CutInv.miss {d : List UInt8} {P : List (List UInt8)} {st i : Nat} (h : CutInv d P st i) (hi : i < d.length) (hc : d.getD i 0 ≠ 10) : CutInv d P st (i + 1) := by
  refine ⟨h.eq, fun c hcm => ?_, by have := h.le; omega, by omega, h.cnt, h.prev⟩
  have hl := h.le
  rw [show i + 1 - st = (i - st) + 1 by omega, List.take_add_one] at hcm
  rcases List.mem_append.1 hcm with h1 | h1
  · exact h.free c h1
  · rw [List.getElem?_drop, show st + (i - st) = i by omega] at h1
    rw [getD_lt _ _ _ hi] at hc
    simp [hi] at h1
    rw [h1]; exact hc

theorem CutInv.hit {d : List UInt8} {P : List (List UInt8)} {st i : Nat} (h : CutInv d P st i) (hi : i < d.length) (hc : d.getD i 0 = 10) : CutInv d (P ++ [(d.drop st).take (i - st)]) (i + 1) (i + 1) := by
  have hl := h.le
  rw [getD_lt _ _ _ hi] at hc
  refine ⟨?_, by simp, by omega, by omega, by have := h.cnt; simp; omega, .inr (by rw [Nat.add_sub_cancel, getD_lt _ _ _ hi, hc])⟩
  have e : d.drop st = (d.drop st).take (i - st) ++ 10 :: d.drop (i + 1) := by
    conv => lhs; rw [← List.take_append_drop (i - st) (d.drop st)]
    rw [List.drop_drop, show st + (i - st) = i by omega, List.drop_eq_getElem_cons hi, hc]
  rw [h.eq]
  conv => lhs; rw [e]
  rw [cut_seg _ _ h.free, List.append_assoc]
  rfl

theorem CutInv.done {d : List UInt8} {P : List (List UInt8)} {st i : Nat} (h : CutInv d P st i) (hi : d.length ≤ i) : cutAll d = P ++ [d.drop st] := by
  rw [h.eq]
  congr 1
  apply cut_none
  intro c hc
  refine h.free c ?_
  rwa [List.take_of_length_le (by simp; omega)]

theorem CutInv.split_more {d : List UInt8} {P : List (List UInt8)} {st i : Nat} (h : CutInv d P st i) (hi : d.length ≤ i) (hne : d ≠ []) (hs : st < d.length) : splitL d = P ++ [d.drop st] := by
  have e := h.done hi
  have hlast : d.getD (d.length - 1) 0 ≠ 10 := by
    refine h.free _ ?_
    rw [List.take_of_length_le (by simp; omega), List.mem_iff_getElem?]
    refine ⟨d.length - 1 - st, ?_⟩
    rw [List.getElem?_drop, show st + (d.length - 1 - st) = d.length - 1 by omega]
    rw [getD_lt _ _ _ (by omega)]
    simp
  rw [splitL, if_neg hne, if_neg hlast, e]

theorem CutInv.split_end {d : List UInt8} {P : List (List UInt8)} {st i : Nat} (h : CutInv d P st i) (hi : d.length ≤ i) (hne : d ≠ []) (hs : d.length ≤ st) : splitL d = P := by
  have e := h.done hi
  have h0 : 0 < d.length := List.length_pos_iff.2 hne
  have h1 := h.le
  have h2 := h.hi
  have hst : st = d.length := by omega
  subst hst
  have hlast : d.getD (d.length - 1) 0 = 10 := by
    rcases h.prev with h3 | h3
    · omega
    · exact h3
  rw [splitL, if_neg hne, if_pos hlast, e]
  simp

theorem cutAll_ne (d : List UInt8) : cutAll d ≠ [] := by
  cases d with
  | nil => simp [cutAll]
  | cons c d => simp only [cutAll]; split <;> (try split) <;> simp

theorem cutAll_len : ∀ (d : List UInt8), (cutAll d).length ≤ d.length + 1
  | [] => by simp [cutAll]
  | c :: d => by
    have := cutAll_len d
    simp only [cutAll]
    split
    · simp; omega
    · split
      · simp
      · rename_i h; rw [h] at this; simp at this ⊢; omega

theorem splitL_len (d : List UInt8) : (splitL d).length ≤ d.length + 1 := by
  unfold splitL
  have := cutAll_len d
  split
  · simp
  · split
    · simp; omega
    · exact this

end Go.Proofs.Ybuabw
