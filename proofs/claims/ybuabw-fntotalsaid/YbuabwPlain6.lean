/-
  PLAIN FACTS, sixth part: one block shown. Own work for the seat Ybuabw.
-/
import Derived.Test.YbuabwPlain4
import Derived.Test.YbuabwPlain5
namespace Go.Proofs.Ybuabw
set_option linter.unusedVariables false
set_option linter.unusedSimpArgs false

theorem flushP_tl (out : List Tri) (s : Int) (b : Str) : tl (flushP out s b) ≤ tl out + b.length := by
  unfold flushP; split <;> simp [tl_append, tl]

theorem pinl_bd (t : Str) : ∀ (f i : Nat) (s : Int) (b : Str) (out : List Tri), i ≤ t.length → (pinl t f i s b out).length ≤ out.length + 2 * (t.length - i) + 1 ∧ tl (pinl t f i s b out) ≤ tl out + b.length + (t.length - i)
  | 0, i, s, b, out, _ => by
    have h1 := flushP_len out s b
    have h2 := flushP_tl out s b
    rw [pinl]; omega
  | f + 1, i, s, b, out, hi => by
    have h1 := flushP_len out s b
    have h2 := flushP_tl out s b
    rw [pinl]
    by_cases hlt : i < t.length
    · rw [if_pos hlt]
      by_cases c1 : t.getD i 0 = 92
      · rw [if_pos c1]
        by_cases c2 : i + 1 < t.length
        · rw [if_pos c2]
          have := pinl_bd t f (i + 2) s (b ++ [t.getD (i + 1) 0]) out (by omega)
          simp only [List.length_append, List.length_singleton] at this
          omega
        · rw [if_neg c2]
          have := pinl_bd t f (i + 1) s (b ++ [92]) out (by omega)
          simp only [List.length_append, List.length_singleton] at this
          omega
      · rw [if_neg c1]
        by_cases c2 : t.getD i 0 = 42
        · rw [if_pos c2]
          have := pinl_bd t f (i + 1) (1 - s) [] (flushP out s b) (by omega)
          simp only [List.length_nil] at this
          omega
        · rw [if_neg c2]
          by_cases c3 : t.getD i 0 = 96
          · rw [if_pos c3]
            by_cases c4 : i + 1 + lead noTick (t.drop (i + 1)) < t.length
            · rw [if_pos c4]
              have := pinl_bd t f (i + 1 + lead noTick (t.drop (i + 1)) + 1) s [] (flushP out s b ++ [⟨2, s, (t.drop (i + 1)).take (i + 1 + lead noTick (t.drop (i + 1)) - (i + 1))⟩]) (by omega)
              simp only [List.length_nil, List.length_append, List.length_singleton, tl_append, tl, List.length_take, List.length_drop] at this
              omega
            · rw [if_neg c4]
              have := pinl_bd t f (i + 1) s (b ++ [96]) out (by omega)
              simp only [List.length_append, List.length_singleton] at this
              omega
          · rw [if_neg c3]
            by_cases c4 : isSp (t.getD i 0) = true
            · rw [if_pos c4]
              have hp := lead_pos isSp t i hlt c4
              have hl := lead_le isSp (t.drop i)
              simp only [List.length_drop] at hl
              have := pinl_bd t f (i + lead isSp (t.drop i)) s [] (flushP out s b ++ [⟨1, 0, [32]⟩]) (by omega)
              simp only [List.length_nil, List.length_append, List.length_singleton, tl_append, tl] at this
              omega
            · rw [if_neg c4]
              have := pinl_bd t f (i + 1) s (b ++ [t.getD i 0]) out (by omega)
              simp only [List.length_append, List.length_singleton] at this
              omega
    · rw [if_neg hlt]; omega

theorem parseInline_bd (t : Str) : (parseInline t).length ≤ 2 * t.length + 1 ∧ tl (parseInline t) ≤ t.length := by
  have := pinl_bd t t.length 0 0 [] [] (by omega)
  simp [tl] at this
  unfold parseInline
  omega

def pOf (t : Str) : List Tri := normalize (parseInline t)
theorem pOf_bd (t : Str) : (pOf t).length ≤ 2 * t.length + 1 ∧ tl (pOf t) ≤ 5 * t.length + 2 := by
  have h1 := parseInline_bd t
  have h2 := normalize_len (parseInline t)
  have h3 := normalize_tl (parseInline t)
  unfold pOf
  omega

/-! ### Headings -/

def st1 (p : Tri) : Tri := if p.a = 0 then ⟨p.a, 1, p.s⟩ else p
def stN (q : List Tri) (k : Nat) : List Tri := (q.take k).map st1 ++ q.drop k
theorem stN_len (q : List Tri) (k : Nat) (h : k ≤ q.length) : (stN q k).length = q.length := by simp [stN]; omega
theorem stN_get (q : List Tri) (k : Nat) (h : k < q.length) : (stN q k)[k]'(by rw [stN_len q k (by omega)]; exact h) = q[k] := by
  unfold stN
  rw [List.getElem_append_right (by simp; omega)]
  simp [Nat.min_eq_left (Nat.le_of_lt h)]
theorem stN_set (q : List Tri) (k : Nat) (h : k < q.length) : (stN q k).set k (st1 q[k]) = stN q (k + 1) := by
  unfold stN
  have h1 : ((q.take k).map st1).length = k := by simp; omega
  rw [List.set_append_right _ _ (by omega), h1, Nat.sub_self, List.drop_eq_getElem_cons h, List.set_cons_zero, List.take_succ_eq_append_getElem h, List.map_append, List.append_assoc]
  rfl
theorem stN_keep (q : List Tri) (k : Nat) (h : k < q.length) (h0 : q[k].a ≠ 0) : stN q k = stN q (k + 1) := by
  have e : st1 q[k] = q[k] := by unfold st1; rw [if_neg h0]
  have := stN_set q k h
  rw [e, ← stN_get q k h, List.set_getElem_self] at this
  exact this
def setSt (q : List Tri) : List Tri := q.map st1
theorem stN_end (q : List Tri) : stN q q.length = setSt q := by simp [stN, setSt]
theorem setSt_bd (q : List Tri) : (setSt q).length = q.length ∧ tl (setSt q) = tl q := by
  refine ⟨by simp [setSt], ?_⟩
  induction q with
  | nil => rfl
  | cons p q ih =>
    simp only [setSt, List.map_cons, tl] at ih ⊢
    rw [ih]
    congr 1
    unfold st1; split <;> rfl

def mxN (ls : List Str) : Nat → Nat
  | 0 => 0
  | k + 1 => if mxN ls k < (ls.getD k []).length then (ls.getD k []).length else mxN ls k
theorem mxN_le (ls : List Str) : ∀ k, k ≤ ls.length → mxN ls k ≤ ttl ls
  | 0, _ => by simp [mxN]
  | k + 1, h => by
    have ih := mxN_le ls k (by omega)
    rw [mxN, getD_lt _ _ _ (show k < ls.length by omega)]
    have := ttl_mem ls ls[k] (List.getElem_mem _)
    split <;> omega

def preN (f : Nat → Str) (ls : List Str) : Nat → List Str
  | 0 => []
  | k + 1 => preN f ls k ++ [f k ++ ls.getD k []]
theorem preN_len (f : Nat → Str) (ls : List Str) : ∀ k, (preN f ls k).length = k
  | 0 => rfl
  | k + 1 => by simp [preN, preN_len f ls k]
theorem preN_ttl (f : Nat → Str) (ls : List Str) (c : Nat) (hf : ∀ k, (f k).length ≤ c) : ∀ k, k ≤ ls.length → ttl (preN f ls k) ≤ ttl (ls.take k) + c * k
  | 0, _ => by simp [preN, ttl]
  | k + 1, h => by
    have ih := preN_ttl f ls c hf k (by omega)
    have := hf k
    rw [preN, ttl_append, ttl_take ls k (by omega), getD_lt _ _ _ (show k < ls.length by omega), Nat.mul_succ]
    simp [ttl]; omega
theorem preN_map (p : Str) (ls : List Str) : ∀ k, k ≤ ls.length → preN (fun _ => p) ls k = (ls.take k).map (fun s => p ++ s)
  | 0, _ => by simp [preN]
  | k + 1, h => by
    rw [preN, preN_map p ls k (by omega), List.take_succ_eq_append_getElem (show k < ls.length by omega), List.map_append, getD_lt _ _ _ (show k < ls.length by omega)]
    rfl

def itF (k : Nat) : Str := if k = 0 then [42, 32] else [32, 32]
def quF (k : Nat) : Str := [124, 32]
def coF (k : Nat) : Str := [32, 32, 32, 32]
def bI (W : Nat) : Nat := if 3 ≤ W then W - 2 else 1
def linesOf (q : List Tri) (z : Int) : List Str := renderLines (layout q z)

theorem linesOf_bd (q : List Tri) (z : Int) : (linesOf q z).length ≤ q.length + tl q ∧ ttl (linesOf q z) ≤ 2 * (q.length + tl q) := by
  have h1 := layout_len q z
  have h2 := layout_tl q z
  have h3 := renderLines_len (layout q z)
  unfold linesOf
  omega

def codeL (s : Str) : List Str := preN coF (cutAll s) (cutAll s).length
def headL (b : Tri) (W : Nat) : List Str := linesOf (setSt (pOf b.s)) W ++ [List.replicate (mxN (linesOf (setSt (pOf b.s)) W) (linesOf (setSt (pOf b.s)) W).length) (if b.b = 1 then 61 else 45)]
def itemL (ls : List Str) : List Str := if ls = [] then [[42]] else preN itF ls ls.length
def quotL (ls : List Str) : List Str := if ls = [] then [[124]] else preN quF ls ls.length

def renderBlock (b : Tri) (z : Int) : List Str :=
  if b.a = 5 then codeL b.s
  else if b.a = 6 then [List.replicate (min (wid z) 80) 45]
  else if b.a = 2 then headL b (wid z)
  else if b.a = 3 then itemL (linesOf (pOf b.s) (bI (wid z) : Nat))
  else if b.a = 4 then quotL (linesOf (pOf b.s) (bI (wid z) : Nat))
  else linesOf (pOf b.s) (wid z : Nat)

theorem codeL_eq (s : Str) : codeL s = (cutAll s).map (fun p => [32, 32, 32, 32] ++ p) := by
  have h := preN_map [32, 32, 32, 32] (cutAll s) _ (Nat.le_refl _)
  rw [List.take_length] at h
  exact h

theorem pline_bd (s : Str) (z : Int) : (linesOf (pOf s) z).length ≤ 7 * s.length + 3 ∧ ttl (linesOf (pOf s) z) ≤ 14 * s.length + 6 := by
  have h1 := pOf_bd s
  have h2 := linesOf_bd (pOf s) z
  omega
theorem hline_bd (s : Str) (z : Int) : (linesOf (setSt (pOf s)) z).length ≤ 7 * s.length + 3 ∧ ttl (linesOf (setSt (pOf s)) z) ≤ 14 * s.length + 6 := by
  have h1 := pOf_bd s
  have h3 := setSt_bd (pOf s)
  have h2 := linesOf_bd (setSt (pOf s)) z
  omega

theorem cut_bd (s : Str) : (cutAll s).length ≤ s.length + 1 ∧ ttl (cutAll s) ≤ s.length := by
  have h1 := cutAll_len s
  have h2 := lsz_cutAll s
  have h3 : 0 < (cutAll s).length := List.length_pos_iff.2 (cutAll_ne s)
  unfold lsz at h2
  omega

theorem renderBlock_bd (b : Tri) (z : Int) : (renderBlock b z).length ≤ 7 * b.s.length + 4 ∧ ttl (renderBlock b z) ≤ 28 * b.s.length + 92 := by
  unfold renderBlock
  have hp1 := pline_bd b.s (bI (wid z) : Nat)
  have hp2 := pline_bd b.s (wid z : Nat)
  have hh := hline_bd b.s (wid z : Nat)
  have hc := cut_bd b.s
  split
  · have h1 := preN_len coF (cutAll b.s) (cutAll b.s).length
    have h2 := preN_ttl coF (cutAll b.s) 4 (fun _ => by simp [coF]) _ (Nat.le_refl _)
    rw [List.take_length] at h2
    unfold codeL
    omega
  · split
    · simp [ttl]; omega
    · split
      · have h3 := mxN_le (linesOf (setSt (pOf b.s)) (wid z : Nat)) _ (Nat.le_refl _)
        unfold headL
        simp only [List.length_append, List.length_singleton, ttl_append, ttl, List.length_replicate]
        omega
      · split
        · unfold itemL
          split
          · simp [ttl]
          · have h1 := preN_len itF (linesOf (pOf b.s) (bI (wid z) : Nat)) (linesOf (pOf b.s) (bI (wid z) : Nat)).length
            have h2 := preN_ttl itF (linesOf (pOf b.s) (bI (wid z) : Nat)) 2 (fun k => by unfold itF; split <;> simp) _ (Nat.le_refl _)
            rw [List.take_length] at h2
            omega
        · split
          · unfold quotL
            split
            · simp [ttl]
            · have h1 := preN_len quF (linesOf (pOf b.s) (bI (wid z) : Nat)) (linesOf (pOf b.s) (bI (wid z) : Nat)).length
              have h2 := preN_ttl quF (linesOf (pOf b.s) (bI (wid z) : Nat)) 2 (fun k => by simp [quF]) _ (Nat.le_refl _)
              rw [List.take_length] at h2
              omega
          · omega

end Go.Proofs.Ybuabw
