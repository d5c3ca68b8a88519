/-
  PLAIN FACTS, third part: the shown lines. Own work for the seat Ybuabw.
-/
import Derived.Test.YbuabwPlain2
namespace Go.Proofs.Ybuabw
set_option linter.unusedVariables false
set_option linter.unusedSimpArgs false

def tlF : List Frg → Nat
  | [] => 0
  | p :: l => p.s.length + tlF l

theorem tlF_append (a b : List Frg) : tlF (a ++ b) = tlF a + tlF b := by
  induction a with
  | nil => simp [tlF]
  | cons p a ih => simp [tlF, ih]; omega
theorem tlF_take (l : List Frg) (k : Nat) (hk : k < l.length) : tlF (l.take (k + 1)) = tlF (l.take k) + l[k].s.length := by
  rw [List.take_succ_eq_append_getElem hk, tlF_append]; simp [tlF]
theorem tlF_le (l : List Frg) (k : Nat) : tlF (l.take k) ≤ tlF l := by
  have : tlF l = tlF (l.take k) + tlF (l.drop k) := by rw [← tlF_append, List.take_append_drop]
  omega
theorem tlF_mem : ∀ (l : List Frg) (p : Frg), p ∈ l → p.s.length ≤ tlF l
  | q :: l, p, h => by
    rcases List.mem_cons.1 h with rfl | h
    · simp [tlF]
    · have := tlF_mem l p h; simp [tlF]; omega

def up1 (c : UInt8) : UInt8 := if (decide (97 ≤ c) && decide (c ≤ 122)) = true then c - 32 else c
def upper (s : List UInt8) : List UInt8 := s.map up1
def shown (k st : Int) (s : List UInt8) : List UInt8 := if k = 2 ∨ st = 0 then s else upper s

theorem upper_step (s : List UInt8) (m : Nat) (h : m < s.length) : upper (s.take (m + 1)) = upper (s.take m) ++ [up1 (s.getD m 0)] := by
  unfold upper
  rw [List.take_succ_eq_append_getElem h, List.map_append, getD_lt _ _ _ h]; rfl
theorem upper_len (s : List UInt8) : (upper s).length = s.length := by simp [upper]
theorem shown_len (k st : Int) (s : List UInt8) : (shown k st s).length = s.length := by unfold shown; split <;> simp [upper]

def rlPre (k : Nat) (x : List (List UInt8) × List UInt8) (f : Frg) : List (List UInt8) × List UInt8 :=
  if k = 0 then x else if f.br = 2 then (x.1 ++ [x.2], []) else if f.br = 1 then (x.1, x.2 ++ [32]) else x
def rlStep (k : Nat) (x : List (List UInt8) × List UInt8) (f : Frg) : List (List UInt8) × List UInt8 :=
  ((rlPre k x f).1, (rlPre k x f).2 ++ shown f.k f.st f.s)
def rlN (l : List Frg) : Nat → List (List UInt8) × List UInt8
  | 0 => ([], [])
  | k + 1 => if h : k < l.length then rlStep k (rlN l k) l[k] else rlN l k
def renderLines (l : List Frg) : List (List UInt8) := if l = [] then [] else (rlN l l.length).1 ++ [(rlN l l.length).2]

theorem rlN_step (l : List Frg) (k : Nat) (h : k < l.length) : rlN l (k + 1) = rlStep k (rlN l k) l[k] := by rw [rlN, dif_pos h]

def ttl : List (List UInt8) → Nat
  | [] => 0
  | s :: l => s.length + ttl l
theorem ttl_append (a b : List (List UInt8)) : ttl (a ++ b) = ttl a + ttl b := by
  induction a with
  | nil => simp [ttl]
  | cons p a ih => simp [ttl, ih]; omega
theorem ttl_take (l : List (List UInt8)) (k : Nat) (hk : k < l.length) : ttl (l.take (k + 1)) = ttl (l.take k) + l[k].length := by
  rw [List.take_succ_eq_append_getElem hk, ttl_append]; simp [ttl]
theorem ttl_le (l : List (List UInt8)) (k : Nat) : ttl (l.take k) ≤ ttl l := by
  have : ttl l = ttl (l.take k) + ttl (l.drop k) := by rw [← ttl_append, List.take_append_drop]
  omega
theorem ttl_mem : ∀ (l : List (List UInt8)) (p : List UInt8), p ∈ l → p.length ≤ ttl l
  | q :: l, p, h => by
    rcases List.mem_cons.1 h with rfl | h
    · simp [ttl]
    · have := ttl_mem l p h; simp [ttl]; omega

theorem rlPre_len (k : Nat) (x : List (List UInt8) × List UInt8) (f : Frg) : (rlPre k x f).1.length ≤ x.1.length + 1 ∧ (k = 0 → (rlPre k x f).1.length ≤ x.1.length) ∧ ttl (rlPre k x f).1 + (rlPre k x f).2.length ≤ ttl x.1 + x.2.length + 1 := by
  unfold rlPre
  split
  · refine ⟨by omega, fun _ => by omega, by omega⟩
  · rename_i h
    split
    · refine ⟨by simp, fun e => absurd e h, ?_⟩
      simp [ttl_append, ttl]
    · split
      · refine ⟨by simp, fun e => absurd e h, ?_⟩
        simp; omega
      · refine ⟨by omega, fun e => absurd e h, by omega⟩

theorem rlN_len (l : List Frg) : ∀ k, k ≤ l.length → (rlN l k).1.length ≤ k - 1 ∧ ttl (rlN l k).1 + (rlN l k).2.length ≤ tlF (l.take k) + k
  | 0, _ => by simp [rlN, ttl]
  | k + 1, h => by
    have ih := rlN_len l k (by omega)
    rw [rlN_step l k (by omega), tlF_take l k (by omega)]
    have hp := rlPre_len k (rlN l k) l[k]
    unfold rlStep
    simp only [List.length_append, shown_len]
    refine ⟨?_, by omega⟩
    by_cases h0 : k = 0
    · have := hp.2.1 h0; omega
    · have := hp.1; omega

theorem renderLines_len (l : List Frg) : (renderLines l).length ≤ l.length ∧ ttl (renderLines l) ≤ tlF l + l.length := by
  unfold renderLines
  split
  · simp [ttl]
  · rename_i h
    have h1 := rlN_len l l.length (Nat.le_refl _)
    rw [List.take_length] at h1
    have h0 : 0 < l.length := List.length_pos_iff.2 h
    refine ⟨by simp; omega, ?_⟩
    rw [ttl_append]; simp [ttl]; omega

theorem cur_len (l : List Frg) (k : Nat) (h : k ≤ l.length) : (rlN l k).2.length ≤ tlF l + k := by
  have h1 := rlN_len l k h
  have := tlF_le l k
  omega

end Go.Proofs.Ybuabw
