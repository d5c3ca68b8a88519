/-
  PLAIN FACTS on lists and numbers. Own work for the seat Ybuabw.
-/
namespace Go.Proofs.Ybuabw

theorem fill_step {β : Type} (l : List β) (z : β) (k : Nat) (hk : k < l.length) :
    (l.take k ++ List.replicate (l.length - k) z).set k l[k] = l.take (k + 1) ++ List.replicate (l.length - (k + 1)) z := by
  have h1 : (l.take k).length = k := by simp; omega
  have : l.length - k = (l.length - (k + 1)) + 1 := by omega
  rw [List.set_append_right _ _ (by omega), h1, Nat.sub_self, this, List.replicate_succ, List.set_cons_zero, List.take_succ_eq_append_getElem hk, List.append_assoc]
  rfl

theorem fill_len {β : Type} (l : List β) (z : β) (k : Nat) (hk : k ≤ l.length) : (l.take k ++ List.replicate (l.length - k) z).length = l.length := by
  simp; omega

theorem fill_end {β : Type} (l : List β) (z : β) (k : Nat) (hk : l.length ≤ k) : l.take k ++ List.replicate (l.length - k) z = l := by
  rw [List.take_of_length_le hk, show l.length - k = 0 by omega]; simp

theorem getD_lt {β : Type} (l : List β) (k : Nat) (d : β) (hk : k < l.length) : l.getD k d = l[k] := by
  simp [hk]

/-! ### Lines -/

def cutAll : List UInt8 → List (List UInt8)
  | [] => [[]]
  | c :: l => if c = 10 then [] :: cutAll l else (match cutAll l with | [] => [[c]] | x :: r => (c :: x) :: r)

def splitL (d : List UInt8) : List (List UInt8) :=
  if d = [] then [] else if d.getD (d.length - 1) 0 = 10 then (cutAll d).dropLast else cutAll d

theorem cut_none : ∀ (p : List UInt8), (∀ c ∈ p, c ≠ 10) → cutAll p = [p]
  | [], _ => rfl
  | c :: p, h => by
    have hc : c ≠ 10 := h c (by simp)
    simp only [cutAll, if_neg hc, cut_none p (fun x hx => h x (by simp [hx]))]

theorem cut_seg : ∀ (p r : List UInt8), (∀ c ∈ p, c ≠ 10) → cutAll (p ++ 10 :: r) = p :: cutAll r
  | [], r, _ => by simp [cutAll]
  | c :: p, r, h => by
    have hc : c ≠ 10 := h c (by simp)
    simp only [List.cons_append, cutAll, if_neg hc, cut_seg p r (fun x hx => h x (by simp [hx]))]

/-- What a round of the cutting loop hands on. -/
structure CutInv (d : List UInt8) (P : List (List UInt8)) (st i : Nat) : Prop where
  eq : cutAll d = P ++ cutAll (d.drop st)
  free : ∀ c ∈ (d.drop st).take (i - st), c ≠ 10
  le : st ≤ i
  hi : i ≤ d.length
  cnt : P.length ≤ st
  prev : st = 0 ∨ d.getD (st - 1) 0 = 10

theorem CutInv.start (d : List UInt8) : CutInv d [] 0 0 := ⟨by simp, by simp, by omega, by omega, by simp, .inl rfl⟩

theorem CutInv.miss {d : List UInt8} {P : List (List UInt8)} {st i : Nat} (h : CutInv d P st i) (hi : i < d.length) (hc : d.getD i 0 ≠ 10) : CutInv d P st (i + 1) := by
  refine ⟨h.eq, fun c hcm => ?_, by have := h.le; omega, by omega, h.cnt, h.prev⟩
  have hl := h.le
  rw [show i + 1 - st = (i - st) + 1 by omega, List.take_add_one] at hcm
  rcases List.mem_append.1 hcm with h1 | h1
  · exact h.free c h1
  · rw [List.getElem?_drop, show st + (i - st) = i by omega] at h1
    rw [getD_lt _ _ _ hi] at hc
    simp [hi] at h1
    rw [h1]; exact hc

theorem CutInv.hit {d : List UInt8} {P : List (List UInt8)} {st i : Nat} (h : CutInv d P st i) (hi : i < d.length) (hc : d.getD i 0 = 10) : CutInv d (P ++ [(d.drop st).take (i - st)]) (i + 1) (i + 1) := by
  have hl := h.le
  rw [getD_lt _ _ _ hi] at hc
  refine ⟨?_, by simp, by omega, by omega, by have := h.cnt; simp; omega, .inr (by rw [Nat.add_sub_cancel, getD_lt _ _ _ hi, hc])⟩
  have e : d.drop st = (d.drop st).take (i - st) ++ 10 :: d.drop (i + 1) := by
    conv => lhs; rw [← List.take_append_drop (i - st) (d.drop st)]
    rw [List.drop_drop, show st + (i - st) = i by omega, List.drop_eq_getElem_cons hi, hc]
  rw [h.eq]
  conv => lhs; rw [e]
  rw [cut_seg _ _ h.free, List.append_assoc]
  rfl

theorem CutInv.done {d : List UInt8} {P : List (List UInt8)} {st i : Nat} (h : CutInv d P st i) (hi : d.length ≤ i) : cutAll d = P ++ [d.drop st] := by
  rw [h.eq]
  congr 1
  apply cut_none
  intro c hc
  refine h.free c ?_
  rwa [List.take_of_length_le (by simp; omega)]

theorem CutInv.split_more {d : List UInt8} {P : List (List UInt8)} {st i : Nat} (h : CutInv d P st i) (hi : d.length ≤ i) (hne : d ≠ []) (hs : st < d.length) : splitL d = P ++ [d.drop st] := by
  have e := h.done hi
  have hlast : d.getD (d.length - 1) 0 ≠ 10 := by
    refine h.free _ ?_
    rw [List.take_of_length_le (by simp; omega), List.mem_iff_getElem?]
    refine ⟨d.length - 1 - st, ?_⟩
    rw [List.getElem?_drop, show st + (d.length - 1 - st) = d.length - 1 by omega]
    rw [getD_lt _ _ _ (by omega)]
    simp
  rw [splitL, if_neg hne, if_neg hlast, e]

theorem CutInv.split_end {d : List UInt8} {P : List (List UInt8)} {st i : Nat} (h : CutInv d P st i) (hi : d.length ≤ i) (hne : d ≠ []) (hs : d.length ≤ st) : splitL d = P := by
  have e := h.done hi
  have h0 : 0 < d.length := List.length_pos_iff.2 hne
  have h1 := h.le
  have h2 := h.hi
  have hst : st = d.length := by omega
  subst hst
  have hlast : d.getD (d.length - 1) 0 = 10 := by
    rcases h.prev with h3 | h3
    · omega
    · exact h3
  rw [splitL, if_neg hne, if_pos hlast, e]
  simp

theorem cutAll_ne (d : List UInt8) : cutAll d ≠ [] := by
  cases d with
  | nil => simp [cutAll]
  | cons c d => simp only [cutAll]; split <;> (try split) <;> simp

theorem cutAll_len : ∀ (d : List UInt8), (cutAll d).length ≤ d.length + 1
  | [] => by simp [cutAll]
  | c :: d => by
    have := cutAll_len d
    simp only [cutAll]
    split
    · simp; omega
    · split
      · simp
      · rename_i h; rw [h] at this; simp at this ⊢; omega

theorem splitL_len (d : List UInt8) : (splitL d).length ≤ d.length + 1 := by
  unfold splitL
  have := cutAll_len d
  split
  · simp
  · split
    · simp; omega
    · exact this

/-! ### Runs of bytes -/

def isSp (c : UInt8) : Bool := decide (c = 32) || decide (c = 9) || decide (c = 13) || decide (c = 10)

/-- How many bytes at the head meet p. -/
def lead (p : UInt8 → Bool) : List UInt8 → Nat
  | [] => 0
  | c :: l => if p c then lead p l + 1 else 0

theorem lead_le (p : UInt8 → Bool) : ∀ l, lead p l ≤ l.length
  | [] => by simp [lead]
  | c :: l => by have := lead_le p l; simp only [lead]; split <;> simp <;> omega

theorem lead_step (p : UInt8 → Bool) : ∀ (l : List UInt8) (k : Nat), k ≤ lead p l → k < l.length → p (l.getD k 0) = true → k + 1 ≤ lead p l
  | [], _, _, h, _ => by simp at h
  | c :: l, 0, _, _, h => by
    simp only [List.getD_cons_zero] at h
    simp [lead, h]
  | c :: l, k + 1, hk, hl, h => by
    simp only [List.getD_cons_succ] at h
    simp only [lead] at hk ⊢
    split at hk
    · rename_i hc
      have := lead_step p l k (by omega) (by simpa using hl) h
      simp only [hc, if_true]; omega
    · omega

theorem lead_done (p : UInt8 → Bool) : ∀ (l : List UInt8) (k : Nat), k ≤ lead p l → (k < l.length → p (l.getD k 0) = false) → lead p l = k
  | [], k, hk, _ => by simp [lead] at hk ⊢; omega
  | c :: l, 0, _, h => by
    have := h (by simp)
    simp only [List.getD_cons_zero] at this
    simp [lead, this]
  | c :: l, k + 1, hk, h => by
    simp only [lead] at hk ⊢
    split at hk
    · rename_i hc
      simp only [hc, if_true]
      have := lead_done p l k (by omega) (fun hl => by have := h (by simpa using hl); simpa using this)
      omega
    · omega

def trim (s : List UInt8) : List UInt8 :=
  (s.drop (lead isSp s)).take (s.length - lead isSp (s.drop (lead isSp s)).reverse - lead isSp s)

theorem rev_at (s : List UInt8) (a m : Nat) (h : m < (s.drop a).reverse.length) : (s.drop a).reverse.getD m 0 = s.getD (s.length - m - 1) 0 := by
  have h' := h
  simp only [List.length_reverse, List.length_drop] at h'
  rw [getD_lt _ _ _ h, getD_lt _ _ _ (by omega), List.getElem_reverse, List.getElem_drop]
  congr 1
  simp only [List.length_drop]
  omega

theorem trim_len (s : List UInt8) : (trim s).length ≤ s.length := by
  unfold trim; simp; omega

/-! ### The class of a line -/

/-- A struct of two ints and a string: Inline, Block, LineInfo and their mirrors. -/
structure Tri where
  a : Int
  b : Int
  s : List UInt8
/-- A fragment. -/
structure Frg where
  br : Int
  k : Int
  st : Int
  s : List UInt8

def ticks (l : List UInt8) : Bool := decide (3 ≤ l.length) && decide (l.getD 0 0 = 96) && decide (l.getD 1 0 = 96) && decide (l.getD 2 0 = 96)

def isDash (c : UInt8) : Bool := decide (c = 45)
def isHash (c : UInt8) : Bool := decide (c = 35)

def headB (l : List UInt8) : Bool := decide (1 ≤ lead isHash l) && decide (lead isHash l ≤ 6) && (decide (l.length = lead isHash l) || isSp (l.getD (lead isHash l) 0))
def ruleB (t : List UInt8) : Bool := decide (3 ≤ t.length) && decide (lead isDash t = t.length)
def itemB (l : List UInt8) : Bool := decide (2 ≤ l.length) && decide (l.getD 0 0 = 45) && isSp (l.getD 1 0)

def classify (l : List UInt8) : Tri :=
  if (trim l).length = 0 then ⟨0, 0, []⟩
  else if ticks l then ⟨1, 0, []⟩
  else if headB l then ⟨2, lead isHash l, trim (l.drop (lead isHash l))⟩
  else if ruleB (trim l) then ⟨3, 0, []⟩
  else if itemB l then ⟨4, 0, trim (l.drop 1)⟩
  else if l.getD 0 0 = 62 then ⟨5, 0, trim (l.drop 1)⟩
  else ⟨6, 0, trim l⟩

/-! ### Inline pieces -/

def flushP (out : List Tri) (s : Int) (b : List UInt8) : List Tri := if b = [] then out else out ++ [⟨0, s, b⟩]
def noTick (c : UInt8) : Bool := decide (c ≠ 96)

def pinl (t : List UInt8) : Nat → Nat → Int → List UInt8 → List Tri → List Tri
  | 0, _, s, b, out => flushP out s b
  | f + 1, i, s, b, out =>
    if i < t.length then
      if t.getD i 0 = 92 then
        if i + 1 < t.length then pinl t f (i + 2) s (b ++ [t.getD (i + 1) 0]) out else pinl t f (i + 1) s (b ++ [92]) out
      else if t.getD i 0 = 42 then pinl t f (i + 1) (1 - s) [] (flushP out s b)
      else if t.getD i 0 = 96 then
        if i + 1 + lead noTick (t.drop (i + 1)) < t.length then
          pinl t f (i + 1 + lead noTick (t.drop (i + 1)) + 1) s [] (flushP out s b ++ [⟨2, s, (t.drop (i + 1)).take (i + 1 + lead noTick (t.drop (i + 1)) - (i + 1))⟩])
        else pinl t f (i + 1) s (b ++ [96]) out
      else if isSp (t.getD i 0) then pinl t f (i + lead isSp (t.drop i)) s [] (flushP out s b ++ [⟨1, 0, [32]⟩])
      else pinl t f (i + 1) s (b ++ [t.getD i 0]) out
    else flushP out s b

def parseInline (t : List UInt8) : List Tri := pinl t t.length 0 0 [] []

theorem pinl_end (t : List UInt8) (f i : Nat) (s : Int) (b : List UInt8) (out : List Tri) (h : t.length ≤ i) : pinl t f i s b out = flushP out s b := by
  cases f with
  | zero => rfl
  | succ f => rw [pinl, if_neg (by omega)]

theorem drop_at (t : List UInt8) (a m : Nat) : (t.drop a).getD m 0 = t.getD (a + m) 0 := by
  simp [List.getD_eq_getElem?_getD]

theorem flushP_len (out : List Tri) (s : Int) (b : List UInt8) : (flushP out s b).length ≤ out.length + 1 := by
  unfold flushP; split <;> simp

theorem lead_pos (p : UInt8 → Bool) (t : List UInt8) (i : Nat) (h : i < t.length) (hp : p (t.getD i 0) = true) : 1 ≤ lead p (t.drop i) :=
  lead_step p (t.drop i) 0 (Nat.zero_le _) (by simp; omega) (by rw [drop_at, Nat.add_zero]; exact hp)

/-! ### Unparse -/

/-- The texts' lengths, added up. -/
def tl : List Tri → Nat
  | [] => 0
  | p :: l => p.s.length + tl l

theorem tl_append (a b : List Tri) : tl (a ++ b) = tl a + tl b := by
  induction a with
  | nil => simp [tl]
  | cons p a ih => simp [tl, ih]; omega

theorem tl_take (l : List Tri) (k : Nat) (hk : k < l.length) : tl (l.take (k + 1)) = tl (l.take k) + l[k].s.length := by
  rw [List.take_succ_eq_append_getElem hk, tl_append]; simp [tl]

theorem tl_le (l : List Tri) (k : Nat) : tl (l.take k) ≤ tl l := by
  have : tl l = tl (l.take k) + tl (l.drop k) := by rw [← tl_append, List.take_append_drop]
  omega

theorem tl_mem : ∀ (l : List Tri) (p : Tri), p ∈ l → p.s.length ≤ tl l
  | q :: l, p, h => by
    rcases List.mem_cons.1 h with rfl | h
    · simp [tl]
    · have := tl_mem l p h; simp [tl]; omega

def escB (c : UInt8) : Bool := decide (c = 92) || decide (c = 42) || decide (c = 96) || isSp c
def escText : List UInt8 → List UInt8
  | [] => []
  | c :: l => (if escB c then [92, c] else [c]) ++ escText l
def noTicks (t : List UInt8) : List UInt8 := t.filter noTick
def ust (p : Tri) : Int := if p.b ≠ 0 then 1 else 0

def unp1 (x : List UInt8 × Int) (p : Tri) : List UInt8 × Int :=
  if p.a = 1 then (x.1 ++ [32], x.2)
  else if p.a = 2 then (x.1 ++ [96] ++ noTicks p.s ++ [96], x.2)
  else (x.1 ++ (if ust p ≠ x.2 then [42] else []) ++ escText p.s, ust p)

def unpN (l : List Tri) : List UInt8 × Int := l.foldl unp1 ([], 0)
def unparse (l : List Tri) : List UInt8 := if (unpN l).2 = 1 then (unpN l).1 ++ [42] else (unpN l).1

theorem unpN_step (l : List Tri) (k : Nat) (hk : k < l.length) : unpN (l.take (k + 1)) = unp1 (unpN (l.take k)) l[k] := by
  unfold unpN
  rw [List.take_succ_eq_append_getElem hk, List.foldl_append]
  rfl

theorem escText_append (a b : List UInt8) : escText (a ++ b) = escText a ++ escText b := by
  induction a with
  | nil => rfl
  | cons c a ih => simp [escText, ih]

theorem escText_len : ∀ (t : List UInt8), (escText t).length ≤ 2 * t.length
  | [] => by simp [escText]
  | c :: t => by have := escText_len t; simp only [escText]; split <;> simp <;> omega

theorem esc_step (t : List UInt8) (m : Nat) (h : m < t.length) : escText (t.take (m + 1)) = escText (t.take m) ++ (if escB (t.getD m 0) then [92, t.getD m 0] else [t.getD m 0]) := by
  rw [List.take_succ_eq_append_getElem h, escText_append, getD_lt _ _ _ h]
  simp [escText]

theorem tick_step (t : List UInt8) (m : Nat) (h : m < t.length) : noTicks (t.take (m + 1)) = noTicks (t.take m) ++ (if noTick (t.getD m 0) then [t.getD m 0] else []) := by
  rw [List.take_succ_eq_append_getElem h, getD_lt _ _ _ h]
  unfold noTicks
  rw [List.filter_append]
  congr 1
  cases h : noTick t[m] <;> simp [h]

theorem tick_len (t : List UInt8) (m : Nat) : (noTicks (t.take m)).length ≤ m := by
  unfold noTicks
  have h1 := List.length_filter_le noTick (t.take m)
  have h2 := List.length_take_le m t
  omega

theorem esc_len (t : List UInt8) (m : Nat) : (escText (t.take m)).length ≤ 2 * m := by
  have h1 := escText_len (t.take m)
  have h2 := List.length_take_le m t
  omega

theorem unpN_len (l : List Tri) : ∀ (k : Nat), k ≤ l.length → (unpN (l.take k)).1.length ≤ 3 * k + 2 * tl (l.take k)
  | 0, _ => by simp [unpN]
  | k + 1, h => by
    have ih := unpN_len l k (by omega)
    rw [unpN_step l k (by omega), tl_take l k (by omega)]
    have h1 := escText_len l[k].s
    have h2 := List.length_filter_le noTick l[k].s
    unfold unp1
    split
    · simp; omega
    · split
      · simp [noTicks] at *; omega
      · simp only [List.length_append]; split <;> simp <;> omega

theorem unpN_01 (l : List Tri) : ∀ (k : Nat), k ≤ l.length → 0 ≤ (unpN (l.take k)).2 ∧ (unpN (l.take k)).2 ≤ 1
  | 0, _ => by simp [unpN]
  | k + 1, h => by
    have ih := unpN_01 l k (by omega)
    rw [unpN_step l k (by omega)]
    unfold unp1
    split
    · exact ih
    · split
      · exact ih
      · simp only [ust]; split <;> omega

end Go.Proofs.Ybuabw
