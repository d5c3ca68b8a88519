/-
  PLAIN FACTS, fifth part: blocks. Own work for the seat Ybuabw.
-/
import Derived.Test.YbuabwPlain3
namespace Go.Proofs.Ybuabw
set_option linter.unusedVariables false
set_option linter.unusedSimpArgs false

abbrev Str := List UInt8

/-! ### Joins -/

def jnN (sep : Str) (ps : List Str) : Nat → Str
  | 0 => []
  | k + 1 => jnN sep ps k ++ (if k = 0 then [] else sep) ++ ps.getD k []
def joinS (sep : Str) (ps : List Str) : Str := jnN sep ps ps.length

theorem jnN_prefix (sep : Str) (ps r : List Str) : ∀ k, k ≤ ps.length → jnN sep (ps ++ r) k = jnN sep ps k
  | 0, _ => rfl
  | k + 1, h => by
    rw [jnN, jnN, jnN_prefix sep ps r k (by omega)]
    congr 1
    simp [List.getD_eq_getElem?_getD, List.getElem?_append_left (show k < ps.length by omega)]

theorem joinS_snoc (sep : Str) (ps : List Str) (c : Str) : joinS sep (ps ++ [c]) = joinS sep ps ++ (if ps = [] then [] else sep) ++ c := by
  unfold joinS
  rw [List.length_append, List.length_singleton, jnN, jnN_prefix sep ps [c] _ (Nat.le_refl _)]
  congr 1
  · congr 1
    by_cases h : ps = []
    · simp [h]
    · rw [if_neg h, if_neg]; simpa using h
  · simp [List.getD_eq_getElem?_getD]

theorem jnN_len (sep : Str) (ps : List Str) (hs : sep.length = 1) : ∀ k, k ≤ ps.length → (jnN sep ps k).length ≤ ttl (ps.take k) + k
  | 0, _ => by simp [jnN]
  | k + 1, h => by
    have ih := jnN_len sep ps hs k (by omega)
    rw [jnN, ttl_take ps k (by omega), getD_lt _ _ _ (show k < ps.length by omega)]
    simp only [List.length_append]
    split <;> simp <;> omega

theorem joinS_len (sep : Str) (ps : List Str) (hs : sep.length = 1) : (joinS sep ps).length ≤ ttl ps + ps.length := by
  have := jnN_len sep ps hs ps.length (Nat.le_refl _)
  rw [List.take_length] at this
  exact this

def neB (c : Str) : Bool := decide (c ≠ [])
def clText (cs : List Str) : Str := joinS [32] (cs.filter neB)

theorem joinS_ne (ps : List Str) (h : ∀ c ∈ ps, c ≠ []) (hp : ps ≠ []) : joinS [32] ps ≠ [] := by
  obtain ⟨o, p, rfl⟩ : ∃ o p, ps = o ++ [p] := ⟨ps.dropLast, ps.getLast hp, (List.dropLast_concat_getLast _).symm⟩
  rw [joinS_snoc]
  intro e
  have := h p (by simp)
  simp at e
  exact this e.2.2

theorem filter_step (cs : List Str) (k : Nat) (h : k < cs.length) : (cs.take (k + 1)).filter neB = (cs.take k).filter neB ++ (if neB cs[k] then [cs[k]] else []) := by
  rw [List.take_succ_eq_append_getElem h, List.filter_append]
  cases e : neB cs[k] <;> simp [e]

theorem clText_skip (cs : List Str) (k : Nat) (h : k < cs.length) (h0 : cs[k] = []) : clText (cs.take (k + 1)) = clText (cs.take k) := by
  unfold clText
  rw [filter_step cs k h, if_neg (by simp [neB, h0]), List.append_nil]

theorem clText_more (cs : List Str) (k : Nat) (h : k < cs.length) (h0 : cs[k] ≠ []) : clText (cs.take (k + 1)) = clText (cs.take k) ++ (if clText (cs.take k) = [] then [] else [32]) ++ cs[k] := by
  unfold clText
  rw [filter_step cs k h, if_pos (by simp [neB, h0]), joinS_snoc]
  congr 2
  by_cases e : (cs.take k).filter neB = []
  · rw [if_pos e, e, if_pos]; simp [joinS, jnN]
  · rw [if_neg e, if_neg]
    exact joinS_ne _ (fun c hc => by have := (List.mem_filter.1 hc).2; simpa [neB] using this) e

theorem ttl_filter (p : Str → Bool) : ∀ (l : List Str), ttl (l.filter p) ≤ ttl l ∧ (l.filter p).length ≤ l.length
  | [] => by simp [ttl]
  | c :: l => by
    have ih := ttl_filter p l
    rw [List.filter_cons]
    split <;> simp [ttl] <;> omega

theorem clText_len (cs : List Str) : (clText cs).length ≤ ttl cs + cs.length := by
  have h1 := joinS_len [32] (cs.filter neB) rfl
  have h2 := ttl_filter neB cs
  unfold clText
  omega

def closeB (out : List Tri) (k : Int) (cs : List Str) : List Tri := if k = 0 then out else out ++ [⟨k, 0, clText cs⟩]
theorem closeB_len (out : List Tri) (k : Int) (cs : List Str) : (closeB out k cs).length ≤ out.length + 1 := by unfold closeB; split <;> simp
def lsz (ls : List Str) : Nat := ttl ls + ls.length
def cost (k : Int) (cs : List Str) : Nat := if k = 0 then 0 else lsz cs
theorem closeB_tl (out : List Tri) (k : Int) (cs : List Str) : tl (closeB out k cs) ≤ tl out + cost k cs := by
  unfold closeB cost
  split
  · omega
  · have := clText_len cs
    simp [tl_append, tl, lsz]; omega

/-! ### Runs of lines -/

def leadG {α : Type} (p : α → Bool) : List α → Nat
  | [] => 0
  | c :: l => if p c then leadG p l + 1 else 0
theorem leadG_le {α : Type} (p : α → Bool) : ∀ l, leadG p l ≤ l.length
  | [] => by simp [leadG]
  | c :: l => by have := leadG_le p l; simp only [leadG]; split <;> simp <;> omega
theorem leadG_step {α : Type} (p : α → Bool) : ∀ (l : List α) (k : Nat) (hk : k < l.length), k ≤ leadG p l → p l[k] = true → k + 1 ≤ leadG p l
  | [], _, h, _, _ => by simp at h
  | c :: l, 0, _, _, h => by
    simp only [List.getElem_cons_zero] at h
    simp [leadG, h]
  | c :: l, k + 1, hl, hk, h => by
    simp only [List.getElem_cons_succ] at h
    simp only [leadG] at hk ⊢
    split at hk
    · rename_i hc
      have := leadG_step p l k (by simpa using hl) (by omega) h
      simp only [hc, if_true]; omega
    · omega
theorem leadG_done {α : Type} (p : α → Bool) : ∀ (l : List α) (k : Nat), k ≤ leadG p l → (∀ hk : k < l.length, p l[k] = false) → leadG p l = k
  | [], k, hk, _ => by simp [leadG] at hk ⊢; omega
  | c :: l, 0, _, h => by
    have := h (by simp)
    simp only [List.getElem_cons_zero] at this
    simp [leadG, this]
  | c :: l, k + 1, hk, h => by
    simp only [leadG] at hk ⊢
    split at hk
    · rename_i hc
      simp only [hc, if_true]
      have := leadG_done p l k (by omega) (fun hl => by have := h (by simpa using hl); simpa using this)
      omega
    · omega

def nt (s : Str) : Bool := !ticks s

/-! ### The blocks of a document -/

def codeB (code : List Str) : List Tri := if code = [] then [] else [⟨5, 0, joinS [10] code⟩]
def jOf (L : List Str) (i : Nat) : Nat := i + 1 + leadG nt (L.drop (i + 1))
def codeOf (L : List Str) (i : Nat) : List Str := (L.drop (i + 1)).take (leadG nt (L.drop (i + 1)))
def afterC (L : List Str) (i : Nat) : Nat := if jOf L i < L.length then jOf L i + 1 else jOf L i

def pbl (L : List Str) : Nat → Nat → List Tri → Int → List Str → List Tri
  | 0, _, out, op, cs => closeB out op cs
  | f + 1, i, out, op, cs =>
    if i < L.length then
      if (classify (L.getD i [])).a = 0 then pbl L f (i + 1) (closeB out op cs) 0 []
      else if (classify (L.getD i [])).a = 1 then pbl L f (afterC L i) (closeB out op cs ++ codeB (codeOf L i)) 0 []
      else if (classify (L.getD i [])).a = 2 then pbl L f (i + 1) (closeB out op cs ++ [⟨2, (classify (L.getD i [])).b, (classify (L.getD i [])).s⟩]) 0 []
      else if (classify (L.getD i [])).a = 3 then pbl L f (i + 1) (closeB out op cs ++ [⟨6, 0, []⟩]) 0 []
      else if (classify (L.getD i [])).a = 4 then pbl L f (i + 1) (closeB out op cs) 3 [(classify (L.getD i [])).s]
      else if (classify (L.getD i [])).a = 5 then
        (if op = 4 then pbl L f (i + 1) out op (cs ++ [(classify (L.getD i [])).s]) else pbl L f (i + 1) (closeB out op cs) 4 [(classify (L.getD i [])).s])
      else if op = 1 ∨ op = 3 then pbl L f (i + 1) out op (cs ++ [(classify (L.getD i [])).s])
      else pbl L f (i + 1) (closeB out op cs) 1 [(classify (L.getD i [])).s]
    else closeB out op cs

def parseBlocks (d : Str) : List Tri := pbl (splitL d) (splitL d).length 0 [] 0 []

theorem pbl_end (L : List Str) (f i : Nat) (out : List Tri) (op : Int) (cs : List Str) (h : L.length ≤ i) : pbl L f i out op cs = closeB out op cs := by
  cases f with
  | zero => rfl
  | succ f => rw [pbl, if_neg (by omega)]

theorem close0 (out : List Tri) (cs : List Str) : closeB out 0 cs = out := by simp [closeB]

/-- With nothing open, what is in hand does not count. -/
theorem pbl_open0 (L : List Str) (f i : Nat) (out : List Tri) (cs : List Str) : pbl L f i out 0 cs = pbl L f i out 0 [] := by
  cases f with
  | zero => simp [pbl, close0]
  | succ f => simp [pbl, close0]

theorem classify_len (l : Str) : (classify l).s.length ≤ l.length := by
  unfold classify
  have h1 := trim_len l
  have h2 := trim_len (l.drop 1)
  have h3 := trim_len (l.drop (lead isHash l))
  simp only [List.length_drop] at h2 h3
  repeat' split
  all_goals (try dsimp only [List.length_nil]) <;> omega

theorem lsz_append (a b : List Str) : lsz (a ++ b) = lsz a + lsz b := by unfold lsz; rw [ttl_append, List.length_append]; omega
theorem lsz_one (s : Str) : lsz [s] = s.length + 1 := by simp [lsz, ttl]
theorem lsz_drop (L : List Str) (i : Nat) (h : i < L.length) : lsz (L.drop i) = L[i].length + 1 + lsz (L.drop (i + 1)) := by
  rw [List.drop_eq_getElem_cons h, ← List.singleton_append, lsz_append, lsz_one]
theorem lsz_split (L : List Str) (n : Nat) : lsz (L.take n) + lsz (L.drop n) = lsz L := by rw [← lsz_append, List.take_append_drop]
theorem lsz_mono (L : List Str) (i j : Nat) (h : i ≤ j) : lsz (L.drop j) ≤ lsz (L.drop i) := by
  have := lsz_split (L.drop i) (j - i)
  rw [List.drop_drop, show i + (j - i) = j by omega] at this
  omega
theorem lsz_take_le (L : List Str) (n : Nat) : lsz (L.take n) ≤ lsz L := by have := lsz_split L n; omega

theorem codeB_tl (code : List Str) : tl (codeB code) ≤ lsz code := by
  unfold codeB
  split
  · simp [tl]
  · have := joinS_len [10] code rfl
    simp [tl, lsz]; omega
theorem codeB_len (code : List Str) : (codeB code).length ≤ 1 := by unfold codeB; split <;> simp

/-- The code lines and what follows them are lines of the document. -/
theorem code_cost (L : List Str) (i : Nat) : lsz (codeOf L i) + lsz (L.drop (afterC L i)) ≤ lsz (L.drop (i + 1)) := by
  have h1 := lsz_split (L.drop (i + 1)) (leadG nt (L.drop (i + 1)))
  rw [List.drop_drop] at h1
  have h2 := lsz_mono L (jOf L i) (afterC L i) (by unfold afterC; split <;> omega)
  unfold codeOf jOf at *
  omega
theorem afterC_le (L : List Str) (i : Nat) (h : i < L.length) : i + 1 ≤ afterC L i ∧ afterC L i ≤ L.length := by
  have h1 := leadG_le nt (L.drop (i + 1))
  simp only [List.length_drop] at h1
  unfold afterC jOf
  split <;> omega

theorem lsz_cutAll : ∀ (d : Str), lsz (cutAll d) = d.length + 1
  | [] => by simp [cutAll, lsz, ttl]
  | c :: d => by
    have ih := lsz_cutAll d
    simp only [cutAll]
    split
    · rw [← List.singleton_append, lsz_append, lsz_one, ih]; simp; omega
    · split
      · rename_i h; exact absurd h (cutAll_ne d)
      · rename_i x r h
        rw [h] at ih
        simp [lsz, ttl] at ih ⊢
        omega
theorem lsz_splitL (d : Str) : lsz (splitL d) ≤ d.length + 1 := by
  unfold splitL
  have := lsz_cutAll d
  split
  · simp [lsz, ttl]
  · split
    · have := lsz_take_le (cutAll d) ((cutAll d).length - 1)
      rw [List.dropLast_eq_take]
      omega
    · omega

/-- What a round hands on. -/
structure PInv (L : List Str) (f i : Nat) (out : List Tri) (op : Int) (cs : List Str) : Prop where
  eq : pbl L f i out op cs = pbl L L.length 0 [] 0 []
  fuel : L.length - i ≤ f
  hi : i ≤ L.length
  cst : tl out + cost op cs + lsz (L.drop i) ≤ lsz L
  olen : out.length ≤ 2 * i
  clen : cs.length ≤ i

theorem PInv.start (L : List Str) : PInv L L.length 0 [] 0 [] := ⟨rfl, by omega, by omega, by simp [tl, cost], by simp, by simp⟩

section
variable {L : List Str} {f i : Nat} {out : List Tri} {op : Int} {cs : List Str}

theorem PInv.up (h : PInv L f i out op cs) (hi : i < L.length) : ∃ f', f = f' + 1 := ⟨f - 1, by have := h.fuel; omega⟩

theorem PInv.ttl_cs (h : PInv L f i out op cs) (h0 : op ≠ 0) : ttl cs ≤ lsz L := by
  have := h.cst
  simp only [cost, if_neg h0, lsz] at this ⊢
  omega

theorem PInv.stale (h : PInv L f i out 0 cs) (cs' : List Str) (hc : cs'.length ≤ i) : PInv L f i out 0 cs' :=
  ⟨by rw [pbl_open0, ← pbl_open0 L f i out cs]; exact h.eq, h.fuel, h.hi, by simpa [cost] using h.cst, h.olen, hc⟩

theorem PInv.blank (h : PInv L (f + 1) i out op cs) (hi : i < L.length) (h0 : (classify (L.getD i [])).a = 0) (cs' : List Str) (hc : cs'.length ≤ i) : PInv L f (i + 1) (closeB out op cs) 0 cs' := by
  have e := h.eq
  rw [pbl, if_pos hi, if_pos h0] at e
  have h1 := closeB_len out op cs
  have h2 := closeB_tl out op cs
  have h3 := h.cst
  rw [lsz_drop L i hi] at h3
  have := h.olen
  have := h.fuel
  exact PInv.stale (cs := []) ⟨e, by omega, by omega, by simp [cost]; omega, by omega, by simp⟩ cs' (by omega)

theorem PInv.fence (h : PInv L (f + 1) i out op cs) (hi : i < L.length) (h0 : (classify (L.getD i [])).a ≠ 0) (h1 : (classify (L.getD i [])).a = 1) (cs' : List Str) (hc : cs'.length ≤ i) : PInv L f (afterC L i) (closeB out op cs ++ codeB (codeOf L i)) 0 cs' := by
  have e := h.eq
  rw [pbl, if_pos hi, if_neg h0, if_pos h1] at e
  have h2 := closeB_len out op cs
  have h3 := closeB_tl out op cs
  have h4 := h.cst
  rw [lsz_drop L i hi] at h4
  have h5 := codeB_tl (codeOf L i)
  have h6 := codeB_len (codeOf L i)
  have h7 := code_cost L i
  have h8 := afterC_le L i hi
  have := h.olen
  have := h.fuel
  refine PInv.stale (cs := []) ⟨e, by omega, by omega, ?_, by simp; omega, by simp⟩ cs' (by omega)
  simp only [cost, if_true, tl_append]
  omega

theorem PInv.lit (h : PInv L (f + 1) i out op cs) (hi : i < L.length) {q : Tri} (e : pbl L f (i + 1) (closeB out op cs ++ [q]) 0 [] = pbl L L.length 0 [] 0 []) (hq : q.s.length ≤ L[i].length) (cs' : List Str) (hc : cs'.length ≤ i) : PInv L f (i + 1) (closeB out op cs ++ [q]) 0 cs' := by
  have h2 := closeB_len out op cs
  have h3 := closeB_tl out op cs
  have h4 := h.cst
  rw [lsz_drop L i hi] at h4
  have := h.olen
  have := h.fuel
  refine PInv.stale (cs := []) ⟨e, by omega, by omega, ?_, by simp; omega, by simp⟩ cs' (by omega)
  simp only [cost, if_true, tl_append, tl]
  omega

theorem PInv.newC (h : PInv L (f + 1) i out op cs) (hi : i < L.length) {k : Int} {s : Str} (hk : k ≠ 0) (e : pbl L f (i + 1) (closeB out op cs) k [s] = pbl L L.length 0 [] 0 []) (hq : s.length ≤ L[i].length) : PInv L f (i + 1) (closeB out op cs) k [s] := by
  have h2 := closeB_len out op cs
  have h3 := closeB_tl out op cs
  have h4 := h.cst
  rw [lsz_drop L i hi] at h4
  have := h.olen
  have := h.fuel
  refine ⟨e, by omega, by omega, ?_, by omega, by simp⟩
  simp only [cost, if_neg hk, lsz_one]
  omega

theorem PInv.moreC (h : PInv L (f + 1) i out op cs) (hi : i < L.length) {s : Str} (hk : op ≠ 0) (e : pbl L f (i + 1) out op (cs ++ [s]) = pbl L L.length 0 [] 0 []) (hq : s.length ≤ L[i].length) : PInv L f (i + 1) out op (cs ++ [s]) := by
  have h4 := h.cst
  rw [lsz_drop L i hi] at h4
  have := h.olen
  have := h.clen
  have := h.fuel
  refine ⟨e, by omega, by omega, ?_, by omega, by simp; omega⟩
  simp only [cost, if_neg hk, lsz_append, lsz_one] at h4 ⊢
  omega

theorem PInv.done (h : PInv L f i out op cs) (hi : L.length ≤ i) : closeB out op cs = pbl L L.length 0 [] 0 [] ∧ (closeB out op cs).length ≤ 2 * L.length + 1 ∧ tl (closeB out op cs) ≤ lsz L := by
  have e := h.eq
  rw [pbl_end _ _ _ _ _ _ hi] at e
  have h2 := closeB_len out op cs
  have h3 := closeB_tl out op cs
  have h4 := h.cst
  have := h.olen
  have := h.hi
  exact ⟨e, by omega, by omega⟩
end

end Go.Proofs.Ybuabw
