/-
  PLAIN FACTS, seventh part: how wide and how many the shown lines are. Own work for the seat Ybuabw.
-/
import Derived.Test.YbuabwMem9
namespace Go.Proofs.Ybuabw
set_option linter.unusedVariables false
set_option linter.unusedSimpArgs false

/-! ### Lines of a list of fragments, one fragment more -/

theorem rlN_prefix (a b : List Frg) : ∀ k, k ≤ a.length → rlN (a ++ b) k = rlN a k
  | 0, _ => rfl
  | k + 1, h => by
    rw [rlN_step a k (by omega), rlN_step (a ++ b) k (by simp; omega), rlN_prefix a b k (by omega), List.getElem_append_left (by omega)]

def rlF (out : List Frg) : List Str × Str := rlN out out.length
theorem rlF_snoc (out : List Frg) (f : Frg) : rlF (out ++ [f]) = rlStep out.length (rlF out) f := by
  unfold rlF
  rw [List.length_append, List.length_singleton, rlN_step _ _ (by simp), rlN_prefix _ _ _ (Nat.le_refl _)]
  congr 1
  simp

structure LInv (W : Nat) (out : List Frg) (st : Bool) (col : Nat) : Prop where
  cur : (rlF out).2.length = col
  lines : ∀ s ∈ (rlF out).1, s.length ≤ W
  colW : col ≤ W
  ne : st = true → out ≠ []
  em : st = false → out = []

/-- The lines and the line in hand after a fragment. -/
theorem step_len {W : Nat} {out : List Frg} {f : Frg} {c : Nat} (hc : (rlF out).2.length = c) (hl : ∀ s ∈ (rlF out).1, s.length ≤ W) (hcW : c ≤ W) :
    (∀ s ∈ (rlF (out ++ [f])).1, s.length ≤ W) ∧
    (rlF (out ++ [f])).2.length = (if out = [] then c else if f.br = 2 then 0 else if f.br = 1 then c + 1 else c) + f.s.length := by
  rw [rlF_snoc, rlStep]
  by_cases h0 : out = []
  · subst h0
    simp only [List.length_nil, rlPre, if_true, List.length_append, shown_len]
    exact ⟨hl, by omega⟩
  · have hn : ¬ out.length = 0 := by simpa using h0
    rw [if_neg h0]
    by_cases h2 : f.br = 2
    · simp only [rlPre, if_neg hn, if_pos h2, List.length_append, shown_len, List.length_nil]
      refine ⟨fun s hs => ?_, trivial⟩
      rcases List.mem_append.1 hs with h | h
      · exact hl s h
      · simp at h; subst h; omega
    · by_cases h1 : f.br = 1
      · simp only [rlPre, if_neg hn, if_neg h2, if_pos h1, List.length_append, shown_len, List.length_singleton]
        exact ⟨hl, by omega⟩
      · simp only [rlPre, if_neg hn, if_neg h2, if_neg h1, List.length_append, shown_len]
        exact ⟨hl, by omega⟩

theorem fBr_cases (W : Nat) (st : Bool) (col L : Nat) : (st = false ∧ fBr W st col L = 0) ∨ (st = true ∧ col + 1 + L ≤ W ∧ fBr W st col L = 1) ∨ (st = true ∧ fBr W st col L = 2) := by
  unfold fBr
  cases st with
  | false => left; simp
  | true =>
    right
    simp only [if_true]
    by_cases h : col + 1 + L ≤ W
    · left; simp [h]
    · right; simp [h]

def baseC (f : Int) (col : Nat) : Nat := if f = 1 then col + 1 else 0

theorem fits_inv {W : Nat} {out : List Frg} {st : Bool} {col : Nat} {ms : List Tri} (h : LInv W out st col) (hL : tl ms ≤ W) :
    ∀ j, j ≤ ms.length → 0 < j → (∀ s ∈ (rlF (out ++ fitsN (fBr W st col (tl ms)) ms j)).1, s.length ≤ W) ∧ (rlF (out ++ fitsN (fBr W st col (tl ms)) ms j)).2.length = baseC (fBr W st col (tl ms)) col + tl (ms.take j)
  | 0, _, h0 => by omega
  | j + 1, hj, _ => by
    have hts := tl_take ms j (by omega)
    have htk := tl_le ms (j + 1)
    have hcases := fBr_cases W st col (tl ms)
    have hcW := h.colW
    rw [fitsN, ← List.append_assoc]
    by_cases h0 : j = 0
    · subst h0
      simp only [fitsN, List.append_nil, if_true, List.take_zero, tl, Nat.zero_add] at hts ⊢
      rw [getD_lt _ _ _ (show 0 < ms.length by omega)]
      have hs := step_len (f := ⟨fBr W st col (tl ms), ms[0].a, ms[0].b, ms[0].s⟩) h.cur h.lines h.colW
      refine ⟨hs.1, ?_⟩
      rw [hs.2, hts]
      congr 1
      rcases hcases with ⟨hst, hf⟩ | ⟨hst, hw, hf⟩ | ⟨hst, hf⟩
      · have he := h.em hst
        have hc := h.cur
        rw [if_pos he, hf]
        rw [he] at hc
        simp [rlF, rlN] at hc
        simp [baseC]; omega
      · rw [if_neg (h.ne hst), hf]; simp [baseC]
      · rw [if_neg (h.ne hst), hf]; simp [baseC]
    · have ih := fits_inv h hL j (by omega) (by omega)
      have hne : out ++ fitsN (fBr W st col (tl ms)) ms j ≠ [] := by
        intro e
        have := congrArg List.length e
        simp [fitsN_len] at this
        omega
      rw [if_neg h0, getD_lt _ _ _ (show j < ms.length by omega)]
      have hb : baseC (fBr W st col (tl ms)) col + tl (ms.take j) ≤ W := by
        rcases hcases with ⟨hst, hf⟩ | ⟨hst, hw, hf⟩ | ⟨hst, hf⟩
        · rw [hf]; simp [baseC]; omega
        · rw [hf]; simp [baseC]; omega
        · rw [hf]; simp [baseC]; omega
      have hs := step_len (f := ⟨0, ms[j].a, ms[j].b, ms[j].s⟩) ih.2 ih.1 hb
      refine ⟨hs.1, ?_⟩
      rw [hs.2, if_neg hne, hts]
      simp; omega

def lastC (W p : Nat) : Nat := if p % W = 0 then W else p % W

theorem segs_inv {W : Nat} {ms : List Tri} {st : Bool} (hW : 1 ≤ W) : ∀ (f p : Nat) (out : List Frg) (c : Nat), p < tl ms → tl ms - p ≤ f → (rlF out).2.length = c → (∀ s ∈ (rlF out).1, s.length ≤ W) → c ≤ W →
    (p = 0 → (st = true → out ≠ []) ∧ (st = false → out = [])) → (0 < p → out ≠ [] ∧ c = lastC W p) →
    (∀ s ∈ (rlF (out ++ segs W ms st f p)).1, s.length ≤ W) ∧ (rlF (out ++ segs W ms st f p)).2.length = lastC W (tl ms)
  | 0, p, out, c, hp, hf, _, _, _, _, _ => by omega
  | f + 1, p, out, c, hp, hf, hc, hl, hcW, h0, h1 => by
    rw [segs, if_pos hp]
    have hg := cEnd_gt W ms p hW hp
    have hn := next_mul W p hW
    have hce : cEnd W ms p ≤ (p / W + 1) * W := by unfold cEnd; omega
    have hs := step_len (f := ⟨brOf W p st, (ms.getD (mOf ms p) zT).a, (ms.getD (mOf ms p) zT).b, ((cat ms).drop p).take (cEnd W ms p - p)⟩) hc hl hcW
    have hfl : (((cat ms).drop p).take (cEnd W ms p - p)).length = cEnd W ms p - p := by
      have := cat_len ms
      simp only [List.length_take, List.length_drop]; omega
    have hdm := Nat.div_add_mod p W
    have hml := Nat.mod_lt p hW
    have hmm : (p / W + 1) * W = W * (p / W) + W := by rw [Nat.add_mul, Nat.one_mul, Nat.mul_comm]
    -- the line in hand afterwards
    have hnew : (rlF (out ++ [⟨brOf W p st, (ms.getD (mOf ms p) zT).a, (ms.getD (mOf ms p) zT).b, ((cat ms).drop p).take (cEnd W ms p - p)⟩])).2.length = cEnd W ms p - W * (p / W) := by
      rw [hs.2]
      simp only [hfl]
      by_cases hp0 : p = 0
      · subst hp0
        obtain ⟨ha, hb⟩ := h0 rfl
        simp only [Nat.zero_div, Nat.mul_zero, Nat.sub_zero]
        cases st with
        | true =>
          rw [if_neg (ha rfl), if_pos (by simp [brOf])]; omega
        | false =>
          have he := hb rfl
          rw [if_pos he]
          rw [he] at hc
          simp [rlF, rlN] at hc
          omega
      · obtain ⟨ha, hb⟩ := h1 (by omega)
        rw [if_neg ha]
        by_cases hm : p % W = 0
        · rw [if_pos (by simp only [brOf]; rw [if_pos ⟨hm, .inl (by omega)⟩])]
          omega
        · have hbr : brOf W p st = 0 := by rw [brOf, if_neg (fun h => hm h.1)]
          simp only [hbr]
          rw [if_neg (by decide), if_neg (by decide), hb, lastC, if_neg hm]
          omega
    have hcol : cEnd W ms p - W * (p / W) = lastC W (cEnd W ms p) := by
      unfold lastC
      have := col_end (W := W) (s := W * (p / W)) (c := p / W) (L := cEnd W ms p) (Nat.mul_comm _ _) (by omega) (by omega)
      exact this
    rw [hcol] at hnew
    have hlW : lastC W (cEnd W ms p) ≤ W := by
      unfold lastC
      have := Nat.mod_lt (cEnd W ms p) hW
      split <;> omega
    rw [List.append_cons]
    by_cases hend : cEnd W ms p < tl ms
    · exact segs_inv hW f (cEnd W ms p) _ _ hend (by omega) hnew hs.1 hlW (fun e => by omega) (fun _ => ⟨by simp, rfl⟩)
    · have e : cEnd W ms p = tl ms := by omega
      rw [segs_end _ _ _ _ _ (by omega), List.append_nil]
      exact ⟨hs.1, by rw [hnew, e]⟩

theorem place_inv {W : Nat} {out : List Frg} {st : Bool} {col : Nat} {ms : List Tri} (hW : 1 ≤ W) (h : LInv W out st col) (hm : ms ≠ []) : LInv W (place W (out, st, col) ms).1 (place W (out, st, col) ms).2.1 (place W (out, st, col) ms).2.2 := by
  have hm0 : 0 < ms.length := List.length_pos_iff.2 hm
  unfold place
  by_cases hL : tl ms ≤ W
  · rw [if_pos hL]
    have hf := fits_inv h hL ms.length (Nat.le_refl _) hm0
    rw [List.take_length] at hf
    have hcases := fBr_cases W st col (tl ms)
    have hb : baseC (fBr W st col (tl ms)) col + tl ms = if fBr W st col (tl ms) = 1 then col + 1 + tl ms else tl ms := by
      unfold baseC
      by_cases hq : fBr W st col (tl ms) = 1
      · simp [hq]
      · simp [hq]
    refine ⟨by rw [hf.2, hb], hf.1, ?_, fun _ e => ?_, fun e => by cases e⟩
    · rcases hcases with ⟨hst, hf⟩ | ⟨hst, hw, hf⟩ | ⟨hst, hf⟩
      · simp only [hf]; rw [if_neg (by decide)]; exact hL
      · simp only [hf, if_true]; exact hw
      · simp only [hf]; rw [if_neg (by decide)]; exact hL
    · have h1 := congrArg List.length e
      simp only [List.length_append, fitsN_len, List.length_nil] at h1
      omega
  · rw [if_neg hL]
    have hs := segs_inv (ms := ms) (st := st) hW (tl ms) 0 out col (by omega) (by omega) h.cur h.lines h.colW (fun _ => ⟨h.ne, h.em⟩) (fun e => by omega)
    refine ⟨by rw [hs.2]; rfl, hs.1, ?_, fun _ e => ?_, fun e => by cases e⟩
    · have := Nat.mod_lt (tl ms) hW
      simp only
      split <;> omega
    · have h1 := congrArg List.length e
      obtain ⟨f, hf⟩ : ∃ f, tl ms = f + 1 := ⟨tl ms - 1, by omega⟩
      simp only at h1
      rw [hf, segs, if_pos (by omega)] at h1
      simp at h1

theorem layWs_inv {W : Nat} (hW : 1 ≤ W) : ∀ (ws : List (List Tri)) (x : List Frg × Bool × Nat), (∀ m ∈ ws, m ≠ []) → LInv W x.1 x.2.1 x.2.2 → LInv W (layWs W x ws).1 (layWs W x ws).2.1 (layWs W x ws).2.2
  | [], x, _, h => h
  | m :: r, x, hm, h => by
    rw [layWs_cons]
    exact layWs_inv hW r (place W x m) (fun q hq => hm q (by simp [hq])) (place_inv hW h (hm m (by simp)))

/-- (A) Every line is at most as wide as the width. -/
theorem lines_wide (q : List Tri) (z : Int) : ∀ s ∈ linesOf q z, s.length ≤ wid z := by
  have h := layWs_inv (wid_pos z) (words q) ([], false, 0) (wd_ne q []) ⟨by simp [rlF, rlN], by simp [rlF, rlN], by simp, by simp, by simp⟩
  intro s hs
  unfold linesOf renderLines at hs
  split at hs
  · cases hs
  · rcases List.mem_append.1 hs with h1 | h1
    · exact h.lines s h1
    · simp only [List.mem_singleton] at h1
      have h2 := h.cur
      have h3 := h.colW
      have e : s.length = (layWs (wid z) ([], false, 0) (words q)).2.2 := by rw [h1]; exact h2
      omega

/-! ### (B) and (C): against the text -/

def shF : List Frg → Nat
  | [] => 0
  | f :: l => f.s.length + (if f.br = 1 then 1 else 0) + shF l
theorem shF_append (a b : List Frg) : shF (a ++ b) = shF a + shF b := by
  induction a with
  | nil => simp [shF]
  | cons p a ih => simp [shF, ih]; omega
theorem shF_take (l : List Frg) (k : Nat) (hk : k < l.length) : shF (l.take (k + 1)) = shF (l.take k) + (l[k].s.length + if l[k].br = 1 then 1 else 0) := by
  rw [List.take_succ_eq_append_getElem hk, shF_append]; simp [shF]

theorem rlN_sh (l : List Frg) : ∀ k, k ≤ l.length → ttl (rlN l k).1 + (rlN l k).2.length ≤ shF (l.take k)
  | 0, _ => by simp [rlN, ttl, shF]
  | k + 1, h => by
    have ih := rlN_sh l k (by omega)
    rw [rlN_step l k (by omega), shF_take l k (by omega), rlStep]
    have hp : ttl (rlPre k (rlN l k) l[k]).1 + (rlPre k (rlN l k) l[k]).2.length ≤ ttl (rlN l k).1 + (rlN l k).2.length + (if l[k].br = 1 then 1 else 0) := by
      unfold rlPre
      split
      · omega
      · split
        · simp [ttl_append, ttl]
        · split
          · rename_i h1; simp [h1]; omega
          · omega
    simp only [List.length_append, shown_len]
    omega

theorem renderLines_sh (l : List Frg) : ttl (renderLines l) ≤ shF l := by
  unfold renderLines
  split
  · simp [ttl]
  · have := rlN_sh l l.length (Nat.le_refl _)
    rw [List.take_length] at this
    rw [ttl_append]; simp [ttl]; omega

def wsz : List (List Tri) → Nat
  | [] => 0
  | m :: r => tl m + 1 + wsz r

def SpOk (l : List Tri) : Prop := ∀ p ∈ l, p.a = 1 → p.s.length = 1

theorem wsz_wd : ∀ (r cur : List Tri), SpOk r → wsz (wd cur r) ≤ tl cur + tl r + 1
  | [], cur, _ => by
    unfold wd
    split <;> simp [wsz, tl]
  | p :: r, cur, h => by
    have hr : SpOk r := fun q hq => h q (by simp [hq])
    unfold wd
    split
    · rename_i h1
      have hp := h p (by simp) h1
      have := wsz_wd r [] hr
      split <;> simp [wsz, tl] at * <;> omega
    · split
      · have := wsz_wd r cur hr; simp [tl]; omega
      · have := wsz_wd r (cur ++ [p]) hr; simp [tl_append, tl] at this ⊢; omega

theorem fits_sh (f : Int) (ms : List Tri) : ∀ k, k ≤ ms.length → shF (fitsN f ms k) ≤ tl (ms.take k) + (if f = 1 then 1 else 0) ∧ (k = 0 → shF (fitsN f ms k) = 0)
  | 0, _ => by simp [fitsN, shF]
  | k + 1, h => by
    have ih := fits_sh f ms k (by omega)
    refine ⟨?_, fun e => by omega⟩
    rw [fitsN, shF_append, tl_take ms k (by omega), getD_lt _ _ _ (show k < ms.length by omega)]
    by_cases h0 : k = 0
    · have := ih.2 h0
      simp [shF, h0] at *
      omega
    · simp [shF, h0] at *
      omega

theorem segs_sh (W : Nat) (ms : List Tri) (st : Bool) (h : 1 ≤ W) : ∀ (f p : Nat), shF (segs W ms st f p) ≤ tl ms - p
  | 0, p => by simp [segs, shF]
  | f + 1, p => by
    rw [segs]
    split
    · rename_i hp
      have h1 := cEnd_gt W ms p h hp
      have := segs_sh W ms st h f (cEnd W ms p)
      have hb : brOf W p st ≠ 1 := by unfold brOf; split <;> decide
      simp only [shF, List.length_take, List.length_drop, if_neg hb]
      omega
    · simp [shF]

theorem place_sh (W : Nat) (x : List Frg × Bool × Nat) (ms : List Tri) (h : 1 ≤ W) : shF (place W x ms).1 ≤ shF x.1 + tl ms + (if x.2.1 = true then 1 else 0) ∧ (place W x ms).2.1 = true := by
  unfold place
  split
  · refine ⟨?_, rfl⟩
    have h1 := (fits_sh (fBr W x.2.1 x.2.2 (tl ms)) ms ms.length (Nat.le_refl _)).1
    rw [List.take_length] at h1
    simp only [shF_append]
    have h2 := fBr_cases W x.2.1 x.2.2 (tl ms)
    generalize fBr W x.2.1 x.2.2 (tl ms) = f at h1 h2 ⊢
    rcases h2 with ⟨hst, hf⟩ | ⟨hst, _, hf⟩ | ⟨hst, hf⟩
    · subst hf
      simp at h1
      omega
    · subst hf
      simp at h1
      rw [if_pos hst]
      omega
    · subst hf
      simp at h1
      rw [if_pos hst]
      omega
  · refine ⟨?_, rfl⟩
    have := segs_sh W ms x.2.1 h (tl ms) 0
    simp only [shF_append]; omega

theorem layWs_sh (W : Nat) (h : 1 ≤ W) : ∀ (ws : List (List Tri)) (x : List Frg × Bool × Nat), shF (layWs W x ws).1 ≤ shF x.1 + (if x.2.1 = true then wsz ws else wsz ws - 1)
  | [], x => by simp [layWs, wsz]
  | m :: r, x => by
    have ih := layWs_sh W h r (place W x m)
    have h1 := place_sh W x m h
    rw [layWs_cons]
    rw [h1.2, if_pos rfl] at ih
    simp only [wsz]
    split <;> simp_all <;> omega

theorem layout_sh (q : List Tri) (z : Int) (h : SpOk q) : shF (layout q z) ≤ tl q := by
  have h1 := layWs_sh (wid z) (wid_pos z) (words q) ([], false, 0)
  have h2 := wsz_wd q [] h
  unfold layout
  simp [shF, tl] at h1 h2
  have : wsz (words q) = wsz (wd [] q) := rfl
  omega

/-- Members of words hold text. -/
theorem wd_mem : ∀ (r cur : List Tri), (∀ p ∈ cur, p.s ≠ []) → ∀ m ∈ wd cur r, ∀ p ∈ m, p.s ≠ []
  | [], cur, hc, m, h => by
    unfold wd at h
    split at h
    · cases h
    · simp at h; subst h; exact hc
  | p :: r, cur, hc, m, h => by
    unfold wd at h
    split at h
    · split at h
      · exact wd_mem r [] (by simp) m h
      · rcases List.mem_cons.1 h with rfl | h
        · exact hc
        · exact wd_mem r [] (by simp) m h
    · split at h
      · exact wd_mem r cur hc m h
      · rename_i hs
        exact wd_mem r (cur ++ [p]) (fun q hq => by
          rcases List.mem_append.1 hq with h1 | h1
          · exact hc q h1
          · simp at h1; subst h1; exact hs) m h

theorem len_le_tl : ∀ (m : List Tri), (∀ p ∈ m, p.s ≠ []) → m.length ≤ tl m
  | [], _ => by simp
  | p :: m, h => by
    have := len_le_tl m (fun q hq => h q (by simp [hq]))
    have h0 : 0 < p.s.length := List.length_pos_iff.2 (h p (by simp))
    simp [tl]; omega

theorem layWs_cnt (W : Nat) (h : 1 ≤ W) : ∀ (ws : List (List Tri)) (x : List Frg × Bool × Nat), (∀ m ∈ ws, ∀ p ∈ m, p.s ≠ []) → (layWs W x ws).1.length ≤ x.1.length + (wsz ws - ws.length)
  | [], x, _ => by simp [layWs, wsz]
  | m :: r, x, hm => by
    have ih := layWs_cnt W h r (place W x m) (fun q hq => hm q (by simp [hq]))
    have h1 := len_le_tl m (hm m (by simp))
    have h2 : (place W x m).1.length ≤ x.1.length + tl m := by
      unfold place
      split
      · simp [fitsN_len]; omega
      · have := segs_len W m x.2.1 h (tl m) 0; simp; omega
    have h3 : ∀ ws : List (List Tri), ws.length ≤ wsz ws := by
      intro ws
      induction ws with
      | nil => simp
      | cons a b ih => simp [wsz]; omega
    have h4 := h3 r
    rw [layWs_cons]
    simp only [wsz, List.length_cons]
    omega

/-- (C) -/
theorem layout_cnt (q : List Tri) (z : Int) (h : SpOk q) : (layout q z).length ≤ tl q := by
  have h1 := layWs_cnt (wid z) (wid_pos z) (words q) ([], false, 0) (wd_mem q [] (by simp))
  have h2 := wsz_wd q [] h
  unfold layout
  simp [tl] at h1 h2
  have : wsz (words q) = wsz (wd [] q) := rfl
  by_cases h0 : words q = []
  · rw [h0] at h1 ⊢; simp [wsz] at h1; simp [h1]
  · have : 0 < (words q).length := List.length_pos_iff.2 h0
    omega

end Go.Proofs.Ybuabw
