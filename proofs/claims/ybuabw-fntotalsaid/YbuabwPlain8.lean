/-
  PLAIN FACTS, eighth part: what FnTotal says of blocks and of the whole text. Own work for the seat Ybuabw.
-/
import Derived.Test.YbuabwPlain7
namespace Go.Proofs.Ybuabw
set_option linter.unusedVariables false
set_option linter.unusedSimpArgs false

/-! ### Spaces have one byte -/

theorem SpOk.append {a b : List Tri} (ha : SpOk a) (hb : SpOk b) : SpOk (a ++ b) := fun p hp => by
  rcases List.mem_append.1 hp with h | h
  · exact ha p h
  · exact hb p h
theorem SpOk.one {p : Tri} (h : p.a = 1 → p.s.length = 1) : SpOk [p] := fun q hq => by simp at hq; subst hq; exact h
theorem SpOk.nil : SpOk [] := fun q hq => by cases hq
theorem SpOk.sub {a b : List Tri} (h : SpOk b) (hs : ∀ p ∈ a, p ∈ b) : SpOk a := fun p hp => h p (hs p hp)

theorem flushP_sp {out : List Tri} (h : SpOk out) (s : Int) (b : Str) : SpOk (flushP out s b) := by
  unfold flushP
  split
  · exact h
  · exact h.append (SpOk.one (by simp))

theorem pinl_sp (t : Str) : ∀ (f i : Nat) (s : Int) (b : Str) (out : List Tri), SpOk out → SpOk (pinl t f i s b out)
  | 0, i, s, b, out, h => by rw [pinl]; exact flushP_sp h s b
  | f + 1, i, s, b, out, h => by
    rw [pinl]
    repeat' split
    all_goals first
      | exact pinl_sp t f _ _ _ _ h
      | exact pinl_sp t f _ _ _ _ (flushP_sp h s b)
      | exact pinl_sp t f _ _ _ _ ((flushP_sp h s b).append (SpOk.one (by simp)))
      | exact flushP_sp h s b

theorem parseInline_sp (t : Str) : SpOk (parseInline t) := pinl_sp t _ _ _ _ _ SpOk.nil

theorem stepA_sp (l : List Tri) : SpOk (stepA l) := by
  intro p hp
  unfold stepA at hp
  obtain ⟨q, _, rfl⟩ := List.mem_map.1 hp
  unfold nrm1
  split
  · simp
  · split <;> simp

theorem mpush_sp {out : List Tri} {q : Tri} (h : SpOk out) : SpOk (mpush out q) := by
  by_cases h0 : q.a = 0
  · by_cases hl : lastIs out (fun p => p.a = 0 ∧ p.b = q.b)
    · obtain ⟨o, p, rfl, h1, h2⟩ := hl
      obtain ⟨pa, pb, ps⟩ := p
      simp only at h1 h2
      subst h1
      rw [mp_text_join h0 h2.symm]
      exact (h.sub (fun x hx => by simp [hx])).append (SpOk.one (by simp))
    · rw [mp_text_new h0 hl]; exact h.append (SpOk.one (by simp))
  · by_cases h1 : q.a = 1
    · by_cases hl : lastIs out (fun p => p.a = 1)
      · rw [mp_sp_same h1 hl]; exact h
      · rw [mp_sp_new h1 hl]; exact h.append (SpOk.one (by simp))
    · rw [mp_else h0 h1]; exact h.append (SpOk.one (fun e => absurd e h1))

theorem mergeL_sp (l : List Tri) : ∀ k, k ≤ l.length → SpOk (mergeL (l.take k))
  | 0, _ => by simpa [mergeL] using SpOk.nil
  | k + 1, h => by rw [mergeL_take l k (by omega)]; exact mpush_sp (mergeL_sp l k (by omega))

theorem cut1_sub (b : List Tri) : ∀ p ∈ cut1 b, p ∈ b := by
  unfold cut1; split
  · exact fun p hp => List.mem_of_mem_drop hp
  · exact fun p hp => hp
theorem cut2_sub (b : List Tri) : ∀ p ∈ cut2 b, p ∈ b := by
  unfold cut2; split
  · exact fun p hp => List.mem_of_mem_take hp
  · exact fun p hp => hp

theorem normalize_sp (l : List Tri) : SpOk (normalize l) := by
  have h := mergeL_sp (stepA l) _ (Nat.le_refl _)
  rw [List.take_length] at h
  exact (h.sub (cut1_sub _)).sub (cut2_sub _)

theorem tl_stepA_le : ∀ (l : List Tri), SpOk l → tl (stepA l) ≤ tl l
  | [], _ => by simp [stepA, tl]
  | p :: l, h => by
    have ih := tl_stepA_le l (fun q hq => h q (by simp [hq]))
    have hp := h p (by simp)
    unfold stepA at ih ⊢
    rw [List.filter_cons]
    split
    · simp only [List.map_cons, tl]
      have : (nrm1 p).s.length ≤ p.s.length := by
        unfold nrm1
        split
        · rename_i h1; have := hp h1; simp; omega
        · split <;> simp
      omega
    · simp only [tl]; omega

theorem tl_mpush_le (out : List Tri) (q : Tri) (hq : q.a = 1 → q.s.length = 1) : tl (mpush out q) ≤ tl out + q.s.length := by
  by_cases h0 : q.a = 0
  · by_cases hl : lastIs out (fun p => p.a = 0 ∧ p.b = q.b)
    · obtain ⟨o, p, rfl, h1, h2⟩ := hl
      obtain ⟨pa, pb, ps⟩ := p
      simp only at h1 h2
      subst h1
      rw [mp_text_join h0 h2.symm]
      simp [tl_append, tl]; omega
    · rw [mp_text_new h0 hl]; simp [tl_append, tl]
  · by_cases h1 : q.a = 1
    · have := hq h1
      by_cases hl : lastIs out (fun p => p.a = 1)
      · rw [mp_sp_same h1 hl]; omega
      · rw [mp_sp_new h1 hl]; simp [tl_append, tl]; omega
    · rw [mp_else h0 h1]; simp [tl_append, tl]

theorem tl_mergeL_le (l : List Tri) (h : SpOk l) : ∀ k, k ≤ l.length → tl (mergeL (l.take k)) ≤ tl (l.take k)
  | 0, _ => by simp [mergeL, tl]
  | k + 1, hk => by
    have ih := tl_mergeL_le l h k (by omega)
    rw [mergeL_take l k (by omega), tl_take l k (by omega)]
    have := tl_mpush_le (mergeL (l.take k)) l[k] (h _ (List.getElem_mem _))
    omega

theorem normalize_tl_le (l : List Tri) (h : SpOk l) : tl (normalize l) ≤ tl l := by
  have h1 := tl_stepA_le l h
  have h2 := tl_mergeL_le (stepA l) (stepA_sp l) _ (Nat.le_refl _)
  rw [List.take_length] at h2
  have h4 : tl (cut1 (mergeL (stepA l))) ≤ tl (mergeL (stepA l)) := by unfold cut1; split; exact tl_drop1 _ _; omega
  have h5 : tl (normalize l) ≤ tl (cut1 (mergeL (stepA l))) := by unfold normalize cut2; split; exact tl_le _ _; omega
  omega

theorem pOf_sp (s : Str) : SpOk (pOf s) := normalize_sp _
theorem pOf_tl (s : Str) : tl (pOf s) ≤ s.length := by
  have h1 := normalize_tl_le (parseInline s) (parseInline_sp s)
  have h2 := (parseInline_bd s).2
  unfold pOf; omega
theorem setSt_sp (q : List Tri) (h : SpOk q) : SpOk (setSt q) := by
  intro p hp
  unfold setSt at hp
  obtain ⟨r, hr, rfl⟩ := List.mem_map.1 hp
  unfold st1
  split
  · rename_i h0; intro h1; simp only at h1; omega
  · exact h r hr

/-- (B), (C) for the lines of a text. -/
theorem pl_len (s : Str) (z : Int) : (∀ x ∈ linesOf (pOf s) z, x.length ≤ s.length) ∧ (linesOf (pOf s) z).length ≤ s.length := by
  have h1 := layout_sh (pOf s) z (pOf_sp s)
  have h2 := renderLines_sh (layout (pOf s) z)
  have h3 := pOf_tl s
  have h4 := layout_cnt (pOf s) z (pOf_sp s)
  have h5 := (renderLines_len (layout (pOf s) z)).1
  unfold linesOf
  exact ⟨fun x hx => by have := ttl_mem _ x hx; omega, by omega⟩
theorem hl_len (s : Str) (z : Int) : (∀ x ∈ linesOf (setSt (pOf s)) z, x.length ≤ s.length) ∧ (linesOf (setSt (pOf s)) z).length ≤ s.length := by
  have hsp := setSt_sp _ (pOf_sp s)
  have h1 := layout_sh _ z hsp
  have h2 := renderLines_sh (layout (setSt (pOf s)) z)
  have h3 := pOf_tl s
  have h4 := layout_cnt _ z hsp
  have h5 := (renderLines_len (layout (setSt (pOf s)) z)).1
  have h6 := (setSt_bd (pOf s)).2
  unfold linesOf
  exact ⟨fun x hx => by have := ttl_mem _ x hx; omega, by omega⟩

theorem mxN_bd (ls : List Str) (c : Nat) (h : ∀ x ∈ ls, x.length ≤ c) : ∀ k, k ≤ ls.length → mxN ls k ≤ c
  | 0, _ => by simp [mxN]
  | k + 1, hk => by
    have ih := mxN_bd ls c h k (by omega)
    rw [mxN, getD_lt _ _ _ (show k < ls.length by omega)]
    have := h ls[k] (List.getElem_mem _)
    split <;> omega

theorem preN_mem (f : Nat → Str) (ls : List Str) (c d : Nat) (hf : ∀ k, (f k).length ≤ c) (h : ∀ x ∈ ls, x.length ≤ d) : ∀ k, k ≤ ls.length → ∀ x ∈ preN f ls k, x.length ≤ c + d
  | 0, _, x, hx => by simp [preN] at hx
  | k + 1, hk, x, hx => by
    rw [preN, getD_lt _ _ _ (show k < ls.length by omega)] at hx
    rcases List.mem_append.1 hx with h1 | h1
    · exact preN_mem f ls c d hf h k (by omega) x h1
    · simp at h1
      have h2 := h ls[k] (List.getElem_mem _)
      have h3 := hf k
      subst h1
      simp only [List.length_append]; omega

theorem wid_nat (n : Nat) (h : 1 ≤ n) : wid (n : Int) = n := by unfold wid; rw [if_pos (by omega)]; omega
theorem bI_pos (W : Nat) : 1 ≤ bI W := by unfold bI; split <;> omega

/-- What blockBounds looks at. -/
theorem bounds_ok (b : Tri) (z : Int) (h5 : b.a ≠ 5) (h6 : b.a ≠ 6) : ∀ x ∈ renderBlock b z, x.length ≤ max (wid z) 3 ∧ x.length ≤ b.s.length + 2 := by
  have hw := wid_pos z
  have hp1 := pl_len b.s (bI (wid z) : Nat)
  have hp2 := pl_len b.s (wid z : Nat)
  have hh := hl_len b.s (wid z : Nat)
  have ww := wid_nat (wid z) hw
  have wb := wid_nat (bI (wid z)) (bI_pos _)
  have hA := lines_wide (pOf b.s) (bI (wid z) : Nat)
  have hB := lines_wide (pOf b.s) (wid z : Nat)
  have hC := lines_wide (setSt (pOf b.s)) (wid z : Nat)
  rw [wb] at hA
  rw [ww] at hB hC
  have hbi : bI (wid z) + 2 ≤ max (wid z) 3 := by unfold bI; split <;> omega
  unfold renderBlock
  rw [if_neg h5, if_neg h6]
  intro x hx
  split at hx
  · unfold headL at hx
    rcases List.mem_append.1 hx with h1 | h1
    · have := hC x h1; have := hh.1 x h1; omega
    · simp only [List.mem_singleton] at h1
      have e : x.length = mxN (linesOf (setSt (pOf b.s)) (wid z : Nat)) (linesOf (setSt (pOf b.s)) (wid z : Nat)).length := by rw [h1]; simp
      have m1 := mxN_bd _ (wid z) hC _ (Nat.le_refl _)
      have m2 := mxN_bd _ b.s.length hh.1 _ (Nat.le_refl _)
      omega
  · split at hx
    · unfold itemL at hx
      split at hx
      · simp at hx; subst hx; simp; omega
      · have m1 := preN_mem itF _ 2 (bI (wid z)) (fun k => by unfold itF; split <;> simp) hA _ (Nat.le_refl _) x hx
        have m2 := preN_mem itF _ 2 b.s.length (fun k => by unfold itF; split <;> simp) hp1.1 _ (Nat.le_refl _) x hx
        omega
    · split at hx
      · unfold quotL at hx
        split at hx
        · simp at hx; subst hx; simp; omega
        · have m1 := preN_mem quF _ 2 (bI (wid z)) (fun k => by simp [quF]) hA _ (Nat.le_refl _) x hx
          have m2 := preN_mem quF _ 2 b.s.length (fun k => by simp [quF]) hp1.1 _ (Nat.le_refl _) x hx
          omega
      · have := hB x hx; have := hp2.1 x hx; omega

theorem block_cnt (b : Tri) (z : Int) : (renderBlock b z).length ≤ b.s.length + 1 := by
  have hp1 := pl_len b.s (bI (wid z) : Nat)
  have hp2 := pl_len b.s (wid z : Nat)
  have hh := hl_len b.s (wid z : Nat)
  have hc := (cut_bd b.s).1
  unfold renderBlock
  split
  · unfold codeL; rw [preN_len]; exact hc
  · split
    · simp
    · split
      · unfold headL; simp only [List.length_append, List.length_singleton]; omega
      · split
        · unfold itemL
          split
          · simp
          · rw [preN_len]; omega
        · split
          · unfold quotL
            split
            · simp
            · rw [preN_len]; omega
          · omega

end Go.Proofs.Ybuabw
