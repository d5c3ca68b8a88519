/-
  PLAIN FACTS, ninth part: line feeds of the whole text. Own work for the seat Ybuabw.
-/
import Derived.Test.YbuabwPlain8
namespace Go.Proofs.Ybuabw
set_option linter.unusedVariables false
set_option linter.unusedSimpArgs false

def no10 (s : Str) : Prop := ∀ c ∈ s, c ≠ 10
def N10 (l : List Tri) : Prop := ∀ p ∈ l, no10 p.s

theorem no10.app {a b : Str} (ha : no10 a) (hb : no10 b) : no10 (a ++ b) := fun c hc => by
  rcases List.mem_append.1 hc with h | h
  · exact ha c h
  · exact hb c h
theorem no10.nil : no10 [] := fun c hc => by cases hc
theorem no10.one {c : UInt8} (h : c ≠ 10) : no10 [c] := fun d hd => by simp at hd; subst hd; exact h
theorem no10.sub {a b : Str} (h : no10 b) (hs : ∀ c ∈ a, c ∈ b) : no10 a := fun c hc => h c (hs c hc)
theorem no10.take {a : Str} (h : no10 a) (n : Nat) : no10 (a.take n) := h.sub fun c hc => List.mem_of_mem_take hc
theorem no10.drop {a : Str} (h : no10 a) (n : Nat) : no10 (a.drop n) := h.sub fun c hc => List.mem_of_mem_drop hc
theorem no10.get {a : Str} (h : no10 a) (i : Nat) : a.getD i 0 ≠ 10 := by
  by_cases hi : i < a.length
  · rw [getD_lt _ _ _ hi]; exact h _ (List.getElem_mem _)
  · simp [List.getD_eq_getElem?_getD, List.getElem?_eq_none (by omega : a.length ≤ i)]

theorem N10.app {a b : List Tri} (ha : N10 a) (hb : N10 b) : N10 (a ++ b) := fun p hp => by
  rcases List.mem_append.1 hp with h | h
  · exact ha p h
  · exact hb p h
theorem N10.one {p : Tri} (h : no10 p.s) : N10 [p] := fun q hq => by simp at hq; subst hq; exact h
theorem N10.nil : N10 [] := fun q hq => by cases hq
theorem N10.sub {a b : List Tri} (h : N10 b) (hs : ∀ p ∈ a, p ∈ b) : N10 a := fun p hp => h p (hs p hp)

theorem flushP_10 {out : List Tri} (h : N10 out) {s : Int} {b : Str} (hb : no10 b) : N10 (flushP out s b) := by
  unfold flushP
  split
  · exact h
  · exact h.app (N10.one hb)

theorem pinl_10 (t : Str) (ht : no10 t) : ∀ (f i : Nat) (s : Int) (b : Str) (out : List Tri), no10 b → N10 out → N10 (pinl t f i s b out)
  | 0, i, s, b, out, hb, h => by rw [pinl]; exact flushP_10 h hb
  | f + 1, i, s, b, out, hb, h => by
    have hf : N10 (flushP out s b) := flushP_10 h hb
    rw [pinl]
    repeat' split
    · exact pinl_10 t ht f _ _ _ _ (hb.app (no10.one (ht.get _))) h
    · exact pinl_10 t ht f _ _ _ _ (hb.app (no10.one (by decide))) h
    · exact pinl_10 t ht f _ _ _ _ no10.nil hf
    · exact pinl_10 t ht f _ _ _ _ no10.nil (hf.app (N10.one ((ht.drop _).take _)))
    · exact pinl_10 t ht f _ _ _ _ (hb.app (no10.one (by decide))) h
    · exact pinl_10 t ht f _ _ _ _ no10.nil (hf.app (N10.one (no10.one (by decide))))
    · exact pinl_10 t ht f _ _ _ _ (hb.app (no10.one (ht.get _))) h
    · exact hf

theorem stepA_10 {l : List Tri} (h : N10 l) : N10 (stepA l) := by
  intro p hp
  unfold stepA at hp
  obtain ⟨q, hq, rfl⟩ := List.mem_map.1 hp
  have hq2 := h q (List.mem_filter.1 hq).1
  unfold nrm1
  split
  · exact no10.one (by decide)
  · split
    · exact hq2
    · exact hq2

theorem mpush_10 {out : List Tri} {q : Tri} (h : N10 out) (hq : no10 q.s) : N10 (mpush out q) := by
  by_cases h0 : q.a = 0
  · by_cases hl : lastIs out (fun p => p.a = 0 ∧ p.b = q.b)
    · obtain ⟨o, p, rfl, h1, h2⟩ := hl
      obtain ⟨pa, pb, ps⟩ := p
      simp only at h1 h2
      subst h1
      rw [mp_text_join h0 h2.symm]
      exact (h.sub (fun x hx => by simp [hx])).app (N10.one ((h ⟨0, pb, ps⟩ (by simp)).app hq))
    · rw [mp_text_new h0 hl]; exact h.app (N10.one hq)
  · by_cases h1 : q.a = 1
    · by_cases hl : lastIs out (fun p => p.a = 1)
      · rw [mp_sp_same h1 hl]; exact h
      · rw [mp_sp_new h1 hl]; exact h.app (N10.one (no10.one (by decide)))
    · rw [mp_else h0 h1]; exact h.app (N10.one hq)

theorem mergeL_10 (l : List Tri) (hl : N10 l) : ∀ k, k ≤ l.length → N10 (mergeL (l.take k))
  | 0, _ => by simpa [mergeL] using N10.nil
  | k + 1, h => by rw [mergeL_take l k (by omega)]; exact mpush_10 (mergeL_10 l hl k (by omega)) (hl _ (List.getElem_mem _))

theorem pOf_10 {s : Str} (h : no10 s) : N10 (pOf s) := by
  have h1 : N10 (parseInline s) := pinl_10 s h _ _ _ _ _ no10.nil N10.nil
  have h2 := mergeL_10 _ (stepA_10 h1) _ (Nat.le_refl _)
  rw [List.take_length] at h2
  exact (h2.sub (cut1_sub _)).sub (cut2_sub _)
theorem setSt_10 {q : List Tri} (h : N10 q) : N10 (setSt q) := by
  intro p hp
  unfold setSt at hp
  obtain ⟨r, hr, rfl⟩ := List.mem_map.1 hp
  unfold st1
  split
  · exact h r hr
  · exact h r hr

theorem wd_10 : ∀ (r cur : List Tri), N10 cur → N10 r → ∀ m ∈ wd cur r, N10 m
  | [], cur, hc, _, m, h => by
    unfold wd at h
    split at h
    · cases h
    · simp at h; subst h; exact hc
  | p :: r, cur, hc, hr, m, h => by
    have hr' : N10 r := fun q hq => hr q (by simp [hq])
    unfold wd at h
    split at h
    · split at h
      · exact wd_10 r [] N10.nil hr' m h
      · rcases List.mem_cons.1 h with rfl | h
        · exact hc
        · exact wd_10 r [] N10.nil hr' m h
    · split at h
      · exact wd_10 r cur hc hr' m h
      · exact wd_10 r (cur ++ [p]) (hc.app (N10.one (hr p (by simp)))) hr' m h

def F10 (l : List Frg) : Prop := ∀ f ∈ l, no10 f.s
theorem F10.app {a b : List Frg} (ha : F10 a) (hb : F10 b) : F10 (a ++ b) := fun p hp => by
  rcases List.mem_append.1 hp with h | h
  · exact ha p h
  · exact hb p h

theorem getD_10 {ms : List Tri} (h : N10 ms) (k : Nat) : no10 (ms.getD k zT).s := by
  by_cases hi : k < ms.length
  · rw [getD_lt _ _ _ hi]; exact h _ (List.getElem_mem _)
  · simp [List.getD_eq_getElem?_getD, List.getElem?_eq_none (by omega : ms.length ≤ k), zT]
    exact no10.nil

theorem fits_10 (f : Int) {ms : List Tri} (h : N10 ms) : ∀ k, F10 (fitsN f ms k)
  | 0 => fun x hx => by simp [fitsN] at hx
  | k + 1 => (fits_10 f h k).app (fun x hx => by simp at hx; subst hx; exact getD_10 h k)

theorem cat_10 {ms : List Tri} (h : N10 ms) : no10 (cat ms) := fun c hc => by
  obtain ⟨p, hp, hcp⟩ := List.mem_flatMap.1 hc
  exact h p hp c hcp

theorem segs_10 (W : Nat) {ms : List Tri} (st : Bool) (h : N10 ms) : ∀ f p, F10 (segs W ms st f p)
  | 0, p => fun x hx => by simp [segs] at hx
  | f + 1, p => by
    rw [segs]
    split
    · intro x hx
      rcases List.mem_cons.1 hx with rfl | hx
      · exact ((cat_10 h).drop _).take _
      · exact segs_10 W st h f _ x hx
    · exact fun x hx => by cases hx

theorem place_10 (W : Nat) {x : List Frg × Bool × Nat} {ms : List Tri} (hx : F10 x.1) (h : N10 ms) : F10 (place W x ms).1 := by
  unfold place
  split
  · exact hx.app (fits_10 _ h _)
  · exact hx.app (segs_10 W _ h _ _)

theorem layWs_10 (W : Nat) : ∀ (ws : List (List Tri)) (x : List Frg × Bool × Nat), F10 x.1 → (∀ m ∈ ws, N10 m) → F10 (layWs W x ws).1
  | [], x, hx, _ => hx
  | m :: r, x, hx, hm => by
    rw [layWs_cons]
    exact layWs_10 W r _ (place_10 W hx (hm m (by simp))) (fun q hq => hm q (by simp [hq]))

theorem layout_10 {q : List Tri} (h : N10 q) (z : Int) : F10 (layout q z) :=
  layWs_10 _ _ _ (fun x hx => by cases hx) (wd_10 q [] N10.nil h)

theorem up1_10 {c : UInt8} (h : c ≠ 10) : up1 c ≠ 10 := by
  unfold up1
  split
  · rename_i hc
    simp only [Bool.and_eq_true, decide_eq_true_eq] at hc
    intro e
    have h1 : c = 42 := by
      have := congrArg (· + 32) e
      simp at this
      exact this
    subst h1
    exact absurd hc.1 (by decide)
  · exact h

theorem shown_10 (k st : Int) {s : Str} (h : no10 s) : no10 (shown k st s) := by
  unfold shown
  split
  · exact h
  · intro c hc
    unfold upper at hc
    obtain ⟨d, hd, rfl⟩ := List.mem_map.1 hc
    exact up1_10 (h d hd)

theorem rlN_10 (l : List Frg) (h : F10 l) : ∀ k, k ≤ l.length → (∀ s ∈ (rlN l k).1, no10 s) ∧ no10 (rlN l k).2
  | 0, _ => ⟨fun s hs => by simp [rlN] at hs, by simpa [rlN] using no10.nil⟩
  | k + 1, hk => by
    have ih := rlN_10 l h k (by omega)
    rw [rlN_step l k (by omega), rlStep]
    have hp : (∀ s ∈ (rlPre k (rlN l k) l[k]).1, no10 s) ∧ no10 (rlPre k (rlN l k) l[k]).2 := by
      unfold rlPre
      split
      · exact ih
      · split
        · refine ⟨fun s hs => ?_, no10.nil⟩
          rcases List.mem_append.1 hs with h1 | h1
          · exact ih.1 s h1
          · simp at h1; subst h1; exact ih.2
        · split
          · exact ⟨ih.1, ih.2.app (no10.one (by decide))⟩
          · exact ih
    exact ⟨hp.1, hp.2.app (shown_10 _ _ (h _ (List.getElem_mem _)))⟩

theorem renderLines_10 {l : List Frg} (h : F10 l) : ∀ s ∈ renderLines l, no10 s := by
  intro s hs
  have h1 := rlN_10 l h l.length (Nat.le_refl _)
  unfold renderLines at hs
  split at hs
  · cases hs
  · rcases List.mem_append.1 hs with h2 | h2
    · exact h1.1 s h2
    · simp at h2; subst h2; exact h1.2

theorem preN_10 (f : Nat → Str) (ls : List Str) (hf : ∀ k, no10 (f k)) (h : ∀ x ∈ ls, no10 x) : ∀ k, k ≤ ls.length → ∀ x ∈ preN f ls k, no10 x
  | 0, _, x, hx => by simp [preN] at hx
  | k + 1, hk, x, hx => by
    rw [preN, getD_lt _ _ _ (show k < ls.length by omega)] at hx
    rcases List.mem_append.1 hx with h1 | h1
    · exact preN_10 f ls hf h k (by omega) x h1
    · simp at h1; subst h1
      exact (hf k).app (h _ (List.getElem_mem _))

theorem cutAll_10 : ∀ (d : Str), ∀ s ∈ cutAll d, no10 s
  | [], s, hs => by simp [cutAll] at hs; subst hs; exact no10.nil
  | c :: d, s, hs => by
    have ih := cutAll_10 d
    simp only [cutAll] at hs
    split at hs
    · rcases List.mem_cons.1 hs with rfl | h
      · exact no10.nil
      · exact ih s h
    · rename_i hc
      split at hs
      · simp at hs; subst hs; exact no10.one hc
      · rename_i x r hx
        rw [hx] at ih
        rcases List.mem_cons.1 hs with rfl | h
        · exact (no10.one hc).app (ih x (by simp))
        · exact ih s (by simp [h])

theorem splitL_10 (d : Str) : ∀ s ∈ splitL d, no10 s := by
  intro s hs
  unfold splitL at hs
  split at hs
  · cases hs
  · split at hs
    · exact cutAll_10 d s (List.dropLast_subset _ hs)
    · exact cutAll_10 d s hs

theorem block_10 (b : Tri) (z : Int) (h : b.a = 5 ∨ no10 b.s) : ∀ x ∈ renderBlock b z, no10 x := by
  unfold renderBlock
  intro x hx
  split at hx
  · unfold codeL at hx
    exact preN_10 coF _ (fun k c hc => by simp [coF] at hc; subst hc; decide) (cutAll_10 b.s) _ (Nat.le_refl _) x hx
  · rename_i h5
    have hs : no10 b.s := h.resolve_left h5
    have hq := pOf_10 hs
    split at hx
    · simp at hx; subst hx
      intro c hc
      have := (List.mem_replicate.1 hc).2
      subst this; decide
    · split at hx
      · unfold headL at hx
        rcases List.mem_append.1 hx with h1 | h1
        · exact renderLines_10 (layout_10 (setSt_10 hq) _) x h1
        · simp only [List.mem_singleton] at h1
          subst h1
          intro c hc
          have := (List.mem_replicate.1 hc).2
          subst this
          split <;> decide
      · split at hx
        · unfold itemL at hx
          split at hx
          · simp at hx; subst hx; exact no10.one (by decide)
          · exact preN_10 itF _ (fun k c hc => by unfold itF at hc; split at hc <;> simp at hc <;> rcases hc with rfl | rfl <;> decide) (renderLines_10 (layout_10 hq _)) _ (Nat.le_refl _) x hx
        · split at hx
          · unfold quotL at hx
            split at hx
            · simp at hx; subst hx; exact no10.one (by decide)
            · exact preN_10 quF _ (fun k c hc => by simp [quF] at hc; rcases hc with rfl | rfl <;> decide) (renderLines_10 (layout_10 hq _)) _ (Nat.le_refl _) x hx
          · exact renderLines_10 (layout_10 hq _) x hx

/-! ### Counting -/

def lf : Str → Nat
  | [] => 0
  | c :: l => (if c = 10 then 1 else 0) + lf l
theorem lf_app (a b : Str) : lf (a ++ b) = lf a + lf b := by
  induction a with
  | nil => simp [lf]
  | cons c a ih => simp [lf, ih]; omega
theorem lf_no : ∀ (s : Str), no10 s → lf s = 0
  | [], _ => rfl
  | c :: s, h => by
    have := lf_no s (fun d hd => h d (by simp [hd]))
    simp [lf, this, h c (by simp)]
theorem lf_take (s : Str) (k : Nat) (h : k < s.length) : lf (s.take (k + 1)) = lf (s.take k) + (if s.getD k 0 = 10 then 1 else 0) := by
  rw [List.take_succ_eq_append_getElem h, lf_app, getD_lt _ _ _ h]; simp [lf]
theorem lf_le : ∀ (s : Str), lf s ≤ s.length
  | [] => by simp [lf]
  | c :: s => by have := lf_le s; simp only [lf, List.length_cons]; split <;> omega

theorem grpN_lf (g : List Str) (h : ∀ x ∈ g, no10 x) : ∀ k, k ≤ g.length → lf (grpN g k) = k
  | 0, _ => rfl
  | k + 1, hk => by
    rw [grpN, lf_app, lf_app, grpN_lf g h k (by omega), getD_lt _ _ _ (show k < g.length by omega), lf_no _ (h _ (List.getElem_mem _))]
    simp [lf]

def BOk (l : List Tri) : Prop := ∀ p ∈ l, p.a = 5 ∨ no10 p.s

theorem raN_lf (l : List Tri) (z : Int) (h : BOk l) : ∀ k, k ≤ l.length → lf (raN l z k).1 ≤ tl (l.take k) + 2 * k
  | 0, _ => by simp [raN, lf]
  | k + 1, hk => by
    have ih := raN_lf l z h k (by omega)
    rw [raN_step l z k (by omega), tl_take l k (by omega)]
    unfold raStep
    split
    · omega
    · have hb := block_cnt l[k] z
      have hg := grpN_lf _ (block_10 l[k] z (h _ (List.getElem_mem _))) _ (Nat.le_refl _)
      have hs : lf (sepN (raN l z k).2) ≤ 1 := by have := lf_le (sepN (raN l z k).2); have := sepN_len (raN l z k).2; omega
      simp only [lf_app]
      omega

theorem renderAll_lf (l : List Tri) (z : Int) (h : BOk l) : lf (renderAll l z) ≤ tl l + 2 * l.length := by
  have := raN_lf l z h l.length (Nat.le_refl _)
  rw [List.take_length] at this
  exact this

theorem grpN_end (g : List Str) (k : Nat) (h : 0 < k) : (grpN g k).getD ((grpN g k).length - 1) 0 = 10 ∧ grpN g k ≠ [] := by
  obtain ⟨j, rfl⟩ : ∃ j, k = j + 1 := ⟨k - 1, by omega⟩
  rw [grpN]
  refine ⟨?_, by simp⟩
  rw [List.length_append, List.length_singleton, Nat.add_sub_cancel]
  simp [List.getD_eq_getElem?_getD]

theorem raN_end (l : List Tri) (z : Int) : ∀ k, k ≤ l.length → (raN l z k).1 = [] ∨ (raN l z k).1.getD ((raN l z k).1.length - 1) 0 = 10
  | 0, _ => .inl rfl
  | k + 1, hk => by
    have ih := raN_end l z k (by omega)
    rw [raN_step l z k (by omega)]
    unfold raStep
    split
    · exact ih
    · rename_i hg
      right
      have h0 : 0 < (renderBlock l[k] z).length := List.length_pos_iff.2 hg
      have h1 := grpN_end (renderBlock l[k] z) _ h0
      have h2 : 0 < (grpN (renderBlock l[k] z) (renderBlock l[k] z).length).length := List.length_pos_iff.2 h1.2
      simp only [List.getD_eq_getElem?_getD] at h1 ⊢
      rw [List.getElem?_append_right (by simp only [List.length_append]; omega)]
      have e : ((raN l z k).1 ++ sepN (raN l z k).2 ++ grpN (renderBlock l[k] z) (renderBlock l[k] z).length).length - 1 - ((raN l z k).1 ++ sepN (raN l z k).2).length = (grpN (renderBlock l[k] z) (renderBlock l[k] z).length).length - 1 := by
        simp only [List.length_append]; omega
      rw [e]
      exact h1.1

theorem renderAll_end (l : List Tri) (z : Int) : renderAll l z = [] ∨ (renderAll l z).getD ((renderAll l z).length - 1) 0 = 10 := raN_end l z _ (Nat.le_refl _)

/-! ### Blocks of a document hold no line feed, save code -/

theorem jnN_10 {sep : Str} (hs : no10 sep) (ps : List Str) (h : ∀ x ∈ ps, no10 x) : ∀ k, k ≤ ps.length → no10 (jnN sep ps k)
  | 0, _ => no10.nil
  | k + 1, hk => by
    rw [jnN, getD_lt _ _ _ (show k < ps.length by omega)]
    refine ((jnN_10 hs ps h k (by omega)).app ?_).app (h _ (List.getElem_mem _))
    split
    · exact no10.nil
    · exact hs
theorem clText_10 (cs : List Str) (h : ∀ x ∈ cs, no10 x) : no10 (clText cs) :=
  jnN_10 (no10.one (by decide)) _ (fun x hx => h x (List.mem_filter.1 hx).1) _ (Nat.le_refl _)
theorem trim_10 {s : Str} (h : no10 s) : no10 (trim s) := (h.drop _).take _
theorem classify_10 {l : Str} (h : no10 l) : no10 (classify l).s := by
  unfold classify
  repeat' split
  all_goals first
    | exact no10.nil
    | exact trim_10 h
    | exact trim_10 (h.drop _)

theorem BOk.app {a b : List Tri} (ha : BOk a) (hb : BOk b) : BOk (a ++ b) := fun p hp => by
  rcases List.mem_append.1 hp with h | h
  · exact ha p h
  · exact hb p h
theorem BOk.one {p : Tri} (h : p.a = 5 ∨ no10 p.s) : BOk [p] := fun q hq => by simp at hq; subst hq; exact h
theorem closeB_10 {out : List Tri} (k : Int) {cs : List Str} (h : BOk out) (hc : ∀ x ∈ cs, no10 x) : BOk (closeB out k cs) := by
  unfold closeB
  split
  · exact h
  · exact h.app (BOk.one (.inr (clText_10 cs hc)))
theorem codeB_10 (code : List Str) : BOk (codeB code) := by
  unfold codeB
  split
  · exact fun p hp => by cases hp
  · exact BOk.one (.inl rfl)

theorem pbl_10 (L : List Str) (hL : ∀ s ∈ L, no10 s) : ∀ (f i : Nat) (out : List Tri) (op : Int) (cs : List Str), BOk out → (∀ x ∈ cs, no10 x) → BOk (pbl L f i out op cs)
  | 0, i, out, op, cs, h, hc => by rw [pbl]; exact closeB_10 op h hc
  | f + 1, i, out, op, cs, h, hc => by
    have hcl := closeB_10 op h hc
    have hnil : ∀ x ∈ ([] : List Str), no10 x := fun x hx => by cases hx
    have hg : no10 (L.getD i []) := by
      by_cases hi : i < L.length
      · rw [getD_lt _ _ _ hi]; exact hL _ (List.getElem_mem _)
      · simp [List.getD_eq_getElem?_getD, List.getElem?_eq_none (by omega : L.length ≤ i)]; exact no10.nil
    have ht := classify_10 hg
    have hone : ∀ x ∈ [(classify (L.getD i [])).s], no10 x := fun x hx => by simp only [List.mem_singleton] at hx; rw [hx]; exact ht
    have hmore : ∀ x ∈ cs ++ [(classify (L.getD i [])).s], no10 x := fun x hx => by
      rcases List.mem_append.1 hx with h1 | h1
      · exact hc x h1
      · exact hone x h1
    rw [pbl]
    repeat' split
    all_goals first
      | exact pbl_10 L hL f _ _ _ _ hcl hnil
      | exact pbl_10 L hL f _ _ _ _ (hcl.app (codeB_10 _)) hnil
      | exact pbl_10 L hL f _ _ _ _ (hcl.app (BOk.one (.inr ht))) hnil
      | exact pbl_10 L hL f _ _ _ _ (hcl.app (BOk.one (.inr no10.nil))) hnil
      | exact pbl_10 L hL f _ _ _ _ hcl hone
      | exact pbl_10 L hL f _ _ _ _ h hmore
      | exact hcl

theorem parseBlocks_10 (d : Str) : BOk (parseBlocks d) :=
  pbl_10 _ (splitL_10 d) _ _ _ _ _ (fun p hp => by cases hp) (fun x hx => by cases hx)

end Go.Proofs.Ybuabw
