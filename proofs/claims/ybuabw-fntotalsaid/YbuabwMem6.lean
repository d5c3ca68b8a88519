/-
  MEMORY, sixth part: what the model's layout holds at once. Own work for the seat Ybuabw.
-/
import Derived.Test.YbuabwMem5
import Derived.Test.YbuabwPlain4
namespace Go.Proofs.Ybuabw
open Go.RowKit
set_option linter.unusedVariables false
set_option maxRecDepth 8000

theorem ws_cell {w : World} {vw : Value} {P : List ((Option Addr × Nat × Nat) × List Tri)} (h : Rd w tV vw (P.map (·.1))) {i : Nat} (hi : i < P.length) : w.cell? ((base vw).add (i * tV.sz)) = some (slv P[i].1) := by
  have := h.cell0 okV (k := i) (by simpa using hi) rfl
  simpa [slv] using this

/-- A slice that grows beside two tables that are only read. -/
structure Oa (w1 w : World) (vr : Value) (out : List Frg) (B : Nat) (vo : Value) (O : List Int) (va : Value) (A : List UInt8) : Prop where
  ext : Ext w1 w
  own : Own w w1.heap.size tF vr out
  ro : OwnR w B tZ vo O
  ra : OwnR w B tB va A
  so : Sep vo vr
  sa : Sep va vr

section
variable {w1 w w' w2 w3 w4 : World} {vr vr' vo va : Value} {out out' : List Frg} {B : Nat} {O : List Int} {A : List UInt8}

theorem Oa.more (h : Oa w1 w vr out B vo O va A) (hx : Ext w w') : Oa w1 w' vr out B vo O va A :=
  ⟨h.ext.trans hx, h.own.ext hx, h.ro.ext hx, h.ra.ext hx, h.so, h.sa⟩

theorem Oa.push (h : Oa w1 w vr out B vo O va A) (g : Gw w w' vr vr') (o : Own w' w1.heap.size tF vr' out') : Oa w1 w' vr' out' B vo O va A :=
  ⟨h.ext.step g.grown (fun k hk => (h.own.lt k hk).1), o, h.ro.keep g.grown h.so, h.ra.keep g.grown h.sa, g.sep h.so (fun k hk => (h.ro.lt k hk).2), g.sep h.sa (fun k hk => (h.ra.lt k hk).2)⟩

theorem ne_freshR {α : Type} {T : ET α} {w : World} {v : Value} {l : List α} {B : Nat} (h : OwnR w B T v l) : some w.heap.size ≠ v.ownBlock := by
  intro e
  have := (h.lt _ e.symm).2
  omega

theorem Oa.make {e : TypeId} {cs0 : List Value} (h : Oa w1 w2 vr out B vo O va A) (hn : New w2 w3 e cs0) (hg : w3.grownBy w4 (some w2.heap.size)) : Oa w1 w4 vr out B vo O va A :=
  ⟨(h.ext.trans hn.ext).step hg (fun g e => by have := Option.some.inj e; have := h.ext.size; omega), (h.own.ext hn.ext).keep hg (.inr fun e => ne_fresh h.own e.symm),
   (h.ro.ext hn.ext).keep hg (.inr fun e => ne_freshR h.ro e.symm), (h.ra.ext hn.ext).keep hg (.inr fun e => ne_freshR h.ra e.symm), h.so, h.sa⟩
end

/-! ### Plain facts on chunks -/

theorem div_in {W s c p : Nat} (h : s = c * W) (hp : s ≤ p) (hp2 : p < s + W) : p / W = c ∧ (p % W = 0 ↔ p = s) := by
  have hd : p / W = c := Nat.div_eq_of_lt_le (by omega) (by rw [Nat.add_mul, Nat.one_mul]; omega)
  have hm := Nat.div_add_mod p W
  rw [hd, Nat.mul_comm] at hm
  exact ⟨hd, by omega⟩

theorem col_end {W s c L : Nat} (h : s = c * W) (h1 : s < L) (h2 : L ≤ s + W) : L - s = if L % W = 0 then W else L % W := by
  by_cases hl : L < s + W
  · obtain ⟨hd, hm⟩ := div_in h (Nat.le_of_lt h1) hl
    rw [if_neg (by rw [hm]; omega)]
    have := Nat.div_add_mod L W
    rw [hd, Nat.mul_comm] at this
    omega
  · have e : L = (c + 1) * W := by rw [Nat.add_mul, Nat.one_mul]; omega
    have e2 : L % W = 0 := by rw [e]; exact Nat.mul_mod_left _ _
    rw [if_pos e2]
    omega

theorem cEnd_chunk {W s c p e : Nat} {ms : List Tri} (h : s = c * W) (hp : s ≤ p) (hp2 : p < e) (he : e = min (tl ms) (s + W)) : cEnd W ms p = min e (mEnd ms p) := by
  have hm := mEnd_gt ms p (by omega)
  obtain ⟨hd, _⟩ := div_in h hp (by omega : p < s + W)
  unfold cEnd
  rw [hd, Nat.add_mul, Nat.one_mul, ← h]
  omega

def owns (ms : List Tri) : List Int := (List.range (tl ms)).map (fun p => (mOf ms p : Int))
theorem owns_len (ms : List Tri) : (owns ms).length = tl ms := by simp [owns]
theorem owns_at (ms : List Tri) (p : Nat) (h : p < (owns ms).length) : (owns ms)[p] = (mOf ms p : Int) := by simp [owns]

/-- The run of one owner. -/
theorem run_step {ms : List Tri} {p q e : Nat} (hp : p < tl ms) (he : e ≤ tl ms) (hq : q ≤ mEnd ms p) (hqe : q < e) (hsame : mOf ms q = mOf ms p) : q + 1 ≤ mEnd ms p := by
  rcases Nat.lt_or_ge q (mEnd ms p) with h | h
  · exact h
  · have e1 : q = mEnd ms p := by omega
    subst e1
    exact absurd hsame (mOf_end ms p hp (by omega))
theorem run_done {ms : List Tri} {p q e : Nat} (hp : p < tl ms) (hpq : p ≤ q) (hq : q ≤ mEnd ms p) (hqe : q ≤ e) (hend : q < e → mOf ms q ≠ mOf ms p) : q = min e (mEnd ms p) := by
  rcases Nat.lt_or_ge q e with h | h
  · rcases Nat.lt_or_ge q (mEnd ms p) with h2 | h2
    · exact absurd (mOf_same ms p q hp hpq h2) (hend h)
    · omega
  · omega

theorem words_drop {l : List Tri} {P : List ((Option Addr × Nat × Nat) × List Tri)} (h : P.map (·.2) = words l) {i : Nat} (hi : i < P.length) : (words l).drop i = P[i].2 :: (words l).drop (i + 1) := by
  rw [← h, List.drop_eq_getElem_cons (by simpa using hi)]
  simp
theorem words_ne {l : List Tri} {P : List ((Option Addr × Nat × Nat) × List Tri)} (h : P.map (·.2) = words l) {i : Nat} (hi : i < P.length) : P[i].2 ≠ [] := by
  refine wd_ne l [] _ ?_
  show P[i].2 ∈ words l
  rw [← h]
  exact List.mem_map.2 ⟨P[i], List.getElem_mem hi, rfl⟩
theorem words_end {l : List Tri} {P : List ((Option Addr × Nat × Nat) × List Tri)} (h : P.map (·.2) = words l) {i : Nat} (hi : P.length ≤ i) : (words l).drop i = [] := by
  rw [← h]; exact List.drop_eq_nil_of_le (by simpa using hi)

theorem wl_count : ∀ (ws : List (List Tri)), (∀ m ∈ ws, m ≠ []) → ws.length ≤ wl ws
  | [], _ => by simp
  | m :: r, h => by
    have := wl_count r (fun q hq => h q (by simp [hq]))
    have h0 : 0 < m.length := List.length_pos_iff.2 (h m (by simp))
    simp [wl]; omega
theorem words_count {l : List Tri} {P : List ((Option Addr × Nat × Nat) × List Tri)} (h : P.map (·.2) = words l) : P.length ≤ l.length + tl l := by
  have h1 := wl_count (words l) (wd_ne l [])
  have h2 := wl_words l
  have h3 := congrArg List.length h
  simp at h3
  omega

end Go.Proofs.Ybuabw
