/-
  PLAIN FACTS, fourth part: the layout. Own work for the seat Ybuabw.
-/
import Derived.Test.YbuabwPlain3
namespace Go.Proofs.Ybuabw
set_option linter.unusedVariables false
set_option linter.unusedSimpArgs false

def zT : Tri := ⟨0, 0, []⟩
def wid (z : Int) : Nat := if 1 ≤ z then z.toNat else 1
theorem wid_pos (z : Int) : 1 ≤ wid z := by unfold wid; split <;> omega

/-! ### Words -/

def wd (cur : List Tri) : List Tri → List (List Tri)
  | [] => if cur = [] then [] else [cur]
  | p :: r => if p.a = 1 then (if cur = [] then wd [] r else cur :: wd [] r) else if p.s = [] then wd cur r else wd (cur ++ [p]) r
def words (l : List Tri) : List (List Tri) := wd [] l

theorem wd_space {cur l : List Tri} {i : Nat} (h : i < l.length) (h1 : l[i].a = 1) : wd cur (l.drop i) = if cur = [] then wd [] (l.drop (i + 1)) else cur :: wd [] (l.drop (i + 1)) := by
  rw [List.drop_eq_getElem_cons h, wd, if_pos h1]
theorem wd_skip {cur l : List Tri} {i : Nat} (h : i < l.length) (h1 : l[i].a ≠ 1) (h2 : l[i].s = []) : wd cur (l.drop i) = wd cur (l.drop (i + 1)) := by
  rw [List.drop_eq_getElem_cons h, wd, if_neg h1, if_pos h2]
theorem wd_more {cur l : List Tri} {i : Nat} (h : i < l.length) (h1 : l[i].a ≠ 1) (h2 : l[i].s ≠ []) : wd cur (l.drop i) = wd (cur ++ [l[i]]) (l.drop (i + 1)) := by
  rw [List.drop_eq_getElem_cons h, wd, if_neg h1, if_neg h2]
theorem wd_end {cur l : List Tri} {i : Nat} (h : l.length ≤ i) : wd cur (l.drop i) = if cur = [] then [] else [cur] := by
  rw [List.drop_eq_nil_of_le h, wd]

/-- Where the gathering stops: at the end or at a space. -/
theorem wd_stop {cur l : List Tri} {i : Nat} (h : ∀ hi : i < l.length, l[i].a = 1) : wd cur (l.drop i) = if cur = [] then wd [] (l.drop i) else cur :: wd [] (l.drop i) := by
  by_cases hi : i < l.length
  · rw [wd_space hi (h hi), wd_space (cur := []) hi (h hi)]
    split <;> simp_all
  · rw [wd_end (by omega), wd_end (cur := []) (by omega)]
    split <;> simp_all

def wl : List (List Tri) → Nat
  | [] => 0
  | m :: r => m.length + tl m + wl r

theorem wl_wd : ∀ (r cur : List Tri), wl (wd cur r) ≤ cur.length + tl cur + r.length + tl r
  | [], cur => by
    unfold wd
    split
    · simp [wl]
    · simp [wl]
  | p :: r, cur => by
    unfold wd
    split
    · split
      · have := wl_wd r []; simp [tl] at this ⊢; omega
      · have := wl_wd r []; simp [wl, tl] at this ⊢; omega
    · split
      · have := wl_wd r cur; simp [tl]; omega
      · have := wl_wd r (cur ++ [p]); simp [tl_append, tl] at this ⊢; omega

theorem wl_words (l : List Tri) : wl (words l) ≤ l.length + tl l := by
  have := wl_wd l []
  simp [tl] at this
  exact this

theorem wl_append (a b : List (List Tri)) : wl (a ++ b) = wl a + wl b := by
  induction a with
  | nil => simp [wl]
  | cons p a ih => simp [wl, ih]; omega

theorem wd_ne : ∀ (r cur : List Tri), ∀ m ∈ wd cur r, m ≠ []
  | [], cur, m, h => by
    unfold wd at h
    split at h
    · cases h
    · simp at h; subst h; assumption
  | p :: r, cur, m, h => by
    unfold wd at h
    split at h
    · split at h
      · exact wd_ne r [] m h
      · rcases List.mem_cons.1 h with rfl | h
        · assumption
        · exact wd_ne r [] m h
    · split at h
      · exact wd_ne r cur m h
      · exact wd_ne r (cur ++ [p]) m h

/-! ### One word -/

def mOf : List Tri → Nat → Nat
  | [], _ => 0
  | m :: r, p => if p < m.s.length then 0 else mOf r (p - m.s.length) + 1
def mEnd : List Tri → Nat → Nat
  | [], _ => 0
  | m :: r, p => if p < m.s.length then m.s.length else m.s.length + mEnd r (p - m.s.length)

theorem mOf_lt : ∀ (ms : List Tri) (p : Nat), p < tl ms → mOf ms p < ms.length
  | [], _, h => by simp [tl] at h
  | m :: r, p, h => by
    simp only [mOf, tl] at h ⊢
    split
    · simp
    · have := mOf_lt r (p - m.s.length) (by omega); simp; omega

theorem mEnd_gt : ∀ (ms : List Tri) (p : Nat), p < tl ms → p < mEnd ms p ∧ mEnd ms p ≤ tl ms
  | [], _, h => by simp [tl] at h
  | m :: r, p, h => by
    simp only [mEnd, tl] at h ⊢
    split
    · omega
    · have := mEnd_gt r (p - m.s.length) (by omega); omega

theorem mOf_same : ∀ (ms : List Tri) (p x : Nat), p < tl ms → p ≤ x → x < mEnd ms p → mOf ms x = mOf ms p
  | [], _, _, h, _, _ => by simp [tl] at h
  | m :: r, p, x, h, h1, h2 => by
    simp only [mEnd, mOf, tl] at h h2 ⊢
    split at h2
    · rename_i hp
      rw [if_pos hp, if_pos h2]
    · rename_i hp
      rw [if_neg hp, if_neg (by omega), mOf_same r (p - m.s.length) (x - m.s.length) (by omega) (by omega) (by omega)]

theorem mOf_end : ∀ (ms : List Tri) (p : Nat), p < tl ms → mEnd ms p < tl ms → mOf ms (mEnd ms p) ≠ mOf ms p
  | [], _, h, _ => by simp [tl] at h
  | m :: r, p, h, h2 => by
    simp only [mEnd, mOf, tl] at h h2 ⊢
    split
    · rename_i hp
      rw [if_neg (by omega)]; omega
    · rename_i hp
      rw [if_neg hp] at h2
      have := mOf_end r (p - m.s.length) (by omega) (by omega)
      rw [if_neg (by omega), show m.s.length + mEnd r (p - m.s.length) - m.s.length = mEnd r (p - m.s.length) by omega]
      omega

/-- Member k, byte off. -/
theorem mOf_at : ∀ (ms : List Tri) (k off : Nat) (hk : k < ms.length), off < ms[k].s.length → mOf ms (tl (ms.take k) + off) = k ∧ mEnd ms (tl (ms.take k) + off) = tl (ms.take (k + 1))
  | [], _, _, hk, _ => by simp at hk
  | m :: r, 0, off, _, ho => by
    simp only [List.getElem_cons_zero] at ho
    simp [mOf, mEnd, tl, ho]
  | m :: r, k + 1, off, hk, ho => by
    simp only [List.getElem_cons_succ] at ho
    have := mOf_at r k off (by simpa using hk) ho
    simp only [List.take_succ_cons, tl, mOf, mEnd]
    rw [if_neg (by omega), if_neg (by omega), show m.s.length + tl (r.take k) + off - m.s.length = tl (r.take k) + off by omega]
    rw [this.1, this.2]
    exact ⟨rfl, by simp [List.take_succ_cons, tl]⟩

theorem cat_at : ∀ (ms : List Tri) (k off n : Nat) (hk : k < ms.length), off + n ≤ ms[k].s.length → ((cat ms).drop (tl (ms.take k) + off)).take n = (ms[k].s.drop off).take n
  | [], _, _, _, hk, _ => by simp at hk
  | m :: r, 0, off, n, _, ho => by
    simp only [List.getElem_cons_zero] at ho
    simp only [List.take_zero, tl, Nat.zero_add, List.getElem_cons_zero, cat, List.flatMap_cons]
    rw [List.drop_append_of_le_length (by omega), List.take_append_of_le_length (by simp; omega)]
  | m :: r, k + 1, off, n, hk, ho => by
    simp only [List.getElem_cons_succ] at ho
    have := cat_at r k off n (by simpa using hk) ho
    simp only [List.take_succ_cons, tl, List.getElem_cons_succ]
    rw [← this]
    simp only [cat, List.flatMap_cons]
    rw [Nat.add_assoc, ← List.drop_drop, List.drop_left]

theorem cat_get (ms : List Tri) (k off : Nat) (hk : k < ms.length) (ho : off < ms[k].s.length) : (cat ms).getD (tl (ms.take k) + off) 0 = ms[k].s.getD off 0 := by
  have h := congrArg (fun l => l.getD 0 0) (cat_at ms k off 1 hk (by omega))
  simpa [List.getD_eq_getElem?_getD, List.getElem?_take, List.getElem?_drop] using h

def cEnd (W : Nat) (ms : List Tri) (p : Nat) : Nat := min (mEnd ms p) ((p / W + 1) * W)
def brOf (W p : Nat) (st : Bool) : Int := if p % W = 0 ∧ (0 < p ∨ st = true) then 2 else 0

def segs (W : Nat) (ms : List Tri) (st : Bool) : Nat → Nat → List Frg
  | 0, _ => []
  | f + 1, p => if p < tl ms then ⟨brOf W p st, (ms.getD (mOf ms p) zT).a, (ms.getD (mOf ms p) zT).b, ((cat ms).drop p).take (cEnd W ms p - p)⟩ :: segs W ms st f (cEnd W ms p) else []

theorem segs_end (W : Nat) (ms : List Tri) (st : Bool) (f p : Nat) (h : tl ms ≤ p) : segs W ms st f p = [] := by
  cases f with
  | zero => rfl
  | succ f => rw [segs, if_neg (by omega)]

theorem next_mul (W p : Nat) (h : 1 ≤ W) : p < (p / W + 1) * W ∧ (p / W + 1) * W ≤ p + W := by
  have h1 := Nat.div_add_mod p W
  have h2 := Nat.mod_lt p h
  have h3 : (p / W + 1) * W = W * (p / W) + W := by rw [Nat.add_mul, Nat.one_mul, Nat.mul_comm]
  omega

theorem cEnd_gt (W : Nat) (ms : List Tri) (p : Nat) (h : 1 ≤ W) (hp : p < tl ms) : p < cEnd W ms p ∧ cEnd W ms p ≤ tl ms := by
  have h1 := mEnd_gt ms p hp
  have h2 := next_mul W p h
  unfold cEnd
  omega

theorem segs_len (W : Nat) (ms : List Tri) (st : Bool) (h : 1 ≤ W) : ∀ (f p : Nat), (segs W ms st f p).length ≤ tl ms - p
  | 0, p => by simp [segs]
  | f + 1, p => by
    rw [segs]
    split
    · rename_i hp
      have h1 := cEnd_gt W ms p h hp
      have := segs_len W ms st h f (cEnd W ms p)
      simp; omega
    · simp

def fitsN (f : Int) (ms : List Tri) : Nat → List Frg
  | 0 => []
  | k + 1 => fitsN f ms k ++ [⟨if k = 0 then f else 0, (ms.getD k zT).a, (ms.getD k zT).b, (ms.getD k zT).s⟩]
theorem fitsN_len (f : Int) (ms : List Tri) : ∀ k, (fitsN f ms k).length = k
  | 0 => rfl
  | k + 1 => by simp [fitsN, fitsN_len f ms k]

def fBr (W : Nat) (st : Bool) (col L : Nat) : Int := if st = true then (if col + 1 + L ≤ W then 1 else 2) else 0

def place (W : Nat) (x : List Frg × Bool × Nat) (ms : List Tri) : List Frg × Bool × Nat :=
  if tl ms ≤ W then
    (x.1 ++ fitsN (fBr W x.2.1 x.2.2 (tl ms)) ms ms.length, true, if fBr W x.2.1 x.2.2 (tl ms) = 1 then x.2.2 + 1 + tl ms else tl ms)
  else (x.1 ++ segs W ms x.2.1 (tl ms) 0, true, if tl ms % W = 0 then W else tl ms % W)

def layWs (W : Nat) (x : List Frg × Bool × Nat) (ws : List (List Tri)) : List Frg × Bool × Nat := ws.foldl (place W) x
def layout (l : List Tri) (z : Int) : List Frg := (layWs (wid z) ([], false, 0) (words l)).1

theorem layWs_cons (W : Nat) (x : List Frg × Bool × Nat) (m : List Tri) (r : List (List Tri)) : layWs W x (m :: r) = layWs W (place W x m) r := rfl

theorem place_len (W : Nat) (x : List Frg × Bool × Nat) (ms : List Tri) (h : 1 ≤ W) (hm : ms ≠ []) : (place W x ms).1.length ≤ x.1.length + (ms.length + tl ms) ∧ (place W x ms).2.2 ≤ x.2.2 + (ms.length + tl ms) := by
  have h0 : 0 < ms.length := List.length_pos_iff.2 hm
  unfold place
  split
  · refine ⟨by simp [fitsN_len], ?_⟩
    simp only
    split <;> omega
  · refine ⟨by have := segs_len W ms x.2.1 h (tl ms) 0; simp; omega, ?_⟩
    simp only
    have := Nat.mod_le (tl ms) W
    split <;> omega

theorem layWs_len (W : Nat) (h : 1 ≤ W) : ∀ (ws : List (List Tri)) (x : List Frg × Bool × Nat), (∀ m ∈ ws, m ≠ []) → (layWs W x ws).1.length ≤ x.1.length + wl ws
  | [], x, _ => by simp [layWs, wl]
  | m :: r, x, hm => by
    have ih := layWs_len W h r (place W x m) (fun q hq => hm q (by simp [hq]))
    have h1 := place_len W x m h (hm m (by simp))
    rw [layWs_cons]
    simp only [wl]
    omega

theorem layout_len (l : List Tri) (z : Int) : (layout l z).length ≤ l.length + tl l := by
  have := layWs_len (wid z) (wid_pos z) (words l) ([], false, 0) (wd_ne l [])
  have := wl_words l
  unfold layout
  simp at *
  omega

/-! ### How much text a layout holds -/

theorem segs_tl (W : Nat) (ms : List Tri) (st : Bool) (h : 1 ≤ W) : ∀ (f p : Nat), tlF (segs W ms st f p) ≤ tl ms - p
  | 0, p => by simp [segs, tlF]
  | f + 1, p => by
    rw [segs]
    split
    · rename_i hp
      have h1 := cEnd_gt W ms p h hp
      have := segs_tl W ms st h f (cEnd W ms p)
      simp only [tlF, List.length_take, List.length_drop]
      omega
    · simp [tlF]

theorem fits_tl (f : Int) (ms : List Tri) : ∀ k, k ≤ ms.length → tlF (fitsN f ms k) = tl (ms.take k)
  | 0, _ => by simp [fitsN, tlF, tl]
  | k + 1, h => by
    rw [fitsN, tlF_append, fits_tl f ms k (by omega), tl_take ms k (by omega), getD_lt _ _ _ (by omega)]
    simp [tlF]

theorem place_tl (W : Nat) (x : List Frg × Bool × Nat) (ms : List Tri) (h : 1 ≤ W) : tlF (place W x ms).1 ≤ tlF x.1 + tl ms := by
  unfold place
  split
  · simp only [tlF_append, fits_tl _ ms ms.length (Nat.le_refl _), List.take_length]; omega
  · have := segs_tl W ms x.2.1 h (tl ms) 0
    simp only [tlF_append]; omega

theorem layWs_tl (W : Nat) (h : 1 ≤ W) : ∀ (ws : List (List Tri)) (x : List Frg × Bool × Nat), tlF (layWs W x ws).1 ≤ tlF x.1 + wl ws
  | [], x => by simp [layWs, wl]
  | m :: r, x => by
    have ih := layWs_tl W h r (place W x m)
    have h1 := place_tl W x m h
    rw [layWs_cons]
    simp only [wl]
    omega

theorem layout_tl (l : List Tri) (z : Int) : tlF (layout l z) ≤ l.length + tl l := by
  have := layWs_tl (wid z) (wid_pos z) (words l) ([], false, 0)
  have := wl_words l
  unfold layout
  simp [tlF] at *
  omega

end Go.Proofs.Ybuabw
