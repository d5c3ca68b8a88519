/-
  PLAIN FACTS, second part: the normal form. Own work for the seat Ybuabw.
-/
import Derived.Test.YbuabwPlain
namespace Go.Proofs.Ybuabw
set_option linter.unusedVariables false
set_option linter.unusedSimpArgs false

def nrm1 (p : Tri) : Tri := if p.a = 1 then ⟨1, 0, [32]⟩ else if p.a = 2 then ⟨2, 0, p.s⟩ else ⟨0, ust p, p.s⟩
def keepB (p : Tri) : Bool := decide (p.a = 1) || decide (p.s ≠ [])
def stepA (l : List Tri) : List Tri := (l.filter keepB).map nrm1

def mpush (out : List Tri) (q : Tri) : List Tri :=
  if q.a = 0 then
    (match out.getLast? with
     | some p => if p.a = 0 ∧ p.b = q.b then out.dropLast ++ [⟨0, q.b, p.s ++ q.s⟩] else out ++ [⟨0, q.b, q.s⟩]
     | none => out ++ [⟨0, q.b, q.s⟩])
  else if q.a = 1 then
    (match out.getLast? with
     | some p => if p.a = 1 then out else out ++ [⟨1, 0, [32]⟩]
     | none => out ++ [⟨1, 0, [32]⟩])
  else out ++ [⟨q.a, q.b, q.s⟩]

def mergeL (l : List Tri) : List Tri := l.foldl mpush []
def cut1 (b : List Tri) : List Tri := if (b.head?.map (·.a)) = some 1 then b.drop 1 else b
def cut2 (b : List Tri) : List Tri := if (b.getLast?.map (·.a)) = some 1 then b.take (b.length - 1) else b
def normalize (l : List Tri) : List Tri := cut2 (cut1 (mergeL (stepA l)))

theorem mergeL_snoc (l : List Tri) (q : Tri) : mergeL (l ++ [q]) = mpush (mergeL l) q := by simp [mergeL]

theorem mergeL_take (l : List Tri) (k : Nat) (h : k < l.length) : mergeL (l.take (k + 1)) = mpush (mergeL (l.take k)) l[k] := by
  rw [List.take_succ_eq_append_getElem h, mergeL_snoc]

theorem stepA_take (l : List Tri) (k : Nat) (h : k < l.length) : stepA (l.take (k + 1)) = stepA (l.take k) ++ (if keepB l[k] then [nrm1 l[k]] else []) := by
  rw [List.take_succ_eq_append_getElem h]
  simp only [stepA, List.filter_append, List.map_append]
  cases e : keepB l[k] <;> simp [e]

theorem merge_keep (l : List Tri) (k : Nat) (h : k < l.length) (hk : keepB l[k] = true) : mergeL (stepA (l.take (k + 1))) = mpush (mergeL (stepA (l.take k))) (nrm1 l[k]) := by
  rw [stepA_take l k h, hk, if_pos rfl, mergeL_snoc]
theorem merge_skip (l : List Tri) (k : Nat) (h : k < l.length) (hk : keepB l[k] = false) : mergeL (stepA (l.take (k + 1))) = mergeL (stepA (l.take k)) := by
  rw [stepA_take l k h, hk]; simp

theorem mpush_len (out : List Tri) (q : Tri) : (mpush out q).length ≤ out.length + 1 := by
  unfold mpush
  split
  · split
    · split
      · simp
      · simp
    · simp
  · split
    · split
      · split <;> simp
      · simp
    · simp

theorem mergeL_len (l : List Tri) : ∀ k, k ≤ l.length → (mergeL (l.take k)).length ≤ k
  | 0, _ => by simp [mergeL]
  | k + 1, h => by
    have := mergeL_len l k (by omega)
    rw [mergeL_take l k (by omega)]
    have := mpush_len (mergeL (l.take k)) l[k]
    omega

theorem stepA_len (l : List Tri) : (stepA l).length ≤ l.length := by
  unfold stepA; rw [List.length_map]; exact List.length_filter_le _ _

theorem mergeA_len (l : List Tri) (k : Nat) (h : k ≤ l.length) : (mergeL (stepA (l.take k))).length ≤ k := by
  have h1 := mergeL_len (stepA (l.take k)) _ (Nat.le_refl _)
  rw [List.take_length] at h1
  have h2 := stepA_len (l.take k)
  have h3 := List.length_take_le k l
  omega

/-- The last piece. -/
def lastIs (out : List Tri) (P : Tri → Prop) : Prop := ∃ o p, out = o ++ [p] ∧ P p

theorem mp_text_new {out : List Tri} {q : Tri} (h : q.a = 0) (hn : ¬ lastIs out (fun p => p.a = 0 ∧ p.b = q.b)) : mpush out q = out ++ [⟨0, q.b, q.s⟩] := by
  unfold mpush
  rw [if_pos h]
  split
  · rename_i p hp
    split
    · rename_i hc
      exact absurd (by obtain ⟨ys, e⟩ := List.getLast?_eq_some_iff.1 hp; exact ⟨ys, p, e, hc⟩) hn
    · rfl
  · rfl

theorem mp_text_join {o : List Tri} {q : Tri} {b : Int} {s : List UInt8} (h : q.a = 0) (hb : q.b = b) : mpush (o ++ [⟨0, b, s⟩]) q = o ++ [⟨0, b, s ++ q.s⟩] := by
  unfold mpush
  rw [if_pos h]
  simp [hb]

theorem mp_sp_new {out : List Tri} {q : Tri} (h : q.a = 1) (hn : ¬ lastIs out (fun p => p.a = 1)) : mpush out q = out ++ [⟨1, 0, [32]⟩] := by
  unfold mpush
  rw [if_neg (by omega), if_pos h]
  split
  · rename_i p hp
    split
    · rename_i hc
      exact absurd (by obtain ⟨ys, e⟩ := List.getLast?_eq_some_iff.1 hp; exact ⟨ys, p, e, hc⟩) hn
    · rfl
  · rfl

theorem mp_sp_same {out : List Tri} {q : Tri} (h : q.a = 1) (hn : lastIs out (fun p => p.a = 1)) : mpush out q = out := by
  obtain ⟨o, p, rfl, hp⟩ := hn
  unfold mpush
  rw [if_neg (by omega), if_pos h]
  simp [hp]

theorem mp_else {out : List Tri} {q : Tri} (h0 : q.a ≠ 0) (h1 : q.a ≠ 1) : mpush out q = out ++ [⟨q.a, q.b, q.s⟩] := by
  unfold mpush
  rw [if_neg h0, if_neg h1]

theorem not_lastIs_nil (P : Tri → Prop) : ¬ lastIs [] P := by
  rintro ⟨o, p, h, _⟩
  simp at h

theorem lastIs_snoc {o : List Tri} {p : Tri} {P : Tri → Prop} : lastIs (o ++ [p]) P ↔ P p := by
  constructor
  · rintro ⟨o', p', h, hp⟩
    have := List.append_inj_right' h rfl
    simp only [List.cons.injEq, and_true] at this
    rw [this]; exact hp
  · exact fun h => ⟨o, p, rfl, h⟩

theorem lastIs_get {out : List Tri} {P : Tri → Prop} (h : 0 < out.length) : lastIs out P ↔ P (out[out.length - 1]'(by omega)) := by
  obtain ⟨o, p, rfl⟩ : ∃ o p, out = o ++ [p] := ⟨out.dropLast, out.getLast (by intro e; simp [e] at h), (List.dropLast_concat_getLast _).symm⟩
  rw [lastIs_snoc]
  simp

/-- Where the impl stands after k pieces. -/
structure NInv (l : List Tri) (k : Nat) (res : List Tri) (it : Bool) (bs : Int) (buf : List UInt8) : Prop where
  eq : (if it then res ++ [⟨0, bs, buf⟩] else res) = mergeL (stepA (l.take k))
  last : it = false → ¬ lastIs res (fun p => p.a = 0)
  blen : buf.length ≤ tl (l.take k)

theorem NInv.rlen {l : List Tri} {k : Nat} {res : List Tri} {it : Bool} {bs : Int} {buf : List UInt8} (h : NInv l k res it bs buf) (hk : k ≤ l.length) : res.length ≤ k := by
  have h1 := congrArg List.length h.eq
  have h2 := mergeA_len l k hk
  cases it <;> simp at h1 <;> omega

/-- What stands once the text in hand has been laid down. -/
theorem NInv.flush {l : List Tri} {k : Nat} {res : List Tri} {it : Bool} {bs : Int} {buf : List UInt8} (h : NInv l k res it bs buf) : ∀ r, r = (if it then res ++ [⟨0, bs, buf⟩] else res) → r = mergeL (stepA (l.take k)) := fun r e => e.trans h.eq

theorem tl_step_le (l : List Tri) (k : Nat) (h : k < l.length) : tl (l.take k) ≤ tl (l.take (k + 1)) := by rw [tl_take l k h]; omega

section
variable {l : List Tri} {k : Nat} {res : List Tri} {it : Bool} {bs : Int} {buf : List UInt8}

theorem NInv.skip (h : NInv l k res it bs buf) (hk : k < l.length) (h1 : l[k].a ≠ 1) (h2 : l[k].s = []) : NInv l (k + 1) res it bs buf := by
  have hk2 : keepB l[k] = false := by simp [keepB, h1, h2]
  exact ⟨by rw [merge_skip l k hk hk2]; exact h.eq, h.last, Nat.le_trans h.blen (tl_step_le l k hk)⟩

theorem nrm_sp {p : Tri} (h : p.a = 1) : nrm1 p = ⟨1, 0, [32]⟩ := by simp [nrm1, h]
theorem nrm_code {p : Tri} (h : p.a = 2) : nrm1 p = ⟨2, 0, p.s⟩ := by simp [nrm1, h]
theorem nrm_text {p : Tri} (h1 : p.a ≠ 1) (h2 : p.a ≠ 2) : nrm1 p = ⟨0, ust p, p.s⟩ := by simp [nrm1, h1, h2]

theorem NInv.spSame {r : List Tri} (h : NInv l k res it bs buf) (hr : r = (if it then res ++ [⟨0, bs, buf⟩] else res)) (hk : k < l.length) (h1 : l[k].a = 1) (hl : lastIs r (fun p => p.a = 1)) : NInv l (k + 1) r false bs buf := by
  have hk2 : keepB l[k] = true := by simp [keepB, h1]
  refine ⟨?_, fun _ => ?_, Nat.le_trans h.blen (tl_step_le l k hk)⟩
  · rw [merge_keep l k hk hk2, ← h.flush r hr, nrm_sp h1, mp_sp_same rfl hl]; rfl
  · obtain ⟨o, p, rfl, hp⟩ := hl
    rw [lastIs_snoc]; omega

theorem NInv.spNew {r : List Tri} (h : NInv l k res it bs buf) (hr : r = (if it then res ++ [⟨0, bs, buf⟩] else res)) (hk : k < l.length) (h1 : l[k].a = 1) (hl : ¬ lastIs r (fun p => p.a = 1)) : NInv l (k + 1) (r ++ [⟨1, 0, [32]⟩]) false bs buf := by
  have hk2 : keepB l[k] = true := by simp [keepB, h1]
  refine ⟨?_, fun _ => ?_, Nat.le_trans h.blen (tl_step_le l k hk)⟩
  · rw [merge_keep l k hk hk2, ← h.flush r hr, nrm_sp h1, mp_sp_new rfl hl]; rfl
  · rw [lastIs_snoc]; decide

theorem NInv.code {r : List Tri} (h : NInv l k res it bs buf) (hr : r = (if it then res ++ [⟨0, bs, buf⟩] else res)) (hk : k < l.length) (h2 : l[k].a = 2) (hs : l[k].s ≠ []) : NInv l (k + 1) (r ++ [⟨2, 0, l[k].s⟩]) false bs buf := by
  have hk2 : keepB l[k] = true := by simp [keepB, hs]
  refine ⟨?_, fun _ => ?_, Nat.le_trans h.blen (tl_step_le l k hk)⟩
  · rw [merge_keep l k hk hk2, ← h.flush r hr, nrm_code h2, mp_else (by simp) (by simp)]; rfl
  · rw [lastIs_snoc]; simp

theorem NInv.more (h : NInv l k res true bs buf) (hk : k < l.length) (h1 : l[k].a ≠ 1) (h2 : l[k].a ≠ 2) (hs : l[k].s ≠ []) (hb : ust l[k] = bs) : NInv l (k + 1) res true bs (buf ++ l[k].s) := by
  have hk2 : keepB l[k] = true := by simp [keepB, hs]
  have he := h.eq
  simp only [if_true] at he
  refine ⟨?_, (fun e => by cases e), by rw [tl_take l k hk, List.length_append]; have := h.blen; omega⟩
  rw [merge_keep l k hk hk2, ← he, nrm_text h1 h2, mp_text_join rfl hb]; rfl

theorem NInv.fresh {r : List Tri} (h : NInv l k res it bs buf) (hr : r = (if it then res ++ [⟨0, bs, buf⟩] else res)) (hk : k < l.length) (h1 : l[k].a ≠ 1) (h2 : l[k].a ≠ 2) (hs : l[k].s ≠ []) (hb : ¬ (it = true ∧ ust l[k] = bs)) : NInv l (k + 1) r true (ust l[k]) l[k].s := by
  have hk2 : keepB l[k] = true := by simp [keepB, hs]
  refine ⟨?_, (fun e => by cases e), by rw [tl_take l k hk]; omega⟩
  rw [merge_keep l k hk hk2, ← h.flush r hr, nrm_text h1 h2, mp_text_new rfl]; · rfl
  rw [hr]
  cases it with
  | true =>
    simp only [if_true, lastIs_snoc]
    rintro ⟨_, e⟩
    exact hb ⟨rfl, e.symm⟩
  | false =>
    intro ⟨o, p, e, h3, _⟩
    exact h.last rfl ⟨o, p, e, h3⟩
end

theorem NInv.start (l : List Tri) : NInv l 0 [] false 0 [] := ⟨by simp [mergeL, stepA], fun _ => not_lastIs_nil _, by simp⟩

theorem normalize_len (l : List Tri) : (normalize l).length ≤ l.length := by
  have h := mergeA_len l l.length (Nat.le_refl _)
  rw [List.take_length] at h
  unfold normalize cut2 cut1
  split <;> split <;> simp <;> omega

/-! ### The model's runs -/

def cat (l : List Tri) : List UInt8 := l.flatMap (·.s)
theorem cat_append (a b : List Tri) : cat (a ++ b) = cat a ++ cat b := by simp [cat]
theorem cat_len (l : List Tri) : (cat l).length = tl l := by
  induction l with
  | nil => rfl
  | cons p l ih => simp [cat, tl] at ih ⊢; omega

/-- Where the model stands at piece i: nothing to come joins what is laid down. -/
structure SInv (a : List Tri) (i : Nat) (b : List Tri) : Prop where
  eq : b = mergeL (a.take i)
  apart : ∀ h : i < a.length, (a[i].a = 0 → ¬ lastIs b (fun p => p.a = 0 ∧ p.b = a[i].b)) ∧ (a[i].a = 1 → ¬ lastIs b (fun p => p.a = 1))

theorem SInv.start (a : List Tri) : SInv a 0 [] := ⟨by simp [mergeL], fun h => ⟨fun _ => not_lastIs_nil _, fun _ => not_lastIs_nil _⟩⟩

theorem cat_step (a : List Tri) (i m : Nat) (h : i + m < a.length) : cat ((a.drop i).take (m + 1)) = cat ((a.drop i).take m) ++ (a[i + m]).s := by
  have h2 : m < (a.drop i).length := by simp; omega
  rw [List.take_succ_eq_append_getElem h2, cat_append, List.getElem_drop]
  simp [cat]

theorem SInv.text1 {a b : List Tri} {i : Nat} (h : SInv a i b) (hi : i < a.length) (h0 : a[i].a = 0) : mergeL (a.take (i + 1 + 0)) = b ++ [⟨0, a[i].b, cat ((a.drop i).take (0 + 1))⟩] := by
  rw [Nat.add_zero, mergeL_take a i hi, ← h.eq, mp_text_new h0 ((h.apart hi).1 h0), cat_step a i 0 (by omega)]
  simp [cat]

theorem text_step {a b : List Tri} {i m : Nat} {st : Int} (hj : i + 1 + m < a.length) (h : mergeL (a.take (i + 1 + m)) = b ++ [⟨0, st, cat ((a.drop i).take (m + 1))⟩]) (h0 : a[i + 1 + m].a = 0) (hb : a[i + 1 + m].b = st) :
    mergeL (a.take (i + 1 + (m + 1))) = b ++ [⟨0, st, cat ((a.drop i).take (m + 1 + 1))⟩] := by
  rw [← Nat.add_assoc, mergeL_take a _ hj, h, mp_text_join h0 hb, cat_step a i (m + 1) (by omega)]
  simp only [show i + (m + 1) = i + 1 + m by omega]

theorem SInv.sp1 {a b : List Tri} {i : Nat} (h : SInv a i b) (hi : i < a.length) (h0 : a[i].a = 1) : mergeL (a.take (i + 1 + 0)) = b ++ [⟨1, 0, [32]⟩] := by
  rw [Nat.add_zero, mergeL_take a i hi, ← h.eq, mp_sp_new h0 ((h.apart hi).2 h0)]

theorem sp_step {a b : List Tri} {i m : Nat} (hj : i + 1 + m < a.length) (h : mergeL (a.take (i + 1 + m)) = b ++ [⟨1, 0, [32]⟩]) (h0 : a[i + 1 + m].a = 1) : mergeL (a.take (i + 1 + (m + 1))) = b ++ [⟨1, 0, [32]⟩] := by
  rw [← Nat.add_assoc, mergeL_take a _ hj, h, mp_sp_same h0 (lastIs_snoc.2 rfl)]

theorem SInv.textEnd {a b : List Tri} {j : Nat} {st : Int} {s : List UInt8} (h : mergeL (a.take j) = b ++ [⟨0, st, s⟩]) (hn : ∀ h : j < a.length, ¬ (a[j].a = 0 ∧ a[j].b = st)) : SInv a j (b ++ [⟨0, st, s⟩]) :=
  ⟨h.symm, fun hj => ⟨fun h0 => by rw [lastIs_snoc]; rintro ⟨_, e⟩; exact hn hj ⟨h0, e.symm⟩, fun _ => by rw [lastIs_snoc]; simp⟩⟩

theorem SInv.spEnd {a b : List Tri} {j : Nat} (h : mergeL (a.take j) = b ++ [⟨1, 0, [32]⟩]) (hn : ∀ h : j < a.length, ¬ a[j].a = 1) : SInv a j (b ++ [⟨1, 0, [32]⟩]) :=
  ⟨h.symm, fun hj => ⟨fun _ => by rw [lastIs_snoc]; rintro ⟨e, _⟩; simp at e, fun h1 => absurd h1 (hn hj)⟩⟩

theorem SInv.else {a b : List Tri} {i : Nat} (h : SInv a i b) (hi : i < a.length) (h0 : a[i].a ≠ 0) (h1 : a[i].a ≠ 1) : SInv a (i + 1) (b ++ [⟨a[i].a, a[i].b, a[i].s⟩]) :=
  ⟨by rw [mergeL_take a i hi, ← h.eq, mp_else h0 h1], fun hj => ⟨fun _ => by rw [lastIs_snoc]; rintro ⟨e, _⟩; exact h0 e, fun _ => by rw [lastIs_snoc]; exact h1⟩⟩

theorem SInv.len {a b : List Tri} {i : Nat} (h : SInv a i b) (hi : i ≤ a.length) : b.length ≤ i := by rw [h.eq]; exact mergeL_len a i hi

theorem tl_sub (a : List Tri) (i m : Nat) : tl ((a.drop i).take m) ≤ tl a := by
  have h1 := tl_le (a.drop i) m
  have h2 : tl a = tl (a.take i) + tl (a.drop i) := by rw [← tl_append, List.take_append_drop]
  omega

theorem tl_stepA : ∀ (l : List Tri), tl (stepA l) ≤ tl l + l.length
  | [] => by simp [stepA, tl]
  | p :: l => by
    have ih := tl_stepA l
    unfold stepA at ih ⊢
    rw [List.filter_cons]
    split
    · simp only [List.map_cons, tl, List.length_cons]
      have : (nrm1 p).s.length ≤ p.s.length + 1 := by
        unfold nrm1; split
        · simp
        · split <;> simp
      omega
    · simp only [tl, List.length_cons]; omega

theorem tl_mpush (out : List Tri) (q : Tri) : tl (mpush out q) ≤ tl out + q.s.length + 1 := by
  by_cases h0 : q.a = 0
  · by_cases hl : lastIs out (fun p => p.a = 0 ∧ p.b = q.b)
    · obtain ⟨o, p, rfl, h1, h2⟩ := hl
      obtain ⟨pa, pb, ps⟩ := p
      simp only at h1 h2
      subst h1
      rw [mp_text_join h0 h2.symm]
      simp [tl_append, tl]; omega
    · rw [mp_text_new h0 hl]; (simp [tl_append, tl] <;> omega)
  · by_cases h1 : q.a = 1
    · by_cases hl : lastIs out (fun p => p.a = 1)
      · rw [mp_sp_same h1 hl]; omega
      · rw [mp_sp_new h1 hl]; (simp [tl_append, tl] <;> omega)
    · rw [mp_else h0 h1]; (simp [tl_append, tl] <;> omega)

theorem tl_mergeL (l : List Tri) : ∀ k, k ≤ l.length → tl (mergeL (l.take k)) ≤ tl (l.take k) + k
  | 0, _ => by simp [mergeL, tl]
  | k + 1, h => by
    have ih := tl_mergeL l k (by omega)
    rw [mergeL_take l k (by omega), tl_take l k (by omega)]
    have := tl_mpush (mergeL (l.take k)) l[k]
    omega

theorem tl_drop1 (b : List Tri) (n : Nat) : tl (b.drop n) ≤ tl b := by
  have h2 : tl b = tl (b.take n) + tl (b.drop n) := by rw [← tl_append, List.take_append_drop]
  omega

theorem normalize_tl (l : List Tri) : tl (normalize l) ≤ tl l + 2 * l.length := by
  have h1 := tl_stepA l
  have h2 := tl_mergeL (stepA l) _ (Nat.le_refl _)
  rw [List.take_length] at h2
  have h3 := stepA_len l
  have h4 : tl (cut1 (mergeL (stepA l))) ≤ tl (mergeL (stepA l)) := by unfold cut1; split; exact tl_drop1 _ _; omega
  have h5 : tl (normalize l) ≤ tl (cut1 (mergeL (stepA l))) := by unfold normalize cut2; split; exact tl_le _ _; omega
  omega

theorem cut1_yes {b : List Tri} (h : 0 < b.length) (h1 : (b[0]'h).a = 1) : cut1 b = b.drop 1 := by
  unfold cut1; rw [if_pos]; cases b with
  | nil => simp at h
  | cons p b => simpa using h1
theorem cut1_no {b : List Tri} (h1 : ∀ h : 0 < b.length, (b[0]'h).a ≠ 1) : cut1 b = b := by
  unfold cut1; rw [if_neg]; cases b with
  | nil => simp
  | cons p b => have h2 := h1 (by simp); simp only [List.getElem_cons_zero] at h2; simpa using h2
theorem cut2_yes {b : List Tri} (h : 0 < b.length) (h1 : (b[b.length - 1]'(by omega)).a = 1) : cut2 b = b.take (b.length - 1) := by
  unfold cut2
  rw [if_pos]
  rw [List.getLast?_eq_getElem?, List.getElem?_eq_getElem (by omega)]
  simpa using h1
theorem cut2_no {b : List Tri} (h1 : ∀ h : 0 < b.length, (b[b.length - 1]'(by omega)).a ≠ 1) : cut2 b = b := by
  unfold cut2
  rw [if_neg]
  by_cases h : 0 < b.length
  · rw [List.getLast?_eq_getElem?, List.getElem?_eq_getElem (by omega)]
    simpa using h1 h
  · have : b = [] := List.eq_nil_of_length_eq_zero (by omega)
    subst this; simp
theorem cut1_len (b : List Tri) : (cut1 b).length ≤ b.length := by unfold cut1; split <;> simp

theorem keep_nrm (p : Tri) : keepB p = (decide ((nrm1 p).a = 1) || decide ((nrm1 p).s ≠ [])) := by
  unfold nrm1
  by_cases h1 : p.a = 1
  · simp [keepB, h1]
  · by_cases h2 : p.a = 2
    · simp [keepB, h2]
    · simp [keepB, h1, h2]

theorem stepA_keep (l : List Tri) (k : Nat) (h : k < l.length) (hk : keepB l[k] = true) : stepA (l.take (k + 1)) = stepA (l.take k) ++ [nrm1 l[k]] := by rw [stepA_take l k h, hk]; rfl
theorem stepA_skip (l : List Tri) (k : Nat) (h : k < l.length) (hk : keepB l[k] = false) : stepA (l.take (k + 1)) = stepA (l.take k) := by rw [stepA_take l k h, hk]; simp

end Go.Proofs.Ybuabw
