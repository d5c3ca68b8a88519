/-
  MEMORY: what this program's slices and struct variables hold, and the operations on them. Own work for the seat Ybuabw.
-/
import Derived.Test.YbuabwOps
namespace Go.Proofs.Ybuabw
open Go.RowKit
set_option linter.unusedVariables false

/-! ### Worlds -/

/-- Nothing that was there has turned. -/
def Ext (w w' : World) : Prop := w.grownBy w' none

theorem grow_refl (w : World) (row : Option Nat) : w.grownBy w row := ⟨rfl, rfl, rfl, Nat.le_refl _, fun _ _ _ => rfl⟩
theorem Ext.refl (w : World) : Ext w w := grow_refl w none
theorem Ext.drew (w : World) : Ext w w.drew := ⟨rfl, rfl, rfl, Nat.le_refl _, fun _ _ _ => rfl⟩
theorem grow_any {w w' : World} {row : Option Nat} (h : Ext w w') : w.grownBy w' row := ⟨h.os, h.tape, h.output, h.size, fun k hk _ => h.block k hk (by simp)⟩
theorem grow_trans {a b c : World} {row : Option Nat} (h : a.grownBy b row) (k : b.grownBy c row) : a.grownBy c row :=
  ⟨k.os.trans h.os, k.tape.trans h.tape, k.output.trans h.output, Nat.le_trans h.size k.size, fun i hi hn => (k.block i (Nat.lt_of_lt_of_le hi h.size) hn).trans (h.block i hi hn)⟩
theorem Ext.trans {a b c : World} (h : Ext a b) (k : Ext b c) : Ext a c := grow_trans h k
/-- A step that writes one row of the call's own. -/
theorem Ext.step {a b c : World} {row : Option Nat} (h : Ext a b) (k : b.grownBy c row) (hr : ∀ g, row = some g → a.heap.size ≤ g) : Ext a c :=
  ⟨k.os.trans h.os, k.tape.trans h.tape, k.output.trans h.output, Nat.le_trans h.size k.size, fun i hi hn =>
    (k.block i (Nat.lt_of_lt_of_le hi h.size) (fun e => by have := hr i e.symm; omega)).trans (h.block i hi hn)⟩
theorem Ext.below {w w' : World} (h : Ext w w') : Below w.heap.size w w' := ⟨h.os, h.tape, h.output, h.size, fun k hk => h.block k hk (by simp)⟩
theorem Ext.of_below {w w' : World} (h : Below w.heap.size w w') : Ext w w' := ⟨h.os, h.tape, h.output, h.size, fun k hk _ => h.block k hk⟩
theorem Ext.cell {w w' : World} (h : Ext w w') {a : Addr} {v : Value} (hc : w.cell? a = some v) : w'.cell? a = some v := World.grownBy.cell h hc (by simp)

theorem add_add (a : Addr) (m n : Nat) : (a.add m).add n = a.add (m + n) := by
  unfold Addr.add
  by_cases h1 : m = 0 <;> by_cases h2 : n = 0 <;> simp [h1, h2, Nat.add_assoc]

theorem add_block (a : Addr) (m : Nat) : (a.add m).block = a.block := by unfold Addr.add; split <;> rfl

/-! ### Element types -/

/-- How the elements of a slice lie: the type's number, the cells, how a datum is laid. -/
structure ET (α : Type) where
  e : Nat
  sz : Nat
  enc : α → List Value

structure ET.Ok {α : Type} (T : ET α) : Prop where
  pos : 0 < T.sz
  len : ∀ x, (T.enc x).length = T.sz
  one : ∀ x, ∀ u ∈ T.enc x, u.oneCell' = true

/-- What the program's table says of a slice type. -/
structure SlOk (t e sz bytes : Nat) (z : Value) : Prop where
  u : Yabc.prog.underlying t = some (.slice e)
  i : (Yabc.prog.info? e).map (fun i => (i.zero, i.size, i.bytes)) = some (some z, sz, bytes)
  zs : z.cells.size = sz
  pos : 0 < sz

variable {α : Type} {T : ET α} {w w' : World} {B : Nat} {v : Value}

theorem ET.Ok.length (h : T.Ok) : ∀ l : List α, (l.flatMap T.enc).length = l.length * T.sz
  | [] => by simp
  | x :: l => by simp [h.len, h.length l, Nat.add_mul, Nat.add_comm]

theorem ET.Ok.at (h : T.Ok) : ∀ (l : List α) (k o : Nat) (hk : k < l.length), o < T.sz → (l.flatMap T.enc)[k * T.sz + o]? = (T.enc l[k])[o]?
  | [], _, _, hk, _ => by simp at hk
  | x :: l, 0, o, _, ho => by
    simp only [List.flatMap_cons, Nat.zero_mul, Nat.zero_add, List.getElem_cons_zero]
    rw [List.getElem?_append_left (by rw [h.len]; exact ho)]
  | x :: l, k + 1, o, hk, ho => by
    simp only [List.flatMap_cons, List.getElem_cons_succ]
    rw [List.getElem?_append_right (by rw [h.len, Nat.add_mul]; omega), h.len]
    have e : (k + 1) * T.sz + o - T.sz = k * T.sz + o := by rw [Nat.add_mul]; omega
    rw [e]
    exact h.at l k o (by simpa using hk) ho

theorem ET.Ok.all1 (h : T.Ok) (l : List α) : ∀ u ∈ l.flatMap T.enc, u.oneCell' = true := by
  intro u hu
  obtain ⟨x, _, hx⟩ := List.mem_flatMap.1 hu
  exact h.one x u hx

/-! ### Slices that are read -/

def base : Value → Addr
  | .slice (some a) _ _ => a
  | _ => ⟨0, 0, none⟩

/-- v is a slice whose elements are l. -/
structure Rd (w : World) (T : ET α) (v : Value) (l : List α) : Prop where
  form : ∃ ao cap, v = .slice ao l.length cap ∧ l.length ≤ cap ∧ ∀ j u, (l.flatMap T.enc)[j]? = some u → ∃ a, ao = some a ∧ w.cell? (a.add j) = some u

/-- v is a slice of the call's own (its row's number is B or more), whose elements are l. -/
def Own (w : World) (B : Nat) (T : ET α) (v : Value) (l : List α) : Prop := w.ownsRow B T.e T.sz v l.length (l.flatMap T.enc)

theorem Rd.cell {l : List α} (h : Rd w T v l) {j : Nat} {u : Value} (hj : (l.flatMap T.enc)[j]? = some u) : w.cell? ((base v).add j) = some u := by
  obtain ⟨ao, cap, rfl, _, hc⟩ := h.form
  obtain ⟨a, rfl, ha⟩ := hc j u hj
  exact ha

theorem Rd.cellAt {l : List α} (h : Rd w T v l) (hT : T.Ok) {k o : Nat} (hk : k < l.length) {u : Value} (hu : (T.enc l[k])[o]? = some u) : w.cell? (((base v).add (k * T.sz)).add o) = some u := by
  rw [add_add]
  refine h.cell ?_
  have ho : o < T.sz := by
    rw [← hT.len l[k]]
    exact (List.getElem?_eq_some_iff.1 hu).1
  rw [hT.at l k o hk ho, hu]

theorem Rd.keep {l : List α} {row : Option Nat} (h : Rd w T v l) (hg : w.grownBy w' row) (hne : v.ownBlock = none ∨ v.ownBlock ≠ row) : Rd w' T v l := by
  obtain ⟨ao, cap, rfl, hcap, hc⟩ := h.form
  refine ⟨ao, cap, rfl, hcap, fun j u hj => ?_⟩
  obtain ⟨a, rfl, ha⟩ := hc j u hj
  refine ⟨a, rfl, hg.cell ha ?_⟩
  rw [add_block]
  simpa [Value.ownBlock] using hne

theorem Rd.ext {l : List α} (h : Rd w T v l) (hg : Ext w w') : Rd w' T v l := h.keep hg (by cases v.ownBlock <;> simp)

theorem Rd.lt {l : List α} (h : Rd w T v l) (hT : T.Ok) (hl : l ≠ []) : ∀ k, v.ownBlock = some k → k < w.heap.size := by
  obtain ⟨ao, cap, rfl, hcap, hc⟩ := h.form
  intro k hk
  obtain ⟨x, l', rfl⟩ := List.exists_cons_of_ne_nil hl
  have h0 : ((x :: l').flatMap T.enc)[0]? = some ((T.enc x)[0]'(by rw [hT.len]; exact hT.pos)) := by
    simp only [List.flatMap_cons]
    rw [List.getElem?_append_left (by rw [hT.len]; exact hT.pos)]
    simp
  obtain ⟨a, rfl, ha⟩ := hc _ _ h0
  simp [Value.ownBlock] at hk
  have := World.block_lt_of_cell? w _ ha
  rw [add_block, hk] at this
  exact this

theorem Own.rd {l : List α} (h : Own w B T v l) : Rd w T v l := by
  have hc := fun g => World.ownsRow.cells (g := g) h
  rcases h.2 with ⟨rfl, h0⟩ | ⟨g, cap, cur, rfl, _, _, hn, _⟩
  · have : l = [] := List.eq_nil_of_length_eq_zero h0
    subst this
    exact ⟨none, 0, rfl, Nat.le_refl _, fun j u hj => by simp at hj⟩
  · exact ⟨some ⟨g, 0, none⟩, cap, rfl, hn, fun j u hj => ⟨_, rfl, hc g rfl j u hj⟩⟩

theorem Own.keep {l : List α} {row : Option Nat} (h : Own w B T v l) (hg : w.grownBy w' row) (hne : v.ownBlock = none ∨ v.ownBlock ≠ row) : Own w' B T v l := World.ownsRow.kept h hg hne
theorem Own.ext {l : List α} (h : Own w B T v l) (hg : Ext w w') : Own w' B T v l := h.keep hg (by cases v.ownBlock <;> simp)
theorem Own.lt {l : List α} (h : Own w B T v l) : ∀ k, v.ownBlock = some k → B ≤ k ∧ k < w.heap.size := World.ownsRow.lt h
theorem Own.nil (w : World) (B : Nat) (T : ET α) : Own w B T (.slice none 0 0) ([] : List α) := World.ownsRow_nil w B T.e T.sz
theorem Own.low {l : List α} {B' : Nat} (h : Own w B T v l) (hB : B' ≤ B) : Own w B' T v l := by
  refine ⟨h.1, ?_⟩
  rcases h.2 with h2 | ⟨g, cap, cur, hv, hg, r⟩
  · exact .inl h2
  · exact .inr ⟨g, cap, cur, hv, Nat.le_trans hB hg, r⟩

/-- v' is what became of v by an append. -/
structure Gw (w w' : World) (v v' : Value) : Prop where
  grown : w.grownBy w' v.ownBlock
  own : v'.ownBlock = v.ownBlock ∨ ∃ b, v'.ownBlock = some b ∧ w.heap.size ≤ b

/-- Two slices do not share a row. -/
def Sep (u v : Value) : Prop := u.ownBlock = none ∨ u.ownBlock ≠ v.ownBlock

theorem Sep.of_new {u v : Value} (hu : ∀ k, u.ownBlock = some k → k < B) (hv : ∀ k, v.ownBlock = some k → B ≤ k) : Sep u v := by
  unfold Sep
  cases h : u.ownBlock with
  | none => exact .inl rfl
  | some k =>
    right
    intro e
    have h1 := hu k h
    have h2 := hv k e.symm
    omega

theorem Gw.sep {u v v' : Value} (h : Gw w w' v v') (hs : Sep u v) (hu : ∀ k, u.ownBlock = some k → k < w.heap.size) : Sep u v' := by
  rcases h.own with e | ⟨b, e, hb⟩
  · unfold Sep; rw [e]; exact hs
  · exact Sep.of_new hu fun k hk => by rw [e] at hk; cases hk; exact hb

theorem Gw.sep' {u v v' : Value} (h : Gw w w' v v') (hs : Sep v u) (hu : ∀ k, u.ownBlock = some k → k < w.heap.size) : Sep v' u := by
  rcases h.own with e | ⟨b, e, hb⟩
  · unfold Sep; rw [e]; exact hs
  · unfold Sep
    right
    rw [e]
    intro e2
    have := hu b e2.symm
    omega

/-! ### Appends -/

theorem run_append_x {t u ty e sz bytes : Nat} {z : Value} (E : SlOk t e sz bytes z) (hu : Yabc.prog.underlying u = some .string ∨ Yabc.prog.underlying u = some (.slice e))
    (src : Value) (m : Nat) (news : List Value) (hlen : ∀ w : World, (Builtin.lenOf src).run Yabc.prog w = .ok m w) (hfc : ∀ w' : World, w'.heap = w.heap → (Builtin.firstCells sz m src).run Yabc.prog w' = .ok news.toArray w')
    (hl : news.length = m * sz) (h1 : ∀ u ∈ news, u.oneCell' = true) {n : Nat} {xs : List Value} (hown : w.ownsRow B e sz v n xs) (hbytes : (n + m) * bytes ≤ 140737488355328) (h63 : n + m ≤ maxLen) (hB : B ≤ w.heap.size) :
    ∃ v' w', (Builtin.append_ #[t, u] ty #[v, src]).run Yabc.prog w = .ok v' w' ∧ w'.ownsRow B e sz v' (n + m) (xs ++ news) ∧ Gw w w' v v' := by
  obtain ⟨i, hi, hz, hsize, hby⟩ := info_parts E.i
  have hzs := E.zs
  have ht := E.u
  have hsmall : ¬ (9223372036854775807 < ((n : Int) + (m : Int))) := by simp only [maxLen] at h63; omega
  have hlen' : (xs ++ news).length = (n + m) * sz := by rw [List.length_append, hown.1, hl, Nat.add_mul]
  have hmx : IntKind.i64.max = 9223372036854775807 := by decide
  have grown : ∀ (old : Nat), old < n + m → ∀ (row : Option Nat),
      (w.drew.alloc (.cells (xs.toArray ++ news.toArray ++ Builtin.zeroCells z.cells (grownCap w (n + m) old e - (n + m))) e)).ownsRow B e sz
        (.slice (some ⟨w.heap.size, 0, none⟩) (n + m) (grownCap w (n + m) old e)) (n + m) (xs ++ news) ∧
      w.grownBy (w.drew.alloc (.cells (xs.toArray ++ news.toArray ++ Builtin.zeroCells z.cells (grownCap w (n + m) old e - (n + m))) e)) row := by
    intro old ho row
    have hge := grownCap_ge w (n + m) old e
    have hcm : grownCap w (n + m) old e ≤ maxLen := grownCap_le_maxLen w (n + m) old e h63
    generalize grownCap w (n + m) old e = gc at *
    refine ⟨⟨hlen', .inr ⟨w.heap.size, _, _, rfl, hB, heap_alloc_new w.drew _, hge, hcm, ?_, ?_⟩⟩, ⟨rfl, rfl, rfl, by simp, fun k hk _ => Below.heap_alloc w.drew _ k hk⟩⟩
    · simp only [Array.size_append, List.size_toArray, size_zeroCells, hzs, hown.1, hl, ← Nat.add_mul]
      rw [Nat.add_sub_cancel' hge]
    · simp only [Array.toList_append, List.append_assoc]
      rw [← List.append_assoc, ← hlen']
      exact List.take_left
  have hd := hfc w.drew rfl
  have h0 := hfc w rfl
  have hcap : ∀ old, old < n + m → ¬ (281474976710656 < Builtin.nextslicecap (n + m) old * i.bytes) := fun old ho => by
    have := growslice_fits (old := old) (bytes := bytes) ho hbytes
    rw [hby]; omega
  rcases hown.2 with ⟨rfl, rfl⟩ | ⟨g, cap, cur, rfl, hbg, hg, hnc, hcm, hcs, htake⟩
  · have hx : xs = [] := List.eq_nil_of_length_eq_zero (by simpa using hown.1)
    subst hx
    by_cases hm : m = 0
    · subst hm
      have hn : news = [] := List.eq_nil_of_length_eq_zero (by simpa using hl)
      subst hn
      refine ⟨.slice none 0 0, w, ?_, World.ownsRow_nil w B e sz, grow_refl w _, .inl rfl⟩
      rcases hu with hu | hu <;> simp [Builtin.append_, run_underlying ht, run_underlying hu, sizeOf, typeInfo, hi, hsize, hlen, h0]
    · have hgr := grown 0 (by omega) (Value.ownBlock (.slice none 0 0))
      have hc := hcap 0 (by omega)
      simp only [Nat.zero_add, List.nil_append, Array.empty_append, Int.natCast_zero, Int.zero_add] at hgr hc hsmall ⊢
      refine ⟨_, _, ?_, hgr.1, hgr.2, .inr ⟨_, rfl, Nat.le_refl _⟩⟩
      have hfn := run_firstCells_none (P := Yabc.prog) w.drew sz 0 0 0
      rcases hu with hu | hu <;> simp [Builtin.append_, run_underlying ht, run_underlying hu, sizeOf, typeInfo, zeroValue, hi, hz, hsize, hlen, hm, hmx, hsmall, hc, Question.forced, newRow, grownCap, hd, hfn]
  · by_cases hroom : n + m ≤ cap
    · have hfit : n * sz + news.length ≤ cur.size := by rw [hl, hcs, ← Nat.add_mul]; exact Nat.mul_le_mul_right _ hroom
      have hst := run_storeCells_at Yabc.prog g (n * sz) e news 0 cur w hg (by simpa using hfit) h1
      simp only [Nat.add_zero] at hst
      refine ⟨.slice (some ⟨g, 0, none⟩) (n + m) cap, w.setRow g (cur.toList.take (n * sz) ++ news ++ cur.toList.drop (n * sz + news.length)).toArray, ?_, ⟨hlen', .inr ⟨g, cap, _, rfl, hbg, setRow_heap w g cur _ e _ hg, hroom, hcm, ?_, ?_⟩⟩, ⟨rfl, rfl, rfl, by simp, fun k _ hk => setRow_other w g k _ (fun e => hk (by simp [Value.ownBlock, e]))⟩, .inl rfl⟩
      · rcases hu with hu | hu <;> simp [Builtin.append_, run_underlying ht, run_underlying hu, sizeOf, typeInfo, hi, hsize, hlen, hroom, h0, Addr.add_lit, hst]
      · simp only [List.size_toArray, List.length_append, List.length_take, List.length_drop, Array.length_toList]
        omega
      · rw [htake, ← hlen']
        exact List.take_left
    · have holds : ∀ j u, xs[j]? = some u → w.drew.cell? ((⟨g, 0, none⟩ : Addr).add j) = some u := fun j u hj => World.ownsRow.cells (g := g) hown rfl j u hj
      have hfn := run_firstCells_some (P := Yabc.prog) w.drew sz n ⟨g, 0, none⟩ n cap xs hown.1 holds
      have hgr := grown cap (by omega) (Value.ownBlock (.slice (some ⟨g, 0, none⟩) n cap))
      have hc := hcap cap (by omega)
      have e2 : (xs ++ news).toArray = xs.toArray ++ news.toArray := by simp
      refine ⟨_, _, ?_, hgr.1, hgr.2, .inr ⟨_, rfl, Nat.le_refl _⟩⟩
      rcases hu with hu | hu <;> simp [Builtin.append_, run_underlying ht, run_underlying hu, sizeOf, typeInfo, zeroValue, hi, hz, hsize, hlen, hroom, hmx, hsmall, hc, Question.forced, newRow, grownCap, hd, hfn] <;> rw [← Array.append_assoc, e2]

variable {ρ : Env} {ty t : TypeId} {x y : Operand} {N : Nat} {ops : Array Oper} {rest : List Oper} {K : Env → World → Prop}

/-- A run of an operation, whatever world it leaves. -/
theorem EV.of_run {op : Op} {K : Value → World → Prop} {v : Value} (h : (xo ρ op ty).run Yabc.prog w = .ok (.value v) w') (k : K v w') : EV ρ w op ty K := by
  unfold EV; rw [h]; exact k
theorem EV.of_skip {op : Op} {K : Value → World → Prop} (h : (xo ρ op ty).run Yabc.prog w = .ok .skip w') (k : K undef w') : EV ρ w op ty K := by
  unfold EV; rw [h]; exact k

/-- A row of the call's own: block b holds the cells cs. -/
def Blk (w : World) (b : Nat) (e : TypeId) (cs : List Value) : Prop := w.heap[b]? = some (.cells cs.toArray e (0, 0))

theorem Blk.keep {b : Nat} {e : TypeId} {cs : List Value} {row : Option Nat} (h : Blk w b e cs) (hg : w.grownBy w' row) (hne : some b ≠ row) : Blk w' b e cs :=
  (hg.block b (Array.getElem?_eq_some_iff.1 h).1 hne).trans h
theorem Blk.ext {b : Nat} {e : TypeId} {cs : List Value} (h : Blk w b e cs) (hg : Ext w w') : Blk w' b e cs := h.keep hg (by simp)
theorem Blk.lt {b : Nat} {e : TypeId} {cs : List Value} (h : Blk w b e cs) : b < w.heap.size := (Array.getElem?_eq_some_iff.1 h).1
theorem Blk.cell {b : Nat} {e : TypeId} {cs : List Value} (h : Blk w b e cs) {j : Nat} {u : Value} (hj : cs[j]? = some u) : w.cell? ((⟨b, 0, none⟩ : Addr).add j) = some u := by
  have hadd : (⟨b, 0, none⟩ : Addr).add j = ⟨b, j, none⟩ := by unfold Addr.add; split <;> simp_all
  rw [hadd, cell_of_row w b j _ e (0, 0) h]
  simpa using hj

/-- A new row. -/
structure New (w w' : World) (e : TypeId) (cs : List Value) : Prop where
  ext : Ext w w'
  blk : Blk w' w.heap.size e cs
  size : w'.heap.size = w.heap.size + 1

theorem new_alloc (w : World) (e : TypeId) (cs : List Value) : New w (w.alloc (.cells cs.toArray e)) e cs :=
  ⟨World.grownBy_alloc w _ none, heap_alloc_new w _, by simp⟩

theorem ev_box {e : TypeId} {K : Value → World → Prop} {cs : List Value} (hx : (ev ρ x).cells = cs.toArray) (k : ∀ w', New w w' e cs → K (.pointer (some ⟨w.heap.size, 0, none⟩)) w') : EV ρ w (.box e x) ty K := by
  refine EV.of_run (w' := w.alloc (.cells cs.toArray e)) ?_ (k _ (new_alloc w e cs))
  unfold xo execOp Instr.box
  simp [newVar, newRow, hx]

theorem ev_alloc {e sz bytes : Nat} {z : Value} {cs : List Value} {K : Value → World → Prop} (hi : (Yabc.prog.info? e).map (fun i => (i.zero, i.size, i.bytes)) = some (some z, sz, bytes)) (hz : z.cells = cs.toArray)
    (k : ∀ w', New w w' e cs → K (.pointer (some ⟨w.heap.size, 0, none⟩)) w') : EV ρ w (.alloc e) ty K := by
  obtain ⟨i, hi, hz0, _, _⟩ := info_parts hi
  refine EV.of_run (w' := w.alloc (.cells cs.toArray e)) ?_ (k _ (new_alloc w e cs))
  unfold xo execOp Instr.alloc
  simp [newVar, newRow, zeroValue, typeInfo, hi, hz0, hz]

/-- The program's table: is a type's value an aggregate? -/
def aggB (P : Program) (t : TypeId) : Option Bool := match P.underlying t with
  | some (.struct _) | some (.array _ _) => some true
  | some _ => some false
  | none => none

theorem run_isAgg {t : TypeId} {b : Bool} (h : aggB Yabc.prog t = some b) (w : World) : (isAgg t).run Yabc.prog w = .ok b w := by
  unfold aggB at h
  unfold isAgg underlying
  simp only [Sem.run_bind, run_program, Result.andThen_ok]
  split at h <;> rename_i hu <;> simp only [hu, Sem.run_pure, Result.andThen_ok] <;> simp_all

/-- A load of one cell. -/
theorem pv_ld {a : Addr} {u : Value} (ht : aggB Yabc.prog t = some false) (hx : ev ρ x = .pointer (some a)) (hc : w.cell? a = some u) : PV ρ w (.load t x) ty u := by
  unfold PV xo execOp Instr.loadAt Instr.sureAddr loadVar
  simp [hx, run_isAgg ht, hc]

theorem run_loadCells {a : Addr} : ∀ (cs : List Value) (i : Nat) (acc : Array Value), (∀ j u, cs[j]? = some u → w.cell? (a.add (i + j)) = some u) → (loadCellsFrom a i cs.length acc).run Yabc.prog w = .ok (acc ++ cs.toArray) w
  | [], i, acc, _ => by simp [loadCellsFrom]
  | c :: cs, i, acc, h => by
    have h0 := h 0 c (by simp)
    simp only [List.length_cons, loadCellsFrom, Sem.run_bind, run_load, Nat.add_zero] at h0 ⊢
    rw [h0]
    simp only [Result.andThen_ok]
    rw [run_loadCells cs (i + 1) (acc.push c) (fun j u hj => by have := h (j + 1) u (by simpa using hj); rwa [show i + 1 + j = i + (j + 1) by omega])]
    congr 1
    apply Array.ext'
    simp

/-- A load of a struct. -/
theorem pv_ldA {a : Addr} {cs : List Value} (ht : aggB Yabc.prog t = some true) (hsz : (Yabc.prog.info? t).map (fun i => i.size) = some cs.length) (hx : ev ρ x = .pointer (some a)) (hc : ∀ j u, cs[j]? = some u → w.cell? (a.add j) = some u) : PV ρ w (.load t x) ty (.agg cs.toArray) := by
  obtain ⟨i, hi, hs⟩ := Option.map_eq_some_iff.1 hsz
  have := run_loadCells (w := w) (a := a) cs 0 #[] (fun j u hj => by rw [Nat.zero_add]; exact hc j u hj)
  unfold PV xo execOp Instr.loadAt Instr.sureAddr loadVar
  simp [hx, run_isAgg ht, sizeOf, typeInfo, hi, hs, loadCells, this]

/-- The field's place. -/
def fieldB (P : Program) (s f : Nat) : Bool := match P.underlying s with
  | some (.struct fs) => match fs[f]? with
    | some fd => fd.offset == f && (match P.info? fd.type with | some i => i.size != 0 | none => false)
    | none => false
  | _ => false

theorem pv_fa {a : Addr} {s f : Nat} (hf : fieldB Yabc.prog s f = true) (hx : ev ρ x = .pointer (some a)) : PV ρ w (.fieldAddr s x f) ty (.pointer (some (a.add f))) := by
  unfold fieldB at hf
  split at hf
  · rename_i fs hu
    split at hf
    · rename_i fd hfd
      simp only [Bool.and_eq_true, beq_iff_eq] at hf
      obtain ⟨ho, hs⟩ := hf
      split at hs
      · rename_i i hi
        have hne : ¬ i.size = 0 := by simpa using hs
        unfold PV xo execOp Instr.fieldAt Instr.sureAddr fieldPlace
        simp [run_underlying hu, hfd, hx, sizeOf, typeInfo, hi, hne, ho]
      · cases hs
    · cases hf
  · cases hf

/-- The element's place. -/
theorem pv_ia {e sz k : Nat} {i : Int} (hu : Yabc.prog.underlying t = some (.slice e)) (hs : (Yabc.prog.info? e).map (fun i => i.size) = some sz) {ao : Option Addr} {n c : Nat} (hx : ev ρ x = .slice ao n c) (hi : ev ρ y = iv i)
    (ha : ao.isSome = true) (hk : i = k) (hlt : k < n) : PV ρ w (.indexAddr t x y) ty (.pointer (some ((base (.slice ao n c)).add (k * sz)))) := by
  obtain ⟨inf, hinf, hs⟩ := Option.map_eq_some_iff.1 hs
  subst hk
  cases ao with
  | none => cases ha
  | some a =>
    unfold PV xo execOp Instr.indexAt
    simp [hx, hi, iv, asIntOf, run_underlying hu, hlt, sizeOf, typeInfo, hinf, hs, base]

theorem Rd.nz {α : Type} {T : ET α} {v : Value} {l : List α} (h : Rd w T v l) (hT : T.Ok) (hl : 0 < l.length) : ∃ a cap, v = .slice (some a) l.length cap := by
  obtain ⟨ao, cap, rfl, hcap, hc⟩ := h.form
  obtain ⟨x, l', rfl⟩ := List.exists_cons_of_length_pos hl
  have h0 : ((x :: l').flatMap T.enc)[0]? = some ((T.enc x)[0]'(by rw [hT.len]; exact hT.pos)) := by
    simp only [List.flatMap_cons]
    rw [List.getElem?_append_left (by rw [hT.len]; exact hT.pos)]
    simp
  obtain ⟨a, rfl, ha⟩ := hc _ _ h0
  exact ⟨a, cap, rfl⟩

/-- The place of element k of a slice that is read. -/
theorem pv_ix {α : Type} {T : ET α} {v : Value} {l : List α} {k : Nat} {i : Int} (hu : Yabc.prog.underlying t = some (.slice T.e)) (hs : (Yabc.prog.info? T.e).map (fun i => i.size) = some T.sz) (hT : T.Ok) (hr : Rd w T v l) (hx : ev ρ x = v)
    (hi : ev ρ y = iv i) (hk : i = k) (hlt : k < l.length) : PV ρ w (.indexAddr t x y) ty (.pointer (some ((base v).add (k * T.sz)))) := by
  obtain ⟨a, cap, rfl⟩ := hr.nz hT (by omega)
  exact pv_ia hu hs hx hi rfl hk hlt

theorem pv_lenV {α : Type} {T : ET α} {v : Value} {l : List α} (hu : Yabc.prog.underlying t = some (.slice T.e)) (hr : Rd w T v l) (hx : ev ρ x = v) : PV ρ w (.call { callee := .builtin .len, args := #[x], argTypes := #[t] }) ty (iv l.length) := by
  obtain ⟨ao, cap, rfl, _⟩ := hr.form
  exact pv_len_v hu hx

/-- A store of whole values into a row of the call's own. -/
theorem ev_st {b off : Nat} {e : TypeId} {cs nw : List Value} {K : Value → World → Prop} (hb : Blk w b e cs) (hsz : (Yabc.prog.info? t).map (fun i => i.size) = some nw.length) (hx : ev ρ x = .pointer (some ⟨b, off, none⟩)) (hy : (ev ρ y).cells = nw.toArray)
    (hl : off + nw.length ≤ cs.length) (h1 : ∀ u ∈ nw, u.oneCell' = true) (k : ∀ w', Blk w' b e (cs.take off ++ nw ++ cs.drop (off + nw.length)) → w.grownBy w' (some b) → w'.heap.size = w.heap.size → K undef w') : EV ρ w (.store t x y) ty K := by
  obtain ⟨i, hi, hs⟩ := Option.map_eq_some_iff.1 hsz
  have hst := run_storeCells_at Yabc.prog b off e nw 0 cs.toArray w hb (by simpa using hl) h1
  simp only [Nat.add_zero] at hst
  refine EV.of_skip (w' := w.setRow b (cs.take off ++ nw ++ cs.drop (off + nw.length)).toArray) ?_ (k _ (setRow_heap w b _ _ e _ hb) ⟨rfl, rfl, rfl, by simp, fun k _ hk => setRow_other w b k _ (fun e => hk (by rw [e]))⟩ (by simp))
  unfold xo execOp Instr.storeAt Instr.sureAddr storeVar
  simp [hx, hy, sizeOf, typeInfo, hi, hs, hst]

end Go.Proofs.Ybuabw
