/-
  MEMORY, second part: appends, makes, stores, cuts, calls; the element types of this program. Own work for the seat Ybuabw.
-/
import Derived.Test.YbuabwMem
import Derived.Test.YbuabwPlain
namespace Go.Proofs.Ybuabw
open Go.RowKit
set_option linter.unusedVariables false
set_option maxRecDepth 8000


def encT (p : Tri) : List Value := [iv p.a, iv p.b, S p.s]
def encF (p : Frg) : List Value := [iv p.br, iv p.k, iv p.st, S p.s]

def tS : ET (List UInt8) := ⟨9, 1, fun s => [S s]⟩
def tB : ET UInt8 := ⟨5, 1, fun c => [bt c]⟩
def tZ : ET Int := ⟨3, 1, fun n => [iv n]⟩
def tI : ET Tri := ⟨67, 3, encT⟩
def tK : ET Tri := ⟨30, 3, encT⟩
def tLI : ET Tri := ⟨99, 3, encT⟩
def tLK : ET Tri := ⟨98, 3, encT⟩
def tF : ET Frg := ⟨76, 4, encF⟩
def tLF : ET Frg := ⟨100, 4, encF⟩
/-- A slice of slices: the inner slices as values. -/
def tV : ET (Option Addr × Nat × Nat) := ⟨23, 1, fun p => [.slice p.1 p.2.1 p.2.2]⟩

theorem okS : tS.Ok := ⟨by decide, fun _ => rfl, by intro x u hu; simp [tS] at hu; subst hu; rfl⟩
theorem okB : tB.Ok := ⟨by decide, fun _ => rfl, by intro x u hu; simp [tB] at hu; subst hu; rfl⟩
theorem okZ : tZ.Ok := ⟨by decide, fun _ => rfl, by intro x u hu; simp [tZ] at hu; subst hu; rfl⟩
theorem okV : tV.Ok := ⟨by decide, fun _ => rfl, by intro x u hu; simp [tV] at hu; subst hu; rfl⟩
theorem encT_one (x : Tri) : ∀ u ∈ encT x, u.oneCell' = true := by intro u hu; simp [encT] at hu; rcases hu with rfl | rfl | rfl <;> rfl
theorem encF_one (x : Frg) : ∀ u ∈ encF x, u.oneCell' = true := by intro u hu; simp [encF] at hu; rcases hu with rfl | rfl | rfl | rfl <;> rfl
theorem okI : tI.Ok := ⟨by decide, fun _ => rfl, encT_one⟩
theorem okK : tK.Ok := ⟨by decide, fun _ => rfl, encT_one⟩
theorem okLI : tLI.Ok := ⟨by decide, fun _ => rfl, encT_one⟩
theorem okLK : tLK.Ok := ⟨by decide, fun _ => rfl, encT_one⟩
theorem okF : tF.Ok := ⟨by decide, fun _ => rfl, encF_one⟩
theorem okLF : tLF.Ok := ⟨by decide, fun _ => rfl, encF_one⟩

def zTri : Value := .agg #[.int .i64 0, .int .i64 0, .string ⟨#[]⟩]
def zFrg : Value := .agg #[.int .i64 0, .int .i64 0, .int .i64 0, .string ⟨#[]⟩]

theorem sl83 : SlOk 83 5 1 1 (.int .u8 0) := ⟨Yabc.underlying83, by kernel_rfl, rfl, by decide⟩
theorem sl32 : SlOk 32 9 1 16 (.string ⟨#[]⟩) := ⟨Yabc.underlying32, by kernel_rfl, rfl, by decide⟩
theorem sl96 : SlOk 96 3 1 8 (.int .i64 0) := ⟨Yabc.underlying96, by kernel_rfl, rfl, by decide⟩
theorem sl23 : SlOk 23 67 3 32 zTri := ⟨Yabc.underlying23, by kernel_rfl, rfl, by decide⟩
theorem sl27 : SlOk 27 30 3 32 zTri := ⟨Yabc.underlying27, by kernel_rfl, rfl, by decide⟩
theorem sl58 : SlOk 58 98 3 32 zTri := ⟨Yabc.underlying58, by kernel_rfl, rfl, by decide⟩
theorem sl62 : SlOk 62 99 3 32 zTri := ⟨Yabc.underlying62, by kernel_rfl, rfl, by decide⟩
theorem sl25 : SlOk 25 76 4 40 zFrg := ⟨Yabc.underlying25, by kernel_rfl, rfl, by decide⟩
theorem sl70 : SlOk 70 100 4 40 zFrg := ⟨Yabc.underlying70, by kernel_rfl, rfl, by decide⟩
theorem sl94 : SlOk 94 23 1 24 (.slice none 0 0) := ⟨Yabc.underlying94, by kernel_rfl, rfl, by decide⟩

variable {α : Type} {T : ET α} {w w' : World} {B : Nat} {v : Value} {ρ : Env} {ty t : TypeId} {x y s : Operand} {N : Nat} {ops : Array Oper} {rest : List Oper} {K : Env → World → Prop} {KV : Value → World → Prop}

/-! ### One element, appended -/

theorem foldl_set : ∀ (l : List Value) (k : Nat) (cs : Array Value), k + l.length ≤ cs.size →
    ((l.zipIdx k).foldl (fun cs (p : Value × Nat) => cs.setIfInBounds p.2 p.1) cs).toList = cs.toList.take k ++ l ++ cs.toList.drop (k + l.length)
  | [], k, cs, h => by simp
  | c :: l, k, cs, h => by
    simp only [List.zipIdx_cons, List.foldl_cons]
    simp only [List.length_cons] at h
    have ih := foldl_set l (k + 1) (cs.setIfInBounds k c) (by simp; omega)
    rw [ih]
    have e := list_seg_step cs.toList k c l (by simp; omega)
    simpa [Array.toList_setIfInBounds, Nat.add_assoc, Nat.add_comm 1] using e

theorem fill_one {sz : Nat} {zs : Array Value} {u : Value} (hz : zs.size = sz) (hu : u.cells.size = sz) : Instr.fill (fun i => some (i * sz, sz)) zs [(0, u)] = some u.cells := by
  unfold Instr.fill
  simp only [Nat.zero_mul, Nat.zero_add]
  rw [if_neg (by simp [hu, hz])]
  unfold Instr.fill
  congr 1
  apply Array.ext'
  rw [← Array.foldl_toList, Array.toList_zipIdx]
  have := foldl_set u.cells.toList 0 zs (by simp [hu, hz])
  simp only [Nat.zero_add] at this ⊢
  rw [this]
  simp [hu, ← hz]

theorem ev_bs1 {e sz bytes : Nat} {z : Value} {cs : List Value} (E : SlOk t e sz bytes z) (hx : (ev ρ x).cells = cs.toArray) (hl : cs.length = sz) (hsz : sz ≤ 4)
    (k : ∀ w', New w w' e cs → KV (.slice (some ⟨w.heap.size, 0, none⟩) 1 1) w') : EV ρ w (.buildSlice t 1 #[(0, x)]) ty KV := by
  obtain ⟨i, hi, hz0, hs, hb⟩ := info_parts E.i
  have hpos : ¬ sz = 0 := by have := E.pos; omega
  have hf : Instr.fill (fun i => some (i * sz, sz)) ((Array.range sz).map (fun i => z.cells[i % z.cells.size]!)) [(0, ev ρ x)] = some cs.toArray := by
    rw [fill_one (by simp) (by rw [hx]; simpa using hl), hx]
  have hsz' : ¬ 16777216 < sz := Nat.not_lt.2 (Nat.le_trans hsz (by decide))
  refine EV.of_run (w' := w.alloc (.cells cs.toArray e)) ?_ (k _ (new_alloc w e cs))
  unfold xo execOp Instr.buildSlice
  simp only [List.map_toArray, List.map_cons, List.map_nil]
  simp [run_underlying E.u, sizeOf, typeInfo, zeroValue, hi, hz0, hs, hsz', hpos, newRow]
  simp only [Array.getElem!_eq_getD, Array.getD_eq_getD_getElem?] at hf ⊢
  simp [hf]

theorem Ext.own_size (h : Ext w w') : w.heap.size ≤ w'.heap.size := h.size

theorem gw_pre {w1 : World} {v' : Value} (h : Ext w w1) (g : Gw w1 w' v v') : Gw w w' v v' :=
  ⟨grow_trans (grow_any h) g.grown, g.own.imp id fun ⟨b, hb, hl⟩ => ⟨b, hb, Nat.le_trans h.size hl⟩⟩

/-- 'append(s, x)' of one element, at the built-in. -/
theorem ev_app1 {bytes : Nat} {z : Value} {l : List α} {b : Nat} {x1 : α} (E : SlOk t T.e T.sz bytes z) (hT : T.Ok) (hown : Own w B T v l) (hB : B ≤ w.heap.size) (hblk : Blk w b T.e (T.enc x1)) (hs : ev ρ s = v) (hx : ev ρ x = .slice (some ⟨b, 0, none⟩) 1 1)
    (hb : (l.length + 1) * bytes ≤ 140737488355328) (hm : l.length + 1 ≤ maxLen) (k : ∀ v' w', Own w' B T v' (l ++ [x1]) → Gw w w' v v' → KV v' w') :
    EV ρ w (.call { callee := .builtin .append, args := #[s, x], argTypes := #[t, t] }) ty KV := by
  have hc : ∀ w' : World, w'.heap = w.heap → ∀ j u, (T.enc x1)[j]? = some u → w'.cell? ((⟨b, 0, none⟩ : Addr).add j) = some u := fun w' hw' j u hj => by
    have : Blk w' b T.e (T.enc x1) := by unfold Blk; rw [hw']; exact hblk
    exact this.cell hj
  obtain ⟨v', w', hr, ho, hg⟩ := run_append_x (w := w) (ty := ty) E (.inr E.u) (.slice (some ⟨b, 0, none⟩) 1 1) 1 (T.enc x1) (fun _ => rfl)
    (fun w' hw' => run_firstCells_some (P := Yabc.prog) w' T.sz 1 ⟨b, 0, none⟩ 1 1 (T.enc x1) (by rw [hT.len]; simp) (hc w' hw')) (by rw [hT.len]; simp) (hT.one x1) hown hb hm hB
  refine EV.of_run (w' := w') (v := v') ?_ (k v' w' ?_ hg)
  · unfold xo execOp
    simp [resolve, invoke, builtin, hs, hx, hr]
  · unfold Own
    simpa [List.flatMap_append] using ho

/-- 'append(s, x)' of one element: the two operations. -/
theorem push {bytes : Nat} {z : Value} {l : List α} {d1 d2 : Nat} {ty1 ty2 : TypeId} {p1 p2 : String} {f1 f2 : Array Edge} (x1 : α) (E : SlOk t T.e T.sz bytes z) (hT : T.Ok) (h4 : T.sz ≤ 4) (hown : Own w B T v l) (hB : B ≤ w.heap.size)
    (hx : (ev ρ x).cells = (T.enc x1).toArray) (hs : ∀ J, ev (upd ρ d1 J) s = v) (hd1 : Nat.blt d1 N = true) (hd2 : Nat.blt d2 N = true) (hb : (l.length + 1) * bytes ≤ 140737488355328) (hm : l.length + 1 ≤ maxLen)
    (k : ∀ J v' w', Own w' B T v' (l ++ [x1]) → Gw w w' v v' → LW N ops rest (upd (upd ρ d1 J) d2 v') w' K) :
    LW N ops (Oper.mk (some d1) (.buildSlice t 1 #[(0, x)]) ty1 p1 f1 none :: Oper.mk (some d2) (.call { callee := .builtin .append, args := #[s, .tmp d1], argTypes := #[t, t] }) ty2 p2 f2 none :: rest) ρ w K := by
  refine evd hd1 (ev_bs1 E hx (hT.len x1) h4 fun w1 hn => ?_)
  refine evd hd2 (ev_app1 E hT (hown.ext hn.ext) (Nat.le_trans hB hn.ext.size) hn.blk (hs _) (by simp [ev, upd]) hb hm fun v' w' ho hg => ?_)
  exact k _ v' w' ho (gw_pre hn.ext hg)

theorem flat_bt (c : List UInt8) : c.flatMap tB.enc = c.map bt := by
  induction c with
  | nil => rfl
  | cons c cs ih => rw [List.flatMap_cons, ih]; rfl

/-- 'append(s, x...)', x a string. -/
theorem ev_appS {l c : List UInt8} (hown : Own w B tB v l) (hB : B ≤ w.heap.size) (hs : ev ρ s = v) (hx : ev ρ x = S c) (hb : l.length + c.length ≤ 140737488355328) (k : ∀ v' w', Own w' B tB v' (l ++ c) → Gw w w' v v' → KV v' w') :
    EV ρ w (.call { callee := .builtin .append, args := #[s, x], argTypes := #[83, 9] }) ty KV := by
  have hm : l.length + c.length ≤ maxLen := by unfold maxLen; omega
  obtain ⟨v', w', hr, ho, hg⟩ := run_append_x (w := w) (ty := ty) sl83 (.inl Yabc.underlying9) (S c) c.length (c.map bt) (fun _ => by simp [S, Builtin.lenOf, ba_size])
    (fun w' hw' => by
      simp only [S, Builtin.firstCells, Sem.run_pure]
      congr 1
      rw [ByteArray.extract_mk]
      simp [bt]) (by simp) (by intro u hu; obtain ⟨c, _, rfl⟩ := List.mem_map.1 hu; rfl) hown (by simpa using hb) hm hB
  refine EV.of_run (w' := w') (v := v') ?_ (k v' w' ?_ hg)
  · unfold xo execOp
    simp [resolve, invoke, builtin, hs, hx, hr]
  · unfold Own
    have e : (l ++ c).flatMap tB.enc = l.flatMap tB.enc ++ c.map bt := by
      rw [List.flatMap_append, flat_bt c]
    rw [e, List.length_append]
    exact ho

/-! ### Calls -/

def callB (P : Program) (f : FuncId) : Bool := match P.funcs[f]? with
  | some fn => !(fn.name == "runtime.NumGoroutine") && fn.body.isSome
  | none => false

theorem ev_call {f : FuncId} {xs : List Operand} {vs : List Value} {tys : Array TypeId} {R : Value → World → Prop} (hf : callB Yabc.prog f = true) (ha : xs.map (ev ρ) = vs) (hc : Fn f vs w R) (k : ∀ v w', R v w' → KV v w') :
    EV ρ w (.call { callee := .value (.func f), args := xs.toArray, argTypes := tys }) ty KV := by
  unfold callB at hf
  split at hf
  · rename_i fn hfn
    simp only [Bool.and_eq_true, Bool.not_eq_true', beq_eq_false_iff_ne] at hf
    obtain ⟨bd, hb⟩ := Option.isSome_iff_exists.1 hf.2
    have hr : (xo ρ (.call { callee := .value (.func f), args := xs.toArray, argTypes := tys }) ty).run Yabc.prog w = .ok (.enter f vs.toArray) w := by
      unfold xo execOp
      simp only [List.map_toArray, resolve, ev, Deferred.ofValue, ha]
      simp [invoke, callFunc, hfn, hf.1, hb]
    unfold EV
    rw [hr]
    exact Fn.mono hc k
  · cases hf

/-! ### make -/

theorem made_eq (hT : T.Ok) {z : Value} {z0 : α} (hz : z.cells = (T.enc z0).toArray) (n : Nat) : madeCells z.cells (n * T.sz) = ((List.replicate n z0).flatMap T.enc).toArray := by
  have hl := hT.length (List.replicate n z0)
  simp only [List.length_replicate] at hl
  have hs : z.cells.size = T.sz := by rw [hz]; simpa using hT.len z0
  apply Array.ext
  · rw [size_madeCells]; simpa using hl.symm
  · intro i h1 h2
    rw [size_madeCells] at h1
    have hk : i / T.sz < n := Nat.div_lt_of_lt_mul (by rw [Nat.mul_comm]; exact h1)
    have ho : i % T.sz < T.sz := Nat.mod_lt _ hT.pos
    have := hT.at (List.replicate n z0) (i / T.sz) (i % T.sz) (by simpa using hk) ho
    rw [Nat.mul_comm, Nat.div_add_mod] at this
    simp only [List.getElem_replicate] at this
    have e1 : ((List.replicate n z0).flatMap T.enc)[i]? = some ((T.enc z0)[i % T.sz]'(by rw [hT.len]; exact ho)) := by rw [this]; simp [hT.len, ho]
    have e2 : ((List.replicate n z0).flatMap T.enc).toArray[i] = (T.enc z0)[i % T.sz]'(by rw [hT.len]; exact ho) := by
      have := (List.getElem?_eq_some_iff.1 e1).2
      simpa using this
    rw [e2]
    simp only [madeCells, Array.getElem_map, Array.getElem_range, hs]
    have hlt : i % T.sz < z.cells.size := by rw [hs]; exact ho
    rw [getElem!_pos z.cells (i % T.sz) hlt]
    simp [hz]

theorem ev_make {bytes : Nat} {z : Value} {z0 : α} {n : Int} {m : Nat} (E : SlOk t T.e T.sz bytes z) (hT : T.Ok) (hz : z.cells = (T.enc z0).toArray) (hx : ev ρ x = iv n) (hn : n = m) (hb : bytes * m ≤ 281474976710656) (hm : m ≤ maxLen) (hB : B ≤ w.heap.size)
    (k : ∀ v w', v = .slice (some ⟨w.heap.size, 0, none⟩) m m → Own w' B T v (List.replicate m z0) → Own w' w.heap.size T v (List.replicate m z0) → Ext w w' → KV v w') : EV ρ w (.makeSlice t x x) ty KV := by
  obtain ⟨i, hi, hz0, hs, hb'⟩ := info_parts E.i
  subst hn
  have h63' : (m : Int) ≤ 9223372036854775807 := by unfold maxLen at hm; omega
  have hb2 : (i.bytes : Int) * (m : Int) ≤ 281474976710656 := by
    rw [hb']
    have h : ((bytes * m : Nat) : Int) ≤ 281474976710656 := by omega
    rwa [Int.natCast_mul] at h
  have hr := run_make (P := Yabc.prog) w t T.e i z E.u hi hz0 .i64 .i64 m m (by omega) (Int.le_refl _) hb2 h63'
  rw [hs] at hr
  simp only [Int.toNat_natCast] at hr
  rw [made_eq hT hz] at hr
  have hl := hT.length (List.replicate m z0)
  have own : ∀ B, B ≤ w.heap.size → Own (w.alloc (.cells ((List.replicate m z0).flatMap T.enc).toArray T.e)) B T (.slice (some ⟨w.heap.size, 0, none⟩) m m) (List.replicate m z0) := fun B hB =>
    ⟨hl, .inr ⟨w.heap.size, m, _, by simp, hB, heap_alloc_new w _, by simp, hm, by simpa using hl, List.take_of_length_le (by simp only [List.length_replicate] at hl ⊢; rw [← hl]; exact Nat.le_refl _)⟩⟩
  refine EV.of_run (w' := w.alloc (.cells ((List.replicate m z0).flatMap T.enc).toArray T.e)) ?_ (k _ _ rfl (own B hB) (own _ (Nat.le_refl _)) (World.grownBy_alloc w _ none))
  unfold xo execOp
  simp [hx, iv, hr]

/-! ### Slices of the call's own that need not begin at their row's head -/

def OwnR (w : World) (B : Nat) (T : ET α) (v : Value) (l : List α) : Prop :=
  ∃ ao cap, v = .slice ao l.length cap ∧ l.length ≤ cap ∧ ((ao = none ∧ l = []) ∨ ∃ g off cs, ao = some ⟨g, off, none⟩ ∧ B ≤ g ∧ Blk w g T.e cs ∧ (cs.drop off).take (l.length * T.sz) = l.flatMap T.enc)

theorem Own.own {l0 : List α} (h : Own w B T v l0) : OwnR w B T v l0 := by
  rcases h.2 with ⟨rfl, h0⟩ | ⟨g, cap, cur, rfl, hb, hg, hn, _, _, ht⟩
  · have : l0 = [] := List.eq_nil_of_length_eq_zero h0
    subst this
    exact ⟨none, 0, rfl, Nat.le_refl _, .inl ⟨rfl, rfl⟩⟩
  · exact ⟨some ⟨g, 0, none⟩, cap, rfl, hn, .inr ⟨g, 0, cur.toList, rfl, hb, by simpa [Blk] using hg, by simpa using ht⟩⟩

theorem add_none (g off j : Nat) : (⟨g, off, none⟩ : Addr).add j = ⟨g, off + j, none⟩ := by unfold Addr.add; split <;> simp_all

theorem OwnR.rd {l : List α} (h : OwnR w B T v l) : Rd w T v l := by
  obtain ⟨ao, cap, rfl, hc, hx⟩ := h
  refine ⟨ao, cap, rfl, hc, fun j u hj => ?_⟩
  rcases hx with ⟨_, rfl⟩ | ⟨g, off, cs, rfl, _, hb, ht⟩
  · simp at hj
  refine ⟨_, rfl, ?_⟩
  rw [add_none, cell_of_row w g _ _ T.e (0, 0) hb]
  rw [← ht, List.getElem?_take] at hj
  split at hj
  · rw [List.getElem?_drop] at hj; simpa using hj
  · cases hj

theorem OwnR.keep {l : List α} {row : Option Nat} (h : OwnR w B T v l) (hg : w.grownBy w' row) (hne : v.ownBlock = none ∨ v.ownBlock ≠ row) : OwnR w' B T v l := by
  obtain ⟨ao, cap, rfl, hc, hx⟩ := h
  refine ⟨ao, cap, rfl, hc, ?_⟩
  rcases hx with h0 | ⟨g, off, cs, rfl, hB, hb, ht⟩
  · exact .inl h0
  · exact .inr ⟨g, off, cs, rfl, hB, hb.keep hg (by simpa [Value.ownBlock] using hne), ht⟩
theorem OwnR.ext {l : List α} (h : OwnR w B T v l) (hg : Ext w w') : OwnR w' B T v l := h.keep hg (by cases v.ownBlock <;> simp)
theorem OwnR.low {l : List α} {B' : Nat} (h : OwnR w B T v l) (hB : B' ≤ B) : OwnR w B' T v l := by
  obtain ⟨ao, cap, rfl, hc, hx⟩ := h
  refine ⟨ao, cap, rfl, hc, ?_⟩
  rcases hx with h0 | ⟨g, off, cs, h1, h2, h3⟩
  · exact .inl h0
  · exact .inr ⟨g, off, cs, h1, Nat.le_trans hB h2, h3⟩
/-- The row's number. -/
theorem OwnR.lt {l : List α} (h : OwnR w B T v l) : ∀ k, v.ownBlock = some k → B ≤ k ∧ k < w.heap.size := by
  obtain ⟨ao, cap, rfl, hc, hx⟩ := h
  intro k hk
  rcases hx with ⟨rfl, _⟩ | ⟨g, off, cs, rfl, hB, hb, _⟩
  · simp [Value.ownBlock] at hk
  · simp [Value.ownBlock] at hk
    subst hk
    exact ⟨hB, hb.lt⟩

/-- What was made earlier does not share a row with what was made later. -/
theorem OwnR.sep {β : Type} {T' : ET β} {l : List α} {l' : List β} {B' : Nat} {v' : Value} {w2 : World} (h : OwnR w B T v l) (h' : OwnR w2 B' T' v' l') (hB : w.heap.size ≤ B') : Sep v v' :=
  Sep.of_new (fun k hk => (h.lt k hk).2) (fun k hk => Nat.le_trans hB (h'.lt k hk).1)

theorem splice_at (hT : T.Ok) (l : List α) (k : Nat) (x1 : α) (hk : k < l.length) : (l.set k x1).flatMap T.enc = (l.flatMap T.enc).take (k * T.sz) ++ T.enc x1 ++ (l.flatMap T.enc).drop (k * T.sz + T.sz) := by
  have h1 : (l.take k).length = k := by simp; omega
  have e2 : l.flatMap T.enc = (l.take k).flatMap T.enc ++ (T.enc l[k] ++ (l.drop (k + 1)).flatMap T.enc) := by
    rw [← List.flatMap_cons, ← List.flatMap_append]
    congr 1
    simp
  have hl : ((l.take k).flatMap T.enc).length = k * T.sz := by rw [hT.length, h1]
  rw [List.set_eq_take_append_cons_drop, if_pos hk, e2]
  rw [List.take_left' hl]
  have h3 : ((l.take k).flatMap T.enc ++ T.enc l[k]).length = k * T.sz + T.sz := by rw [List.length_append, hl, hT.len]
  rw [← List.append_assoc ((l.take k).flatMap T.enc) (T.enc l[k]), List.drop_left' h3, List.flatMap_append, List.flatMap_cons, List.append_assoc]

theorem splice_list (cs m nw : List Value) (off p q : Nat) (hn : nw.length = q) (hp : p + q ≤ m.length) (hm : (cs.drop off).take m.length = m) :
    ((cs.take (off + p) ++ nw ++ cs.drop (off + p + q)).drop off).take m.length = m.take p ++ nw ++ m.drop (p + q) := by
  have hlen := congrArg List.length hm
  rw [List.length_take, List.length_drop] at hlen
  have e : cs = cs.take off ++ (m ++ cs.drop (off + m.length)) := by
    conv => lhs; rw [← List.take_append_drop off cs, ← List.take_append_drop m.length (cs.drop off), hm, List.drop_drop]
  by_cases h0 : m.length = 0
  · have : m = [] := List.eq_nil_of_length_eq_zero h0
    subst this
    simp at hp
    obtain ⟨rfl, rfl⟩ := hp
    have : nw = [] := List.eq_nil_of_length_eq_zero hn
    subst this
    simp
  · have ho : off ≤ cs.length := by omega
    have ht : (cs.take off).length = off := by simp; omega
    generalize cs.take off = A at *
    generalize cs.drop (off + m.length) = D at *
    subst e
    have e1 : (A ++ (m ++ D)).take (off + p) = A ++ m.take p := by
      rw [List.take_append, ht]
      rw [List.take_of_length_le (by omega), show off + p - off = p by omega, List.take_append_of_le_length (by omega)]
    have e2 : (A ++ (m ++ D)).drop (off + p + q) = m.drop (p + q) ++ D := by
      rw [List.drop_append, ht, List.drop_eq_nil_of_le (by omega), show off + p + q - off = p + q by omega, List.drop_append_of_le_length (by omega)]
      simp
    rw [e1, e2]
    rw [List.append_assoc, List.append_assoc, List.drop_left' ht]
    rw [← List.append_assoc, ← List.append_assoc]
    exact List.take_left' (by simp [hn]; omega)

/-- What is stored at element k. -/
theorem ev_stE {l : List α} {k : Nat} (x1 : α) (hT : T.Ok) (h : OwnR w B T v l) (hk : k < l.length) (hsz : (Yabc.prog.info? t).map (fun i => i.size) = some T.sz) (hx : ev ρ x = .pointer (some ((base v).add (k * T.sz)))) (hy : (ev ρ y).cells = (T.enc x1).toArray)
    (kk : ∀ w', OwnR w' B T v (l.set k x1) → w.grownBy w' v.ownBlock → w'.heap.size = w.heap.size → (∀ g, v.ownBlock = some g → B ≤ g) → KV undef w') : EV ρ w (.store t x y) ty KV := by
  obtain ⟨ao, cap, rfl, hc, hx'⟩ := h
  rcases hx' with ⟨_, rfl⟩ | ⟨g, off, cs, rfl, hB, hb, ht⟩
  · simp at hk
  have hlen := hT.length l
  have hcl : off + l.length * T.sz ≤ cs.length := by
    have := congrArg List.length ht
    rw [hlen, List.length_take, List.length_drop] at this
    have h0 : 0 < l.length * T.sz := Nat.mul_pos (by omega) hT.pos
    omega
  have hks : k * T.sz + T.sz ≤ l.length * T.sz := by
    rw [← Nat.succ_mul]; exact Nat.mul_le_mul_right _ hk
  have e1 := hT.len x1
  refine ev_st (off := off + k * T.sz) (nw := T.enc x1) hb (by rw [e1]; exact hsz) (by rw [hx]; simp [base, add_none]) hy (by rw [e1]; omega) (hT.one x1) fun w' hb' hg hs => ?_
  refine kk w' ⟨some ⟨g, off, none⟩, cap, by simp, by simpa using hc, .inr ⟨g, off, _, rfl, hB, hb', ?_⟩⟩ hg hs (fun g' e => by simp [Value.ownBlock] at e; omega)
  rw [splice_at hT l k x1 hk, List.length_set]
  rw [e1]
  rw [← hlen] at ht ⊢
  exact splice_list cs _ _ off (k * T.sz) T.sz e1 (by rw [hlen]; exact hks) ht

end Go.Proofs.Ybuabw
