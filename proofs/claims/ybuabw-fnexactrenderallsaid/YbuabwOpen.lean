/-
  FROM THE ROW's READING OF A SLICE OF STRUCTS TO OUR OWN WORDS FOR IT. Own work for the seat Ybuabw.
-/
import Derived.Test.YbuabwMem3
import Derived.ProofKit
import Derived.SizedLaws
import Derived.Deep.Slices
import Derived.Deep.Strs
namespace Go.Proofs.Ybuabw
open Go.RowKit Go.Deep
set_option linter.unusedVariables false
set_option linter.unusedSimpArgs false
set_option maxRecDepth 20000

theorem ce3 : Yabc.prog.cellsOf 3 = 1 := by kernel_rfl
theorem ce9 : Yabc.prog.cellsOf 9 = 1 := by kernel_rfl
theorem ce67 : Yabc.prog.cellsOf 67 = 3 := by kernel_rfl
theorem ce30 : Yabc.prog.cellsOf 30 = 3 := by kernel_rfl
theorem ce76 : Yabc.prog.cellsOf 76 = 4 := by kernel_rfl
theorem by67 : Yabc.prog.bytesOf 67 = 32 := by kernel_rfl
theorem by30 : Yabc.prog.bytesOf 30 = 32 := by kernel_rfl
theorem by76 : Yabc.prog.bytesOf 76 = 40 := by kernel_rfl

section
variable {H : Type} {enc : TypeId × Value → H} {w : World} {bs : Nat} {spare : Nat → Bool} {held : Bool} {fuel : Nat} {cs : List Value} {x : DataW H × List MemPlace}

def triD (H : Type) (p : Tri) : DataW H := .agg [.lit (.int .i64 p.a), .lit (.int .i64 p.b), .lit (.string p.s)]
def frgD (H : Type) (p : Frg) : DataW H := .agg [.lit (.int .i64 p.br), .lit (.int .i64 p.k), .lit (.int .i64 p.st), .lit (.string p.s)]

theorem open_tri_aux {fs : Array Field} {t : TypeId} (hu : Yabc.prog.underlying t = some (.struct fs)) (hc : Yabc.prog.cellsOf t = 3) (hf : fs.toList.map (fun f => (f.type, f.offset)) = [(3, 0), (3, 1), (9, 2)])
    (h : DataW.trod enc Yabc.prog w bs spare held fuel t cs = some x) : ∃ p : Tri, cs = encT p ∧ x.1 = triD H p := by
  obtain ⟨xs, n, _, rfl, hl, hlen, hx⟩ := DataW.trod_struct hu h
  rw [hc] at hl
  have hsz : fs.size = 3 := by have := congrArg List.length hf; simpa using this
  have hfi : ∀ (i : Nat) (q : Nat × Nat), [(3, 0), (3, 1), (9, 2)][i]? = some q → ∃ f, fs[i]? = some f ∧ f.type = q.1 ∧ f.offset = q.2 := by
    intro i q hq
    rw [← hf, List.getElem?_map, Option.map_eq_some_iff] at hq
    obtain ⟨f, h1, h2⟩ := hq
    exact ⟨f, by simpa using h1, by rw [← h2], by rw [← h2]⟩
  obtain ⟨f0, e0, t0, o0⟩ := hfi 0 (3, 0) rfl
  obtain ⟨f1, e1, t1, o1⟩ := hfi 1 (3, 1) rfl
  obtain ⟨f2, e2, t2, o2⟩ := hfi 2 (9, 2) rfl
  have g0 := hx 0 f0 e0
  have g1 := hx 1 f1 e1
  have g2 := hx 2 f2 e2
  rw [t0, o0] at g0
  rw [t1, o1] at g1
  rw [t2, o2] at g2
  simp only [ce3, ce9] at g0 g1 g2
  rw [hsz] at hlen
  match cs, hl, xs, hlen with
  | [c0, c1, c2], _, [y0, y1, y2], _ =>
    simp only [List.drop_zero, List.drop_succ_cons, List.take_succ_cons, List.take_zero, List.getElem?_cons_zero, List.getElem?_cons_succ] at g0 g1 g2
    obtain ⟨a, ha, hya, _⟩ := DataW.trod_int Yabc.underlying3 g0
    obtain ⟨b, hb, hyb, _⟩ := DataW.trod_int Yabc.underlying3 g1
    obtain ⟨s, hs, hys, _⟩ := DataW.trod_string Yabc.underlying9 g2
    refine ⟨⟨a, b, s.data.toList⟩, ?_, ?_⟩
    · simp only [List.cons.injEq, and_true] at ha hb hs
      simp [encT, iv, S, ha, hb, hs]
    · simp [triD, hya, hyb, hys]

theorem open_frg_aux {fs : Array Field} {t : TypeId} (hu : Yabc.prog.underlying t = some (.struct fs)) (hc : Yabc.prog.cellsOf t = 4) (hf : fs.toList.map (fun f => (f.type, f.offset)) = [(3, 0), (3, 1), (3, 2), (9, 3)])
    (h : DataW.trod enc Yabc.prog w bs spare held fuel t cs = some x) : ∃ p : Frg, cs = encF p ∧ x.1 = frgD H p := by
  obtain ⟨xs, n, _, rfl, hl, hlen, hx⟩ := DataW.trod_struct hu h
  rw [hc] at hl
  have hsz : fs.size = 4 := by have := congrArg List.length hf; simpa using this
  have hfi : ∀ (i : Nat) (q : Nat × Nat), [(3, 0), (3, 1), (3, 2), (9, 3)][i]? = some q → ∃ f, fs[i]? = some f ∧ f.type = q.1 ∧ f.offset = q.2 := by
    intro i q hq
    rw [← hf, List.getElem?_map, Option.map_eq_some_iff] at hq
    obtain ⟨f, h1, h2⟩ := hq
    exact ⟨f, by simpa using h1, by rw [← h2], by rw [← h2]⟩
  obtain ⟨f0, e0, t0, o0⟩ := hfi 0 (3, 0) rfl
  obtain ⟨f1, e1, t1, o1⟩ := hfi 1 (3, 1) rfl
  obtain ⟨f2, e2, t2, o2⟩ := hfi 2 (3, 2) rfl
  obtain ⟨f3, e3, t3, o3⟩ := hfi 3 (9, 3) rfl
  have g0 := hx 0 f0 e0
  have g1 := hx 1 f1 e1
  have g2 := hx 2 f2 e2
  have g3 := hx 3 f3 e3
  rw [t0, o0] at g0
  rw [t1, o1] at g1
  rw [t2, o2] at g2
  rw [t3, o3] at g3
  simp only [ce3, ce9] at g0 g1 g2 g3
  rw [hsz] at hlen
  match cs, hl, xs, hlen with
  | [c0, c1, c2, c3], _, [y0, y1, y2, y3], _ =>
    simp only [List.drop_zero, List.drop_succ_cons, List.take_succ_cons, List.take_zero, List.getElem?_cons_zero, List.getElem?_cons_succ] at g0 g1 g2 g3
    obtain ⟨r, hr, hyr, _⟩ := DataW.trod_int Yabc.underlying3 g0
    obtain ⟨a, ha, hya, _⟩ := DataW.trod_int Yabc.underlying3 g1
    obtain ⟨b, hb, hyb, _⟩ := DataW.trod_int Yabc.underlying3 g2
    obtain ⟨s, hs, hys, _⟩ := DataW.trod_string Yabc.underlying9 g3
    refine ⟨⟨r, a, b, s.data.toList⟩, ?_, ?_⟩
    · simp only [List.cons.injEq, and_true] at hr ha hb hs
      simp [encF, iv, S, hr, ha, hb, hs]
    · simp [frgD, hyr, hya, hyb, hys]

/-- A slice of structs that came in. -/
theorem open_sl {α : Type} {T : ET α} (hT : T.Ok) (hin : Inhabited α) {t : TypeId} (hu : Yabc.prog.underlying t = some (.slice T.e)) (hc : Yabc.prog.cellsOf T.e = T.sz) (D : α → DataW H)
    (hop : ∀ {fuel : Nat} {cs : List Value} {x : DataW H × List MemPlace}, DataW.trod enc Yabc.prog w bs (fun _ => true) held fuel T.e cs = some x → ∃ p, cs = T.enc p ∧ x.1 = D p)
    {a0 : Option Addr} {n0 c0 : Nat} (h : DataW.trod enc Yabc.prog w bs (fun _ => true) held fuel t (Value.slice a0 n0 c0).cells.toList = some x) :
    ∃ l : List α, Rd w T (.slice a0 n0 c0) l ∧ ((x.1 = .nil ∧ l = []) ∨ ∃ sp, x.1 = .slice (l.map D) sp) := by
  rcases open_slice hu h with ⟨hv, hx⟩ | ⟨a, len, cap, m, n, Dd, Pl, hv, hb, hl, hm, hmm, rfl, hxs⟩
  · simp [Value.cells] at hv
    obtain ⟨rfl, rfl, rfl⟩ := hv
    exact ⟨[], Rd.empty, .inl ⟨by rw [hx], rfl⟩⟩
  · simp [Value.cells] at hv
    obtain ⟨rfl, rfl, rfl⟩ := hv
    simp only [if_true] at hmm
    subst hmm
    obtain ⟨p, hp⟩ := choose_lt (α := α) (n := m) (p := fun i q => w.cells? bs (a.add (i * Yabc.prog.cellsOf T.e)) (Yabc.prog.cellsOf T.e) = some (T.enc q) ∧ Dd i = D q) (fun i hi => by
      obtain ⟨cs', h1, h2⟩ := hxs i hi
      obtain ⟨q, rfl, hq⟩ := hop h2
      exact ⟨q, h1, hq⟩)
    refine ⟨(List.range n0).map p, ⟨some a, m, by simp, by simpa using hl, fun j u hj => ⟨a, rfl, ?_⟩⟩, .inr ⟨(List.range (m - n0)).map fun j => Dd (n0 + j), ?_⟩⟩
    · have hjl : j < n0 * T.sz := by
        have := (List.getElem?_eq_some_iff.1 hj).1
        rw [hT.length] at this
        simpa using this
      have hk : j / T.sz < n0 := Nat.div_lt_of_lt_mul (by rw [Nat.mul_comm]; exact hjl)
      have ho : j % T.sz < T.sz := Nat.mod_lt _ hT.pos
      have hat := hT.at ((List.range n0).map p) (j / T.sz) (j % T.sz) (by simpa using hk) ho
      rw [Nat.mul_comm, Nat.div_add_mod] at hat
      rw [hat] at hj
      simp only [List.getElem_map, List.getElem_range] at hj
      obtain ⟨h1, _⟩ := hp (j / T.sz) (by omega)
      obtain ⟨_, _, hcell⟩ := World.cells?_some h1
      have := hcell (j % T.sz) (by rw [hc]; exact ho)
      rw [hj, hc, add_add] at this
      rw [← this]
      congr 2
      rw [Nat.mul_comm, Nat.div_add_mod]
    · simp only [List.map_map]
      have : (List.range n0).map Dd = (List.range n0).map (D ∘ p) := List.map_congr_left fun i hi => (hp i (by have := List.mem_range.1 hi; omega)).2
      rw [this]

/-- The reach, at a slice of structs with a string last. -/
theorem reach_sl {α : Type} {D : α → DataW H} {sOf : α → List UInt8} {t e : TypeId} {b : Nat} (hu : Yabc.prog.underlying t = some (.slice e)) (hb : Yabc.prog.bytesOf e = b)
    (hw : ∀ p, (sOf p).length ∈ (D p).weights Yabc.prog e) {ts : List TypeId} {ds : List (DataW H)} (hsz : (DataW.weightsEach Yabc.prog ts ds).all (· ≤ reachBytes) = true) {l : List α} {sp : List (DataW H)}
    (ht : ts[0]? = some t) (hd : ds[0]? = some (.slice (l.map D) sp)) : l.length * b ≤ 140737488351232 ∧ ∀ p ∈ l, (sOf p).length ≤ 140737488355328 := by
  constructor
  · have := sized_slice hsz (j := 0) (t := t) (e := e) ht hd hu
    rw [hb] at this
    simp only [List.length_map, reachBytes] at this
    have h2 := Nat.mul_le_mul_right b (Nat.le_add_right l.length sp.length)
    omega
  · intro p hp
    have hmem : (sOf p).length ∈ DataW.weightsEach Yabc.prog ts ds := by
      refine DataW.weights_mem_each (j := 0) ht hd _ ?_
      simp only [DataW.weights, hu, List.mem_cons, List.mem_append]
      right; left
      have : ∀ (l : List α), p ∈ l → (sOf p).length ∈ DataW.weightsAll Yabc.prog e (l.map D) := by
        intro l hl
        induction l with
        | nil => cases hl
        | cons q l ih =>
          simp only [List.map_cons, DataW.weightsAll, List.mem_append]
          rcases List.mem_cons.1 hl with rfl | h
          · exact .inl (hw p)
          · exact .inr (ih h)
      exact this l hp
    have h3 : (sOf p).length ≤ reachBytes := by simpa using List.all_eq_true.1 hsz _ hmem
    unfold reachBytes at h3
    omega

theorem w67 (p : Tri) : p.s.length ∈ (triD H p).weights Yabc.prog 67 := by
  simp [triD, DataW.weights, Yabc.underlying67, DataW.weightsEach]
theorem w30 (p : Tri) : p.s.length ∈ (triD H p).weights Yabc.prog 30 := by
  simp [triD, DataW.weights, Yabc.underlying30, DataW.weightsEach]
theorem w76 (p : Frg) : p.s.length ∈ (frgD H p).weights Yabc.prog 76 := by
  simp [frgD, DataW.weights, Yabc.underlying76, DataW.weightsEach]
end

theorem laid : laidOutB Yabc.prog = true := by kernel_rfl
theorem ownK : ownKnob Yabc.prog.godebug = none := by kernel_rfl

end Go.Proofs.Ybuabw
