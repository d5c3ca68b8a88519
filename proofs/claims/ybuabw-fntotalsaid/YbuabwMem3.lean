/-
  MEMORY, third part: bytes to a string, cuts of slices, structs; closed facts off the program's table. Own work for the seat Ybuabw.
-/
import Derived.Test.YbuabwMem2
namespace Go.Proofs.Ybuabw
open Go.RowKit
set_option linter.unusedVariables false
set_option maxRecDepth 8000

variable {α : Type} {T : ET α} {w w' : World} {B : Nat} {v : Value} {ρ : Env} {ty t : TypeId} {x y s : Operand} {N : Nat} {ops : Array Oper} {rest : List Oper} {K : Env → World → Prop} {KV : Value → World → Prop}

theorem push_fold : ∀ (l : List UInt8) (acc : List UInt8), (l.map (fun c => (c.toNat : Int))).foldl (fun r n => r.push (UInt8.ofNat n.toNat)) (ByteArray.mk acc.toArray) = ByteArray.mk (acc ++ l).toArray
  | [], acc => by simp
  | c :: l, acc => by
    have e : (ByteArray.mk acc.toArray).push (UInt8.ofNat ((c.toNat : Int)).toNat) = ByteArray.mk (acc ++ [c]).toArray := by
      apply ByteArray.ext
      simp [ByteArray.push]
    simp only [List.map_cons, List.foldl_cons, e]
    rw [push_fold l (acc ++ [c])]
    simp

/-- string(b) -/
theorem pv_str {l : List UInt8} (hr : Rd w tB v l) (hx : ev ρ x = v) : PV ρ w (.convert 83 9 x) ty (S l) := by
  obtain ⟨ao, cap, rfl, hcap, hc⟩ := hr.form
  have key : (Conv.bytesToString (.slice ao l.length cap)).run Yabc.prog w = .ok (S l) w := by
    cases ao with
    | none =>
      have : l = [] := by
        cases l with
        | nil => rfl
        | cons c l => obtain ⟨a, ha, _⟩ := hc 0 (bt c) (by simp [tB]); cases ha
      subst this
      rfl
    | some a =>
      have hl : (loadCells a l.length).run Yabc.prog w = .ok ((l.map (fun c => (c.toNat : Int))).map (Value.int .u8)).toArray w := by
        have := run_loadCells (w := w) (a := a) (l.map bt) 0 #[] (fun j u hj => by
          rw [Nat.zero_add]
          obtain ⟨a', ha', h⟩ := hc j u (by rw [flat_bt]; exact hj)
          cases ha'
          exact h)
        simp only [List.length_map] at this
        unfold loadCells
        rw [this]
        simp [bt, Function.comp_def]
      rw [run_bytesToString w a l.length cap _ hl]
      have := push_fold l []
      have e0 : ByteArray.empty = ByteArray.mk ([] : List UInt8).toArray := rfl
      rw [e0, this]
      rfl
  unfold PV xo execOp
  simp only [hx]
  rw [Sem.run_bind, run_convert_bytes_string w 83 9 5 ao l.length cap Yabc.underlying83 Yabc.underlying5 Yabc.underlying9, key]
  rfl

/-- 'xs[:n]' -/
theorem pv_to {i : Int} {n sz : Nat} (hu : Yabc.prog.underlying t = some (.slice T.e)) (hs : (Yabc.prog.info? T.e).map (fun i => i.size) = some sz) {ao : Option Addr} {m c : Nat} (hx : ev ρ x = .slice ao m c) (hy : ev ρ y = iv i) (hi : i = n) (hn : n ≤ c) (hc : 0 < c) :
    PV ρ w (.slice t x none (some y) none) ty (.slice ao n c) := by
  obtain ⟨inf, hinf, hs⟩ := Option.map_eq_some_iff.1 hs
  subst hi
  have hc' : ¬ c = 0 := by omega
  have e : (Option.map (fun a : Addr => a.add 0) ao) = ao := by cases ao <;> simp [Addr.add]
  unfold PV xo execOp
  simp [hx, hy, iv, Instr.sliceAt, Instr.slice, run_underlying hu, Instr.sliceBounds, Instr.sliceBound, asIntOf, hn, sizeOf, typeInfo, hinf, hc', e]

/-- 'xs[n:]' -/
theorem pv_from {i : Int} {n sz : Nat} {e : TypeId} (hu : Yabc.prog.underlying t = some (.slice e)) (hs : (Yabc.prog.info? e).map (fun i => i.size) = some sz) {ao : Option Addr} {m c : Nat} (hx : ev ρ x = .slice ao m c) (hy : ev ρ y = iv i) (hi : i = n) (hn : n ≤ m) :
    PV ρ w (.slice t x (some y) none none) ty (.slice (if c = n then ao else ao.map (·.add (n * sz))) (m - n) (c - n)) := by
  obtain ⟨inf, hinf, hs⟩ := Option.map_eq_some_iff.1 hs
  subst hi
  unfold PV xo execOp
  simp [hx, hy, iv, Instr.sliceAt, Instr.slice, run_underlying hu, Instr.sliceBounds, Instr.sliceBound, asIntOf, hn, sizeOf, typeInfo, hinf, hs]

/-- 'xs[i:j]' -/
theorem pv_fromTo {i j : Int} {n k sz : Nat} {e : TypeId} {z : Operand} (hu : Yabc.prog.underlying t = some (.slice e)) (hs : (Yabc.prog.info? e).map (fun i => i.size) = some sz) {ao : Option Addr} {m c : Nat} (hx : ev ρ x = .slice ao m c) (hy : ev ρ y = iv i) (hz : ev ρ z = iv j) (hi : i = n) (hj : j = k) (hn : n ≤ k) (hk : k ≤ c) :
    PV ρ w (.slice t x (some y) (some z) none) ty (.slice (if c = n then ao else ao.map (·.add (n * sz))) (k - n) (c - n)) := by
  obtain ⟨inf, hinf, hs⟩ := Option.map_eq_some_iff.1 hs
  subst hi hj
  unfold PV xo execOp
  simp [hx, hy, hz, iv, Instr.sliceAt, Instr.slice, run_underlying hu, Instr.sliceBounds, Instr.sliceBound, asIntOf, hn, hk, sizeOf, typeInfo, hinf, hs]

/-- A struct is built. -/
theorem pv_bd {cs : List Value} {ps : List (Nat × Operand)} {vs : List (Nat × Value)} (hp : ps.map (fun p => (p.1, ev ρ p.2)) = vs) (hb : Yabc.prog.built t vs = some cs.toArray) : PV ρ w (.build t ps.toArray) ty (.agg cs.toArray) := by
  unfold PV xo execOp
  simp only [List.map_toArray]
  have e : (List.map (fun x : Nat × Operand => match x with | (i, x) => (i, ev ρ x)) ps) = vs := by rw [← hp]
  rw [e, Sem.run_bind, run_build w t vs.toArray cs.toArray (by simpa using hb)]
  rfl

theorem bd67 (a b : Int) (s : List UInt8) : Yabc.prog.built 67 [(0, iv a), (1, iv b), (2, S s)] = some [iv a, iv b, S s].toArray := by kernel_rfl
theorem bd30 (a b : Int) (s : List UInt8) : Yabc.prog.built 30 [(0, iv a), (1, iv b), (2, S s)] = some [iv a, iv b, S s].toArray := by kernel_rfl
theorem bd36 (a b : Int) (s : List UInt8) : Yabc.prog.built 36 [(0, iv a), (1, iv b), (2, S s)] = some [iv a, iv b, S s].toArray := by kernel_rfl
theorem bd55 (a b : Int) (s : List UInt8) : Yabc.prog.built 55 [(0, iv a), (1, iv b), (2, S s)] = some [iv a, iv b, S s].toArray := by kernel_rfl
theorem bd98 (a b : Int) (s : List UInt8) : Yabc.prog.built 98 [(0, iv a), (1, iv b), (2, S s)] = some [iv a, iv b, S s].toArray := by kernel_rfl
theorem bd99 (a b : Int) (s : List UInt8) : Yabc.prog.built 99 [(0, iv a), (1, iv b), (2, S s)] = some [iv a, iv b, S s].toArray := by kernel_rfl
theorem bd36a (a : Int) : Yabc.prog.built 36 [(0, iv a)] = some [iv a, iv 0, S []].toArray := by kernel_rfl
theorem bd36c (a : Int) (s : List UInt8) : Yabc.prog.built 36 [(0, iv a), (2, S s)] = some [iv a, iv 0, S s].toArray := by kernel_rfl
theorem bd30z : Yabc.prog.built 30 [] = some [iv 0, iv 0, S []].toArray := by kernel_rfl
theorem bd76 (r a b : Int) (s : List UInt8) : Yabc.prog.built 76 [(0, iv r), (1, iv a), (2, iv b), (3, S s)] = some [iv r, iv a, iv b, S s].toArray := by kernel_rfl
theorem bd100 (r a b : Int) (s : List UInt8) : Yabc.prog.built 100 [(0, iv r), (1, iv a), (2, iv b), (3, S s)] = some [iv r, iv a, iv b, S s].toArray := by kernel_rfl

theorem ag3 : aggB Yabc.prog 3 = some false := by kernel_rfl
theorem ag4 : aggB Yabc.prog 4 = some false := by kernel_rfl
theorem ag5 : aggB Yabc.prog 5 = some false := by kernel_rfl
theorem ag9 : aggB Yabc.prog 9 = some false := by kernel_rfl
theorem ag23 : aggB Yabc.prog 23 = some false := by kernel_rfl
theorem ag32 : aggB Yabc.prog 32 = some false := by kernel_rfl
theorem ag30 : aggB Yabc.prog 30 = some true := by kernel_rfl
theorem ag36 : aggB Yabc.prog 36 = some true := by kernel_rfl
theorem ag55 : aggB Yabc.prog 55 = some true := by kernel_rfl
theorem ag67 : aggB Yabc.prog 67 = some true := by kernel_rfl
theorem ag76 : aggB Yabc.prog 76 = some true := by kernel_rfl
theorem ag98 : aggB Yabc.prog 98 = some true := by kernel_rfl
theorem ag99 : aggB Yabc.prog 99 = some true := by kernel_rfl
theorem ag100 : aggB Yabc.prog 100 = some true := by kernel_rfl
theorem fb30_0 : fieldB Yabc.prog 30 0 = true := by kernel_rfl
theorem fb30_1 : fieldB Yabc.prog 30 1 = true := by kernel_rfl
theorem fb30_2 : fieldB Yabc.prog 30 2 = true := by kernel_rfl
theorem fb36_0 : fieldB Yabc.prog 36 0 = true := by kernel_rfl
theorem fb36_1 : fieldB Yabc.prog 36 1 = true := by kernel_rfl
theorem fb36_2 : fieldB Yabc.prog 36 2 = true := by kernel_rfl
theorem fb55_0 : fieldB Yabc.prog 55 0 = true := by kernel_rfl
theorem fb55_1 : fieldB Yabc.prog 55 1 = true := by kernel_rfl
theorem fb55_2 : fieldB Yabc.prog 55 2 = true := by kernel_rfl
theorem fb67_0 : fieldB Yabc.prog 67 0 = true := by kernel_rfl
theorem fb67_1 : fieldB Yabc.prog 67 1 = true := by kernel_rfl
theorem fb67_2 : fieldB Yabc.prog 67 2 = true := by kernel_rfl
theorem fb98_0 : fieldB Yabc.prog 98 0 = true := by kernel_rfl
theorem fb98_1 : fieldB Yabc.prog 98 1 = true := by kernel_rfl
theorem fb98_2 : fieldB Yabc.prog 98 2 = true := by kernel_rfl
theorem fb99_0 : fieldB Yabc.prog 99 0 = true := by kernel_rfl
theorem fb99_1 : fieldB Yabc.prog 99 1 = true := by kernel_rfl
theorem fb99_2 : fieldB Yabc.prog 99 2 = true := by kernel_rfl
theorem fb76_0 : fieldB Yabc.prog 76 0 = true := by kernel_rfl
theorem fb76_1 : fieldB Yabc.prog 76 1 = true := by kernel_rfl
theorem fb76_2 : fieldB Yabc.prog 76 2 = true := by kernel_rfl
theorem fb76_3 : fieldB Yabc.prog 76 3 = true := by kernel_rfl
theorem fb100_0 : fieldB Yabc.prog 100 0 = true := by kernel_rfl
theorem fb100_1 : fieldB Yabc.prog 100 1 = true := by kernel_rfl
theorem fb100_2 : fieldB Yabc.prog 100 2 = true := by kernel_rfl
theorem fb100_3 : fieldB Yabc.prog 100 3 = true := by kernel_rfl
theorem sz3 : (Yabc.prog.info? 3).map (fun i => i.size) = some 1 := by kernel_rfl
theorem sz4 : (Yabc.prog.info? 4).map (fun i => i.size) = some 1 := by kernel_rfl
theorem sz5 : (Yabc.prog.info? 5).map (fun i => i.size) = some 1 := by kernel_rfl
theorem sz9 : (Yabc.prog.info? 9).map (fun i => i.size) = some 1 := by kernel_rfl
theorem sz23 : (Yabc.prog.info? 23).map (fun i => i.size) = some 1 := by kernel_rfl
theorem sz32 : (Yabc.prog.info? 32).map (fun i => i.size) = some 1 := by kernel_rfl
theorem sz30 : (Yabc.prog.info? 30).map (fun i => i.size) = some 3 := by kernel_rfl
theorem sz36 : (Yabc.prog.info? 36).map (fun i => i.size) = some 3 := by kernel_rfl
theorem sz55 : (Yabc.prog.info? 55).map (fun i => i.size) = some 3 := by kernel_rfl
theorem sz67 : (Yabc.prog.info? 67).map (fun i => i.size) = some 3 := by kernel_rfl
theorem sz98 : (Yabc.prog.info? 98).map (fun i => i.size) = some 3 := by kernel_rfl
theorem sz99 : (Yabc.prog.info? 99).map (fun i => i.size) = some 3 := by kernel_rfl
theorem sz76 : (Yabc.prog.info? 76).map (fun i => i.size) = some 4 := by kernel_rfl
theorem sz100 : (Yabc.prog.info? 100).map (fun i => i.size) = some 4 := by kernel_rfl
theorem if30 : (Yabc.prog.info? 30).map (fun i => (i.zero, i.size, i.bytes)) = some (some zTri, 3, 32) := by kernel_rfl
theorem if36 : (Yabc.prog.info? 36).map (fun i => (i.zero, i.size, i.bytes)) = some (some zTri, 3, 32) := by kernel_rfl
theorem if55 : (Yabc.prog.info? 55).map (fun i => (i.zero, i.size, i.bytes)) = some (some zTri, 3, 32) := by kernel_rfl
theorem if67 : (Yabc.prog.info? 67).map (fun i => (i.zero, i.size, i.bytes)) = some (some zTri, 3, 32) := by kernel_rfl
theorem if76 : (Yabc.prog.info? 76).map (fun i => (i.zero, i.size, i.bytes)) = some (some zFrg, 4, 40) := by kernel_rfl
theorem cb15 : callB Yabc.prog 15 = true := by kernel_rfl
theorem cb16 : callB Yabc.prog 16 = true := by kernel_rfl
theorem cb17 : callB Yabc.prog 17 = true := by kernel_rfl
theorem cb18 : callB Yabc.prog 18 = true := by kernel_rfl
theorem cb19 : callB Yabc.prog 19 = true := by kernel_rfl
theorem cb20 : callB Yabc.prog 20 = true := by kernel_rfl
theorem cb21 : callB Yabc.prog 21 = true := by kernel_rfl
theorem cb22 : callB Yabc.prog 22 = true := by kernel_rfl
theorem cb23 : callB Yabc.prog 23 = true := by kernel_rfl
theorem cb24 : callB Yabc.prog 24 = true := by kernel_rfl
theorem cb25 : callB Yabc.prog 25 = true := by kernel_rfl
theorem cb26 : callB Yabc.prog 26 = true := by kernel_rfl
theorem cb27 : callB Yabc.prog 27 = true := by kernel_rfl
theorem cb28 : callB Yabc.prog 28 = true := by kernel_rfl
theorem cb29 : callB Yabc.prog 29 = true := by kernel_rfl
theorem cb30 : callB Yabc.prog 30 = true := by kernel_rfl
theorem cb31 : callB Yabc.prog 31 = true := by kernel_rfl
theorem cb32 : callB Yabc.prog 32 = true := by kernel_rfl
theorem cb33 : callB Yabc.prog 33 = true := by kernel_rfl
theorem cb34 : callB Yabc.prog 34 = true := by kernel_rfl
theorem cb35 : callB Yabc.prog 35 = true := by kernel_rfl
theorem cb36 : callB Yabc.prog 36 = true := by kernel_rfl
theorem cb37 : callB Yabc.prog 37 = true := by kernel_rfl
theorem cb38 : callB Yabc.prog 38 = true := by kernel_rfl
theorem cb39 : callB Yabc.prog 39 = true := by kernel_rfl
theorem cb40 : callB Yabc.prog 40 = true := by kernel_rfl
theorem cb41 : callB Yabc.prog 41 = true := by kernel_rfl
theorem cb42 : callB Yabc.prog 42 = true := by kernel_rfl
theorem cb43 : callB Yabc.prog 43 = true := by kernel_rfl
theorem cb44 : callB Yabc.prog 44 = true := by kernel_rfl
theorem cb45 : callB Yabc.prog 45 = true := by kernel_rfl
theorem cb46 : callB Yabc.prog 46 = true := by kernel_rfl
theorem cb47 : callB Yabc.prog 47 = true := by kernel_rfl
theorem cb48 : callB Yabc.prog 48 = true := by kernel_rfl
theorem cb49 : callB Yabc.prog 49 = true := by kernel_rfl
theorem cb50 : callB Yabc.prog 50 = true := by kernel_rfl
theorem cb51 : callB Yabc.prog 51 = true := by kernel_rfl
theorem cb52 : callB Yabc.prog 52 = true := by kernel_rfl
theorem cb53 : callB Yabc.prog 53 = true := by kernel_rfl
theorem cb54 : callB Yabc.prog 54 = true := by kernel_rfl
theorem cb55 : callB Yabc.prog 55 = true := by kernel_rfl
theorem cb56 : callB Yabc.prog 56 = true := by kernel_rfl
theorem cb57 : callB Yabc.prog 57 = true := by kernel_rfl
theorem cb58 : callB Yabc.prog 58 = true := by kernel_rfl
theorem cb59 : callB Yabc.prog 59 = true := by kernel_rfl
theorem cb60 : callB Yabc.prog 60 = true := by kernel_rfl
theorem cb61 : callB Yabc.prog 61 = true := by kernel_rfl
theorem cb62 : callB Yabc.prog 62 = true := by kernel_rfl
theorem cb63 : callB Yabc.prog 63 = true := by kernel_rfl
theorem cb64 : callB Yabc.prog 64 = true := by kernel_rfl
theorem cb65 : callB Yabc.prog 65 = true := by kernel_rfl
theorem cb66 : callB Yabc.prog 66 = true := by kernel_rfl
theorem cb67 : callB Yabc.prog 67 = true := by kernel_rfl
theorem cb68 : callB Yabc.prog 68 = true := by kernel_rfl
theorem cb69 : callB Yabc.prog 69 = true := by kernel_rfl
theorem cb70 : callB Yabc.prog 70 = true := by kernel_rfl
theorem cb71 : callB Yabc.prog 71 = true := by kernel_rfl
theorem cb72 : callB Yabc.prog 72 = true := by kernel_rfl
theorem cb73 : callB Yabc.prog 73 = true := by kernel_rfl
theorem cb74 : callB Yabc.prog 74 = true := by kernel_rfl
theorem cb75 : callB Yabc.prog 75 = true := by kernel_rfl
theorem cb76 : callB Yabc.prog 76 = true := by kernel_rfl
theorem cb77 : callB Yabc.prog 77 = true := by kernel_rfl
theorem cb78 : callB Yabc.prog 78 = true := by kernel_rfl
theorem cb79 : callB Yabc.prog 79 = true := by kernel_rfl
theorem cb80 : callB Yabc.prog 80 = true := by kernel_rfl
theorem cb81 : callB Yabc.prog 81 = true := by kernel_rfl
theorem cb82 : callB Yabc.prog 82 = true := by kernel_rfl
theorem cb83 : callB Yabc.prog 83 = true := by kernel_rfl
theorem cb84 : callB Yabc.prog 84 = true := by kernel_rfl
theorem cb85 : callB Yabc.prog 85 = true := by kernel_rfl
theorem cb86 : callB Yabc.prog 86 = true := by kernel_rfl
theorem cb87 : callB Yabc.prog 87 = true := by kernel_rfl
theorem cb88 : callB Yabc.prog 88 = true := by kernel_rfl
theorem cb89 : callB Yabc.prog 89 = true := by kernel_rfl
theorem cb90 : callB Yabc.prog 90 = true := by kernel_rfl
theorem cb91 : callB Yabc.prog 91 = true := by kernel_rfl
theorem cb92 : callB Yabc.prog 92 = true := by kernel_rfl
theorem cb93 : callB Yabc.prog 93 = true := by kernel_rfl
theorem cb94 : callB Yabc.prog 94 = true := by kernel_rfl
theorem cb95 : callB Yabc.prog 95 = true := by kernel_rfl
theorem cb96 : callB Yabc.prog 96 = true := by kernel_rfl
theorem cb97 : callB Yabc.prog 97 = true := by kernel_rfl
theorem cb98 : callB Yabc.prog 98 = true := by kernel_rfl
theorem cb99 : callB Yabc.prog 99 = true := by kernel_rfl
theorem cb100 : callB Yabc.prog 100 = true := by kernel_rfl
theorem cb101 : callB Yabc.prog 101 = true := by kernel_rfl

theorem ev_al3 {e : Nat} (hi : (Yabc.prog.info? e).map (fun i => (i.zero, i.size, i.bytes)) = some (some zTri, 3, 32)) (k : ∀ w', New w w' e [iv 0, iv 0, S []] → KV (.pointer (some ⟨w.heap.size, 0, none⟩)) w') : EV ρ w (.alloc e) ty KV := ev_alloc hi rfl k
theorem ev_al4 (k : ∀ w', New w w' 76 [iv 0, iv 0, iv 0, S []] → KV (.pointer (some ⟨w.heap.size, 0, none⟩)) w') : EV ρ w (.alloc 76) ty KV := ev_alloc if76 rfl k

/-- A struct variable of the call's own is written whole. -/
theorem ev_stB {b : Nat} {e : TypeId} {cs nw : List Value} (hb : Blk w b e cs) (hx : ev ρ x = .pointer (some ⟨b, 0, none⟩)) (hy : ev ρ y = .agg nw.toArray) (hsz : (Yabc.prog.info? t).map (fun i => i.size) = some nw.length)
    (hl : nw.length = cs.length) (h1 : ∀ u ∈ nw, u.oneCell' = true) (k : ∀ w', Blk w' b e nw → w.grownBy w' (some b) → w'.heap.size = w.heap.size → KV undef w') : EV ρ w (.store t x y) ty KV :=
  ev_st (off := 0) (nw := nw) hb hsz hx (by rw [hy]; rfl) (by omega) h1 fun w' h2 h3 h4 => k w' (by
    have e : cs.take 0 ++ nw ++ cs.drop (0 + nw.length) = nw := by simp [hl]
    rw [e] at h2; exact h2) h3 h4

/-- One result that lies in a struct variable. -/
theorem Fn.mkC {f : FuncId} {fn : Func} {c : Code} {r rt : Nat} {vs : List Value} {R : Value → World → Prop} (hf : Yabc.prog.funcs[f]? = some fn) (hb : fn.body = some c) (hn : fn.ntmps = N)
    (hr : fn.results = #[.cell r rt]) (ht : aggB Yabc.prog rt = some true) (hl : Nat.ble vs.length N = true)
    (h : SX N c (env0 vs) w (fun ρ w' => ∃ b e cs, ρ r = .pointer (some ⟨b, 0, none⟩) ∧ Blk w' b e cs ∧ (Yabc.prog.info? rt).map (fun i => i.size) = some cs.length ∧ R (.agg cs.toArray) w') (fun _ _ _ => False)
      (fun ρ w' => ∃ b e cs, ρ r = .pointer (some ⟨b, 0, none⟩) ∧ Blk w' b e cs ∧ (Yabc.prog.info? rt).map (fun i => i.size) = some cs.length ∧ R (.agg cs.toArray) w')) : Fn f vs w R := by
  have fin : ∀ a (w' : World) ρ, Fr N ρ a → (∃ b e cs, ρ r = .pointer (some ⟨b, 0, none⟩) ∧ Blk w' b e cs ∧ (Yabc.prog.info? rt).map (fun i => i.size) = some cs.length ∧ R (.agg cs.toArray) w') →
      a.defers = [] ∧ ∃ v, (results fn a.tmps).run Yabc.prog w' = .ok v w' ∧ ∃ v', Ending.returned v = .returned v' ∧ R v' w' := by
    intro a w' ρ hF ⟨b, e, cs, hp, hB, hs, hR⟩
    refine ⟨hF.defers, .agg cs.toArray, ?_, _, rfl, hR⟩
    obtain ⟨inf, hinf, hs⟩ := Option.map_eq_some_iff.1 hs
    have := hF.val r
    rw [hp] at this
    simp only [Array.getD_eq_getD_getElem?] at this
    have hld := run_loadCells (w := w') (a := ⟨b, 0, none⟩) cs 0 #[] (fun j u hj => by rw [Nat.zero_add]; exact hB.cell hj)
    simp [results, hr, this, asAddr, loadVar, run_isAgg ht, sizeOf, typeInfo, hinf, hs, loadCells, hld]
  refine calls_of_wp hf hb ?_
  rw [hn]
  refine wp_mono (h _ (fr_enter vs hl)) fun e a w' q => ?_
  cases e <;> simp only [post, bodyPost] at q ⊢
  · obtain ⟨ρ, hF, hR⟩ := q; exact fin a w' ρ hF hR
  · obtain ⟨ρ, hF, hR⟩ := q; exact hR
  · obtain ⟨ρ, hF, hR⟩ := q; exact fin a w' ρ hF hR

theorem Rd.cell0 {l : List α} (h : Rd w T v l) (hT : T.Ok) {k : Nat} (hk : k < l.length) {u : Value} (hu : (T.enc l[k])[0]? = some u) : w.cell? ((base v).add (k * T.sz)) = some u := by
  have := h.cellAt hT hk hu
  rwa [add_add, Nat.add_zero] at this

/-- A struct element, loaded whole. -/
theorem pv_ldE {l : List α} {k : Nat} (ht : aggB Yabc.prog t = some true) (hT : T.Ok) (hsz : (Yabc.prog.info? t).map (fun i => i.size) = some T.sz) (hr : Rd w T v l) (hk : k < l.length) (hx : ev ρ x = .pointer (some ((base v).add (k * T.sz)))) :
    PV ρ w (.load t x) ty (.agg (T.enc l[k]).toArray) :=
  pv_ldA (cs := T.enc l[k]) ht (by rw [hT.len]; exact hsz) hx (fun j u hj => hr.cellAt hT hk hj)

/-- A struct variable, loaded whole. -/
theorem pv_ldB {b : Nat} {e : TypeId} {cs : List Value} (ht : aggB Yabc.prog t = some true) (hb : Blk w b e cs) (hsz : (Yabc.prog.info? t).map (fun i => i.size) = some cs.length) (hx : ev ρ x = .pointer (some ⟨b, 0, none⟩)) :
    PV ρ w (.load t x) ty (.agg cs.toArray) :=
  pv_ldA (cs := cs) ht hsz hx (fun j u hj => hb.cell hj)

/-- A slice of the call's own, cut at its end. -/
theorem Own.cut {l : List α} {ao : Option Addr} {n c k : Nat} (hT : T.Ok) (h : Own w B T (.slice ao n c) l) (hk : k ≤ l.length) (hp : 0 < l.length) : Own w B T (.slice ao k c) (l.take k) := by
  rcases h.2 with ⟨hv, h0⟩ | ⟨g, cap, cur, hv, hb, hg, hn, hm, hs, ht⟩
  · omega
  · cases hv
    have e : (l.take k).length = k := by simp; omega
    refine ⟨hT.length _, .inr ⟨g, c, cur, by rw [e], hb, hg, by omega, hm, hs, ?_⟩⟩
    rw [e]
    have h1 : (l.take k).flatMap T.enc = (l.flatMap T.enc).take (k * T.sz) := by
      have h2 : ((l.take k).flatMap T.enc).length = k * T.sz := by rw [hT.length, e]
      have h3 : l.flatMap T.enc = (l.take k).flatMap T.enc ++ (l.drop k).flatMap T.enc := by rw [← List.flatMap_append, List.take_append_drop]
      rw [h3, List.take_left' h2]
    rw [h1, ← ht, List.take_take]
    congr 1
    have := Nat.mul_le_mul_right T.sz hk
    omega

theorem Own.form {l : List α} (h : Own w B T v l) : ∃ ao c, v = .slice ao l.length c ∧ l.length ≤ c ∧ (l ≠ [] → 0 < c) := by
  rcases h.2 with ⟨rfl, h0⟩ | ⟨g, cap, cur, rfl, _, _, hn, _⟩
  · exact ⟨none, 0, by rw [h0], by omega, fun hl => absurd (List.eq_nil_of_length_eq_zero h0) hl⟩
  · exact ⟨_, cap, rfl, hn, fun hl => by have := List.length_pos_iff.2 hl; omega⟩

theorem pv_neqE {a : Int} (hx : ev ρ x = iv a) (hy : ev ρ y = iv a) : PV ρ w (.binOp .neq 3 x y 3) ty (.bool false) := by
  have := pv_neq (w := w) (ty := ty) hx hy
  simpa using this
theorem pv_neqSE {a : List UInt8} (hx : ev ρ x = S a) (hy : ev ρ y = S a) : PV ρ w (.binOp .neq 9 x y 9) ty (.bool false) := by
  have := pv_neqS (w := w) (ty := ty) hx hy
  simpa using this
theorem pv_pkF {c : Operand} (hc : ev ρ c = .bool false) : PV ρ w (.pick c x y) ty (ev ρ y) := by
  unfold PV xo execOp
  simp [hc, asBool]
theorem pv_pkT {c : Operand} (hc : ev ρ c = .bool true) : PV ρ w (.pick c x y) ty (ev ρ x) := by
  unfold PV xo execOp
  simp [hc, asBool]

theorem Sep.nil_left (u : Value) : Sep (.slice none 0 0) u := .inl rfl
theorem Sep.nil_right (u : Value) : Sep u (.slice none 0 0) := by
  unfold Sep
  cases h : u.ownBlock with
  | none => exact .inl rfl
  | some k => exact .inr (by simp [Value.ownBlock])

theorem Gw.refl (w : World) (v : Value) : Gw w w v v := ⟨grow_refl w _, .inl rfl⟩
theorem Gw.step {w0 : World} {v' : Value} (h : Gw w w' v v') (hx : Ext w0 w) (hv : ∀ k, v.ownBlock = some k → w0.heap.size ≤ k) : Ext w0 w' := hx.step h.grown hv

/-- Two slices of the call's own, in rows apart. -/
structure Two {α β : Type} (w0 w : World) (T1 : ET α) (v1 : Value) (l1 : List α) (T2 : ET β) (v2 : Value) (l2 : List β) : Prop where
  ext : Ext w0 w
  o1 : Own w w0.heap.size T1 v1 l1
  o2 : Own w w0.heap.size T2 v2 l2
  s1 : Sep v1 v2
  s2 : Sep v2 v1

section
variable {β : Type} {w0 : World} {T1 : ET α} {v1 v1' : Value} {l1 l1' : List α} {T2 : ET β} {v2 v2' : Value} {l2 l2' : List β}

theorem Two.start (w : World) (T1 : ET α) (T2 : ET β) : Two w w T1 (.slice none 0 0) [] T2 (.slice none 0 0) [] :=
  ⟨Ext.refl w, Own.nil _ _ _, Own.nil _ _ _, Sep.nil_left _, Sep.nil_left _⟩

theorem Two.push1 (h : Two w0 w T1 v1 l1 T2 v2 l2) (g : Gw w w' v1 v1') (o : Own w' w0.heap.size T1 v1' l1') : Two w0 w' T1 v1' l1' T2 v2 l2 :=
  ⟨g.step h.ext (fun k hk => (h.o1.lt k hk).1), o, h.o2.keep g.grown h.s2, g.sep' h.s1 (fun k hk => (h.o2.lt k hk).2), g.sep h.s2 (fun k hk => (h.o2.lt k hk).2)⟩

theorem Two.push2 (h : Two w0 w T1 v1 l1 T2 v2 l2) (g : Gw w w' v2 v2') (o : Own w' w0.heap.size T2 v2' l2') : Two w0 w' T1 v1 l1 T2 v2' l2' :=
  ⟨g.step h.ext (fun k hk => (h.o2.lt k hk).1), h.o1.keep g.grown h.s1, o, g.sep h.s1 (fun k hk => (h.o1.lt k hk).2), g.sep' h.s2 (fun k hk => (h.o1.lt k hk).2)⟩

theorem Two.nil2 (h : Two w0 w T1 v1 l1 T2 v2 l2) : Two w0 w T1 v1 l1 T2 (.slice none 0 0) [] :=
  ⟨h.ext, h.o1, Own.nil _ _ _, Sep.nil_right _, Sep.nil_left _⟩

theorem Two.nil1 (h : Two w0 w T1 v1 l1 T2 v2 l2) : Two w0 w T1 (.slice none 0 0) [] T2 v2 l2 :=
  ⟨h.ext, Own.nil _ _ _, h.o2, Sep.nil_left _, Sep.nil_right _⟩

theorem Two.more (h : Two w0 w T1 v1 l1 T2 v2 l2) (hx : Ext w w') : Two w0 w' T1 v1 l1 T2 v2 l2 :=
  ⟨h.ext.trans hx, h.o1.ext hx, h.o2.ext hx, h.s1, h.s2⟩

/-- The second is made anew by a callee. -/
theorem Two.new2 (h : Two w0 w T1 v1 l1 T2 v2 l2) (hx : Ext w w') (o : Own w' w.heap.size T2 v2' l2') : Two w0 w' T1 v1 l1 T2 v2' l2' :=
  ⟨h.ext.trans hx, h.o1.ext hx, o.low h.ext.size, Sep.of_new (fun k hk => (h.o1.lt k hk).2) (fun k hk => (o.lt k hk).1),
    by unfold Sep; cases e : v2'.ownBlock with
      | none => exact .inl rfl
      | some k => exact .inr (fun e2 => by have h1 := (o.lt k e).1; have h2 := (h.o1.lt k e2.symm).2; omega)⟩

theorem Two.swap (h : Two w0 w T1 v1 l1 T2 v2 l2) : Two w0 w T2 v2 l2 T1 v1 l1 := ⟨h.ext, h.o2, h.o1, h.s2, h.s1⟩
end

/-- A slice of the call's own beside a struct variable. -/
structure Bx {α : Type} (w0 w : World) (T : ET α) (v : Value) (l : List α) (b : Nat) (e : TypeId) (cs : List Value) : Prop where
  ext : Ext w0 w
  own : Own w w0.heap.size T v l
  blk : Blk w b e cs
  ne : some b ≠ v.ownBlock

theorem Bx.push {α : Type} {w0 w w' : World} {T : ET α} {v v' : Value} {l l' : List α} {b : Nat} {e : TypeId} {cs : List Value} (h : Bx w0 w T v l b e cs) (g : Gw w w' v v') (o : Own w' w0.heap.size T v' l') : Bx w0 w' T v' l' b e cs :=
  ⟨g.step h.ext (fun k hk => (h.own.lt k hk).1), o, h.blk.keep g.grown h.ne, by
    rcases g.own with e1 | ⟨b', e1, hb⟩
    · rw [e1]; exact h.ne
    · rw [e1]; intro e2; have := Option.some.inj e2; have := h.blk.lt; omega⟩

theorem Bx.make {α : Type} {w0 w2 w3 w4 : World} {T : ET α} {v : Value} {l : List α} {e : TypeId} {cs0 cs : List Value} (hx : Ext w0 w2) (ho : Own w2 w0.heap.size T v l) (hn : New w2 w3 e cs0) (hb : Blk w4 w2.heap.size e cs) (hg : w3.grownBy w4 (some w2.heap.size)) :
    Bx w0 w4 T v l w2.heap.size e cs := by
  have hne : v.ownBlock = none ∨ v.ownBlock ≠ some w2.heap.size := by
    cases h : v.ownBlock with
    | none => exact .inl rfl
    | some k => exact .inr (fun e => by have := (ho.lt k h).2; have := Option.some.inj e; omega)
  exact ⟨(hx.trans hn.ext).step hg (fun g e => by have := Option.some.inj e; have := hx.size; omega), (ho.ext hn.ext).keep hg hne, hb, fun e => by
    rcases hne with h | h
    · rw [h] at e; cases e
    · exact h e.symm⟩

theorem Bx.more {α : Type} {w0 w w' : World} {T : ET α} {v : Value} {l : List α} {b : Nat} {e : TypeId} {cs : List Value} (h : Bx w0 w T v l b e cs) (hx : Ext w w') : Bx w0 w' T v l b e cs :=
  ⟨h.ext.trans hx, h.own.ext hx, h.blk.ext hx, h.ne⟩

/-- An empty slice literal. -/
theorem ev_bs0 {e sz bytes : Nat} {z : Value} (E : SlOk t e sz bytes z) (k : ∀ v w', (∃ b, v = .slice (some ⟨b, 0, none⟩) 0 0) → Ext w w' → KV v w') : EV ρ w (.buildSlice t 0 #[]) ty KV := by
  obtain ⟨i, hi, hz0, hs, hb⟩ := info_parts E.i
  refine EV.of_run (w' := w.alloc (.cells #[] e)) (v := .slice (some ⟨w.heap.size, 0, none⟩) 0 0) ?_ (k _ _ ⟨_, rfl⟩ (World.grownBy_alloc w _ none))
  unfold xo execOp Instr.buildSlice
  simp [run_underlying E.u, sizeOf, typeInfo, hi, Instr.fill, newRow, Array.range_zero']

theorem Rd.empty {ao : Option Addr} : Rd w T (.slice ao 0 0) ([] : List α) := ⟨ao, 0, rfl, Nat.le_refl _, fun j u hj => by simp at hj⟩

end Go.Proofs.Ybuabw
