/-
  THE ENGINE: frames as functions, structured code walked by rules. Own work for the seat Ybuabw; it rests on the kit's Code.wp, wpList, wpAny.
-/
import Derived.Test.YbuabwProg
import Derived.Tactics
import Derived.Orders
import Derived.Below
import Derived.KernelRfl
namespace Go.Proofs.Ybuabw
open Go.RowKit
set_option linter.unusedVariables false

abbrev Env := Nat → Value

def upd (ρ : Env) (d : Nat) (v : Value) : Env := fun n => bif Nat.beq n d then v else ρ n

def upds (ρ : Env) : List (Nat × Value) → Env
  | [] => ρ
  | (d, v) :: l => upd (upds ρ l) d v

def mix (lo hi : Nat) (J ρ : Env) : Env := fun n => bif Nat.ble lo n && Nat.blt n hi then J n else ρ n

def Has (ρ : Env) : List (Nat × Value) → Prop
  | [] => True
  | (d, v) :: l => ρ d = v ∧ Has ρ l

def ev (ρ : Env) : Operand → Value
  | .tmp t => ρ t
  | .const v => v
  | .global g => .pointer (some ⟨g, 0, none⟩)
  | .func f => .func (.func f) #[] #[]

theorem upds_has {ρ : Env} : ∀ {l : List (Nat × Value)}, Has ρ l → upds ρ l = ρ
  | [], _ => rfl
  | (d, v) :: l, h => by
    funext n
    simp only [upds, upd]
    by_cases e : n = d
    · subst e; simp [h.1]
    · have : Nat.beq n d = false := by rw [← Bool.not_eq_true, Nat.beq_eq]; exact e
      simp [this, upds_has h.2]

structure Fr (N : Nat) (ρ : Env) (a : Act) : Prop where
  defers : a.defers = []
  size : a.tmps.size = N
  val : ∀ i, a.tmps.getD i undef = ρ i

variable {N : Nat} {ρ : Env} {a : Act} {w : World}

theorem Fr.eval (h : Fr N ρ a) : a.eval = ev ρ := by
  funext x
  cases x <;> simp [Act.eval, ev]
  simpa using h.val _

theorem Fr.put (h : Fr N ρ a) {d : Nat} (hd : Nat.blt d N = true) (v : Value) : Fr N (upd ρ d v) (a.put (some d) v) := by
  have hd' : d < a.tmps.size := by rw [h.size]; simpa [Nat.blt_eq] using hd
  refine ⟨h.defers, by simp [Act.put, h.size], fun i => ?_⟩
  by_cases e : i = d
  · subst e; simp [Act.put, upd, hd']
  · have h1 : Nat.beq i d = false := by rw [← Bool.not_eq_true, Nat.beq_eq]; exact e
    have h2 : d ≠ i := fun x => e x.symm
    have := h.val i
    simp [Act.put, upd, h1, Array.getElem?_setIfInBounds_ne h2]
    simpa using this

/-- The frame as a function of its slots, at every frame. -/
def frOf (a : Act) : Env := fun i => a.tmps.getD i undef
theorem fr_of (a : Act) (h : a.defers = []) : Fr a.tmps.size (frOf a) a := ⟨h, rfl, fun _ => rfl⟩

def post (N : Nat) (K : Env → World → Prop) (X : Nat → Env → World → Prop) (R : Env → World → Prop) : Exit → Act → World → Prop
  | .normal, a, w => ∃ ρ, Fr N ρ a ∧ K ρ w
  | .exit i, a, w => ∃ ρ, Fr N ρ a ∧ X i ρ w
  | .ret, a, w => ∃ ρ, Fr N ρ a ∧ R ρ w
  | _, _, _ => False

def SX (N : Nat) (c : Code) (ρ : Env) (w : World) (K : Env → World → Prop) (X : Nat → Env → World → Prop) (R : Env → World → Prop) : Prop :=
  ∀ a, Fr N ρ a → c.wp Yabc.prog (post N K X R) a w

variable {K : Env → World → Prop} {X : Nat → Env → World → Prop} {R : Env → World → Prop}

theorem SX.skip (h : K ρ w) : SX N .skip ρ w K X R := fun _ ha => wp_skip ⟨ρ, ha, h⟩

theorem SX.ret (h : R ρ w) : SX N .ret ρ w K X R := fun _ ha => wp_ret ⟨ρ, ha, h⟩

theorem SX.exit {i : Nat} (h : X i ρ w) : SX N (.exit i) ρ w K X R := fun _ ha => wp_exit ⟨ρ, ha, h⟩

/-- The exits of a block. -/
def xb (id : Nat) (K : Env → World → Prop) (X : Nat → Env → World → Prop) : Nat → Env → World → Prop := fun i => bif Nat.beq i id then K else X i

theorem xb_here {i : Nat} (h : K ρ w) : xb i K X i ρ w := by simpa [xb] using h

theorem xb_on {i id : Nat} (hne : Nat.beq i id = false) (h : X i ρ w) : xb id K X i ρ w := by simpa [xb, hne] using h

theorem SX.mono {c : Code} {K' : Env → World → Prop} {X' : Nat → Env → World → Prop} {R' : Env → World → Prop} (h : SX N c ρ w K X R)
    (hK : ∀ ρ w, K ρ w → K' ρ w) (hX : ∀ i ρ w, X i ρ w → X' i ρ w) (hR : ∀ ρ w, R ρ w → R' ρ w) : SX N c ρ w K' X' R' :=
  fun a ha => wp_mono (h a ha) fun e a w q => by
    cases e <;> simp only [post] at q ⊢
    · obtain ⟨ρ, h1, h2⟩ := q; exact ⟨ρ, h1, hK _ _ h2⟩
    · obtain ⟨ρ, h1, h2⟩ := q; exact ⟨ρ, h1, hX _ _ _ h2⟩
    · obtain ⟨ρ, h1, h2⟩ := q; exact ⟨ρ, h1, hR _ _ h2⟩

theorem SX.seq {x y : Code} (h : SX N x ρ w (fun ρ' w' => SX N y ρ' w' K X R) X R) : SX N (.seq x y) ρ w K X R :=
  fun a ha => wp_seq (wp_mono (h a ha) fun e a w q => by
    cases e <;> simp only [post, Exit.then] at q ⊢
    · obtain ⟨ρ, h1, h2⟩ := q; exact h2 a h1
    · exact q
    · exact q)

theorem SX.block {id : Nat} {c : Code} (h : SX N c ρ w K (xb id K X) R) : SX N (.block id c) ρ w K X R :=
  fun a ha => wp_block (wp_mono (h a ha) fun e a w q => by
    cases e <;> simp only [post, Exit.inBlock] at q ⊢
    case normal => exact q
    case ret => exact q
    case exit i =>
      obtain ⟨ρ, h1, h2⟩ := q
      by_cases e : i = id
      · subst e; simp only [if_true]; exact ⟨ρ, h1, by simpa [xb] using h2⟩
      · simp only [e, if_false]
        have : Nat.beq i id = false := by rw [← Bool.not_eq_true, Nat.beq_eq]; exact e
        exact ⟨ρ, h1, by simpa [xb, this] using h2⟩)

theorem SX.cond {c : Operand} {x y : Code} {t : Bool} (hc : ev ρ c = .bool t) (ht : t = true → SX N x ρ w K X R) (hf : t = false → SX N y ρ w K X R) :
    SX N (.cond c x y) ρ w K X R :=
  fun a ha => wp_cond_split (by rw [ha.eval]; exact hc) (fun e => ht e a ha) (fun e => hf e a ha)

theorem SX.cond_true {c : Operand} {x y : Code} (hc : ev ρ c = .bool true) (ht : SX N x ρ w K X R) : SX N (.cond c x y) ρ w K X R :=
  SX.cond hc (fun _ => ht) (fun e => by cases e)
theorem SX.cond_false {c : Operand} {x y : Code} (hc : ev ρ c = .bool false) (hf : SX N y ρ w K X R) : SX N (.cond c x y) ρ w K X R :=
  SX.cond hc (fun e => by cases e) (fun _ => hf)

/-- A join: what stands behind a statement is walked once, from whatever frame has the listed slots. -/
theorem SX.mid {x y : Code} {G : Type} (E : G → List (Nat × Value)) (I : G → World → Prop)
    (h : SX N x ρ w (fun ρ' w' => ∃ g, Has ρ' (E g) ∧ I g w') X R) (k : ∀ g w ρ, I g w → SX N y (upds ρ (E g)) w K X R) : SX N (.seq x y) ρ w K X R :=
  SX.seq (h.mono (fun ρ' w' ⟨g, hg, hI⟩ => by have := k g w' ρ' hI; rwa [upds_has hg] at this) (fun _ _ _ h => h) (fun _ _ h => h))

/-- A loop: a ghost state g, the listed slots, what holds of the world, a measure. -/
theorem SX.loop {c : Code} {G : Type} (E : G → List (Nat × Value)) (I : G → World → Prop) (μ : G → Nat) (g0 : G) (h0 : Has ρ (E g0)) (hI : I g0 w)
    (round : ∀ g w ρ, I g w → SX N c (upds ρ (E g)) w (fun ρ' w' => ∃ g', Has ρ' (E g') ∧ I g' w' ∧ μ g' < μ g) X R) : SX N (.loop c) ρ w K X R := by
  intro a ha b k cs
  have key : ∀ n g a w ρ, μ g = n → I g w → Fr N ρ a → Has ρ (E g) →
      ∃ e a' w', post N K X R e a' w' ∧ Arrives Yabc.prog (lone (b.at a (.code c :: .inLoop c :: k)) cs w) b k cs e a' w' := by
    intro n
    induction n using Nat.strongRecOn with
    | _ n ih =>
      intro g a w ρ hn hI ha hE
      have hr := round g w ρ hI
      rw [upds_has hE] at hr
      obtain ⟨e, a₁, w₁, hq, harr⟩ := hr a ha b (.inLoop c :: k) cs
      cases e with
      | normal =>
        obtain ⟨ρ', hF, g', hE', hI', hlt⟩ := hq
        obtain ⟨e₂, a₂, w₂, hq₂, harr₂⟩ := ih (μ g') (hn ▸ hlt) g' a₁ w₁ ρ' rfl hI' hF hE'
        exact ⟨e₂, a₂, w₂, hq₂, .of_steps (Steps.trans harr (.one step_inLoop)) harr₂⟩
      | exit id => exact ⟨.exit id, a₁, w₁, hq, .pass (x := .inLoop c) rfl (fun _ _ => .inl (by simp)) harr⟩
      | goto l => exact hq.elim
      | ret => exact ⟨.ret, a₁, w₁, hq, .pass (x := .inLoop c) rfl (fun _ _ => .inl (by simp)) harr⟩
      | panic ch => exact hq.elim
      | outgrown => exact hq.elim
  obtain ⟨e, a', w', hq, harr⟩ := key _ g0 a w ρ rfl hI ha h0
  exact ⟨e, a', w', hq, .of_steps (.one step_loop) harr⟩

theorem SX.loop2 {c : Code} {G0 : Type} {G1 : Type} (E : G0 → G1 → List (Nat × Value)) (I : G0 → G1 → World → Prop) (μ : G0 → G1 → Nat) (y0 : G0) (y1 : G1) (h0 : Has ρ (E y0 y1)) (hI : I y0 y1 w)
    (round : ∀ x0 x1 w ρ, I x0 x1 w → SX N c (upds ρ (E x0 x1)) w (fun ρ' w' => ∃ z0 z1, Has ρ' (E z0 z1) ∧ I z0 z1 w' ∧ μ z0 z1 < μ x0 x1) X R) : SX N (.loop c) ρ w K X R :=
  SX.loop (G := G0 × G1) (fun g => E g.1 g.2) (fun g w => I g.1 g.2 w) (fun g => μ g.1 g.2) (y0, y1) h0 hI
    fun g w ρ h => (round g.1 g.2 w ρ h).mono (fun ρ' w' ⟨z0, z1, h1, h2, h3⟩ => ⟨(z0, z1), h1, h2, h3⟩) (fun _ _ _ h => h) (fun _ _ h => h)

theorem SX.mid2 {x y : Code} {G0 : Type} {G1 : Type} (E : G0 → G1 → List (Nat × Value)) (I : G0 → G1 → World → Prop)
    (h : SX N x ρ w (fun ρ' w' => ∃ z0 z1, Has ρ' (E z0 z1) ∧ I z0 z1 w') X R) (k : ∀ x0 x1 w ρ, I x0 x1 w → SX N y (upds ρ (E x0 x1)) w K X R) : SX N (.seq x y) ρ w K X R :=
  SX.mid (G := G0 × G1) (fun g => E g.1 g.2) (fun g w => I g.1 g.2 w)
    (h.mono (fun ρ' w' ⟨z0, z1, h1, h2⟩ => ⟨(z0, z1), h1, h2⟩) (fun _ _ _ h => h) (fun _ _ h => h)) fun g w ρ h => k g.1 g.2 w ρ h

theorem SX.loop3 {c : Code} {G0 : Type} {G1 : Type} {G2 : Type} (E : G0 → G1 → G2 → List (Nat × Value)) (I : G0 → G1 → G2 → World → Prop) (μ : G0 → G1 → G2 → Nat) (y0 : G0) (y1 : G1) (y2 : G2) (h0 : Has ρ (E y0 y1 y2)) (hI : I y0 y1 y2 w)
    (round : ∀ x0 x1 x2 w ρ, I x0 x1 x2 w → SX N c (upds ρ (E x0 x1 x2)) w (fun ρ' w' => ∃ z0 z1 z2, Has ρ' (E z0 z1 z2) ∧ I z0 z1 z2 w' ∧ μ z0 z1 z2 < μ x0 x1 x2) X R) : SX N (.loop c) ρ w K X R :=
  SX.loop (G := G0 × G1 × G2) (fun g => E g.1 g.2.1 g.2.2) (fun g w => I g.1 g.2.1 g.2.2 w) (fun g => μ g.1 g.2.1 g.2.2) (y0, y1, y2) h0 hI
    fun g w ρ h => (round g.1 g.2.1 g.2.2 w ρ h).mono (fun ρ' w' ⟨z0, z1, z2, h1, h2, h3⟩ => ⟨(z0, z1, z2), h1, h2, h3⟩) (fun _ _ _ h => h) (fun _ _ h => h)

theorem SX.mid3 {x y : Code} {G0 : Type} {G1 : Type} {G2 : Type} (E : G0 → G1 → G2 → List (Nat × Value)) (I : G0 → G1 → G2 → World → Prop)
    (h : SX N x ρ w (fun ρ' w' => ∃ z0 z1 z2, Has ρ' (E z0 z1 z2) ∧ I z0 z1 z2 w') X R) (k : ∀ x0 x1 x2 w ρ, I x0 x1 x2 w → SX N y (upds ρ (E x0 x1 x2)) w K X R) : SX N (.seq x y) ρ w K X R :=
  SX.mid (G := G0 × G1 × G2) (fun g => E g.1 g.2.1 g.2.2) (fun g w => I g.1 g.2.1 g.2.2 w)
    (h.mono (fun ρ' w' ⟨z0, z1, z2, h1, h2⟩ => ⟨(z0, z1, z2), h1, h2⟩) (fun _ _ _ h => h) (fun _ _ h => h)) fun g w ρ h => k g.1 g.2.1 g.2.2 w ρ h

theorem SX.loop4 {c : Code} {G0 : Type} {G1 : Type} {G2 : Type} {G3 : Type} (E : G0 → G1 → G2 → G3 → List (Nat × Value)) (I : G0 → G1 → G2 → G3 → World → Prop) (μ : G0 → G1 → G2 → G3 → Nat) (y0 : G0) (y1 : G1) (y2 : G2) (y3 : G3) (h0 : Has ρ (E y0 y1 y2 y3)) (hI : I y0 y1 y2 y3 w)
    (round : ∀ x0 x1 x2 x3 w ρ, I x0 x1 x2 x3 w → SX N c (upds ρ (E x0 x1 x2 x3)) w (fun ρ' w' => ∃ z0 z1 z2 z3, Has ρ' (E z0 z1 z2 z3) ∧ I z0 z1 z2 z3 w' ∧ μ z0 z1 z2 z3 < μ x0 x1 x2 x3) X R) : SX N (.loop c) ρ w K X R :=
  SX.loop (G := G0 × G1 × G2 × G3) (fun g => E g.1 g.2.1 g.2.2.1 g.2.2.2) (fun g w => I g.1 g.2.1 g.2.2.1 g.2.2.2 w) (fun g => μ g.1 g.2.1 g.2.2.1 g.2.2.2) (y0, y1, y2, y3) h0 hI
    fun g w ρ h => (round g.1 g.2.1 g.2.2.1 g.2.2.2 w ρ h).mono (fun ρ' w' ⟨z0, z1, z2, z3, h1, h2, h3⟩ => ⟨(z0, z1, z2, z3), h1, h2, h3⟩) (fun _ _ _ h => h) (fun _ _ h => h)

theorem SX.mid4 {x y : Code} {G0 : Type} {G1 : Type} {G2 : Type} {G3 : Type} (E : G0 → G1 → G2 → G3 → List (Nat × Value)) (I : G0 → G1 → G2 → G3 → World → Prop)
    (h : SX N x ρ w (fun ρ' w' => ∃ z0 z1 z2 z3, Has ρ' (E z0 z1 z2 z3) ∧ I z0 z1 z2 z3 w') X R) (k : ∀ x0 x1 x2 x3 w ρ, I x0 x1 x2 x3 w → SX N y (upds ρ (E x0 x1 x2 x3)) w K X R) : SX N (.seq x y) ρ w K X R :=
  SX.mid (G := G0 × G1 × G2 × G3) (fun g => E g.1 g.2.1 g.2.2.1 g.2.2.2) (fun g w => I g.1 g.2.1 g.2.2.1 g.2.2.2 w)
    (h.mono (fun ρ' w' ⟨z0, z1, z2, z3, h1, h2⟩ => ⟨(z0, z1, z2, z3), h1, h2⟩) (fun _ _ _ h => h) (fun _ _ h => h)) fun g w ρ h => k g.1 g.2.1 g.2.2.1 g.2.2.2 w ρ h

theorem SX.loop5 {c : Code} {G0 : Type} {G1 : Type} {G2 : Type} {G3 : Type} {G4 : Type} (E : G0 → G1 → G2 → G3 → G4 → List (Nat × Value)) (I : G0 → G1 → G2 → G3 → G4 → World → Prop) (μ : G0 → G1 → G2 → G3 → G4 → Nat) (y0 : G0) (y1 : G1) (y2 : G2) (y3 : G3) (y4 : G4) (h0 : Has ρ (E y0 y1 y2 y3 y4)) (hI : I y0 y1 y2 y3 y4 w)
    (round : ∀ x0 x1 x2 x3 x4 w ρ, I x0 x1 x2 x3 x4 w → SX N c (upds ρ (E x0 x1 x2 x3 x4)) w (fun ρ' w' => ∃ z0 z1 z2 z3 z4, Has ρ' (E z0 z1 z2 z3 z4) ∧ I z0 z1 z2 z3 z4 w' ∧ μ z0 z1 z2 z3 z4 < μ x0 x1 x2 x3 x4) X R) : SX N (.loop c) ρ w K X R :=
  SX.loop (G := G0 × G1 × G2 × G3 × G4) (fun g => E g.1 g.2.1 g.2.2.1 g.2.2.2.1 g.2.2.2.2) (fun g w => I g.1 g.2.1 g.2.2.1 g.2.2.2.1 g.2.2.2.2 w) (fun g => μ g.1 g.2.1 g.2.2.1 g.2.2.2.1 g.2.2.2.2) (y0, y1, y2, y3, y4) h0 hI
    fun g w ρ h => (round g.1 g.2.1 g.2.2.1 g.2.2.2.1 g.2.2.2.2 w ρ h).mono (fun ρ' w' ⟨z0, z1, z2, z3, z4, h1, h2, h3⟩ => ⟨(z0, z1, z2, z3, z4), h1, h2, h3⟩) (fun _ _ _ h => h) (fun _ _ h => h)

theorem SX.mid5 {x y : Code} {G0 : Type} {G1 : Type} {G2 : Type} {G3 : Type} {G4 : Type} (E : G0 → G1 → G2 → G3 → G4 → List (Nat × Value)) (I : G0 → G1 → G2 → G3 → G4 → World → Prop)
    (h : SX N x ρ w (fun ρ' w' => ∃ z0 z1 z2 z3 z4, Has ρ' (E z0 z1 z2 z3 z4) ∧ I z0 z1 z2 z3 z4 w') X R) (k : ∀ x0 x1 x2 x3 x4 w ρ, I x0 x1 x2 x3 x4 w → SX N y (upds ρ (E x0 x1 x2 x3 x4)) w K X R) : SX N (.seq x y) ρ w K X R :=
  SX.mid (G := G0 × G1 × G2 × G3 × G4) (fun g => E g.1 g.2.1 g.2.2.1 g.2.2.2.1 g.2.2.2.2) (fun g w => I g.1 g.2.1 g.2.2.1 g.2.2.2.1 g.2.2.2.2 w)
    (h.mono (fun ρ' w' ⟨z0, z1, z2, z3, z4, h1, h2⟩ => ⟨(z0, z1, z2, z3, z4), h1, h2⟩) (fun _ _ _ h => h) (fun _ _ h => h)) fun g w ρ h => k g.1 g.2.1 g.2.2.1 g.2.2.2.1 g.2.2.2.2 w ρ h

theorem SX.loop6 {c : Code} {G0 : Type} {G1 : Type} {G2 : Type} {G3 : Type} {G4 : Type} {G5 : Type} (E : G0 → G1 → G2 → G3 → G4 → G5 → List (Nat × Value)) (I : G0 → G1 → G2 → G3 → G4 → G5 → World → Prop) (μ : G0 → G1 → G2 → G3 → G4 → G5 → Nat) (y0 : G0) (y1 : G1) (y2 : G2) (y3 : G3) (y4 : G4) (y5 : G5) (h0 : Has ρ (E y0 y1 y2 y3 y4 y5)) (hI : I y0 y1 y2 y3 y4 y5 w)
    (round : ∀ x0 x1 x2 x3 x4 x5 w ρ, I x0 x1 x2 x3 x4 x5 w → SX N c (upds ρ (E x0 x1 x2 x3 x4 x5)) w (fun ρ' w' => ∃ z0 z1 z2 z3 z4 z5, Has ρ' (E z0 z1 z2 z3 z4 z5) ∧ I z0 z1 z2 z3 z4 z5 w' ∧ μ z0 z1 z2 z3 z4 z5 < μ x0 x1 x2 x3 x4 x5) X R) : SX N (.loop c) ρ w K X R :=
  SX.loop (G := G0 × G1 × G2 × G3 × G4 × G5) (fun g => E g.1 g.2.1 g.2.2.1 g.2.2.2.1 g.2.2.2.2.1 g.2.2.2.2.2) (fun g w => I g.1 g.2.1 g.2.2.1 g.2.2.2.1 g.2.2.2.2.1 g.2.2.2.2.2 w) (fun g => μ g.1 g.2.1 g.2.2.1 g.2.2.2.1 g.2.2.2.2.1 g.2.2.2.2.2) (y0, y1, y2, y3, y4, y5) h0 hI
    fun g w ρ h => (round g.1 g.2.1 g.2.2.1 g.2.2.2.1 g.2.2.2.2.1 g.2.2.2.2.2 w ρ h).mono (fun ρ' w' ⟨z0, z1, z2, z3, z4, z5, h1, h2, h3⟩ => ⟨(z0, z1, z2, z3, z4, z5), h1, h2, h3⟩) (fun _ _ _ h => h) (fun _ _ h => h)

theorem SX.mid6 {x y : Code} {G0 : Type} {G1 : Type} {G2 : Type} {G3 : Type} {G4 : Type} {G5 : Type} (E : G0 → G1 → G2 → G3 → G4 → G5 → List (Nat × Value)) (I : G0 → G1 → G2 → G3 → G4 → G5 → World → Prop)
    (h : SX N x ρ w (fun ρ' w' => ∃ z0 z1 z2 z3 z4 z5, Has ρ' (E z0 z1 z2 z3 z4 z5) ∧ I z0 z1 z2 z3 z4 z5 w') X R) (k : ∀ x0 x1 x2 x3 x4 x5 w ρ, I x0 x1 x2 x3 x4 x5 w → SX N y (upds ρ (E x0 x1 x2 x3 x4 x5)) w K X R) : SX N (.seq x y) ρ w K X R :=
  SX.mid (G := G0 × G1 × G2 × G3 × G4 × G5) (fun g => E g.1 g.2.1 g.2.2.1 g.2.2.2.1 g.2.2.2.2.1 g.2.2.2.2.2) (fun g w => I g.1 g.2.1 g.2.2.1 g.2.2.2.1 g.2.2.2.2.1 g.2.2.2.2.2 w)
    (h.mono (fun ρ' w' ⟨z0, z1, z2, z3, z4, z5, h1, h2⟩ => ⟨(z0, z1, z2, z3, z4, z5), h1, h2⟩) (fun _ _ _ h => h) (fun _ _ h => h)) fun g w ρ h => k g.1 g.2.1 g.2.2.1 g.2.2.2.1 g.2.2.2.2.1 g.2.2.2.2.2 w ρ h

theorem SX.loop7 {c : Code} {G0 : Type} {G1 : Type} {G2 : Type} {G3 : Type} {G4 : Type} {G5 : Type} {G6 : Type} (E : G0 → G1 → G2 → G3 → G4 → G5 → G6 → List (Nat × Value)) (I : G0 → G1 → G2 → G3 → G4 → G5 → G6 → World → Prop) (μ : G0 → G1 → G2 → G3 → G4 → G5 → G6 → Nat) (y0 : G0) (y1 : G1) (y2 : G2) (y3 : G3) (y4 : G4) (y5 : G5) (y6 : G6) (h0 : Has ρ (E y0 y1 y2 y3 y4 y5 y6)) (hI : I y0 y1 y2 y3 y4 y5 y6 w)
    (round : ∀ x0 x1 x2 x3 x4 x5 x6 w ρ, I x0 x1 x2 x3 x4 x5 x6 w → SX N c (upds ρ (E x0 x1 x2 x3 x4 x5 x6)) w (fun ρ' w' => ∃ z0 z1 z2 z3 z4 z5 z6, Has ρ' (E z0 z1 z2 z3 z4 z5 z6) ∧ I z0 z1 z2 z3 z4 z5 z6 w' ∧ μ z0 z1 z2 z3 z4 z5 z6 < μ x0 x1 x2 x3 x4 x5 x6) X R) : SX N (.loop c) ρ w K X R :=
  SX.loop (G := G0 × G1 × G2 × G3 × G4 × G5 × G6) (fun g => E g.1 g.2.1 g.2.2.1 g.2.2.2.1 g.2.2.2.2.1 g.2.2.2.2.2.1 g.2.2.2.2.2.2) (fun g w => I g.1 g.2.1 g.2.2.1 g.2.2.2.1 g.2.2.2.2.1 g.2.2.2.2.2.1 g.2.2.2.2.2.2 w) (fun g => μ g.1 g.2.1 g.2.2.1 g.2.2.2.1 g.2.2.2.2.1 g.2.2.2.2.2.1 g.2.2.2.2.2.2) (y0, y1, y2, y3, y4, y5, y6) h0 hI
    fun g w ρ h => (round g.1 g.2.1 g.2.2.1 g.2.2.2.1 g.2.2.2.2.1 g.2.2.2.2.2.1 g.2.2.2.2.2.2 w ρ h).mono (fun ρ' w' ⟨z0, z1, z2, z3, z4, z5, z6, h1, h2, h3⟩ => ⟨(z0, z1, z2, z3, z4, z5, z6), h1, h2, h3⟩) (fun _ _ _ h => h) (fun _ _ h => h)

theorem SX.mid7 {x y : Code} {G0 : Type} {G1 : Type} {G2 : Type} {G3 : Type} {G4 : Type} {G5 : Type} {G6 : Type} (E : G0 → G1 → G2 → G3 → G4 → G5 → G6 → List (Nat × Value)) (I : G0 → G1 → G2 → G3 → G4 → G5 → G6 → World → Prop)
    (h : SX N x ρ w (fun ρ' w' => ∃ z0 z1 z2 z3 z4 z5 z6, Has ρ' (E z0 z1 z2 z3 z4 z5 z6) ∧ I z0 z1 z2 z3 z4 z5 z6 w') X R) (k : ∀ x0 x1 x2 x3 x4 x5 x6 w ρ, I x0 x1 x2 x3 x4 x5 x6 w → SX N y (upds ρ (E x0 x1 x2 x3 x4 x5 x6)) w K X R) : SX N (.seq x y) ρ w K X R :=
  SX.mid (G := G0 × G1 × G2 × G3 × G4 × G5 × G6) (fun g => E g.1 g.2.1 g.2.2.1 g.2.2.2.1 g.2.2.2.2.1 g.2.2.2.2.2.1 g.2.2.2.2.2.2) (fun g w => I g.1 g.2.1 g.2.2.1 g.2.2.2.1 g.2.2.2.2.1 g.2.2.2.2.2.1 g.2.2.2.2.2.2 w)
    (h.mono (fun ρ' w' ⟨z0, z1, z2, z3, z4, z5, z6, h1, h2⟩ => ⟨(z0, z1, z2, z3, z4, z5, z6), h1, h2⟩) (fun _ _ _ h => h) (fun _ _ h => h)) fun g w ρ h => k g.1 g.2.1 g.2.2.1 g.2.2.2.1 g.2.2.2.2.1 g.2.2.2.2.2.1 g.2.2.2.2.2.2 w ρ h

/-! ### Operations -/

def xo (ρ : Env) (op : Op) (ty : TypeId) : Sem Next := execOp (ev ρ) (Oper.mk none op ty "" #[] none)

/-- A pure operation: it yields v and leaves the world. -/
def PV (ρ : Env) (w : World) (op : Op) (ty : TypeId) (v : Value) : Prop := (xo ρ op ty).run Yabc.prog w = .ok (.value v) w

/-- An operation whatever: it ends in a value (none: undef) or in a call that returns. -/
def EV (ρ : Env) (w : World) (op : Op) (ty : TypeId) (K : Value → World → Prop) : Prop :=
  match (xo ρ op ty).run Yabc.prog w with
  | .ok (.value v) w' => K v w'
  | .ok .skip w' => K undef w'
  | .ok (.enter f args) w' => Calls Yabc.prog f args w' fun e w'' => ∃ v, e = .returned v ∧ K v w''
  | _ => False

theorem PV.ev {op : Op} {ty : TypeId} {v : Value} {K : Value → World → Prop} (h : PV ρ w op ty v) (k : K v w) : EV ρ w op ty K := by
  unfold EV; unfold PV at h; rw [h]; exact k

theorem EV.mono {op : Op} {ty : TypeId} {K K' : Value → World → Prop} (h : EV ρ w op ty K) (k : ∀ v w', K v w' → K' v w') : EV ρ w op ty K' := by
  unfold EV at *
  split
  · rename_i hr; rw [hr] at h; exact k _ _ h
  · rename_i hr; rw [hr] at h; exact k _ _ h
  · rename_i hr; rw [hr] at h; exact h.mono fun e w' ⟨v, he, hk⟩ => ⟨v, he, k _ _ hk⟩
  · rename_i h1 h2 h3
    generalize (xo ρ op ty).run Yabc.prog w = r at *
    split at h
    · exact h1 _ _ rfl
    · exact h2 _ rfl
    · exact h3 _ _ _ rfl
    · exact h

theorem EV.wp {o : Oper} {K : Value → World → Prop} {Q : Exit → Act → World → Prop} {next : Act → World → Prop} (hev : a.eval = ev ρ) (h : EV ρ w o.op o.type K)
    (k : ∀ v w', K v w' → next (a.put o.dst v) w') : o.wp Yabc.prog a w next Q := by
  have e : execOp a.eval o = xo ρ o.op o.type := by rw [hev]; rfl
  unfold Oper.wp
  rw [e]
  unfold EV at h
  generalize (xo ρ o.op o.type).run Yabc.prog w = r at *
  split at h
  · exact k _ _ h
  · exact k _ _ h
  · exact Calls.mono h fun e w' ⟨v, he, hk⟩ => by subst he; exact k _ _ hk
  · exact h.elim

/-- A list of operations. -/
def LW (N : Nat) (ops : Array Oper) (l : List Oper) (ρ : Env) (w : World) (K : Env → World → Prop) : Prop :=
  ∀ a, Fr N ρ a → ∀ Q : Exit → Act → World → Prop, (∀ a' ρ' w', Fr N ρ' a' → K ρ' w' → Q .normal a' w') → wpList Yabc.prog ops Q l a w

theorem SX.reg {id : Nat} {l : List Oper} (h : LW N l.toArray l ρ w K) : SX N (.region id l.toArray false) ρ w K X R :=
  fun a ha => wp_region_lit (h a ha _ fun _ ρ' _ h1 h2 => ⟨ρ', h1, h2⟩)

variable {ops : Array Oper} {rest : List Oper}

theorem LW.nil (h : K ρ w) : LW N ops [] ρ w K := fun a ha _ hQ => hQ a ρ w ha h

/-- A pure operation. -/
theorem pu {d : Nat} {op : Op} {ty : TypeId} {p : String} {af : Array Edge} {v : Value} (hd : Nat.blt d N = true) (h : PV ρ w op ty v) (k : LW N ops rest (upd ρ d v) w K) :
    LW N ops (Oper.mk (some d) op ty p af none :: rest) ρ w K :=
  fun a ha Q hQ => wpList_plain rfl fun K' hK' => EV.wp (K := fun v' w' => v' = v ∧ w' = w) ha.eval (h.ev ⟨rfl, rfl⟩) fun v' w' ⟨e1, e2⟩ => by
    subst e1; subst e2; exact hK' _ _ (k _ (ha.put hd v') Q hQ)

/-- An event with a destination. -/
theorem evd {d : Nat} {op : Op} {ty : TypeId} {p : String} {af : Array Edge} (hd : Nat.blt d N = true) (h : EV ρ w op ty fun v w' => LW N ops rest (upd ρ d v) w' K) :
    LW N ops (Oper.mk (some d) op ty p af none :: rest) ρ w K :=
  fun a ha Q hQ => wpList_plain rfl fun K' hK' => EV.wp ha.eval h fun v' w' h' => hK' _ _ (h' _ (ha.put hd v') Q hQ)

/-- An event without one. -/
theorem evn {op : Op} {ty : TypeId} {p : String} {af : Array Edge} (h : EV ρ w op ty fun _ w' => LW N ops rest ρ w' K) :
    LW N ops (Oper.mk none op ty p af none :: rest) ρ w K :=
  fun a ha Q hQ => wpList_plain rfl fun K' hK' => EV.wp ha.eval h fun v' w' h' => hK' _ _ (h' a ha Q hQ)

/-! ### Functions -/

/-- A call of function f returns, and what it hands back and leaves meets R. -/
def Fn (f : FuncId) (vs : List Value) (w : World) (R : Value → World → Prop) : Prop :=
  Calls Yabc.prog f vs.toArray w fun e w' => ∃ v, e = .returned v ∧ R v w'

theorem Fn.mono {f : FuncId} {vs : List Value} {R R' : Value → World → Prop} (h : Fn f vs w R) (k : ∀ v w', R v w' → R' v w') : Fn f vs w R' :=
  Calls.mono h fun e w' ⟨v, he, hk⟩ => ⟨v, he, k _ _ hk⟩

def env0 (vs : List Value) : Env := fun n => vs.getD n undef

theorem fr_enter (vs : List Value) (hl : Nat.ble vs.length N = true) : Fr N (env0 vs) { tmps := vs.toArray ++ Array.replicate (N - vs.toArray.size) undef, defers := [] } := by
  have hl' : vs.length ≤ N := by simpa using hl
  refine ⟨rfl, by simp; omega, fun i => ?_⟩
  simp only [env0, Array.getD_eq_getD_getElem?, List.getD_eq_getElem?_getD]
  rw [Array.getElem?_append]
  by_cases h : i < vs.length
  · simp [h]
  · simp only [List.size_toArray, h, if_false]
    rw [List.getElem?_eq_none (by omega)]
    by_cases h2 : i - vs.length < N - vs.length
    · simp [h2]
    · simp [h2]

/-- One result that lies in a slot. -/
theorem Fn.mk1 {f : FuncId} {fn : Func} {c : Code} {r : Nat} {vs : List Value} {R : Value → World → Prop} (hf : Yabc.prog.funcs[f]? = some fn) (hb : fn.body = some c) (hn : fn.ntmps = N)
    (hr : fn.results = #[.tmp r]) (hl : Nat.ble vs.length N = true) (h : SX N c (env0 vs) w (fun ρ w' => R (ρ r) w') (fun _ _ _ => False) (fun ρ w' => R (ρ r) w')) : Fn f vs w R := by
  have fin : ∀ a (w' : World) ρ, Fr N ρ a → R (ρ r) w' → a.defers = [] ∧ ∃ v, (results fn a.tmps).run Yabc.prog w' = .ok v w' ∧ ∃ v', Ending.returned v = .returned v' ∧ R v' w' := by
    intro a w' ρ hF hR
    refine ⟨hF.defers, ρ r, ?_, ρ r, rfl, hR⟩
    have := hF.val r
    simp only [Array.getD_eq_getD_getElem?] at this
    simp [results, hr, Sem.run, pure, this]
  refine calls_of_wp hf hb ?_
  rw [hn]
  refine wp_mono (h _ (fr_enter vs hl)) fun e a w' q => ?_
  cases e <;> simp only [post, bodyPost] at q ⊢
  · obtain ⟨ρ, hF, hR⟩ := q; exact fin a w' ρ hF hR
  · obtain ⟨ρ, hF, hR⟩ := q; exact hR
  · obtain ⟨ρ, hF, hR⟩ := q; exact fin a w' ρ hF hR

/-- No result. -/
theorem Fn.mk0 {f : FuncId} {fn : Func} {c : Code} {vs : List Value} {R : Value → World → Prop} (hf : Yabc.prog.funcs[f]? = some fn) (hb : fn.body = some c) (hn : fn.ntmps = N)
    (hr : fn.results = #[]) (hl : Nat.ble vs.length N = true) (h : SX N c (env0 vs) w (fun _ w' => R undef w') (fun _ _ _ => False) (fun _ w' => R undef w')) : Fn f vs w R := by
  have fin : ∀ a (w' : World) ρ, Fr N ρ a → R undef w' → a.defers = [] ∧ ∃ v, (results fn a.tmps).run Yabc.prog w' = .ok v w' ∧ ∃ v', Ending.returned v = .returned v' ∧ R v' w' := by
    intro a w' ρ hF hR
    refine ⟨hF.defers, undef, ?_, undef, rfl, hR⟩
    simp [results, hr, Sem.run, pure, undef]
  refine calls_of_wp hf hb ?_
  rw [hn]
  refine wp_mono (h _ (fr_enter vs hl)) fun e a w' q => ?_
  cases e <;> simp only [post, bodyPost] at q ⊢
  · obtain ⟨ρ, hF, hR⟩ := q; exact fin a w' ρ hF hR
  · obtain ⟨ρ, hF, hR⟩ := q; exact hR
  · obtain ⟨ρ, hF, hR⟩ := q; exact fin a w' ρ hF hR

/-! ### Guards: a group of operations under '&&' or '||' -/

theorem wp_put {o : Oper} {next next' : Act → World → Prop} {Q Q' : Exit → Act → World → Prop} (h : o.wp Yabc.prog a w next Q)
    (hn : ∀ a' v w', a'.tmps = (a.put o.dst v).tmps → next a' w' → next' a' w') (hQ : ∀ e a w, e ≠ .normal → Q e a w → Q' e a w) : o.wp Yabc.prog a w next' Q' := by
  unfold Oper.wp at *
  generalize (execOp a.eval o).run Yabc.prog w = r at *
  cases r with
  | ok n w' =>
    cases n <;> simp only [Oper.upon] at h ⊢ <;> try exact h
    case value v => exact hn _ v _ rfl h
    case skip => exact hn _ undef _ rfl h
    case defer d => exact hn _ undef _ (by cases o.dst <;> rfl) h
    case enter f args =>
      refine Calls.mono h fun e w'' he => ?_
      cases e with
      | returned v => exact hn _ v _ rfl he
      | panicked c => exact hQ _ _ _ (by simp) he
      | outgrown => obtain ⟨a0, w0, h0⟩ := he; exact ⟨a0, w0, hQ _ _ _ (by simp) h0⟩
    case row row args => exact Rows.mono h fun v w'' he => hn _ v _ rfl he
  | halt x w' => cases x <;> simp only [Oper.upon] at h ⊢ <;> first | exact hQ _ _ _ (by simp) h | exact h

def inR (lo hi i : Nat) : Bool := Nat.ble lo i && Nat.blt i hi

def dstIn (lo hi : Nat) (o : Oper) : Bool := match o.dst with | some d => inR lo hi d | none => true

theorem put_getD (a : Act) (d : Option Tmp) (v : Value) (i : Nat) (h : d ≠ some i) : (a.put d v).tmps.getD i undef = a.tmps.getD i undef := by
  cases d with
  | none => rfl
  | some d =>
    have hne : d ≠ i := fun e => h (by rw [e])
    simp [Act.put, Array.getElem?_setIfInBounds_ne hne]

/-- A list, then what stands behind it; only the slots in [lo, hi) turn. -/
theorem wpList_seq {Q0 Q : Exit → Act → World → Prop} {m : List Oper} {lo hi : Nat} (h0 : ∀ e a w, Q0 e a w → e = .normal) : ∀ (G : List Oper) (a : Act) (w : World), G.all (dstIn lo hi) = true →
    wpList Yabc.prog ops Q0 G a w → (∀ a' w', Q0 .normal a' w' → (∀ i, inR lo hi i = false → a'.tmps.getD i undef = a.tmps.getD i undef) → wpList Yabc.prog ops Q m a' w') → wpList Yabc.prog ops Q (G ++ m) a w
  | [], a, w, _, h, k => k a w h (fun _ _ => rfl)
  | o :: G, a, w, hd, h, k => by
    simp only [List.all_cons, Bool.and_eq_true] at hd
    have step : ∀ (a' : Act) v w', a'.tmps = (a.put o.dst v).tmps → wpList Yabc.prog ops Q0 G a' w' → wpList Yabc.prog ops Q (G ++ m) a' w' := by
      intro a' v w' ha' hl
      refine wpList_seq h0 G a' w' hd.2 hl fun a'' w'' hq hag => k a'' w'' hq fun i hi' => ?_
      rw [hag i hi', ha']
      refine put_getD _ _ _ _ fun e => ?_
      have := hd.1
      simp only [dstIn, e] at this
      rw [this] at hi'; cases hi'
    simp only [List.cons_append, wpList] at h ⊢
    split
    · rename_i hw
      rw [if_pos hw] at h
      rcases h with h | ⟨_, a0, w0, hq⟩
      · exact .inl (wp_put h step fun e a w hne hq => absurd (h0 _ _ _ hq) hne)
      · exact absurd (h0 _ _ _ hq) (by simp)
    · rename_i hw
      rw [if_neg hw] at h
      exact step _ undef _ rfl h

def strip (j : Nat) (want : Bool) (o : Oper) : Oper :=
  match o.guard with
  | some (i, t) => bif Nat.beq i j && (t == want) then { o with guard := none } else o
  | none => o

theorem strip_cases (j : Nat) (want : Bool) (o : Oper) : strip j want o = o ∨ (o.guard = some (j, want) ∧ strip j want o = { o with guard := none }) := by
  unfold strip
  split
  · rename_i i t hg
    by_cases h : (Nat.beq i j && (t == want)) = true
    · right
      simp only [Bool.and_eq_true, Nat.beq_eq, beq_iff_eq] at h
      obtain ⟨rfl, rfl⟩ := h
      exact ⟨hg, by simp⟩
    · left; simp [h]
  · exact .inl rfl

def dstOf (ops : Array Oper) (j : Nat) : Option Nat := (ops[j]?).bind (·.dst)

theorem yielded_of {j g : Nat} {t : Bool} (hj : dstOf ops j = some g) (h : a.tmps.getD g undef = .bool t) : yielded ops a.tmps j = some t := by
  unfold dstOf at hj
  unfold yielded
  rw [hj]
  simp only [Array.getD_eq_getD_getElem?] at h
  cases hg : a.tmps[g]? with
  | none => rw [hg] at h; simp [undef] at h
  | some v => rw [hg] at h; simp at h; simp [h, hg]

theorem yielded_undef {j g : Nat} (hj : dstOf ops j = some g) (h : a.tmps.getD g undef = undef) : yielded ops a.tmps j = none := by
  unfold dstOf at hj
  unfold yielded
  rw [hj]
  simp only [Array.getD_eq_getD_getElem?] at h
  cases hg : a.tmps[g]? with
  | none => simp [hg]
  | some v => rw [hg] at h; simp at h; simp [h, hg, undef]

/-- The guard is met: the group runs as if it stood bare. -/
theorem wpList_strip {Q0 : Exit → Act → World → Prop} {lo hi j g : Nat} {want : Bool} (hj : dstOf ops j = some g) (hg : inR lo hi g = false) : ∀ (G : List Oper) (a : Act) (w : World), G.all (dstIn lo hi) = true →
    a.tmps.getD g undef = .bool want → wpList Yabc.prog ops Q0 (G.map (strip j want)) a w → wpList Yabc.prog ops Q0 G a w
  | [], a, w, _, _, h => h
  | o :: G, a, w, hd, ht, h => by
    simp only [List.all_cons, Bool.and_eq_true] at hd
    have hne : o.dst ≠ some g := fun e => by
      have := hd.1
      simp only [dstIn, e] at this
      rw [this] at hg; cases hg
    have step : ∀ (a' : Act) v w', a'.tmps = (a.put o.dst v).tmps → wpList Yabc.prog ops Q0 (G.map (strip j want)) a' w' → wpList Yabc.prog ops Q0 G a' w' := by
      intro a' v w' ha' hl
      refine wpList_strip hj hg G a' w' hd.2 ?_ hl
      rw [ha', put_getD _ _ _ _ hne, ht]
    rcases strip_cases j want o with e | ⟨hgd, e⟩
    · simp only [List.map_cons, wpList] at h ⊢
      rw [e] at h
      split
      · rename_i hw
        rw [if_pos hw] at h
        rcases h with h | h
        · exact .inl (wp_put h step fun _ _ _ _ hq => hq)
        · exact .inr h
      · rename_i hw
        rw [if_neg hw] at h
        exact step _ undef _ rfl h
    · simp only [List.map_cons, wpList] at h ⊢
      rw [e] at h
      rw [if_pos (by simp [Region.wanted])] at h
      rw [if_pos (by simp [Region.wanted, hgd, yielded_of hj ht])]
      rcases h with h | h
      · exact .inl (wp_put (o := o) h step fun _ _ _ _ hq => hq)
      · exact .inr h

def deadB (ops : Array Oper) (j : Nat) (want : Bool) : List Nat → List Oper → Bool
  | _, [] => true
  | ds, o :: l =>
    (match o.guard with
      | some (i, t) => (Nat.beq i j && (t == want)) || (match dstOf ops i with | some s => ds.contains s | none => false)
      | none => false) &&
    (match o.dst with | some d => deadB ops j want (d :: ds) l | none => false)

/-- The guard is not met: the group is passed over. -/
theorem wpList_dead {Q : Exit → Act → World → Prop} {m : List Oper} {lo hi j g : Nat} {want : Bool} (hj : dstOf ops j = some g) (hg : inR lo hi g = false) : ∀ (G : List Oper) (ds : List Nat) (a : Act) (w : World), G.all (dstIn lo hi) = true →
    deadB ops j want ds G = true → a.defers = [] → a.tmps.size = N → a.tmps.getD g undef = .bool (!want) → (∀ s ∈ ds, a.tmps.getD s undef = undef) →
    (∀ a', a'.defers = [] → a'.tmps.size = N → (∀ i, inR lo hi i = false → a'.tmps.getD i undef = a.tmps.getD i undef) → wpList Yabc.prog ops Q m a' w) → wpList Yabc.prog ops Q (G ++ m) a w
  | [], ds, a, w, _, _, hdf, hsz, _, _, k => k a hdf hsz (fun _ _ => rfl)
  | o :: G, ds, a, w, hd, hB, hdf, hsz, ht, hs, k => by
    simp only [List.all_cons, Bool.and_eq_true] at hd
    simp only [deadB, Bool.and_eq_true] at hB
    obtain ⟨hB1, hB2⟩ := hB
    cases hdst : o.dst with
    | none => rw [hdst] at hB2; cases hB2
    | some d =>
      rw [hdst] at hB2
      have hin : inR lo hi d = true := by have := hd.1; simpa [dstIn, hdst] using this
      have hne : some d ≠ some g := fun e => by
        have e' : d = g := by simpa using e
        rw [e'] at hin; rw [hin] at hg; cases hg
      have hun : Region.wanted o (yielded ops a.tmps) = false := by
        cases hgd : o.guard with
        | none => rw [hgd] at hB1; cases hB1
        | some it =>
          obtain ⟨i, t⟩ := it
          rw [hgd] at hB1
          simp only [Bool.or_eq_true, Bool.and_eq_true, Nat.beq_eq, beq_iff_eq] at hB1
          simp only [Region.wanted, hgd]
          rcases hB1 with ⟨rfl, rfl⟩ | h2
          · rw [yielded_of hj ht]; cases t <;> rfl
          · cases hs' : dstOf ops i with
            | none => rw [hs'] at h2; cases h2
            | some s =>
              rw [hs'] at h2
              have hmem : s ∈ ds := by simpa using h2
              rw [yielded_undef hs' (hs s hmem)]
              rfl
      simp only [List.cons_append, wpList, hun, Bool.false_eq_true, if_false]
      rw [hdst]
      refine wpList_dead hj hg G (d :: ds) _ w hd.2 hB2 hdf (by simp [Act.put, hsz]) ?_ ?_ fun a' h1 h2 h3 => k a' h1 h2 fun i hi' => ?_
      · rw [put_getD _ _ _ _ hne, ht]
      · intro s hs'
        by_cases e : s = d
        · subst e
          by_cases hlt : s < a.tmps.size
          · simp [Act.put, hlt]
          · simp [Act.put, hlt]
        · rw [put_getD _ _ _ _ (by simpa using fun x : d = s => e x.symm)]
          exact hs s (by simpa [e] using hs')
      · rw [h3 i hi', put_getD]
        intro e
        have e' : d = i := by simpa using e
        rw [e'] at hin; rw [hin] at hi'; cases hi'

def scv (want t b : Bool) : Bool := match want with | true => t && b | false => t || b

def scRun (want : Bool) (A B : Operand) : Operand := match want with | true => A | false => B
def scSkip (want : Bool) (A B : Operand) : Operand := match want with | true => B | false => A

theorem LW.fail {l : List Oper} (h : LW N ops l ρ w K) (ha : Fr N ρ a) : wpList Yabc.prog ops (fun e a' w' => e = .normal ∧ ∃ ρ', Fr N ρ' a' ∧ K ρ' w') l a w :=
  h a ha _ fun a' ρ' w' h1 h2 => ⟨rfl, ρ', h1, h2⟩

theorem mix_fr {lo hi : Nat} {a' : Act} (ha : Fr N ρ a) (h1 : a'.defers = []) (h2 : a'.tmps.size = N) (h3 : ∀ i, inR lo hi i = false → a'.tmps.getD i undef = a.tmps.getD i undef) : Fr N (mix lo hi (frOf a') ρ) a' := by
  refine ⟨h1, h2, fun i => ?_⟩
  unfold mix
  cases hi' : (Nat.ble lo i && Nat.blt i hi) with
  | true => rfl
  | false => rw [h3 i hi']; exact ha.val i

/-- A group under a guard (j, want), then the 'pick' that ends it: n operations ahead of the 'pick'. -/
theorem LW.sc {l : List Oper} (want : Bool) (n j g lo hi : Nat) {t : Bool} (b : Bool) (W : World → Prop) {dp : Nat} {c A B : Operand} {ty : TypeId} {p : String} {af : Array Edge}
    (hj : dstOf ops j = some g) (ht : ρ g = .bool t) (hck : ((l.take n).all (dstIn lo hi) && deadB ops j want [] (l.take n) && !inR lo hi g && Nat.blt dp N) = true)
    (hdrop : l.drop n = Oper.mk (some dp) (.pick c A B) ty p af none :: rest) (hc : ∀ J, ev (mix lo hi J ρ) c = .bool t) (hsk : scSkip want A B = .const (.bool !want))
    (hrun : t = want → LW N ops ((l.take n).map (strip j want)) ρ w (fun ρ' w' => ev ρ' (scRun want A B) = .bool b ∧ W w')) (hW : W w)
    (k : ∀ J w', W w' → LW N ops rest (upd (mix lo hi J ρ) dp (.bool (scv want t b))) w' K) : LW N ops l ρ w K := by
  intro a ha Q hQ
  simp only [Bool.and_eq_true, Bool.not_eq_true'] at hck
  obtain ⟨⟨⟨hd, hB⟩, hg⟩, hdp⟩ := hck
  have hgv : a.tmps.getD g undef = .bool t := by rw [ha.val]; exact ht
  have pick : ∀ (a' : Act) (w' : World), a'.defers = [] → a'.tmps.size = N → (∀ i, inR lo hi i = false → a'.tmps.getD i undef = a.tmps.getD i undef) → W w' →
      a'.eval (bif t then A else B) = .bool (scv want t b) → wpList Yabc.prog ops Q (l.drop n) a' w' := by
    intro a' w' h1 h2 h3 hw' hv
    have hF := mix_fr ha h1 h2 h3
    rw [hdrop]
    refine wpList_plain rfl fun K' hK' => ?_
    have hP : PV (mix lo hi (frOf a') ρ) w' (.pick c A B) ty (.bool (scv want t b)) := by
      rw [hF.eval] at hv
      have := hc (frOf a')
      unfold PV xo execOp
      simp only [this, asBool, Sem.run_bind, Sem.run_pure, Result.andThen_ok]
      cases t <;> simp only [cond_true, cond_false] at hv <;> simp [hv]
    exact EV.wp (K := fun v' w'' => v' = .bool (scv want t b) ∧ w'' = w') hF.eval (hP.ev ⟨rfl, rfl⟩) fun v' w'' ⟨e1, e2⟩ => by
      subst e1; subst e2; exact hK' _ _ (k _ _ hw' _ (hF.put hdp _) Q hQ)
  rw [← List.take_append_drop n l]
  by_cases e : t = want
  · have hr := (hrun e).fail ha
    have hr2 := wpList_strip hj hg (l.take n) a w hd (by rw [hgv, e]) hr
    refine wpList_seq (lo := lo) (hi := hi) (fun e a w hq => hq.1) _ a w hd hr2 fun a' w' ⟨_, ρ', hF, hv, hw'⟩ hag => ?_
    refine pick a' w' hF.defers hF.size hag hw' ?_
    rw [hF.eval]
    subst e
    cases t <;> simpa [scRun, scv] using hv
  · have e' : t = !want := by cases t <;> cases want <;> simp_all
    refine wpList_dead (N := N) hj hg (l.take n) [] a w hd hB ha.defers ha.size (by rw [hgv, e']) (by simp) fun a' h1 h2 h3 => ?_
    refine pick a' w h1 h2 h3 hW ?_
    subst e'
    cases want <;> simp only [scSkip] at hsk <;> subst hsk <;> simp [scv, Act.eval]

/-! ### Regions that draw their order: one order serves every order, the pure operations first; C: what every operation of the region leaves true of the world -/

def Does (a : Act) (o : Oper) (w : World) (K : Value → World → Prop) : Prop :=
  match (execOp a.eval o).run Yabc.prog w with
  | .ok (.value v) w' => K v w'
  | .ok .skip w' => K undef w'
  | .ok (.enter f args) w' => Calls Yabc.prog f args w' fun e w'' => ∃ v, e = .returned v ∧ K v w''
  | _ => False

theorem Does.mono {o : Oper} {K K' : Value → World → Prop} (h : Does a o w K) (k : ∀ v w', K v w' → K' v w') : Does a o w K' := by
  unfold Does at *
  generalize (execOp a.eval o).run Yabc.prog w = r at *
  split at h
  · exact k _ _ h
  · exact k _ _ h
  · exact Calls.mono h fun e w' ⟨v, he, hk⟩ => ⟨v, he, k _ _ hk⟩
  · exact h.elim

theorem Does.wp {o : Oper} {K : Value → World → Prop} {Q : Exit → Act → World → Prop} {next : Act → World → Prop} (h : Does a o w K)
    (k : ∀ v w', K v w' → next (a.put o.dst v) w') : o.wp Yabc.prog a w next Q := by
  unfold Oper.wp
  unfold Does at h
  generalize (execOp a.eval o).run Yabc.prog w = r at *
  split at h
  · exact k _ _ h
  · exact k _ _ h
  · exact Calls.mono h fun e w' ⟨v, he, hk⟩ => by subst he; exact k _ _ hk
  · exact h.elim

theorem EV.does {o : Oper} {K : Value → World → Prop} (hev : a.eval = ev ρ) (h : EV ρ w o.op o.type K) : Does a o w K := by
  have e : execOp a.eval o = xo ρ o.op o.type := by rw [hev]; rfl
  unfold Does
  rw [e]
  exact h

def doesOp (ops : Array Oper) (i : Nat) (K : Act → World → Prop) (a : Act) (w : World) : Prop :=
  match ops[i]? with
  | none => K a w
  | some o => if Region.wanted o (yielded ops a.tmps) then Does a o w (fun v w' => K (a.put o.dst v) w') else K (a.put o.dst undef) w

theorem doesOp_mono {i : Nat} {K K' : Act → World → Prop} (h : doesOp ops i K a w) (k : ∀ a w, K a w → K' a w) : doesOp ops i K' a w := by
  unfold doesOp at *
  split
  · rename_i e; simp only [e] at h; exact k _ _ h
  · rename_i o e
    simp only [e] at h
    split
    · rename_i hw; rw [if_pos hw] at h; exact h.mono fun _ _ => k _ _
    · rename_i hw; rw [if_neg hw] at h; exact k _ _ h

theorem doesOp_wp {i : Nat} {K : Act → World → Prop} {Q : Exit → Act → World → Prop} (h : doesOp ops i K a w) : wpOp Yabc.prog ops Q i K a w := by
  unfold doesOp at h
  unfold wpOp
  split
  · rename_i e; simp only [e] at h; exact h
  · rename_i o e
    simp only [e] at h
    split
    · rename_i hw; rw [if_pos hw] at h; exact .inl (h.wp fun _ _ h => h)
    · rename_i hw; rw [if_neg hw] at h; exact h

def anyC (ops : Array Oper) (C : World → Prop) (Q : Act → World → Prop) : Nat → Array Bool → Act → World → Prop
  | 0, listed, a, w => Region.ready .any ops listed = [] ∧ Q a w
  | fuel + 1, listed, a, w =>
    (Region.ready .any ops listed = [] → Q a w) ∧
    ∀ i ∈ Region.ready .any ops listed, doesOp ops i (fun a' w' => C w' ∧ anyC ops C Q fuel (listed.setIfInBounds i true) a' w') a w

theorem anyC_any {C : World → Prop} {Q : Act → World → Prop} {Q' : Exit → Act → World → Prop} (hQ : ∀ a w, Q a w → Q' .normal a w) : ∀ (fuel : Nat) (listed : Array Bool) (a : Act) (w : World),
    anyC ops C Q fuel listed a w → wpAny Yabc.prog .any ops Q' fuel listed a w
  | 0, _, _, _, h => ⟨h.1, hQ _ _ h.2⟩
  | fuel + 1, _, _, _, h => ⟨fun h0 => hQ _ _ (h.1 h0), fun i hi => doesOp_wp (doesOp_mono (h.2 i hi) fun a' w' h' => anyC_any hQ fuel _ a' w' h'.2)⟩

def YieldsC (ops : Array Oper) (C : World → Prop) (o : Oper) (v : Value) (a : Act) : Prop :=
  (Region.wanted o (yielded ops a.tmps) = true ∧ ∀ w, C w → (execOp a.eval o).run Yabc.prog w = .ok (.value v) w) ∨
  (Region.wanted o (yielded ops a.tmps) = false ∧ v = undef)

theorem YieldsC.of_same {C : World → Prop} {o : Oper} {v : Value} {a a' : Act} (hy : YieldsC ops C o v a) (he : execOp a'.eval o = execOp a.eval o)
    (hw : Region.wanted o (yielded ops a'.tmps) = Region.wanted o (yielded ops a.tmps)) : YieldsC ops C o v a' := by
  unfold YieldsC at *
  rw [he, hw]
  exact hy

theorem YieldsC.op {C : World → Prop} {i : Nat} {o : Oper} {v : Value} (hi : ops[i]? = some o) (hy : YieldsC ops C o v a) (hC : C w) {K : Act → World → Prop} (h : K (a.put o.dst v) w) : doesOp ops i K a w := by
  unfold doesOp
  simp only [hi]
  rcases hy with ⟨hw, hv⟩ | ⟨hw, rfl⟩
  · rw [if_pos hw]
    unfold Does
    rw [hv w hC]
    exact h
  · rw [if_neg (by simp [hw])]
    exact h

theorem doesOp_put {C : World → Prop} {j : Nat} {oi oj : Oper} {v : Value} (hj : ops[j]? = some oj) (hap : oi.apart ops oj = true)
    (hsi : ∀ cs b, oi.op ≠ .select cs b) (hsj : ∀ cs b, oj.op ≠ .select cs b) {K : Act → World → Prop} (hy : YieldsC ops C oi v a) (h : doesOp ops j K (a.put oi.dst v) w) :
    doesOp ops j (fun a' w' => YieldsC ops C oi v a' ∧ K (a'.put oi.dst v) w') a w := by
  obtain ⟨h1, h2, h3⟩ := Oper.apart_spec hap
  have keep : ∀ u, YieldsC ops C oi v (a.put oj.dst u) := fun u =>
    hy.of_same (execOp_put oi hsi a oj.dst u h3) (wanted_put oi a oj.dst u h3)
  unfold doesOp at *
  simp only [hj] at *
  rw [wanted_put oj a oi.dst v h1] at h
  split
  · rename_i hw
    rw [if_pos hw] at h
    unfold Does at *
    rw [execOp_put oj hsj a oi.dst v h1] at h
    generalize (execOp a.eval oj).run Yabc.prog w = r at *
    split at h
    · exact ⟨keep _, by rw [← Act.put_comm a v _ h2]; exact h⟩
    · exact ⟨keep _, by rw [← Act.put_comm a v _ h2]; exact h⟩
    · exact Calls.mono h fun e w' ⟨u, he, hk⟩ => ⟨u, he, keep _, by rw [← Act.put_comm a v _ h2]; exact hk⟩
    · exact h.elim
  · rename_i hw
    rw [if_neg hw] at h
    exact ⟨keep _, by rw [← Act.put_comm a v _ h2]; exact h⟩

/-- A pure operation that may come up now may be taken first. -/
theorem anyC_first {C : World → Prop} {Q : Act → World → Prop} {i : Nat} {oi : Oper} {v : Value} (hi : ops[i]? = some oi) (hsel : ∀ (j : Nat) (o : Oper) cs b, ops[j]? = some o → o.op ≠ .select cs b) :
    ∀ (fuel : Nat) (listed : Array Bool) (a : Act) (w : World),
      (∀ j oj, ops[j]? = some oj → j ≠ i → listed.getD j true = false → (∀ e ∈ oj.after, Region.binds .any e = true → e.on ≠ i) → oi.apart ops oj = true) →
      i ∈ Region.ready .any ops listed → YieldsC ops C oi v a → C w →
      anyC ops C Q fuel (listed.setIfInBounds i true) (a.put oi.dst v) w → anyC ops C Q (fuel + 1) listed a w := by
  intro fuel
  induction fuel with
  | zero =>
    intro listed a w _ hr hy hC H
    refine ⟨fun h => (by rw [h] at hr; cases hr), fun j hj => ?_⟩
    by_cases hji : j = i
    · subst hji; exact hy.op hi hC ⟨hC, H⟩
    · have := ready_mono hj hji
      rw [H.1] at this
      cases this
  | succ fuel ih =>
    intro listed a w hfree hr hy hC H
    refine ⟨fun h => (by rw [h] at hr; cases hr), fun j hj => ?_⟩
    by_cases hji : j = i
    · subst hji; exact hy.op hi hC ⟨hC, H⟩
    · have h1 := H.2 j (ready_mono hj hji)
      obtain ⟨hjun, oj, hoj, hall⟩ := mem_ready.1 hj
      have hnot : ∀ e ∈ oj.after, Region.binds .any e = true → e.on ≠ i := fun e he hb heq => by
        have h1 := hall e he hb
        have h0 := (mem_ready.1 hr).1
        rw [heq] at h1
        rcases Nat.lt_or_ge i listed.size with h' | h'
        · simp [h'] at h0 h1; rw [h0] at h1; cases h1
        · simp [Array.getElem?_eq_none h'] at h1
      have h2 := doesOp_put hoj (hfree j oj hoj hji hjun hnot) (fun cs b => hsel i oi cs b hi) (fun cs b => hsel j oj cs b hoj) hy h1
      have hfree' : ∀ k ok, ops[k]? = some ok → k ≠ i → (listed.setIfInBounds j true).getD k true = false →
          (∀ e ∈ ok.after, Region.binds .any e = true → e.on ≠ i) → oi.apart ops ok = true := fun k ok hk hki hun hno => by
        refine hfree k ok hk hki ?_ hno
        by_cases hjk : j = k
        · subst hjk; exact hjun
        · rw [getD_set_ne true hjk] at hun; exact hun
      refine doesOp_mono h2 fun a' w' h3 => ⟨h3.2.1, ih (listed.setIfInBounds j true) a' w' hfree' (ready_mono hr (Ne.symm hji)) h3.1 h3.2.1 ?_⟩
      rw [Array.setIfInBounds_comm _ _ hji]
      exact h3.2.2

def ordB (ops : Array Oper) : Array Bool → List (Nat × Bool) → Bool
  | listed, [] => (Region.ready .any ops listed).isEmpty
  | listed, (k, true) :: r => (Region.ready .any ops listed).contains k && Region.free .any ops listed k && ordB ops (listed.setIfInBounds k true) r
  | listed, (k, false) :: r => (Region.ready .any ops listed == [k]) && ordB ops (listed.setIfInBounds k true) r

def ordOk (ops : Array Oper) (ord : List (Nat × Bool)) : Bool :=
  Region.noSelect ops && Nat.beq ord.length ops.size && ordB ops (Array.replicate ops.size false) ord

def DW (N : Nat) (ops : Array Oper) (C : World → Prop) (ord : List (Nat × Bool)) (ρ : Env) (w : World) (K : Env → World → Prop) : Prop :=
  ∀ a, Fr N ρ a → C w → Region.noSelect ops = true → ∀ (listed : Array Bool) (Q : Act → World → Prop), ordB ops listed ord = true → (∀ a' ρ' w', Fr N ρ' a' → K ρ' w' → Q a' w') → anyC ops C Q ord.length listed a w

variable {C : World → Prop} {r : List (Nat × Bool)}

theorem DW.nil (h : K ρ w) : DW N ops C [] ρ w K := fun a ha _ _ listed Q hB hQ => ⟨by simpa [ordB] using hB, hQ _ _ _ ha h⟩

theorem DW.pure {i d : Nat} {o : Oper} {v : Value} (ho : ops[i]? = some o) (hdst : o.dst = some d) (hd : Nat.blt d N = true) (hy : ∀ a, Fr N ρ a → YieldsC ops C o v a) (k : DW N ops C r (upd ρ d v) w K) : DW N ops C ((i, true) :: r) ρ w K := by
  intro a ha hC hs listed Q hB hQ
  simp only [ordB, Bool.and_eq_true] at hB
  obtain ⟨⟨hr, hf⟩, hB'⟩ := hB
  refine anyC_first ho (Region.noSelect_spec hs) _ listed a w (Region.free_spec ho hf) (by simpa using hr) (hy a ha) hC ?_
  rw [hdst]
  exact k _ (ha.put hd v) hC hs _ Q hB' hQ

/-- A pure operation, in every world of the class. -/
theorem du {i d : Nat} {op : Op} {ty : TypeId} {p : String} {af : Array Edge} {v : Value} (ho : ops[i]? = some (Oper.mk (some d) op ty p af none)) (hd : Nat.blt d N = true) (h : ∀ w', C w' → PV ρ w' op ty v)
    (k : DW N ops C r (upd ρ d v) w K) : DW N ops C ((i, true) :: r) ρ w K :=
  DW.pure ho rfl hd (fun a ha => .inl ⟨rfl, fun w' hw' => by rw [ha.eval]; exact h w' hw'⟩) k

/-- Under a guard that is met. -/
theorem dgr {i d j g : Nat} {want : Bool} {op : Op} {ty : TypeId} {p : String} {af : Array Edge} {v : Value} (ho : ops[i]? = some (Oper.mk (some d) op ty p af (some (j, want)))) (hd : Nat.blt d N = true)
    (hj : dstOf ops j = some g) (hg : ρ g = .bool want) (h : ∀ w', C w' → PV ρ w' op ty v)
    (k : DW N ops C r (upd ρ d v) w K) : DW N ops C ((i, true) :: r) ρ w K :=
  DW.pure ho rfl hd (fun a ha => .inl ⟨by simp [Region.wanted, yielded_of hj (show a.tmps.getD g undef = .bool want by rw [ha.val, hg])], fun w' hw' => by rw [ha.eval]; exact h w' hw'⟩) k

/-- Under a guard that is not met. -/
theorem dgs {i d j g : Nat} {want : Bool} {op : Op} {ty : TypeId} {p : String} {af : Array Edge} (ho : ops[i]? = some (Oper.mk (some d) op ty p af (some (j, want)))) (hd : Nat.blt d N = true)
    (hj : dstOf ops j = some g) (hg : ρ g = .bool (!want)) (k : DW N ops C r (upd ρ d undef) w K) : DW N ops C ((i, true) :: r) ρ w K :=
  DW.pure ho rfl hd (fun a ha => .inr ⟨by simp [Region.wanted, yielded_of hj (show a.tmps.getD g undef = .bool (!want) by rw [ha.val, hg])], rfl⟩) k

theorem dgu {i d j g : Nat} {want : Bool} {op : Op} {ty : TypeId} {p : String} {af : Array Edge} (ho : ops[i]? = some (Oper.mk (some d) op ty p af (some (j, want)))) (hd : Nat.blt d N = true)
    (hj : dstOf ops j = some g) (hg : ρ g = undef) (k : DW N ops C r (upd ρ d undef) w K) : DW N ops C ((i, true) :: r) ρ w K :=
  DW.pure ho rfl hd (fun a ha => .inr ⟨by simp [Region.wanted, yielded_undef hj (show a.tmps.getD g undef = undef by rw [ha.val, hg])], rfl⟩) k

theorem DW.event {i : Nat} {o : Oper} (ho : ops[i]? = some o) (hgd : o.guard = none) (h : ∀ a, Fr N ρ a → EV ρ w o.op o.type fun v w' => C w' ∧ ∃ ρ', Fr N ρ' (a.put o.dst v) ∧ DW N ops C r ρ' w' K) : DW N ops C ((i, false) :: r) ρ w K := by
  intro a ha hC hs listed Q hB hQ
  simp only [ordB, Bool.and_eq_true, beq_iff_eq] at hB
  obtain ⟨hr, hB'⟩ := hB
  refine ⟨fun h => (by rw [h] at hr; cases hr), fun j hj => ?_⟩
  rw [hr] at hj
  obtain rfl : j = i := by simpa using hj
  unfold doesOp
  simp only [ho]
  rw [if_pos (by simp [Region.wanted, hgd])]
  exact (EV.does ha.eval (h a ha)).mono fun v w' ⟨hC', ρ', hF, hk⟩ => ⟨hC', hk _ hF hC' hs _ Q hB' hQ⟩

/-- An event with a destination. -/
theorem dev {i d : Nat} {op : Op} {ty : TypeId} {p : String} {af : Array Edge} (ho : ops[i]? = some (Oper.mk (some d) op ty p af none)) (hd : Nat.blt d N = true)
    (h : EV ρ w op ty fun v w' => C w' ∧ DW N ops C r (upd ρ d v) w' K) : DW N ops C ((i, false) :: r) ρ w K :=
  DW.event ho rfl fun a ha => h.mono fun v w' ⟨h1, h2⟩ => ⟨h1, _, ha.put hd v, h2⟩

/-- An event without one. -/
theorem den {i : Nat} {op : Op} {ty : TypeId} {p : String} {af : Array Edge} (ho : ops[i]? = some (Oper.mk none op ty p af none))
    (h : EV ρ w op ty fun _ w' => C w' ∧ DW N ops C r ρ w' K) : DW N ops C ((i, false) :: r) ρ w K :=
  DW.event ho rfl fun a ha => h.mono fun v w' ⟨h1, h2⟩ => ⟨h1, _, ha, h2⟩

theorem mixed : Yabc.prog.follows .mixedOrders = true := by kernel_rfl

theorem SX.draw {id : Nat} {l : List Oper} (ord : List (Nat × Bool)) (C : World → Prop) (hB : ordOk l.toArray ord = true) (hC : C w.drew) (h : DW N l.toArray C ord ρ w.drew K) : SX N (.region id l.toArray true) ρ w K X R := by
  intro a ha
  simp only [ordOk, Bool.and_eq_true, Nat.beq_eq] at hB
  obtain ⟨⟨hs, hl⟩, hB⟩ := hB
  refine wp_region_any mixed (anyC_any (C := C) (Q := fun a w => ∃ ρ', Fr N ρ' a ∧ K ρ' w) (fun a w h => h) _ _ _ _ ?_)
  have := h a ha hC hs _ (fun a w => ∃ ρ', Fr N ρ' a ∧ K ρ' w) hB fun a' ρ' w' h1 h2 => ⟨ρ', h1, h2⟩
  rw [hl] at this
  exact this

end Go.Proofs.Ybuabw
