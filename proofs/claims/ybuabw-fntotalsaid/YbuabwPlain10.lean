/-
  PLAIN FACTS, tenth part: a document has no more blocks than lines. Own work for the seat Ybuabw.
-/
import Derived.Test.YbuabwPlain9
namespace Go.Proofs.Ybuabw
set_option linter.unusedVariables false
set_option linter.unusedSimpArgs false

def opn (k : Int) : Nat := if k = 0 then 0 else 1
theorem closeB_cnt (out : List Tri) (k : Int) (cs : List Str) : (closeB out k cs).length ≤ out.length + opn k := by
  unfold closeB opn; split <;> simp
theorem opn_le (k : Int) : opn k ≤ 1 := by unfold opn; split <;> omega

theorem pbl_cnt (L : List Str) : ∀ (f i : Nat) (out : List Tri) (op : Int) (cs : List Str), (pbl L f i out op cs).length ≤ out.length + opn op + (L.length - i)
  | 0, i, out, op, cs => by have := closeB_cnt out op cs; rw [pbl]; omega
  | f + 1, i, out, op, cs => by
    have hc := closeB_cnt out op cs
    have h0 : opn 0 = 0 := rfl
    have h1 : opn 1 = 1 := rfl
    have h3 : opn 3 = 1 := rfl
    have h4 : opn 4 = 1 := rfl
    rw [pbl]
    by_cases hi : i < L.length
    · rw [if_pos hi]
      have ha := afterC_le L i hi
      have hk := codeB_len (codeOf L i)
      split
      · have := pbl_cnt L f (i + 1) (closeB out op cs) 0 []; omega
      · split
        · have := pbl_cnt L f (afterC L i) (closeB out op cs ++ codeB (codeOf L i)) 0 []
          simp only [List.length_append] at this
          omega
        · split
          · have := pbl_cnt L f (i + 1) (closeB out op cs ++ [⟨2, (classify (L.getD i [])).b, (classify (L.getD i [])).s⟩]) 0 []
            simp only [List.length_append, List.length_singleton] at this
            omega
          · split
            · have := pbl_cnt L f (i + 1) (closeB out op cs ++ [⟨6, 0, []⟩]) 0 []
              simp only [List.length_append, List.length_singleton] at this
              omega
            · split
              · have := pbl_cnt L f (i + 1) (closeB out op cs) 3 [(classify (L.getD i [])).s]; omega
              · split
                · split
                  · have := pbl_cnt L f (i + 1) out op (cs ++ [(classify (L.getD i [])).s]); omega
                  · have := pbl_cnt L f (i + 1) (closeB out op cs) 4 [(classify (L.getD i [])).s]; omega
                · split
                  · have := pbl_cnt L f (i + 1) out op (cs ++ [(classify (L.getD i [])).s]); omega
                  · have := pbl_cnt L f (i + 1) (closeB out op cs) 1 [(classify (L.getD i [])).s]; omega
    · rw [if_neg hi]; omega

theorem parseBlocks_cnt (d : Str) : (parseBlocks d).length ≤ d.length + 1 := by
  have h1 := pbl_cnt (splitL d) (splitL d).length 0 [] 0 []
  have h2 := splitL_len d
  have h0 : opn 0 = 0 := rfl
  unfold parseBlocks
  simp at h1
  omega

end Go.Proofs.Ybuabw
