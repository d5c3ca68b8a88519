/-
  WALKS. Blocks of a document. Own work for the seat Ybuabw (the steps of each walk were typed by a program of ours off the printed code).
-/
import Derived.Test.YbuabwW2
import Derived.Test.YbuabwW11
namespace Go.Proofs.Ybuabw
open Go.RowKit
set_option linter.unusedVariables false
set_option linter.unusedSimpArgs false
set_option maxRecDepth 20000

theorem f26_ok (d : Str) (w : World) (hs : d.length ≤ 1048576) : Fn 26 [S d] w (fun v w' => Own w' w.heap.size tK v (parseBlocks d) ∧ Ext w w' ∧ (parseBlocks d).length ≤ 2 * d.length + 3 ∧ tl (parseBlocks d) ≤ d.length + 1) := by
  refine Fn.mk1 (N := 170) Yabc.func26 rfl rfl rfl rfl ?_
  refine SX.seq (SX.reg ?_)   -- region 0
  refine pu rfl pv_as ?_   -- t2 impl.go:175
  refine LW.nil ?_
  refine SX.seq (SX.reg ?_)   -- region 1
  refine pu rfl pv_mv ?_   -- t13 impl.go:176
  refine evd rfl (ev_call cb21 rfl (f21_ok d w (by omega)) ?_)   -- t14 impl.go:176
  rintro vL w1 ⟨hoL, hx1⟩
  have hL := hoL.rd
  have hlz := lsz_splitL d
  have hpb : parseBlocks d = pbl (splitL d) (splitL d).length 0 [] 0 [] := rfl
  generalize hLg : splitL d = L at *
  have hLn : L.length ≤ lsz L := by unfold lsz; omega
  have hLt : ttl L ≤ lsz L := by unfold lsz; omega
  refine pu rfl pv_as ?_   -- t3 impl.go:176
  refine LW.nil ?_
  refine SX.seq (SX.reg ?_)   -- region 2
  refine pu rfl pv_as ?_   -- t4 impl.go:177
  refine LW.nil ?_
  refine SX.seq (SX.reg ?_)   -- region 3
  refine pu rfl pv_as ?_   -- t5 impl.go:178
  refine LW.nil ?_
  refine SX.seq (SX.reg ?_)   -- region 4
  refine pu rfl pv_as ?_   -- t6 impl.go:179
  refine LW.nil ?_
  refine SX.seq (SX.reg ?_)   -- region 5
  refine pu rfl pv_as ?_   -- t7 impl.go:180
  refine LW.nil ?_
  refine SX.seq ?_
  refine SX.block ?_
  refine SX.loop7 (fun (f i : Nat) (out : List Tri) vb (op : Int) (cs : List Str) vc => [(3, vL), (4, vb), (5, iv op), (6, vc), (7, iv i)]) (fun f i out vb op cs vc w' => Two w1 w' tK vb out tS vc cs ∧ PInv L f i out op cs) (fun _ i _ _ _ _ _ => L.length - i) L.length 0 [] (.slice none 0 0) 0 [] (.slice none 0 0) ⟨rfl, rfl, rfl, rfl, rfl, trivial⟩ ⟨Two.start w1 tK tS, PInv.start L⟩ ?_
  rintro f i out vb op cs vc w2 ρ1 ⟨hT, hP⟩
  have hol := hP.olen
  have hcl0 := hP.clen
  have hiL := hP.hi
  refine SX.seq ?_
  refine SX.seq (SX.reg ?_)   -- region 6
  refine pu rfl pv_mv ?_   -- t15 impl.go:181
  refine pu rfl pv_mv ?_   -- t16 impl.go:181
  refine pu rfl (pv_lenV (T := tS) Yabc.underlying32 (hL.ext hT.ext) rfl) ?_   -- t17 impl.go:181
  refine pu rfl (pv_lss rfl rfl) ?_   -- t18 impl.go:181
  refine LW.nil ?_
  refine SX.cond rfl (fun hc => ?_) (fun hc => ?_)   -- t18
  · skip
    have hlt : i < L.length := by simpa using hc
    obtain ⟨f, rfl⟩ := hP.up hlt
    have hLi := getD_lt L i [] hlt
    have hcll := classify_len (L[i]'hlt)
    have hlm := ttl_mem L _ (List.getElem_mem hlt)
    refine SX.skip ?_
    refine SX.block ?_
    refine SX.seq (SX.reg ?_)   -- region 7
    refine pu rfl pv_mv ?_   -- t19 impl.go:182
    refine pu rfl pv_mv ?_   -- t20 impl.go:182
    refine pu rfl (pv_ix (T := tS) (k := i) Yabc.underlying32 sz9 okS (hL.ext hT.ext) rfl rfl (by omega) (by omega)) ?_   -- t21 impl.go:182
    refine pu rfl (pv_ld ag9 rfl ((hL.ext hT.ext).cell0 okS (by omega) rfl)) ?_   -- t22 impl.go:182
    refine evd rfl (ev_call cb24 rfl (f24_ok (L[i]'hlt) w2 (by omega)) ?_)   -- t23 impl.go:182
    rintro _ w3 ⟨rfl, hx3⟩
    have hT3 := hT.more hx3
    refine evd rfl (ev_al3 if36 fun w4 hn4 => ?_)   -- t8 impl.go:182
    refine evn (ev_stB (nw := encT (classify (L[i]'hlt))) hn4.blk rfl rfl sz36 rfl (encT_one _) fun w5 hb5 hg5 hz5 => ?_)   --  impl.go:182
    have hX : Tx w1 w5 tK vb out tS vc cs w3.heap.size 36 (encT (classify (L[i]'hlt))) := Tx.make hT3 hn4 hb5 hg5
    refine LW.nil ?_
    refine SX.seq (SX.reg ?_)   -- region 8
    refine pu rfl pv_mv ?_   -- t24 impl.go:183
    refine pu rfl (pv_add rfl rfl (by omega)) ?_   -- t25 impl.go:183
    refine pu rfl pv_as ?_   -- t7 impl.go:183
    refine LW.nil ?_
    refine SX.seq (SX.reg ?_)   -- region 9
    refine pu rfl (pv_fa fb36_0 rfl) ?_   -- t26 impl.go:184
    refine pu rfl (pv_ld ag3 rfl (hX.blk.cell rfl)) ?_   -- t27 impl.go:184
    refine LW.nil ?_
    refine SX.block ?_
    refine SX.seq (SX.reg ?_)   -- region 15
    refine pu rfl (pv_eql rfl rfl) ?_   -- t47 impl.go:185
    refine pu rfl pv_as ?_   -- t46 impl.go:185
    refine LW.nil ?_
    refine SX.cond rfl (fun hc => ?_) (fun hc => ?_)   -- t46
    · skip
      have hk0 : (classify (L[i]'hlt)).a = 0 := by simpa using hc
      refine SX.seq (SX.reg ?_)   -- region 16
      refine pu rfl pv_mv ?_   -- t48 impl.go:186
      refine pu rfl pv_mv ?_   -- t49 impl.go:186
      refine pu rfl pv_mv ?_   -- t50 impl.go:186
      refine evd rfl (ev_call cb88 rfl (f88_ok vb vc out op cs _ w5 hX.two.o1 hX.two.ext.size hX.two.o2.rd (by omega) (fun h0 => ⟨by have := hP.ttl_cs h0; omega, by omega⟩)) ?_)   -- t51 impl.go:186
      rintro vb6 w6 ⟨ho6, hg6⟩
      have hX6 := hX.push1 hg6 ho6
      have hcbl := closeB_len out op cs
      refine pu rfl pv_as ?_   -- t4 impl.go:186
      refine LW.nil ?_
      refine SX.reg ?_
      refine pu rfl pv_as ?_   -- t5 impl.go:187
      refine LW.nil ?_
      exact ⟨f, i + 1, _, vb6, 0, cs, vc, ⟨rfl, rfl, rfl, rfl, rfl, trivial⟩, ⟨hX6.two, hP.blank hlt (by rw [hLi]; exact hk0) cs (by omega)⟩, by omega⟩
    · skip
      have hk0 : ¬ (classify (L[i]'hlt)).a = 0 := by simpa using hc
      refine SX.seq (SX.reg ?_)   -- region 18
      refine pu rfl (pv_eql rfl rfl) ?_   -- t53 impl.go:188
      refine pu rfl pv_as ?_   -- t52 impl.go:188
      refine LW.nil ?_
      refine SX.cond rfl (fun hc => ?_) (fun hc => ?_)   -- t52
      · skip
        have hk1 : (classify (L[i]'hlt)).a = 1 := by simpa using hc
        refine SX.seq (SX.reg ?_)   -- region 19
        refine pu rfl pv_mv ?_   -- t54 impl.go:189
        refine pu rfl pv_mv ?_   -- t55 impl.go:189
        refine pu rfl pv_mv ?_   -- t56 impl.go:189
        refine evd rfl (ev_call cb88 rfl (f88_ok vb vc out op cs _ w5 hX.two.o1 hX.two.ext.size hX.two.o2.rd (by omega) (fun h0 => ⟨by have := hP.ttl_cs h0; omega, by omega⟩)) ?_)   -- t57 impl.go:189
        rintro vb6 w6 ⟨ho6, hg6⟩
        have hX6 := hX.push1 hg6 ho6
        have hcbl := closeB_len out op cs
        refine pu rfl pv_as ?_   -- t4 impl.go:189
        refine LW.nil ?_
        refine SX.seq (SX.reg ?_)   -- region 20
        refine pu rfl pv_as ?_   -- t5 impl.go:190
        refine LW.nil ?_
        refine SX.seq (SX.reg ?_)   -- region 21
        refine pu rfl pv_as ?_   -- t9 impl.go:191
        refine LW.nil ?_
        refine SX.mid (G := Value) (fun vcode => [(3, vL), (4, vb6), (5, iv 0), (6, vc), (7, iv (afterC L i : Nat)), (9, vcode)]) (fun vcode w' => Ext w6 w' ∧ Own w' w6.heap.size tS vcode (codeOf L i)) ?_ ?_
        · skip
          refine SX.block ?_
          have hlg := leadG_le nt (L.drop (i + 1))
          simp only [List.length_drop] at hlg
          refine SX.loop2 (fun (m : Nat) vcode => [(3, vL), (4, vb6), (5, iv 0), (6, vc), (7, iv (i + 1 + m : Nat)), (9, vcode)]) (fun m vcode w' => m ≤ leadG nt (L.drop (i + 1)) ∧ Ext w6 w' ∧ Own w' w6.heap.size tS vcode ((L.drop (i + 1)).take m)) (fun m _ => L.length - (i + 1 + m)) 0 (.slice none 0 0) ⟨rfl, rfl, rfl, rfl, rfl, rfl, trivial⟩ ⟨Nat.zero_le _, Ext.refl w6, by simpa using Own.nil w6 w6.heap.size tS⟩ ?_
          rintro m vcode w7 ρ7 ⟨hm, hx7, ho7⟩
          have hX7 := hX6.more hx7
          have hcl7 : ((L.drop (i + 1)).take m).length ≤ m := List.length_take_le _ _
          refine SX.seq ?_
          refine SX.seq (SX.reg ?_)   -- region 22
          refine pu rfl pv_mv ?_   -- t58 impl.go:192
          refine pu rfl pv_mv ?_   -- t59 impl.go:192
          refine pu rfl (pv_lenV (T := tS) Yabc.underlying32 (hL.ext hX7.two.ext) rfl) ?_   -- t60 impl.go:192
          refine pu rfl (pv_lss rfl rfl) ?_   -- t61 impl.go:192
          refine LW.nil ?_
          refine SX.cond rfl (fun hc => ?_) (fun hc => ?_)   -- t61
          · skip
            have hj : i + 1 + m < L.length := by simp at hc; omega
            have hst : ((L.drop (i + 1)).take m) ++ [L[i + 1 + m]'hj] = (L.drop (i + 1)).take (m + 1) := by rw [List.take_succ_eq_append_getElem (by simp; omega), List.getElem_drop]
            refine SX.skip ?_
            refine SX.block ?_
            refine SX.seq (SX.reg ?_)   -- region 23
            refine pu rfl pv_mv ?_   -- t62 impl.go:193
            refine pu rfl pv_mv ?_   -- t63 impl.go:193
            refine pu rfl (pv_ix (T := tS) (k := (i + 1 + m)) Yabc.underlying32 sz9 okS (hL.ext hX7.two.ext) rfl rfl (by omega) (by omega)) ?_   -- t64 impl.go:193
            refine pu rfl (pv_ld ag9 rfl ((hL.ext hX7.two.ext).cell0 okS (by omega) rfl)) ?_   -- t65 impl.go:193
            refine pu rfl pv_as ?_   -- t10 impl.go:193
            refine LW.nil ?_
            refine SX.seq (SX.reg ?_)   -- region 24
            refine pu rfl pv_mv ?_   -- t66 impl.go:194
            refine pu rfl (pv_add rfl rfl (by omega)) ?_   -- t67 impl.go:194
            refine pu rfl pv_as ?_   -- t7 impl.go:194
            refine LW.nil ?_
            refine SX.seq ?_
            refine SX.seq (SX.reg ?_)   -- region 25
            refine pu rfl pv_mv ?_   -- t68 impl.go:195
            refine pu rfl (pv_len_s rfl) ?_   -- t69 impl.go:195
            refine pu rfl (pv_geq rfl rfl) ?_   -- t70 impl.go:195
            refine pu rfl pv_mv ?_   -- t71 impl.go:195
            refine LW.sc true 3 3 71 72 75 (b := decide ((L[i + 1 + m]'hj).getD 0 0 = 96)) (fun w' => w7 = w') rfl rfl rfl rfl (fun _ => rfl) rfl (fun ht => ?_) rfl (fun J w' hw' => ?_)   -- t75 := pick ['t71', 't74', "c:['false']"]
            · skip
              have hl3 : 3 ≤ (L[i + 1 + m]'hj).length := by simp [scv] at ht; omega
              refine pu rfl pv_mv ?_   -- t72 impl.go:195
              refine pu rfl (pv_index (k := 0) rfl rfl (by omega) (by omega)) ?_   -- t73 impl.go:195
              refine pu rfl (pv_eqlB (b := 96) rfl rfl) ?_   -- t74 impl.go:195
              exact LW.nil ⟨rfl, rfl⟩
            subst hw'
            refine pu rfl pv_mv ?_   -- t76 impl.go:195
            refine LW.sc true 3 8 76 77 80 (b := decide ((L[i + 1 + m]'hj).getD 1 0 = 96)) (fun w' => w7 = w') rfl rfl rfl rfl (fun _ => rfl) rfl (fun ht => ?_) rfl (fun J w' hw' => ?_)   -- t80 := pick ['t76', 't79', "c:['false']"]
            · skip
              have hl3 : 3 ≤ (L[i + 1 + m]'hj).length := by simp [scv] at ht; omega
              refine pu rfl pv_mv ?_   -- t77 impl.go:195
              refine pu rfl (pv_index (k := 1) rfl rfl (by omega) (by omega)) ?_   -- t78 impl.go:195
              refine pu rfl (pv_eqlB (b := 96) rfl rfl) ?_   -- t79 impl.go:195
              exact LW.nil ⟨rfl, rfl⟩
            subst hw'
            refine pu rfl pv_mv ?_   -- t81 impl.go:195
            refine LW.sc true 3 13 81 82 85 (b := decide ((L[i + 1 + m]'hj).getD 2 0 = 96)) (fun w' => w7 = w') rfl rfl rfl rfl (fun _ => rfl) rfl (fun ht => ?_) rfl (fun J w' hw' => ?_)   -- t85 := pick ['t81', 't84', "c:['false']"]
            · skip
              have hl3 : 3 ≤ (L[i + 1 + m]'hj).length := by simp [scv] at ht; omega
              refine pu rfl pv_mv ?_   -- t82 impl.go:195
              refine pu rfl (pv_index (k := 2) rfl rfl (by omega) (by omega)) ?_   -- t83 impl.go:195
              refine pu rfl (pv_eqlB (b := 96) rfl rfl) ?_   -- t84 impl.go:195
              exact LW.nil ⟨rfl, rfl⟩
            subst hw'
            refine LW.nil ?_
            refine SX.cond rfl (fun hc => ?_) (fun hc => ?_)   -- t85
            · skip
              rw [ticks_eq] at hc
              have hd : leadG nt (L.drop (i + 1)) = m := leadG_done _ _ _ hm (fun hk => by
                simp only [List.length_drop] at hk
                rw [List.getElem_drop]
                simp [nt, hc])
              refine SX.exit (xb_on rfl (xb_here ?_))
              exact ⟨vcode, ⟨rfl, rfl, rfl, rfl, congrArg iv (by rw [afterC, jOf, hd, if_pos hj] <;> push_cast <;> rfl), rfl, trivial⟩, hx7, by rw [codeOf, hd]; exact ho7⟩
            · skip
              rw [ticks_eq] at hc
              have hrs := leadG_step nt (L.drop (i + 1)) m (by simp; omega) hm (by rw [List.getElem_drop]; simp [nt, hc])
              refine SX.skip ?_
              refine SX.reg ?_
              refine pu rfl pv_mv ?_   -- t86 impl.go:198
              refine pu rfl pv_mv ?_   -- t87 impl.go:198
              refine push (T := tS) (L[i + 1 + m]'hj) sl32 okS (by decide) ho7 hx7.size rfl (fun _ => rfl) rfl rfl (by omega) (by unfold maxLen; omega) fun J1 v8 w8 ho8 hg8 => ?_   -- t88 impl.go:198
              refine pu rfl pv_as ?_   -- t9 impl.go:198
              refine LW.nil ?_
              exact ⟨m + 1, v8, ⟨rfl, rfl, rfl, rfl, rfl, rfl, trivial⟩, ⟨hrs, hx7.step hg8.grown (fun g e => (ho7.lt g e).1), by rw [← hst]; exact ho8⟩, by omega⟩
          · skip
            have hj : ¬ i + 1 + m < L.length := by simp at hc; omega
            have hd : leadG nt (L.drop (i + 1)) = m := leadG_done _ _ _ hm (fun hk => by
              simp only [List.length_drop] at hk
              rw [List.getElem_drop]
              omega)
            refine SX.exit (xb_here ?_)
            exact ⟨vcode, ⟨rfl, rfl, rfl, rfl, congrArg iv (by rw [afterC, jOf, hd, if_neg hj] <;> push_cast <;> rfl), rfl, trivial⟩, hx7, by rw [codeOf, hd]; exact ho7⟩
        rintro vcode w8 ρ8 ⟨hx8, ho8⟩
        have hcc := code_cost L i
        have hac := afterC_le L i hlt
        have hld := lsz_split L (i + 1)
        have hcl : (codeOf L i).length ≤ lsz (codeOf L i) ∧ ttl (codeOf L i) ≤ lsz (codeOf L i) := by unfold lsz; omega
        refine SX.seq (SX.reg ?_)   -- region 27
        refine pu rfl pv_mv ?_   -- t90 impl.go:200
        refine pu rfl (pv_lenV (T := tS) Yabc.underlying32 ho8.rd rfl) ?_   -- t91 impl.go:200
        refine pu rfl (pv_gtr rfl rfl) ?_   -- t92 impl.go:200
        refine LW.nil ?_
        refine SX.cond rfl (fun hc => ?_) (fun hc => ?_)   -- t92
        · skip
          have hcd : ¬ codeOf L i = [] := by intro e; simp [e] at hc
          refine SX.seq (SX.reg ?_)   -- region 28
          refine pu rfl pv_as ?_   -- t11 impl.go:201
          refine LW.nil ?_
          refine SX.seq ?_
          refine SX.seq (SX.reg ?_)   -- region 29
          refine pu rfl pv_as ?_   -- t12 impl.go:202
          refine LW.nil ?_
          refine SX.block ?_
          refine SX.loop2 (fun (j : Nat) vt => [(3, vL), (4, vb6), (5, iv 0), (6, vc), (7, iv (afterC L i : Nat)), (9, vcode), (11, vt), (12, iv j)]) (fun j vt w' => j ≤ (codeOf L i).length ∧ Ext w8 w' ∧ Own w' w8.heap.size tB vt (jnN [10] (codeOf L i) j)) (fun j _ => (codeOf L i).length - j) 0 (.slice none 0 0) ⟨rfl, rfl, rfl, rfl, rfl, rfl, rfl, rfl, trivial⟩ ⟨Nat.zero_le _, Ext.refl w8, Own.nil _ _ _⟩ ?_
          rintro j vt w9 ρ9 ⟨hjl, hx9, ho9⟩
          have hjn := jnN_len [10] (codeOf L i) rfl j hjl
          have htk := ttl_le (codeOf L i) j
          refine SX.seq ?_
          refine SX.seq (SX.reg ?_)   -- region 30
          refine pu rfl pv_mv ?_   -- t93 impl.go:202
          refine pu rfl pv_mv ?_   -- t94 impl.go:202
          refine pu rfl (pv_lenV (T := tS) Yabc.underlying32 (ho8.rd.ext hx9) rfl) ?_   -- t95 impl.go:202
          refine pu rfl (pv_lss rfl rfl) ?_   -- t96 impl.go:202
          refine LW.nil ?_
          refine SX.cond rfl (fun hc => ?_) (fun hc => ?_)   -- t96
          · skip
            have hjc : j < (codeOf L i).length := by simpa using hc
            have hts := ttl_take (codeOf L i) j hjc
            have htk1 := ttl_le (codeOf L i) (j + 1)
            refine SX.skip ?_
            refine SX.seq ?_
            refine SX.block ?_
            refine SX.mid (G := Value) (fun vt => [(3, vL), (4, vb6), (5, iv 0), (6, vc), (7, iv (afterC L i : Nat)), (9, vcode), (11, vt), (12, iv j)]) (fun vt w' => Ext w8 w' ∧ Own w' w8.heap.size tB vt (jnN [10] (codeOf L i) j ++ (if j = 0 then [] else [10]))) ?_ ?_
            · skip
              refine SX.seq (SX.reg ?_)   -- region 32
              refine pu rfl pv_mv ?_   -- t99 impl.go:203
              refine pu rfl (pv_gtr rfl rfl) ?_   -- t100 impl.go:203
              refine LW.nil ?_
              refine SX.cond rfl (fun hc => ?_) (fun hc => ?_)   -- t100
              · skip
                have hj0 : ¬ j = 0 := by simp at hc; omega
                refine SX.reg ?_
                refine pu rfl pv_mv ?_   -- t101 impl.go:204
                refine push (T := tB) 10 sl83 okB (by decide) ho9 hx9.size rfl (fun _ => rfl) rfl rfl (by omega) (by unfold maxLen; omega) fun J1 v10 w10 ho10 hg10 => ?_   -- t102 impl.go:204
                refine pu rfl pv_as ?_   -- t11 impl.go:204
                refine LW.nil ?_
                exact ⟨v10, ⟨rfl, rfl, rfl, rfl, rfl, rfl, rfl, rfl, trivial⟩, hx9.step hg10.grown (fun g e => (ho9.lt g e).1), by rw [if_neg hj0]; exact ho10⟩
              · skip
                have hj0 : j = 0 := by simp at hc; omega
                refine SX.skip ?_
                exact ⟨vt, ⟨rfl, rfl, rfl, rfl, rfl, rfl, rfl, rfl, trivial⟩, hx9, by rw [if_pos hj0]; simpa using ho9⟩
            rintro vt10 w10 ρ10 ⟨hx10, ho10⟩
            have hl10 : (jnN [10] (codeOf L i) j ++ (if j = 0 then [] else [10])).length ≤ (jnN [10] (codeOf L i) j).length + 1 := by rw [List.length_append]; split <;> simp
            refine SX.reg ?_
            refine pu rfl pv_mv ?_   -- t104 impl.go:206
            refine pu rfl pv_mv ?_   -- t105 impl.go:206
            refine pu rfl pv_mv ?_   -- t106 impl.go:206
            refine pu rfl (pv_ix (T := tS) (k := j) Yabc.underlying32 sz9 okS (ho8.rd.ext hx10) rfl rfl rfl (by omega)) ?_   -- t107 impl.go:206
            refine pu rfl (pv_ld ag9 rfl ((ho8.rd.ext hx10).cell0 okS (by omega) rfl)) ?_   -- t108 impl.go:206
            refine evd rfl (ev_appS (c := ((codeOf L i)[j]'hjc)) ho10 hx10.size rfl rfl (by omega) fun v11 w11 ho11 hg11 => ?_)   -- t109 impl.go:206
            refine pu rfl pv_as ?_   -- t11 impl.go:206
            refine LW.nil ?_
            refine SX.reg ?_
            refine pu rfl pv_mv ?_   -- t97 impl.go:202
            refine pu rfl (pv_add rfl rfl (by omega)) ?_   -- t98 impl.go:202
            refine pu rfl pv_as ?_   -- t12 impl.go:202
            refine LW.nil ?_
            exact ⟨j + 1, v11, ⟨rfl, rfl, rfl, rfl, rfl, rfl, rfl, rfl, trivial⟩, ⟨by omega, hx10.step hg11.grown (fun g e => (ho10.lt g e).1), by rw [jnN, getD_lt _ _ _ hjc]; exact ho11⟩, by omega⟩
          · skip
            have hge : j = (codeOf L i).length := by simp at hc; omega
            subst hge
            refine SX.exit (xb_here ?_)
            refine SX.reg ?_
            refine pu rfl pv_mv ?_   -- t110 impl.go:208
            refine pu rfl pv_mv ?_   -- t111 impl.go:208
            refine pu rfl (pv_str ho9.rd rfl) ?_   -- t112 impl.go:208
            refine pu rfl (pv_bd rfl (bd30 _ _ _)) ?_   -- t113 impl.go:208
            have hX9 := (hX6.more hx8).more hx9   -- t114 impl.go:208
            refine push (T := tK) ⟨5, 0, joinS [10] (codeOf L i)⟩ sl27 okK (by decide) hX9.two.o1 hX9.two.ext.size rfl (fun _ => rfl) rfl rfl (by omega) (by unfold maxLen; omega) fun J1 v12 w12 ho12 hg12 => ?_
            refine pu rfl pv_as ?_   -- t4 impl.go:208
            refine LW.nil ?_
            have hcode : codeOf L i ≠ [] := hcd
            have hcb : codeB (codeOf L i) = [⟨5, 0, joinS [10] (codeOf L i)⟩] := by rw [codeB, if_neg hcode]
            exact ⟨f, afterC L i, _, v12, 0, cs, vc, ⟨rfl, rfl, rfl, rfl, rfl, trivial⟩, ⟨by rw [hcb]; exact (hX9.push1 hg12 ho12).two, hP.fence hlt (by rw [hLi]; exact hk0) (by rw [hLi]; exact hk1) cs (by omega)⟩, by omega⟩
        · skip
          have hcd : codeOf L i = [] := by simpa using hc
          refine SX.skip ?_
          have hcb : codeB (codeOf L i) = [] := by rw [codeB, if_pos hcd]
          exact ⟨f, afterC L i, _, vb6, 0, cs, vc, ⟨rfl, rfl, rfl, rfl, rfl, trivial⟩, ⟨by rw [hcb, List.append_nil]; exact (hX6.more hx8).two, hP.fence hlt (by rw [hLi]; exact hk0) (by rw [hLi]; exact hk1) cs (by omega)⟩, by omega⟩
      · skip
        have hk1 : ¬ (classify (L[i]'hlt)).a = 1 := by simpa using hc
        refine SX.seq (SX.reg ?_)   -- region 36
        refine pu rfl (pv_eql rfl rfl) ?_   -- t117 impl.go:210
        refine pu rfl pv_as ?_   -- t116 impl.go:210
        refine LW.nil ?_
        refine SX.cond rfl (fun hc => ?_) (fun hc => ?_)   -- t116
        · skip
          have hk2 : (classify (L[i]'hlt)).a = 2 := by simpa using hc
          refine SX.seq (SX.reg ?_)   -- region 37
          refine pu rfl pv_mv ?_   -- t118 impl.go:211
          refine pu rfl pv_mv ?_   -- t119 impl.go:211
          refine pu rfl pv_mv ?_   -- t120 impl.go:211
          refine evd rfl (ev_call cb88 rfl (f88_ok vb vc out op cs _ w5 hX.two.o1 hX.two.ext.size hX.two.o2.rd (by omega) (fun h0 => ⟨by have := hP.ttl_cs h0; omega, by omega⟩)) ?_)   -- t121 impl.go:211
          rintro vb6 w6 ⟨ho6, hg6⟩
          have hX6 := hX.push1 hg6 ho6
          have hcbl := closeB_len out op cs
          refine pu rfl pv_as ?_   -- t4 impl.go:211
          refine LW.nil ?_
          refine SX.seq (SX.reg ?_)   -- region 38
          refine pu rfl pv_as ?_   -- t5 impl.go:212
          refine LW.nil ?_
          refine SX.reg ?_
          refine pu rfl pv_mv ?_   -- t122 impl.go:213
          refine pu rfl (pv_fa fb36_1 rfl) ?_   -- t123 impl.go:213
          refine pu rfl (pv_ld ag3 rfl (hX6.blk.cell rfl)) ?_   -- t124 impl.go:213
          refine pu rfl (pv_fa fb36_2 rfl) ?_   -- t125 impl.go:213
          refine pu rfl (pv_ld ag9 rfl (hX6.blk.cell rfl)) ?_   -- t126 impl.go:213
          refine pu rfl (pv_bd rfl (bd30 _ _ _)) ?_   -- t127 impl.go:213
          refine push (T := tK) ⟨2, (classify (L[i]'hlt)).b, (classify (L[i]'hlt)).s⟩ sl27 okK (by decide) hX6.two.o1 hX6.two.ext.size rfl (fun _ => rfl) rfl rfl (by omega) (by unfold maxLen; omega) fun J1 v7 w7 ho7 hg7 => ?_   -- t128 impl.go:213
          refine pu rfl pv_as ?_   -- t4 impl.go:213
          refine LW.nil ?_
          exact ⟨f, i + 1, _, v7, 0, cs, vc, ⟨rfl, rfl, rfl, rfl, rfl, trivial⟩, ⟨(hX6.push1 hg7 ho7).two, hP.lit hlt (by have e := hP.eq; rw [pbl, if_pos hlt, if_neg (by rw [hLi]; exact hk0), if_neg (by rw [hLi]; exact hk1), if_pos (by rw [hLi]; exact hk2)] at e; (try rw [hLi] at e); exact e) (by simp only; omega) cs (by omega)⟩, by omega⟩
        · skip
          have hk2 : ¬ (classify (L[i]'hlt)).a = 2 := by simpa using hc
          refine SX.seq (SX.reg ?_)   -- region 40
          refine pu rfl (pv_eql rfl rfl) ?_   -- t131 impl.go:214
          refine pu rfl pv_as ?_   -- t130 impl.go:214
          refine LW.nil ?_
          refine SX.cond rfl (fun hc => ?_) (fun hc => ?_)   -- t130
          · skip
            have hk3 : (classify (L[i]'hlt)).a = 3 := by simpa using hc
            refine SX.seq (SX.reg ?_)   -- region 41
            refine pu rfl pv_mv ?_   -- t132 impl.go:215
            refine pu rfl pv_mv ?_   -- t133 impl.go:215
            refine pu rfl pv_mv ?_   -- t134 impl.go:215
            refine evd rfl (ev_call cb88 rfl (f88_ok vb vc out op cs _ w5 hX.two.o1 hX.two.ext.size hX.two.o2.rd (by omega) (fun h0 => ⟨by have := hP.ttl_cs h0; omega, by omega⟩)) ?_)   -- t135 impl.go:215
            rintro vb6 w6 ⟨ho6, hg6⟩
            have hX6 := hX.push1 hg6 ho6
            have hcbl := closeB_len out op cs
            refine pu rfl pv_as ?_   -- t4 impl.go:215
            refine LW.nil ?_
            refine SX.seq (SX.reg ?_)   -- region 42
            refine pu rfl pv_as ?_   -- t5 impl.go:216
            refine LW.nil ?_
            refine SX.reg ?_
            refine pu rfl pv_mv ?_   -- t136 impl.go:217
            refine pu rfl (pv_bd rfl (bd30 _ _ _)) ?_   -- t137 impl.go:217
            refine push (T := tK) ⟨6, 0, []⟩ sl27 okK (by decide) hX6.two.o1 hX6.two.ext.size rfl (fun _ => rfl) rfl rfl (by omega) (by unfold maxLen; omega) fun J1 v7 w7 ho7 hg7 => ?_   -- t138 impl.go:217
            refine pu rfl pv_as ?_   -- t4 impl.go:217
            refine LW.nil ?_
            exact ⟨f, i + 1, _, v7, 0, cs, vc, ⟨rfl, rfl, rfl, rfl, rfl, trivial⟩, ⟨(hX6.push1 hg7 ho7).two, hP.lit hlt (by have e := hP.eq; rw [pbl, if_pos hlt, if_neg (by rw [hLi]; exact hk0), if_neg (by rw [hLi]; exact hk1), if_neg (by rw [hLi]; exact hk2), if_pos (by rw [hLi]; exact hk3)] at e; (try rw [hLi] at e); exact e) (by simp) cs (by omega)⟩, by omega⟩
          · skip
            have hk3 : ¬ (classify (L[i]'hlt)).a = 3 := by simpa using hc
            refine SX.seq (SX.reg ?_)   -- region 44
            refine pu rfl (pv_eql rfl rfl) ?_   -- t141 impl.go:218
            refine pu rfl pv_as ?_   -- t140 impl.go:218
            refine LW.nil ?_
            refine SX.cond rfl (fun hc => ?_) (fun hc => ?_)   -- t140
            · skip
              have hk4 : (classify (L[i]'hlt)).a = 4 := by simpa using hc
              refine SX.seq (SX.reg ?_)   -- region 45
              refine pu rfl pv_mv ?_   -- t142 impl.go:219
              refine pu rfl pv_mv ?_   -- t143 impl.go:219
              refine pu rfl pv_mv ?_   -- t144 impl.go:219
              refine evd rfl (ev_call cb88 rfl (f88_ok vb vc out op cs _ w5 hX.two.o1 hX.two.ext.size hX.two.o2.rd (by omega) (fun h0 => ⟨by have := hP.ttl_cs h0; omega, by omega⟩)) ?_)   -- t145 impl.go:219
              rintro vb6 w6 ⟨ho6, hg6⟩
              have hX6 := hX.push1 hg6 ho6
              have hcbl := closeB_len out op cs
              refine pu rfl pv_as ?_   -- t4 impl.go:219
              refine LW.nil ?_
              refine SX.seq (SX.reg ?_)   -- region 46
              refine pu rfl pv_as ?_   -- t5 impl.go:220
              refine LW.nil ?_
              refine SX.reg ?_
              refine pu rfl (pv_fa fb36_2 rfl) ?_   -- t146 impl.go:221
              refine pu rfl (pv_ld ag9 rfl (hX6.blk.cell rfl)) ?_   -- t147 impl.go:221
              refine evd rfl (ev_bs1 (cs := tS.enc (classify (L[i]'hlt)).s) sl32 rfl rfl (by decide) fun w7 hn7 => ?_)   -- t148 impl.go:221
              have hX7 := hX6.new2 hn7.ext (Own.lit okS hn7 (Nat.le_refl _))
              refine pu rfl pv_as ?_   -- t6 impl.go:221
              refine LW.nil ?_
              exact ⟨f, i + 1, _, vb6, 3, _, _, ⟨rfl, rfl, rfl, rfl, rfl, trivial⟩, ⟨hX7.two, hP.newC hlt (by decide) (by have e := hP.eq; rw [pbl, if_pos hlt, if_neg (by rw [hLi]; exact hk0), if_neg (by rw [hLi]; exact hk1), if_neg (by rw [hLi]; exact hk2), if_neg (by rw [hLi]; exact hk3), if_pos (by rw [hLi]; exact hk4)] at e; (try rw [hLi] at e); exact e) (by omega)⟩, by omega⟩
            · skip
              have hk4 : ¬ (classify (L[i]'hlt)).a = 4 := by simpa using hc
              refine SX.seq (SX.reg ?_)   -- region 48
              refine pu rfl (pv_eql rfl rfl) ?_   -- t150 impl.go:222
              refine pu rfl pv_as ?_   -- t149 impl.go:222
              refine LW.nil ?_
              refine SX.cond rfl (fun hc => ?_) (fun hc => ?_)   -- t149
              · skip
                have hk5 : (classify (L[i]'hlt)).a = 5 := by simpa using hc
                refine SX.seq (SX.reg ?_)   -- region 49
                refine pu rfl pv_mv ?_   -- t151 impl.go:223
                refine pu rfl (pv_eql rfl rfl) ?_   -- t152 impl.go:223
                refine LW.nil ?_
                refine SX.cond rfl (fun hc => ?_) (fun hc => ?_)   -- t152
                · skip
                  have hq4 : op = 4 := by simpa using hc
                  refine SX.reg ?_
                  refine pu rfl pv_mv ?_   -- t153 impl.go:224
                  refine pu rfl (pv_fa fb36_2 rfl) ?_   -- t154 impl.go:224
                  refine pu rfl (pv_ld ag9 rfl (hX.blk.cell rfl)) ?_   -- t155 impl.go:224
                  refine push (T := tS) (classify (L[i]'hlt)).s sl32 okS (by decide) hX.two.o2 hX.two.ext.size rfl (fun _ => rfl) rfl rfl (by omega) (by unfold maxLen; omega) fun J1 v7 w7 ho7 hg7 => ?_   -- t156 impl.go:224
                  refine pu rfl pv_as ?_   -- t6 impl.go:224
                  refine LW.nil ?_
                  exact ⟨f, i + 1, out, vb, op, _, v7, ⟨rfl, rfl, rfl, rfl, rfl, trivial⟩, ⟨(hX.push2 hg7 ho7).two, hP.moreC hlt (by omega) (by have e := hP.eq; rw [pbl, if_pos hlt, if_neg (by rw [hLi]; exact hk0), if_neg (by rw [hLi]; exact hk1), if_neg (by rw [hLi]; exact hk2), if_neg (by rw [hLi]; exact hk3), if_neg (by rw [hLi]; exact hk4), if_pos (by rw [hLi]; exact hk5), if_pos hq4] at e; (try rw [hLi] at e); exact e) (by omega)⟩, by omega⟩
                · skip
                  have hq4 : ¬ op = 4 := by simpa using hc
                  refine SX.seq (SX.reg ?_)   -- region 51
                  refine pu rfl pv_mv ?_   -- t158 impl.go:226
                  refine pu rfl pv_mv ?_   -- t159 impl.go:226
                  refine pu rfl pv_mv ?_   -- t160 impl.go:226
                  refine evd rfl (ev_call cb88 rfl (f88_ok vb vc out op cs _ w5 hX.two.o1 hX.two.ext.size hX.two.o2.rd (by omega) (fun h0 => ⟨by have := hP.ttl_cs h0; omega, by omega⟩)) ?_)   -- t161 impl.go:226
                  rintro vb6 w6 ⟨ho6, hg6⟩
                  have hX6 := hX.push1 hg6 ho6
                  have hcbl := closeB_len out op cs
                  refine pu rfl pv_as ?_   -- t4 impl.go:226
                  refine LW.nil ?_
                  refine SX.seq (SX.reg ?_)   -- region 52
                  refine pu rfl pv_as ?_   -- t5 impl.go:227
                  refine LW.nil ?_
                  refine SX.reg ?_
                  refine pu rfl (pv_fa fb36_2 rfl) ?_   -- t162 impl.go:228
                  refine pu rfl (pv_ld ag9 rfl (hX6.blk.cell rfl)) ?_   -- t163 impl.go:228
                  refine evd rfl (ev_bs1 (cs := tS.enc (classify (L[i]'hlt)).s) sl32 rfl rfl (by decide) fun w7 hn7 => ?_)   -- t164 impl.go:228
                  have hX7 := hX6.new2 hn7.ext (Own.lit okS hn7 (Nat.le_refl _))
                  refine pu rfl pv_as ?_   -- t6 impl.go:228
                  refine LW.nil ?_
                  exact ⟨f, i + 1, _, vb6, 4, _, _, ⟨rfl, rfl, rfl, rfl, rfl, trivial⟩, ⟨hX7.two, hP.newC hlt (by decide) (by have e := hP.eq; rw [pbl, if_pos hlt, if_neg (by rw [hLi]; exact hk0), if_neg (by rw [hLi]; exact hk1), if_neg (by rw [hLi]; exact hk2), if_neg (by rw [hLi]; exact hk3), if_neg (by rw [hLi]; exact hk4), if_pos (by rw [hLi]; exact hk5), if_neg hq4] at e; (try rw [hLi] at e); exact e) (by omega)⟩, by omega⟩
              · skip
                have hk5 : ¬ (classify (L[i]'hlt)).a = 5 := by simpa using hc
                refine SX.seq (SX.reg ?_)   -- region 10
                refine pu rfl pv_mv ?_   -- t28 impl.go:231
                refine pu rfl (pv_eql rfl rfl) ?_   -- t29 impl.go:231
                refine pu rfl pv_mv ?_   -- t30 impl.go:231
                refine LW.sc false 2 2 30 31 33 (b := decide (op = 3)) (fun w' => w5 = w') rfl rfl rfl rfl (fun _ => rfl) rfl (fun ht => ?_) rfl (fun J w' hw' => ?_)   -- t33 := pick ['t30', "c:['true']", 't32']
                · skip
                  refine pu rfl pv_mv ?_   -- t31 impl.go:231
                  refine pu rfl (pv_eql rfl rfl) ?_   -- t32 impl.go:231
                  exact LW.nil ⟨rfl, rfl⟩
                subst hw'
                refine LW.nil ?_
                refine SX.cond rfl (fun hc => ?_) (fun hc => ?_)   -- t33
                · skip
                  have ho13 : op = 1 ∨ op = 3 := by simpa [scv] using hc
                  refine SX.reg ?_
                  refine pu rfl pv_mv ?_   -- t34 impl.go:232
                  refine pu rfl (pv_fa fb36_2 rfl) ?_   -- t35 impl.go:232
                  refine pu rfl (pv_ld ag9 rfl (hX.blk.cell rfl)) ?_   -- t36 impl.go:232
                  refine push (T := tS) (classify (L[i]'hlt)).s sl32 okS (by decide) hX.two.o2 hX.two.ext.size rfl (fun _ => rfl) rfl rfl (by omega) (by unfold maxLen; omega) fun J1 v7 w7 ho7 hg7 => ?_   -- t37 impl.go:232
                  refine pu rfl pv_as ?_   -- t6 impl.go:232
                  refine LW.nil ?_
                  exact ⟨f, i + 1, out, vb, op, _, v7, ⟨rfl, rfl, rfl, rfl, rfl, trivial⟩, ⟨(hX.push2 hg7 ho7).two, hP.moreC hlt (by omega) (by have e := hP.eq; rw [pbl, if_pos hlt, if_neg (by rw [hLi]; exact hk0), if_neg (by rw [hLi]; exact hk1), if_neg (by rw [hLi]; exact hk2), if_neg (by rw [hLi]; exact hk3), if_neg (by rw [hLi]; exact hk4), if_neg (by rw [hLi]; exact hk5), if_pos ho13] at e; (try rw [hLi] at e); exact e) (by omega)⟩, by omega⟩
                · skip
                  have ho13 : ¬ (op = 1 ∨ op = 3) := by simpa [scv] using hc
                  refine SX.seq (SX.reg ?_)   -- region 12
                  refine pu rfl pv_mv ?_   -- t39 impl.go:234
                  refine pu rfl pv_mv ?_   -- t40 impl.go:234
                  refine pu rfl pv_mv ?_   -- t41 impl.go:234
                  refine evd rfl (ev_call cb88 rfl (f88_ok vb vc out op cs _ w5 hX.two.o1 hX.two.ext.size hX.two.o2.rd (by omega) (fun h0 => ⟨by have := hP.ttl_cs h0; omega, by omega⟩)) ?_)   -- t42 impl.go:234
                  rintro vb6 w6 ⟨ho6, hg6⟩
                  have hX6 := hX.push1 hg6 ho6
                  have hcbl := closeB_len out op cs
                  refine pu rfl pv_as ?_   -- t4 impl.go:234
                  refine LW.nil ?_
                  refine SX.seq (SX.reg ?_)   -- region 13
                  refine pu rfl pv_as ?_   -- t5 impl.go:235
                  refine LW.nil ?_
                  refine SX.reg ?_
                  refine pu rfl (pv_fa fb36_2 rfl) ?_   -- t43 impl.go:236
                  refine pu rfl (pv_ld ag9 rfl (hX6.blk.cell rfl)) ?_   -- t44 impl.go:236
                  refine evd rfl (ev_bs1 (cs := tS.enc (classify (L[i]'hlt)).s) sl32 rfl rfl (by decide) fun w7 hn7 => ?_)   -- t45 impl.go:236
                  have hX7 := hX6.new2 hn7.ext (Own.lit okS hn7 (Nat.le_refl _))
                  refine pu rfl pv_as ?_   -- t6 impl.go:236
                  refine LW.nil ?_
                  exact ⟨f, i + 1, _, vb6, 1, _, _, ⟨rfl, rfl, rfl, rfl, rfl, trivial⟩, ⟨hX7.two, hP.newC hlt (by decide) (by have e := hP.eq; rw [pbl, if_pos hlt, if_neg (by rw [hLi]; exact hk0), if_neg (by rw [hLi]; exact hk1), if_neg (by rw [hLi]; exact hk2), if_neg (by rw [hLi]; exact hk3), if_neg (by rw [hLi]; exact hk4), if_neg (by rw [hLi]; exact hk5), if_neg ho13] at e; (try rw [hLi] at e); exact e) (by omega)⟩, by omega⟩
  · skip
    have hge : L.length ≤ i := by simp at hc; omega
    obtain ⟨hd1, hd2, hd3⟩ := hP.done hge
    refine SX.exit (xb_here ?_)
    refine SX.seq (SX.reg ?_)   -- region 54
    refine pu rfl pv_mv ?_   -- t165 impl.go:240
    refine pu rfl pv_mv ?_   -- t166 impl.go:240
    refine pu rfl pv_mv ?_   -- t167 impl.go:240
    refine evd rfl (ev_call cb88 rfl (f88_ok vb vc out op cs _ w2 hT.o1 hT.ext.size hT.o2.rd (by omega) (fun h0 => ⟨by have := hP.ttl_cs h0; omega, by omega⟩)) ?_)   -- t168 impl.go:240
    rintro vb6 w6 ⟨ho6, hg6⟩
    refine pu rfl pv_as ?_   -- t4 impl.go:240
    refine LW.nil ?_
    refine SX.seq (SX.reg ?_)   -- region 55
    refine pu rfl pv_mv ?_   -- t169 impl.go:241
    refine pu rfl pv_as ?_   -- t2 impl.go:241
    refine LW.nil ?_
    refine SX.ret ?_
    exact ⟨by rw [hpb, ← hd1]; exact (ho6.low hx1.size), hx1.trans ((hT.push1 hg6 ho6).ext), by rw [hpb, ← hd1]; omega, by rw [hpb, ← hd1]; omega⟩

theorem f28_ok (d : Str) (w : World) (hs : d.length ≤ 1048576) : Fn 28 [S d] w (fun v w' => Own w' w.heap.size tK v (parseBlocks d) ∧ Ext w w' ∧ (parseBlocks d).length ≤ 2 * d.length + 3 ∧ tl (parseBlocks d) ≤ d.length + 1) := by
  refine Fn.mk1 (N := 144) Yabc.func28 rfl rfl rfl rfl ?_
  refine SX.seq (SX.reg ?_)   -- region 0
  refine pu rfl pv_as ?_   -- t2 spec.go:608
  refine LW.nil ?_
  refine SX.seq (SX.reg ?_)   -- region 1
  refine pu rfl pv_mv ?_   -- t10 spec.go:609
  refine evd rfl (ev_call cb23 rfl (f23_ok d w (by omega)) ?_)   -- t11 spec.go:609
  rintro vL w1 ⟨hoL, hx1⟩
  have hL := hoL.rd
  have hlz := lsz_splitL d
  have hpb : parseBlocks d = pbl (splitL d) (splitL d).length 0 [] 0 [] := rfl
  generalize hLg : splitL d = L at *
  have hLn : L.length ≤ lsz L := by unfold lsz; omega
  have hLt : ttl L ≤ lsz L := by unfold lsz; omega
  refine pu rfl pv_as ?_   -- t3 spec.go:609
  refine LW.nil ?_
  refine SX.seq (SX.reg ?_)   -- region 2
  refine pu rfl pv_as ?_   -- t4 spec.go:610
  refine LW.nil ?_
  refine SX.seq (SX.reg ?_)   -- region 3
  refine pu rfl pv_as ?_   -- t5 spec.go:611
  refine LW.nil ?_
  refine SX.seq (SX.reg ?_)   -- region 4
  refine pu rfl pv_as ?_   -- t6 spec.go:612
  refine LW.nil ?_
  refine SX.seq (SX.reg ?_)   -- region 5
  refine pu rfl pv_as ?_   -- t7 spec.go:613
  refine LW.nil ?_
  refine SX.seq ?_
  refine SX.block ?_
  refine SX.loop7 (fun (f i : Nat) (out : List Tri) vb (op : Int) (cs : List Str) vc => [(3, vL), (4, vb), (5, iv op), (6, vc), (7, iv i)]) (fun f i out vb op cs vc w' => Two w1 w' tK vb out tS vc cs ∧ PInv L f i out op cs) (fun _ i _ _ _ _ _ => L.length - i) L.length 0 [] (.slice none 0 0) 0 [] (.slice none 0 0) ⟨rfl, rfl, rfl, rfl, rfl, trivial⟩ ⟨Two.start w1 tK tS, PInv.start L⟩ ?_
  rintro f i out vb op cs vc w2 ρ1 ⟨hT, hP⟩
  have hol := hP.olen
  have hcl0 := hP.clen
  have hiL := hP.hi
  refine SX.seq ?_
  refine SX.seq (SX.reg ?_)   -- region 6
  refine pu rfl pv_mv ?_   -- t12 spec.go:614
  refine pu rfl pv_mv ?_   -- t13 spec.go:614
  refine pu rfl (pv_lenV (T := tS) Yabc.underlying32 (hL.ext hT.ext) rfl) ?_   -- t14 spec.go:614
  refine pu rfl (pv_lss rfl rfl) ?_   -- t15 spec.go:614
  refine LW.nil ?_
  refine SX.cond rfl (fun hc => ?_) (fun hc => ?_)   -- t15
  · skip
    have hlt : i < L.length := by simpa using hc
    obtain ⟨f, rfl⟩ := hP.up hlt
    have hLi := getD_lt L i [] hlt
    have hcll := classify_len (L[i]'hlt)
    have hlm := ttl_mem L _ (List.getElem_mem hlt)
    refine SX.skip ?_
    refine SX.block ?_
    refine SX.seq (SX.reg ?_)   -- region 7
    refine pu rfl pv_mv ?_   -- t16 spec.go:615
    refine pu rfl pv_mv ?_   -- t17 spec.go:615
    refine pu rfl (pv_ix (T := tS) (k := i) Yabc.underlying32 sz9 okS (hL.ext hT.ext) rfl rfl (by omega) (by omega)) ?_   -- t18 spec.go:615
    refine pu rfl (pv_ld ag9 rfl ((hL.ext hT.ext).cell0 okS (by omega) rfl)) ?_   -- t19 spec.go:615
    refine evd rfl (ev_call cb25 rfl (f25_ok (L[i]'hlt) w2 (by omega)) ?_)   -- t20 spec.go:615
    rintro _ w3 ⟨rfl, hx3⟩
    have hT3 := hT.more hx3
    refine evd rfl (ev_al3 if36 fun w4 hn4 => ?_)   -- t8 spec.go:615
    refine evn (ev_stB (nw := encT (classify (L[i]'hlt))) hn4.blk rfl rfl sz36 rfl (encT_one _) fun w5 hb5 hg5 hz5 => ?_)   --  spec.go:615
    have hX : Tx w1 w5 tK vb out tS vc cs w3.heap.size 36 (encT (classify (L[i]'hlt))) := Tx.make hT3 hn4 hb5 hg5
    refine LW.nil ?_
    refine SX.seq (SX.reg ?_)   -- region 8
    refine pu rfl pv_mv ?_   -- t21 spec.go:616
    refine pu rfl (pv_add rfl rfl (by omega)) ?_   -- t22 spec.go:616
    refine pu rfl pv_as ?_   -- t7 spec.go:616
    refine LW.nil ?_
    refine SX.seq (SX.reg ?_)   -- region 9
    refine pu rfl (pv_fa fb36_0 rfl) ?_   -- t23 spec.go:617
    refine pu rfl (pv_ld ag3 rfl (hX.blk.cell rfl)) ?_   -- t24 spec.go:617
    refine LW.nil ?_
    refine SX.block ?_
    refine SX.seq (SX.reg ?_)   -- region 15
    refine pu rfl (pv_eql rfl rfl) ?_   -- t44 spec.go:618
    refine pu rfl pv_as ?_   -- t43 spec.go:618
    refine LW.nil ?_
    refine SX.cond rfl (fun hc => ?_) (fun hc => ?_)   -- t43
    · skip
      have hk0 : (classify (L[i]'hlt)).a = 0 := by simpa using hc
      refine SX.seq (SX.reg ?_)   -- region 16
      refine pu rfl pv_mv ?_   -- t45 spec.go:619
      refine pu rfl pv_mv ?_   -- t46 spec.go:619
      refine pu rfl pv_mv ?_   -- t47 spec.go:619
      refine evd rfl (ev_call cb89 rfl (f89_ok vb vc out op cs _ w5 hX.two.o1 hX.two.ext.size hX.two.o2.rd (by omega) (fun h0 => ⟨by have := hP.ttl_cs h0; omega, by omega⟩)) ?_)   -- t48 spec.go:619
      rintro vb6 w6 ⟨ho6, hg6⟩
      have hX6 := (hX.push1 hg6 ho6)
      have hcbl := closeB_len out op cs
      refine pu rfl pv_as ?_   -- t4 spec.go:619
      refine LW.nil ?_
      refine SX.seq (SX.reg ?_)   -- region 17
      refine pu rfl pv_as ?_   -- t5 spec.go:620
      refine LW.nil ?_
      refine SX.reg ?_
      refine pu rfl pv_as ?_   -- t6 spec.go:621
      refine LW.nil ?_
      exact ⟨f, i + 1, _, vb6, 0, [], .slice none 0 0, ⟨rfl, rfl, rfl, rfl, rfl, trivial⟩, ⟨hX6.nil2.two, hP.blank hlt (by rw [hLi]; exact hk0) [] (by simp)⟩, by omega⟩
    · skip
      have hk0 : ¬ (classify (L[i]'hlt)).a = 0 := by simpa using hc
      refine SX.seq (SX.reg ?_)   -- region 19
      refine pu rfl (pv_eql rfl rfl) ?_   -- t50 spec.go:622
      refine pu rfl pv_as ?_   -- t49 spec.go:622
      refine LW.nil ?_
      refine SX.cond rfl (fun hc => ?_) (fun hc => ?_)   -- t49
      · skip
        have hk1 : (classify (L[i]'hlt)).a = 1 := by simpa using hc
        refine SX.seq (SX.reg ?_)   -- region 20
        refine pu rfl pv_mv ?_   -- t51 spec.go:623
        refine pu rfl pv_mv ?_   -- t52 spec.go:623
        refine pu rfl pv_mv ?_   -- t53 spec.go:623
        refine evd rfl (ev_call cb89 rfl (f89_ok vb vc out op cs _ w5 hX.two.o1 hX.two.ext.size hX.two.o2.rd (by omega) (fun h0 => ⟨by have := hP.ttl_cs h0; omega, by omega⟩)) ?_)   -- t54 spec.go:623
        rintro vb6 w6 ⟨ho6, hg6⟩
        have hX6 := (hX.push1 hg6 ho6)
        have hcbl := closeB_len out op cs
        refine pu rfl pv_as ?_   -- t4 spec.go:623
        refine LW.nil ?_
        refine SX.seq (SX.reg ?_)   -- region 21
        refine pu rfl pv_as ?_   -- t5 spec.go:624
        refine LW.nil ?_
        refine SX.seq (SX.reg ?_)   -- region 22
        refine pu rfl pv_as ?_   -- t6 spec.go:625
        refine LW.nil ?_
        refine SX.seq (SX.reg ?_)   -- region 23
        refine pu rfl pv_as ?_   -- t9 spec.go:626
        refine LW.nil ?_
        refine SX.seq ?_
        refine SX.block ?_
        have hX6 := hX6.nil2
        have hlg := leadG_le nt (L.drop (i + 1))
        simp only [List.length_drop] at hlg
        refine SX.loop2 (fun (m : Nat) vcode => [(3, vL), (4, vb6), (5, iv 0), (6, .slice none 0 0), (7, iv (i + 1 + m : Nat)), (9, vcode)]) (fun m vcode w' => m ≤ leadG nt (L.drop (i + 1)) ∧ Ext w6 w' ∧ Own w' w6.heap.size tS vcode ((L.drop (i + 1)).take m)) (fun m _ => L.length - (i + 1 + m)) 0 (.slice none 0 0) ⟨rfl, rfl, rfl, rfl, rfl, rfl, trivial⟩ ⟨Nat.zero_le _, Ext.refl w6, by simpa using Own.nil w6 w6.heap.size tS⟩ ?_
        rintro m vcode w7 ρ7 ⟨hm, hx7, ho7⟩
        have hX7 := hX6.more hx7
        have hcl7 : ((L.drop (i + 1)).take m).length ≤ m := List.length_take_le _ _
        refine SX.seq ?_
        refine SX.seq (SX.reg ?_)   -- region 24
        refine pu rfl pv_mv ?_   -- t55 spec.go:627
        refine pu rfl pv_mv ?_   -- t56 spec.go:627
        refine pu rfl (pv_lenV (T := tS) Yabc.underlying32 (hL.ext hX7.two.ext) rfl) ?_   -- t57 spec.go:627
        refine pu rfl (pv_lss rfl rfl) ?_   -- t58 spec.go:627
        refine pu rfl pv_mv ?_   -- t59 spec.go:627
        refine LW.sc true 6 4 59 60 66 (b := !ticks (L.getD (i + 1 + m) [])) (fun w' => w7 = w') rfl rfl rfl rfl (fun _ => rfl) rfl (fun ht => ?_) rfl (fun J w' hw' => ?_)   -- t66 := pick ['t59', 't65', "c:['false']"]
        · skip
          have hj : i + 1 + m < L.length := by simp at ht; omega
          refine pu rfl pv_mv ?_   -- t60 spec.go:627
          refine pu rfl pv_mv ?_   -- t61 spec.go:627
          refine pu rfl (pv_ix (T := tS) (k := (i + 1 + m)) Yabc.underlying32 sz9 okS (hL.ext hX7.two.ext) rfl rfl (by omega) (by omega)) ?_   -- t62 spec.go:627
          refine pu rfl (pv_ld ag9 rfl ((hL.ext hX7.two.ext).cell0 okS (by omega) rfl)) ?_   -- t63 spec.go:627
          refine evd rfl (ev_call cb85 rfl (f85_ok _ w7) ?_)   -- t64 spec.go:627
          rintro _ _ ⟨rfl, rfl⟩
          refine pu rfl (pv_not rfl) ?_   -- t65 spec.go:627
          exact LW.nil ⟨congrArg Value.bool (by rw [getD_lt _ _ _ hj]), rfl⟩
        subst hw'
        refine LW.nil ?_
        refine SX.cond rfl (fun hc => ?_) (fun hc => ?_)   -- t66
        · skip
          simp only [scv, Bool.and_eq_true, decide_eq_true_eq] at hc
          have hj : i + 1 + m < L.length := by have := hc.1; omega
          have hst : ((L.drop (i + 1)).take m) ++ [L[i + 1 + m]'hj] = (L.drop (i + 1)).take (m + 1) := by rw [List.take_succ_eq_append_getElem (by simp; omega), List.getElem_drop]
          have hrs := leadG_step nt (L.drop (i + 1)) m (by simp; omega) hm (by rw [List.getElem_drop]; have := hc.2; rwa [getD_lt _ _ _ hj] at this)
          refine SX.skip ?_
          refine SX.block ?_
          refine SX.seq (SX.reg ?_)   -- region 25
          refine pu rfl pv_mv ?_   -- t67 spec.go:628
          refine pu rfl pv_mv ?_   -- t68 spec.go:628
          refine pu rfl pv_mv ?_   -- t69 spec.go:628
          refine pu rfl (pv_ix (T := tS) (k := (i + 1 + m)) Yabc.underlying32 sz9 okS (hL.ext hX7.two.ext) rfl rfl (by omega) (by omega)) ?_   -- t70 spec.go:628
          refine pu rfl (pv_ld ag9 rfl ((hL.ext hX7.two.ext).cell0 okS (by omega) rfl)) ?_   -- t71 spec.go:628
          refine push (T := tS) (L[i + 1 + m]'hj) sl32 okS (by decide) ho7 hx7.size rfl (fun _ => rfl) rfl rfl (by omega) (by unfold maxLen; omega) fun J1 v8 w8 ho8 hg8 => ?_   -- t72 spec.go:628
          refine pu rfl pv_as ?_   -- t9 spec.go:628
          refine LW.nil ?_
          refine SX.reg ?_
          refine pu rfl pv_mv ?_   -- t74 spec.go:629
          refine pu rfl (pv_add rfl rfl (by omega)) ?_   -- t75 spec.go:629
          refine pu rfl pv_as ?_   -- t7 spec.go:629
          refine LW.nil ?_
          exact ⟨m + 1, v8, ⟨rfl, rfl, rfl, rfl, rfl, rfl, trivial⟩, ⟨hrs, hx7.step hg8.grown (fun g e => (ho7.lt g e).1), by rw [← hst]; exact ho8⟩, by omega⟩
        · skip
          have hd : leadG nt (L.drop (i + 1)) = m := leadG_done _ _ _ hm (fun hk => by
            simp only [List.length_drop] at hk
            rw [List.getElem_drop]
            have hj : i + 1 + m < L.length := by omega
            have hj' : ((i + 1 + m : Nat) : Int) < (L.length : Int) := by omega
            rw [getD_lt _ _ _ hj] at hc
            simp only [scv, hj', decide_true, Bool.true_and] at hc
            exact hc)
          refine SX.exit (xb_here ?_)
          refine SX.mid (G := Value) (fun vcode => [(3, vL), (4, vb6), (5, iv 0), (6, .slice none 0 0), (7, iv (afterC L i : Nat)), (9, vcode)]) (fun vcode w' => Ext w6 w' ∧ Own w' w6.heap.size tS vcode (codeOf L i)) ?_ ?_
          · skip
            refine SX.seq (SX.reg ?_)   -- region 27
            refine pu rfl pv_mv ?_   -- t76 spec.go:631
            refine pu rfl pv_mv ?_   -- t77 spec.go:631
            refine pu rfl (pv_lenV (T := tS) Yabc.underlying32 (hL.ext hX7.two.ext) rfl) ?_   -- t78 spec.go:631
            refine pu rfl (pv_lss rfl rfl) ?_   -- t79 spec.go:631
            refine LW.nil ?_
            refine SX.cond rfl (fun hc => ?_) (fun hc => ?_)   -- t79
            · skip
              have hj : i + 1 + m < L.length := by simp at hc; omega
              refine SX.reg ?_
              refine pu rfl pv_mv ?_   -- t80 spec.go:632
              refine pu rfl (pv_add rfl rfl (by omega)) ?_   -- t81 spec.go:632
              refine pu rfl pv_as ?_   -- t7 spec.go:632
              refine LW.nil ?_
              exact ⟨vcode, ⟨rfl, rfl, rfl, rfl, congrArg iv (by rw [afterC, jOf, hd, if_pos hj] <;> push_cast <;> rfl), rfl, trivial⟩, hx7, by rw [codeOf, hd]; exact ho7⟩
            · skip
              have hj : ¬ i + 1 + m < L.length := by simp at hc; omega
              refine SX.skip ?_
              exact ⟨vcode, ⟨rfl, rfl, rfl, rfl, congrArg iv (by rw [afterC, jOf, hd, if_neg hj] <;> push_cast <;> rfl), rfl, trivial⟩, hx7, by rw [codeOf, hd]; exact ho7⟩
          rintro vcode w8 ρ8 ⟨hx8, ho8⟩
          have hcc := code_cost L i
          have hac := afterC_le L i hlt
          have hld := lsz_split L (i + 1)
          have hcl : (codeOf L i).length ≤ lsz (codeOf L i) ∧ ttl (codeOf L i) ≤ lsz (codeOf L i) := by unfold lsz; omega
          refine SX.seq (SX.reg ?_)   -- region 29
          refine pu rfl pv_mv ?_   -- t82 spec.go:634
          refine pu rfl (pv_lenV (T := tS) Yabc.underlying32 ho8.rd rfl) ?_   -- t83 spec.go:634
          refine pu rfl (pv_gtr rfl rfl) ?_   -- t84 spec.go:634
          refine LW.nil ?_
          refine SX.cond rfl (fun hc => ?_) (fun hc => ?_)   -- t84
          · skip
            have hcd : ¬ codeOf L i = [] := by intro e; simp [e] at hc
            refine SX.reg ?_
            refine pu rfl pv_mv ?_   -- t85 spec.go:635
            refine pu rfl pv_mv ?_   -- t86 spec.go:635
            refine evd rfl (ev_call cb90 rfl (f90_ok vcode (codeOf L i) [10] w8 ho8.rd rfl (by omega) (by omega)) ?_)   -- t87 spec.go:635
            rintro _ w9 ⟨rfl, hx9⟩
            have hX9 := (hX6.more hx8).more hx9
            refine pu rfl (pv_bd rfl (bd30 _ _ _)) ?_   -- t88 spec.go:635
            refine push (T := tK) ⟨5, 0, joinS [10] (codeOf L i)⟩ sl27 okK (by decide) hX9.two.o1 hX9.two.ext.size rfl (fun _ => rfl) rfl rfl (by omega) (by unfold maxLen; omega) fun J1 v12 w12 ho12 hg12 => ?_   -- t89 spec.go:635
            refine pu rfl pv_as ?_   -- t4 spec.go:635
            refine LW.nil ?_
            have hcode : codeOf L i ≠ [] := hcd
            have hcb : codeB (codeOf L i) = [⟨5, 0, joinS [10] (codeOf L i)⟩] := by rw [codeB, if_neg hcode]
            exact ⟨f, afterC L i, _, v12, 0, [], .slice none 0 0, ⟨rfl, rfl, rfl, rfl, rfl, trivial⟩, ⟨by rw [hcb]; exact (hX9.push1 hg12 ho12).two, hP.fence hlt (by rw [hLi]; exact hk0) (by rw [hLi]; exact hk1) [] (by simp)⟩, by omega⟩
          · skip
            have hcd : codeOf L i = [] := by simpa using hc
            refine SX.skip ?_
            have hcb : codeB (codeOf L i) = [] := by rw [codeB, if_pos hcd]
            exact ⟨f, afterC L i, _, vb6, 0, [], .slice none 0 0, ⟨rfl, rfl, rfl, rfl, rfl, trivial⟩, ⟨by rw [hcb, List.append_nil]; exact (hX6.more hx8).two, hP.fence hlt (by rw [hLi]; exact hk0) (by rw [hLi]; exact hk1) [] (by simp)⟩, by omega⟩
      · skip
        have hk1 : ¬ (classify (L[i]'hlt)).a = 1 := by simpa using hc
        refine SX.seq (SX.reg ?_)   -- region 31
        refine pu rfl (pv_eql rfl rfl) ?_   -- t92 spec.go:637
        refine pu rfl pv_as ?_   -- t91 spec.go:637
        refine LW.nil ?_
        refine SX.cond rfl (fun hc => ?_) (fun hc => ?_)   -- t91
        · skip
          have hk2 : (classify (L[i]'hlt)).a = 2 := by simpa using hc
          refine SX.seq (SX.reg ?_)   -- region 32
          refine pu rfl pv_mv ?_   -- t93 spec.go:638
          refine pu rfl pv_mv ?_   -- t94 spec.go:638
          refine pu rfl pv_mv ?_   -- t95 spec.go:638
          refine evd rfl (ev_call cb89 rfl (f89_ok vb vc out op cs _ w5 hX.two.o1 hX.two.ext.size hX.two.o2.rd (by omega) (fun h0 => ⟨by have := hP.ttl_cs h0; omega, by omega⟩)) ?_)   -- t96 spec.go:638
          rintro vb6 w6 ⟨ho6, hg6⟩
          have hX6 := (hX.push1 hg6 ho6)
          have hcbl := closeB_len out op cs
          refine pu rfl pv_as ?_   -- t4 spec.go:638
          refine LW.nil ?_
          refine SX.seq (SX.reg ?_)   -- region 33
          refine pu rfl pv_as ?_   -- t5 spec.go:639
          refine LW.nil ?_
          refine SX.seq (SX.reg ?_)   -- region 34
          refine pu rfl pv_as ?_   -- t6 spec.go:640
          refine LW.nil ?_
          refine SX.reg ?_
          refine pu rfl pv_mv ?_   -- t97 spec.go:641
          refine pu rfl (pv_fa fb36_1 rfl) ?_   -- t98 spec.go:641
          refine pu rfl (pv_ld ag3 rfl (hX6.blk.cell rfl)) ?_   -- t99 spec.go:641
          refine pu rfl (pv_fa fb36_2 rfl) ?_   -- t100 spec.go:641
          refine pu rfl (pv_ld ag9 rfl (hX6.blk.cell rfl)) ?_   -- t101 spec.go:641
          refine pu rfl (pv_bd rfl (bd30 _ _ _)) ?_   -- t102 spec.go:641
          refine push (T := tK) ⟨2, (classify (L[i]'hlt)).b, (classify (L[i]'hlt)).s⟩ sl27 okK (by decide) hX6.two.o1 hX6.two.ext.size rfl (fun _ => rfl) rfl rfl (by omega) (by unfold maxLen; omega) fun J1 v7 w7 ho7 hg7 => ?_   -- t103 spec.go:641
          refine pu rfl pv_as ?_   -- t4 spec.go:641
          refine LW.nil ?_
          exact ⟨f, i + 1, _, v7, 0, [], .slice none 0 0, ⟨rfl, rfl, rfl, rfl, rfl, trivial⟩, ⟨(hX6.push1 hg7 ho7).nil2.two, hP.lit hlt (by have e := hP.eq; rw [pbl, if_pos hlt, if_neg (by rw [hLi]; exact hk0), if_neg (by rw [hLi]; exact hk1), if_pos (by rw [hLi]; exact hk2)] at e; (try rw [hLi] at e); exact e) (by simp only; omega) [] (by simp)⟩, by omega⟩
        · skip
          have hk2 : ¬ (classify (L[i]'hlt)).a = 2 := by simpa using hc
          refine SX.seq (SX.reg ?_)   -- region 36
          refine pu rfl (pv_eql rfl rfl) ?_   -- t106 spec.go:642
          refine pu rfl pv_as ?_   -- t105 spec.go:642
          refine LW.nil ?_
          refine SX.cond rfl (fun hc => ?_) (fun hc => ?_)   -- t105
          · skip
            have hk3 : (classify (L[i]'hlt)).a = 3 := by simpa using hc
            refine SX.seq (SX.reg ?_)   -- region 37
            refine pu rfl pv_mv ?_   -- t107 spec.go:643
            refine pu rfl pv_mv ?_   -- t108 spec.go:643
            refine pu rfl pv_mv ?_   -- t109 spec.go:643
            refine evd rfl (ev_call cb89 rfl (f89_ok vb vc out op cs _ w5 hX.two.o1 hX.two.ext.size hX.two.o2.rd (by omega) (fun h0 => ⟨by have := hP.ttl_cs h0; omega, by omega⟩)) ?_)   -- t110 spec.go:643
            rintro vb6 w6 ⟨ho6, hg6⟩
            have hX6 := (hX.push1 hg6 ho6)
            have hcbl := closeB_len out op cs
            refine pu rfl pv_as ?_   -- t4 spec.go:643
            refine LW.nil ?_
            refine SX.seq (SX.reg ?_)   -- region 38
            refine pu rfl pv_as ?_   -- t5 spec.go:644
            refine LW.nil ?_
            refine SX.seq (SX.reg ?_)   -- region 39
            refine pu rfl pv_as ?_   -- t6 spec.go:645
            refine LW.nil ?_
            refine SX.reg ?_
            refine pu rfl pv_mv ?_   -- t111 spec.go:646
            refine pu rfl (pv_bd rfl (bd30 _ _ _)) ?_   -- t112 spec.go:646
            refine push (T := tK) ⟨6, 0, []⟩ sl27 okK (by decide) hX6.two.o1 hX6.two.ext.size rfl (fun _ => rfl) rfl rfl (by omega) (by unfold maxLen; omega) fun J1 v7 w7 ho7 hg7 => ?_   -- t113 spec.go:646
            refine pu rfl pv_as ?_   -- t4 spec.go:646
            refine LW.nil ?_
            exact ⟨f, i + 1, _, v7, 0, [], .slice none 0 0, ⟨rfl, rfl, rfl, rfl, rfl, trivial⟩, ⟨(hX6.push1 hg7 ho7).nil2.two, hP.lit hlt (by have e := hP.eq; rw [pbl, if_pos hlt, if_neg (by rw [hLi]; exact hk0), if_neg (by rw [hLi]; exact hk1), if_neg (by rw [hLi]; exact hk2), if_pos (by rw [hLi]; exact hk3)] at e; (try rw [hLi] at e); exact e) (by simp) [] (by simp)⟩, by omega⟩
          · skip
            have hk3 : ¬ (classify (L[i]'hlt)).a = 3 := by simpa using hc
            refine SX.seq (SX.reg ?_)   -- region 41
            refine pu rfl (pv_eql rfl rfl) ?_   -- t116 spec.go:647
            refine pu rfl pv_as ?_   -- t115 spec.go:647
            refine LW.nil ?_
            refine SX.cond rfl (fun hc => ?_) (fun hc => ?_)   -- t115
            · skip
              have hk4 : (classify (L[i]'hlt)).a = 4 := by simpa using hc
              refine SX.seq (SX.reg ?_)   -- region 42
              refine pu rfl pv_mv ?_   -- t117 spec.go:648
              refine pu rfl pv_mv ?_   -- t118 spec.go:648
              refine pu rfl pv_mv ?_   -- t119 spec.go:648
              refine evd rfl (ev_call cb89 rfl (f89_ok vb vc out op cs _ w5 hX.two.o1 hX.two.ext.size hX.two.o2.rd (by omega) (fun h0 => ⟨by have := hP.ttl_cs h0; omega, by omega⟩)) ?_)   -- t120 spec.go:648
              rintro vb6 w6 ⟨ho6, hg6⟩
              have hX6 := (hX.push1 hg6 ho6)
              have hcbl := closeB_len out op cs
              refine pu rfl pv_as ?_   -- t4 spec.go:648
              refine LW.nil ?_
              refine SX.seq (SX.reg ?_)   -- region 43
              refine pu rfl pv_as ?_   -- t5 spec.go:649
              refine LW.nil ?_
              refine SX.reg ?_
              refine pu rfl (pv_fa fb36_2 rfl) ?_   -- t121 spec.go:650
              refine pu rfl (pv_ld ag9 rfl (hX6.blk.cell rfl)) ?_   -- t122 spec.go:650
              refine evd rfl (ev_bs1 (cs := tS.enc (classify (L[i]'hlt)).s) sl32 rfl rfl (by decide) fun w7 hn7 => ?_)   -- t123 spec.go:650
              have hX7 := hX6.new2 hn7.ext (Own.lit okS hn7 (Nat.le_refl _))
              refine pu rfl pv_as ?_   -- t6 spec.go:650
              refine LW.nil ?_
              exact ⟨f, i + 1, _, vb6, 3, _, _, ⟨rfl, rfl, rfl, rfl, rfl, trivial⟩, ⟨hX7.two, hP.newC hlt (by decide) (by have e := hP.eq; rw [pbl, if_pos hlt, if_neg (by rw [hLi]; exact hk0), if_neg (by rw [hLi]; exact hk1), if_neg (by rw [hLi]; exact hk2), if_neg (by rw [hLi]; exact hk3), if_pos (by rw [hLi]; exact hk4)] at e; (try rw [hLi] at e); exact e) (by omega)⟩, by omega⟩
            · skip
              have hk4 : ¬ (classify (L[i]'hlt)).a = 4 := by simpa using hc
              refine SX.seq (SX.reg ?_)   -- region 45
              refine pu rfl (pv_eql rfl rfl) ?_   -- t125 spec.go:651
              refine pu rfl pv_as ?_   -- t124 spec.go:651
              refine LW.nil ?_
              refine SX.cond rfl (fun hc => ?_) (fun hc => ?_)   -- t124
              · skip
                have hk5 : (classify (L[i]'hlt)).a = 5 := by simpa using hc
                refine SX.seq (SX.reg ?_)   -- region 46
                refine pu rfl pv_mv ?_   -- t126 spec.go:652
                refine pu rfl (pv_eql rfl rfl) ?_   -- t127 spec.go:652
                refine LW.nil ?_
                refine SX.cond rfl (fun hc => ?_) (fun hc => ?_)   -- t127
                · skip
                  have hq4 : op = 4 := by simpa using hc
                  refine SX.reg ?_
                  refine pu rfl pv_mv ?_   -- t128 spec.go:653
                  refine pu rfl (pv_fa fb36_2 rfl) ?_   -- t129 spec.go:653
                  refine pu rfl (pv_ld ag9 rfl (hX.blk.cell rfl)) ?_   -- t130 spec.go:653
                  refine push (T := tS) (classify (L[i]'hlt)).s sl32 okS (by decide) hX.two.o2 hX.two.ext.size rfl (fun _ => rfl) rfl rfl (by omega) (by unfold maxLen; omega) fun J1 v7 w7 ho7 hg7 => ?_   -- t131 spec.go:653
                  refine pu rfl pv_as ?_   -- t6 spec.go:653
                  refine LW.nil ?_
                  exact ⟨f, i + 1, out, vb, op, _, v7, ⟨rfl, rfl, rfl, rfl, rfl, trivial⟩, ⟨(hX.push2 hg7 ho7).two, hP.moreC hlt (by omega) (by have e := hP.eq; rw [pbl, if_pos hlt, if_neg (by rw [hLi]; exact hk0), if_neg (by rw [hLi]; exact hk1), if_neg (by rw [hLi]; exact hk2), if_neg (by rw [hLi]; exact hk3), if_neg (by rw [hLi]; exact hk4), if_pos (by rw [hLi]; exact hk5), if_pos hq4] at e; (try rw [hLi] at e); exact e) (by omega)⟩, by omega⟩
                · skip
                  have hq4 : ¬ op = 4 := by simpa using hc
                  refine SX.seq (SX.reg ?_)   -- region 48
                  refine pu rfl pv_mv ?_   -- t133 spec.go:655
                  refine pu rfl pv_mv ?_   -- t134 spec.go:655
                  refine pu rfl pv_mv ?_   -- t135 spec.go:655
                  refine evd rfl (ev_call cb89 rfl (f89_ok vb vc out op cs _ w5 hX.two.o1 hX.two.ext.size hX.two.o2.rd (by omega) (fun h0 => ⟨by have := hP.ttl_cs h0; omega, by omega⟩)) ?_)   -- t136 spec.go:655
                  rintro vb6 w6 ⟨ho6, hg6⟩
                  have hX6 := (hX.push1 hg6 ho6)
                  have hcbl := closeB_len out op cs
                  refine pu rfl pv_as ?_   -- t4 spec.go:655
                  refine LW.nil ?_
                  refine SX.seq (SX.reg ?_)   -- region 49
                  refine pu rfl pv_as ?_   -- t5 spec.go:656
                  refine LW.nil ?_
                  refine SX.reg ?_
                  refine pu rfl (pv_fa fb36_2 rfl) ?_   -- t137 spec.go:657
                  refine pu rfl (pv_ld ag9 rfl (hX6.blk.cell rfl)) ?_   -- t138 spec.go:657
                  refine evd rfl (ev_bs1 (cs := tS.enc (classify (L[i]'hlt)).s) sl32 rfl rfl (by decide) fun w7 hn7 => ?_)   -- t139 spec.go:657
                  have hX7 := hX6.new2 hn7.ext (Own.lit okS hn7 (Nat.le_refl _))
                  refine pu rfl pv_as ?_   -- t6 spec.go:657
                  refine LW.nil ?_
                  exact ⟨f, i + 1, _, vb6, 4, _, _, ⟨rfl, rfl, rfl, rfl, rfl, trivial⟩, ⟨hX7.two, hP.newC hlt (by decide) (by have e := hP.eq; rw [pbl, if_pos hlt, if_neg (by rw [hLi]; exact hk0), if_neg (by rw [hLi]; exact hk1), if_neg (by rw [hLi]; exact hk2), if_neg (by rw [hLi]; exact hk3), if_neg (by rw [hLi]; exact hk4), if_pos (by rw [hLi]; exact hk5), if_neg hq4] at e; (try rw [hLi] at e); exact e) (by omega)⟩, by omega⟩
              · skip
                have hk5 : ¬ (classify (L[i]'hlt)).a = 5 := by simpa using hc
                refine SX.seq (SX.reg ?_)   -- region 10
                refine pu rfl pv_mv ?_   -- t25 spec.go:660
                refine pu rfl (pv_eql rfl rfl) ?_   -- t26 spec.go:660
                refine pu rfl pv_mv ?_   -- t27 spec.go:660
                refine LW.sc false 2 2 27 28 30 (b := decide (op = 3)) (fun w' => w5 = w') rfl rfl rfl rfl (fun _ => rfl) rfl (fun ht => ?_) rfl (fun J w' hw' => ?_)   -- t30 := pick ['t27', "c:['true']", 't29']
                · skip
                  refine pu rfl pv_mv ?_   -- t28 spec.go:660
                  refine pu rfl (pv_eql rfl rfl) ?_   -- t29 spec.go:660
                  exact LW.nil ⟨rfl, rfl⟩
                subst hw'
                refine LW.nil ?_
                refine SX.cond rfl (fun hc => ?_) (fun hc => ?_)   -- t30
                · skip
                  have ho13 : op = 1 ∨ op = 3 := by simpa [scv] using hc
                  refine SX.reg ?_
                  refine pu rfl pv_mv ?_   -- t31 spec.go:661
                  refine pu rfl (pv_fa fb36_2 rfl) ?_   -- t32 spec.go:661
                  refine pu rfl (pv_ld ag9 rfl (hX.blk.cell rfl)) ?_   -- t33 spec.go:661
                  refine push (T := tS) (classify (L[i]'hlt)).s sl32 okS (by decide) hX.two.o2 hX.two.ext.size rfl (fun _ => rfl) rfl rfl (by omega) (by unfold maxLen; omega) fun J1 v7 w7 ho7 hg7 => ?_   -- t34 spec.go:661
                  refine pu rfl pv_as ?_   -- t6 spec.go:661
                  refine LW.nil ?_
                  exact ⟨f, i + 1, out, vb, op, _, v7, ⟨rfl, rfl, rfl, rfl, rfl, trivial⟩, ⟨(hX.push2 hg7 ho7).two, hP.moreC hlt (by omega) (by have e := hP.eq; rw [pbl, if_pos hlt, if_neg (by rw [hLi]; exact hk0), if_neg (by rw [hLi]; exact hk1), if_neg (by rw [hLi]; exact hk2), if_neg (by rw [hLi]; exact hk3), if_neg (by rw [hLi]; exact hk4), if_neg (by rw [hLi]; exact hk5), if_pos ho13] at e; (try rw [hLi] at e); exact e) (by omega)⟩, by omega⟩
                · skip
                  have ho13 : ¬ (op = 1 ∨ op = 3) := by simpa [scv] using hc
                  refine SX.seq (SX.reg ?_)   -- region 12
                  refine pu rfl pv_mv ?_   -- t36 spec.go:663
                  refine pu rfl pv_mv ?_   -- t37 spec.go:663
                  refine pu rfl pv_mv ?_   -- t38 spec.go:663
                  refine evd rfl (ev_call cb89 rfl (f89_ok vb vc out op cs _ w5 hX.two.o1 hX.two.ext.size hX.two.o2.rd (by omega) (fun h0 => ⟨by have := hP.ttl_cs h0; omega, by omega⟩)) ?_)   -- t39 spec.go:663
                  rintro vb6 w6 ⟨ho6, hg6⟩
                  have hX6 := (hX.push1 hg6 ho6)
                  have hcbl := closeB_len out op cs
                  refine pu rfl pv_as ?_   -- t4 spec.go:663
                  refine LW.nil ?_
                  refine SX.seq (SX.reg ?_)   -- region 13
                  refine pu rfl pv_as ?_   -- t5 spec.go:664
                  refine LW.nil ?_
                  refine SX.reg ?_
                  refine pu rfl (pv_fa fb36_2 rfl) ?_   -- t40 spec.go:665
                  refine pu rfl (pv_ld ag9 rfl (hX6.blk.cell rfl)) ?_   -- t41 spec.go:665
                  refine evd rfl (ev_bs1 (cs := tS.enc (classify (L[i]'hlt)).s) sl32 rfl rfl (by decide) fun w7 hn7 => ?_)   -- t42 spec.go:665
                  have hX7 := hX6.new2 hn7.ext (Own.lit okS hn7 (Nat.le_refl _))
                  refine pu rfl pv_as ?_   -- t6 spec.go:665
                  refine LW.nil ?_
                  exact ⟨f, i + 1, _, vb6, 1, _, _, ⟨rfl, rfl, rfl, rfl, rfl, trivial⟩, ⟨hX7.two, hP.newC hlt (by decide) (by have e := hP.eq; rw [pbl, if_pos hlt, if_neg (by rw [hLi]; exact hk0), if_neg (by rw [hLi]; exact hk1), if_neg (by rw [hLi]; exact hk2), if_neg (by rw [hLi]; exact hk3), if_neg (by rw [hLi]; exact hk4), if_neg (by rw [hLi]; exact hk5), if_neg ho13] at e; (try rw [hLi] at e); exact e) (by omega)⟩, by omega⟩
  · skip
    have hge : L.length ≤ i := by simp at hc; omega
    obtain ⟨hd1, hd2, hd3⟩ := hP.done hge
    refine SX.exit (xb_here ?_)
    refine SX.seq (SX.reg ?_)   -- region 51
    refine pu rfl pv_mv ?_   -- t140 spec.go:669
    refine pu rfl pv_mv ?_   -- t141 spec.go:669
    refine pu rfl pv_mv ?_   -- t142 spec.go:669
    refine evd rfl (ev_call cb89 rfl (f89_ok vb vc out op cs _ w2 hT.o1 hT.ext.size hT.o2.rd (by omega) (fun h0 => ⟨by have := hP.ttl_cs h0; omega, by omega⟩)) ?_)   -- t143 spec.go:669
    rintro vb6 w6 ⟨ho6, hg6⟩
    refine pu rfl pv_as ?_   -- t2 spec.go:669
    refine LW.nil ?_
    refine SX.ret ?_
    exact ⟨by rw [hpb, ← hd1]; exact (ho6.low hx1.size), hx1.trans ((hT.push1 hg6 ho6).ext), by rw [hpb, ← hd1]; omega, by rw [hpb, ← hd1]; omega⟩

end Go.Proofs.Ybuabw
