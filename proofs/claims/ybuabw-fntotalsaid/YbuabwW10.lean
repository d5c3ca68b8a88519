/-
  WALKS. Layout, the model. Own work for the seat Ybuabw (the steps of each walk were typed by a program of ours off the printed code).
-/
import Derived.Test.YbuabwW8
import Derived.Test.YbuabwMem6
namespace Go.Proofs.Ybuabw
open Go.RowKit
set_option linter.unusedVariables false
set_option linter.unusedSimpArgs false
set_option maxRecDepth 20000

theorem f43_ok (v0 : Value) (l : List Tri) (z : Int) (w : World) (hr : Rd w tI v0 l) (hs : l.length ≤ 1073741824) (ht : tl l ≤ 1073741824) : Fn 43 [v0, iv z] w (fun v' w' => OwnR w' w.heap.size tF v' (layout l z) ∧ Ext w w') := by
  refine Fn.mk1 (N := 209) Yabc.func43 rfl rfl rfl rfl ?_
  refine SX.seq (SX.reg ?_)   -- region 0
  refine pu rfl pv_as ?_   -- t4 spec.go:897
  refine LW.nil ?_
  refine SX.seq (SX.reg ?_)   -- region 1
  refine pu rfl pv_mv ?_   -- t30 spec.go:898
  refine evd rfl (ev_call cb95 rfl (f95_ok z w) ?_)   -- t31 spec.go:898
  rintro _ _ ⟨rfl, rfl⟩
  refine pu rfl pv_as ?_   -- t5 spec.go:898
  refine LW.nil ?_
  refine SX.seq (SX.reg ?_)   -- region 2
  refine pu rfl pv_mv ?_   -- t32 spec.go:899
  refine evd rfl (ev_call cb96 rfl (f96_ok v0 l w hr hs) ?_)   -- t33 spec.go:899
  rintro vw w1 ⟨⟨P, hPw, hPr, hPq⟩, hx1⟩
  have hW1 := wid_pos z
  have hlay : layout l z = (layWs (wid z) ([], false, 0) (words l)).1 := rfl
  generalize hWg : wid z = W at *
  have hwl := wl_words l
  have hPn := words_count hPw
  refine pu rfl pv_as ?_   -- t6 spec.go:899
  refine LW.nil ?_
  refine SX.seq (SX.reg ?_)   -- region 3
  refine pu rfl pv_as ?_   -- t7 spec.go:900
  refine LW.nil ?_
  refine SX.seq (SX.reg ?_)   -- region 4
  refine pu rfl pv_as ?_   -- t8 spec.go:901
  refine LW.nil ?_
  refine SX.seq (SX.reg ?_)   -- region 5
  refine pu rfl pv_as ?_   -- t9 spec.go:902
  refine LW.nil ?_
  refine SX.seq ?_
  refine SX.seq (SX.reg ?_)   -- region 6
  refine pu rfl pv_as ?_   -- t10 spec.go:903
  refine LW.nil ?_
  refine SX.block ?_
  refine SX.loop5 (fun (i : Nat) (out : List Frg) vr (st : Bool) (col : Nat) => [(5, iv W), (6, vw), (7, vr), (8, .bool st), (9, iv col), (10, iv i)]) (fun i out vr st col w' => i ≤ P.length ∧ Ext w1 w' ∧ Own w' w1.heap.size tF vr out ∧ layWs W (out, st, col) ((words l).drop i) = layWs W ([], false, 0) (words l) ∧ out.length + wl ((words l).drop i) ≤ l.length + tl l ∧ col + wl ((words l).drop i) ≤ l.length + tl l) (fun i _ _ _ _ => P.length - i) 0 [] (.slice none 0 0) false 0 ⟨rfl, rfl, rfl, rfl, rfl, rfl, trivial⟩ ⟨Nat.zero_le _, Ext.refl w1, Own.nil _ _ _, rfl, by simpa using hwl, by simpa using hwl⟩ ?_
  rintro i out vr st col w2 ρ1 ⟨hi, hx, hown, hfin, hob, hcb⟩
  have hPl : (P.map (·.1)).length = P.length := by simp
  refine SX.seq ?_
  refine SX.seq (SX.reg ?_)   -- region 7
  refine pu rfl pv_mv ?_   -- t34 spec.go:903
  refine pu rfl pv_mv ?_   -- t35 spec.go:903
  refine pu rfl (pv_lenV (T := tV) Yabc.underlying94 (hPr.ext hx) rfl) ?_   -- t36 spec.go:903
  refine pu rfl (pv_lss rfl rfl) ?_   -- t37 spec.go:903
  refine LW.nil ?_
  refine SX.cond rfl (fun hc => ?_) (fun hc => ?_)   -- t37
  · skip
    have hlt : i < P.length := by simp at hc; omega
    have hcell := ws_cell (hPr.ext hx) hlt
    have hm1 := hPq _ (List.getElem_mem hlt)
    have hne := words_ne hPw hlt
    rw [words_drop hPw hlt] at hfin hob hcb
    generalize slv (P[i]).1 = vms at *
    generalize (P[i]).2 = ms at *
    rw [layWs_cons] at hfin
    simp only [wl] at hob hcb
    have hm0 : 0 < ms.length := List.length_pos_iff.2 hne
    refine SX.skip ?_
    refine SX.seq ?_
    refine SX.block ?_
    refine SX.seq (SX.reg ?_)   -- region 9
    refine pu rfl pv_mv ?_   -- t40 spec.go:904
    refine pu rfl pv_mv ?_   -- t41 spec.go:904
    refine pu rfl (pv_ix (T := tV) (k := i) Yabc.underlying94 sz23 okV (hPr.ext hx) rfl rfl (by omega) (by omega)) ?_   -- t42 spec.go:904
    refine pu rfl (pv_ld ag23 rfl hcell) ?_   -- t43 spec.go:904
    refine pu rfl pv_as ?_   -- t11 spec.go:904
    refine LW.nil ?_
    refine SX.seq (SX.reg ?_)   -- region 10
    refine pu rfl pv_as ?_   -- t12 spec.go:905
    refine LW.nil ?_
    refine SX.seq ?_
    refine SX.seq (SX.reg ?_)   -- region 11
    refine pu rfl pv_as ?_   -- t13 spec.go:906
    refine LW.nil ?_
    refine SX.block ?_
    refine SX.loop (G := Nat) (fun k => [(5, iv W), (6, vw), (7, vr), (8, .bool st), (9, iv col), (10, iv i), (11, vms), (12, iv (tl (ms.take k))), (13, iv k)]) (fun k w' => w2 = w' ∧ k ≤ ms.length) (fun k => ms.length - k) 0 ⟨rfl, rfl, rfl, rfl, rfl, rfl, rfl, rfl, rfl, trivial⟩ ⟨rfl, Nat.zero_le _⟩ ?_
    rintro k w2' ρ3 ⟨hw, hkm'⟩
    subst hw
    have htk := tl_le ms k
    refine SX.seq ?_
    refine SX.seq (SX.reg ?_)   -- region 12
    refine pu rfl pv_mv ?_   -- t44 spec.go:906
    refine pu rfl pv_mv ?_   -- t45 spec.go:906
    refine pu rfl (pv_lenV (T := tI) Yabc.underlying23 (hm1.ext hx) rfl) ?_   -- t46 spec.go:906
    refine pu rfl (pv_lss rfl rfl) ?_   -- t47 spec.go:906
    refine LW.nil ?_
    refine SX.cond rfl (fun hc => ?_) (fun hc => ?_)   -- t47
    · skip
      have hkm : k < ms.length := by simpa using hc
      have hts := tl_take ms k hkm
      have htk1 := tl_le ms (k + 1)
      refine SX.skip ?_
      refine SX.seq ?_
      refine SX.block ?_
      refine SX.reg ?_
      refine pu rfl pv_mv ?_   -- t50 spec.go:907
      refine pu rfl pv_mv ?_   -- t51 spec.go:907
      refine pu rfl pv_mv ?_   -- t52 spec.go:907
      refine pu rfl (pv_ix (T := tI) (k := k) Yabc.underlying23 sz67 okI (hm1.ext hx) rfl rfl (by omega) (by omega)) ?_   -- t53 spec.go:907
      refine pu rfl (pv_fa fb67_2 rfl) ?_   -- t54 spec.go:907
      refine pu rfl (pv_ld ag9 rfl ((hm1.ext hx).cellAt okI (by omega) rfl)) ?_   -- t55 spec.go:907
      refine pu rfl (pv_len_s rfl) ?_   -- t56 spec.go:907
      refine pu rfl (pv_add rfl rfl (by omega)) ?_   -- t57 spec.go:907
      refine pu rfl pv_as ?_   -- t12 spec.go:907
      refine LW.nil ?_
      refine SX.reg ?_
      refine pu rfl pv_mv ?_   -- t48 spec.go:906
      refine pu rfl (pv_add rfl rfl (by omega)) ?_   -- t49 spec.go:906
      refine pu rfl pv_as ?_   -- t13 spec.go:906
      refine LW.nil ?_
      exact ⟨k + 1, ⟨rfl, rfl, rfl, rfl, rfl, rfl, rfl, congrArg iv (by rw [hts]; push_cast; rfl), rfl, trivial⟩, ⟨rfl, by omega⟩, by omega⟩
    · skip
      have hge : k = ms.length := by simp at hc; omega
      subst hge
      rw [List.take_length] at *
      refine SX.exit (xb_here ?_)
      refine SX.seq ?_
      refine SX.seq (SX.reg ?_)   -- region 15
      refine pu rfl pv_mv ?_   -- t58 spec.go:909
      refine pu rfl pv_mv ?_   -- t59 spec.go:909
      refine pu rfl (pv_leq rfl rfl) ?_   -- t60 spec.go:909
      refine LW.nil ?_
      refine SX.cond rfl (fun hc => ?_) (fun hc => ?_)   -- t60
      · skip
        have hL : tl ms ≤ W := by simp at hc; omega
        have hpl : place W (out, st, col) ms = (out ++ fitsN (fBr W st col (tl ms)) ms ms.length, true, if (fBr W st col (tl ms)) = 1 then col + 1 + tl ms else tl ms) := by rw [place, if_pos hL]
        refine SX.seq (SX.reg ?_)   -- region 16
        refine pu rfl pv_as ?_   -- t14 spec.go:910
        refine LW.nil ?_
        refine SX.mid (G := Unit) (fun _ => [(5, iv W), (6, vw), (7, vr), (8, .bool st), (9, iv col), (10, iv i), (11, vms), (12, iv (tl ms)), (14, iv (fBr W st col (tl ms)))]) (fun _ w' => w2 = w') ?_ ?_
        · skip
          refine SX.seq (SX.reg ?_)   -- region 17
          refine pu rfl pv_mv ?_   -- t61 spec.go:911
          refine LW.nil ?_
          refine SX.cond rfl (fun hc => ?_) (fun hc => ?_)   -- t61
          · skip
            have hst : st = true := hc
            refine SX.seq (SX.reg ?_)   -- region 18
            refine pu rfl pv_mv ?_   -- t62 spec.go:912
            refine pu rfl (pv_add rfl rfl (by omega)) ?_   -- t63 spec.go:912
            refine pu rfl pv_mv ?_   -- t64 spec.go:912
            refine pu rfl (pv_add rfl rfl (by omega)) ?_   -- t65 spec.go:912
            refine pu rfl pv_mv ?_   -- t66 spec.go:912
            refine pu rfl (pv_leq rfl rfl) ?_   -- t67 spec.go:912
            refine LW.nil ?_
            refine SX.cond rfl (fun hc => ?_) (fun hc => ?_)   -- t67
            · skip
              have hfit : col + 1 + tl ms ≤ W := by simp at hc; omega
              refine SX.reg ?_
              refine pu rfl pv_as ?_   -- t14 spec.go:913
              refine LW.nil ?_
              exact ⟨(), ⟨rfl, rfl, rfl, rfl, rfl, rfl, rfl, rfl, by rw [fBr, if_pos hst, if_pos hfit]; rfl, trivial⟩, rfl⟩
            · skip
              have hfit : ¬ col + 1 + tl ms ≤ W := by simp at hc; omega
              refine SX.reg ?_
              refine pu rfl pv_as ?_   -- t14 spec.go:915
              refine LW.nil ?_
              exact ⟨(), ⟨rfl, rfl, rfl, rfl, rfl, rfl, rfl, rfl, by rw [fBr, if_pos hst, if_neg hfit]; rfl, trivial⟩, rfl⟩
          · skip
            have hst : st = false := hc
            refine SX.skip ?_
            exact ⟨(), ⟨rfl, rfl, rfl, rfl, rfl, rfl, rfl, rfl, by rw [fBr, if_neg (by rw [hst]; decide)]; rfl, trivial⟩, rfl⟩
        rintro _ w2' ρ6 hw
        subst hw
        generalize hfg : (fBr W st col (tl ms)) = f at *
        refine SX.seq ?_
        refine SX.seq (SX.reg ?_)   -- region 21
        refine pu rfl pv_as ?_   -- t15 spec.go:918
        refine LW.nil ?_
        refine SX.block ?_
        refine SX.loop2 (fun (j : Nat) vr2 => [(5, iv W), (6, vw), (7, vr2), (8, .bool st), (9, iv col), (10, iv i), (11, vms), (12, iv (tl ms)), (14, iv f), (15, iv j)]) (fun j vr2 w' => j ≤ ms.length ∧ Ext w1 w' ∧ Own w' w1.heap.size tF vr2 (out ++ fitsN f ms j)) (fun j _ => ms.length - j) 0 vr ⟨rfl, rfl, rfl, rfl, rfl, rfl, rfl, rfl, rfl, rfl, trivial⟩ ⟨Nat.zero_le _, hx, by simpa [fitsN] using hown⟩ ?_
        rintro j vr2 w7 ρ7 ⟨hjm', hx7, ho7⟩
        have hfl := fitsN_len f ms j
        have hol : (out ++ fitsN f ms j).length = out.length + j := by simp [hfl]
        refine SX.seq ?_
        refine SX.seq (SX.reg ?_)   -- region 22
        refine pu rfl pv_mv ?_   -- t68 spec.go:918
        refine pu rfl pv_mv ?_   -- t69 spec.go:918
        refine pu rfl (pv_lenV (T := tI) Yabc.underlying23 (hm1.ext hx7) rfl) ?_   -- t70 spec.go:918
        refine pu rfl (pv_lss rfl rfl) ?_   -- t71 spec.go:918
        refine LW.nil ?_
        refine SX.cond rfl (fun hc => ?_) (fun hc => ?_)   -- t71
        · skip
          have hjm : j < ms.length := by simpa using hc
          refine SX.skip ?_
          refine SX.seq ?_
          refine SX.block ?_
          refine SX.seq (SX.reg ?_)   -- region 24
          refine pu rfl pv_as ?_   -- t16 spec.go:919
          refine LW.nil ?_
          refine SX.mid (G := Unit) (fun _ => [(5, iv W), (6, vw), (7, vr2), (8, .bool st), (9, iv col), (10, iv i), (11, vms), (12, iv (tl ms)), (14, iv f), (15, iv j), (16, iv (if j = 0 then f else 0))]) (fun _ w' => w7 = w') ?_ ?_
          · skip
            refine SX.seq (SX.reg ?_)   -- region 25
            refine pu rfl pv_mv ?_   -- t74 spec.go:920
            refine pu rfl (pv_eql rfl rfl) ?_   -- t75 spec.go:920
            refine LW.nil ?_
            refine SX.cond rfl (fun hc => ?_) (fun hc => ?_)   -- t75
            · skip
              have hj0 : j = 0 := by simp at hc; omega
              refine SX.reg ?_
              refine pu rfl pv_mv ?_   -- t76 spec.go:921
              refine pu rfl pv_as ?_   -- t16 spec.go:921
              refine LW.nil ?_
              exact ⟨(), ⟨rfl, rfl, rfl, rfl, rfl, rfl, rfl, rfl, rfl, rfl, by rw [if_pos hj0]; rfl, trivial⟩, rfl⟩
            · skip
              have hj0 : ¬ j = 0 := by simp at hc; omega
              refine SX.skip ?_
              exact ⟨(), ⟨rfl, rfl, rfl, rfl, rfl, rfl, rfl, rfl, rfl, rfl, by rw [if_neg hj0]; rfl, trivial⟩, rfl⟩
          rintro _ w7' ρ9 hw
          subst hw
          skip
          refine SX.draw [(0, true), (1, true), (2, true), (3, true), (4, true), (5, true), (6, true), (7, true), (8, true), (9, true), (10, true), (11, true), (12, true), (13, true), (14, true), (15, true), (16, true), (17, true), (18, false), (19, false), (20, true)] (fun w' => Rd w' tI vms ms) (by kernel_rfl) (hm1.ext (hx7.trans (Ext.drew w7))) ?_   -- region 27
          refine du rfl rfl (fun w' hw' => pv_mv) ?_   -- 0: t77 spec.go:923 
          refine du rfl rfl (fun w' hw' => pv_mv) ?_   -- 1: t78 spec.go:923 
          refine du rfl rfl (fun w' hw' => pv_mv) ?_   -- 2: t79 spec.go:923 
          refine du rfl rfl (fun w' hw' => pv_mv) ?_   -- 3: t80 spec.go:923 
          refine du rfl rfl (fun w' hw' => pv_ix (T := tI) (k := j) Yabc.underlying23 sz67 okI hw' rfl rfl (by omega) (by omega)) ?_   -- 4: t81 spec.go:923 
          refine du rfl rfl (fun w' hw' => pv_fa fb67_0 rfl) ?_   -- 5: t82 spec.go:923 
          refine du rfl rfl (fun w' hw' => pv_ld ag3 rfl (hw'.cellAt okI (by omega) rfl)) ?_   -- 6: t83 spec.go:923 
          refine du rfl rfl (fun w' hw' => pv_mv) ?_   -- 7: t84 spec.go:923 
          refine du rfl rfl (fun w' hw' => pv_mv) ?_   -- 8: t85 spec.go:923 
          refine du rfl rfl (fun w' hw' => pv_ix (T := tI) (k := j) Yabc.underlying23 sz67 okI hw' rfl rfl (by omega) (by omega)) ?_   -- 9: t86 spec.go:923 
          refine du rfl rfl (fun w' hw' => pv_fa fb67_1 rfl) ?_   -- 10: t87 spec.go:923 
          refine du rfl rfl (fun w' hw' => pv_ld ag3 rfl (hw'.cellAt okI (by omega) rfl)) ?_   -- 11: t88 spec.go:923 
          refine du rfl rfl (fun w' hw' => pv_mv) ?_   -- 12: t89 spec.go:923 
          refine du rfl rfl (fun w' hw' => pv_mv) ?_   -- 13: t90 spec.go:923 
          refine du rfl rfl (fun w' hw' => pv_ix (T := tI) (k := j) Yabc.underlying23 sz67 okI hw' rfl rfl (by omega) (by omega)) ?_   -- 14: t91 spec.go:923 
          refine du rfl rfl (fun w' hw' => pv_fa fb67_2 rfl) ?_   -- 15: t92 spec.go:923 
          refine du rfl rfl (fun w' hw' => pv_ld ag9 rfl (hw'.cellAt okI (by omega) rfl)) ?_   -- 16: t93 spec.go:923 
          refine du rfl rfl (fun w' hw' => pv_bd rfl (bd76 _ _ _ _)) ?_   -- 17: t94 spec.go:923 
          refine dev rfl rfl (ev_bs1 (cs := encF ⟨if j = 0 then f else 0, (ms[j]'hjm).a, (ms[j]'hjm).b, (ms[j]'hjm).s⟩) sl25 rfl rfl (by decide) fun w8 hn8 => ?_)   -- 18: t95 spec.go:923 
          have hx8 := (hx7.trans (Ext.drew w7)).trans hn8.ext
          have ho8 := (ho7.ext (Ext.drew w7)).ext hn8.ext
          refine ⟨hm1.ext hx8, ?_⟩
          refine dev rfl rfl (ev_app1 (T := tF) (x1 := ⟨if j = 0 then f else 0, (ms[j]'hjm).a, (ms[j]'hjm).b, (ms[j]'hjm).s⟩) sl25 okF ho8 hx8.size hn8.blk rfl rfl (by omega) (by unfold maxLen; omega) fun v9 w9 ho9 hg9 => ?_)   -- 19: t96 spec.go:923 
          have hx9 := hx8.step hg9.grown (fun g e => (ho8.lt g e).1)
          refine ⟨hm1.ext hx9, ?_⟩
          refine du rfl rfl (fun w' hw' => pv_as) ?_   -- 20: t7 spec.go:923 
          refine DW.nil ?_
          refine SX.reg ?_
          refine pu rfl pv_mv ?_   -- t72 spec.go:918
          refine pu rfl (pv_add rfl rfl (by omega)) ?_   -- t73 spec.go:918
          refine pu rfl pv_as ?_   -- t15 spec.go:918
          refine LW.nil ?_
          exact ⟨j + 1, v9, ⟨rfl, rfl, rfl, rfl, rfl, rfl, rfl, rfl, rfl, rfl, trivial⟩, ⟨by omega, hx9, by rw [fitsN, ← List.append_assoc, getD_lt _ _ _ hjm]; exact ho9⟩, by omega⟩
        · skip
          have hge : j = ms.length := by simp at hc; omega
          subst hge
          refine SX.exit (xb_here ?_)
          refine SX.seq (SX.reg ?_)   -- region 28
          refine pu rfl pv_mv ?_   -- t97 spec.go:925
          refine pu rfl (pv_eql rfl rfl) ?_   -- t98 spec.go:925
          refine LW.nil ?_
          refine SX.cond rfl (fun hc => ?_) (fun hc => ?_)   -- t98
          · skip
            have hf1 : f = 1 := by simpa using hc
            refine SX.reg ?_
            refine pu rfl pv_mv ?_   -- t99 spec.go:926
            refine pu rfl (pv_add rfl rfl (by omega)) ?_   -- t100 spec.go:926
            refine pu rfl pv_mv ?_   -- t101 spec.go:926
            refine pu rfl (pv_add rfl rfl (by omega)) ?_   -- t102 spec.go:926
            refine pu rfl pv_as ?_   -- t9 spec.go:926
            refine LW.nil ?_
            refine SX.reg ?_
            refine pu rfl pv_as ?_   -- t8 spec.go:968
            refine LW.nil ?_
            refine SX.reg ?_
            refine pu rfl pv_mv ?_   -- t38 spec.go:903
            refine pu rfl (pv_add rfl rfl (by omega)) ?_   -- t39 spec.go:903
            refine pu rfl pv_as ?_   -- t10 spec.go:903
            refine LW.nil ?_
            exact ⟨i + 1, _, vr2, true, (col + 1 + tl ms), ⟨rfl, rfl, rfl, rfl, rfl, rfl, trivial⟩, ⟨by omega, hx7, ho7, by rw [hpl, if_pos hf1] at hfin; exact hfin, by omega, by omega⟩, by omega⟩
          · skip
            have hf1 : ¬ f = 1 := by simpa using hc
            refine SX.reg ?_
            refine pu rfl pv_mv ?_   -- t103 spec.go:928
            refine pu rfl pv_as ?_   -- t9 spec.go:928
            refine LW.nil ?_
            refine SX.reg ?_
            refine pu rfl pv_as ?_   -- t8 spec.go:968
            refine LW.nil ?_
            refine SX.reg ?_
            refine pu rfl pv_mv ?_   -- t38 spec.go:903
            refine pu rfl (pv_add rfl rfl (by omega)) ?_   -- t39 spec.go:903
            refine pu rfl pv_as ?_   -- t10 spec.go:903
            refine LW.nil ?_
            exact ⟨i + 1, _, vr2, true, (tl ms), ⟨rfl, rfl, rfl, rfl, rfl, rfl, trivial⟩, ⟨by omega, hx7, ho7, by rw [hpl, if_neg hf1] at hfin; exact hfin, by omega, by omega⟩, by omega⟩
      · skip
        have hL : ¬ tl ms ≤ W := by simp at hc; omega
        have hpl : place W (out, st, col) ms = (out ++ segs W ms st (tl ms) 0, true, if tl ms % W = 0 then W else tl ms % W) := by rw [place, if_neg hL]
        refine SX.seq (SX.reg ?_)   -- region 31
        refine pu rfl pv_mv ?_   -- t104 spec.go:931
        refine evd rfl (ev_make (T := tZ) (z0 := 0) (m := tl ms) sl96 okZ rfl rfl rfl (by omega) (by unfold maxLen; omega) (Nat.le_refl _) fun vo w3 hvo ho3 ho3' hx3 => ?_)   -- t105 spec.go:931
        subst hvo
        refine pu rfl pv_as ?_   -- t17 spec.go:931
        refine LW.nil ?_
        refine SX.seq (SX.reg ?_)   -- region 32
        refine pu rfl pv_mv ?_   -- t106 spec.go:932
        refine evd rfl (ev_make (T := tB) (z0 := 0) (m := tl ms) sl83 okB rfl rfl rfl (by omega) (by unfold maxLen; omega) hx3.size fun va w4 hva ho4 ho4' hx4 => ?_)   -- t107 spec.go:932
        subst hva
        have hol := owns_len ms
        have hal := cat_len ms
        have hro0 : OwnR w4 w2.heap.size tZ (.slice (some ⟨w2.heap.size, 0, none⟩) (tl ms) (tl ms)) (List.replicate (tl ms) 0) := (ho3.ext hx4).own
        have hra0 : OwnR w4 w2.heap.size tB (.slice (some ⟨w3.heap.size, 0, none⟩) (tl ms) (tl ms)) (List.replicate (tl ms) 0) := ho4.own
        have hx24 := hx3.trans hx4
        have hlt23 : w2.heap.size < w3.heap.size := (ho3.own.lt _ rfl).2
        have hsoa : Sep (.slice (some ⟨w2.heap.size, 0, none⟩) (tl ms) (tl ms)) (.slice (some ⟨w3.heap.size, 0, none⟩) (tl ms) (tl ms)) := .inr (by simp [Value.ownBlock]; omega)
        have hsao : Sep (.slice (some ⟨w3.heap.size, 0, none⟩) (tl ms) (tl ms)) (.slice (some ⟨w2.heap.size, 0, none⟩) (tl ms) (tl ms)) := .inr (by simp [Value.ownBlock]; omega)
        refine pu rfl pv_as ?_   -- t18 spec.go:932
        refine LW.nil ?_
        refine SX.seq (SX.reg ?_)   -- region 33
        refine pu rfl pv_as ?_   -- t19 spec.go:933
        refine LW.nil ?_
        refine SX.seq ?_
        refine SX.seq (SX.reg ?_)   -- region 34
        refine pu rfl pv_as ?_   -- t20 spec.go:934
        refine LW.nil ?_
        refine SX.block ?_
        refine SX.loop (G := Nat) (fun k => [(5, iv W), (6, vw), (7, vr), (8, .bool st), (9, iv col), (10, iv i), (11, vms), (12, iv (tl ms)), (17, (.slice (some ⟨w2.heap.size, 0, none⟩) (tl ms) (tl ms))), (18, (.slice (some ⟨w3.heap.size, 0, none⟩) (tl ms) (tl ms))), (19, iv (tl (ms.take k))), (20, iv k)]) (fun k w' => k ≤ ms.length ∧ Ext w2 w' ∧ OwnR w' w2.heap.size tZ (.slice (some ⟨w2.heap.size, 0, none⟩) (tl ms) (tl ms)) ((owns ms).take (tl (ms.take k)) ++ List.replicate ((owns ms).length - (tl (ms.take k))) 0) ∧ OwnR w' w2.heap.size tB (.slice (some ⟨w3.heap.size, 0, none⟩) (tl ms) (tl ms)) ((cat ms).take (tl (ms.take k)) ++ List.replicate ((cat ms).length - (tl (ms.take k))) 0)) (fun k => ms.length - k) 0 ⟨rfl, rfl, rfl, rfl, rfl, rfl, rfl, rfl, rfl, rfl, rfl, rfl, trivial⟩ ⟨Nat.zero_le _, hx24, by simpa [hol, tl] using hro0, by simpa [hal, tl] using hra0⟩ ?_
        rintro k w5 ρ5 ⟨hkm', hx5, ho5, ha5⟩
        have htk := tl_le ms k
        refine SX.seq ?_
        refine SX.seq (SX.reg ?_)   -- region 35
        refine pu rfl pv_mv ?_   -- t108 spec.go:934
        refine pu rfl pv_mv ?_   -- t109 spec.go:934
        refine pu rfl (pv_lenV (T := tI) Yabc.underlying23 (hm1.ext (hx.trans hx5)) rfl) ?_   -- t110 spec.go:934
        refine pu rfl (pv_lss rfl rfl) ?_   -- t111 spec.go:934
        refine LW.nil ?_
        refine SX.cond rfl (fun hc => ?_) (fun hc => ?_)   -- t111
        · skip
          have hkm : k < ms.length := by simpa using hc
          have hts := tl_take ms k hkm
          have htk1 := tl_le ms (k + 1)
          refine SX.skip ?_
          refine SX.seq ?_
          refine SX.block ?_
          refine SX.seq (SX.reg ?_)   -- region 37
          refine pu rfl pv_mv ?_   -- t114 spec.go:935
          refine pu rfl pv_mv ?_   -- t115 spec.go:935
          refine pu rfl (pv_ix (T := tI) (k := k) Yabc.underlying23 sz67 okI (hm1.ext (hx.trans hx5)) rfl rfl (by omega) (by omega)) ?_   -- t116 spec.go:935
          refine pu rfl (pv_fa fb67_2 rfl) ?_   -- t117 spec.go:935
          refine pu rfl (pv_ld ag9 rfl ((hm1.ext (hx.trans hx5)).cellAt okI (by omega) rfl)) ?_   -- t118 spec.go:935
          refine pu rfl pv_as ?_   -- t21 spec.go:935
          refine LW.nil ?_
          refine SX.seq (SX.reg ?_)   -- region 38
          refine pu rfl pv_as ?_   -- t22 spec.go:936
          refine LW.nil ?_
          refine SX.block ?_
          refine SX.loop (G := Nat) (fun j => [(5, iv W), (6, vw), (7, vr), (8, .bool st), (9, iv col), (10, iv i), (11, vms), (12, iv (tl ms)), (17, (.slice (some ⟨w2.heap.size, 0, none⟩) (tl ms) (tl ms))), (18, (.slice (some ⟨w3.heap.size, 0, none⟩) (tl ms) (tl ms))), (20, iv k), (21, S (ms[k]'hkm).s), (22, iv j), (19, iv ((tl (ms.take k) + j) : Nat))]) (fun j w' => j ≤ (ms[k]'hkm).s.length ∧ Ext w2 w' ∧ OwnR w' w2.heap.size tZ (.slice (some ⟨w2.heap.size, 0, none⟩) (tl ms) (tl ms)) ((owns ms).take (tl (ms.take k) + j) ++ List.replicate ((owns ms).length - (tl (ms.take k) + j)) 0) ∧ OwnR w' w2.heap.size tB (.slice (some ⟨w3.heap.size, 0, none⟩) (tl ms) (tl ms)) ((cat ms).take (tl (ms.take k) + j) ++ List.replicate ((cat ms).length - (tl (ms.take k) + j)) 0)) (fun j => (ms[k]'hkm).s.length - j) 0 ⟨rfl, rfl, rfl, rfl, rfl, rfl, rfl, rfl, rfl, rfl, rfl, rfl, rfl, rfl, trivial⟩ ⟨Nat.zero_le _, hx5, ho5, ha5⟩ ?_
          rintro j w6 ρ6 ⟨hj', hx6, ho6, ha6⟩
          have hfo := fill_len (owns ms) 0 (tl (ms.take k) + j) (by omega)
          have hfa := fill_len (cat ms) 0 (tl (ms.take k) + j) (by omega)
          refine SX.seq ?_
          refine SX.seq (SX.reg ?_)   -- region 39
          refine pu rfl pv_mv ?_   -- t119 spec.go:936
          refine pu rfl pv_mv ?_   -- t120 spec.go:936
          refine pu rfl (pv_len_s rfl) ?_   -- t121 spec.go:936
          refine pu rfl (pv_lss rfl rfl) ?_   -- t122 spec.go:936
          refine LW.nil ?_
          refine SX.cond rfl (fun hc => ?_) (fun hc => ?_)   -- t122
          · skip
            have hjl : j < (ms[k]'hkm).s.length := by simpa using hc
            refine SX.skip ?_
            refine SX.seq ?_
            refine SX.block ?_
            refine SX.seq (SX.reg ?_)   -- region 41
            refine pu rfl pv_mv ?_   -- t125 spec.go:937
            refine pu rfl pv_mv ?_   -- t126 spec.go:937
            refine pu rfl pv_mv ?_   -- t127 spec.go:937
            refine pu rfl (pv_ix (T := tZ) (k := (tl (ms.take k) + j)) Yabc.underlying96 sz3 okZ ho6.rd rfl rfl rfl (by omega)) ?_   -- t128 spec.go:937
            refine evn (ev_stE (T := tZ) (k : Int) okZ ho6 (k := (tl (ms.take k) + j)) (by omega) sz3 rfl rfl fun w7 ho7 hg7 hz7 hb7 => ?_)   --  spec.go:937
            have hx7 := hx6.step hg7 hb7
            have ha7 := ha6.keep hg7 hsao
            refine LW.nil ?_
            refine SX.seq (SX.reg ?_)   -- region 42
            refine pu rfl pv_mv ?_   -- t129 spec.go:938
            refine pu rfl pv_mv ?_   -- t130 spec.go:938
            refine pu rfl pv_mv ?_   -- t131 spec.go:938
            refine pu rfl pv_mv ?_   -- t132 spec.go:938
            refine pu rfl (pv_index (k := j) rfl rfl (by omega) (by omega)) ?_   -- t133 spec.go:938
            refine pu rfl (pv_ix (T := tB) (k := (tl (ms.take k) + j)) Yabc.underlying83 sz5 okB ha7.rd rfl rfl rfl (by omega)) ?_   -- t134 spec.go:938
            refine evn (ev_stE (T := tB) ((ms[k]'hkm).s.getD j 0) okB ha7 (k := (tl (ms.take k) + j)) (by omega) sz5 rfl rfl fun w8 ha8 hg8 hz8 hb8 => ?_)   --  spec.go:938
            have hx8 := hx7.step hg8 hb8
            have ho8 := ho7.keep hg8 hsoa
            refine LW.nil ?_
            refine SX.reg ?_
            refine pu rfl pv_mv ?_   -- t135 spec.go:939
            refine pu rfl (pv_add rfl rfl (by omega)) ?_   -- t136 spec.go:939
            refine pu rfl pv_as ?_   -- t19 spec.go:939
            refine LW.nil ?_
            refine SX.reg ?_
            refine pu rfl pv_mv ?_   -- t123 spec.go:936
            refine pu rfl (pv_add rfl rfl (by omega)) ?_   -- t124 spec.go:936
            refine pu rfl pv_as ?_   -- t22 spec.go:936
            refine LW.nil ?_
            have hmo := mOf_at ms k j hkm hjl
            have e1 : (k : Int) = (owns ms)[(tl (ms.take k) + j)]'(by omega) := by rw [owns_at, hmo.1]
            have e2 : (ms[k]'hkm).s.getD j 0 = (cat ms)[(tl (ms.take k) + j)]'(by omega) := by rw [← cat_get ms k j hkm hjl, getD_lt]
            rw [e1, fill_step _ _ _ (by omega)] at ho8
            rw [e2, fill_step _ _ _ (by omega)] at ha8
            exact ⟨j + 1, ⟨rfl, rfl, rfl, rfl, rfl, rfl, rfl, rfl, rfl, rfl, rfl, rfl, rfl, rfl, trivial⟩, ⟨by omega, hx8, ho8, ha8⟩, by omega⟩
          · skip
            have hjl : j = (ms[k]'hkm).s.length := by simp at hc; omega
            refine SX.exit (xb_here ?_)
            refine SX.reg ?_
            refine pu rfl pv_mv ?_   -- t112 spec.go:934
            refine pu rfl (pv_add rfl rfl (by omega)) ?_   -- t113 spec.go:934
            refine pu rfl pv_as ?_   -- t20 spec.go:934
            refine LW.nil ?_
            exact ⟨k + 1, ⟨rfl, rfl, rfl, rfl, rfl, rfl, rfl, rfl, rfl, rfl, congrArg iv (by rw [hts, hjl]), rfl, trivial⟩, ⟨by omega, hx6, by rw [hts, ← hjl]; exact ho6, by rw [hts, ← hjl]; exact ha6⟩, by omega⟩
        · skip
          have hge : k = ms.length := by simp at hc; omega
          subst hge
          rw [List.take_length, fill_end _ _ _ (by omega)] at ho5 ha5
          refine SX.exit (xb_here ?_)
          refine SX.seq (SX.reg ?_)   -- region 44
          refine pu rfl pv_as ?_   -- t23 spec.go:942
          refine LW.nil ?_
          refine SX.seq (SX.reg ?_)   -- region 45
          refine pu rfl pv_as ?_   -- t24 spec.go:943
          refine LW.nil ?_
          refine SX.block ?_
          have hOa : Oa w1 w5 vr out w2.heap.size (.slice (some ⟨w2.heap.size, 0, none⟩) (tl ms) (tl ms)) (owns ms) (.slice (some ⟨w3.heap.size, 0, none⟩) (tl ms) (tl ms)) (cat ms) := ⟨hx.trans hx5, hown.ext hx5, ho5, ha5, .inr (fun e => by have h1 := (hown.lt w2.heap.size e.symm).2; omega), .inr (fun e => by have h1 := (hown.lt w3.heap.size e.symm).2; omega)⟩
          refine SX.loop6 (fun (s c f : Nat) (out2 : List Frg) vr2 (col2 : Nat) => [(5, iv W), (6, vw), (7, vr2), (8, .bool st), (9, iv col2), (10, iv i), (11, vms), (12, iv (tl ms)), (17, (.slice (some ⟨w2.heap.size, 0, none⟩) (tl ms) (tl ms))), (18, (.slice (some ⟨w3.heap.size, 0, none⟩) (tl ms) (tl ms))), (23, iv s), (24, iv c)]) (fun s c f out2 vr2 col2 w' => s ≤ tl ms ∧ c ≤ s ∧ (s < tl ms → s = c * W) ∧ (s = tl ms → col2 = if tl ms % W = 0 then W else tl ms % W) ∧ Oa w1 w' vr2 out2 w2.heap.size (.slice (some ⟨w2.heap.size, 0, none⟩) (tl ms) (tl ms)) (owns ms) (.slice (some ⟨w3.heap.size, 0, none⟩) (tl ms) (tl ms)) (cat ms) ∧ out2 ++ segs W ms st f s = out ++ segs W ms st (tl ms) 0 ∧ tl ms - s ≤ f ∧ out2.length ≤ out.length + s) (fun s _ _ _ _ _ => tl ms - s) 0 0 (tl ms) out vr col ⟨rfl, rfl, rfl, rfl, rfl, rfl, rfl, rfl, rfl, rfl, rfl, rfl, trivial⟩ ⟨Nat.zero_le _, Nat.le_refl _, fun _ => by simp, fun e => by omega, hOa, rfl, by omega, by omega⟩ ?_
          rintro s c f out2 vr2 col2 w7 ρ7 ⟨hsL, hcs, hsc, hcol, hO7, hsg, hfu, hol2⟩
          refine SX.seq ?_
          refine SX.seq (SX.reg ?_)   -- region 46
          refine pu rfl pv_mv ?_   -- t137 spec.go:944
          refine pu rfl pv_mv ?_   -- t138 spec.go:944
          refine pu rfl (pv_lss rfl rfl) ?_   -- t139 spec.go:944
          refine LW.nil ?_
          refine SX.cond rfl (fun hc => ?_) (fun hc => ?_)   -- t139
          · skip
            have hsl : s < tl ms := by simp at hc; omega
            have hsc' := hsc hsl
            refine SX.skip ?_
            refine SX.block ?_
            refine SX.seq (SX.reg ?_)   -- region 47
            refine pu rfl pv_mv ?_   -- t140 spec.go:945
            refine pu rfl pv_as ?_   -- t25 spec.go:945
            refine LW.nil ?_
            refine SX.mid (G := Unit) (fun _ => [(5, iv W), (6, vw), (7, vr2), (8, .bool st), (9, iv col2), (10, iv i), (11, vms), (12, iv (tl ms)), (17, (.slice (some ⟨w2.heap.size, 0, none⟩) (tl ms) (tl ms))), (18, (.slice (some ⟨w3.heap.size, 0, none⟩) (tl ms) (tl ms))), (23, iv s), (24, iv c), (25, iv (min (tl ms) (s + W) : Nat))]) (fun _ w' => w7 = w') ?_ ?_
            · skip
              refine SX.seq (SX.reg ?_)   -- region 48
              refine pu rfl pv_mv ?_   -- t141 spec.go:946
              refine pu rfl pv_mv ?_   -- t142 spec.go:946
              refine pu rfl (pv_sub rfl rfl (by omega)) ?_   -- t143 spec.go:946
              refine pu rfl pv_mv ?_   -- t144 spec.go:946
              refine pu rfl (pv_gtr rfl rfl) ?_   -- t145 spec.go:946
              refine LW.nil ?_
              refine SX.cond rfl (fun hc => ?_) (fun hc => ?_)   -- t145
              · skip
                have hes : min (tl ms) (s + W) = s + W := by simp at hc; omega
                refine SX.reg ?_
                refine pu rfl pv_mv ?_   -- t146 spec.go:947
                refine pu rfl pv_mv ?_   -- t147 spec.go:947
                refine pu rfl (pv_addN ((s + W : Nat) : Int) rfl rfl (by omega) (by omega)) ?_   -- t148 spec.go:947
                refine pu rfl pv_as ?_   -- t25 spec.go:947
                refine LW.nil ?_
                exact ⟨(), ⟨rfl, rfl, rfl, rfl, rfl, rfl, rfl, rfl, rfl, rfl, rfl, rfl, by rw [hes]; rfl, trivial⟩, rfl⟩
              · skip
                have hes : min (tl ms) (s + W) = tl ms := by simp at hc; omega
                refine SX.skip ?_
                exact ⟨(), ⟨rfl, rfl, rfl, rfl, rfl, rfl, rfl, rfl, rfl, rfl, rfl, rfl, by rw [hes]; rfl, trivial⟩, rfl⟩
            rintro _ w7' ρ9 hw
            subst hw
            obtain ⟨e, heq⟩ : ∃ e, e = min (tl ms) (s + W) := ⟨_, rfl⟩
            rw [← heq]
            refine SX.seq (SX.reg ?_)   -- region 50
            refine pu rfl pv_mv ?_   -- t149 spec.go:949
            refine pu rfl pv_as ?_   -- t26 spec.go:949
            refine LW.nil ?_
            refine SX.seq ?_
            refine SX.block ?_
            refine SX.loop4 (fun (p f : Nat) (out3 : List Frg) vr3 => [(5, iv W), (6, vw), (7, vr3), (8, .bool st), (10, iv i), (11, vms), (12, iv (tl ms)), (17, (.slice (some ⟨w2.heap.size, 0, none⟩) (tl ms) (tl ms))), (18, (.slice (some ⟨w3.heap.size, 0, none⟩) (tl ms) (tl ms))), (23, iv s), (24, iv c), (25, iv e), (26, iv p)]) (fun p f out3 vr3 w' => s ≤ p ∧ p ≤ e ∧ Oa w1 w' vr3 out3 w2.heap.size (.slice (some ⟨w2.heap.size, 0, none⟩) (tl ms) (tl ms)) (owns ms) (.slice (some ⟨w3.heap.size, 0, none⟩) (tl ms) (tl ms)) (cat ms) ∧ out3 ++ segs W ms st f p = out ++ segs W ms st (tl ms) 0 ∧ tl ms - p ≤ f ∧ out3.length ≤ out.length + p) (fun p _ _ _ => e - p) s f out2 vr2 ⟨rfl, rfl, rfl, rfl, rfl, rfl, rfl, rfl, rfl, rfl, rfl, rfl, rfl, trivial⟩ ⟨Nat.le_refl _, by omega, hO7, hsg, hfu, hol2⟩ ?_
            rintro p f3 out3 vr3 w8 ρ8 ⟨hsp, hpe, hO8, hsg3, hfu3, hol3⟩
            refine SX.seq ?_
            refine SX.seq (SX.reg ?_)   -- region 51
            refine pu rfl pv_mv ?_   -- t150 spec.go:950
            refine pu rfl pv_mv ?_   -- t151 spec.go:950
            refine pu rfl (pv_lss rfl rfl) ?_   -- t152 spec.go:950
            refine LW.nil ?_
            refine SX.cond rfl (fun hc => ?_) (fun hc => ?_)   -- t152
            · skip
              have hpe2 : p < e := by simp at hc; omega
              have hmg := mEnd_gt ms p (by omega)
              refine SX.skip ?_
              refine SX.block ?_
              refine SX.seq (SX.reg ?_)   -- region 52
              refine pu rfl pv_mv ?_   -- t153 spec.go:951
              refine pu rfl pv_as ?_   -- t27 spec.go:951
              refine LW.nil ?_
              refine SX.seq ?_
              refine SX.block ?_
              refine SX.loop (G := Nat) (fun q => [(5, iv W), (6, vw), (7, vr3), (8, .bool st), (10, iv i), (11, vms), (12, iv (tl ms)), (17, (.slice (some ⟨w2.heap.size, 0, none⟩) (tl ms) (tl ms))), (18, (.slice (some ⟨w3.heap.size, 0, none⟩) (tl ms) (tl ms))), (23, iv s), (24, iv c), (25, iv e), (26, iv p), (27, iv q)]) (fun q w' => p ≤ q ∧ q ≤ e ∧ q ≤ mEnd ms p ∧ Oa w1 w' vr3 out3 w2.heap.size (.slice (some ⟨w2.heap.size, 0, none⟩) (tl ms) (tl ms)) (owns ms) (.slice (some ⟨w3.heap.size, 0, none⟩) (tl ms) (tl ms)) (cat ms)) (fun q => e - q) p ⟨rfl, rfl, rfl, rfl, rfl, rfl, rfl, rfl, rfl, rfl, rfl, rfl, rfl, rfl, trivial⟩ ⟨Nat.le_refl _, by omega, by omega, hO8⟩ ?_
              rintro q w9a ρ10 ⟨hpq, hqe, hqm, hO9a⟩
              refine SX.seq ?_
              refine SX.mid (G := Unit) (fun _ => [(5, iv W), (6, vw), (7, vr3), (8, .bool st), (10, iv i), (11, vms), (12, iv (tl ms)), (17, (.slice (some ⟨w2.heap.size, 0, none⟩) (tl ms) (tl ms))), (18, (.slice (some ⟨w3.heap.size, 0, none⟩) (tl ms) (tl ms))), (23, iv s), (24, iv c), (25, iv e), (26, iv p), (27, iv q), (167, .bool (decide (q < e) && decide ((owns ms).getD q 0 = (owns ms).getD p 0)))]) (fun _ w' => Oa w1 w' vr3 out3 w2.heap.size (.slice (some ⟨w2.heap.size, 0, none⟩) (tl ms) (tl ms)) (owns ms) (.slice (some ⟨w3.heap.size, 0, none⟩) (tl ms) (tl ms)) (cat ms)) ?_ ?_
              · skip
                rcases (Decidable.em (q < e)).symm with hj1 | hj1
                · skip
                  skip
                  refine SX.draw [(0, true), (1, true), (2, true), (3, true), (4, true), (5, true), (6, true), (7, true), (8, true), (9, true), (10, true), (11, true), (12, true), (13, true)] (fun w' => Oa w1 w' vr3 out3 w2.heap.size (.slice (some ⟨w2.heap.size, 0, none⟩) (tl ms) (tl ms)) (owns ms) (.slice (some ⟨w3.heap.size, 0, none⟩) (tl ms) (tl ms)) (cat ms)) (by kernel_rfl) (hO9a.more (Ext.drew w9a)) ?_   -- region 53
                  refine du rfl rfl (fun w' hw' => pv_mv) ?_   -- 0: t154 spec.go:952 
                  refine du rfl rfl (fun w' hw' => pv_mv) ?_   -- 1: t155 spec.go:952 
                  refine du rfl rfl (fun w' hw' => pv_lssF rfl rfl (by omega)) ?_   -- 2: t156 spec.go:952 
                  refine du rfl rfl (fun w' hw' => pv_mv) ?_   -- 3: t157 spec.go:952 
                  refine dgs rfl rfl rfl rfl ?_   -- 4: t158 spec.go:952 [guard (3, True)]
                  refine dgs rfl rfl rfl rfl ?_   -- 5: t159 spec.go:952 [guard (3, True)]
                  refine dgs rfl rfl rfl rfl ?_   -- 6: t160 spec.go:952 [guard (3, True)]
                  refine dgs rfl rfl rfl rfl ?_   -- 7: t161 spec.go:952 [guard (3, True)]
                  refine dgs rfl rfl rfl rfl ?_   -- 8: t162 spec.go:952 [guard (3, True)]
                  refine dgs rfl rfl rfl rfl ?_   -- 9: t163 spec.go:952 [guard (3, True)]
                  refine dgs rfl rfl rfl rfl ?_   -- 10: t164 spec.go:952 [guard (3, True)]
                  refine dgs rfl rfl rfl rfl ?_   -- 11: t165 spec.go:952 [guard (3, True)]
                  refine dgs rfl rfl rfl rfl ?_   -- 12: t166 spec.go:952 [guard (3, True)]
                  refine du rfl rfl (fun w' hw' => pv_pkF rfl) ?_   -- 13: t167 spec.go:952 
                  refine DW.nil ?_
                  exact ⟨(), ⟨rfl, rfl, rfl, rfl, rfl, rfl, rfl, rfl, rfl, rfl, rfl, rfl, rfl, rfl, congrArg Value.bool (by simp [hj1]), trivial⟩, hO9a.more (Ext.drew w9a)⟩
                · skip
                  have hgq := getD_lt (owns ms) q 0 (by omega)
                  have hgp := getD_lt (owns ms) p 0 (by omega)
                  skip
                  refine SX.draw [(0, true), (1, true), (2, true), (3, true), (4, true), (5, true), (6, true), (7, true), (8, true), (9, true), (10, true), (11, true), (12, true), (13, true)] (fun w' => Oa w1 w' vr3 out3 w2.heap.size (.slice (some ⟨w2.heap.size, 0, none⟩) (tl ms) (tl ms)) (owns ms) (.slice (some ⟨w3.heap.size, 0, none⟩) (tl ms) (tl ms)) (cat ms)) (by kernel_rfl) (hO9a.more (Ext.drew w9a)) ?_   -- region 53
                  have hgq := getD_lt (owns ms) q 0 (by omega)
                  have hgp := getD_lt (owns ms) p 0 (by omega)
                  refine du rfl rfl (fun w' hw' => pv_mv) ?_   -- 0: t154 spec.go:952 
                  refine du rfl rfl (fun w' hw' => pv_mv) ?_   -- 1: t155 spec.go:952 
                  refine du rfl rfl (fun w' hw' => pv_lssT rfl rfl (by omega)) ?_   -- 2: t156 spec.go:952 
                  refine du rfl rfl (fun w' hw' => pv_mv) ?_   -- 3: t157 spec.go:952 
                  refine dgr rfl rfl rfl rfl (fun w' hw' => pv_mv) ?_   -- 4: t158 spec.go:952 [guard (3, True)]
                  refine dgr rfl rfl rfl rfl (fun w' hw' => pv_mv) ?_   -- 5: t159 spec.go:952 [guard (3, True)]
                  refine dgr rfl rfl rfl rfl (fun w' hw' => pv_ix (T := tZ) (k := q) Yabc.underlying96 sz3 okZ hw'.ro.rd rfl rfl (by omega) (by omega)) ?_   -- 6: t160 spec.go:952 [guard (3, True)]
                  refine dgr rfl rfl rfl rfl (fun w' hw' => pv_ld ag3 rfl (hw'.ro.rd.cell0 okZ (by omega) rfl)) ?_   -- 7: t161 spec.go:952 [guard (3, True)]
                  refine dgr rfl rfl rfl rfl (fun w' hw' => pv_mv) ?_   -- 8: t162 spec.go:952 [guard (3, True)]
                  refine dgr rfl rfl rfl rfl (fun w' hw' => pv_mv) ?_   -- 9: t163 spec.go:952 [guard (3, True)]
                  refine dgr rfl rfl rfl rfl (fun w' hw' => pv_ix (T := tZ) (k := p) Yabc.underlying96 sz3 okZ hw'.ro.rd rfl rfl (by omega) (by omega)) ?_   -- 10: t164 spec.go:952 [guard (3, True)]
                  refine dgr rfl rfl rfl rfl (fun w' hw' => pv_ld ag3 rfl (hw'.ro.rd.cell0 okZ (by omega) rfl)) ?_   -- 11: t165 spec.go:952 [guard (3, True)]
                  refine dgr rfl rfl rfl rfl (fun w' hw' => pv_eql rfl rfl) ?_   -- 12: t166 spec.go:952 [guard (3, True)]
                  refine du rfl rfl (fun w' hw' => pv_pkT rfl) ?_   -- 13: t167 spec.go:952 
                  refine DW.nil ?_
                  exact ⟨(), ⟨rfl, rfl, rfl, rfl, rfl, rfl, rfl, rfl, rfl, rfl, rfl, rfl, rfl, rfl, congrArg Value.bool (by rw [hgq, hgp]; simp [hj1]), trivial⟩, hO9a.more (Ext.drew w9a)⟩
              rintro _ w10 ρ11 hO10
              refine SX.cond rfl (fun hc => ?_) (fun hc => ?_)   -- t167
              · skip
                have hc : (decide (q < e) && decide ((owns ms).getD q 0 = (owns ms).getD p 0)) = true := hc
                simp only [Bool.and_eq_true, decide_eq_true_eq] at hc
                obtain ⟨hj1, hj2⟩ := hc
                rw [getD_lt _ _ _ (by omega), getD_lt _ _ _ (by omega), owns_at, owns_at] at hj2
                have hrs := run_step (ms := ms) (p := p) (q := q) (e := e) (by omega) (by omega) hqm hj1 (by omega)
                refine SX.skip ?_
                refine SX.block ?_
                refine SX.reg ?_
                refine pu rfl pv_mv ?_   -- t168 spec.go:953
                refine pu rfl (pv_add rfl rfl (by omega)) ?_   -- t169 spec.go:953
                refine pu rfl pv_as ?_   -- t27 spec.go:953
                refine LW.nil ?_
                exact ⟨q + 1, ⟨rfl, rfl, rfl, rfl, rfl, rfl, rfl, rfl, rfl, rfl, rfl, rfl, rfl, rfl, trivial⟩, ⟨by omega, by omega, hrs, hO10⟩, by omega⟩
              · skip
                have hc : (decide (q < e) && decide ((owns ms).getD q 0 = (owns ms).getD p 0)) = false := hc
                have hend : q < e → mOf ms q ≠ mOf ms p := by
                  intro h1 h2
                  rw [getD_lt _ _ _ (by omega), getD_lt _ _ _ (by omega), owns_at, owns_at] at hc
                  simp [h1, h2] at hc
                have hqd := run_done (ms := ms) (by omega) hpq hqm hqe hend
                have hce := cEnd_chunk hsc' hsp hpe2 heq
                have hmp := mOf_lt ms p (by omega)
                have hdv := div_in hsc' hsp (by omega : p < s + W)
                refine SX.exit (xb_here ?_)
                refine SX.seq (SX.reg ?_)   -- region 55
                refine pu rfl pv_as ?_   -- t28 spec.go:955
                refine LW.nil ?_
                refine SX.mid (G := Unit) (fun _ => [(5, iv W), (6, vw), (7, vr3), (8, .bool st), (10, iv i), (11, vms), (12, iv (tl ms)), (17, (.slice (some ⟨w2.heap.size, 0, none⟩) (tl ms) (tl ms))), (18, (.slice (some ⟨w3.heap.size, 0, none⟩) (tl ms) (tl ms))), (23, iv s), (24, iv c), (25, iv e), (26, iv p), (27, iv q), (28, iv (brOf W p st))]) (fun _ w' => w10 = w') ?_ ?_
                · skip
                  refine SX.seq (SX.reg ?_)   -- region 56
                  refine pu rfl pv_mv ?_   -- t170 spec.go:956
                  refine pu rfl pv_mv ?_   -- t171 spec.go:956
                  refine pu rfl (pv_eql rfl rfl) ?_   -- t172 spec.go:956
                  refine pu rfl pv_mv ?_   -- t173 spec.go:956
                  refine LW.sc true 5 3 173 174 179 (b := scv false (decide ((0 : Int) < c)) st) (fun w' => w10 = w') rfl rfl rfl rfl (fun _ => rfl) rfl (fun ht => ?_) rfl (fun J w' hw' => ?_)   -- t179 := pick ['t173', 't178', "c:['false']"]
                  · skip
                    refine pu rfl pv_mv ?_   -- t174 spec.go:956
                    refine pu rfl (pv_gtr rfl rfl) ?_   -- t175 spec.go:956
                    refine pu rfl pv_mv ?_   -- t176 spec.go:956
                    refine LW.sc false 1 6 176 177 178 (b := st) (fun w' => w10 = w') rfl rfl rfl rfl (fun _ => rfl) rfl (fun ht => ?_) rfl (fun J w' hw' => ?_)   -- t178 := pick ['t176', "c:['true']", 't177']
                    · skip
                      refine pu rfl pv_mv ?_   -- t177 spec.go:956
                      exact LW.nil ⟨rfl, rfl⟩
                    subst hw'
                    exact LW.nil ⟨rfl, rfl⟩
                  subst hw'
                  refine LW.nil ?_
                  refine SX.cond rfl (fun hc => ?_) (fun hc => ?_)   -- t179
                  · skip
                    have hbr : brOf W p st = 2 := by
                      simp only [scv, Bool.and_eq_true, decide_eq_true_eq, Bool.or_eq_true] at hc
                      rw [brOf, if_pos]
                      refine ⟨hdv.2.2 (by omega), ?_⟩
                      rcases hc.2 with h | h
                      · left
                        have h3 : 1 ≤ c := by omega
                        have h4 := Nat.mul_le_mul_right W h3
                        omega
                      · exact .inr h
                    refine SX.reg ?_
                    refine pu rfl pv_as ?_   -- t28 spec.go:957
                    refine LW.nil ?_
                    exact ⟨(), ⟨rfl, rfl, rfl, rfl, rfl, rfl, rfl, rfl, rfl, rfl, rfl, rfl, rfl, rfl, by rw [hbr]; rfl, trivial⟩, rfl⟩
                  · skip
                    have hbr : brOf W p st = 0 := by
                      rw [brOf, if_neg]
                      rintro ⟨h1, h2⟩
                      have h3 := hdv.2.1 h1
                      have h4 : (p : Int) = (s : Int) := by omega
                      simp only [scv, h4, decide_true, Bool.true_and, Bool.or_eq_false_iff, decide_eq_false_iff_not] at hc
                      rcases h2 with h2 | h2
                      · have h5 : c = 0 := by omega
                        rw [h5] at hsc'
                        omega
                      · rw [h2] at hc; exact absurd hc.2 (by decide)
                    refine SX.skip ?_
                    exact ⟨(), ⟨rfl, rfl, rfl, rfl, rfl, rfl, rfl, rfl, rfl, rfl, rfl, rfl, rfl, rfl, by rw [hbr]; rfl, trivial⟩, rfl⟩
                rintro _ w10' ρ12 hw
                subst hw
                refine SX.seq (SX.reg ?_)   -- region 58
                refine pu rfl pv_mv ?_   -- t180 spec.go:959
                refine pu rfl pv_mv ?_   -- t181 spec.go:959
                refine pu rfl pv_mv ?_   -- t182 spec.go:959
                refine pu rfl (pv_ix (T := tZ) (k := p) Yabc.underlying96 sz3 okZ hO10.ro.rd rfl rfl rfl (by omega)) ?_   -- t183 spec.go:959
                refine pu rfl (pv_ld ag3 rfl (hO10.ro.rd.cell0 okZ (k := p) (by omega) rfl)) ?_   -- t184 spec.go:959
                refine pu rfl (pv_ix (T := tI) (k := mOf ms p) Yabc.underlying23 sz67 okI (hm1.ext hO10.ext) rfl rfl (owns_at ms p (by omega)) hmp) ?_   -- t185 spec.go:959
                refine pu rfl (pv_ldE ag67 okI sz67 (hm1.ext hO10.ext) hmp rfl) ?_   -- t186 spec.go:959
                refine evd rfl (ev_al3 if67 fun w11 hn11 => ?_)   -- t29 spec.go:959
                refine evn (ev_stB hn11.blk rfl rfl sz67 rfl (encT_one _) fun w12 hb12 hg12 hz12 => ?_)   --  spec.go:959
                have hO12 := hO10.make hn11 hg12
                refine LW.nil ?_
                refine SX.seq ?_
                refine SX.draw [(0, true), (1, true), (2, true), (3, true), (4, true), (5, true), (6, true), (7, true), (8, true), (9, true), (10, true), (11, true), (12, false), (13, false), (14, true)] (fun w' => Blk w' w10.heap.size 67 (encT (ms[mOf ms p]'hmp)) ∧ OwnR w' w2.heap.size tB (.slice (some ⟨w3.heap.size, 0, none⟩) (tl ms) (tl ms)) (cat ms)) (by kernel_rfl) (⟨hb12.ext (Ext.drew w12), hO12.ra.ext (Ext.drew w12)⟩) ?_   -- region 59
                refine du rfl rfl (fun w' hw' => pv_mv) ?_   -- 0: t187 spec.go:960 
                refine du rfl rfl (fun w' hw' => pv_mv) ?_   -- 1: t188 spec.go:960 
                refine du rfl rfl (fun w' hw' => pv_fa fb67_0 rfl) ?_   -- 2: t189 spec.go:960 
                refine du rfl rfl (fun w' hw' => pv_ld ag3 rfl (hw'.1.cell rfl)) ?_   -- 3: t190 spec.go:960 
                refine du rfl rfl (fun w' hw' => pv_fa fb67_1 rfl) ?_   -- 4: t191 spec.go:960 
                refine du rfl rfl (fun w' hw' => pv_ld ag3 rfl (hw'.1.cell rfl)) ?_   -- 5: t192 spec.go:960 
                refine du rfl rfl (fun w' hw' => pv_mv) ?_   -- 6: t193 spec.go:960 
                refine du rfl rfl (fun w' hw' => pv_mv) ?_   -- 7: t194 spec.go:960 
                refine du rfl rfl (fun w' hw' => pv_mv) ?_   -- 8: t195 spec.go:960 
                refine du rfl rfl (fun w' hw' => pv_fromTo (n := p) (k := q) Yabc.underlying83 sz5 rfl rfl rfl rfl rfl (by omega) (by omega)) ?_   -- 9: t196 spec.go:960 
                refine du rfl rfl (fun w' hw' => pv_str (OwnR.to okB (OwnR.from okB hw'.2 p (by omega)) (q - p) (by simp; omega)).rd rfl) ?_   -- 10: t197 spec.go:960 
                refine du rfl rfl (fun w' hw' => pv_bd rfl (bd76 _ _ _ _)) ?_   -- 11: t198 spec.go:960 
                refine dev rfl rfl (ev_bs1 (cs := encF ⟨brOf W p st, (ms[mOf ms p]'hmp).a, (ms[mOf ms p]'hmp).b, ((cat ms).drop p).take (q - p)⟩) sl25 rfl rfl (by decide) fun w13 hn13 => ?_)   -- 12: t199 spec.go:960 
                have hO13 := (hO12.more (Ext.drew w12)).more hn13.ext
                refine ⟨⟨(hb12.ext (Ext.drew w12)).ext hn13.ext, hO13.ra⟩, ?_⟩
                refine dev rfl rfl (ev_app1 (T := tF) (x1 := ⟨brOf W p st, (ms[mOf ms p]'hmp).a, (ms[mOf ms p]'hmp).b, ((cat ms).drop p).take (q - p)⟩) sl25 okF hO13.own hO13.ext.size hn13.blk rfl rfl (by omega) (by unfold maxLen; omega) fun v14 w14 ho14 hg14 => ?_)   -- 13: t200 spec.go:960 
                have hO14 := hO13.push hg14 ho14
                have hbk : Blk w14 w10.heap.size 67 (encT (ms[mOf ms p]'hmp)) := ((hb12.ext (Ext.drew w12)).ext hn13.ext).keep hg14.grown (ne_fresh hO10.own)
                refine ⟨⟨hbk, hO14.ra⟩, ?_⟩
                refine du rfl rfl (fun w' hw' => pv_as) ?_   -- 14: t7 spec.go:960 
                refine DW.nil ?_
                refine SX.reg ?_
                refine pu rfl pv_mv ?_   -- t201 spec.go:961
                refine pu rfl pv_as ?_   -- t26 spec.go:961
                refine LW.nil ?_
                obtain ⟨f4, rfl⟩ : ∃ f', f3 = f' + 1 := ⟨f3 - 1, by omega⟩
                rw [segs, if_pos (by omega), getD_lt _ _ _ hmp, hce, ← hqd] at hsg3
                exact ⟨q, f4, _, v14, ⟨rfl, rfl, rfl, rfl, rfl, rfl, rfl, rfl, rfl, rfl, rfl, rfl, rfl, trivial⟩, ⟨by omega, hqe, hO14, by rw [← hsg3]; simp, by omega, by simp only [List.length_append, List.length_singleton]; omega⟩, by omega⟩
            · skip
              have hpe2 : p = e := by simp at hc; omega
              subst hpe2
              refine SX.exit (xb_here ?_)
              refine SX.seq (SX.reg ?_)   -- region 61
              refine pu rfl pv_mv ?_   -- t202 spec.go:963
              refine pu rfl pv_mv ?_   -- t203 spec.go:963
              refine pu rfl (pv_subN ((p - s : Nat) : Int) rfl rfl (by omega) (by omega)) ?_   -- t204 spec.go:963
              refine pu rfl pv_as ?_   -- t9 spec.go:963
              refine LW.nil ?_
              refine SX.seq (SX.reg ?_)   -- region 62
              refine pu rfl pv_mv ?_   -- t205 spec.go:964
              refine pu rfl pv_as ?_   -- t23 spec.go:964
              refine LW.nil ?_
              refine SX.reg ?_
              refine pu rfl pv_mv ?_   -- t206 spec.go:965
              refine pu rfl (pv_add rfl rfl (by omega)) ?_   -- t207 spec.go:965
              refine pu rfl pv_as ?_   -- t24 spec.go:965
              refine LW.nil ?_
              exact ⟨p, c + 1, f3, out3, vr3, (p - s), ⟨rfl, rfl, rfl, rfl, rfl, rfl, rfl, rfl, rfl, rfl, rfl, rfl, trivial⟩, ⟨by omega, by omega, fun h => by rw [Nat.add_mul, Nat.one_mul]; omega, fun h => by rw [← h]; rw [h]; exact col_end hsc' hsl (by omega), hO8, hsg3, hfu3, hol3⟩, by omega⟩
          · skip
            have hsl : s = tl ms := by simp at hc; omega
            rw [hsl, segs_end _ _ _ _ _ (Nat.le_refl _), List.append_nil] at hsg
            have hcol' := hcol hsl
            refine SX.exit (xb_here ?_)
            refine SX.reg ?_
            refine pu rfl pv_as ?_   -- t8 spec.go:968
            refine LW.nil ?_
            refine SX.reg ?_
            refine pu rfl pv_mv ?_   -- t38 spec.go:903
            refine pu rfl (pv_add rfl rfl (by omega)) ?_   -- t39 spec.go:903
            refine pu rfl pv_as ?_   -- t10 spec.go:903
            refine LW.nil ?_
            exact ⟨i + 1, out2, vr2, true, col2, ⟨rfl, rfl, rfl, rfl, rfl, rfl, trivial⟩, ⟨by omega, hO7.ext, hO7.own, by rw [hpl, ← hsg, ← hcol'] at hfin; exact hfin, by omega, by rw [hcol']; have := Nat.mod_le (tl ms) W; split <;> omega⟩, by omega⟩
  · skip
    have hge : i = P.length := by simp at hc; omega
    subst hge
    rw [words_end hPw (Nat.le_refl _)] at hfin
    refine SX.exit (xb_here ?_)
    refine SX.seq (SX.reg ?_)   -- region 65
    refine pu rfl pv_mv ?_   -- t208 spec.go:970
    refine pu rfl pv_as ?_   -- t4 spec.go:970
    refine LW.nil ?_
    refine SX.ret ?_
    exact ⟨by rw [hlay, ← hfin]; exact (hown.low hx1.size).own, hx1.trans hx⟩

end Go.Proofs.Ybuabw
