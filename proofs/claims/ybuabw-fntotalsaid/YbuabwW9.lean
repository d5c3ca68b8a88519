/-
  WALKS. Layout, the program. Own work for the seat Ybuabw (the steps of each walk were typed by a program of ours off the printed code).
-/
import Derived.Test.YbuabwW8
namespace Go.Proofs.Ybuabw
open Go.RowKit
set_option linter.unusedVariables false
set_option linter.unusedSimpArgs false
set_option maxRecDepth 20000

theorem f42_ok (v0 : Value) (l : List Tri) (z : Int) (w : World) (hr : Rd w tI v0 l) (hs : l.length ≤ 1073741824) (ht : tl l ≤ 1073741824) : Fn 42 [v0, iv z] w (fun v' w' => OwnR w' w.heap.size tF v' (layout l z) ∧ Ext w w') := by
  refine Fn.mk1 (N := 190) Yabc.func42 rfl rfl rfl rfl ?_
  refine SX.seq (SX.reg ?_)   -- region 0
  refine pu rfl pv_as ?_   -- t4 impl.go:402
  refine LW.nil ?_
  refine SX.seq (SX.reg ?_)   -- region 1
  refine pu rfl pv_mv ?_   -- t27 impl.go:403
  refine evd rfl (ev_call cb94 rfl (f94_ok z w) ?_)   -- t28 impl.go:403
  rintro _ _ ⟨rfl, rfl⟩
  have hW1 := wid_pos z
  have hlay : layout l z = (layWs (wid z) ([], false, 0) (words l)).1 := rfl
  generalize hWg : wid z = W at *
  have hwl := wl_words l
  refine pu rfl pv_as ?_   -- t5 impl.go:403
  refine LW.nil ?_
  refine SX.seq (SX.reg ?_)   -- region 2
  refine pu rfl pv_as ?_   -- t6 impl.go:404
  refine LW.nil ?_
  refine SX.seq (SX.reg ?_)   -- region 3
  refine pu rfl pv_as ?_   -- t7 impl.go:405
  refine LW.nil ?_
  refine SX.seq (SX.reg ?_)   -- region 4
  refine pu rfl pv_as ?_   -- t8 impl.go:406
  refine LW.nil ?_
  refine SX.seq (SX.reg ?_)   -- region 5
  refine pu rfl pv_as ?_   -- t9 impl.go:407
  refine LW.nil ?_
  refine SX.seq (SX.reg ?_)   -- region 6
  refine pu rfl pv_mv ?_   -- t29 impl.go:408
  refine pu rfl (pv_lenV (T := tI) Yabc.underlying23 hr rfl) ?_   -- t30 impl.go:408
  refine pu rfl pv_as ?_   -- t10 impl.go:408
  refine LW.nil ?_
  refine SX.seq ?_
  refine SX.block ?_
  refine SX.loop5 (fun (i : Nat) (out : List Frg) vr (st : Bool) (col : Nat) => [(0, v0), (5, iv W), (6, vr), (7, .bool st), (8, iv col), (9, iv i), (10, iv l.length)]) (fun i out vr st col w' => i ≤ l.length ∧ Ext w w' ∧ Own w' w.heap.size tF vr out ∧ layWs W (out, st, col) (wd [] (l.drop i)) = layWs W ([], false, 0) (words l) ∧ out.length + wl (wd [] (l.drop i)) ≤ l.length + tl l ∧ col + wl (wd [] (l.drop i)) ≤ l.length + tl l) (fun i _ _ _ _ => l.length - i) 0 [] (.slice none 0 0) false 0 ⟨rfl, rfl, rfl, rfl, rfl, rfl, rfl, trivial⟩ ⟨Nat.zero_le _, Ext.refl w, Own.nil _ _ _, rfl, by simpa [words] using hwl, by simpa [words] using hwl⟩ ?_
  rintro i out vr st col w2 ρ1 ⟨hi, hx, hown, hfin, hob, hcb⟩
  refine SX.seq ?_
  refine SX.seq (SX.reg ?_)   -- region 7
  refine pu rfl pv_mv ?_   -- t31 impl.go:409
  refine pu rfl pv_mv ?_   -- t32 impl.go:409
  refine pu rfl (pv_lss rfl rfl) ?_   -- t33 impl.go:409
  refine LW.nil ?_
  refine SX.cond rfl (fun hc => ?_) (fun hc => ?_)   -- t33
  · skip
    have hlt : i < l.length := by simpa using hc
    refine SX.skip ?_
    refine SX.block ?_
    refine SX.seq ?_
    refine SX.seq (SX.reg ?_)   -- region 8
    refine pu rfl pv_mv ?_   -- t34 impl.go:410
    refine pu rfl pv_mv ?_   -- t35 impl.go:410
    refine pu rfl (pv_ix (T := tI) (k := i) Yabc.underlying23 sz67 okI (hr.ext hx) rfl rfl (by omega) (by omega)) ?_   -- t36 impl.go:410
    refine pu rfl (pv_fa fb67_0 rfl) ?_   -- t37 impl.go:410
    refine pu rfl (pv_ld ag3 rfl ((hr.ext hx).cellAt okI (by omega) rfl)) ?_   -- t38 impl.go:410
    refine pu rfl (pv_eql rfl rfl) ?_   -- t39 impl.go:410
    refine LW.nil ?_
    refine SX.cond rfl (fun hc => ?_) (fun hc => ?_)   -- t39
    · skip
      have h1 : (l[i]'hlt).a = 1 := by simpa using hc
      have hwd := wd_space (cur := []) hlt h1
      rw [if_pos rfl] at hwd
      rw [hwd] at hfin hob hcb
      refine SX.seq (SX.reg ?_)   -- region 9
      refine pu rfl pv_mv ?_   -- t40 impl.go:411
      refine pu rfl (pv_add rfl rfl (by omega)) ?_   -- t41 impl.go:411
      refine pu rfl pv_as ?_   -- t9 impl.go:411
      refine LW.nil ?_
      refine SX.exit (xb_here ?_)
      exact ⟨i + 1, out, vr, st, col, ⟨rfl, rfl, rfl, rfl, rfl, rfl, rfl, trivial⟩, ⟨by omega, hx, hown, hfin, hob, hcb⟩, by omega⟩
    · skip
      have h1 : ¬ (l[i]'hlt).a = 1 := by simpa using hc
      refine SX.skip ?_
      refine SX.seq (SX.reg ?_)   -- region 10
      refine pu rfl pv_as ?_   -- t11 impl.go:414
      refine LW.nil ?_
      refine SX.seq ?_
      refine SX.block ?_
      refine SX.loop3 (fun (i2 : Nat) (mem : List Tri) vm => [(0, v0), (5, iv W), (6, vr), (7, .bool st), (8, iv col), (9, iv i2), (10, iv l.length), (11, vm)]) (fun i2 mem vm w' => i ≤ i2 ∧ i2 ≤ l.length ∧ Two w w' tF vr out tI vm mem ∧ wd mem (l.drop i2) = wd [] (l.drop i) ∧ mem.length ≤ i2) (fun i2 _ _ => l.length - i2) i [] (.slice none 0 0) ⟨rfl, rfl, rfl, rfl, rfl, rfl, rfl, rfl, trivial⟩ ⟨Nat.le_refl _, hi, ⟨hx, hown, Own.nil _ _ _, Sep.nil_right _, Sep.nil_left _⟩, rfl, by simp⟩ ?_
      rintro i2 mem vm w4 ρ2 ⟨hi1, hi2, hT, hwd, hml⟩
      refine SX.seq ?_
      refine SX.seq (SX.reg ?_)   -- region 11
      refine pu rfl pv_mv ?_   -- t42 impl.go:415
      refine pu rfl pv_mv ?_   -- t43 impl.go:415
      refine pu rfl (pv_lss rfl rfl) ?_   -- t44 impl.go:415
      refine pu rfl pv_mv ?_   -- t45 impl.go:415
      refine LW.sc true 6 3 45 46 52 (b := decide ((l.getD i2 zT).a ≠ 1)) (fun w' => w4 = w') rfl rfl rfl rfl (fun _ => rfl) rfl (fun ht => ?_) rfl (fun J w' hw' => ?_)   -- t52 := pick ['t45', 't51', "c:['false']"]
      · skip
        have hlt2 : i2 < l.length := by simpa using ht
        refine pu rfl pv_mv ?_   -- t46 impl.go:415
        refine pu rfl pv_mv ?_   -- t47 impl.go:415
        refine pu rfl (pv_ix (T := tI) (k := i2) Yabc.underlying23 sz67 okI (hr.ext hT.ext) rfl rfl (by omega) (by omega)) ?_   -- t48 impl.go:415
        refine pu rfl (pv_fa fb67_0 rfl) ?_   -- t49 impl.go:415
        refine pu rfl (pv_ld ag3 rfl ((hr.ext hT.ext).cellAt okI (by omega) rfl)) ?_   -- t50 impl.go:415
        refine pu rfl (pv_neq rfl rfl) ?_   -- t51 impl.go:415
        exact LW.nil ⟨congrArg Value.bool (by rw [getD_lt _ _ _ hlt2]), rfl⟩
      subst hw'
      refine LW.nil ?_
      refine SX.cond rfl (fun hc => ?_) (fun hc => ?_)   -- t52
      · skip
        simp only [scv, Bool.and_eq_true, decide_eq_true_eq] at hc
        have hlt2 : i2 < l.length := by have := hc.1; omega
        have hn1 : ¬ (l[i2]'hlt2).a = 1 := by have := hc.2; rwa [getD_lt _ _ _ hlt2] at this
        refine SX.skip ?_
        refine SX.block ?_
        refine SX.seq ?_
        refine SX.seq (SX.reg ?_)   -- region 12
        refine pu rfl pv_mv ?_   -- t53 impl.go:416
        refine pu rfl pv_mv ?_   -- t54 impl.go:416
        refine pu rfl (pv_ix (T := tI) (k := i2) Yabc.underlying23 sz67 okI (hr.ext hT.ext) rfl rfl (by omega) (by omega)) ?_   -- t55 impl.go:416
        refine pu rfl (pv_fa fb67_2 rfl) ?_   -- t56 impl.go:416
        refine pu rfl (pv_ld ag9 rfl ((hr.ext hT.ext).cellAt okI (by omega) rfl)) ?_   -- t57 impl.go:416
        refine pu rfl (pv_len_s rfl) ?_   -- t58 impl.go:416
        refine pu rfl (pv_gtr rfl rfl) ?_   -- t59 impl.go:416
        refine LW.nil ?_
        refine SX.cond rfl (fun hc => ?_) (fun hc => ?_)   -- t59
        · skip
          have hs2 : (l[i2]'hlt2).s ≠ [] := by intro e; simp [e] at hc
          refine SX.reg ?_
          refine pu rfl pv_mv ?_   -- t60 impl.go:417
          refine pu rfl pv_mv ?_   -- t61 impl.go:417
          refine pu rfl pv_mv ?_   -- t62 impl.go:417
          refine pu rfl (pv_ix (T := tI) (k := i2) Yabc.underlying23 sz67 okI (hr.ext hT.ext) rfl rfl (by omega) (by omega)) ?_   -- t63 impl.go:417
          refine pu rfl (pv_ldE ag67 okI sz67 (hr.ext hT.ext) (by omega) rfl) ?_   -- t64 impl.go:417
          refine push (T := tI) (l[i2]'hlt2) sl23 okI (by decide) hT.o2 hT.ext.size rfl (fun _ => rfl) rfl rfl (by omega) (by unfold maxLen; omega) fun J1 v5 w5 ho5 hg5 => ?_   -- t65 impl.go:417
          refine pu rfl pv_as ?_   -- t11 impl.go:417
          refine LW.nil ?_
          refine SX.reg ?_
          refine pu rfl pv_mv ?_   -- t67 impl.go:419
          refine pu rfl (pv_add rfl rfl (by omega)) ?_   -- t68 impl.go:419
          refine pu rfl pv_as ?_   -- t9 impl.go:419
          refine LW.nil ?_
          exact ⟨i2 + 1, mem ++ [l[i2]'hlt2], v5, ⟨rfl, rfl, rfl, rfl, rfl, rfl, rfl, rfl, trivial⟩, ⟨by omega, by omega, hT.push2 hg5 ho5, by rw [← hwd, wd_more hlt2 hn1 hs2], by simp; omega⟩, by omega⟩
        · skip
          have hs2 : (l[i2]'hlt2).s = [] := by simpa using hc
          refine SX.skip ?_
          refine SX.reg ?_
          refine pu rfl pv_mv ?_   -- t67 impl.go:419
          refine pu rfl (pv_add rfl rfl (by omega)) ?_   -- t68 impl.go:419
          refine pu rfl pv_as ?_   -- t9 impl.go:419
          refine LW.nil ?_
          exact ⟨i2 + 1, mem, vm, ⟨rfl, rfl, rfl, rfl, rfl, rfl, rfl, rfl, trivial⟩, ⟨by omega, by omega, hT, by rw [← hwd, wd_skip hlt2 hn1 hs2], by omega⟩, by omega⟩
      · skip
        have hstop : ∀ h : i2 < l.length, (l[i2]'h).a = 1 := by
          intro h
          have h' : (i2 : Int) < (l.length : Int) := by omega
          rw [getD_lt _ _ _ h] at hc
          simpa [scv, h'] using hc
        have hii : i < i2 := by
          rcases Nat.lt_or_ge i i2 with h | h
          · exact h
          · have e : i2 = i := by omega
            subst e
            exact absurd (hstop hlt) h1
        rw [wd_stop hstop] at hwd
        refine SX.exit (xb_here ?_)
        refine SX.seq ?_
        refine SX.seq (SX.reg ?_)   -- region 15
        refine pu rfl pv_mv ?_   -- t69 impl.go:421
        refine pu rfl (pv_lenV (T := tI) Yabc.underlying23 hT.o2.rd rfl) ?_   -- t70 impl.go:421
        refine pu rfl (pv_eql rfl rfl) ?_   -- t71 impl.go:421
        refine LW.nil ?_
        refine SX.cond rfl (fun hc => ?_) (fun hc => ?_)   -- t71
        · skip
          have hm0 : mem = [] := by simpa using hc
          rw [if_pos hm0] at hwd
          rw [← hwd] at hfin hob hcb
          refine SX.exit (xb_here ?_)
          exact ⟨i2, out, vr, st, col, ⟨rfl, rfl, rfl, rfl, rfl, rfl, rfl, trivial⟩, ⟨by omega, hT.ext, hT.o1, hfin, hob, hcb⟩, by omega⟩
        · skip
          have hm0 : ¬ mem = [] := by simpa using hc
          rw [if_neg hm0] at hwd
          rw [← hwd] at hfin hob hcb
          rw [layWs_cons] at hfin
          simp only [wl] at hob hcb
          have hm1 : 0 < mem.length := List.length_pos_iff.2 hm0
          refine SX.skip ?_
          refine SX.seq (SX.reg ?_)   -- region 16
          refine pu rfl pv_as ?_   -- t12 impl.go:424
          refine LW.nil ?_
          refine SX.seq ?_
          refine SX.seq (SX.reg ?_)   -- region 17
          refine pu rfl pv_mv ?_   -- t72 impl.go:425
          refine pu rfl (pv_lenV (T := tI) Yabc.underlying23 hT.o2.rd rfl) ?_   -- t73 impl.go:425
          refine pu rfl pv_mv ?_   -- t74 impl.go:425
          refine LW.nil ?_
          refine SX.block ?_
          refine SX.loop (G := Nat) (fun k => [(0, v0), (5, iv W), (6, vr), (7, .bool st), (8, iv col), (9, iv i2), (10, iv l.length), (11, vm), (12, iv (tl (mem.take k))), (72, vm), (73, iv mem.length), (74, iv k)]) (fun k w' => k ≤ mem.length ∧ Two w w' tF vr out tI vm mem) (fun k => mem.length - k) 0 ⟨rfl, rfl, rfl, rfl, rfl, rfl, rfl, rfl, rfl, rfl, rfl, rfl, trivial⟩ ⟨Nat.zero_le _, hT⟩ ?_
          rintro k w7 ρ3 ⟨hkm', hT7⟩
          have htk := tl_le mem k
          refine SX.seq (SX.reg ?_)   -- region 18
          refine pu rfl (pv_lss rfl rfl) ?_   -- t75 impl.go:425
          refine LW.nil ?_
          refine SX.seq ?_
          refine SX.cond rfl (fun hc => ?_) (fun hc => ?_)   -- t75
          · skip
            have hkm : k < mem.length := by simpa using hc
            refine SX.skip ?_
            refine SX.seq ?_
            refine SX.block ?_
            refine SX.seq (SX.reg ?_)   -- region 19
            refine pu rfl (pv_ix (T := tI) (k := k) Yabc.underlying23 sz67 okI hT7.o2.rd rfl rfl (by omega) (by omega)) ?_   -- t76 impl.go:425
            refine pu rfl (pv_ldE ag67 okI sz67 hT7.o2.rd (by omega) rfl) ?_   -- t77 impl.go:425
            refine evd rfl (ev_al3 if67 fun w8 hn8 => ?_)   -- t14 impl.go:425
            refine evn (ev_stB hn8.blk rfl rfl sz67 rfl (encT_one _) fun w9 hb9 hg9 hz9 => ?_)   --  impl.go:425
            have hX9 : Tx w w9 tF vr out tI vm mem w7.heap.size 67 (encT (mem[k]'hkm)) := Tx.make hT7 hn8 hb9 hg9
            have hts := tl_take mem k hkm
            have htk1 := tl_le mem (k + 1)
            refine LW.nil ?_
            refine SX.reg ?_
            refine pu rfl pv_mv ?_   -- t78 impl.go:426
            refine pu rfl (pv_fa fb67_2 rfl) ?_   -- t79 impl.go:426
            refine pu rfl (pv_ld ag9 rfl (hX9.blk.cell rfl)) ?_   -- t80 impl.go:426
            refine pu rfl (pv_len_s rfl) ?_   -- t81 impl.go:426
            refine pu rfl (pv_add rfl rfl (by omega)) ?_   -- t82 impl.go:426
            refine pu rfl pv_as ?_   -- t12 impl.go:426
            refine LW.nil ?_
            refine SX.reg ?_
            refine pu rfl (pv_add rfl rfl (by omega)) ?_   -- t83 impl.go:425
            refine pu rfl pv_mv ?_   -- t74 impl.go:425
            refine LW.nil ?_
            exact ⟨k + 1, ⟨rfl, rfl, rfl, rfl, rfl, rfl, rfl, rfl, congrArg iv (by rw [hts]; push_cast; rfl), rfl, rfl, rfl, trivial⟩, ⟨by omega, hX9.two⟩, by omega⟩
          · skip
            have hge : k = mem.length := by simp at hc; omega
            subst hge
            rw [List.take_length] at *
            have hT6 := hT7
            generalize w7 = w6 at hT6
            refine SX.exit (xb_here ?_)
            refine SX.seq (SX.reg ?_)   -- region 22
            refine pu rfl pv_mv ?_   -- t84 impl.go:428
            refine pu rfl pv_mv ?_   -- t85 impl.go:428
            refine pu rfl (pv_leq rfl rfl) ?_   -- t86 impl.go:428
            refine LW.nil ?_
            refine SX.cond rfl (fun hc => ?_) (fun hc => ?_)   -- t86
            · skip
              have hL : tl mem ≤ W := by simp at hc; omega
              have hpl : place W (out, st, col) mem = (out ++ fitsN (fBr W st col (tl mem)) mem mem.length, true, if (fBr W st col (tl mem)) = 1 then col + 1 + tl mem else tl mem) := by rw [place, if_pos hL]
              refine SX.seq (SX.reg ?_)   -- region 23
              refine pu rfl pv_as ?_   -- t15 impl.go:429
              refine LW.nil ?_
              refine SX.mid (G := Unit) (fun _ => [(0, v0), (5, iv W), (6, vr), (7, .bool st), (8, iv col), (9, iv i2), (10, iv l.length), (11, vm), (12, iv (tl mem)), (15, iv (fBr W st col (tl mem)))]) (fun _ w' => w6 = w') ?_ ?_
              · skip
                refine SX.seq (SX.reg ?_)   -- region 24
                refine pu rfl pv_mv ?_   -- t87 impl.go:430
                refine LW.nil ?_
                refine SX.cond rfl (fun hc => ?_) (fun hc => ?_)   -- t87
                · skip
                  have hst : st = true := hc
                  refine SX.seq (SX.reg ?_)   -- region 25
                  refine pu rfl pv_mv ?_   -- t88 impl.go:431
                  refine pu rfl (pv_add rfl rfl (by omega)) ?_   -- t89 impl.go:431
                  refine pu rfl pv_mv ?_   -- t90 impl.go:431
                  refine pu rfl (pv_add rfl rfl (by omega)) ?_   -- t91 impl.go:431
                  refine pu rfl pv_mv ?_   -- t92 impl.go:431
                  refine pu rfl (pv_leq rfl rfl) ?_   -- t93 impl.go:431
                  refine LW.nil ?_
                  refine SX.cond rfl (fun hc => ?_) (fun hc => ?_)   -- t93
                  · skip
                    have hfit : col + 1 + tl mem ≤ W := by simp at hc; omega
                    refine SX.reg ?_
                    refine pu rfl pv_as ?_   -- t15 impl.go:432
                    refine LW.nil ?_
                    exact ⟨(), ⟨rfl, rfl, rfl, rfl, rfl, rfl, rfl, rfl, rfl, by rw [fBr, if_pos hst, if_pos hfit]; rfl, trivial⟩, rfl⟩
                  · skip
                    have hfit : ¬ col + 1 + tl mem ≤ W := by simp at hc; omega
                    refine SX.reg ?_
                    refine pu rfl pv_as ?_   -- t15 impl.go:434
                    refine LW.nil ?_
                    exact ⟨(), ⟨rfl, rfl, rfl, rfl, rfl, rfl, rfl, rfl, rfl, by rw [fBr, if_pos hst, if_neg hfit]; rfl, trivial⟩, rfl⟩
                · skip
                  have hst : st = false := hc
                  refine SX.skip ?_
                  exact ⟨(), ⟨rfl, rfl, rfl, rfl, rfl, rfl, rfl, rfl, rfl, by rw [fBr, if_neg (by rw [hst]; decide)]; rfl, trivial⟩, rfl⟩
              rintro _ w6' ρ6 hw
              subst hw
              generalize hfg : (fBr W st col (tl mem)) = f at *
              refine SX.seq ?_
              refine SX.seq (SX.reg ?_)   -- region 28
              refine pu rfl pv_mv ?_   -- t94 impl.go:437
              refine pu rfl (pv_lenV (T := tI) Yabc.underlying23 hT6.o2.rd rfl) ?_   -- t95 impl.go:437
              refine pu rfl pv_mv ?_   -- t96 impl.go:437
              refine LW.nil ?_
              refine SX.block ?_
              refine SX.loop2 (fun (j : Nat) vr2 => [(0, v0), (5, iv W), (6, vr2), (7, .bool st), (8, iv col), (9, iv i2), (10, iv l.length), (11, vm), (12, iv (tl mem)), (15, iv f), (94, vm), (95, iv mem.length), (96, iv j)]) (fun j vr2 w' => j ≤ mem.length ∧ Two w w' tF vr2 (out ++ fitsN f mem j) tI vm mem) (fun j _ => mem.length - j) 0 vr ⟨rfl, rfl, rfl, rfl, rfl, rfl, rfl, rfl, rfl, rfl, rfl, rfl, rfl, trivial⟩ ⟨Nat.zero_le _, by simpa [fitsN] using hT6⟩ ?_
              rintro j vr2 w7 ρ7 ⟨hjm', hT7⟩
              have hfl := fitsN_len f mem j
              have hol : (out ++ fitsN f mem j).length = out.length + j := by simp [hfl]
              refine SX.seq (SX.reg ?_)   -- region 29
              refine pu rfl (pv_lss rfl rfl) ?_   -- t97 impl.go:437
              refine LW.nil ?_
              refine SX.seq ?_
              refine SX.cond rfl (fun hc => ?_) (fun hc => ?_)   -- t97
              · skip
                have hjm : j < mem.length := by simpa using hc
                refine SX.skip ?_
                refine SX.seq ?_
                refine SX.block ?_
                refine SX.seq (SX.reg ?_)   -- region 30
                refine pu rfl pv_mv ?_   -- t98 impl.go:437
                refine pu rfl (pv_ix (T := tI) (k := j) Yabc.underlying23 sz67 okI hT7.o2.rd rfl rfl (by omega) (by omega)) ?_   -- t99 impl.go:437
                refine pu rfl (pv_ldE ag67 okI sz67 hT7.o2.rd (by omega) rfl) ?_   -- t100 impl.go:437
                refine evd rfl (ev_al3 if67 fun w8 hn8 => ?_)   -- t17 impl.go:437
                refine pu rfl pv_as ?_   -- t16 impl.go:437
                refine evn (ev_stB hn8.blk rfl rfl sz67 rfl (encT_one _) fun w9 hb9 hg9 hz9 => ?_)   --  impl.go:437
                have hX9 : Tx w w9 tF vr2 (out ++ fitsN f mem j) tI vm mem w7.heap.size 67 (encT (mem[j]'hjm)) := Tx.make hT7 hn8 hb9 hg9
                refine LW.nil ?_
                refine SX.seq (SX.reg ?_)   -- region 31
                refine pu rfl pv_as ?_   -- t18 impl.go:438
                refine LW.nil ?_
                refine SX.mid (G := Unit) (fun _ => [(0, v0), (5, iv W), (6, vr2), (7, .bool st), (8, iv col), (9, iv i2), (10, iv l.length), (11, vm), (12, iv (tl mem)), (15, iv f), (94, vm), (95, iv mem.length), (96, iv j), (17, .pointer (some ⟨w7.heap.size, 0, none⟩)), (18, iv (if j = 0 then f else 0))]) (fun _ w' => w9 = w') ?_ ?_
                · skip
                  refine SX.seq (SX.reg ?_)   -- region 32
                  refine pu rfl pv_mv ?_   -- t101 impl.go:439
                  refine pu rfl (pv_eql rfl rfl) ?_   -- t102 impl.go:439
                  refine LW.nil ?_
                  refine SX.cond rfl (fun hc => ?_) (fun hc => ?_)   -- t102
                  · skip
                    have hj0 : j = 0 := by simp at hc; omega
                    refine SX.reg ?_
                    refine pu rfl pv_mv ?_   -- t103 impl.go:440
                    refine pu rfl pv_as ?_   -- t18 impl.go:440
                    refine LW.nil ?_
                    exact ⟨(), ⟨rfl, rfl, rfl, rfl, rfl, rfl, rfl, rfl, rfl, rfl, rfl, rfl, rfl, rfl, by rw [if_pos hj0]; rfl, trivial⟩, rfl⟩
                  · skip
                    have hj0 : ¬ j = 0 := by simp at hc; omega
                    refine SX.skip ?_
                    exact ⟨(), ⟨rfl, rfl, rfl, rfl, rfl, rfl, rfl, rfl, rfl, rfl, rfl, rfl, rfl, rfl, by rw [if_neg hj0]; rfl, trivial⟩, rfl⟩
                rintro _ w9' ρ9 hw
                subst hw
                refine SX.reg ?_
                refine pu rfl pv_mv ?_   -- t104 impl.go:442
                refine pu rfl pv_mv ?_   -- t105 impl.go:442
                refine pu rfl (pv_fa fb67_0 rfl) ?_   -- t106 impl.go:442
                refine pu rfl (pv_ld ag3 rfl (hX9.blk.cell rfl)) ?_   -- t107 impl.go:442
                refine pu rfl (pv_fa fb67_1 rfl) ?_   -- t108 impl.go:442
                refine pu rfl (pv_ld ag3 rfl (hX9.blk.cell rfl)) ?_   -- t109 impl.go:442
                refine pu rfl (pv_fa fb67_2 rfl) ?_   -- t110 impl.go:442
                refine pu rfl (pv_ld ag9 rfl (hX9.blk.cell rfl)) ?_   -- t111 impl.go:442
                refine pu rfl (pv_bd rfl (bd76 _ _ _ _)) ?_   -- t112 impl.go:442
                refine push (T := tF) ⟨if j = 0 then f else 0, (mem[j]'hjm).a, (mem[j]'hjm).b, (mem[j]'hjm).s⟩ sl25 okF (by decide) hX9.two.o1 hX9.two.ext.size rfl (fun _ => rfl) rfl rfl (by omega) (by unfold maxLen; omega) fun J1 v10 w10 ho10 hg10 => ?_   -- t113 impl.go:442
                refine pu rfl pv_as ?_   -- t6 impl.go:442
                refine LW.nil ?_
                refine SX.reg ?_
                refine pu rfl (pv_add rfl rfl (by omega)) ?_   -- t115 impl.go:437
                refine pu rfl pv_mv ?_   -- t96 impl.go:437
                refine LW.nil ?_
                exact ⟨j + 1, v10, ⟨rfl, rfl, rfl, rfl, rfl, rfl, rfl, rfl, rfl, rfl, rfl, rfl, rfl, trivial⟩, ⟨by omega, by rw [fitsN, ← List.append_assoc, getD_lt _ _ _ hjm]; exact (hX9.push1 hg10 ho10).two⟩, by omega⟩
              · skip
                have hge : j = mem.length := by simp at hc; omega
                subst hge
                refine SX.exit (xb_here ?_)
                refine SX.seq ?_
                refine SX.seq (SX.reg ?_)   -- region 36
                refine pu rfl pv_mv ?_   -- t116 impl.go:444
                refine pu rfl (pv_eql rfl rfl) ?_   -- t117 impl.go:444
                refine LW.nil ?_
                refine SX.cond rfl (fun hc => ?_) (fun hc => ?_)   -- t117
                · skip
                  have hf1 : f = 1 := by simpa using hc
                  refine SX.reg ?_
                  refine pu rfl pv_mv ?_   -- t118 impl.go:445
                  refine pu rfl (pv_add rfl rfl (by omega)) ?_   -- t119 impl.go:445
                  refine pu rfl pv_mv ?_   -- t120 impl.go:445
                  refine pu rfl (pv_add rfl rfl (by omega)) ?_   -- t121 impl.go:445
                  refine pu rfl pv_as ?_   -- t8 impl.go:445
                  refine LW.nil ?_
                  refine SX.reg ?_
                  refine pu rfl pv_as ?_   -- t7 impl.go:449
                  refine LW.nil ?_
                  exact ⟨i2, _, vr2, true, (col + 1 + tl mem), ⟨rfl, rfl, rfl, rfl, rfl, rfl, rfl, trivial⟩, ⟨by omega, hT7.ext, hT7.o1, by rw [hpl, if_pos hf1] at hfin; exact hfin, by omega, by omega⟩, by omega⟩
                · skip
                  have hf1 : ¬ f = 1 := by simpa using hc
                  refine SX.reg ?_
                  refine pu rfl pv_mv ?_   -- t122 impl.go:447
                  refine pu rfl pv_as ?_   -- t8 impl.go:447
                  refine LW.nil ?_
                  refine SX.reg ?_
                  refine pu rfl pv_as ?_   -- t7 impl.go:449
                  refine LW.nil ?_
                  exact ⟨i2, _, vr2, true, (tl mem), ⟨rfl, rfl, rfl, rfl, rfl, rfl, rfl, trivial⟩, ⟨by omega, hT7.ext, hT7.o1, by rw [hpl, if_neg hf1] at hfin; exact hfin, by omega, by omega⟩, by omega⟩
            · skip
              have hL : ¬ tl mem ≤ W := by simp at hc; omega
              have hpl : place W (out, st, col) mem = (out ++ segs W mem st (tl mem) 0, true, if tl mem % W = 0 then W else tl mem % W) := by rw [place, if_neg hL]
              refine SX.seq (SX.reg ?_)   -- region 40
              refine pu rfl pv_as ?_   -- t19 impl.go:451
              refine LW.nil ?_
              refine SX.seq ?_
              refine SX.seq (SX.reg ?_)   -- region 41
              refine pu rfl pv_mv ?_   -- t123 impl.go:452
              refine pu rfl (pv_lenV (T := tI) Yabc.underlying23 hT6.o2.rd rfl) ?_   -- t124 impl.go:452
              refine pu rfl pv_mv ?_   -- t125 impl.go:452
              refine LW.nil ?_
              refine SX.block ?_
              refine SX.loop4 (fun (k f : Nat) (out2 : List Frg) vr2 => [(0, v0), (5, iv W), (6, vr2), (7, .bool st), (8, iv col), (9, iv i2), (10, iv l.length), (12, iv (tl mem)), (123, vm), (124, iv mem.length), (125, iv k), (19, iv (tl (mem.take k)))]) (fun k f out2 vr2 w' => k ≤ mem.length ∧ Two w w' tF vr2 out2 tI vm mem ∧ out2 ++ segs W mem st f (tl (mem.take k)) = out ++ segs W mem st (tl mem) 0 ∧ tl mem - tl (mem.take k) ≤ f ∧ out2.length ≤ out.length + tl (mem.take k)) (fun k _ _ _ => mem.length - k) 0 (tl mem) out vr ⟨rfl, rfl, rfl, rfl, rfl, rfl, rfl, rfl, rfl, rfl, rfl, rfl, trivial⟩ ⟨Nat.zero_le _, hT6, by simp [tl], by simp [tl], by simp [tl]⟩ ?_
              rintro k f out2 vr2 w7 ρ7 ⟨hkm', hT7, hsg, hfu, hol⟩
              have htk := tl_le mem k
              refine SX.seq (SX.reg ?_)   -- region 42
              refine pu rfl (pv_lss rfl rfl) ?_   -- t126 impl.go:452
              refine LW.nil ?_
              refine SX.seq ?_
              refine SX.cond rfl (fun hc => ?_) (fun hc => ?_)   -- t126
              · skip
                have hkm : k < mem.length := by simpa using hc
                refine SX.skip ?_
                refine SX.seq ?_
                refine SX.block ?_
                refine SX.seq (SX.reg ?_)   -- region 43
                refine pu rfl (pv_ix (T := tI) (k := k) Yabc.underlying23 sz67 okI hT7.o2.rd rfl rfl (by omega) (by omega)) ?_   -- t127 impl.go:452
                refine pu rfl (pv_ldE ag67 okI sz67 hT7.o2.rd (by omega) rfl) ?_   -- t128 impl.go:452
                refine evd rfl (ev_al3 if67 fun w8 hn8 => ?_)   -- t21 impl.go:452
                refine evn (ev_stB hn8.blk rfl rfl sz67 rfl (encT_one _) fun w9 hb9 hg9 hz9 => ?_)   --  impl.go:452
                have hX9 : Tx w w9 tF vr2 out2 tI vm mem w7.heap.size 67 (encT (mem[k]'hkm)) := Tx.make hT7 hn8 hb9 hg9
                have hts := tl_take mem k hkm
                have htk1 := tl_le mem (k + 1)
                refine LW.nil ?_
                refine SX.seq (SX.reg ?_)   -- region 44
                refine pu rfl (pv_fa fb67_2 rfl) ?_   -- t129 impl.go:453
                refine pu rfl (pv_ld ag9 rfl (hX9.blk.cell rfl)) ?_   -- t130 impl.go:453
                refine pu rfl pv_as ?_   -- t22 impl.go:453
                refine LW.nil ?_
                refine SX.seq (SX.reg ?_)   -- region 45
                refine pu rfl pv_as ?_   -- t23 impl.go:454
                refine LW.nil ?_
                refine SX.block ?_
                refine SX.loop4 (fun (off f : Nat) (out3 : List Frg) vr3 => [(0, v0), (5, iv W), (6, vr3), (7, .bool st), (8, iv col), (9, iv i2), (10, iv l.length), (12, iv (tl mem)), (123, vm), (124, iv mem.length), (125, iv k), (21, .pointer (some ⟨w7.heap.size, 0, none⟩)), (22, S (mem[k]'hkm).s), (19, iv ((tl (mem.take k) + off) : Nat)), (23, iv off)]) (fun off f out3 vr3 w' => off ≤ (mem[k]'hkm).s.length ∧ Tx w w' tF vr3 out3 tI vm mem w7.heap.size 67 (encT (mem[k]'hkm)) ∧ out3 ++ segs W mem st f (tl (mem.take k) + off) = out ++ segs W mem st (tl mem) 0 ∧ tl mem - (tl (mem.take k) + off) ≤ f ∧ out3.length ≤ out.length + (tl (mem.take k) + off)) (fun off _ _ _ => (mem[k]'hkm).s.length - off) 0 f out2 vr2 ⟨rfl, rfl, rfl, rfl, rfl, rfl, rfl, rfl, rfl, rfl, rfl, rfl, rfl, rfl, rfl, trivial⟩ ⟨Nat.zero_le _, hX9, by simpa using hsg, by omega, by omega⟩ ?_
                rintro off f3 out3 vr3 w10 ρ10 ⟨hoff, hX10, hsg3, hfu3, hol3⟩
                refine SX.seq ?_
                refine SX.seq (SX.reg ?_)   -- region 46
                refine pu rfl pv_mv ?_   -- t131 impl.go:455
                refine pu rfl pv_mv ?_   -- t132 impl.go:455
                refine pu rfl (pv_len_s rfl) ?_   -- t133 impl.go:455
                refine pu rfl (pv_lss rfl rfl) ?_   -- t134 impl.go:455
                refine LW.nil ?_
                refine SX.cond rfl (fun hc => ?_) (fun hc => ?_)   -- t134
                · skip
                  have hol2 : off < (mem[k]'hkm).s.length := by simpa using hc
                  have hmo := mOf_at mem k off hkm hol2
                  have hnm := next_mul W (tl (mem.take k) + off) hW1
                  have hdl := Nat.div_le_self (tl (mem.take k) + off) W
                  have hce : cEnd W mem (tl (mem.take k) + off) = min (tl (mem.take (k + 1))) (((tl (mem.take k) + off) / W + 1) * W) := by rw [cEnd, hmo.2]
                  have hceg := cEnd_gt W mem (tl (mem.take k) + off) hW1 (by omega)
                  obtain ⟨cc, hccd⟩ : ∃ cc, cc = ((tl (mem.take k) + off) / W + 1) * W := ⟨_, rfl⟩
                  rw [← hccd] at hnm hce
                  refine SX.skip ?_
                  refine SX.block ?_
                  refine SX.seq (SX.reg ?_)   -- region 47
                  refine pu rfl pv_mv ?_   -- t135 impl.go:456
                  refine pu rfl pv_mv ?_   -- t136 impl.go:456
                  refine pu rfl (pv_quoN (a := (tl (mem.take k) + off)) (b := W) rfl rfl rfl rfl (by omega) (by omega)) ?_   -- t137 impl.go:456
                  refine pu rfl (pv_addN (((tl (mem.take k) + off) / W + 1 : Nat) : Int) rfl rfl (by push_cast; rfl) ⟨Int.le_trans (by decide) (Int.natCast_nonneg _), Int.ofNat_le.2 (show (tl (mem.take k) + off) / W + 1 ≤ 9223372036854775807 by omega)⟩) ?_   -- t138 impl.go:456
                  refine pu rfl pv_mv ?_   -- t139 impl.go:456
                  refine pu rfl (pv_mulN (a := (tl (mem.take k) + off) / W + 1) (b := W) rfl rfl rfl rfl (by omega)) ?_   -- t140 impl.go:456
                  refine pu rfl pv_as ?_   -- t24 impl.go:456
                  refine LW.nil ?_
                  refine SX.seq (SX.reg ?_)   -- region 48
                  refine pu rfl pv_mv ?_   -- t141 impl.go:457
                  refine pu rfl pv_mv ?_   -- t142 impl.go:457
                  refine pu rfl (pv_subN ((cc - (tl (mem.take k) + off) : Nat) : Int) rfl rfl (by omega) (by omega)) ?_   -- t143 impl.go:457
                  refine pu rfl pv_as ?_   -- t25 impl.go:457
                  refine LW.nil ?_
                  refine SX.mid (G := Unit) (fun _ => [(0, v0), (5, iv W), (6, vr3), (7, .bool st), (8, iv col), (9, iv i2), (10, iv l.length), (12, iv (tl mem)), (123, vm), (124, iv mem.length), (125, iv k), (21, .pointer (some ⟨w7.heap.size, 0, none⟩)), (22, S (mem[k]'hkm).s), (19, iv ((tl (mem.take k) + off) : Nat)), (23, iv off), (25, iv (cEnd W mem (tl (mem.take k) + off) - (tl (mem.take k) + off) : Nat))]) (fun _ w' => w10 = w') ?_ ?_
                  · skip
                    refine SX.seq (SX.reg ?_)   -- region 49
                    refine pu rfl pv_mv ?_   -- t144 impl.go:458
                    refine pu rfl pv_mv ?_   -- t145 impl.go:458
                    refine pu rfl (pv_len_s rfl) ?_   -- t146 impl.go:458
                    refine pu rfl pv_mv ?_   -- t147 impl.go:458
                    refine pu rfl (pv_sub rfl rfl (by omega)) ?_   -- t148 impl.go:458
                    refine pu rfl (pv_gtr rfl rfl) ?_   -- t149 impl.go:458
                    refine LW.nil ?_
                    refine SX.cond rfl (fun hc => ?_) (fun hc => ?_)   -- t149
                    · skip
                      have htk2 : cEnd W mem (tl (mem.take k) + off) - (tl (mem.take k) + off) = (mem[k]'hkm).s.length - off := by simp at hc; omega
                      refine SX.reg ?_
                      refine pu rfl pv_mv ?_   -- t150 impl.go:459
                      refine pu rfl (pv_len_s rfl) ?_   -- t151 impl.go:459
                      refine pu rfl pv_mv ?_   -- t152 impl.go:459
                      refine pu rfl (pv_sub rfl rfl (by omega)) ?_   -- t153 impl.go:459
                      refine pu rfl pv_as ?_   -- t25 impl.go:459
                      refine LW.nil ?_
                      exact ⟨(), ⟨rfl, rfl, rfl, rfl, rfl, rfl, rfl, rfl, rfl, rfl, rfl, rfl, rfl, rfl, rfl, congrArg iv (by rw [htk2]; omega), trivial⟩, rfl⟩
                    · skip
                      have htk2 : cEnd W mem (tl (mem.take k) + off) - (tl (mem.take k) + off) = cc - (tl (mem.take k) + off) := by simp at hc; omega
                      refine SX.skip ?_
                      exact ⟨(), ⟨rfl, rfl, rfl, rfl, rfl, rfl, rfl, rfl, rfl, rfl, rfl, rfl, rfl, rfl, rfl, congrArg iv (by rw [htk2]), trivial⟩, rfl⟩
                  rintro _ w10' ρ11 hw
                  subst hw
                  refine SX.seq (SX.reg ?_)   -- region 51
                  refine pu rfl pv_as ?_   -- t26 impl.go:461
                  refine LW.nil ?_
                  refine SX.mid (G := Unit) (fun _ => [(0, v0), (5, iv W), (6, vr3), (7, .bool st), (8, iv col), (9, iv i2), (10, iv l.length), (12, iv (tl mem)), (123, vm), (124, iv mem.length), (125, iv k), (21, .pointer (some ⟨w7.heap.size, 0, none⟩)), (22, S (mem[k]'hkm).s), (19, iv ((tl (mem.take k) + off) : Nat)), (23, iv off), (25, iv (cEnd W mem (tl (mem.take k) + off) - (tl (mem.take k) + off) : Nat)), (26, iv (brOf W (tl (mem.take k) + off) st))]) (fun _ w' => w10 = w') ?_ ?_
                  · skip
                    refine SX.seq (SX.reg ?_)   -- region 52
                    refine pu rfl pv_mv ?_   -- t154 impl.go:462
                    refine pu rfl pv_mv ?_   -- t155 impl.go:462
                    refine pu rfl (pv_remN (a := (tl (mem.take k) + off)) (b := W) rfl rfl rfl rfl (by omega)) ?_   -- t156 impl.go:462
                    refine pu rfl (pv_eql rfl rfl) ?_   -- t157 impl.go:462
                    refine LW.nil ?_
                    refine SX.cond rfl (fun hc => ?_) (fun hc => ?_)   -- t157
                    · skip
                      have hpm : (tl (mem.take k) + off) % W = 0 := by simp only [decide_eq_true_eq] at hc; omega
                      refine SX.seq (SX.reg ?_)   -- region 53
                      refine pu rfl pv_mv ?_   -- t158 impl.go:463
                      refine pu rfl (pv_eql rfl rfl) ?_   -- t159 impl.go:463
                      refine LW.nil ?_
                      refine SX.cond rfl (fun hc => ?_) (fun hc => ?_)   -- t159
                      · skip
                        have hp0 : (tl (mem.take k) + off) = 0 := by simp only [decide_eq_true_eq] at hc; omega
                        refine SX.seq (SX.reg ?_)   -- region 54
                        refine pu rfl pv_mv ?_   -- t160 impl.go:464
                        refine LW.nil ?_
                        refine SX.cond rfl (fun hc => ?_) (fun hc => ?_)   -- t160
                        · skip
                          have hst : st = true := hc
                          refine SX.reg ?_
                          refine pu rfl pv_as ?_   -- t26 impl.go:465
                          refine LW.nil ?_
                          exact ⟨(), ⟨rfl, rfl, rfl, rfl, rfl, rfl, rfl, rfl, rfl, rfl, rfl, rfl, rfl, rfl, rfl, rfl, by rw [brOf, if_pos ⟨hpm, .inr hst⟩]; rfl, trivial⟩, rfl⟩
                        · skip
                          have hst : st = false := hc
                          refine SX.skip ?_
                          exact ⟨(), ⟨rfl, rfl, rfl, rfl, rfl, rfl, rfl, rfl, rfl, rfl, rfl, rfl, rfl, rfl, rfl, rfl, by rw [brOf, if_neg (by rintro ⟨_, h | h⟩; omega; rw [hst] at h; cases h)]; rfl, trivial⟩, rfl⟩
                      · skip
                        have hp0 : 0 < (tl (mem.take k) + off) := by simp only [decide_eq_false_iff_not] at hc; omega
                        refine SX.reg ?_
                        refine pu rfl pv_as ?_   -- t26 impl.go:468
                        refine LW.nil ?_
                        exact ⟨(), ⟨rfl, rfl, rfl, rfl, rfl, rfl, rfl, rfl, rfl, rfl, rfl, rfl, rfl, rfl, rfl, rfl, by rw [brOf, if_pos ⟨hpm, .inl hp0⟩]; rfl, trivial⟩, rfl⟩
                    · skip
                      have hpm : ¬ (tl (mem.take k) + off) % W = 0 := by simp only [decide_eq_false_iff_not] at hc; omega
                      refine SX.skip ?_
                      exact ⟨(), ⟨rfl, rfl, rfl, rfl, rfl, rfl, rfl, rfl, rfl, rfl, rfl, rfl, rfl, rfl, rfl, rfl, by rw [brOf, if_neg (fun h => hpm h.1)]; rfl, trivial⟩, rfl⟩
                  rintro _ w10' ρ12 hw
                  subst hw
                  refine SX.seq ?_
                  refine SX.draw [(0, true), (1, true), (2, true), (3, true), (4, true), (5, true), (6, true), (7, true), (8, true), (9, true), (10, true), (11, true), (12, true), (13, false), (14, false), (15, true)] (fun w' => Blk w' w7.heap.size 67 (encT (mem[k]'hkm))) (by kernel_rfl) ((hX10.blk.ext (Ext.drew w10))) ?_   -- region 57
                  refine du rfl rfl (fun w' hw' => pv_mv) ?_   -- 0: t161 impl.go:471 
                  refine du rfl rfl (fun w' hw' => pv_mv) ?_   -- 1: t162 impl.go:471 
                  refine du rfl rfl (fun w' hw' => pv_fa fb67_0 rfl) ?_   -- 2: t163 impl.go:471 
                  refine du rfl rfl (fun w' hw' => pv_ld ag3 rfl (hw'.cell rfl)) ?_   -- 3: t164 impl.go:471 
                  refine du rfl rfl (fun w' hw' => pv_fa fb67_1 rfl) ?_   -- 4: t165 impl.go:471 
                  refine du rfl rfl (fun w' hw' => pv_ld ag3 rfl (hw'.cell rfl)) ?_   -- 5: t166 impl.go:471 
                  refine du rfl rfl (fun w' hw' => pv_mv) ?_   -- 6: t167 impl.go:471 
                  refine du rfl rfl (fun w' hw' => pv_mv) ?_   -- 7: t168 impl.go:471 
                  refine du rfl rfl (fun w' hw' => pv_mv) ?_   -- 8: t169 impl.go:471 
                  refine du rfl rfl (fun w' hw' => pv_mv) ?_   -- 9: t170 impl.go:471 
                  refine du rfl rfl (fun w' hw' => pv_addN ((off + (cEnd W mem (tl (mem.take k) + off) - (tl (mem.take k) + off)) : Nat) : Int) rfl rfl (by omega) (by omega)) ?_   -- 10: t171 impl.go:471 
                  refine du rfl rfl (fun w' hw' => pv_cut (a := off) (b := off + (cEnd W mem (tl (mem.take k) + off) - (tl (mem.take k) + off))) rfl rfl rfl rfl rfl (by omega) (by omega)) ?_   -- 11: t172 impl.go:471 
                  refine du rfl rfl (fun w' hw' => pv_bd rfl (bd76 _ _ _ _)) ?_   -- 12: t173 impl.go:471 
                  refine dev rfl rfl (ev_bs1 (cs := encF ⟨brOf W (tl (mem.take k) + off) st, (mem[k]'hkm).a, (mem[k]'hkm).b, ((mem[k]'hkm).s.drop off).take (off + (cEnd W mem (tl (mem.take k) + off) - (tl (mem.take k) + off)) - off)⟩) sl25 rfl rfl (by decide) fun w11 hn11 => ?_)   -- 13: t174 impl.go:471 
                  have hX11 := (hX10.more (Ext.drew w10)).more hn11.ext
                  refine ⟨hX11.blk, ?_⟩
                  refine dev rfl rfl (ev_app1 (T := tF) (x1 := ⟨brOf W (tl (mem.take k) + off) st, (mem[k]'hkm).a, (mem[k]'hkm).b, ((mem[k]'hkm).s.drop off).take (off + (cEnd W mem (tl (mem.take k) + off) - (tl (mem.take k) + off)) - off)⟩) sl25 okF hX11.two.o1 hX11.two.ext.size hn11.blk rfl rfl (by omega) (by unfold maxLen; omega) fun v12 w12 ho12 hg12 => ?_)   -- 14: t175 impl.go:471 
                  have hX12 := hX11.push1 hg12 ho12
                  refine ⟨hX12.blk, ?_⟩
                  refine du rfl rfl (fun w' hw' => pv_as) ?_   -- 15: t6 impl.go:471 
                  refine DW.nil ?_
                  refine SX.seq (SX.reg ?_)   -- region 58
                  refine pu rfl pv_mv ?_   -- t176 impl.go:472
                  refine pu rfl pv_mv ?_   -- t177 impl.go:472
                  refine pu rfl (pv_addN ((off + (cEnd W mem (tl (mem.take k) + off) - (tl (mem.take k) + off)) : Nat) : Int) rfl rfl (by omega) (by omega)) ?_   -- t178 impl.go:472
                  refine pu rfl pv_as ?_   -- t23 impl.go:472
                  refine LW.nil ?_
                  refine SX.reg ?_
                  refine pu rfl pv_mv ?_   -- t179 impl.go:473
                  refine pu rfl pv_mv ?_   -- t180 impl.go:473
                  refine pu rfl (pv_addN (((tl (mem.take k) + off) + (cEnd W mem (tl (mem.take k) + off) - (tl (mem.take k) + off)) : Nat) : Int) rfl rfl (by omega) (by omega)) ?_   -- t181 impl.go:473
                  refine pu rfl pv_as ?_   -- t19 impl.go:473
                  refine LW.nil ?_
                  obtain ⟨f4, rfl⟩ : ∃ f', f3 = f' + 1 := ⟨f3 - 1, by omega⟩
                  rw [segs, if_pos (by omega), hmo.1, getD_lt _ _ _ hkm] at hsg3
                  have hca := cat_at mem k off (cEnd W mem (tl (mem.take k) + off) - (tl (mem.take k) + off)) hkm (by omega)
                  rw [hca] at hsg3
                  have e1 : (tl (mem.take k) + off) + (cEnd W mem (tl (mem.take k) + off) - (tl (mem.take k) + off)) = cEnd W mem (tl (mem.take k) + off) := by omega
                  have e2 : tl (mem.take k) + (off + (cEnd W mem (tl (mem.take k) + off) - (tl (mem.take k) + off))) = cEnd W mem (tl (mem.take k) + off) := by omega
                  exact ⟨off + (cEnd W mem (tl (mem.take k) + off) - (tl (mem.take k) + off)), f4, _, v12, ⟨rfl, rfl, rfl, rfl, rfl, rfl, rfl, rfl, rfl, rfl, rfl, rfl, rfl, congrArg iv (by omega), congrArg iv (by omega), trivial⟩, ⟨by omega, hX12, by rw [e2, ← hsg3]; simp, by omega, by simp only [List.length_append, List.length_singleton]; omega⟩, by omega⟩
                · skip
                  have hol2 : off = (mem[k]'hkm).s.length := by simp at hc; omega
                  refine SX.exit (xb_here ?_)
                  refine SX.reg ?_
                  refine pu rfl (pv_add rfl rfl (by omega)) ?_   -- t182 impl.go:452
                  refine pu rfl pv_mv ?_   -- t125 impl.go:452
                  refine LW.nil ?_
                  exact ⟨k + 1, f3, out3, vr3, ⟨rfl, rfl, rfl, rfl, rfl, rfl, rfl, rfl, rfl, rfl, rfl, congrArg iv (by rw [hts, hol2]), trivial⟩, ⟨by omega, hX10.two, by rw [hts, ← hol2]; exact hsg3, by omega, by omega⟩, by omega⟩
              · skip
                have hge : k = mem.length := by simp at hc; omega
                subst hge
                rw [List.take_length] at hsg
                rw [segs_end _ _ _ _ _ (Nat.le_refl _), List.append_nil] at hsg
                refine SX.exit (xb_here ?_)
                refine SX.seq (SX.reg ?_)   -- region 61
                refine pu rfl pv_mv ?_   -- t183 impl.go:476
                refine pu rfl pv_mv ?_   -- t184 impl.go:476
                refine pu rfl (pv_remN (a := tl mem) (b := W) rfl rfl rfl rfl (by omega)) ?_   -- t185 impl.go:476
                refine pu rfl pv_as ?_   -- t8 impl.go:476
                refine LW.nil ?_
                refine SX.seq ?_
                refine SX.seq (SX.reg ?_)   -- region 62
                refine pu rfl pv_mv ?_   -- t186 impl.go:477
                refine pu rfl (pv_eql rfl rfl) ?_   -- t187 impl.go:477
                refine LW.nil ?_
                refine SX.cond rfl (fun hc => ?_) (fun hc => ?_)   -- t187
                · skip
                  have hlm : tl mem % W = 0 := by simp only [decide_eq_true_eq] at hc; omega
                  refine SX.reg ?_
                  refine pu rfl pv_mv ?_   -- t188 impl.go:478
                  refine pu rfl pv_as ?_   -- t8 impl.go:478
                  refine LW.nil ?_
                  refine SX.reg ?_
                  refine pu rfl pv_as ?_   -- t7 impl.go:480
                  refine LW.nil ?_
                  exact ⟨i2, _, vr2, true, W, ⟨rfl, rfl, rfl, rfl, rfl, rfl, rfl, trivial⟩, ⟨by omega, hT7.ext, hT7.o1, by rw [hpl, if_pos hlm, ← hsg] at hfin; exact hfin, by omega, by omega⟩, by omega⟩
                · skip
                  have hlm : ¬ tl mem % W = 0 := by simp only [decide_eq_false_iff_not] at hc; omega
                  refine SX.skip ?_
                  refine SX.reg ?_
                  refine pu rfl pv_as ?_   -- t7 impl.go:480
                  refine LW.nil ?_
                  exact ⟨i2, _, vr2, true, (tl mem % W), ⟨rfl, rfl, rfl, rfl, rfl, rfl, rfl, trivial⟩, ⟨by omega, hT7.ext, hT7.o1, by rw [hpl, if_neg hlm, ← hsg] at hfin; exact hfin, by omega, by have := Nat.mod_le (tl mem) W; omega⟩, by omega⟩
  · skip
    have hge : i = l.length := by simp at hc; omega
    subst hge
    rw [wd_end (Nat.le_refl _)] at hfin
    refine SX.exit (xb_here ?_)
    refine SX.seq (SX.reg ?_)   -- region 65
    refine pu rfl pv_mv ?_   -- t189 impl.go:483
    refine pu rfl pv_as ?_   -- t4 impl.go:483
    refine LW.nil ?_
    refine SX.ret ?_
    exact ⟨by rw [hlay, ← hfin]; exact hown.own, hx⟩

end Go.Proofs.Ybuabw
