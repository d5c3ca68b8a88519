/-
  WALKS. One block shown. Own work for the seat Ybuabw (the steps of each walk were typed by a program of ours off the printed code).
-/
import Derived.Test.YbuabwW9
import Derived.Test.YbuabwW10
import Derived.Test.YbuabwW13
namespace Go.Proofs.Ybuabw
open Go.RowKit
set_option linter.unusedVariables false
set_option linter.unusedSimpArgs false
set_option maxRecDepth 20000

theorem f44_ok (b : Tri) (z : Int) (w : World) (hz : z ≤ 9223372036854775807) (hs : b.s.length ≤ 2097152) : Fn 44 [.agg (encT b).toArray, iv z] w (fun v' w' => OwnR w' w.heap.size tS v' (renderBlock b z) ∧ Ext w w') := by
  refine Fn.mk1 (N := 184) Yabc.func44 rfl rfl rfl rfl ?_
  refine SX.seq (SX.reg ?_)   -- region 0
  refine evd rfl (ev_box (cs := encT b) rfl fun w1 hn1 => ?_)   -- t2 impl.go:523
  have hx1 := hn1.ext
  refine pu rfl pv_as ?_   -- t4 impl.go:523
  refine LW.nil ?_
  refine SX.seq (SX.reg ?_)   -- region 1
  refine pu rfl pv_mv ?_   -- t23 impl.go:524
  refine evd rfl (ev_call cb94 rfl (f94_ok z w1) ?_)   -- t24 impl.go:524
  rintro _ _ ⟨rfl, rfl⟩
  have hW1 := wid_pos z
  have hWz : (wid z : Int) ≤ 9223372036854775807 := by unfold wid; split <;> omega
  have hrb : renderBlock b z = if b.a = 5 then codeL b.s else if b.a = 6 then [List.replicate (min (wid z) 80) 45] else if b.a = 2 then headL b (wid z) else if b.a = 3 then itemL (linesOf (pOf b.s) (bI (wid z) : Nat)) else if b.a = 4 then quotL (linesOf (pOf b.s) (bI (wid z) : Nat)) else linesOf (pOf b.s) (wid z : Nat) := rfl
  generalize hWg : wid z = W at *
  refine pu rfl pv_as ?_   -- t5 impl.go:524
  refine LW.nil ?_
  refine SX.seq (SX.reg ?_)   -- region 2
  refine pu rfl pv_as ?_   -- t6 impl.go:525
  refine LW.nil ?_
  refine SX.mid (G := Unit) (fun _ => [(2, .pointer (some ⟨w.heap.size, 0, none⟩)), (5, iv W), (6, iv (bI W : Nat))]) (fun _ w' => w1 = w') ?_ ?_
  · skip
    refine SX.seq (SX.reg ?_)   -- region 3
    refine pu rfl pv_mv ?_   -- t25 impl.go:526
    refine pu rfl (pv_geq rfl rfl) ?_   -- t26 impl.go:526
    refine LW.nil ?_
    refine SX.cond rfl (fun hc => ?_) (fun hc => ?_)   -- t26
    · skip
      have h3 : 3 ≤ W := by simp at hc; omega
      refine SX.reg ?_
      refine pu rfl pv_mv ?_   -- t27 impl.go:527
      refine pu rfl (pv_sub rfl rfl (by omega)) ?_   -- t28 impl.go:527
      refine pu rfl pv_as ?_   -- t6 impl.go:527
      refine LW.nil ?_
      exact ⟨(), ⟨rfl, rfl, congrArg iv (by rw [bI, if_pos h3]; omega), trivial⟩, rfl⟩
    · skip
      have h3 : ¬ 3 ≤ W := by simp at hc; omega
      refine SX.skip ?_
      exact ⟨(), ⟨rfl, rfl, congrArg iv (by rw [bI, if_neg h3]; rfl), trivial⟩, rfl⟩
  rintro _ w1' ρ1 hw
  subst hw
  have hcb := cut_bd b.s
  have hpo := pOf_bd b.s
  have hso := setSt_bd (pOf b.s)
  have hpl1 := pline_bd b.s (bI W : Nat)
  have hpl2 := pline_bd b.s (W : Nat)
  have hhl := hline_bd b.s (W : Nat)
  refine SX.seq (SX.reg ?_)   -- region 5
  refine pu rfl pv_as ?_   -- t7 impl.go:529
  refine LW.nil ?_
  refine SX.seq ?_
  refine SX.seq (SX.reg ?_)   -- region 6
  refine pu rfl (pv_fa fb30_0 rfl) ?_   -- t29 impl.go:530
  refine pu rfl (pv_ld ag3 rfl (hn1.blk.cell rfl)) ?_   -- t30 impl.go:530
  refine LW.nil ?_
  refine SX.block ?_
  refine SX.seq (SX.reg ?_)   -- region 8
  refine pu rfl (pv_eql rfl rfl) ?_   -- t38 impl.go:531
  refine pu rfl pv_as ?_   -- t37 impl.go:531
  refine LW.nil ?_
  refine SX.cond rfl (fun hc => ?_) (fun hc => ?_)   -- t37
  · skip
    have hk5 : b.a = 5 := by simpa using hc
    refine SX.seq (SX.reg ?_)   -- region 9
    refine pu rfl pv_as ?_   -- t8 impl.go:532
    refine LW.nil ?_
    refine SX.seq ?_
    refine SX.seq (SX.reg ?_)   -- region 10
    refine pu rfl pv_as ?_   -- t9 impl.go:533
    refine LW.nil ?_
    refine SX.block ?_
    refine SX.loop4 (fun (i st : Nat) (P : List Str) vr => [(2, .pointer (some ⟨w.heap.size, 0, none⟩)), (7, vr), (8, iv st), (9, iv i)]) (fun i st P vr w' => CutInv b.s P st i ∧ Ext w1 w' ∧ Own w' w1.heap.size tS vr (P.map (fun p => [32, 32, 32, 32] ++ p))) (fun i _ _ _ => b.s.length - i) 0 0 [] (.slice none 0 0) ⟨rfl, rfl, rfl, rfl, trivial⟩ ⟨CutInv.start b.s, Ext.refl w1, Own.nil _ _ _⟩ ?_
    rintro i st P vr w2 ρ2 ⟨hC, hx2, ho2⟩
    have hle := hC.le
    have hhi := hC.hi
    have hcnt := hC.cnt
    refine SX.seq ?_
    refine SX.seq (SX.reg ?_)   -- region 11
    refine pu rfl pv_mv ?_   -- t39 impl.go:533
    refine pu rfl (pv_fa fb30_2 rfl) ?_   -- t40 impl.go:533
    refine pu rfl (pv_ld ag9 rfl ((hn1.blk.ext hx2).cell rfl)) ?_   -- t41 impl.go:533
    refine pu rfl (pv_len_s rfl) ?_   -- t42 impl.go:533
    refine pu rfl (pv_lss rfl rfl) ?_   -- t43 impl.go:533
    refine LW.nil ?_
    refine SX.cond rfl (fun hc => ?_) (fun hc => ?_)   -- t43
    · skip
      have hlt : i < b.s.length := by simpa using hc
      refine SX.skip ?_
      refine SX.seq ?_
      refine SX.block ?_
      refine SX.seq (SX.reg ?_)   -- region 13
      refine pu rfl (pv_fa fb30_2 rfl) ?_   -- t46 impl.go:534
      refine pu rfl (pv_ld ag9 rfl ((hn1.blk.ext hx2).cell rfl)) ?_   -- t47 impl.go:534
      refine pu rfl pv_mv ?_   -- t48 impl.go:534
      refine pu rfl (pv_index (k := i) rfl rfl (by omega) (by omega)) ?_   -- t49 impl.go:534
      refine pu rfl (pv_eqlB (b := 10) rfl rfl) ?_   -- t50 impl.go:534
      refine LW.nil ?_
      refine SX.cond rfl (fun hc => ?_) (fun hc => ?_)   -- t50
      · skip
        have h10 : b.s.getD i 0 = 10 := by simpa using hc
        refine SX.seq (SX.reg ?_)   -- region 14
        refine pu rfl pv_mv ?_   -- t51 impl.go:535
        refine pu rfl (pv_fa fb30_2 rfl) ?_   -- t52 impl.go:535
        refine pu rfl (pv_ld ag9 rfl ((hn1.blk.ext hx2).cell rfl)) ?_   -- t53 impl.go:535
        refine pu rfl pv_mv ?_   -- t54 impl.go:535
        refine pu rfl pv_mv ?_   -- t55 impl.go:535
        refine pu rfl (pv_cut (a := st) (b := i) rfl rfl rfl (by omega) (by omega) (by omega) (by omega)) ?_   -- t56 impl.go:535
        refine pu rfl (pv_addS (a := [32, 32, 32, 32]) rfl rfl (by simp; omega)) ?_   -- t57 impl.go:535
        refine push (T := tS) ([32, 32, 32, 32] ++ (b.s.drop st).take (i - st)) sl32 okS (by decide) ho2 hx2.size rfl (fun _ => rfl) rfl rfl (by rw [List.length_map]; omega) (by rw [List.length_map]; unfold maxLen; omega) fun J1 v3 w3 ho3 hg3 => ?_   -- t58 impl.go:535
        refine pu rfl pv_as ?_   -- t7 impl.go:535
        refine LW.nil ?_
        refine SX.reg ?_
        refine pu rfl pv_mv ?_   -- t60 impl.go:536
        refine pu rfl (pv_add rfl rfl (by omega)) ?_   -- t61 impl.go:536
        refine pu rfl pv_as ?_   -- t8 impl.go:536
        refine LW.nil ?_
        refine SX.reg ?_
        refine pu rfl pv_mv ?_   -- t44 impl.go:533
        refine pu rfl (pv_add rfl rfl (by omega)) ?_   -- t45 impl.go:533
        refine pu rfl pv_as ?_   -- t9 impl.go:533
        refine LW.nil ?_
        exact ⟨i + 1, i + 1, _, v3, ⟨rfl, rfl, rfl, rfl, trivial⟩, ⟨hC.hit hlt h10, hx2.step hg3.grown (fun g e => (ho2.lt g e).1), by rw [List.map_append]; exact ho3⟩, by omega⟩
      · skip
        have h10 : b.s.getD i 0 ≠ 10 := by simpa using hc
        refine SX.skip ?_
        refine SX.reg ?_
        refine pu rfl pv_mv ?_   -- t44 impl.go:533
        refine pu rfl (pv_add rfl rfl (by omega)) ?_   -- t45 impl.go:533
        refine pu rfl pv_as ?_   -- t9 impl.go:533
        refine LW.nil ?_
        exact ⟨i + 1, st, P, vr, ⟨rfl, rfl, rfl, rfl, trivial⟩, ⟨hC.miss hlt h10, hx2, ho2⟩, by omega⟩
    · skip
      have hge : b.s.length ≤ i := by simpa using hc
      have hdn := hC.done hge
      refine SX.exit (xb_here ?_)
      refine SX.reg ?_
      refine pu rfl pv_mv ?_   -- t62 impl.go:539
      refine pu rfl (pv_fa fb30_2 rfl) ?_   -- t63 impl.go:539
      refine pu rfl (pv_ld ag9 rfl ((hn1.blk.ext hx2).cell rfl)) ?_   -- t64 impl.go:539
      refine pu rfl pv_mv ?_   -- t65 impl.go:539
      refine pu rfl (pv_cutFrom (a := st) rfl rfl (by omega) (by omega)) ?_   -- t66 impl.go:539
      refine pu rfl (pv_addS (a := [32, 32, 32, 32]) rfl rfl (by simp; omega)) ?_   -- t67 impl.go:539
      refine push (T := tS) ([32, 32, 32, 32] ++ b.s.drop st) sl32 okS (by decide) ho2 hx2.size rfl (fun _ => rfl) rfl rfl (by rw [List.length_map]; omega) (by rw [List.length_map]; unfold maxLen; omega) fun J1 v3 w3 ho3 hg3 => ?_   -- t68 impl.go:539
      refine pu rfl pv_as ?_   -- t7 impl.go:539
      refine LW.nil ?_
      refine SX.seq (SX.reg ?_)   -- region 62
      refine pu rfl pv_mv ?_   -- t183 impl.go:588
      refine pu rfl pv_as ?_   -- t4 impl.go:588
      refine LW.nil ?_
      refine SX.ret ?_
      exact ⟨by rw [hrb, if_pos hk5, codeL_eq, hdn, List.map_append]; exact (ho3.low hx1.size).own, hx1.trans (hx2.step hg3.grown (fun g e => (ho2.lt g e).1))⟩
  · skip
    have hk5 : ¬ b.a = 5 := by simpa using hc
    refine SX.seq (SX.reg ?_)   -- region 17
    refine pu rfl (pv_eql rfl rfl) ?_   -- t71 impl.go:540
    refine pu rfl pv_as ?_   -- t70 impl.go:540
    refine LW.nil ?_
    refine SX.cond rfl (fun hc => ?_) (fun hc => ?_)   -- t70
    · skip
      have hk6 : b.a = 6 := by simpa using hc
      refine SX.seq (SX.reg ?_)   -- region 18
      refine pu rfl pv_mv ?_   -- t72 impl.go:541
      refine pu rfl pv_as ?_   -- t10 impl.go:541
      refine LW.nil ?_
      refine SX.mid (G := Unit) (fun _ => [(7, .slice none 0 0), (10, iv (min W 80 : Nat))]) (fun _ w' => w1 = w') ?_ ?_
      · skip
        refine SX.seq (SX.reg ?_)   -- region 19
        refine pu rfl pv_mv ?_   -- t73 impl.go:542
        refine pu rfl (pv_gtr rfl rfl) ?_   -- t74 impl.go:542
        refine LW.nil ?_
        refine SX.cond rfl (fun hc => ?_) (fun hc => ?_)   -- t74
        · skip
          have h80 : min W 80 = 80 := by simp at hc; omega
          refine SX.reg ?_
          refine pu rfl pv_as ?_   -- t10 impl.go:543
          refine LW.nil ?_
          exact ⟨(), ⟨rfl, by rw [h80]; rfl, trivial⟩, rfl⟩
        · skip
          have h80 : min W 80 = W := by simp at hc; omega
          refine SX.skip ?_
          exact ⟨(), ⟨rfl, by rw [h80]; rfl, trivial⟩, rfl⟩
      rintro _ w1' ρ2 hw
      subst hw
      refine SX.reg ?_
      refine pu rfl pv_mv ?_   -- t75 impl.go:545
      refine pu rfl pv_mv ?_   -- t76 impl.go:545
      refine evd rfl (ev_call cb97 rfl (f97_ok 45 (min W 80) w1 (by omega)) ?_)   -- t77 impl.go:545
      rintro _ w2 ⟨rfl, hx2⟩
      refine push (T := tS) (List.replicate (min W 80) 45) sl32 okS (by decide) (Own.nil w2 w2.heap.size tS) (Nat.le_refl _) rfl (fun _ => rfl) rfl rfl (by simp) (by simp [maxLen]) fun J1 v3 w3 ho3 hg3 => ?_   -- t78 impl.go:545
      refine pu rfl pv_as ?_   -- t7 impl.go:545
      refine LW.nil ?_
      refine SX.seq (SX.reg ?_)   -- region 62
      refine pu rfl pv_mv ?_   -- t183 impl.go:588
      refine pu rfl pv_as ?_   -- t4 impl.go:588
      refine LW.nil ?_
      refine SX.ret ?_
      exact ⟨by rw [hrb, if_neg hk5, if_pos hk6]; exact ((by simpa using ho3 : Own w3 w2.heap.size tS v3 [List.replicate (min W 80) 45]).low (Nat.le_trans hx1.size hx2.size)).own, (hx1.trans hx2).step hg3.grown (fun g e => by simp [Value.ownBlock] at e)⟩
    · skip
      have hk6 : ¬ b.a = 6 := by simpa using hc
      refine SX.seq (SX.reg ?_)   -- region 22
      refine pu rfl (pv_eql rfl rfl) ?_   -- t81 impl.go:546
      refine pu rfl pv_as ?_   -- t80 impl.go:546
      refine LW.nil ?_
      refine SX.cond rfl (fun hc => ?_) (fun hc => ?_)   -- t80
      · skip
        have hk2 : b.a = 2 := by simpa using hc
        refine SX.seq (SX.reg ?_)   -- region 23
        refine pu rfl (pv_fa fb30_2 rfl) ?_   -- t82 impl.go:547
        refine pu rfl (pv_ld ag9 rfl (hn1.blk.cell rfl)) ?_   -- t83 impl.go:547
        refine evd rfl (ev_call cb98 rfl (f98_ok b.s w1 (by omega)) ?_)   -- t84 impl.go:547
        rintro vq w2 ⟨hoq, hx2⟩
        refine pu rfl pv_as ?_   -- t11 impl.go:547
        refine LW.nil ?_
        refine SX.seq ?_
        refine SX.seq (SX.reg ?_)   -- region 24
        refine pu rfl pv_mv ?_   -- t85 impl.go:548
        refine pu rfl (pv_lenV (T := tI) Yabc.underlying23 hoq.rd rfl) ?_   -- t86 impl.go:548
        refine pu rfl pv_mv ?_   -- t87 impl.go:548
        refine LW.nil ?_
        refine SX.block ?_
        refine SX.loop (G := Nat) (fun k => [(2, .pointer (some ⟨w.heap.size, 0, none⟩)), (5, iv W), (11, vq), (85, vq), (86, iv (pOf b.s).length), (87, iv k)]) (fun k w' => k ≤ (pOf b.s).length ∧ Ext w1 w' ∧ OwnR w' w1.heap.size tI vq (stN (pOf b.s) k)) (fun k => (pOf b.s).length - k) 0 ⟨rfl, rfl, rfl, rfl, rfl, rfl, trivial⟩ ⟨Nat.zero_le _, hx2, by simpa [stN] using hoq⟩ ?_
        rintro k w3 ρ3 ⟨hk, hx3, ho3⟩
        have hsl := stN_len (pOf b.s) k hk
        refine SX.seq (SX.reg ?_)   -- region 25
        refine pu rfl (pv_lss rfl rfl) ?_   -- t88 impl.go:548
        refine LW.nil ?_
        refine SX.seq ?_
        refine SX.cond rfl (fun hc => ?_) (fun hc => ?_)   -- t88
        · skip
          have hkq : k < (pOf b.s).length := by simp at hc; omega
          have hsg := stN_get (pOf b.s) k hkq
          refine SX.skip ?_
          refine SX.seq ?_
          refine SX.block ?_
          refine SX.seq (SX.reg ?_)   -- region 26
          refine pu rfl pv_mv ?_   -- t89 impl.go:548
          refine pu rfl pv_as ?_   -- t12 impl.go:548
          refine LW.nil ?_
          refine SX.seq (SX.reg ?_)   -- region 27
          refine pu rfl pv_mv ?_   -- t90 impl.go:549
          refine pu rfl pv_mv ?_   -- t91 impl.go:549
          refine pu rfl (pv_ix (T := tI) (k := k) Yabc.underlying23 sz67 okI ho3.rd rfl rfl (by omega) (by omega)) ?_   -- t92 impl.go:549
          refine pu rfl (pv_fa fb67_0 rfl) ?_   -- t93 impl.go:549
          refine pu rfl (pv_ld ag3 rfl (ho3.rd.cellAt okI (by omega) rfl)) ?_   -- t94 impl.go:549
          refine pu rfl (pv_eql rfl rfl) ?_   -- t95 impl.go:549
          refine LW.nil ?_
          refine SX.cond rfl (fun hc => ?_) (fun hc => ?_)   -- t95
          · skip
            have ha0 : ((pOf b.s)[k]'hkq).a = 0 := by rw [← hsg]; simpa using hc
            refine SX.reg ?_
            refine pu rfl pv_mv ?_   -- t96 impl.go:550
            refine pu rfl pv_mv ?_   -- t97 impl.go:550
            refine pu rfl (pv_ix (T := tI) (k := k) Yabc.underlying23 sz67 okI ho3.rd rfl rfl (by omega) (by omega)) ?_   -- t98 impl.go:550
            refine pu rfl (pv_fa fb67_1 rfl) ?_   -- t99 impl.go:550
            refine evn (ev_stF (T := tI) (o := 1) (u := iv 1) (st1 ((pOf b.s)[k]'hkq)) okI ho3 (k := k) (by omega) (by decide) sz3 rfl rfl rfl (by rw [hsg]; simp [st1, ha0, tI, encT]) fun w4 ho4 hg4 hz4 hb4 => ?_)   --  impl.go:550
            rw [stN_set _ _ hkq] at ho4
            refine LW.nil ?_
            refine SX.reg ?_
            refine pu rfl (pv_add rfl rfl (by omega)) ?_   -- t100 impl.go:548
            refine pu rfl pv_mv ?_   -- t87 impl.go:548
            refine LW.nil ?_
            exact ⟨k + 1, ⟨rfl, rfl, rfl, rfl, rfl, rfl, trivial⟩, ⟨by omega, hx3.step hg4 hb4, ho4⟩, by omega⟩
          · skip
            have ha0 : ¬ ((pOf b.s)[k]'hkq).a = 0 := by rw [← hsg]; simpa using hc
            refine SX.skip ?_
            refine SX.reg ?_
            refine pu rfl (pv_add rfl rfl (by omega)) ?_   -- t100 impl.go:548
            refine pu rfl pv_mv ?_   -- t87 impl.go:548
            refine LW.nil ?_
            exact ⟨k + 1, ⟨rfl, rfl, rfl, rfl, rfl, rfl, trivial⟩, ⟨by omega, hx3, by rw [← stN_keep _ _ hkq ha0]; exact ho3⟩, by omega⟩
        · skip
          have hge : k = (pOf b.s).length := by simp at hc; omega
          subst hge
          rw [stN_end] at ho3
          refine SX.exit (xb_here ?_)
          refine SX.seq (SX.reg ?_)   -- region 30
          refine pu rfl pv_mv ?_   -- t101 impl.go:553
          refine pu rfl pv_mv ?_   -- t102 impl.go:553
          refine evd rfl (ev_call cb42 rfl (f42_ok vq (setSt (pOf b.s)) (W : Nat) w3 ho3.rd (by omega) (by omega)) ?_)   -- t103 impl.go:553
          rintro vf w5 ⟨hof, hx5⟩
          have hll := layout_len (setSt (pOf b.s)) (W : Nat)   -- t104 impl.go:553
          have hlt2 := layout_tl (setSt (pOf b.s)) (W : Nat)
          refine evd rfl (ev_call cb37 rfl (f37_own vf (layout (setSt (pOf b.s)) (W : Nat)) w5 hof.rd (by omega) (by omega)) ?_)
          rintro vl w6 ⟨hol, hx6⟩
          have hx16 := (hx3.trans hx5).trans hx6
          have hol : Own w6 w5.heap.size tS vl (linesOf (setSt (pOf b.s)) (W : Nat)) := hol
          have hmxl := mxN_le (linesOf (setSt (pOf b.s)) (W : Nat))
          refine pu rfl pv_as ?_   -- t7 impl.go:553
          refine LW.nil ?_
          refine SX.seq (SX.reg ?_)   -- region 31
          refine pu rfl pv_as ?_   -- t13 impl.go:554
          refine LW.nil ?_
          refine SX.seq ?_
          refine SX.seq (SX.reg ?_)   -- region 32
          refine pu rfl pv_mv ?_   -- t105 impl.go:555
          refine pu rfl (pv_lenV (T := tS) Yabc.underlying32 hol.rd rfl) ?_   -- t106 impl.go:555
          refine pu rfl pv_mv ?_   -- t107 impl.go:555
          refine LW.nil ?_
          refine SX.block ?_
          refine SX.loop (G := Nat) (fun k => [(2, .pointer (some ⟨w.heap.size, 0, none⟩)), (7, vl), (13, iv (mxN (linesOf (setSt (pOf b.s)) (W : Nat)) k)), (105, vl), (106, iv (linesOf (setSt (pOf b.s)) (W : Nat)).length), (107, iv k)]) (fun k w' => w6 = w' ∧ k ≤ (linesOf (setSt (pOf b.s)) (W : Nat)).length) (fun k => (linesOf (setSt (pOf b.s)) (W : Nat)).length - k) 0 ⟨rfl, rfl, rfl, rfl, rfl, rfl, trivial⟩ ⟨rfl, Nat.zero_le _⟩ ?_
          rintro k w6' ρ6 ⟨hw, hk⟩
          subst hw
          refine SX.seq (SX.reg ?_)   -- region 33
          refine pu rfl (pv_lss rfl rfl) ?_   -- t108 impl.go:555
          refine LW.nil ?_
          refine SX.seq ?_
          refine SX.cond rfl (fun hc => ?_) (fun hc => ?_)   -- t108
          · skip
            have hkl : k < (linesOf (setSt (pOf b.s)) (W : Nat)).length := by simpa using hc
            have hgd := getD_lt (linesOf (setSt (pOf b.s)) (W : Nat)) k [] hkl
            refine SX.skip ?_
            refine SX.seq ?_
            refine SX.block ?_
            refine SX.seq (SX.reg ?_)   -- region 34
            refine pu rfl (pv_ix (T := tS) (k := k) Yabc.underlying32 sz9 okS hol.rd rfl rfl (by omega) (by omega)) ?_   -- t109 impl.go:555
            refine pu rfl (pv_ld ag9 rfl (hol.rd.cell0 okS (by omega) rfl)) ?_   -- t110 impl.go:555
            refine pu rfl pv_as ?_   -- t15 impl.go:555
            refine LW.nil ?_
            refine SX.seq (SX.reg ?_)   -- region 35
            refine pu rfl pv_mv ?_   -- t111 impl.go:556
            refine pu rfl (pv_len_s rfl) ?_   -- t112 impl.go:556
            refine pu rfl pv_mv ?_   -- t113 impl.go:556
            refine pu rfl (pv_gtr rfl rfl) ?_   -- t114 impl.go:556
            refine LW.nil ?_
            refine SX.cond rfl (fun hc => ?_) (fun hc => ?_)   -- t114
            · skip
              have hgt : mxN (linesOf (setSt (pOf b.s)) (W : Nat)) (k + 1) = ((linesOf (setSt (pOf b.s)) (W : Nat))[k]'hkl).length := by
                rw [mxN, hgd, if_pos (by simp at hc; omega)]
              refine SX.reg ?_
              refine pu rfl pv_mv ?_   -- t115 impl.go:557
              refine pu rfl (pv_len_s rfl) ?_   -- t116 impl.go:557
              refine pu rfl pv_as ?_   -- t13 impl.go:557
              refine LW.nil ?_
              refine SX.reg ?_
              refine pu rfl (pv_add rfl rfl (by omega)) ?_   -- t117 impl.go:555
              refine pu rfl pv_mv ?_   -- t107 impl.go:555
              refine LW.nil ?_
              exact ⟨k + 1, ⟨rfl, rfl, by rw [hgt]; rfl, rfl, rfl, rfl, trivial⟩, ⟨rfl, by omega⟩, by omega⟩
            · skip
              have hgt : mxN (linesOf (setSt (pOf b.s)) (W : Nat)) (k + 1) = mxN (linesOf (setSt (pOf b.s)) (W : Nat)) k := by
                rw [mxN, hgd, if_neg (by simp at hc; omega)]
              refine SX.skip ?_
              refine SX.reg ?_
              refine pu rfl (pv_add rfl rfl (by omega)) ?_   -- t117 impl.go:555
              refine pu rfl pv_mv ?_   -- t107 impl.go:555
              refine LW.nil ?_
              exact ⟨k + 1, ⟨rfl, rfl, by rw [hgt]; rfl, rfl, rfl, rfl, trivial⟩, ⟨rfl, by omega⟩, by omega⟩
          · skip
            have hge : k = (linesOf (setSt (pOf b.s)) (W : Nat)).length := by simp at hc; omega
            subst hge
            refine SX.exit (xb_here ?_)
            refine SX.seq (SX.reg ?_)   -- region 38
            refine pu rfl pv_as ?_   -- t16 impl.go:560
            refine LW.nil ?_
            refine SX.mid (G := Unit) (fun _ => [(7, vl), (13, iv (mxN (linesOf (setSt (pOf b.s)) (W : Nat)) (linesOf (setSt (pOf b.s)) (W : Nat)).length)), (16, bt (if b.b = 1 then 61 else 45))]) (fun _ w' => w6 = w') ?_ ?_
            · skip
              refine SX.seq (SX.reg ?_)   -- region 39
              refine pu rfl (pv_fa fb30_1 rfl) ?_   -- t118 impl.go:561
              refine pu rfl (pv_ld ag3 rfl ((hn1.blk.ext hx16).cell rfl)) ?_   -- t119 impl.go:561
              refine pu rfl (pv_eql rfl rfl) ?_   -- t120 impl.go:561
              refine LW.nil ?_
              refine SX.cond rfl (fun hc => ?_) (fun hc => ?_)   -- t120
              · skip
                have hb1 : b.b = 1 := by simpa using hc
                refine SX.reg ?_
                refine pu rfl pv_as ?_   -- t16 impl.go:562
                refine LW.nil ?_
                exact ⟨(), ⟨rfl, rfl, by rw [if_pos hb1]; rfl, trivial⟩, rfl⟩
              · skip
                have hb1 : ¬ b.b = 1 := by simpa using hc
                refine SX.skip ?_
                exact ⟨(), ⟨rfl, rfl, by rw [if_neg hb1]; rfl, trivial⟩, rfl⟩
            rintro _ w6' ρ7 hw
            subst hw
            have hmx := hmxl _ (Nat.le_refl _)
            refine SX.reg ?_
            refine pu rfl pv_mv ?_   -- t121 impl.go:564
            refine pu rfl pv_mv ?_   -- t122 impl.go:564
            refine pu rfl pv_mv ?_   -- t123 impl.go:564
            refine evd rfl (ev_call cb97 rfl (f97_ok (if b.b = 1 then 61 else 45) (mxN (linesOf (setSt (pOf b.s)) (W : Nat)) (linesOf (setSt (pOf b.s)) (W : Nat)).length) w6 (by omega)) ?_)   -- t124 impl.go:564
            rintro _ w7 ⟨rfl, hx7⟩
            have hol7 := hol.ext hx7
            refine push (T := tS) (List.replicate (mxN (linesOf (setSt (pOf b.s)) (W : Nat)) (linesOf (setSt (pOf b.s)) (W : Nat)).length) (if b.b = 1 then 61 else 45)) sl32 okS (by decide) hol7 (Nat.le_trans hx6.size hx7.size) rfl (fun _ => rfl) rfl rfl (by omega) (by unfold maxLen; omega) fun J1 v8 w8 ho8 hg8 => ?_   -- t125 impl.go:564
            refine pu rfl pv_as ?_   -- t7 impl.go:564
            refine LW.nil ?_
            refine SX.seq (SX.reg ?_)   -- region 62
            refine pu rfl pv_mv ?_   -- t183 impl.go:588
            refine pu rfl pv_as ?_   -- t4 impl.go:588
            refine LW.nil ?_
            refine SX.ret ?_
            exact ⟨by rw [hrb, if_neg hk5, if_neg hk6, if_pos hk2]; exact (ho8.low (by have := hx1.size; have := hx3.size; have := hx5.size; omega)).own, ((hx1.trans hx16).trans hx7).step hg8.grown (fun g e => by have := (hol7.lt g e).1; have := hx1.size; have := hx3.size; have := hx5.size; omega)⟩
      · skip
        have hk2 : ¬ b.a = 2 := by simpa using hc
        refine SX.seq (SX.reg ?_)   -- region 42
        refine pu rfl (pv_eql rfl rfl) ?_   -- t128 impl.go:565
        refine pu rfl pv_as ?_   -- t127 impl.go:565
        refine LW.nil ?_
        refine SX.cond rfl (fun hc => ?_) (fun hc => ?_)   -- t127
        · skip
          have hk3 : b.a = 3 := by simpa using hc
          refine SX.seq (SX.reg ?_)   -- region 43
          refine pu rfl (pv_fa fb30_2 rfl) ?_   -- t129 impl.go:566
          refine pu rfl (pv_ld ag9 rfl (hn1.blk.cell rfl)) ?_   -- t130 impl.go:566
          refine evd rfl (ev_call cb98 rfl (f98_ok b.s w1 (by omega)) ?_)   -- t131 impl.go:566
          rintro vq w2 ⟨hoq, hx2⟩
          refine pu rfl pv_mv ?_   -- t132 impl.go:566
          refine evd rfl (ev_call cb42 rfl (f42_ok vq (pOf b.s) (bI W : Nat) w2 hoq.rd (by omega) (by omega)) ?_)   -- t133 impl.go:566
          rintro vf w3 ⟨hof, hx3⟩
          have hll := layout_len (pOf b.s) (bI W : Nat)   -- t134 impl.go:566
          have hlt2 := layout_tl (pOf b.s) (bI W : Nat)
          refine evd rfl (ev_call cb37 rfl (f37_own vf (layout (pOf b.s) (bI W : Nat)) w3 hof.rd (by omega) (by omega)) ?_)
          rintro vl w4 ⟨hol, hx4⟩
          have hx14 := (hx2.trans hx3).trans hx4
          have hol : Own w4 w3.heap.size tS vl (linesOf (pOf b.s) (bI W : Nat)) := hol
          refine pu rfl pv_as ?_   -- t17 impl.go:566
          refine LW.nil ?_
          refine SX.seq ?_
          refine SX.seq (SX.reg ?_)   -- region 44
          refine pu rfl pv_mv ?_   -- t135 impl.go:567
          refine pu rfl (pv_lenV (T := tS) Yabc.underlying32 hol.rd rfl) ?_   -- t136 impl.go:567
          refine pu rfl (pv_eql rfl rfl) ?_   -- t137 impl.go:567
          refine LW.nil ?_
          refine SX.cond rfl (fun hc => ?_) (fun hc => ?_)   -- t137
          · skip
            have hl0 : (linesOf (pOf b.s) (bI W : Nat)) = [] := by simpa using hc
            refine SX.seq (SX.reg ?_)   -- region 45
            refine evd rfl (ev_bs1 (cs := tS.enc [42]) sl32 rfl rfl (by decide) fun w5 hn5 => ?_)   -- t138 impl.go:568
            refine pu rfl pv_as ?_   -- t4 impl.go:568
            refine LW.nil ?_
            refine SX.ret ?_
            exact ⟨by rw [hrb, if_neg hk5, if_neg hk6, if_neg hk2, if_pos hk3, itemL, if_pos hl0]; exact (Own.lit okS hn5 (by have := hx1.size; have := hx14.size; omega)).own, (hx1.trans hx14).trans hn5.ext⟩
          · skip
            have hl0 : ¬ (linesOf (pOf b.s) (bI W : Nat)) = [] := by simpa using hc
            refine SX.skip ?_
            refine SX.seq (SX.reg ?_)   -- region 46
            refine pu rfl pv_mv ?_   -- t139 impl.go:570
            refine pu rfl (pv_lenV (T := tS) Yabc.underlying32 hol.rd rfl) ?_   -- t140 impl.go:570
            refine pu rfl pv_mv ?_   -- t141 impl.go:570
            refine LW.nil ?_
            refine SX.block ?_
            refine SX.loop2 (fun (k : Nat) vr => [(7, vr), (139, vl), (140, iv (linesOf (pOf b.s) (bI W : Nat)).length), (141, iv k)]) (fun k vr w' => k ≤ (linesOf (pOf b.s) (bI W : Nat)).length ∧ Ext w4 w' ∧ Own w' w4.heap.size tS vr (preN itF (linesOf (pOf b.s) (bI W : Nat)) k)) (fun k _ => (linesOf (pOf b.s) (bI W : Nat)).length - k) 0 (.slice none 0 0) ⟨rfl, rfl, rfl, rfl, trivial⟩ ⟨Nat.zero_le _, Ext.refl w4, Own.nil _ _ _⟩ ?_
            rintro k vr w5 ρ5 ⟨hk, hx5, ho5⟩
            have hpn := preN_len itF (linesOf (pOf b.s) (bI W : Nat)) k
            refine SX.seq (SX.reg ?_)   -- region 47
            refine pu rfl (pv_lss rfl rfl) ?_   -- t142 impl.go:570
            refine LW.nil ?_
            refine SX.seq ?_
            refine SX.cond rfl (fun hc => ?_) (fun hc => ?_)   -- t142
            · skip
              have hkl : k < (linesOf (pOf b.s) (bI W : Nat)).length := by simpa using hc
              have htm := ttl_mem _ _ (List.getElem_mem hkl)
              refine SX.skip ?_
              refine SX.seq ?_
              refine SX.block ?_
              refine SX.seq (SX.reg ?_)   -- region 48
              refine pu rfl pv_mv ?_   -- t143 impl.go:570
              refine pu rfl (pv_ix (T := tS) (k := k) Yabc.underlying32 sz9 okS (hol.rd.ext hx5) rfl rfl (by omega) (by omega)) ?_   -- t144 impl.go:570
              refine pu rfl (pv_ld ag9 rfl ((hol.rd.ext hx5).cell0 okS (by omega) rfl)) ?_   -- t145 impl.go:570
              refine pu rfl pv_as ?_   -- t18 impl.go:570
              refine pu rfl pv_as ?_   -- t19 impl.go:570
              refine LW.nil ?_
              refine SX.seq (SX.reg ?_)   -- region 49
              refine pu rfl pv_mv ?_   -- t146 impl.go:571
              refine pu rfl (pv_eql rfl rfl) ?_   -- t147 impl.go:571
              refine LW.nil ?_
              refine SX.cond rfl (fun hc => ?_) (fun hc => ?_)   -- t147
              · skip
                have hk0 : k = 0 := by simp at hc; omega
                refine SX.reg ?_
                refine pu rfl pv_mv ?_   -- t148 impl.go:572
                refine pu rfl pv_mv ?_   -- t149 impl.go:572
                refine pu rfl (pv_addS (a := [42, 32]) rfl rfl (by simp; omega)) ?_   -- t150 impl.go:572
                refine push (T := tS) ([42, 32] ++ ((linesOf (pOf b.s) (bI W : Nat))[k]'hkl)) sl32 okS (by decide) ho5 hx5.size rfl (fun _ => rfl) rfl rfl (by omega) (by unfold maxLen; omega) fun J1 v6 w6 ho6 hg6 => ?_   -- t151 impl.go:572
                refine pu rfl pv_as ?_   -- t7 impl.go:572
                refine LW.nil ?_
                refine SX.reg ?_
                refine pu rfl (pv_add rfl rfl (by omega)) ?_   -- t158 impl.go:570
                refine pu rfl pv_mv ?_   -- t141 impl.go:570
                refine LW.nil ?_
                exact ⟨k + 1, v6, ⟨rfl, rfl, rfl, rfl, trivial⟩, ⟨by omega, hx5.step hg6.grown (fun g e => (ho5.lt g e).1), by rw [preN, getD_lt _ _ _ hkl, itF, if_pos hk0]; exact ho6⟩, by omega⟩
              · skip
                have hk0 : ¬ k = 0 := by simp at hc; omega
                refine SX.reg ?_
                refine pu rfl pv_mv ?_   -- t153 impl.go:574
                refine pu rfl pv_mv ?_   -- t154 impl.go:574
                refine pu rfl (pv_addS (a := [32, 32]) rfl rfl (by simp; omega)) ?_   -- t155 impl.go:574
                refine push (T := tS) ([32, 32] ++ ((linesOf (pOf b.s) (bI W : Nat))[k]'hkl)) sl32 okS (by decide) ho5 hx5.size rfl (fun _ => rfl) rfl rfl (by omega) (by unfold maxLen; omega) fun J1 v6 w6 ho6 hg6 => ?_   -- t156 impl.go:574
                refine pu rfl pv_as ?_   -- t7 impl.go:574
                refine LW.nil ?_
                refine SX.reg ?_
                refine pu rfl (pv_add rfl rfl (by omega)) ?_   -- t158 impl.go:570
                refine pu rfl pv_mv ?_   -- t141 impl.go:570
                refine LW.nil ?_
                exact ⟨k + 1, v6, ⟨rfl, rfl, rfl, rfl, trivial⟩, ⟨by omega, hx5.step hg6.grown (fun g e => (ho5.lt g e).1), by rw [preN, getD_lt _ _ _ hkl, itF, if_neg hk0]; exact ho6⟩, by omega⟩
            · skip
              have hge : k = (linesOf (pOf b.s) (bI W : Nat)).length := by simp at hc; omega
              subst hge
              refine SX.exit (xb_here ?_)
              refine SX.seq (SX.reg ?_)   -- region 62
              refine pu rfl pv_mv ?_   -- t183 impl.go:588
              refine pu rfl pv_as ?_   -- t4 impl.go:588
              refine LW.nil ?_
              refine SX.ret ?_
              exact ⟨by rw [hrb, if_neg hk5, if_neg hk6, if_neg hk2, if_pos hk3, itemL, if_neg hl0]; exact (ho5.low (by have := hx1.size; have := hx14.size; omega)).own, (hx1.trans hx14).trans hx5⟩
        · skip
          have hk3 : ¬ b.a = 3 := by simpa using hc
          refine SX.seq (SX.reg ?_)   -- region 53
          refine pu rfl (pv_eql rfl rfl) ?_   -- t160 impl.go:577
          refine pu rfl pv_as ?_   -- t159 impl.go:577
          refine LW.nil ?_
          refine SX.cond rfl (fun hc => ?_) (fun hc => ?_)   -- t159
          · skip
            have hk4 : b.a = 4 := by simpa using hc
            refine SX.seq (SX.reg ?_)   -- region 54
            refine pu rfl (pv_fa fb30_2 rfl) ?_   -- t161 impl.go:578
            refine pu rfl (pv_ld ag9 rfl (hn1.blk.cell rfl)) ?_   -- t162 impl.go:578
            refine evd rfl (ev_call cb98 rfl (f98_ok b.s w1 (by omega)) ?_)   -- t163 impl.go:578
            rintro vq w2 ⟨hoq, hx2⟩
            refine pu rfl pv_mv ?_   -- t164 impl.go:578
            refine evd rfl (ev_call cb42 rfl (f42_ok vq (pOf b.s) (bI W : Nat) w2 hoq.rd (by omega) (by omega)) ?_)   -- t165 impl.go:578
            rintro vf w3 ⟨hof, hx3⟩
            have hll := layout_len (pOf b.s) (bI W : Nat)   -- t166 impl.go:578
            have hlt2 := layout_tl (pOf b.s) (bI W : Nat)
            refine evd rfl (ev_call cb37 rfl (f37_own vf (layout (pOf b.s) (bI W : Nat)) w3 hof.rd (by omega) (by omega)) ?_)
            rintro vl w4 ⟨hol, hx4⟩
            have hx14 := (hx2.trans hx3).trans hx4
            have hol : Own w4 w3.heap.size tS vl (linesOf (pOf b.s) (bI W : Nat)) := hol
            refine pu rfl pv_as ?_   -- t20 impl.go:578
            refine LW.nil ?_
            refine SX.seq ?_
            refine SX.seq (SX.reg ?_)   -- region 55
            refine pu rfl pv_mv ?_   -- t167 impl.go:579
            refine pu rfl (pv_lenV (T := tS) Yabc.underlying32 hol.rd rfl) ?_   -- t168 impl.go:579
            refine pu rfl (pv_eql rfl rfl) ?_   -- t169 impl.go:579
            refine LW.nil ?_
            refine SX.cond rfl (fun hc => ?_) (fun hc => ?_)   -- t169
            · skip
              have hl0 : (linesOf (pOf b.s) (bI W : Nat)) = [] := by simpa using hc
              refine SX.seq (SX.reg ?_)   -- region 56
              refine evd rfl (ev_bs1 (cs := tS.enc [124]) sl32 rfl rfl (by decide) fun w5 hn5 => ?_)   -- t170 impl.go:580
              refine pu rfl pv_as ?_   -- t4 impl.go:580
              refine LW.nil ?_
              refine SX.ret ?_
              exact ⟨by rw [hrb, if_neg hk5, if_neg hk6, if_neg hk2, if_neg hk3, if_pos hk4, quotL, if_pos hl0]; exact (Own.lit okS hn5 (by have := hx1.size; have := hx14.size; omega)).own, (hx1.trans hx14).trans hn5.ext⟩
            · skip
              have hl0 : ¬ (linesOf (pOf b.s) (bI W : Nat)) = [] := by simpa using hc
              refine SX.skip ?_
              refine SX.seq (SX.reg ?_)   -- region 57
              refine pu rfl pv_mv ?_   -- t171 impl.go:582
              refine pu rfl (pv_lenV (T := tS) Yabc.underlying32 hol.rd rfl) ?_   -- t172 impl.go:582
              refine pu rfl pv_mv ?_   -- t173 impl.go:582
              refine LW.nil ?_
              refine SX.block ?_
              refine SX.loop2 (fun (k : Nat) vr => [(7, vr), (171, vl), (172, iv (linesOf (pOf b.s) (bI W : Nat)).length), (173, iv k)]) (fun k vr w' => k ≤ (linesOf (pOf b.s) (bI W : Nat)).length ∧ Ext w4 w' ∧ Own w' w4.heap.size tS vr (preN quF (linesOf (pOf b.s) (bI W : Nat)) k)) (fun k _ => (linesOf (pOf b.s) (bI W : Nat)).length - k) 0 (.slice none 0 0) ⟨rfl, rfl, rfl, rfl, trivial⟩ ⟨Nat.zero_le _, Ext.refl w4, Own.nil _ _ _⟩ ?_
              rintro k vr w5 ρ5 ⟨hk, hx5, ho5⟩
              have hpn := preN_len quF (linesOf (pOf b.s) (bI W : Nat)) k
              refine SX.seq (SX.reg ?_)   -- region 58
              refine pu rfl (pv_lss rfl rfl) ?_   -- t174 impl.go:582
              refine LW.nil ?_
              refine SX.seq ?_
              refine SX.cond rfl (fun hc => ?_) (fun hc => ?_)   -- t174
              · skip
                have hkl : k < (linesOf (pOf b.s) (bI W : Nat)).length := by simpa using hc
                have htm := ttl_mem _ _ (List.getElem_mem hkl)
                refine SX.skip ?_
                refine SX.seq ?_
                refine SX.block ?_
                refine SX.seq (SX.reg ?_)   -- region 59
                refine pu rfl (pv_ix (T := tS) (k := k) Yabc.underlying32 sz9 okS (hol.rd.ext hx5) rfl rfl (by omega) (by omega)) ?_   -- t175 impl.go:582
                refine pu rfl (pv_ld ag9 rfl ((hol.rd.ext hx5).cell0 okS (by omega) rfl)) ?_   -- t176 impl.go:582
                refine pu rfl pv_as ?_   -- t22 impl.go:582
                refine LW.nil ?_
                refine SX.reg ?_
                refine pu rfl pv_mv ?_   -- t177 impl.go:583
                refine pu rfl pv_mv ?_   -- t178 impl.go:583
                refine pu rfl (pv_addS (a := [124, 32]) rfl rfl (by simp; omega)) ?_   -- t179 impl.go:583
                refine push (T := tS) ([124, 32] ++ ((linesOf (pOf b.s) (bI W : Nat))[k]'hkl)) sl32 okS (by decide) ho5 hx5.size rfl (fun _ => rfl) rfl rfl (by omega) (by unfold maxLen; omega) fun J1 v6 w6 ho6 hg6 => ?_   -- t180 impl.go:583
                refine pu rfl pv_as ?_   -- t7 impl.go:583
                refine LW.nil ?_
                refine SX.reg ?_
                refine pu rfl (pv_add rfl rfl (by omega)) ?_   -- t182 impl.go:582
                refine pu rfl pv_mv ?_   -- t173 impl.go:582
                refine LW.nil ?_
                exact ⟨k + 1, v6, ⟨rfl, rfl, rfl, rfl, trivial⟩, ⟨by omega, hx5.step hg6.grown (fun g e => (ho5.lt g e).1), by rw [preN, getD_lt _ _ _ hkl, quF]; exact ho6⟩, by omega⟩
              · skip
                have hge : k = (linesOf (pOf b.s) (bI W : Nat)).length := by simp at hc; omega
                subst hge
                refine SX.exit (xb_here ?_)
                refine SX.seq (SX.reg ?_)   -- region 62
                refine pu rfl pv_mv ?_   -- t183 impl.go:588
                refine pu rfl pv_as ?_   -- t4 impl.go:588
                refine LW.nil ?_
                refine SX.ret ?_
                exact ⟨by rw [hrb, if_neg hk5, if_neg hk6, if_neg hk2, if_neg hk3, if_pos hk4, quotL, if_neg hl0]; exact (ho5.low (by have := hx1.size; have := hx14.size; omega)).own, (hx1.trans hx14).trans hx5⟩
          · skip
            have hk4 : ¬ b.a = 4 := by simpa using hc
            refine SX.reg ?_
            refine pu rfl (pv_fa fb30_2 rfl) ?_   -- t31 impl.go:586
            refine pu rfl (pv_ld ag9 rfl (hn1.blk.cell rfl)) ?_   -- t32 impl.go:586
            refine evd rfl (ev_call cb98 rfl (f98_ok b.s w1 (by omega)) ?_)   -- t33 impl.go:586
            rintro vq w2 ⟨hoq, hx2⟩
            refine pu rfl pv_mv ?_   -- t34 impl.go:586
            refine evd rfl (ev_call cb42 rfl (f42_ok vq (pOf b.s) (W : Nat) w2 hoq.rd (by omega) (by omega)) ?_)   -- t35 impl.go:586
            rintro vf w3 ⟨hof, hx3⟩
            have hll := layout_len (pOf b.s) (W : Nat)   -- t36 impl.go:586
            have hlt2 := layout_tl (pOf b.s) (W : Nat)
            refine evd rfl (ev_call cb37 rfl (f37_own vf (layout (pOf b.s) (W : Nat)) w3 hof.rd (by omega) (by omega)) ?_)
            rintro vl w4 ⟨hol, hx4⟩
            have hx14 := (hx2.trans hx3).trans hx4
            have hol : Own w4 w3.heap.size tS vl (linesOf (pOf b.s) (W : Nat)) := hol
            refine pu rfl pv_as ?_   -- t7 impl.go:586
            refine LW.nil ?_
            refine SX.seq (SX.reg ?_)   -- region 62
            refine pu rfl pv_mv ?_   -- t183 impl.go:588
            refine pu rfl pv_as ?_   -- t4 impl.go:588
            refine LW.nil ?_
            refine SX.ret ?_
            exact ⟨by rw [hrb, if_neg hk5, if_neg hk6, if_neg hk2, if_neg hk3, if_neg hk4]; exact (hol.low (by have := hx1.size; have := hx2.size; have := hx3.size; omega)).own, hx1.trans hx14⟩

theorem f45_ok (b : Tri) (z : Int) (w : World) (hz : z ≤ 9223372036854775807) (hs : b.s.length ≤ 2097152) : Fn 45 [.agg (encT b).toArray, iv z] w (fun v' w' => OwnR w' w.heap.size tS v' (renderBlock b z) ∧ Ext w w') := by
  refine Fn.mk1 (N := 181) Yabc.func45 rfl rfl rfl rfl ?_
  refine SX.seq (SX.reg ?_)   -- region 0
  refine evd rfl (ev_box (cs := encT b) rfl fun w1 hn1 => ?_)   -- t2 spec.go:1003
  have hx1 := hn1.ext
  refine pu rfl pv_as ?_   -- t4 spec.go:1003
  refine LW.nil ?_
  refine SX.seq (SX.reg ?_)   -- region 1
  refine pu rfl pv_mv ?_   -- t23 spec.go:1004
  refine evd rfl (ev_call cb95 rfl (f95_ok z w1) ?_)   -- t24 spec.go:1004
  rintro _ _ ⟨rfl, rfl⟩
  have hW1 := wid_pos z
  have hWz : (wid z : Int) ≤ 9223372036854775807 := by unfold wid; split <;> omega
  have hrb : renderBlock b z = if b.a = 5 then codeL b.s else if b.a = 6 then [List.replicate (min (wid z) 80) 45] else if b.a = 2 then headL b (wid z) else if b.a = 3 then itemL (linesOf (pOf b.s) (bI (wid z) : Nat)) else if b.a = 4 then quotL (linesOf (pOf b.s) (bI (wid z) : Nat)) else linesOf (pOf b.s) (wid z : Nat) := rfl
  generalize hWg : wid z = W at *
  refine pu rfl pv_as ?_   -- t5 spec.go:1004
  refine LW.nil ?_
  refine SX.seq (SX.reg ?_)   -- region 2
  refine pu rfl pv_as ?_   -- t6 spec.go:1005
  refine LW.nil ?_
  refine SX.mid (G := Unit) (fun _ => [(2, .pointer (some ⟨w.heap.size, 0, none⟩)), (5, iv W), (6, iv (bI W : Nat))]) (fun _ w' => w1 = w') ?_ ?_
  · skip
    refine SX.seq (SX.reg ?_)   -- region 3
    refine pu rfl pv_mv ?_   -- t25 spec.go:1006
    refine pu rfl (pv_geq rfl rfl) ?_   -- t26 spec.go:1006
    refine LW.nil ?_
    refine SX.cond rfl (fun hc => ?_) (fun hc => ?_)   -- t26
    · skip
      have h3 : 3 ≤ W := by simp at hc; omega
      refine SX.reg ?_
      refine pu rfl pv_mv ?_   -- t27 spec.go:1007
      refine pu rfl (pv_sub rfl rfl (by omega)) ?_   -- t28 spec.go:1007
      refine pu rfl pv_as ?_   -- t6 spec.go:1007
      refine LW.nil ?_
      exact ⟨(), ⟨rfl, rfl, congrArg iv (by rw [bI, if_pos h3]; omega), trivial⟩, rfl⟩
    · skip
      have h3 : ¬ 3 ≤ W := by simp at hc; omega
      refine SX.skip ?_
      exact ⟨(), ⟨rfl, rfl, congrArg iv (by rw [bI, if_neg h3]; rfl), trivial⟩, rfl⟩
  rintro _ w1' ρ1 hw
  subst hw
  have hcb := cut_bd b.s
  have hpo := pOf_bd b.s
  have hso := setSt_bd (pOf b.s)
  have hpl1 := pline_bd b.s (bI W : Nat)
  have hpl2 := pline_bd b.s (W : Nat)
  have hhl := hline_bd b.s (W : Nat)
  refine SX.seq ?_
  refine SX.seq (SX.reg ?_)   -- region 5
  refine pu rfl (pv_fa fb30_0 rfl) ?_   -- t29 spec.go:1009
  refine pu rfl (pv_ld ag3 rfl (hn1.blk.cell rfl)) ?_   -- t30 spec.go:1009
  refine LW.nil ?_
  refine SX.block ?_
  refine SX.seq (SX.reg ?_)   -- region 6
  refine pu rfl (pv_eql rfl rfl) ?_   -- t32 spec.go:1010
  refine pu rfl pv_as ?_   -- t31 spec.go:1010
  refine LW.nil ?_
  refine SX.cond rfl (fun hc => ?_) (fun hc => ?_)   -- t31
  · skip
    have hk5 : b.a = 5 := by simpa using hc
    refine SX.seq (SX.reg ?_)   -- region 7
    refine pu rfl (pv_fa fb30_2 rfl) ?_   -- t33 spec.go:1011
    refine pu rfl (pv_ld ag9 rfl (hn1.blk.cell rfl)) ?_   -- t34 spec.go:1011
    refine evd rfl (ev_call cb81 rfl (f81_ok b.s w1 (by omega)) ?_)   -- t35 spec.go:1011
    rintro vp w2 ⟨hop, hx2⟩
    refine pu rfl pv_as ?_   -- t7 spec.go:1011
    refine LW.nil ?_
    refine SX.seq (SX.reg ?_)   -- region 8
    refine pu rfl pv_as ?_   -- t8 spec.go:1012
    refine LW.nil ?_
    refine SX.seq ?_
    refine SX.seq (SX.reg ?_)   -- region 9
    refine pu rfl pv_as ?_   -- t9 spec.go:1013
    refine LW.nil ?_
    refine SX.block ?_
    refine SX.loop2 (fun (k : Nat) vr => [(7, vp), (8, vr), (9, iv k)]) (fun k vr w' => k ≤ (cutAll b.s).length ∧ Ext w2 w' ∧ Own w' w2.heap.size tS vr (preN coF (cutAll b.s) k)) (fun k _ => (cutAll b.s).length - k) 0 (.slice none 0 0) ⟨rfl, rfl, rfl, trivial⟩ ⟨Nat.zero_le _, Ext.refl w2, Own.nil _ _ _⟩ ?_
    rintro k vr w3 ρ3 ⟨hk, hx3, ho3⟩
    have hpn := preN_len coF (cutAll b.s) k
    refine SX.seq ?_
    refine SX.seq (SX.reg ?_)   -- region 10
    refine pu rfl pv_mv ?_   -- t36 spec.go:1013
    refine pu rfl pv_mv ?_   -- t37 spec.go:1013
    refine pu rfl (pv_lenV (T := tS) Yabc.underlying32 (hop.rd.ext hx3) rfl) ?_   -- t38 spec.go:1013
    refine pu rfl (pv_lss rfl rfl) ?_   -- t39 spec.go:1013
    refine LW.nil ?_
    refine SX.cond rfl (fun hc => ?_) (fun hc => ?_)   -- t39
    · skip
      have hlt : k < (cutAll b.s).length := by simpa using hc
      have htm := ttl_mem _ _ (List.getElem_mem hlt)
      refine SX.skip ?_
      refine SX.seq ?_
      refine SX.block ?_
      refine SX.reg ?_
      refine pu rfl pv_mv ?_   -- t42 spec.go:1014
      refine pu rfl pv_mv ?_   -- t43 spec.go:1014
      refine pu rfl pv_mv ?_   -- t44 spec.go:1014
      refine pu rfl (pv_ix (T := tS) (k := k) Yabc.underlying32 sz9 okS (hop.rd.ext hx3) rfl rfl (by omega) (by omega)) ?_   -- t45 spec.go:1014
      refine pu rfl (pv_ld ag9 rfl ((hop.rd.ext hx3).cell0 okS (by omega) rfl)) ?_   -- t46 spec.go:1014
      refine pu rfl (pv_addS (a := [32, 32, 32, 32]) rfl rfl (by simp; omega)) ?_   -- t47 spec.go:1014
      refine push (T := tS) ([32, 32, 32, 32] ++ (cutAll b.s)[k]'hlt) sl32 okS (by decide) ho3 hx3.size rfl (fun _ => rfl) rfl rfl (by omega) (by unfold maxLen; omega) fun J1 v4 w4 ho4 hg4 => ?_   -- t48 spec.go:1014
      refine pu rfl pv_as ?_   -- t8 spec.go:1014
      refine LW.nil ?_
      refine SX.reg ?_
      refine pu rfl pv_mv ?_   -- t40 spec.go:1013
      refine pu rfl (pv_add rfl rfl (by omega)) ?_   -- t41 spec.go:1013
      refine pu rfl pv_as ?_   -- t9 spec.go:1013
      refine LW.nil ?_
      exact ⟨k + 1, v4, ⟨rfl, rfl, rfl, trivial⟩, ⟨by omega, hx3.step hg4.grown (fun g e => (ho3.lt g e).1), by rw [preN, getD_lt _ _ _ hlt]; exact ho4⟩, by omega⟩
    · skip
      have hge : k = (cutAll b.s).length := by simp at hc; omega
      subst hge
      refine SX.exit (xb_here ?_)
      refine SX.seq (SX.reg ?_)   -- region 13
      refine pu rfl pv_mv ?_   -- t50 spec.go:1016
      refine pu rfl pv_as ?_   -- t4 spec.go:1016
      refine LW.nil ?_
      refine SX.ret ?_
      exact ⟨by rw [hrb, if_pos hk5]; exact (ho3.low (Nat.le_trans hx1.size hx2.size)).own, (hx1.trans hx2).trans hx3⟩
  · skip
    have hk5 : ¬ b.a = 5 := by simpa using hc
    refine SX.seq (SX.reg ?_)   -- region 14
    refine pu rfl (pv_eql rfl rfl) ?_   -- t52 spec.go:1017
    refine pu rfl pv_as ?_   -- t51 spec.go:1017
    refine LW.nil ?_
    refine SX.cond rfl (fun hc => ?_) (fun hc => ?_)   -- t51
    · skip
      have hk6 : b.a = 6 := by simpa using hc
      refine SX.seq (SX.reg ?_)   -- region 15
      refine pu rfl pv_mv ?_   -- t53 spec.go:1018
      refine pu rfl pv_as ?_   -- t10 spec.go:1018
      refine LW.nil ?_
      refine SX.mid (G := Unit) (fun _ => [(10, iv (min W 80 : Nat))]) (fun _ w' => w1 = w') ?_ ?_
      · skip
        refine SX.seq (SX.reg ?_)   -- region 16
        refine pu rfl pv_mv ?_   -- t54 spec.go:1019
        refine pu rfl (pv_gtr rfl rfl) ?_   -- t55 spec.go:1019
        refine LW.nil ?_
        refine SX.cond rfl (fun hc => ?_) (fun hc => ?_)   -- t55
        · skip
          have h80 : min W 80 = 80 := by simp at hc; omega
          refine SX.reg ?_
          refine pu rfl pv_as ?_   -- t10 spec.go:1020
          refine LW.nil ?_
          exact ⟨(), ⟨by rw [h80]; rfl, trivial⟩, rfl⟩
        · skip
          have h80 : min W 80 = W := by simp at hc; omega
          refine SX.skip ?_
          exact ⟨(), ⟨by rw [h80]; rfl, trivial⟩, rfl⟩
      rintro _ w1' ρ2 hw
      subst hw
      refine SX.seq (SX.reg ?_)   -- region 18
      refine pu rfl pv_mv ?_   -- t56 spec.go:1022
      refine evd rfl (ev_call cb99 rfl (f99_ok 45 (min W 80) w1 (by omega)) ?_)   -- t57 spec.go:1022
      rintro _ w2 ⟨rfl, hx2⟩
      refine evd rfl (ev_bs1 (cs := tS.enc (List.replicate (min W 80) 45)) sl32 rfl rfl (by decide) fun w3 hn3 => ?_)   -- t58 spec.go:1022
      refine pu rfl pv_as ?_   -- t4 spec.go:1022
      refine LW.nil ?_
      refine SX.ret ?_
      exact ⟨by rw [hrb, if_neg hk5, if_pos hk6]; exact (Own.lit okS hn3 (Nat.le_trans hx1.size hx2.size)).own, (hx1.trans hx2).trans hn3.ext⟩
    · skip
      have hk6 : ¬ b.a = 6 := by simpa using hc
      refine SX.seq (SX.reg ?_)   -- region 19
      refine pu rfl (pv_eql rfl rfl) ?_   -- t60 spec.go:1023
      refine pu rfl pv_as ?_   -- t59 spec.go:1023
      refine LW.nil ?_
      refine SX.cond rfl (fun hc => ?_) (fun hc => ?_)   -- t59
      · skip
        have hk2 : b.a = 2 := by simpa using hc
        refine SX.seq (SX.reg ?_)   -- region 20
        refine pu rfl (pv_fa fb30_2 rfl) ?_   -- t61 spec.go:1024
        refine pu rfl (pv_ld ag9 rfl (hn1.blk.cell rfl)) ?_   -- t62 spec.go:1024
        refine evd rfl (ev_call cb100 rfl (f100_ok b.s w1 (by omega)) ?_)   -- t63 spec.go:1024
        rintro vq w2 ⟨hoq, hx2⟩
        refine pu rfl pv_as ?_   -- t11 spec.go:1024
        refine LW.nil ?_
        refine SX.seq ?_
        refine SX.seq (SX.reg ?_)   -- region 21
        refine pu rfl pv_as ?_   -- t12 spec.go:1025
        refine LW.nil ?_
        refine SX.block ?_
        refine SX.loop (G := Nat) (fun k => [(2, .pointer (some ⟨w.heap.size, 0, none⟩)), (5, iv W), (11, vq), (12, iv k)]) (fun k w' => k ≤ (pOf b.s).length ∧ Ext w1 w' ∧ OwnR w' w1.heap.size tI vq (stN (pOf b.s) k)) (fun k => (pOf b.s).length - k) 0 ⟨rfl, rfl, rfl, rfl, trivial⟩ ⟨Nat.zero_le _, hx2, by simpa [stN] using hoq⟩ ?_
        rintro k w3 ρ3 ⟨hk, hx3, ho3⟩
        have hsl := stN_len (pOf b.s) k hk
        refine SX.seq ?_
        refine SX.seq (SX.reg ?_)   -- region 22
        refine pu rfl pv_mv ?_   -- t64 spec.go:1025
        refine pu rfl pv_mv ?_   -- t65 spec.go:1025
        refine pu rfl (pv_lenV (T := tI) Yabc.underlying23 ho3.rd rfl) ?_   -- t66 spec.go:1025
        refine pu rfl (pv_lss rfl rfl) ?_   -- t67 spec.go:1025
        refine LW.nil ?_
        refine SX.cond rfl (fun hc => ?_) (fun hc => ?_)   -- t67
        · skip
          have hkq : k < (pOf b.s).length := by simp at hc; omega
          have hsg := stN_get (pOf b.s) k hkq
          refine SX.skip ?_
          refine SX.seq ?_
          refine SX.block ?_
          refine SX.seq (SX.reg ?_)   -- region 24
          refine pu rfl pv_mv ?_   -- t70 spec.go:1026
          refine pu rfl pv_mv ?_   -- t71 spec.go:1026
          refine pu rfl (pv_ix (T := tI) (k := k) Yabc.underlying23 sz67 okI ho3.rd rfl rfl (by omega) (by omega)) ?_   -- t72 spec.go:1026
          refine pu rfl (pv_fa fb67_0 rfl) ?_   -- t73 spec.go:1026
          refine pu rfl (pv_ld ag3 rfl (ho3.rd.cellAt okI (by omega) rfl)) ?_   -- t74 spec.go:1026
          refine pu rfl (pv_eql rfl rfl) ?_   -- t75 spec.go:1026
          refine LW.nil ?_
          refine SX.cond rfl (fun hc => ?_) (fun hc => ?_)   -- t75
          · skip
            have ha0 : ((pOf b.s)[k]'hkq).a = 0 := by rw [← hsg]; simpa using hc
            refine SX.reg ?_
            refine pu rfl pv_mv ?_   -- t76 spec.go:1027
            refine pu rfl pv_mv ?_   -- t77 spec.go:1027
            refine pu rfl (pv_ix (T := tI) (k := k) Yabc.underlying23 sz67 okI ho3.rd rfl rfl (by omega) (by omega)) ?_   -- t78 spec.go:1027
            refine pu rfl (pv_fa fb67_1 rfl) ?_   -- t79 spec.go:1027
            refine evn (ev_stF (T := tI) (o := 1) (u := iv 1) (st1 ((pOf b.s)[k]'hkq)) okI ho3 (k := k) (by omega) (by decide) sz3 rfl rfl rfl (by rw [hsg]; simp [st1, ha0, tI, encT]) fun w4 ho4 hg4 hz4 hb4 => ?_)   --  spec.go:1027
            rw [stN_set _ _ hkq] at ho4
            refine LW.nil ?_
            refine SX.reg ?_
            refine pu rfl pv_mv ?_   -- t68 spec.go:1025
            refine pu rfl (pv_add rfl rfl (by omega)) ?_   -- t69 spec.go:1025
            refine pu rfl pv_as ?_   -- t12 spec.go:1025
            refine LW.nil ?_
            exact ⟨k + 1, ⟨rfl, rfl, rfl, rfl, trivial⟩, ⟨by omega, hx3.step hg4 hb4, ho4⟩, by omega⟩
          · skip
            have ha0 : ¬ ((pOf b.s)[k]'hkq).a = 0 := by rw [← hsg]; simpa using hc
            refine SX.skip ?_
            refine SX.reg ?_
            refine pu rfl pv_mv ?_   -- t68 spec.go:1025
            refine pu rfl (pv_add rfl rfl (by omega)) ?_   -- t69 spec.go:1025
            refine pu rfl pv_as ?_   -- t12 spec.go:1025
            refine LW.nil ?_
            exact ⟨k + 1, ⟨rfl, rfl, rfl, rfl, trivial⟩, ⟨by omega, hx3, by rw [← stN_keep _ _ hkq ha0]; exact ho3⟩, by omega⟩
        · skip
          have hge : k = (pOf b.s).length := by simp at hc; omega
          subst hge
          rw [stN_end] at ho3
          refine SX.exit (xb_here ?_)
          refine SX.seq (SX.reg ?_)   -- region 26
          refine pu rfl pv_mv ?_   -- t80 spec.go:1030
          refine pu rfl pv_mv ?_   -- t81 spec.go:1030
          refine evd rfl (ev_call cb43 rfl (f43_ok vq (setSt (pOf b.s)) (W : Nat) w3 ho3.rd (by omega) (by omega)) ?_)   -- t82 spec.go:1030
          rintro vf w5 ⟨hof, hx5⟩
          have hll := layout_len (setSt (pOf b.s)) (W : Nat)   -- t83 spec.go:1030
          have hlt2 := layout_tl (setSt (pOf b.s)) (W : Nat)
          refine evd rfl (ev_call cb39 rfl (f39_own vf (layout (setSt (pOf b.s)) (W : Nat)) w5 hof.rd (by omega) (by omega)) ?_)
          rintro vl w6 ⟨hol, hx6⟩
          have hx16 := (hx3.trans hx5).trans hx6
          have hol : Own w6 w5.heap.size tS vl (linesOf (setSt (pOf b.s)) (W : Nat)) := hol
          have hmxl := mxN_le (linesOf (setSt (pOf b.s)) (W : Nat))
          refine pu rfl pv_as ?_   -- t13 spec.go:1030
          refine LW.nil ?_
          refine SX.seq (SX.reg ?_)   -- region 27
          refine pu rfl pv_as ?_   -- t14 spec.go:1031
          refine LW.nil ?_
          refine SX.seq ?_
          refine SX.seq (SX.reg ?_)   -- region 28
          refine pu rfl pv_as ?_   -- t15 spec.go:1032
          refine LW.nil ?_
          refine SX.block ?_
          refine SX.loop (G := Nat) (fun k => [(2, .pointer (some ⟨w.heap.size, 0, none⟩)), (13, vl), (14, iv (mxN (linesOf (setSt (pOf b.s)) (W : Nat)) k)), (15, iv k)]) (fun k w' => w6 = w' ∧ k ≤ (linesOf (setSt (pOf b.s)) (W : Nat)).length) (fun k => (linesOf (setSt (pOf b.s)) (W : Nat)).length - k) 0 ⟨rfl, rfl, rfl, rfl, trivial⟩ ⟨rfl, Nat.zero_le _⟩ ?_
          rintro k w6' ρ6 ⟨hw, hk⟩
          subst hw
          refine SX.seq ?_
          refine SX.seq (SX.reg ?_)   -- region 29
          refine pu rfl pv_mv ?_   -- t84 spec.go:1032
          refine pu rfl pv_mv ?_   -- t85 spec.go:1032
          refine pu rfl (pv_lenV (T := tS) Yabc.underlying32 hol.rd rfl) ?_   -- t86 spec.go:1032
          refine pu rfl (pv_lss rfl rfl) ?_   -- t87 spec.go:1032
          refine LW.nil ?_
          refine SX.cond rfl (fun hc => ?_) (fun hc => ?_)   -- t87
          · skip
            have hkl : k < (linesOf (setSt (pOf b.s)) (W : Nat)).length := by simpa using hc
            have hgd := getD_lt (linesOf (setSt (pOf b.s)) (W : Nat)) k [] hkl
            refine SX.skip ?_
            refine SX.seq ?_
            refine SX.block ?_
            refine SX.seq (SX.reg ?_)   -- region 31
            refine pu rfl pv_mv ?_   -- t90 spec.go:1033
            refine pu rfl pv_mv ?_   -- t91 spec.go:1033
            refine pu rfl (pv_ix (T := tS) (k := k) Yabc.underlying32 sz9 okS hol.rd rfl rfl (by omega) (by omega)) ?_   -- t92 spec.go:1033
            refine pu rfl (pv_ld ag9 rfl (hol.rd.cell0 okS (by omega) rfl)) ?_   -- t93 spec.go:1033
            refine pu rfl (pv_len_s rfl) ?_   -- t94 spec.go:1033
            refine pu rfl pv_mv ?_   -- t95 spec.go:1033
            refine pu rfl (pv_gtr rfl rfl) ?_   -- t96 spec.go:1033
            refine LW.nil ?_
            refine SX.cond rfl (fun hc => ?_) (fun hc => ?_)   -- t96
            · skip
              have hgt : mxN (linesOf (setSt (pOf b.s)) (W : Nat)) (k + 1) = ((linesOf (setSt (pOf b.s)) (W : Nat))[k]'hkl).length := by
                rw [mxN, hgd, if_pos (by simp at hc; omega)]
              refine SX.reg ?_
              refine pu rfl pv_mv ?_   -- t97 spec.go:1034
              refine pu rfl pv_mv ?_   -- t98 spec.go:1034
              refine pu rfl (pv_ix (T := tS) (k := k) Yabc.underlying32 sz9 okS hol.rd rfl rfl (by omega) (by omega)) ?_   -- t99 spec.go:1034
              refine pu rfl (pv_ld ag9 rfl (hol.rd.cell0 okS (by omega) rfl)) ?_   -- t100 spec.go:1034
              refine pu rfl (pv_len_s rfl) ?_   -- t101 spec.go:1034
              refine pu rfl pv_as ?_   -- t14 spec.go:1034
              refine LW.nil ?_
              refine SX.reg ?_
              refine pu rfl pv_mv ?_   -- t88 spec.go:1032
              refine pu rfl (pv_add rfl rfl (by omega)) ?_   -- t89 spec.go:1032
              refine pu rfl pv_as ?_   -- t15 spec.go:1032
              refine LW.nil ?_
              exact ⟨k + 1, ⟨rfl, rfl, by rw [hgt]; rfl, rfl, trivial⟩, ⟨rfl, by omega⟩, by omega⟩
            · skip
              have hgt : mxN (linesOf (setSt (pOf b.s)) (W : Nat)) (k + 1) = mxN (linesOf (setSt (pOf b.s)) (W : Nat)) k := by
                rw [mxN, hgd, if_neg (by simp at hc; omega)]
              refine SX.skip ?_
              refine SX.reg ?_
              refine pu rfl pv_mv ?_   -- t88 spec.go:1032
              refine pu rfl (pv_add rfl rfl (by omega)) ?_   -- t89 spec.go:1032
              refine pu rfl pv_as ?_   -- t15 spec.go:1032
              refine LW.nil ?_
              exact ⟨k + 1, ⟨rfl, rfl, by rw [hgt]; rfl, rfl, trivial⟩, ⟨rfl, by omega⟩, by omega⟩
          · skip
            have hge : k = (linesOf (setSt (pOf b.s)) (W : Nat)).length := by simp at hc; omega
            subst hge
            refine SX.exit (xb_here ?_)
            refine SX.seq (SX.reg ?_)   -- region 33
            refine pu rfl pv_as ?_   -- t16 spec.go:1037
            refine LW.nil ?_
            refine SX.mid (G := Unit) (fun _ => [(13, vl), (14, iv (mxN (linesOf (setSt (pOf b.s)) (W : Nat)) (linesOf (setSt (pOf b.s)) (W : Nat)).length)), (16, bt (if b.b = 1 then 61 else 45))]) (fun _ w' => w6 = w') ?_ ?_
            · skip
              refine SX.seq (SX.reg ?_)   -- region 34
              refine pu rfl (pv_fa fb30_1 rfl) ?_   -- t102 spec.go:1038
              refine pu rfl (pv_ld ag3 rfl ((hn1.blk.ext hx16).cell rfl)) ?_   -- t103 spec.go:1038
              refine pu rfl (pv_eql rfl rfl) ?_   -- t104 spec.go:1038
              refine LW.nil ?_
              refine SX.cond rfl (fun hc => ?_) (fun hc => ?_)   -- t104
              · skip
                have hb1 : b.b = 1 := by simpa using hc
                refine SX.reg ?_
                refine pu rfl pv_as ?_   -- t16 spec.go:1039
                refine LW.nil ?_
                exact ⟨(), ⟨rfl, rfl, by rw [if_pos hb1]; rfl, trivial⟩, rfl⟩
              · skip
                have hb1 : ¬ b.b = 1 := by simpa using hc
                refine SX.skip ?_
                exact ⟨(), ⟨rfl, rfl, by rw [if_neg hb1]; rfl, trivial⟩, rfl⟩
            rintro _ w6' ρ7 hw
            subst hw
            have hmx := hmxl _ (Nat.le_refl _)
            refine SX.seq (SX.reg ?_)   -- region 36
            refine pu rfl pv_mv ?_   -- t105 spec.go:1041
            refine pu rfl pv_mv ?_   -- t106 spec.go:1041
            refine pu rfl pv_mv ?_   -- t107 spec.go:1041
            refine evd rfl (ev_call cb99 rfl (f99_ok (if b.b = 1 then 61 else 45) (mxN (linesOf (setSt (pOf b.s)) (W : Nat)) (linesOf (setSt (pOf b.s)) (W : Nat)).length) w6 (by omega)) ?_)   -- t108 spec.go:1041
            rintro _ w7 ⟨rfl, hx7⟩
            have hol7 := hol.ext hx7
            refine push (T := tS) (List.replicate (mxN (linesOf (setSt (pOf b.s)) (W : Nat)) (linesOf (setSt (pOf b.s)) (W : Nat)).length) (if b.b = 1 then 61 else 45)) sl32 okS (by decide) hol7 (Nat.le_trans hx6.size hx7.size) rfl (fun _ => rfl) rfl rfl (by omega) (by unfold maxLen; omega) fun J1 v8 w8 ho8 hg8 => ?_   -- t109 spec.go:1041
            refine pu rfl pv_as ?_   -- t4 spec.go:1041
            refine LW.nil ?_
            refine SX.ret ?_
            exact ⟨by rw [hrb, if_neg hk5, if_neg hk6, if_pos hk2]; exact (ho8.low (by have := hx1.size; have := hx3.size; have := hx5.size; omega)).own, ((hx1.trans hx16).trans hx7).step hg8.grown (fun g e => by have := (hol7.lt g e).1; have := hx1.size; have := hx3.size; have := hx5.size; omega)⟩
      · skip
        have hk2 : ¬ b.a = 2 := by simpa using hc
        refine SX.seq (SX.reg ?_)   -- region 37
        refine pu rfl (pv_eql rfl rfl) ?_   -- t112 spec.go:1042
        refine pu rfl pv_as ?_   -- t111 spec.go:1042
        refine LW.nil ?_
        refine SX.cond rfl (fun hc => ?_) (fun hc => ?_)   -- t111
        · skip
          have hk3 : b.a = 3 := by simpa using hc
          refine SX.seq (SX.reg ?_)   -- region 38
          refine pu rfl (pv_fa fb30_2 rfl) ?_   -- t113 spec.go:1043
          refine pu rfl (pv_ld ag9 rfl (hn1.blk.cell rfl)) ?_   -- t114 spec.go:1043
          refine evd rfl (ev_call cb100 rfl (f100_ok b.s w1 (by omega)) ?_)   -- t115 spec.go:1043
          rintro vq w2 ⟨hoq, hx2⟩
          refine pu rfl pv_mv ?_   -- t116 spec.go:1043
          refine evd rfl (ev_call cb43 rfl (f43_ok vq (pOf b.s) (bI W : Nat) w2 hoq.rd (by omega) (by omega)) ?_)   -- t117 spec.go:1043
          rintro vf w3 ⟨hof, hx3⟩
          have hll := layout_len (pOf b.s) (bI W : Nat)   -- t118 spec.go:1043
          have hlt2 := layout_tl (pOf b.s) (bI W : Nat)
          refine evd rfl (ev_call cb39 rfl (f39_own vf (layout (pOf b.s) (bI W : Nat)) w3 hof.rd (by omega) (by omega)) ?_)
          rintro vl w4 ⟨hol, hx4⟩
          have hx14 := (hx2.trans hx3).trans hx4
          have hol : Own w4 w3.heap.size tS vl (linesOf (pOf b.s) (bI W : Nat)) := hol
          refine pu rfl pv_as ?_   -- t17 spec.go:1043
          refine LW.nil ?_
          refine SX.seq ?_
          refine SX.seq (SX.reg ?_)   -- region 39
          refine pu rfl pv_mv ?_   -- t119 spec.go:1044
          refine pu rfl (pv_lenV (T := tS) Yabc.underlying32 hol.rd rfl) ?_   -- t120 spec.go:1044
          refine pu rfl (pv_eql rfl rfl) ?_   -- t121 spec.go:1044
          refine LW.nil ?_
          refine SX.cond rfl (fun hc => ?_) (fun hc => ?_)   -- t121
          · skip
            have hl0 : (linesOf (pOf b.s) (bI W : Nat)) = [] := by simpa using hc
            refine SX.seq (SX.reg ?_)   -- region 40
            refine evd rfl (ev_bs1 (cs := tS.enc [42]) sl32 rfl rfl (by decide) fun w5 hn5 => ?_)   -- t122 spec.go:1045
            refine pu rfl pv_as ?_   -- t4 spec.go:1045
            refine LW.nil ?_
            refine SX.ret ?_
            exact ⟨by rw [hrb, if_neg hk5, if_neg hk6, if_neg hk2, if_pos hk3, itemL, if_pos hl0]; exact (Own.lit okS hn5 (by have := hx1.size; have := hx14.size; omega)).own, (hx1.trans hx14).trans hn5.ext⟩
          · skip
            have hl0 : ¬ (linesOf (pOf b.s) (bI W : Nat)) = [] := by simpa using hc
            refine SX.skip ?_
            refine SX.seq (SX.reg ?_)   -- region 41
            refine pu rfl pv_as ?_   -- t18 spec.go:1047
            refine LW.nil ?_
            refine SX.seq ?_
            refine SX.seq (SX.reg ?_)   -- region 42
            refine pu rfl pv_as ?_   -- t19 spec.go:1048
            refine LW.nil ?_
            refine SX.block ?_
            refine SX.loop2 (fun (k : Nat) vr => [(17, vl), (18, vr), (19, iv k)]) (fun k vr w' => k ≤ (linesOf (pOf b.s) (bI W : Nat)).length ∧ Ext w4 w' ∧ Own w' w4.heap.size tS vr (preN itF (linesOf (pOf b.s) (bI W : Nat)) k)) (fun k _ => (linesOf (pOf b.s) (bI W : Nat)).length - k) 0 (.slice none 0 0) ⟨rfl, rfl, rfl, trivial⟩ ⟨Nat.zero_le _, Ext.refl w4, Own.nil _ _ _⟩ ?_
            rintro k vr w5 ρ5 ⟨hk, hx5, ho5⟩
            have hpn := preN_len itF (linesOf (pOf b.s) (bI W : Nat)) k
            refine SX.seq ?_
            refine SX.seq (SX.reg ?_)   -- region 43
            refine pu rfl pv_mv ?_   -- t123 spec.go:1048
            refine pu rfl pv_mv ?_   -- t124 spec.go:1048
            refine pu rfl (pv_lenV (T := tS) Yabc.underlying32 (hol.rd.ext hx5) rfl) ?_   -- t125 spec.go:1048
            refine pu rfl (pv_lss rfl rfl) ?_   -- t126 spec.go:1048
            refine LW.nil ?_
            refine SX.cond rfl (fun hc => ?_) (fun hc => ?_)   -- t126
            · skip
              have hkl : k < (linesOf (pOf b.s) (bI W : Nat)).length := by simpa using hc
              have htm := ttl_mem _ _ (List.getElem_mem hkl)
              refine SX.skip ?_
              refine SX.seq ?_
              refine SX.block ?_
              refine SX.seq (SX.reg ?_)   -- region 45
              refine pu rfl pv_mv ?_   -- t129 spec.go:1049
              refine pu rfl (pv_eql rfl rfl) ?_   -- t130 spec.go:1049
              refine LW.nil ?_
              refine SX.cond rfl (fun hc => ?_) (fun hc => ?_)   -- t130
              · skip
                have hk0 : k = 0 := by simp at hc; omega
                refine SX.reg ?_
                refine pu rfl pv_mv ?_   -- t131 spec.go:1050
                refine pu rfl pv_mv ?_   -- t132 spec.go:1050
                refine pu rfl pv_mv ?_   -- t133 spec.go:1050
                refine pu rfl (pv_ix (T := tS) (k := k) Yabc.underlying32 sz9 okS (hol.rd.ext hx5) rfl rfl (by omega) (by omega)) ?_   -- t134 spec.go:1050
                refine pu rfl (pv_ld ag9 rfl ((hol.rd.ext hx5).cell0 okS (by omega) rfl)) ?_   -- t135 spec.go:1050
                refine pu rfl (pv_addS (a := [42, 32]) rfl rfl (by simp; omega)) ?_   -- t136 spec.go:1050
                refine push (T := tS) ([42, 32] ++ ((linesOf (pOf b.s) (bI W : Nat))[k]'hkl)) sl32 okS (by decide) ho5 hx5.size rfl (fun _ => rfl) rfl rfl (by omega) (by unfold maxLen; omega) fun J1 v6 w6 ho6 hg6 => ?_   -- t137 spec.go:1050
                refine pu rfl pv_as ?_   -- t18 spec.go:1050
                refine LW.nil ?_
                refine SX.reg ?_
                refine pu rfl pv_mv ?_   -- t127 spec.go:1048
                refine pu rfl (pv_add rfl rfl (by omega)) ?_   -- t128 spec.go:1048
                refine pu rfl pv_as ?_   -- t19 spec.go:1048
                refine LW.nil ?_
                exact ⟨k + 1, v6, ⟨rfl, rfl, rfl, trivial⟩, ⟨by omega, hx5.step hg6.grown (fun g e => (ho5.lt g e).1), by rw [preN, getD_lt _ _ _ hkl, itF, if_pos hk0]; exact ho6⟩, by omega⟩
              · skip
                have hk0 : ¬ k = 0 := by simp at hc; omega
                refine SX.reg ?_
                refine pu rfl pv_mv ?_   -- t139 spec.go:1052
                refine pu rfl pv_mv ?_   -- t140 spec.go:1052
                refine pu rfl pv_mv ?_   -- t141 spec.go:1052
                refine pu rfl (pv_ix (T := tS) (k := k) Yabc.underlying32 sz9 okS (hol.rd.ext hx5) rfl rfl (by omega) (by omega)) ?_   -- t142 spec.go:1052
                refine pu rfl (pv_ld ag9 rfl ((hol.rd.ext hx5).cell0 okS (by omega) rfl)) ?_   -- t143 spec.go:1052
                refine pu rfl (pv_addS (a := [32, 32]) rfl rfl (by simp; omega)) ?_   -- t144 spec.go:1052
                refine push (T := tS) ([32, 32] ++ ((linesOf (pOf b.s) (bI W : Nat))[k]'hkl)) sl32 okS (by decide) ho5 hx5.size rfl (fun _ => rfl) rfl rfl (by omega) (by unfold maxLen; omega) fun J1 v6 w6 ho6 hg6 => ?_   -- t145 spec.go:1052
                refine pu rfl pv_as ?_   -- t18 spec.go:1052
                refine LW.nil ?_
                refine SX.reg ?_
                refine pu rfl pv_mv ?_   -- t127 spec.go:1048
                refine pu rfl (pv_add rfl rfl (by omega)) ?_   -- t128 spec.go:1048
                refine pu rfl pv_as ?_   -- t19 spec.go:1048
                refine LW.nil ?_
                exact ⟨k + 1, v6, ⟨rfl, rfl, rfl, trivial⟩, ⟨by omega, hx5.step hg6.grown (fun g e => (ho5.lt g e).1), by rw [preN, getD_lt _ _ _ hkl, itF, if_neg hk0]; exact ho6⟩, by omega⟩
            · skip
              have hge : k = (linesOf (pOf b.s) (bI W : Nat)).length := by simp at hc; omega
              subst hge
              refine SX.exit (xb_here ?_)
              refine SX.seq (SX.reg ?_)   -- region 48
              refine pu rfl pv_mv ?_   -- t147 spec.go:1055
              refine pu rfl pv_as ?_   -- t4 spec.go:1055
              refine LW.nil ?_
              refine SX.ret ?_
              exact ⟨by rw [hrb, if_neg hk5, if_neg hk6, if_neg hk2, if_pos hk3, itemL, if_neg hl0]; exact (ho5.low (by have := hx1.size; have := hx14.size; omega)).own, (hx1.trans hx14).trans hx5⟩
        · skip
          have hk3 : ¬ b.a = 3 := by simpa using hc
          refine SX.seq (SX.reg ?_)   -- region 49
          refine pu rfl (pv_eql rfl rfl) ?_   -- t149 spec.go:1056
          refine pu rfl pv_as ?_   -- t148 spec.go:1056
          refine LW.nil ?_
          refine SX.cond rfl (fun hc => ?_) (fun hc => ?_)   -- t148
          · skip
            have hk4 : b.a = 4 := by simpa using hc
            refine SX.seq (SX.reg ?_)   -- region 50
            refine pu rfl (pv_fa fb30_2 rfl) ?_   -- t150 spec.go:1057
            refine pu rfl (pv_ld ag9 rfl (hn1.blk.cell rfl)) ?_   -- t151 spec.go:1057
            refine evd rfl (ev_call cb100 rfl (f100_ok b.s w1 (by omega)) ?_)   -- t152 spec.go:1057
            rintro vq w2 ⟨hoq, hx2⟩
            refine pu rfl pv_mv ?_   -- t153 spec.go:1057
            refine evd rfl (ev_call cb43 rfl (f43_ok vq (pOf b.s) (bI W : Nat) w2 hoq.rd (by omega) (by omega)) ?_)   -- t154 spec.go:1057
            rintro vf w3 ⟨hof, hx3⟩
            have hll := layout_len (pOf b.s) (bI W : Nat)   -- t155 spec.go:1057
            have hlt2 := layout_tl (pOf b.s) (bI W : Nat)
            refine evd rfl (ev_call cb39 rfl (f39_own vf (layout (pOf b.s) (bI W : Nat)) w3 hof.rd (by omega) (by omega)) ?_)
            rintro vl w4 ⟨hol, hx4⟩
            have hx14 := (hx2.trans hx3).trans hx4
            have hol : Own w4 w3.heap.size tS vl (linesOf (pOf b.s) (bI W : Nat)) := hol
            refine pu rfl pv_as ?_   -- t20 spec.go:1057
            refine LW.nil ?_
            refine SX.seq ?_
            refine SX.seq (SX.reg ?_)   -- region 51
            refine pu rfl pv_mv ?_   -- t156 spec.go:1058
            refine pu rfl (pv_lenV (T := tS) Yabc.underlying32 hol.rd rfl) ?_   -- t157 spec.go:1058
            refine pu rfl (pv_eql rfl rfl) ?_   -- t158 spec.go:1058
            refine LW.nil ?_
            refine SX.cond rfl (fun hc => ?_) (fun hc => ?_)   -- t158
            · skip
              have hl0 : (linesOf (pOf b.s) (bI W : Nat)) = [] := by simpa using hc
              refine SX.seq (SX.reg ?_)   -- region 52
              refine evd rfl (ev_bs1 (cs := tS.enc [124]) sl32 rfl rfl (by decide) fun w5 hn5 => ?_)   -- t159 spec.go:1059
              refine pu rfl pv_as ?_   -- t4 spec.go:1059
              refine LW.nil ?_
              refine SX.ret ?_
              exact ⟨by rw [hrb, if_neg hk5, if_neg hk6, if_neg hk2, if_neg hk3, if_pos hk4, quotL, if_pos hl0]; exact (Own.lit okS hn5 (by have := hx1.size; have := hx14.size; omega)).own, (hx1.trans hx14).trans hn5.ext⟩
            · skip
              have hl0 : ¬ (linesOf (pOf b.s) (bI W : Nat)) = [] := by simpa using hc
              refine SX.skip ?_
              refine SX.seq (SX.reg ?_)   -- region 53
              refine pu rfl pv_as ?_   -- t21 spec.go:1061
              refine LW.nil ?_
              refine SX.seq ?_
              refine SX.seq (SX.reg ?_)   -- region 54
              refine pu rfl pv_as ?_   -- t22 spec.go:1062
              refine LW.nil ?_
              refine SX.block ?_
              refine SX.loop2 (fun (k : Nat) vr => [(20, vl), (21, vr), (22, iv k)]) (fun k vr w' => k ≤ (linesOf (pOf b.s) (bI W : Nat)).length ∧ Ext w4 w' ∧ Own w' w4.heap.size tS vr (preN quF (linesOf (pOf b.s) (bI W : Nat)) k)) (fun k _ => (linesOf (pOf b.s) (bI W : Nat)).length - k) 0 (.slice none 0 0) ⟨rfl, rfl, rfl, trivial⟩ ⟨Nat.zero_le _, Ext.refl w4, Own.nil _ _ _⟩ ?_
              rintro k vr w5 ρ5 ⟨hk, hx5, ho5⟩
              have hpn := preN_len quF (linesOf (pOf b.s) (bI W : Nat)) k
              refine SX.seq ?_
              refine SX.seq (SX.reg ?_)   -- region 55
              refine pu rfl pv_mv ?_   -- t160 spec.go:1062
              refine pu rfl pv_mv ?_   -- t161 spec.go:1062
              refine pu rfl (pv_lenV (T := tS) Yabc.underlying32 (hol.rd.ext hx5) rfl) ?_   -- t162 spec.go:1062
              refine pu rfl (pv_lss rfl rfl) ?_   -- t163 spec.go:1062
              refine LW.nil ?_
              refine SX.cond rfl (fun hc => ?_) (fun hc => ?_)   -- t163
              · skip
                have hkl : k < (linesOf (pOf b.s) (bI W : Nat)).length := by simpa using hc
                have htm := ttl_mem _ _ (List.getElem_mem hkl)
                refine SX.skip ?_
                refine SX.seq ?_
                refine SX.block ?_
                refine SX.reg ?_
                refine pu rfl pv_mv ?_   -- t166 spec.go:1063
                refine pu rfl pv_mv ?_   -- t167 spec.go:1063
                refine pu rfl pv_mv ?_   -- t168 spec.go:1063
                refine pu rfl (pv_ix (T := tS) (k := k) Yabc.underlying32 sz9 okS (hol.rd.ext hx5) rfl rfl (by omega) (by omega)) ?_   -- t169 spec.go:1063
                refine pu rfl (pv_ld ag9 rfl ((hol.rd.ext hx5).cell0 okS (by omega) rfl)) ?_   -- t170 spec.go:1063
                refine pu rfl (pv_addS (a := [124, 32]) rfl rfl (by simp; omega)) ?_   -- t171 spec.go:1063
                refine push (T := tS) ([124, 32] ++ ((linesOf (pOf b.s) (bI W : Nat))[k]'hkl)) sl32 okS (by decide) ho5 hx5.size rfl (fun _ => rfl) rfl rfl (by omega) (by unfold maxLen; omega) fun J1 v6 w6 ho6 hg6 => ?_   -- t172 spec.go:1063
                refine pu rfl pv_as ?_   -- t21 spec.go:1063
                refine LW.nil ?_
                refine SX.reg ?_
                refine pu rfl pv_mv ?_   -- t164 spec.go:1062
                refine pu rfl (pv_add rfl rfl (by omega)) ?_   -- t165 spec.go:1062
                refine pu rfl pv_as ?_   -- t22 spec.go:1062
                refine LW.nil ?_
                exact ⟨k + 1, v6, ⟨rfl, rfl, rfl, trivial⟩, ⟨by omega, hx5.step hg6.grown (fun g e => (ho5.lt g e).1), by rw [preN, getD_lt _ _ _ hkl, quF]; exact ho6⟩, by omega⟩
              · skip
                have hge : k = (linesOf (pOf b.s) (bI W : Nat)).length := by simp at hc; omega
                subst hge
                refine SX.exit (xb_here ?_)
                refine SX.seq (SX.reg ?_)   -- region 58
                refine pu rfl pv_mv ?_   -- t174 spec.go:1065
                refine pu rfl pv_as ?_   -- t4 spec.go:1065
                refine LW.nil ?_
                refine SX.ret ?_
                exact ⟨by rw [hrb, if_neg hk5, if_neg hk6, if_neg hk2, if_neg hk3, if_pos hk4, quotL, if_neg hl0]; exact (ho5.low (by have := hx1.size; have := hx14.size; omega)).own, (hx1.trans hx14).trans hx5⟩
          · skip
            have hk4 : ¬ b.a = 4 := by simpa using hc
            refine SX.skip ?_
            refine SX.seq (SX.reg ?_)   -- region 59
            refine pu rfl (pv_fa fb30_2 rfl) ?_   -- t175 spec.go:1067
            refine pu rfl (pv_ld ag9 rfl (hn1.blk.cell rfl)) ?_   -- t176 spec.go:1067
            refine evd rfl (ev_call cb100 rfl (f100_ok b.s w1 (by omega)) ?_)   -- t177 spec.go:1067
            rintro vq w2 ⟨hoq, hx2⟩
            refine pu rfl pv_mv ?_   -- t178 spec.go:1067
            refine evd rfl (ev_call cb43 rfl (f43_ok vq (pOf b.s) (W : Nat) w2 hoq.rd (by omega) (by omega)) ?_)   -- t179 spec.go:1067
            rintro vf w3 ⟨hof, hx3⟩
            have hll := layout_len (pOf b.s) (W : Nat)   -- t180 spec.go:1067
            have hlt2 := layout_tl (pOf b.s) (W : Nat)
            refine evd rfl (ev_call cb39 rfl (f39_own vf (layout (pOf b.s) (W : Nat)) w3 hof.rd (by omega) (by omega)) ?_)
            rintro vl w4 ⟨hol, hx4⟩
            have hx14 := (hx2.trans hx3).trans hx4
            have hol : Own w4 w3.heap.size tS vl (linesOf (pOf b.s) (W : Nat)) := hol
            refine pu rfl pv_as ?_   -- t4 spec.go:1067
            refine LW.nil ?_
            refine SX.ret ?_
            exact ⟨by rw [hrb, if_neg hk5, if_neg hk6, if_neg hk2, if_neg hk3, if_neg hk4]; exact (hol.low (by have := hx1.size; have := hx2.size; have := hx3.size; omega)).own, hx1.trans hx14⟩

end Go.Proofs.Ybuabw
