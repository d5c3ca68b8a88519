/-
  WALKS. The law FnExactRenderBlock. Own work for the seat Ybuabw (the steps of each walk were typed by a program of ours off the printed code).
-/
import Derived.Test.YbuabwEng2
import Derived.Test.YbuabwW14
import Derived.Test.YbuabwW3
namespace Go.Proofs.Ybuabw
open Go.RowKit
set_option linter.unusedVariables false
set_option linter.unusedSimpArgs false
set_option maxRecDepth 20000

theorem f12_ok (b : Tri) (z : Int) (w : World) (hz : z ≤ 9223372036854775807) (hs0 : b.s.length ≤ 140737488355328) : Fn 12 [.agg (encT b).toArray, iv z] w (fun v' w' => v' = .bool true ∧ Ext w w') := by
  refine Fn.mk1 (N := 88) Yabc.func12 rfl rfl rfl rfl ?_
  refine SX.seq (SX.reg ?_)   -- region 0
  refine evd rfl (ev_box (cs := encT b) rfl fun w1 hn1 => ?_)   -- t2 laws.go:1082
  have hx1 := hn1.ext
  refine pu rfl pv_as ?_   -- t4 laws.go:1082
  refine LW.nil ?_
  refine SX.seq (SX.reg ?_)   -- region 1
  refine pu rfl pv_as ?_   -- t5 laws.go:1083
  refine LW.nil ?_
  refine SX.seq (SX.reg ?_)   -- region 2
  refine pu rfl pv_mv ?_   -- t9 laws.go:1084
  refine pu rfl (pv_fa fb30_2 rfl) ?_   -- t10 laws.go:1084
  refine pu rfl (pv_ld ag9 rfl (hn1.blk.cell rfl)) ?_   -- t11 laws.go:1084
  refine pu rfl (pv_len_s rfl) ?_   -- t12 laws.go:1084
  refine pu rfl (pv_add rfl rfl (by omega)) ?_   -- t13 laws.go:1084
  refine pu rfl pv_as ?_   -- t5 laws.go:1084
  refine LW.nil ?_
  refine SX.seq ?_
  refine SX.seq (SX.reg ?_)   -- region 3
  refine pu rfl pv_mv ?_   -- t14 laws.go:1085
  refine pu rfl (pv_gtr rfl rfl) ?_   -- t15 laws.go:1085
  refine LW.nil ?_
  refine SX.cond rfl (fun hc => ?_) (fun hc => ?_)   -- t15
  · skip
    refine SX.seq (SX.reg ?_)   -- region 4
    refine pu rfl pv_as ?_   -- t4 laws.go:1086
    refine LW.nil ?_
    refine SX.ret ?_
    exact ⟨rfl, hx1⟩
  · skip
    have hs : b.s.length ≤ 1048576 := by simp at hc; omega
    have hrb := (renderBlock_bd b z).1
    refine SX.skip ?_
    refine SX.seq ?_
    refine SX.seq (SX.reg ?_)   -- region 5
    refine pu rfl (pv_fa fb30_2 rfl) ?_   -- t16 laws.go:1088
    refine pu rfl (pv_ld ag9 rfl (hn1.blk.cell rfl)) ?_   -- t17 laws.go:1088
    refine pu rfl (pv_len_s rfl) ?_   -- t18 laws.go:1088
    refine pu rfl (pv_gtr rfl rfl) ?_   -- t19 laws.go:1088
    refine LW.nil ?_
    refine SX.cond rfl (fun hc => absurd hc (by simp; omega)) (fun hc => ?_)   -- t19
    refine SX.skip ?_
    refine SX.seq ?_
    refine SX.draw [(0, true), (1, true), (2, true), (3, true), (4, true), (5, true), (8, true), (6, false), (7, true), (9, false), (10, true)] (fun w' => Blk w' w.heap.size 30 (encT b)) (by kernel_rfl) (hn1.blk.ext (Ext.drew w1)) ?_   -- region 7
    refine du rfl rfl (fun w' hw' => pv_fa fb30_0 rfl) ?_   -- 0: t20 laws.go:1091 
    refine du rfl rfl (fun w' hw' => pv_ld ag3 rfl (hw'.cell rfl)) ?_   -- 1: t21 laws.go:1091 
    refine du rfl rfl (fun w' hw' => pv_fa fb30_1 rfl) ?_   -- 2: t22 laws.go:1091 
    refine du rfl rfl (fun w' hw' => pv_ld ag3 rfl (hw'.cell rfl)) ?_   -- 3: t23 laws.go:1091 
    refine du rfl rfl (fun w' hw' => pv_fa fb30_2 rfl) ?_   -- 4: t24 laws.go:1091 
    refine du rfl rfl (fun w' hw' => pv_ld ag9 rfl (hw'.cell rfl)) ?_   -- 5: t25 laws.go:1091 
    refine du rfl rfl (fun w' hw' => pv_mv) ?_   -- 8: t28 laws.go:1091 
    refine dev rfl rfl (ev_call cb53 rfl (f53_ok b.s w1.drew (by omega)) ?_)   -- 6: t26 laws.go:1091 
    rintro _ w2 ⟨rfl, hx2⟩
    have hY2 := (Ext.drew w1).trans hx2
    refine ⟨hn1.blk.ext hY2, ?_⟩
    refine du rfl rfl (fun w' hw' => pv_bd rfl (bd30 _ _ _)) ?_   -- 7: t27 laws.go:1091 
    refine dev rfl rfl (ev_call cb45 rfl (f45_ok b z w2 hz (by omega)) ?_)   -- 9: t29 laws.go:1091 
    rintro sv w3 ⟨hos, hx3⟩
    have hY3 := hY2.trans hx3
    refine ⟨hn1.blk.ext hY3, ?_⟩
    refine du rfl rfl (fun w' hw' => pv_as) ?_   -- 10: t6 laws.go:1091 
    refine DW.nil ?_
    refine SX.mid (G := Nat) (fun bA => [(1, iv z), (2, .pointer (some ⟨w.heap.size, 0, none⟩)), (6, sv), (7, .pointer (some ⟨bA, 0, none⟩))]) (fun bA w' => Blk w' bA 30 (encT b) ∧ Ext w3 w' ∧ w3.heap.size ≤ bA) ?_ ?_
    · skip
      refine SX.drawX (fun w' => Blk w' w.heap.size 30 (encT b)) (by kernel_rfl) (hn1.blk.ext (hY3.trans (Ext.drew w3))) ?_
      refine xu (i := 0) (by kernel_rfl) rfl rfl (fun w' hw' => pv_fa fb30_0 rfl) ?_
      refine xu (i := 1) (by kernel_rfl) rfl rfl (fun w' hw' => pv_ld ag3 rfl (hw'.cell rfl)) ?_
      refine xu (i := 2) (by kernel_rfl) rfl rfl (fun w' hw' => pv_fa fb30_1 rfl) ?_
      refine xu (i := 3) (by kernel_rfl) rfl rfl (fun w' hw' => pv_ld ag3 rfl (hw'.cell rfl)) ?_
      refine xu (i := 4) (by kernel_rfl) rfl rfl (fun w' hw' => pv_fa fb30_2 rfl) ?_
      refine xu (i := 5) (by kernel_rfl) rfl rfl (fun w' hw' => pv_ld ag9 rfl (hw'.cell rfl)) ?_
      have hsd : w3.drew.heap.size = w3.heap.size := rfl
      refine DX.two (i := 6) (j := 8) (by kernel_rfl) rfl rfl rfl rfl (ev_call cb53 rfl (f53_ok b.s w3.drew (by omega)) ?_) (ev_al3 if30 fun w4 hn4 => ?_)
      · rintro _ w4 ⟨rfl, hx4⟩
        have hx34 := (Ext.drew w3).trans hx4
        refine ⟨hn1.blk.ext (hY3.trans hx34), DX.rest [(7, true), (8, false), (9, false)] rfl (by kernel_rfl) ?_⟩
        refine du rfl rfl (fun w' hw' => pv_bd rfl (bd30 _ _ _)) ?_
        refine dev rfl rfl (ev_al3 if30 fun w5 hn5 => ?_)
        refine ⟨hn1.blk.ext ((hY3.trans hx34).trans hn5.ext), ?_⟩
        refine den rfl (ev_stB (nw := encT b) hn5.blk rfl rfl sz30 rfl (encT_one _) fun w6 hb6 hg6 hz6 => ?_)
        have hx36 : Ext w3 w6 := (hx34.trans hn5.ext).step hg6 (fun g e => by have := Option.some.inj e; have := hx34.size; omega)
        refine ⟨hn1.blk.ext (hY3.trans hx36), DW.nil ?_⟩
        exact ⟨w4.heap.size, ⟨rfl, rfl, rfl, rfl, trivial⟩, hb6, hx36, hx34.size⟩
      · have hx34 := (Ext.drew w3).trans hn4.ext
        refine ⟨hn1.blk.ext (hY3.trans hx34), DX.rest [(6, false), (7, true), (9, false)] rfl (by kernel_rfl) ?_⟩
        refine dev rfl rfl (ev_call cb53 rfl (f53_ok b.s w4 (by omega)) ?_)
        rintro _ w5 ⟨rfl, hx5⟩
        refine ⟨hn1.blk.ext ((hY3.trans hx34).trans hx5), ?_⟩
        refine du rfl rfl (fun w' hw' => pv_bd rfl (bd30 _ _ _)) ?_
        refine den rfl (ev_stB (nw := encT b) (hn4.blk.ext hx5) rfl rfl sz30 rfl (encT_one _) fun w6 hb6 hg6 hz6 => ?_)
        have hx36 : Ext w3 w6 := (hx34.trans hx5).step hg6 (fun g e => by have := Option.some.inj e; omega)
        refine ⟨hn1.blk.ext (hY3.trans hx36), DW.nil ?_⟩
        exact ⟨w3.heap.size, ⟨rfl, rfl, rfl, rfl, trivial⟩, hb6, hx36, Nat.le_refl _⟩
    rintro bA w6 ρ6 ⟨hb6, hx36, hbA1⟩
    refine SX.seq (SX.reg ?_)   -- region 9
    refine pu rfl (pv_ldB ag30 hb6 sz30 rfl) ?_   -- t38 laws.go:1093
    refine pu rfl pv_mv ?_   -- t39 laws.go:1093
    refine evd rfl (ev_call cb44 rfl (f44_ok b z w6 hz (by omega)) ?_)   -- t40 laws.go:1093
    rintro got w7 ⟨hog, hx7⟩
    have hos7 := (hos.ext hx36).ext hx7
    refine pu rfl pv_as ?_   -- t8 laws.go:1093
    refine LW.nil ?_
    refine SX.seq ?_
    refine SX.seq (SX.reg ?_)   -- region 10
    refine pu rfl pv_mv ?_   -- t41 laws.go:1094
    refine pu rfl pv_mv ?_   -- t42 laws.go:1094
    refine evd rfl (ev_call cb54 rfl (f54_ok got sv (renderBlock b z) w7 hog.rd hos7.rd (by omega)) ?_)   -- t43 laws.go:1094
    rintro _ w8 ⟨rfl, hx8⟩
    have hos8 := hos7.ext hx8
    have hog8 := hog.ext hx8
    have hY8 := ((hY3.trans hx36).trans hx7).trans hx8
    have hbA8 := (hb6.ext hx7).ext hx8
    refine pu rfl (pv_not rfl) ?_   -- t44 laws.go:1094
    refine LW.nil ?_
    refine SX.cond_false rfl ?_   -- t44
    refine SX.skip ?_
    refine SX.seq ?_
    refine SX.seq (SX.reg ?_)   -- region 12
    refine pu rfl (pv_fa fb30_0 rfl) ?_   -- t45 laws.go:1097
    refine pu rfl (pv_ld ag3 rfl (hbA8.cell rfl)) ?_   -- t46 laws.go:1097
    refine pu rfl (pv_fa fb30_0 rfl) ?_   -- t47 laws.go:1097
    refine pu rfl (pv_ld ag3 rfl ((hn1.blk.ext hY8).cell rfl)) ?_   -- t48 laws.go:1097
    refine pu rfl (pv_neqE rfl rfl) ?_   -- t49 laws.go:1097
    refine pu rfl pv_mv ?_   -- t50 laws.go:1097
    refine LW.sc false 5 5 50 51 56 (b := false) (fun w' => w8 = w') rfl rfl rfl rfl (fun _ => rfl) rfl (fun ht => ?_) rfl (fun J w' hw' => ?_)   -- t56 := pick ['t50', "c:['true']", 't55']
    · skip
      refine pu rfl (pv_fa fb30_1 rfl) ?_   -- t51 laws.go:1097
      refine pu rfl (pv_ld ag3 rfl (hbA8.cell rfl)) ?_   -- t52 laws.go:1097
      refine pu rfl (pv_fa fb30_1 rfl) ?_   -- t53 laws.go:1097
      refine pu rfl (pv_ld ag3 rfl ((hn1.blk.ext hY8).cell rfl)) ?_   -- t54 laws.go:1097
      refine pu rfl (pv_neqE rfl rfl) ?_   -- t55 laws.go:1097
      exact LW.nil ⟨rfl, rfl⟩
    subst hw'
    refine pu rfl pv_mv ?_   -- t57 laws.go:1097
    refine LW.sc false 5 12 57 58 63 (b := false) (fun w' => w8 = w') rfl rfl rfl rfl (fun _ => rfl) rfl (fun ht => ?_) rfl (fun J w' hw' => ?_)   -- t63 := pick ['t57', "c:['true']", 't62']
    · skip
      refine pu rfl (pv_fa fb30_2 rfl) ?_   -- t58 laws.go:1097
      refine pu rfl (pv_ld ag9 rfl (hbA8.cell rfl)) ?_   -- t59 laws.go:1097
      refine pu rfl (pv_fa fb30_2 rfl) ?_   -- t60 laws.go:1097
      refine pu rfl (pv_ld ag9 rfl ((hn1.blk.ext hY8).cell rfl)) ?_   -- t61 laws.go:1097
      refine pu rfl (pv_neqSE rfl rfl) ?_   -- t62 laws.go:1097
      exact LW.nil ⟨rfl, rfl⟩
    subst hw'
    refine LW.nil ?_
    refine SX.cond_false rfl ?_   -- t63
    refine SX.skip ?_
    refine SX.seq (SX.reg ?_)   -- region 14
    refine pu rfl (pv_bd rfl (bd30 _ _ _)) ?_   -- t64 laws.go:1100
    refine evn (ev_stB (nw := encT ⟨-99, 99, [0, 115, 99, 114, 105, 98, 98, 108, 101, 100]⟩) hbA8 rfl rfl sz30 rfl (encT_one _) fun w9 hbA9 hg9 hz9 => ?_)   --  laws.go:1100
    have hY9 : Ext w1 w9 := hY8.step hg9 (fun g e => by have := Option.some.inj e; have := hY3.size; omega)
    have hos9 := hos8.keep hg9 (.inr (fun e => by have := (hos.lt _ e).2; omega))
    have hog9 := hog8.keep hg9 (.inr (fun e => by have := (hog.lt _ e).1; have := hb6.lt; omega))
    refine LW.nil ?_
    refine SX.seq ?_
    refine SX.seq (SX.reg ?_)   -- region 15
    refine pu rfl pv_mv ?_   -- t65 laws.go:1101
    refine pu rfl pv_mv ?_   -- t66 laws.go:1101
    refine evd rfl (ev_call cb54 rfl (f54_ok got sv (renderBlock b z) w9 hog9.rd hos9.rd (by omega)) ?_)   -- t67 laws.go:1101
    rintro _ w10 ⟨rfl, hx10⟩
    have hos10 := hos9.ext hx10
    have hog10 := hog9.ext hx10
    have hbA10 := hbA9.ext hx10
    have hY10 := hY9.trans hx10
    refine pu rfl (pv_not rfl) ?_   -- t68 laws.go:1101
    refine pu rfl pv_mv ?_   -- t69 laws.go:1101
    refine LW.sc false 3 4 69 70 73 (b := false) (fun w' => w10 = w') rfl rfl rfl rfl (fun _ => rfl) rfl (fun ht => ?_) rfl (fun J w' hw' => ?_)   -- t73 := pick ['t69', "c:['true']", 't72']
    · skip
      refine pu rfl (pv_fa fb30_0 rfl) ?_   -- t70 laws.go:1101
      refine pu rfl (pv_ld ag3 rfl (hbA10.cell rfl)) ?_   -- t71 laws.go:1101
      refine pu rfl (pv_neqE rfl rfl) ?_   -- t72 laws.go:1101
      exact LW.nil ⟨rfl, rfl⟩
    subst hw'
    refine LW.nil ?_
    refine SX.cond_false rfl ?_   -- t73
    refine SX.skip ?_
    refine SX.seq (SX.reg ?_)   -- region 17
    refine pu rfl pv_mv ?_   -- t74 laws.go:1104
    refine evd rfl (ev_call cb55 rfl (f55_ok got (renderBlock b z) _ w10 hog10 (by omega)) ?_)   -- t75 laws.go:1104
    intro _ w11 hg11
    have hY11 : Ext w1 w11 := hY10.step hg11 (fun g e => by have := (hog10.lt g e).1; have := hY3.size; have := hx36.size; omega)
    have hos11 : OwnR w11 _ tS sv (renderBlock b z) := hos10.keep hg11 (hos.sep hog hx36.size)
    refine LW.nil ?_
    refine SX.seq ?_
    refine SX.draw [(0, true), (1, true), (2, true), (3, true), (4, true), (5, true), (8, true), (10, true), (6, false), (7, true), (9, false), (11, false), (12, true)] (fun w' => Blk w' w.heap.size 30 (encT b)) (by kernel_rfl) (hn1.blk.ext (hY11.trans (Ext.drew w11))) ?_   -- region 18
    refine du rfl rfl (fun w' hw' => pv_fa fb30_0 rfl) ?_   -- 0: t76 laws.go:1105 
    refine du rfl rfl (fun w' hw' => pv_ld ag3 rfl (hw'.cell rfl)) ?_   -- 1: t77 laws.go:1105 
    refine du rfl rfl (fun w' hw' => pv_fa fb30_1 rfl) ?_   -- 2: t78 laws.go:1105 
    refine du rfl rfl (fun w' hw' => pv_ld ag3 rfl (hw'.cell rfl)) ?_   -- 3: t79 laws.go:1105 
    refine du rfl rfl (fun w' hw' => pv_fa fb30_2 rfl) ?_   -- 4: t80 laws.go:1105 
    refine du rfl rfl (fun w' hw' => pv_ld ag9 rfl (hw'.cell rfl)) ?_   -- 5: t81 laws.go:1105 
    refine du rfl rfl (fun w' hw' => pv_mv) ?_   -- 8: t84 laws.go:1105 
    refine du rfl rfl (fun w' hw' => pv_mv) ?_   -- 10: t86 laws.go:1105 
    refine dev rfl rfl (ev_call cb53 rfl (f53_ok b.s w11.drew (by omega)) ?_)   -- 6: t82 laws.go:1105 
    rintro _ w12 ⟨rfl, hx12⟩
    have hY12 := (hY11.trans (Ext.drew w11)).trans hx12
    refine ⟨hn1.blk.ext hY12, ?_⟩
    refine du rfl rfl (fun w' hw' => pv_bd rfl (bd30 _ _ _)) ?_   -- 7: t83 laws.go:1105 
    refine dev rfl rfl (ev_call cb44 rfl (f44_ok b z w12 hz (by omega)) ?_)   -- 9: t85 laws.go:1105 
    rintro got2 w13 ⟨hog2, hx13⟩
    have hY13 := hY12.trans hx13
    have hos13 := ((hos11.ext (Ext.drew w11)).ext hx12).ext hx13
    refine ⟨hn1.blk.ext hY13, ?_⟩
    refine dev rfl rfl (ev_call cb54 rfl (f54_ok got2 sv (renderBlock b z) w13 hog2.rd hos13.rd (by omega)) ?_)   -- 11: t87 laws.go:1105 
    rintro _ w14 ⟨rfl, hx14⟩
    have hY14 := hY13.trans hx14
    refine ⟨hn1.blk.ext hY14, ?_⟩
    refine du rfl rfl (fun w' hw' => pv_as) ?_   -- 12: t4 laws.go:1105 
    refine DW.nil ?_
    refine SX.ret ?_
    exact ⟨rfl, hx1.trans hY14⟩

end Go.Proofs.Ybuabw
