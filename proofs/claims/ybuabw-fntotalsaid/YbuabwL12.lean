/-
  WALKS. The law FnTotal. Own work for the seat Ybuabw (the steps of each walk were typed by a program of ours off the printed code).
-/
import Derived.Test.YbuabwW20
import Derived.Test.YbuabwW3
import Derived.Test.YbuabwW5
import Derived.Test.YbuabwPlain10
namespace Go.Proofs.Ybuabw
open Go.RowKit
set_option linter.unusedVariables false
set_option linter.unusedSimpArgs false
set_option maxRecDepth 20000

theorem f3_ok (d : Str) (w : World) : Fn 3 [S d] w (fun v w' => v = .bool true ∧ Ext w w') := by
  refine Fn.mk1 (N := 178) Yabc.func3 rfl rfl rfl rfl ?_
  refine SX.seq (SX.reg ?_)   -- region 0
  refine pu rfl pv_as ?_   -- t2 laws.go:603
  refine LW.nil ?_
  refine SX.seq ?_
  refine SX.seq (SX.reg ?_)   -- region 1
  refine pu rfl pv_mv ?_   -- t16 laws.go:604
  refine pu rfl (pv_len_s rfl) ?_   -- t17 laws.go:604
  refine pu rfl (pv_gtr rfl rfl) ?_   -- t18 laws.go:604
  refine LW.nil ?_
  refine SX.cond rfl (fun hc => ?_) (fun hc => ?_)   -- t18
  · skip
    refine SX.seq (SX.reg ?_)   -- region 2
    refine pu rfl pv_as ?_   -- t2 laws.go:605
    refine LW.nil ?_
    refine SX.ret ?_
    exact ⟨rfl, Ext.refl w⟩
  · skip
    refine SX.skip ?_
    refine SX.seq (SX.reg ?_)   -- region 3
    refine pu rfl pv_mv ?_   -- t19 laws.go:607
    refine evd rfl (ev_call cb15 rfl (f15_ok d w) ?_)   -- t20 laws.go:607
    rintro _ wa1 ⟨⟨doc, rfl, hdoc⟩, hxa1⟩
    have Xa1 := hxa1
    refine pu rfl pv_as ?_   -- t3 laws.go:607
    refine LW.nil ?_
    refine SX.seq (SX.reg ?_)   -- region 4
    refine pu rfl pv_mv ?_   -- t21 laws.go:608
    refine evd rfl (ev_call cb16 rfl (f16_ok d wa1) ?_)   -- t22 laws.go:608
    rintro _ wa2 ⟨⟨text, rfl, htext⟩, hxa2⟩
    have Xa2 := Xa1.trans hxa2
    refine pu rfl pv_as ?_   -- t4 laws.go:608
    refine LW.nil ?_
    refine SX.seq (SX.reg ?_)   -- region 5
    refine pu rfl pv_mv ?_   -- t23 laws.go:609
    refine evd rfl (ev_call cb17 rfl (f17_ok d wa2) ?_)   -- t24 laws.go:609
    rintro vps wa3 ⟨⟨ps, hps, hps1, hps2⟩, hxa3⟩
    have Xa3 := Xa2.trans hxa3
    refine pu rfl pv_as ?_   -- t5 laws.go:609
    refine LW.nil ?_
    refine SX.seq (SX.reg ?_)   -- region 6
    refine pu rfl pv_mv ?_   -- t25 laws.go:610
    refine evd rfl (ev_call cb18 rfl (f18_ok d wa3) ?_)   -- t26 laws.go:610
    rintro vfs wa4 ⟨⟨fs, hfs, hfs1, hfs2⟩, hxa4⟩
    have Xa4 := Xa3.trans hxa4
    have hps := hps.ext hxa4
    refine pu rfl pv_as ?_   -- t6 laws.go:610
    refine LW.nil ?_
    refine SX.seq (SX.reg ?_)   -- region 7
    refine pu rfl pv_mv ?_   -- t27 laws.go:611
    refine evd rfl (ev_call cb19 rfl (f19_ok d wa4) ?_)   -- t28 laws.go:611
    rintro vbs wa5 ⟨⟨bs, hbs, hbs1, hbs2⟩, hxa5⟩
    have Xa5 := Xa4.trans hxa5
    have hps := hps.ext hxa5
    have hfs := hfs.ext hxa5
    refine pu rfl pv_as ?_   -- t7 laws.go:611
    refine LW.nil ?_
    refine SX.seq (SX.reg ?_)   -- region 8
    refine pu rfl pv_mv ?_   -- t29 laws.go:612
    refine evd rfl (ev_call cb20 rfl (f20_ok d wa5) ?_)   -- t30 laws.go:612
    rintro _ wa6 ⟨⟨one, rfl, hone⟩, hxa6⟩
    have Xa6 := Xa5.trans hxa6
    have hps := hps.ext hxa6
    have hfs := hfs.ext hxa6
    have hbs := hbs.ext hxa6
    refine evd rfl (ev_al3 if30 fun wal hnal => ?_)   -- t8 laws.go:612
    refine evn (ev_stB (nw := encT one) hnal.blk rfl rfl sz30 rfl (encT_one _) fun wb hblk hgb hzb => ?_)   --  laws.go:612
    have hxw : Ext wa6 wb := hnal.ext.step hgb (fun g e => by have := Option.some.inj e; omega)
    have Xb : Ext w wb := Xa6.trans hxw
    have hps := hps.ext hxw
    have hfs := hfs.ext hxw
    have hbs := hbs.ext hxw
    have hpb10 := parseBlocks_10 doc
    have hpbc := parseBlocks_cnt doc
    have hspl := splitL_len doc
    have hpin := parseInline_bd text
    have hnrm := normalize_len ps
    refine LW.nil ?_
    refine SX.seq (SX.reg ?_)   -- region 9
    refine pu rfl pv_mv ?_   -- t31 laws.go:613
    refine evd rfl (ev_call cb21 rfl (f21_ok doc wb (by omega)) ?_)   -- t32 laws.go:613
    rintro sl wb1 ⟨hosl, hxb1⟩
    have Xb1 := hxb1
    refine pu rfl pv_as ?_   -- t9 laws.go:613
    refine LW.nil ?_
    refine SX.seq ?_
    refine SX.seq (SX.reg ?_)   -- region 10
    refine pu rfl pv_mv ?_   -- t33 laws.go:614
    refine pu rfl pv_mv ?_   -- t34 laws.go:614
    refine evd rfl (ev_call cb21 rfl (f21_ok doc wb1 (by omega)) ?_)   -- t35 laws.go:614
    rintro sl2 wb2 ⟨hosl2, hxb2⟩
    have Xb2 := Xb1.trans hxb2
    have hosl := hosl.ext hxb2
    refine evd rfl (ev_call cb22 rfl (f22_ok sl sl2 (splitL doc) wb2 hosl.rd hosl2.rd (by omega)) ?_)   -- t36 laws.go:614
    rintro _ wb3 ⟨rfl, hxb3⟩
    have Xb3 := Xb2.trans hxb3
    have hosl := hosl.ext hxb3
    refine pu rfl (pv_not rfl) ?_   -- t37 laws.go:614
    refine pu rfl pv_mv ?_   -- t38 laws.go:614
    refine LW.sc false 5 5 38 39 44 (b := false) (fun w' => Ext wb w') rfl rfl rfl rfl (fun _ => rfl) rfl (fun ht => ?_) Xb3 (fun J w' hw' => ?_)   -- t44 := pick ['t38', "c:['true']", 't43']
    · skip
      refine pu rfl pv_mv ?_   -- t39 laws.go:614
      refine pu rfl pv_mv ?_   -- t40 laws.go:614
      refine evd rfl (ev_call cb23 rfl (f23_ok doc wb3 (by omega)) ?_)   -- t41 laws.go:614
      rintro sl3 wb4 ⟨hosl3, hxb4⟩
      have Xb4 := Xb3.trans hxb4
      have hosl := hosl.ext hxb4
      refine evd rfl (ev_call cb22 rfl (f22_ok sl sl3 (splitL doc) wb4 hosl.rd hosl3.rd (by omega)) ?_)   -- t42 laws.go:614
      rintro _ wb5 ⟨rfl, hxb5⟩
      have Xb5 := Xb4.trans hxb5
      have hosl := hosl.ext hxb5
      refine pu rfl (pv_not rfl) ?_   -- t43 laws.go:614
      exact LW.nil ⟨rfl, Xb5⟩
    revert w'
    intro wS1 hxS1
    refine LW.nil ?_
    refine SX.cond_false rfl ?_   -- t44
    refine SX.skip ?_
    refine SX.seq ?_
    refine SX.seq (SX.reg ?_)   -- region 12
    refine pu rfl pv_mv ?_   -- t45 laws.go:617
    refine evd rfl (ev_call cb24 rfl (f24_ok text wS1 (by omega)) ?_)   -- t46 laws.go:617
    rintro _ wb6 ⟨rfl, hxb6⟩
    have Xb6 := hxS1.trans hxb6
    refine pu rfl pv_mv ?_   -- t47 laws.go:617
    refine evd rfl (ev_call cb25 rfl (f25_ok text wb6 (by omega)) ?_)   -- t48 laws.go:617
    rintro _ wb7 ⟨rfl, hxb7⟩
    have Xb7 := Xb6.trans hxb7
    refine pu rfl (pv_neq36 rfl rfl) ?_   -- t49 laws.go:617
    refine pu rfl pv_mv ?_   -- t50 laws.go:617
    refine LW.sc false 5 5 50 51 56 (b := false) (fun w' => Ext wb w') rfl rfl rfl rfl (fun _ => rfl) rfl (fun ht => ?_) Xb7 (fun J w' hw' => ?_)   -- t56 := pick ['t50', "c:['true']", 't55']
    · skip
      refine pu rfl pv_mv ?_   -- t51 laws.go:617
      refine evd rfl (ev_call cb24 rfl (f24_ok doc wb7 (by omega)) ?_)   -- t52 laws.go:617
      rintro _ wb8 ⟨rfl, hxb8⟩
      have Xb8 := Xb7.trans hxb8
      refine pu rfl pv_mv ?_   -- t53 laws.go:617
      refine evd rfl (ev_call cb25 rfl (f25_ok doc wb8 (by omega)) ?_)   -- t54 laws.go:617
      rintro _ wb9 ⟨rfl, hxb9⟩
      have Xb9 := Xb8.trans hxb9
      refine pu rfl (pv_neq36 rfl rfl) ?_   -- t55 laws.go:617
      exact LW.nil ⟨rfl, Xb9⟩
    revert w'
    intro wS2 hxS2
    refine LW.nil ?_
    refine SX.cond_false rfl ?_   -- t56
    refine SX.skip ?_
    refine SX.seq (SX.reg ?_)   -- region 14
    refine pu rfl pv_mv ?_   -- t57 laws.go:620
    refine evd rfl (ev_call cb26 rfl (f26_ok doc wS2 (by omega)) ?_)   -- t58 laws.go:620
    rintro vpb wb10 ⟨hopb, hxb10, hpbl, hpbt⟩
    have Xb10 := hxS2.trans hxb10
    refine pu rfl pv_as ?_   -- t10 laws.go:620
    refine LW.nil ?_
    refine SX.seq ?_
    refine SX.seq (SX.reg ?_)   -- region 15
    refine pu rfl pv_mv ?_   -- t59 laws.go:621
    refine pu rfl pv_mv ?_   -- t60 laws.go:621
    refine evd rfl (ev_call cb28 rfl (f28_ok doc wb10 (by omega)) ?_)   -- t61 laws.go:621
    rintro vpb2 wb11 ⟨hopb2, hxb11, _⟩
    have Xb11 := Xb10.trans hxb11
    have hopb := hopb.ext hxb11
    refine evd rfl (ev_call cb27 rfl (f27_ok vpb vpb2 (parseBlocks doc) wb11 hopb.rd hopb2.rd (by omega)) ?_)   -- t62 laws.go:621
    rintro _ wb12 ⟨rfl, hxb12⟩
    have Xb12 := Xb11.trans hxb12
    have hopb := hopb.ext hxb12
    refine pu rfl (pv_not rfl) ?_   -- t63 laws.go:621
    refine LW.nil ?_
    refine SX.cond_false rfl ?_   -- t63
    refine SX.skip ?_
    refine SX.seq ?_
    refine SX.seq (SX.reg ?_)   -- region 17
    refine pu rfl pv_mv ?_   -- t64 laws.go:624
    refine evd rfl (ev_call cb30 rfl (f30_ok text wb12 (by omega)) ?_)   -- t65 laws.go:624
    rintro q1 wb13 ⟨hoq1, hxb13, _⟩
    have Xb13 := Xb12.trans hxb13
    have hopb := hopb.ext hxb13
    refine pu rfl pv_mv ?_   -- t66 laws.go:624
    refine evd rfl (ev_call cb31 rfl (f31_ok text wb13 (by omega)) ?_)   -- t67 laws.go:624
    rintro q2 wb14 ⟨hoq2, hxb14, _⟩
    have Xb14 := Xb13.trans hxb14
    have hopb := hopb.ext hxb14
    have hoq1 := hoq1.ext hxb14
    refine evd rfl (ev_call cb29 rfl (f29_ok q1 q2 (parseInline text) wb14 hoq1.rd hoq2.rd (by omega)) ?_)   -- t68 laws.go:624
    rintro _ wb15 ⟨rfl, hxb15⟩
    have Xb15 := Xb14.trans hxb15
    have hopb := hopb.ext hxb15
    have hoq1 := hoq1.ext hxb15
    refine pu rfl (pv_not rfl) ?_   -- t69 laws.go:624
    refine LW.nil ?_
    refine SX.cond_false rfl ?_   -- t69
    refine SX.skip ?_
    refine SX.seq ?_
    refine SX.seq (SX.reg ?_)   -- region 19
    refine pu rfl pv_mv ?_   -- t70 laws.go:627
    refine evd rfl (ev_call cb33 rfl (f33_ok vps ps wb15 (hps.ext Xb15) (by omega) (fun p hpm => by have := tl_mem ps p hpm; omega)) ?_)   -- t71 laws.go:627
    rintro c1 wb16 ⟨hoc1, hxb16⟩
    have Xb16 := Xb15.trans hxb16
    have hopb := hopb.ext hxb16
    refine evd rfl (ev_call cb32 rfl (f32_ok c1 ps wb16 hoc1.rd (by omega) (by omega)) ?_)   -- t72 laws.go:627
    rintro _ wb17 ⟨rfl, hxb17⟩
    have Xb17 := Xb16.trans hxb17
    have hopb := hopb.ext hxb17
    refine pu rfl pv_mv ?_   -- t73 laws.go:627
    refine evd rfl (ev_call cb34 rfl (f34_ok vps ps wb17 (hps.ext Xb17) (by omega) (by omega)) ?_)   -- t74 laws.go:627
    rintro _ wb18 ⟨rfl, hxb18⟩
    have Xb18 := Xb17.trans hxb18
    have hopb := hopb.ext hxb18
    refine pu rfl (pv_neqS rfl rfl) ?_   -- t75 laws.go:627
    refine LW.nil ?_
    refine SX.cond rfl (fun hc => absurd hc (by simp)) (fun hc => ?_)   -- t75
    refine SX.skip ?_
    refine SX.seq ?_
    refine SX.seq (SX.reg ?_)   -- region 21
    refine pu rfl pv_mv ?_   -- t76 laws.go:630
    refine evd rfl (ev_call cb33 rfl (f33_ok vps ps wb18 (hps.ext Xb18) (by omega) (fun p hpm => by have := tl_mem ps p hpm; omega)) ?_)   -- t77 laws.go:630
    rintro c2 wb19 ⟨hoc2, hxb19⟩
    have Xb19 := Xb18.trans hxb19
    have hopb := hopb.ext hxb19
    refine evd rfl (ev_call cb35 rfl (f35_ok c2 ps wb19 hoc2.rd (by omega) (by omega)) ?_)   -- t78 laws.go:630
    rintro n1 wb20 ⟨hon1, hxb20⟩
    have Xb20 := Xb19.trans hxb20
    have hopb := hopb.ext hxb20
    refine pu rfl pv_mv ?_   -- t79 laws.go:630
    refine evd rfl (ev_call cb36 rfl (f36_ok vps ps wb20 (hps.ext Xb20) (by omega) (by omega)) ?_)   -- t80 laws.go:630
    rintro n2 wb21 ⟨hon2, hxb21⟩
    have Xb21 := Xb20.trans hxb21
    have hopb := hopb.ext hxb21
    have hon1 := hon1.ext hxb21
    refine evd rfl (ev_call cb29 rfl (f29_ok n1 n2 (normalize ps) wb21 hon1.rd hon2.rd (by omega)) ?_)   -- t81 laws.go:630
    rintro _ wb22 ⟨rfl, hxb22⟩
    have Xb22 := Xb21.trans hxb22
    have hopb := hopb.ext hxb22
    have hon1 := hon1.ext hxb22
    refine pu rfl (pv_not rfl) ?_   -- t82 laws.go:630
    refine LW.nil ?_
    refine SX.cond_false rfl ?_   -- t82
    refine SX.skip ?_
    refine SX.seq ?_
    refine SX.seq (SX.reg ?_)   -- region 23
    refine pu rfl pv_mv ?_   -- t83 laws.go:633
    have hrll := renderLines_len fs   -- t84 laws.go:633
    refine evd rfl (ev_call cb38 rfl (f38_ok vfs fs wb22 (hfs.ext Xb22) (by omega) (fun p hpm => by have := tlF_mem fs p hpm; omega)) ?_)
    rintro c3 wb23 ⟨hoc3, hxb23⟩
    have Xb23 := Xb22.trans hxb23
    have hopb := hopb.ext hxb23
    refine evd rfl (ev_call cb37 rfl (f37_ok c3 fs wb23 hoc3.rd (by omega) (by omega)) ?_)   -- t85 laws.go:633
    rintro r1 wb24 ⟨hor1, hxb24⟩
    have Xb24 := Xb23.trans hxb24
    have hopb := hopb.ext hxb24
    refine pu rfl pv_mv ?_   -- t86 laws.go:633
    refine evd rfl (ev_call cb39 rfl (f39_ok vfs fs wb24 (hfs.ext Xb24) (by omega) (by omega)) ?_)   -- t87 laws.go:633
    rintro r2 wb25 ⟨hor2, hxb25⟩
    have Xb25 := Xb24.trans hxb25
    have hopb := hopb.ext hxb25
    have hor1 := hor1.ext hxb25
    refine evd rfl (ev_call cb22 rfl (f22_ok r1 r2 (renderLines fs) wb25 hor1.rd hor2.rd (by omega)) ?_)   -- t88 laws.go:633
    rintro _ wb26 ⟨rfl, hxb26⟩
    have Xb26 := Xb25.trans hxb26
    have hopb := hopb.ext hxb26
    have hor1 := hor1.ext hxb26
    refine pu rfl (pv_not rfl) ?_   -- t89 laws.go:633
    refine LW.nil ?_
    refine SX.cond_false rfl ?_   -- t89
    refine SX.skip ?_
    refine SX.seq ?_
    refine SX.seq (SX.reg ?_)   -- region 25
    refine pu rfl pv_as ?_   -- t11 laws.go:636
    refine LW.nil ?_
    refine SX.block ?_
    have hps := hps.ext Xb26
    have hbs := hbs.ext Xb26
    have hblk := hblk.ext Xb26
    have hpb := hopb.rd
    have hXL : Ext w wb26 := Xb.trans Xb26
    refine SX.loop (G := Nat) (fun k => [(0, S d), (3, S doc), (5, vps), (7, vbs), (8, .pointer (some ⟨wa6.heap.size, 0, none⟩)), (10, vpb), (11, iv k)]) (fun k w' => k ≤ 8 ∧ Ext wb26 w') (fun k => 8 - k) 0 ⟨rfl, rfl, rfl, rfl, rfl, rfl, rfl, trivial⟩ ⟨by omega, Ext.refl wb26⟩ ?_
    rintro k wk ρk ⟨hk, hxk⟩
    have hps := hps.ext hxk
    have hbs := hbs.ext hxk
    have hblk := hblk.ext hxk
    have hpb := hpb.ext hxk
    refine SX.seq ?_
    refine SX.seq (SX.reg ?_)   -- region 26
    refine pu rfl pv_mv ?_   -- t90 laws.go:636
    refine pu rfl (pv_lss rfl rfl) ?_   -- t91 laws.go:636
    refine LW.nil ?_
    refine SX.cond rfl (fun hc => ?_) (fun hc => ?_)   -- t91
    · skip
      have hk8 : k < 8 := by simp at hc; omega
      refine SX.skip ?_
      refine SX.seq ?_
      refine SX.block ?_
      refine SX.seq (SX.reg ?_)   -- region 28
      refine pu rfl pv_mv ?_   -- t94 laws.go:637
      refine pu rfl pv_mv ?_   -- t95 laws.go:637
      refine evd rfl (ev_call cb40 rfl (f40_ok k d wk) ?_)   -- t96 laws.go:637
      rintro _ _ ⟨⟨z, rfl, hz⟩, rfl⟩
      have hlay := layout_len ps z
      refine pu rfl pv_as ?_   -- t12 laws.go:637
      refine LW.nil ?_
      refine SX.seq ?_
      refine SX.seq (SX.reg ?_)   -- region 29
      refine pu rfl pv_mv ?_   -- t97 laws.go:638
      refine evd rfl (ev_call cb33 rfl (f33_ok vps ps wk (hps.ext (Ext.refl wk)) (by omega) (fun p hpm => by have := tl_mem ps p hpm; omega)) ?_)   -- t98 laws.go:638
      rintro c4 wc2 ⟨hoc4, hxc2⟩
      have Xc2 := hxc2
      refine pu rfl pv_mv ?_   -- t99 laws.go:638
      refine evd rfl (ev_call cb42 rfl (f42_ok c4 ps z wc2 hoc4.rd (by omega) (by omega)) ?_)   -- t100 laws.go:638
      rintro l1 wc3 ⟨hol1, hxc3⟩
      have Xc3 := Xc2.trans hxc3
      refine pu rfl pv_mv ?_   -- t101 laws.go:638
      refine pu rfl pv_mv ?_   -- t102 laws.go:638
      refine evd rfl (ev_call cb43 rfl (f43_ok vps ps z wc3 (hps.ext Xc3) (by omega) (by omega)) ?_)   -- t103 laws.go:638
      rintro l2 wc4 ⟨hol2, hxc4⟩
      have Xc4 := Xc3.trans hxc4
      have hol1 := hol1.ext hxc4
      refine evd rfl (ev_call cb41 rfl (f41_ok l1 l2 (layout ps z) wc4 hol1.rd hol2.rd (by omega)) ?_)   -- t104 laws.go:638
      rintro _ wc5 ⟨rfl, hxc5⟩
      have Xc5 := Xc4.trans hxc5
      have hol1 := hol1.ext hxc5
      refine pu rfl (pv_not rfl) ?_   -- t105 laws.go:638
      refine LW.nil ?_
      refine SX.cond_false rfl ?_   -- t105
      refine SX.skip ?_
      refine SX.seq (SX.reg ?_)   -- region 31
      refine pu rfl (pv_ldB ag30 (hblk.ext Xc5) sz30 rfl) ?_   -- t106 laws.go:641
      refine pu rfl pv_mv ?_   -- t107 laws.go:641
      have hbd1 := renderBlock_bd one z   -- t108 laws.go:641
      refine evd rfl (ev_call cb44 rfl (f44_ok one z wc5 hz (by omega)) ?_)
      rintro g wc6 ⟨hog, hxc6⟩
      have Xc6 := Xc5.trans hxc6
      refine pu rfl pv_as ?_   -- t13 laws.go:641
      refine LW.nil ?_
      refine SX.seq ?_
      refine SX.seq (SX.reg ?_)   -- region 32
      refine pu rfl pv_mv ?_   -- t109 laws.go:642
      refine pu rfl (pv_ldB ag30 (hblk.ext Xc6) sz30 rfl) ?_   -- t110 laws.go:642
      refine pu rfl pv_mv ?_   -- t111 laws.go:642
      refine evd rfl (ev_call cb45 rfl (f45_ok one z wc6 hz (by omega)) ?_)   -- t112 laws.go:642
      rintro g2 wc7 ⟨hog2, hxc7⟩
      have Xc7 := Xc6.trans hxc7
      have hog := hog.ext hxc7
      refine evd rfl (ev_call cb22 rfl (f22_ok g g2 (renderBlock one z) wc7 hog.rd hog2.rd (by omega)) ?_)   -- t113 laws.go:642
      rintro _ wc8 ⟨rfl, hxc8⟩
      have Xc8 := Xc7.trans hxc8
      have hog := hog.ext hxc8
      refine pu rfl (pv_not rfl) ?_   -- t114 laws.go:642
      refine pu rfl pv_mv ?_   -- t115 laws.go:642
      refine LW.sc false 5 6 115 116 121 (b := false) (fun w' => Ext wk w') rfl rfl rfl rfl (fun _ => rfl) rfl (fun ht => ?_) Xc8 (fun J w' hw' => ?_)   -- t121 := pick ['t115', "c:['true']", 't120']
      · skip
        refine pu rfl (pv_ldB ag30 (hblk.ext Xc8) sz30 rfl) ?_   -- t116 laws.go:642
        refine pu rfl pv_mv ?_   -- t117 laws.go:642
        refine pu rfl pv_mv ?_   -- t118 laws.go:642
        refine evd rfl (ev_call cb46 rfl (f46_ok one z g wc8 hog.rd (by omega)) ?_)   -- t119 laws.go:642
        rintro _ wc9 ⟨rfl, hxc9⟩
        have Xc9 := Xc8.trans hxc9
        have hog := hog.ext hxc9
        refine pu rfl (pv_not rfl) ?_   -- t120 laws.go:642
        exact LW.nil ⟨rfl, Xc9⟩
      revert w'
      intro wM hxM
      refine LW.nil ?_
      refine SX.cond_false rfl ?_   -- t121
      refine SX.skip ?_
      refine SX.seq ?_
      refine SX.seq (SX.reg ?_)   -- region 34
      refine pu rfl pv_as ?_   -- t14 laws.go:645
      refine LW.nil ?_
      refine SX.block ?_
      have hbs := hbs.ext hxM
      refine SX.loop (G := Nat) (fun j => [(0, S d), (3, S doc), (5, vps), (7, vbs), (8, .pointer (some ⟨wa6.heap.size, 0, none⟩)), (10, vpb), (11, iv k), (12, iv z), (14, iv j)]) (fun j w' => j ≤ bs.length ∧ Ext wM w') (fun j => bs.length - j) 0 ⟨rfl, rfl, rfl, rfl, rfl, rfl, rfl, rfl, rfl, trivial⟩ ⟨Nat.zero_le _, Ext.refl wM⟩ ?_
      rintro j wj ρj ⟨hj, hxj⟩
      have hbsj := hbs.ext hxj
      refine SX.seq ?_
      refine SX.seq (SX.reg ?_)   -- region 35
      refine pu rfl pv_mv ?_   -- t122 laws.go:645
      refine pu rfl pv_mv ?_   -- t123 laws.go:645
      refine pu rfl (pv_lenV (T := tK) Yabc.underlying27 hbsj rfl) ?_   -- t124 laws.go:645
      refine pu rfl (pv_lss rfl rfl) ?_   -- t125 laws.go:645
      refine LW.nil ?_
      refine SX.cond rfl (fun hc => ?_) (fun hc => ?_)   -- t125
      · skip
        have hjl : j < bs.length := by simpa using hc
        have hbj := hbs2 _ (List.getElem_mem hjl)
        refine SX.skip ?_
        refine SX.seq ?_
        refine SX.block ?_
        refine SX.seq ?_
        refine SX.draw [(0, true), (1, true), (2, true), (3, true), (4, true), (5, true), (6, true), (7, true), (8, true), (9, true), (10, false), (11, false), (12, true)] (fun w' => Rd w' tK vbs bs) (by kernel_rfl) (hbsj.ext (Ext.drew wj)) ?_   -- region 37
        refine du rfl rfl (fun w' hw' => pv_mv) ?_   -- 0: t128 laws.go:646 
        refine du rfl rfl (fun w' hw' => pv_mv) ?_   -- 1: t129 laws.go:646 
        refine du rfl rfl (fun w' hw' => pv_ix (T := tK) (k := j) Yabc.underlying27 sz30 okK hw' rfl rfl (by omega) (by omega)) ?_   -- 2: t130 laws.go:646 
        refine du rfl rfl (fun w' hw' => pv_ldE ag30 okK sz30 hw' (by omega) rfl) ?_   -- 3: t131 laws.go:646 
        refine du rfl rfl (fun w' hw' => pv_mv) ?_   -- 4: t132 laws.go:646 
        refine du rfl rfl (fun w' hw' => pv_mv) ?_   -- 5: t133 laws.go:646 
        refine du rfl rfl (fun w' hw' => pv_mv) ?_   -- 6: t134 laws.go:646 
        refine du rfl rfl (fun w' hw' => pv_ix (T := tK) (k := j) Yabc.underlying27 sz30 okK hw' rfl rfl (by omega) (by omega)) ?_   -- 7: t135 laws.go:646 
        refine du rfl rfl (fun w' hw' => pv_ldE ag30 okK sz30 hw' (by omega) rfl) ?_   -- 8: t136 laws.go:646 
        refine du rfl rfl (fun w' hw' => pv_mv) ?_   -- 9: t137 laws.go:646 
        refine dev rfl rfl (ev_call cb44 rfl (f44_ok (bs[j]'hjl) z wj.drew hz (by omega)) ?_)   -- 10: t138 laws.go:646 
        rintro gj wj1 ⟨hogj, hxj1⟩
        have hxjd := (Ext.drew wj).trans hxj1
        refine ⟨hbsj.ext hxjd, ?_⟩
        refine dev rfl rfl (ev_call cb46 rfl (f46_ok (bs[j]'hjl) z gj wj1 hogj.rd (by omega)) ?_)   -- 11: t139 laws.go:646 
        rintro _ wj2 ⟨rfl, hxj2⟩
        have hxje := hxjd.trans hxj2
        refine ⟨hbsj.ext hxje, ?_⟩
        refine du rfl rfl (fun w' hw' => pv_not rfl) ?_   -- 12: t140 laws.go:646 
        refine DW.nil ?_
        refine SX.cond_false rfl ?_   -- t140
        refine SX.skip ?_
        refine SX.reg ?_
        refine pu rfl pv_mv ?_   -- t126 laws.go:645
        refine pu rfl (pv_add rfl rfl (by omega)) ?_   -- t127 laws.go:645
        refine pu rfl pv_as ?_   -- t14 laws.go:645
        refine LW.nil ?_
        exact ⟨j + 1, ⟨rfl, rfl, rfl, rfl, rfl, rfl, rfl, rfl, rfl, trivial⟩, ⟨by omega, hxj.trans hxje⟩, by omega⟩
      · skip
        have hX2 : Ext wk wj := hxM.trans hxj
        refine SX.exit (xb_here ?_)
        refine SX.seq ?_
        refine SX.seq (SX.reg ?_)   -- region 39
        refine pu rfl pv_mv ?_   -- t141 laws.go:650
        refine evd rfl (ev_call cb48 rfl (f48_ok vbs bs wj (hbsj.ext (Ext.refl wj)) (by omega) (fun p hpm => by have := hbs2 p hpm; omega)) ?_)   -- t142 laws.go:650
        rintro c5 wd1 ⟨hoc5, hxd1⟩
        have Xd1 := hxd1
        refine pu rfl pv_mv ?_   -- t143 laws.go:650
        refine evd rfl (ev_call cb47 rfl (f47_ok c5 bs z wd1 hz hoc5.rd (by omega) (fun p hpm => by have := hbs2 p hpm; omega)) ?_)   -- t144 laws.go:650
        rintro _ wd2 ⟨rfl, hxd2⟩
        have Xd2 := Xd1.trans hxd2
        refine pu rfl pv_mv ?_   -- t145 laws.go:650
        refine pu rfl pv_mv ?_   -- t146 laws.go:650
        refine evd rfl (ev_call cb49 rfl (f49_ok vbs bs z wd2 hz (hbsj.ext Xd2) (by omega) (fun p hpm => by have := hbs2 p hpm; omega)) ?_)   -- t147 laws.go:650
        rintro _ wd3 ⟨rfl, hxd3⟩
        have Xd3 := Xd2.trans hxd3
        refine pu rfl (pv_neqS rfl rfl) ?_   -- t148 laws.go:650
        refine LW.nil ?_
        refine SX.cond rfl (fun hc => absurd hc (by simp)) (fun hc => ?_)   -- t148
        refine SX.skip ?_
        refine SX.seq (SX.reg ?_)   -- region 41
        refine pu rfl pv_mv ?_   -- t149 laws.go:653
        refine pu rfl pv_mv ?_   -- t150 laws.go:653
        refine evd rfl (ev_call cb50 rfl (f50_ok doc z wd3 hz (.inr (by omega)) (by omega)) ?_)   -- t151 laws.go:653
        rintro _ wd4 ⟨rfl, hxd4⟩
        have Xd4 := Xd3.trans hxd4
        refine pu rfl pv_as ?_   -- t15 laws.go:653
        refine LW.nil ?_
        refine SX.seq ?_
        refine SX.seq (SX.reg ?_)   -- region 42
        refine pu rfl pv_mv ?_   -- t152 laws.go:654
        refine pu rfl pv_mv ?_   -- t153 laws.go:654
        refine pu rfl pv_mv ?_   -- t154 laws.go:654
        refine evd rfl (ev_call cb51 rfl (f51_ok doc z wd4 hz (.inr (by omega)) (by omega)) ?_)   -- t155 laws.go:654
        rintro _ wd5 ⟨rfl, hxd5⟩
        have Xd5 := Xd4.trans hxd5
        have hend := renderAll_end (parseBlocks doc) z
        have hlf := renderAll_lf (parseBlocks doc) z hpb10
        have hrl := (raN_len (parseBlocks doc) z (fun p hpm => by have := tl_mem _ p hpm; omega) _ (Nat.le_refl _)).1
        have hrl : (renderAll (parseBlocks doc) z).length ≤ 67108864 * (parseBlocks doc).length := hrl
        refine pu rfl (pv_neqS rfl rfl) ?_   -- t156 laws.go:654
        refine LW.nil ?_
        refine SX.cond rfl (fun hc => absurd hc (by simp)) (fun hc => ?_)   -- t156
        refine SX.skip ?_
        refine SX.seq ?_
        refine SX.seq (SX.reg ?_)   -- region 44
        refine pu rfl pv_mv ?_   -- t157 laws.go:657
        refine pu rfl (pv_len_s rfl) ?_   -- t158 laws.go:657
        refine pu rfl (pv_gtr rfl rfl) ?_   -- t159 laws.go:657
        refine pu rfl pv_mv ?_   -- t160 laws.go:657
        refine LW.sc true 6 3 160 161 167 (b := decide ((renderAll (parseBlocks doc) z).getD ((renderAll (parseBlocks doc) z).length - 1) 0 ≠ 10)) (fun w' => wd5 = w') rfl rfl rfl rfl (fun _ => rfl) rfl (fun ht => ?_) rfl (fun J w' hw' => ?_)   -- t167 := pick ['t160', 't166', "c:['false']"]
        · skip
          have h0 : 0 < (renderAll (parseBlocks doc) z).length := by simpa using ht
          refine pu rfl pv_mv ?_   -- t161 laws.go:657
          refine pu rfl pv_mv ?_   -- t162 laws.go:657
          refine pu rfl (pv_len_s rfl) ?_   -- t163 laws.go:657
          refine pu rfl (pv_sub rfl rfl (by omega)) ?_   -- t164 laws.go:657
          refine pu rfl (pv_index (k := (renderAll (parseBlocks doc) z).length - 1) rfl rfl (by omega) (by omega)) ?_   -- t165 laws.go:657
          refine pu rfl (pv_neqB (b := 10) rfl rfl) ?_   -- t166 laws.go:657
          exact LW.nil ⟨rfl, rfl⟩
        subst hw'
        refine LW.nil ?_
        refine SX.cond rfl (fun hc => absurd hc (by rcases hend with h | h; (simp [scv, h]); (rw [h]; simp [scv]))) (fun hc => ?_)   -- t167
        refine SX.skip ?_
        refine SX.seq (SX.reg ?_)   -- region 46
        refine pu rfl pv_mv ?_   -- t168 laws.go:660
        refine evd rfl (ev_call cb52 rfl (f52_ok (renderAll (parseBlocks doc) z) wd5 (by omega)) ?_)   -- t169 laws.go:660
        rintro _ _ ⟨rfl, rfl⟩
        refine pu rfl pv_mv ?_   -- t170 laws.go:660
        refine pu rfl (pv_len_s rfl) ?_   -- t171 laws.go:660
        refine pu rfl pv_mv ?_   -- t172 laws.go:660
        refine pu rfl (pv_lenV (T := tK) Yabc.underlying27 (hpb.ext (hX2.trans Xd5)) rfl) ?_   -- t173 laws.go:660
        refine pu rfl (pv_mul rfl rfl (by omega)) ?_   -- t174 laws.go:660
        refine pu rfl (pv_add rfl rfl (by omega)) ?_   -- t175 laws.go:660
        refine pu rfl (pv_add rfl rfl (by omega)) ?_   -- t176 laws.go:660
        refine pu rfl (pv_gtr rfl rfl) ?_   -- t177 laws.go:660
        refine LW.nil ?_
        refine SX.cond rfl (fun hc => absurd hc (by simp; omega)) (fun hc => ?_)   -- t177
        refine SX.skip ?_
        refine SX.reg ?_
        refine pu rfl pv_mv ?_   -- t92 laws.go:636
        refine pu rfl (pv_add rfl rfl (by omega)) ?_   -- t93 laws.go:636
        refine pu rfl pv_as ?_   -- t11 laws.go:636
        refine LW.nil ?_
        exact ⟨k + 1, ⟨rfl, rfl, rfl, rfl, rfl, rfl, rfl, trivial⟩, ⟨by omega, hxk.trans (hX2.trans Xd5)⟩, by omega⟩
    · skip
      refine SX.exit (xb_here ?_)
      refine SX.seq (SX.reg ?_)   -- region 48
      refine pu rfl pv_as ?_   -- t2 laws.go:664
      refine LW.nil ?_
      refine SX.ret ?_
      exact ⟨rfl, hXL.trans hxk⟩

end Go.Proofs.Ybuabw
