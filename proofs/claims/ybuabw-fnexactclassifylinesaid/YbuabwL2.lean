/-
  WALKS. The law FnExactClassifyLine. Own work for the seat Ybuabw (the steps of each walk were typed by a program of ours off the printed code).
-/
import Derived.Test.YbuabwW2
namespace Go.Proofs.Ybuabw
open Go.RowKit
set_option linter.unusedVariables false
set_option linter.unusedSimpArgs false
set_option maxRecDepth 20000

theorem f5_ok (d : List UInt8) (w : World) : Fn 5 [S d] w (fun v w' => v = .bool true ∧ Ext w w') := by
  refine Fn.mk1 (N := 35) Yabc.func5 rfl rfl rfl rfl ?_
  refine SX.seq (SX.reg ?_)   -- region 0
  refine pu rfl pv_as ?_   -- t2 laws.go:851
  refine LW.nil ?_
  refine SX.seq ?_
  refine SX.seq (SX.reg ?_)   -- region 1
  refine pu rfl pv_mv ?_   -- t6 laws.go:852
  refine pu rfl (pv_len_s rfl) ?_   -- t7 laws.go:852
  refine pu rfl (pv_gtr rfl rfl) ?_   -- t8 laws.go:852
  refine LW.nil ?_
  refine SX.cond rfl (fun hc => ?_) (fun hc => ?_)   -- t8
  · skip
    refine SX.seq (SX.reg ?_)   -- region 2
    refine pu rfl pv_as ?_   -- t2 laws.go:853
    refine LW.nil ?_
    refine SX.ret ?_
    exact ⟨rfl, Ext.refl w⟩
  · skip
    have hs : d.length ≤ 1048576 := by simp at hc; omega
    refine SX.skip ?_
    refine SX.seq (SX.reg ?_)   -- region 3
    refine pu rfl pv_mv ?_   -- t9 laws.go:855
    refine evd rfl (ev_call cb53 rfl (f53_ok d w (by omega)) ?_)   -- t10 laws.go:855
    rintro _ w1 ⟨rfl, hx1⟩
    refine evd rfl (ev_call cb25 rfl (f25_ok d w1 (by omega)) ?_)   -- t11 laws.go:855
    rintro _ w2 ⟨rfl, hx2⟩
    refine evd rfl (ev_call cb56 rfl (f56_ok (classify d) w2) ?_)   -- t12 laws.go:855
    rintro _ w3 ⟨rfl, hx3⟩
    refine evd rfl (ev_al3 if55 fun w4 hn4 => ?_)   -- t3(want) laws.go:855
    refine evn (ev_stB hn4.blk rfl rfl sz55 rfl (encT_one (classify d)) fun w5 hbw hg5 hz5 => ?_)   --  laws.go:855
    have hX5 : Ext w w5 := (((hx1.trans hx2).trans hx3).trans hn4.ext).step hg5 (fun g e => by cases e; exact ((hx1.trans hx2).trans hx3).size)
    refine LW.nil ?_
    refine SX.seq (SX.reg ?_)   -- region 4
    refine pu rfl pv_mv ?_   -- t13 laws.go:856
    refine evd rfl (ev_call cb53 rfl (f53_ok d w5 (by omega)) ?_)   -- t14 laws.go:856
    rintro _ w6 ⟨rfl, hx6⟩
    refine pu rfl pv_as ?_   -- t4(arg) laws.go:856
    refine LW.nil ?_
    refine SX.seq (SX.reg ?_)   -- region 5
    refine pu rfl pv_mv ?_   -- t15 laws.go:857
    refine evd rfl (ev_call cb24 rfl (f24_ok d w6 (by omega)) ?_)   -- t16 laws.go:857
    rintro _ w7 ⟨rfl, hx7⟩
    refine evd rfl (ev_call cb56 rfl (f56_ok (classify d) w7) ?_)   -- t17 laws.go:857
    rintro _ w8 ⟨rfl, hx8⟩
    refine evd rfl (ev_al3 if55 fun w9 hn9 => ?_)   -- t5(got) laws.go:857
    refine evn (ev_stB hn9.blk rfl rfl sz55 rfl (encT_one (classify d)) fun w10 hbg hg10 hz10 => ?_)   --  laws.go:857
    have hX9 : Ext w w9 := (((hX5.trans hx6).trans hx7).trans hx8).trans hn9.ext
    have hX10 : Ext w w10 := hX9.step hg10 (fun g e => by cases e; exact (((hX5.trans hx6).trans hx7).trans hx8).size)
    have hbw9 := ((((hbw.ext hx6).ext hx7).ext hx8).ext hn9.ext)
    have hbw := hbw9.keep hg10 (fun e => by have h1 := Option.some.inj e; have := (((hbw.ext hx6).ext hx7).ext hx8).lt; omega)
    refine LW.nil ?_
    refine SX.seq ?_
    refine SX.seq (SX.reg ?_)   -- region 6
    refine pu rfl (pv_ldB ag55 hbg sz55 rfl) ?_   -- t18 laws.go:858
    refine pu rfl (pv_ldB ag55 hbw sz55 rfl) ?_   -- t19 laws.go:858
    refine evd rfl (ev_call cb57 rfl (f57_ok (classify d) w10) ?_)   -- t20 laws.go:858
    rintro _ w11 ⟨rfl, hx11⟩
    have hbw := hbw.ext hx11
    have hbg := hbg.ext hx11
    refine pu rfl (pv_not rfl) ?_   -- t21 laws.go:858
    refine LW.nil ?_
    refine SX.cond_false rfl ?_   -- t21
    refine SX.skip ?_
    refine SX.seq ?_
    refine SX.seq (SX.reg ?_)   -- region 8
    refine pu rfl pv_mv ?_   -- t22 laws.go:861
    refine pu rfl pv_mv ?_   -- t23 laws.go:861
    refine pu rfl (pv_neqS rfl rfl) ?_   -- t24 laws.go:861
    refine LW.nil ?_
    refine SX.cond rfl (fun hc => absurd hc (by simp)) (fun hc => ?_)   -- t24
    refine SX.skip ?_
    refine SX.seq ?_
    refine SX.seq (SX.reg ?_)   -- region 10
    refine pu rfl (pv_ldB ag55 hbg sz55 rfl) ?_   -- t25 laws.go:864
    refine pu rfl (pv_ldB ag55 hbw sz55 rfl) ?_   -- t26 laws.go:864
    refine evd rfl (ev_call cb57 rfl (f57_ok (classify d) w11) ?_)   -- t27 laws.go:864
    rintro _ w12 ⟨rfl, hx12⟩
    have hbw := hbw.ext hx12
    have hbg := hbg.ext hx12
    refine pu rfl (pv_not rfl) ?_   -- t28 laws.go:864
    refine LW.nil ?_
    refine SX.cond_false rfl ?_   -- t28
    refine SX.skip ?_
    refine SX.seq ?_
    refine SX.draw [(0, true), (4, true), (1, false), (2, false), (3, false), (5, false), (6, true)] (fun w' => Ext w12 w') (by kernel_rfl) (Ext.drew w12) ?_   -- region 12
    refine du rfl rfl (fun w' hw' => pv_mv) ?_   -- 0: t29 laws.go:867 
    refine du rfl rfl (fun w' hw' => pv_ldB ag55 (hbw.ext hw') sz55 rfl) ?_   -- 4: t33 laws.go:867 
    refine dev rfl rfl (ev_call cb53 rfl (f53_ok d w12.drew (by omega)) ?_)   -- 1: t30 laws.go:867 
    rintro _ w13 ⟨rfl, hx13⟩
    have hx13 := (Ext.drew w12).trans hx13
    refine ⟨hx13, ?_⟩
    refine dev rfl rfl (ev_call cb24 rfl (f24_ok d w13 (by omega)) ?_)   -- 2: t31 laws.go:867 
    rintro _ w14 ⟨rfl, hx14⟩
    refine ⟨hx13.trans hx14, ?_⟩
    refine dev rfl rfl (ev_call cb56 rfl (f56_ok (classify d) w14) ?_)   -- 3: t32 laws.go:867 
    rintro _ w15 ⟨rfl, hx15⟩
    refine ⟨(hx13.trans hx14).trans hx15, ?_⟩
    refine dev rfl rfl (ev_call cb57 rfl (f57_ok (classify d) w15) ?_)   -- 5: t34 laws.go:867 
    rintro _ w16 ⟨rfl, hx16⟩
    refine ⟨((hx13.trans hx14).trans hx15).trans hx16, ?_⟩
    refine du rfl rfl (fun w' hw' => pv_as) ?_   -- 6: t2 laws.go:867 
    refine DW.nil ?_
    refine SX.ret ?_
    exact ⟨rfl, (((((hX10.trans hx11).trans hx12).trans hx13).trans hx14).trans hx15).trans hx16⟩

end Go.Proofs.Ybuabw
