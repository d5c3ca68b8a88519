/-
  WALKS. The law FnExactSplitLines. Own work for the seat Ybuabw (the steps of each walk were typed by a program of ours off the printed code).
-/
import Derived.Test.YbuabwW1
namespace Go.Proofs.Ybuabw
open Go.RowKit
set_option linter.unusedVariables false
set_option maxRecDepth 20000

theorem f4_ok (d : List UInt8) (w : World) : Fn 4 [S d] w (fun v w' => v = .bool true ∧ Ext w w') := by
  refine Fn.mk1 (N := 34) Yabc.func4 rfl rfl rfl rfl ?_
  refine SX.seq (SX.reg ?_)   -- region 0
  refine pu rfl pv_as ?_   -- t2 laws.go:830
  refine LW.nil ?_
  refine SX.seq ?_
  refine SX.seq (SX.reg ?_)   -- region 1
  refine pu rfl pv_mv ?_   -- t6 laws.go:831
  refine pu rfl (pv_len_s rfl) ?_   -- t7 laws.go:831
  refine pu rfl (pv_gtr rfl rfl) ?_   -- t8 laws.go:831
  refine LW.nil ?_
  refine SX.cond rfl (fun hc => ?_) (fun hc => ?_)   -- t8
  · skip
    refine SX.seq (SX.reg ?_)   -- region 2
    refine pu rfl pv_as ?_   -- t2 laws.go:832
    refine LW.nil ?_
    refine SX.ret ?_
    exact ⟨rfl, Ext.refl w⟩
  · skip
    have hs : d.length ≤ 1048576 := by simp at hc; omega
    refine SX.skip ?_
    refine SX.seq (SX.reg ?_)   -- region 3
    refine pu rfl pv_mv ?_   -- t9 laws.go:834
    refine evd rfl (ev_call cb53 rfl (f53_ok d w (by omega)) ?_)   -- t10 laws.go:834
    rintro _ w1 ⟨rfl, hx1⟩
    refine evd rfl (ev_call cb23 rfl (f23_ok d w1 (by omega)) ?_)   -- t11 laws.go:834
    rintro want w2 ⟨how, hx2⟩
    refine pu rfl pv_as ?_   -- t3(want) laws.go:834
    refine LW.nil ?_
    refine SX.seq (SX.reg ?_)   -- region 4
    refine pu rfl pv_mv ?_   -- t12 laws.go:835
    refine evd rfl (ev_call cb53 rfl (f53_ok d w2 (by omega)) ?_)   -- t13 laws.go:835
    rintro _ w3 ⟨rfl, hx3⟩
    refine pu rfl pv_as ?_   -- t4(arg) laws.go:835
    refine LW.nil ?_
    refine SX.seq (SX.reg ?_)   -- region 5
    refine pu rfl pv_mv ?_   -- t14 laws.go:836
    refine evd rfl (ev_call cb21 rfl (f21_ok d w3 (by omega)) ?_)   -- t15 laws.go:836
    rintro got w4 ⟨hog, hx4⟩
    have how4 := (how.ext hx3).ext hx4
    have hsl := splitL_len d
    refine pu rfl pv_as ?_   -- t5(got) laws.go:836
    refine LW.nil ?_
    refine SX.seq ?_
    refine SX.seq (SX.reg ?_)   -- region 6
    refine pu rfl pv_mv ?_   -- t16 laws.go:837
    refine pu rfl pv_mv ?_   -- t17 laws.go:837
    refine evd rfl (ev_call cb54 rfl (f54_ok got want _ w4 hog.rd how4.rd (by omega)) ?_)   -- t18 laws.go:837
    rintro _ w5 ⟨rfl, hx5⟩
    have how5 := how4.ext hx5
    have hog5 := hog.ext hx5
    refine pu rfl (pv_not rfl) ?_   -- t19 laws.go:837
    refine LW.nil ?_
    refine SX.cond_false rfl ?_   -- t19
    refine SX.skip ?_
    refine SX.seq ?_
    refine SX.seq (SX.reg ?_)   -- region 8
    refine pu rfl pv_mv ?_   -- t20 laws.go:840
    refine pu rfl pv_mv ?_   -- t21 laws.go:840
    refine pu rfl (pv_neqS rfl rfl) ?_   -- t22 laws.go:840
    refine LW.nil ?_
    refine SX.cond rfl (fun hc => absurd hc (by simp)) (fun hc => ?_)   -- t22
    refine SX.skip ?_
    refine SX.seq ?_
    refine SX.seq (SX.reg ?_)   -- region 10
    refine pu rfl pv_mv ?_   -- t23 laws.go:843
    refine pu rfl pv_mv ?_   -- t24 laws.go:843
    refine evd rfl (ev_call cb54 rfl (f54_ok got want _ w5 hog5.rd how5.rd (by omega)) ?_)   -- t25 laws.go:843
    rintro _ w6 ⟨rfl, hx6⟩
    have how6 := how5.ext hx6
    have hog6 := hog5.ext hx6
    refine pu rfl (pv_not rfl) ?_   -- t26 laws.go:843
    refine LW.nil ?_
    refine SX.cond_false rfl ?_   -- t26
    refine SX.skip ?_
    refine SX.seq (SX.reg ?_)   -- region 12
    refine pu rfl pv_mv ?_   -- t27 laws.go:846
    refine evd rfl (ev_call cb55 rfl (f55_ok got _ _ w6 hog6 (by omega)) ?_)   -- t28 laws.go:846
    intro _ w7 hg7
    have hx7 : Ext w w7 := Ext.step ((((((hx1.trans hx2).trans hx3).trans hx4).trans hx5).trans hx6)) hg7 (fun g e => by have h3 := ((hx1.trans hx2).trans hx3).size; have := (hog6.lt g e).1; omega)
    have how7 : OwnR w7 w1.heap.size tS want (splitL d) := how6.keep hg7 (how.sep hog hx3.size)
    refine LW.nil ?_
    refine SX.seq (SX.reg ?_)   -- region 13
    refine pu rfl pv_mv ?_   -- t29 laws.go:847
    refine evd rfl (ev_call cb53 rfl (f53_ok d w7 (by omega)) ?_)   -- t30 laws.go:847
    rintro _ w8 ⟨rfl, hx8⟩
    refine evd rfl (ev_call cb21 rfl (f21_ok d w8 (by omega)) ?_)   -- t31 laws.go:847
    rintro got2 w9 ⟨hog2, hx9⟩
    have how9 := (how7.ext hx8).ext hx9
    refine pu rfl pv_mv ?_   -- t32 laws.go:847
    refine evd rfl (ev_call cb54 rfl (f54_ok got2 want _ w9 hog2.rd how9.rd (by omega)) ?_)   -- t33 laws.go:847
    rintro _ w10 ⟨rfl, hx10⟩
    refine pu rfl pv_as ?_   -- t2 laws.go:847
    refine LW.nil ?_
    refine SX.ret ?_
    exact ⟨rfl, ((hx7.trans hx8).trans hx9).trans hx10⟩

end Go.Proofs.Ybuabw
