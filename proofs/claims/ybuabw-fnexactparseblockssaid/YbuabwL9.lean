/-
  WALKS. The law FnExactParseBlocks. Own work for the seat Ybuabw (the steps of each walk were typed by a program of ours off the printed code).
-/
import Derived.Test.YbuabwW12
import Derived.Test.YbuabwW3
namespace Go.Proofs.Ybuabw
open Go.RowKit
set_option linter.unusedVariables false
set_option linter.unusedSimpArgs false
set_option maxRecDepth 20000

theorem f6_ok (d : List UInt8) (w : World) : Fn 6 [S d] w (fun v w' => v = .bool true ∧ Ext w w') := by
  refine Fn.mk1 (N := 38) Yabc.func6 rfl rfl rfl rfl ?_
  refine SX.seq (SX.reg ?_)   -- region 0
  refine pu rfl pv_as ?_   -- t2 laws.go:871
  refine LW.nil ?_
  refine SX.seq ?_
  refine SX.seq (SX.reg ?_)   -- region 1
  refine pu rfl pv_mv ?_   -- t6 laws.go:872
  refine pu rfl (pv_len_s rfl) ?_   -- t7 laws.go:872
  refine pu rfl (pv_gtr rfl rfl) ?_   -- t8 laws.go:872
  refine LW.nil ?_
  refine SX.cond rfl (fun hc => ?_) (fun hc => ?_)   -- t8
  · skip
    refine SX.seq (SX.reg ?_)   -- region 2
    refine pu rfl pv_as ?_   -- t2 laws.go:873
    refine LW.nil ?_
    refine SX.ret ?_
    exact ⟨rfl, Ext.refl w⟩
  · skip
    have hs : d.length ≤ 1048576 := by simp at hc; omega
    refine SX.skip ?_
    refine SX.seq (SX.reg ?_)   -- region 3
    refine pu rfl pv_mv ?_   -- t9 laws.go:875
    refine evd rfl (ev_call cb53 rfl (f53_ok d w (by omega)) ?_)   -- t10 laws.go:875
    rintro _ w1 ⟨rfl, hx1⟩
    refine evd rfl (ev_call cb28 rfl (f28_ok d w1 (by omega)) ?_)   -- t11 laws.go:875
    rintro sv w2 ⟨hos, hx2, hlen, hlt⟩
    refine evd rfl (ev_call cb58 rfl (f58_ok sv (parseBlocks d) w2 hos.rd (by omega)) ?_)   -- t12 laws.go:875
    rintro want w3 ⟨how, hx3⟩
    have how3 := how
    refine pu rfl pv_as ?_   -- t3(want) laws.go:875
    refine LW.nil ?_
    refine SX.seq (SX.reg ?_)   -- region 4
    refine pu rfl pv_mv ?_   -- t13 laws.go:876
    refine evd rfl (ev_call cb53 rfl (f53_ok d w3 (by omega)) ?_)   -- t14 laws.go:876
    rintro _ w4 ⟨rfl, hx4⟩
    refine pu rfl pv_as ?_   -- t4(arg) laws.go:876
    refine LW.nil ?_
    refine SX.seq (SX.reg ?_)   -- region 5
    refine pu rfl pv_mv ?_   -- t15 laws.go:877
    refine evd rfl (ev_call cb26 rfl (f26_ok d w4 (by omega)) ?_)   -- t16 laws.go:877
    rintro got w5 ⟨hog, hx5, hlen, hlt⟩
    have how := (how.ext hx4).ext hx5
    refine pu rfl pv_as ?_   -- t5(got) laws.go:877
    refine LW.nil ?_
    refine SX.seq ?_
    refine SX.seq (SX.reg ?_)   -- region 6
    refine pu rfl pv_mv ?_   -- t17 laws.go:878
    refine evd rfl (ev_call cb58 rfl (f58_ok got (parseBlocks d) w5 hog.rd (by omega)) ?_)   -- t18 laws.go:878
    rintro g1 w6 ⟨hog1, hx6⟩
    have how := how.ext hx6
    have hog := hog.ext hx6
    refine pu rfl pv_mv ?_   -- t19 laws.go:878
    refine evd rfl (ev_call cb59 rfl (f59_ok g1 want (parseBlocks d) w6 hog1.rd how.rd (by omega)) ?_)   -- t20 laws.go:878
    rintro _ w7 ⟨rfl, hx7⟩
    have how := how.ext hx7
    have hog := hog.ext hx7
    refine pu rfl (pv_not rfl) ?_   -- t21 laws.go:878
    refine LW.nil ?_
    refine SX.cond_false rfl ?_   -- t21
    refine SX.skip ?_
    refine SX.seq ?_
    refine SX.seq (SX.reg ?_)   -- region 8
    refine pu rfl pv_mv ?_   -- t22 laws.go:881
    refine pu rfl pv_mv ?_   -- t23 laws.go:881
    refine pu rfl (pv_neqS rfl rfl) ?_   -- t24 laws.go:881
    refine LW.nil ?_
    refine SX.cond rfl (fun hc => absurd hc (by simp)) (fun hc => ?_)   -- t24
    refine SX.skip ?_
    refine SX.seq ?_
    refine SX.seq (SX.reg ?_)   -- region 10
    refine pu rfl pv_mv ?_   -- t25 laws.go:884
    refine evd rfl (ev_call cb58 rfl (f58_ok got (parseBlocks d) w7 hog.rd (by omega)) ?_)   -- t26 laws.go:884
    rintro g2 w8 ⟨hog2, hx8⟩
    have how := how.ext hx8
    have hog := hog.ext hx8
    refine pu rfl pv_mv ?_   -- t27 laws.go:884
    refine evd rfl (ev_call cb59 rfl (f59_ok g2 want (parseBlocks d) w8 hog2.rd how.rd (by omega)) ?_)   -- t28 laws.go:884
    rintro _ w9 ⟨rfl, hx9⟩
    have how := how.ext hx9
    have hog := hog.ext hx9
    refine pu rfl (pv_not rfl) ?_   -- t29 laws.go:884
    refine LW.nil ?_
    refine SX.cond_false rfl ?_   -- t29
    refine SX.skip ?_
    refine SX.seq (SX.reg ?_)   -- region 12
    refine pu rfl pv_mv ?_   -- t30 laws.go:887
    refine evd rfl (ev_call cb60 rfl (f60_ok got (parseBlocks d) _ w9 hog.own (by omega)) ?_)   -- t31 laws.go:887
    intro _ w10 hg10
    have hX9 : Ext w w9 := (((((((hx1.trans hx2).trans hx3).trans hx4).trans hx5).trans hx6).trans hx7).trans hx8).trans hx9
    have hX10 : Ext w w10 := hX9.step hg10 (fun g e => by have := (hog.lt g e).1; have := (((hx1.trans hx2).trans hx3).trans hx4).size; omega)
    have how : OwnR w10 w2.heap.size tLK want (parseBlocks d) := how.keep hg10 (how3.sep hog.own hx4.size)
    refine LW.nil ?_
    refine SX.seq (SX.reg ?_)   -- region 13
    refine pu rfl pv_mv ?_   -- t32 laws.go:888
    refine evd rfl (ev_call cb53 rfl (f53_ok d w10 (by omega)) ?_)   -- t33 laws.go:888
    rintro _ w11 ⟨rfl, hx11⟩
    refine evd rfl (ev_call cb26 rfl (f26_ok d w11 (by omega)) ?_)   -- t34 laws.go:888
    rintro got2 w12 ⟨hog3, hx12, hlen, hlt⟩
    refine evd rfl (ev_call cb58 rfl (f58_ok got2 (parseBlocks d) w12 hog3.rd (by omega)) ?_)   -- t35 laws.go:888
    rintro g3 w13 ⟨hog4, hx13⟩
    have how := ((how.ext hx11).ext hx12).ext hx13
    refine pu rfl pv_mv ?_   -- t36 laws.go:888
    refine evd rfl (ev_call cb59 rfl (f59_ok g3 want (parseBlocks d) w13 hog4.rd how.rd (by omega)) ?_)   -- t37 laws.go:888
    rintro _ w14 ⟨rfl, hx14⟩
    refine pu rfl pv_as ?_   -- t2 laws.go:888
    refine LW.nil ?_
    refine SX.ret ?_
    exact ⟨rfl, (((hX10.trans hx11).trans hx12).trans hx13).trans hx14⟩

end Go.Proofs.Ybuabw
