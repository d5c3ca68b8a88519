/-
  WALKS. The law FnExactRenderLines. Own work for the seat Ybuabw (the steps of each walk were typed by a program of ours off the printed code).
-/
import Derived.Test.YbuabwW3
import Derived.Test.YbuabwW7
namespace Go.Proofs.Ybuabw
open Go.RowKit
set_option linter.unusedVariables false
set_option linter.unusedSimpArgs false
set_option maxRecDepth 20000

theorem f11_ok (v : Value) (l : List Frg) (w : World) (hr : Rd w tF v l) (hs : l.length ≤ 4398046511104) (hp : ∀ p ∈ l, p.s.length ≤ 140737488355328) : Fn 11 [v] w (fun v' w' => v' = .bool true ∧ Ext w w') := by
  refine Fn.mk1 (N := 84) Yabc.func11 rfl rfl rfl rfl ?_
  refine SX.seq (SX.reg ?_)   -- region 0
  refine pu rfl pv_as ?_   -- t2 laws.go:1040
  refine LW.nil ?_
  refine SX.seq (SX.reg ?_)   -- region 1
  refine pu rfl pv_as ?_   -- t3 laws.go:1041
  refine LW.nil ?_
  refine SX.seq (SX.reg ?_)   -- region 2
  refine pu rfl pv_mv ?_   -- t8 laws.go:1042
  refine pu rfl pv_mv ?_   -- t9 laws.go:1042
  refine pu rfl (pv_lenV (T := tF) Yabc.underlying25 hr rfl) ?_   -- t10 laws.go:1042
  refine pu rfl (pv_add rfl rfl (by omega)) ?_   -- t11 laws.go:1042
  refine pu rfl pv_as ?_   -- t3 laws.go:1042
  refine LW.nil ?_
  refine SX.seq ?_
  refine SX.seq (SX.reg ?_)   -- region 3
  refine pu rfl pv_mv ?_   -- t12 laws.go:1043
  refine pu rfl (pv_gtr rfl rfl) ?_   -- t13 laws.go:1043
  refine LW.nil ?_
  refine SX.cond rfl (fun hc => ?_) (fun hc => ?_)   -- t13
  · skip
    refine SX.seq (SX.reg ?_)   -- region 4
    refine pu rfl pv_as ?_   -- t2 laws.go:1044
    refine LW.nil ?_
    refine SX.ret ?_
    exact ⟨rfl, Ext.refl w⟩
  · skip
    have hl0 : l.length ≤ 1048576 := by simp at hc; omega
    refine SX.skip ?_
    refine SX.seq ?_
    refine SX.seq (SX.reg ?_)   -- region 5
    refine pu rfl pv_as ?_   -- t4 laws.go:1046
    refine LW.nil ?_
    refine SX.block ?_
    refine SX.loop (G := Nat) (fun k => [(0, v), (3, iv (l.length + tlF (l.take k) : Nat)), (4, iv k)]) (fun k w' => w = w' ∧ k ≤ l.length ∧ l.length + tlF (l.take k) ≤ 1048576) (fun k => l.length - k) 0 ⟨rfl, congrArg iv (by simp [tlF]), rfl, trivial⟩ ⟨rfl, Nat.zero_le _, by simp [tlF]; omega⟩ ?_
    rintro k w2 ρ1 ⟨hw, hk, hsz⟩
    subst hw
    refine SX.seq ?_
    refine SX.seq (SX.reg ?_)   -- region 6
    refine pu rfl pv_mv ?_   -- t14 laws.go:1046
    refine pu rfl pv_mv ?_   -- t15 laws.go:1046
    refine pu rfl (pv_lenV (T := tF) Yabc.underlying25 hr rfl) ?_   -- t16 laws.go:1046
    refine pu rfl (pv_lss rfl rfl) ?_   -- t17 laws.go:1046
    refine LW.nil ?_
    refine SX.cond rfl (fun hc => ?_) (fun hc => ?_)   -- t17
    · skip
      have hlt : k < l.length := by simpa using hc
      have hts := tlF_take l k hlt
      have hpl := hp _ (List.getElem_mem hlt)
      refine SX.skip ?_
      refine SX.seq ?_
      refine SX.block ?_
      refine SX.seq (SX.reg ?_)   -- region 8
      refine pu rfl pv_mv ?_   -- t20 laws.go:1047
      refine pu rfl pv_mv ?_   -- t21 laws.go:1047
      refine pu rfl pv_mv ?_   -- t22 laws.go:1047
      refine pu rfl (pv_ix (T := tF) (k := k) Yabc.underlying25 sz76 okF hr rfl rfl (by omega) (by omega)) ?_   -- t23 laws.go:1047
      refine pu rfl (pv_fa fb76_3 rfl) ?_   -- t24 laws.go:1047
      refine pu rfl (pv_ld ag9 rfl (hr.cellAt okF (by omega) rfl)) ?_   -- t25 laws.go:1047
      refine pu rfl (pv_len_s rfl) ?_   -- t26 laws.go:1047
      refine pu rfl (pv_add rfl rfl (by omega)) ?_   -- t27 laws.go:1047
      refine pu rfl pv_as ?_   -- t3 laws.go:1047
      refine LW.nil ?_
      refine SX.seq (SX.reg ?_)   -- region 9
      refine pu rfl pv_mv ?_   -- t28 laws.go:1048
      refine pu rfl (pv_gtr rfl rfl) ?_   -- t29 laws.go:1048
      refine LW.nil ?_
      refine SX.cond rfl (fun hc => ?_) (fun hc => ?_)   -- t29
      · skip
        refine SX.seq (SX.reg ?_)   -- region 10
        refine pu rfl pv_as ?_   -- t2 laws.go:1049
        refine LW.nil ?_
        refine SX.ret ?_
        exact ⟨rfl, Ext.refl w⟩
      · skip
        have hsz2 : l.length + tlF (l.take (k + 1)) ≤ 1048576 := by simp at hc; omega
        refine SX.skip ?_
        refine SX.reg ?_
        refine pu rfl pv_mv ?_   -- t18 laws.go:1046
        refine pu rfl (pv_add rfl rfl (by omega)) ?_   -- t19 laws.go:1046
        refine pu rfl pv_as ?_   -- t4 laws.go:1046
        refine LW.nil ?_
        exact ⟨k + 1, ⟨rfl, congrArg iv (by rw [hts]; simp; omega), rfl, trivial⟩, ⟨rfl, by omega, hsz2⟩, by omega⟩
    · skip
      have hge : k = l.length := by simp at hc; omega
      subst hge
      rw [List.take_length] at hsz
      refine SX.exit (xb_here ?_)
      refine SX.seq ?_
      refine SX.seq (SX.reg ?_)   -- region 11
      refine pu rfl pv_mv ?_   -- t30 laws.go:1052
      refine pu rfl (pv_gtr rfl rfl) ?_   -- t31 laws.go:1052
      refine LW.nil ?_
      refine SX.cond rfl (fun hc => absurd hc (by rw [List.take_length]; simp; omega)) (fun hc => ?_)   -- t31
      refine SX.skip ?_
      refine SX.seq ?_
      refine SX.seq (SX.reg ?_)   -- region 13
      refine pu rfl pv_mv ?_   -- t32 laws.go:1055
      refine pu rfl (pv_lenV (T := tF) Yabc.underlying25 hr rfl) ?_   -- t33 laws.go:1055
      refine pu rfl (pv_gtr rfl rfl) ?_   -- t34 laws.go:1055
      refine pu rfl pv_mv ?_   -- t35 laws.go:1055
      refine LW.sc false 3 3 35 36 39 (b := decide ((1048576 : Int) < (tlF l : Int))) (fun w' => w = w') rfl rfl rfl rfl (fun _ => rfl) rfl (fun ht => ?_) rfl (fun J w' hw' => ?_)   -- t39 := pick ['t35', "c:['true']", 't38']
      · skip
        refine pu rfl pv_mv ?_   -- t36 laws.go:1055
        refine evd rfl (ev_call cb68 rfl (f68_ok v l w hr (by omega) (by omega)) ?_)   -- t37 laws.go:1055
        rintro _ _ ⟨rfl, rfl⟩
        refine pu rfl (pv_gtr rfl rfl) ?_   -- t38 laws.go:1055
        exact LW.nil ⟨rfl, rfl⟩
      subst hw'
      refine LW.nil ?_
      refine SX.cond rfl (fun hc => absurd hc (by simp [scv]; omega)) (fun hc => ?_)   -- t39
      refine SX.skip ?_
      refine SX.seq (SX.reg ?_)   -- region 15
      refine pu rfl pv_mv ?_   -- t40 laws.go:1058
      have hnl := (renderLines_len l).1   -- t41 laws.go:1058
      refine evd rfl (ev_call cb38 rfl (f38_ok v l w hr (by omega) (fun p hpm => by have := tlF_mem l p hpm; omega)) ?_)
      rintro a1 w1 ⟨ho1, hx1⟩
      have hX1 := hx1
      refine evd rfl (ev_call cb39 rfl (f39_ok a1 l w1 ho1.rd (by omega) (by omega)) ?_)   -- t42 laws.go:1058
      rintro sv w2 ⟨hosv, hx2⟩
      have hX2 := hX1.trans hx2
      have ho1 := ho1.ext hx2
      have how := hosv
      clear hosv
      have how0 := how
      have hsz0 : w2.heap.size ≤ w2.heap.size := Nat.le_refl _
      refine pu rfl pv_as ?_   -- t5 laws.go:1058
      refine LW.nil ?_
      refine SX.seq (SX.reg ?_)   -- region 16
      refine pu rfl pv_mv ?_   -- t43 laws.go:1059
      refine evd rfl (ev_call cb38 rfl (f38_ok v l w2 (hr.ext hX2) (by omega) (fun p hpm => by have := tlF_mem l p hpm; omega)) ?_)   -- t44 laws.go:1059
      rintro arg w3 ⟨hoa, hx3⟩
      have hX3 := hX2.trans hx3
      have how := how.ext hx3
      have hoa0 := hoa
      have hszA : w2.heap.size ≤ w3.heap.size := hx3.size
      refine pu rfl pv_as ?_   -- t6 laws.go:1059
      refine LW.nil ?_
      refine SX.seq (SX.reg ?_)   -- region 17
      refine pu rfl pv_mv ?_   -- t45 laws.go:1060
      refine evd rfl (ev_call cb37 rfl (f37_ok arg l w3 hoa.rd (by omega) (by omega)) ?_)   -- t46 laws.go:1060
      rintro got w4 ⟨hog, hx4⟩
      have hX4 := hX3.trans hx4
      have how := how.ext hx4
      have hoa := hoa.ext hx4
      have hog0 := hog
      refine pu rfl pv_as ?_   -- t7 laws.go:1060
      refine LW.nil ?_
      refine SX.seq ?_
      refine SX.seq (SX.reg ?_)   -- region 18
      refine pu rfl pv_mv ?_   -- t47 laws.go:1061
      refine pu rfl pv_mv ?_   -- t48 laws.go:1061
      refine evd rfl (ev_call cb54 rfl (f54_ok got sv (renderLines l) w4 hog.rd how.rd (by omega)) ?_)   -- t49 laws.go:1061
      rintro _ w5 ⟨rfl, hx5⟩
      have hX5 := hX4.trans hx5
      have how := how.ext hx5
      have hoa := hoa.ext hx5
      have hog := hog.ext hx5
      refine pu rfl (pv_not rfl) ?_   -- t50 laws.go:1061
      refine LW.nil ?_
      refine SX.cond_false rfl ?_   -- t50
      refine SX.skip ?_
      refine SX.seq ?_
      refine SX.seq (SX.reg ?_)   -- region 20
      refine pu rfl pv_mv ?_   -- t51 laws.go:1064
      refine evd rfl (ev_call cb65 rfl (f65_ok arg l w5 hoa.rd (by omega)) ?_)   -- t52 laws.go:1064
      rintro b1 w6 ⟨hob1, hx6⟩
      have hX6 := hX5.trans hx6
      have how := how.ext hx6
      have hoa := hoa.ext hx6
      have hog := hog.ext hx6
      refine pu rfl pv_mv ?_   -- t53 laws.go:1064
      refine evd rfl (ev_call cb65 rfl (f65_ok v l w6 (hr.ext hX6) (by omega)) ?_)   -- t54 laws.go:1064
      rintro b2 w7 ⟨hob2, hx7⟩
      have hX7 := hX6.trans hx7
      have how := how.ext hx7
      have hoa := hoa.ext hx7
      have hog := hog.ext hx7
      have hob1 := hob1.ext hx7
      refine evd rfl (ev_call cb66 rfl (f66_ok b1 b2 l w7 hob1.rd hob2.rd (by omega)) ?_)   -- t55 laws.go:1064
      rintro _ w8 ⟨rfl, hx8⟩
      have hX8 := hX7.trans hx8
      have how := how.ext hx8
      have hoa := hoa.ext hx8
      have hog := hog.ext hx8
      have hob1 := hob1.ext hx8
      have hob2 := hob2.ext hx8
      refine pu rfl (pv_not rfl) ?_   -- t56 laws.go:1064
      refine LW.nil ?_
      refine SX.cond_false rfl ?_   -- t56
      refine SX.skip ?_
      refine SX.mid (G := Unit) (fun _ => [(0, v), (5, sv), (6, arg), (7, got)]) (fun _ w' => Ext w8 w') ?_ ?_
      · skip
        refine SX.seq (SX.reg ?_)   -- region 22
        refine pu rfl pv_mv ?_   -- t57 laws.go:1067
        refine pu rfl (pv_lenV (T := tF) Yabc.underlying25 (hr.ext hX8) rfl) ?_   -- t58 laws.go:1067
        refine pu rfl (pv_eql rfl rfl) ?_   -- t59 laws.go:1067
        refine LW.nil ?_
        refine SX.cond rfl (fun hc => ?_) (fun hc => ?_)   -- t59
        · skip
          have hl0 : l = [] := by simpa using hc
          refine SX.seq (SX.reg ?_)   -- region 23
          refine evd rfl (ev_call cb37 rfl (f37_ok _ [] w8 Rd.empty (by simp) (by simp [tlF])) ?_)   -- t60 laws.go:1068
          rintro gn w9 ⟨hogn, hx9⟩
          have hX9 := hx9
          have how := how.ext hx9
          rw [show (renderLines []) = (renderLines l) by rw [hl0]] at hogn
          refine pu rfl pv_mv ?_   -- t61 laws.go:1068
          refine evd rfl (ev_call cb54 rfl (f54_ok gn sv (renderLines l) w9 hogn.rd how.rd (by omega)) ?_)   -- t62 laws.go:1068
          rintro _ w10 ⟨rfl, hx10⟩
          have hX10 := hX9.trans hx10
          have how := how.ext hx10
          have hogn := hogn.ext hx10
          refine pu rfl (pv_not rfl) ?_   -- t63 laws.go:1068
          refine pu rfl pv_mv ?_   -- t64 laws.go:1068
          refine LW.sc false 5 4 64 65 70 (b := false) (fun w' => Ext w8 w') rfl rfl rfl rfl (fun _ => rfl) rfl (fun ht => ?_) hX10 (fun J w' hw' => ?_)   -- t70 := pick ['t64', "c:['true']", 't69']
          · skip
            refine evd rfl (ev_bs0 sl25 fun e1 w11 he1 hx11 => ?_)   -- t65 laws.go:1068
            obtain ⟨b1', rfl⟩ := he1
            have hX11 := hX10.trans hx11
            have how := how.ext hx11
            refine evd rfl (ev_call cb37 rfl (f37_ok _ [] w11 Rd.empty (by simp) (by simp [tlF])) ?_)   -- t66 laws.go:1068
            rintro ge w12 ⟨hoge, hx12⟩
            have hX12 := hX11.trans hx12
            have how := how.ext hx12
            rw [show (renderLines []) = (renderLines l) by rw [hl0]] at hoge
            refine pu rfl pv_mv ?_   -- t67 laws.go:1068
            refine evd rfl (ev_call cb54 rfl (f54_ok ge sv (renderLines l) w12 hoge.rd how.rd (by omega)) ?_)   -- t68 laws.go:1068
            rintro _ w13 ⟨rfl, hx13⟩
            have hX13 := hX12.trans hx13
            have how := how.ext hx13
            have hoge := hoge.ext hx13
            refine pu rfl (pv_not rfl) ?_   -- t69 laws.go:1068
            exact LW.nil ⟨rfl, hX13⟩
          have hxE := hw'
          refine LW.nil ?_
          refine SX.cond_false rfl ?_   -- t70
          refine SX.skip ?_
          exact ⟨(), ⟨rfl, rfl, rfl, rfl, trivial⟩, hxE⟩
        · skip
          refine SX.skip ?_
          exact ⟨(), ⟨rfl, rfl, rfl, rfl, trivial⟩, Ext.refl w8⟩
      rintro _ w14 ρ5 hxA
      have hXA := hX8.trans hxA
      have how := how.ext hxA
      have hoa := hoa.ext hxA
      have hog := hog.ext hxA
      refine SX.seq (SX.reg ?_)   -- region 25
      refine pu rfl pv_mv ?_   -- t71 laws.go:1072
      refine evd rfl (ev_call cb67 rfl (f67_ok arg l _ w14 hoa (by omega)) ?_)   -- t72 laws.go:1072
      intro _ w15 hgA
      have hXB : Ext w w15 := hXA.step hgA (fun g e => by have := (hoa.lt g e).1; have := hX2.size; omega)
      have how : OwnR w15 _ tS sv (renderLines l) := how.keep hgA (how0.sep hoa0 (Nat.le_refl _))
      have hog : OwnR w15 _ tS got (renderLines l) := hog.keep hgA (hog0.sep' hoa0 (Nat.le_refl _))
      refine LW.nil ?_
      refine SX.seq ?_
      refine SX.seq (SX.reg ?_)   -- region 26
      refine pu rfl pv_mv ?_   -- t73 laws.go:1073
      refine pu rfl pv_mv ?_   -- t74 laws.go:1073
      refine evd rfl (ev_call cb54 rfl (f54_ok got sv (renderLines l) w15 hog.rd how.rd (by omega)) ?_)   -- t75 laws.go:1073
      rintro _ w16 ⟨rfl, hx16⟩
      have hX16 := hXB.trans hx16
      have how := how.ext hx16
      have hog := hog.ext hx16
      refine pu rfl (pv_not rfl) ?_   -- t76 laws.go:1073
      refine LW.nil ?_
      refine SX.cond_false rfl ?_   -- t76
      refine SX.skip ?_
      refine SX.seq (SX.reg ?_)   -- region 28
      refine pu rfl pv_mv ?_   -- t77 laws.go:1076
      refine evd rfl (ev_call cb55 rfl (f55_ok got (renderLines l) _ w16 hog (by omega)) ?_)   -- t78 laws.go:1076
      intro _ w17 hgG
      have hXC : Ext w w17 := hX16.step hgG (fun g e => by have := (hog.lt g e).1; have := hX3.size; omega)
      have how : OwnR w17 _ tS sv (renderLines l) := how.keep hgG (how0.sep hog0 hszA)
      refine LW.nil ?_
      refine SX.seq (SX.reg ?_)   -- region 29
      refine pu rfl pv_mv ?_   -- t79 laws.go:1077
      refine evd rfl (ev_call cb38 rfl (f38_ok v l w17 (hr.ext hXC) (by omega) (fun p hpm => by have := tlF_mem l p hpm; omega)) ?_)   -- t80 laws.go:1077
      rintro a3 w18 ⟨ho3, hx18⟩
      have hX18 := hXC.trans hx18
      have how := how.ext hx18
      refine evd rfl (ev_call cb37 rfl (f37_ok a3 l w18 ho3.rd (by omega) (by omega)) ?_)   -- t81 laws.go:1077
      rintro got3 w19 ⟨hog3, hx19⟩
      have hX19 := hX18.trans hx19
      have how := how.ext hx19
      have ho3 := ho3.ext hx19
      refine pu rfl pv_mv ?_   -- t82 laws.go:1077
      refine evd rfl (ev_call cb54 rfl (f54_ok got3 sv (renderLines l) w19 hog3.rd how.rd (by omega)) ?_)   -- t83 laws.go:1077
      rintro _ w20 ⟨rfl, hx20⟩
      have hX20 := hX19.trans hx20
      have how := how.ext hx20
      have ho3 := ho3.ext hx20
      have hog3 := hog3.ext hx20
      refine pu rfl pv_as ?_   -- t2 laws.go:1077
      refine LW.nil ?_
      refine SX.ret ?_
      exact ⟨rfl, hX20⟩

end Go.Proofs.Ybuabw
