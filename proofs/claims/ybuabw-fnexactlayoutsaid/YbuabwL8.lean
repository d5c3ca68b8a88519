/-
  WALKS. The law FnExactLayout. Own work for the seat Ybuabw (the steps of each walk were typed by a program of ours off the printed code).
-/
import Derived.Test.YbuabwW3
import Derived.Test.YbuabwW5
import Derived.Test.YbuabwW9
import Derived.Test.YbuabwW10
namespace Go.Proofs.Ybuabw
open Go.RowKit
set_option linter.unusedVariables false
set_option linter.unusedSimpArgs false
set_option maxRecDepth 20000

theorem f10_ok (v : Value) (l : List Tri) (z : Int) (w : World) (hz : (Lit.int .i64 z).wf = true) (hr : Rd w tI v l) (hs : l.length ≤ 4398046511104) (hp : ∀ p ∈ l, p.s.length ≤ 140737488355328) : Fn 10 [v, iv z] w (fun v' w' => v' = .bool true ∧ Ext w w') := by
  refine Fn.mk1 (N := 97) Yabc.func10 rfl rfl rfl rfl ?_
  refine SX.seq (SX.reg ?_)   -- region 0
  refine pu rfl pv_as ?_   -- t4 laws.go:998
  refine LW.nil ?_
  refine SX.seq (SX.reg ?_)   -- region 1
  refine pu rfl pv_as ?_   -- t5 laws.go:999
  refine LW.nil ?_
  refine SX.seq (SX.reg ?_)   -- region 2
  refine pu rfl pv_mv ?_   -- t10 laws.go:1000
  refine pu rfl pv_mv ?_   -- t11 laws.go:1000
  refine pu rfl (pv_lenV (T := tI) Yabc.underlying23 hr rfl) ?_   -- t12 laws.go:1000
  refine pu rfl (pv_add rfl rfl (by omega)) ?_   -- t13 laws.go:1000
  refine pu rfl pv_as ?_   -- t5 laws.go:1000
  refine LW.nil ?_
  refine SX.seq ?_
  refine SX.seq (SX.reg ?_)   -- region 3
  refine pu rfl pv_mv ?_   -- t14 laws.go:1001
  refine pu rfl (pv_gtr rfl rfl) ?_   -- t15 laws.go:1001
  refine LW.nil ?_
  refine SX.cond rfl (fun hc => ?_) (fun hc => ?_)   -- t15
  · skip
    refine SX.seq (SX.reg ?_)   -- region 4
    refine pu rfl pv_as ?_   -- t4 laws.go:1002
    refine LW.nil ?_
    refine SX.ret ?_
    exact ⟨rfl, Ext.refl w⟩
  · skip
    have hl0 : l.length ≤ 1048576 := by simp at hc; omega
    refine SX.skip ?_
    refine SX.seq ?_
    refine SX.seq (SX.reg ?_)   -- region 5
    refine pu rfl pv_as ?_   -- t6 laws.go:1004
    refine LW.nil ?_
    refine SX.block ?_
    refine SX.loop (G := Nat) (fun k => [(0, v), (1, iv z), (5, iv (l.length + tl (l.take k) : Nat)), (6, iv k)]) (fun k w' => w = w' ∧ k ≤ l.length ∧ l.length + tl (l.take k) ≤ 1048576) (fun k => l.length - k) 0 ⟨rfl, rfl, congrArg iv (by simp [tl]), rfl, trivial⟩ ⟨rfl, Nat.zero_le _, by simp [tl]; omega⟩ ?_
    rintro k w2 ρ1 ⟨hw, hk, hsz⟩
    subst hw
    refine SX.seq ?_
    refine SX.seq (SX.reg ?_)   -- region 6
    refine pu rfl pv_mv ?_   -- t16 laws.go:1004
    refine pu rfl pv_mv ?_   -- t17 laws.go:1004
    refine pu rfl (pv_lenV (T := tI) Yabc.underlying23 hr rfl) ?_   -- t18 laws.go:1004
    refine pu rfl (pv_lss rfl rfl) ?_   -- t19 laws.go:1004
    refine LW.nil ?_
    refine SX.cond rfl (fun hc => ?_) (fun hc => ?_)   -- t19
    · skip
      have hlt : k < l.length := by simpa using hc
      have hts := tl_take l k hlt
      have hpl := hp _ (List.getElem_mem hlt)
      refine SX.skip ?_
      refine SX.seq ?_
      refine SX.block ?_
      refine SX.seq (SX.reg ?_)   -- region 8
      refine pu rfl pv_mv ?_   -- t22 laws.go:1005
      refine pu rfl pv_mv ?_   -- t23 laws.go:1005
      refine pu rfl pv_mv ?_   -- t24 laws.go:1005
      refine pu rfl (pv_ix (T := tI) (k := k) Yabc.underlying23 sz67 okI hr rfl rfl (by omega) (by omega)) ?_   -- t25 laws.go:1005
      refine pu rfl (pv_fa fb67_2 rfl) ?_   -- t26 laws.go:1005
      refine pu rfl (pv_ld ag9 rfl (hr.cellAt okI (by omega) rfl)) ?_   -- t27 laws.go:1005
      refine pu rfl (pv_len_s rfl) ?_   -- t28 laws.go:1005
      refine pu rfl (pv_add rfl rfl (by omega)) ?_   -- t29 laws.go:1005
      refine pu rfl pv_as ?_   -- t5 laws.go:1005
      refine LW.nil ?_
      refine SX.seq (SX.reg ?_)   -- region 9
      refine pu rfl pv_mv ?_   -- t30 laws.go:1006
      refine pu rfl (pv_gtr rfl rfl) ?_   -- t31 laws.go:1006
      refine LW.nil ?_
      refine SX.cond rfl (fun hc => ?_) (fun hc => ?_)   -- t31
      · skip
        refine SX.seq (SX.reg ?_)   -- region 10
        refine pu rfl pv_as ?_   -- t4 laws.go:1007
        refine LW.nil ?_
        refine SX.ret ?_
        exact ⟨rfl, Ext.refl w⟩
      · skip
        have hsz2 : l.length + tl (l.take (k + 1)) ≤ 1048576 := by simp at hc; omega
        refine SX.skip ?_
        refine SX.reg ?_
        refine pu rfl pv_mv ?_   -- t20 laws.go:1004
        refine pu rfl (pv_add rfl rfl (by omega)) ?_   -- t21 laws.go:1004
        refine pu rfl pv_as ?_   -- t6 laws.go:1004
        refine LW.nil ?_
        exact ⟨k + 1, ⟨rfl, rfl, congrArg iv (by rw [hts]; simp; omega), rfl, trivial⟩, ⟨rfl, by omega, hsz2⟩, by omega⟩
    · skip
      have hge : k = l.length := by simp at hc; omega
      subst hge
      rw [List.take_length] at hsz
      refine SX.exit (xb_here ?_)
      refine SX.seq ?_
      refine SX.seq (SX.reg ?_)   -- region 11
      refine pu rfl pv_mv ?_   -- t32 laws.go:1010
      refine pu rfl (pv_gtr rfl rfl) ?_   -- t33 laws.go:1010
      refine LW.nil ?_
      refine SX.cond rfl (fun hc => absurd hc (by rw [List.take_length]; simp; omega)) (fun hc => ?_)   -- t33
      refine SX.skip ?_
      refine SX.seq ?_
      refine SX.seq (SX.reg ?_)   -- region 13
      refine pu rfl pv_mv ?_   -- t34 laws.go:1013
      refine pu rfl (pv_lenV (T := tI) Yabc.underlying23 hr rfl) ?_   -- t35 laws.go:1013
      refine pu rfl (pv_gtr rfl rfl) ?_   -- t36 laws.go:1013
      refine pu rfl pv_mv ?_   -- t37 laws.go:1013
      refine LW.sc false 3 3 37 38 41 (b := decide ((1048576 : Int) < (tl l : Int))) (fun w' => w = w') rfl rfl rfl rfl (fun _ => rfl) rfl (fun ht => ?_) rfl (fun J w' hw' => ?_)   -- t41 := pick ['t37', "c:['true']", 't40']
      · skip
        refine pu rfl pv_mv ?_   -- t38 laws.go:1013
        refine evd rfl (ev_call cb64 rfl (f64_ok v l w hr (by omega) (by omega)) ?_)   -- t39 laws.go:1013
        rintro _ _ ⟨rfl, rfl⟩
        refine pu rfl (pv_gtr rfl rfl) ?_   -- t40 laws.go:1013
        exact LW.nil ⟨rfl, rfl⟩
      subst hw'
      refine LW.nil ?_
      refine SX.cond rfl (fun hc => absurd hc (by simp [scv]; omega)) (fun hc => ?_)   -- t41
      refine SX.skip ?_
      refine SX.seq (SX.reg ?_)   -- region 15
      refine pu rfl pv_mv ?_   -- t42 laws.go:1016
      have hnl := layout_len l z   -- t43 laws.go:1016
      refine evd rfl (ev_call cb33 rfl (f33_ok v l w hr (by omega) (fun p hpm => by have := tl_mem l p hpm; omega)) ?_)
      rintro a1 w1 ⟨ho1, hx1⟩
      have hX1 := hx1
      refine pu rfl pv_mv ?_   -- t44 laws.go:1016
      refine evd rfl (ev_call cb43 rfl (f43_ok a1 l z w1 ho1.rd (by omega) (by omega)) ?_)   -- t45 laws.go:1016
      rintro sv w2 ⟨hosv, hx2⟩
      have hX2 := hX1.trans hx2
      have ho1 := ho1.ext hx2
      refine evd rfl (ev_call cb65 rfl (f65_ok sv (layout l z) w2 hosv.rd (by omega)) ?_)   -- t46 laws.go:1016
      rintro want w3 ⟨how, hx3⟩
      have hX3 := hX2.trans hx3
      have ho1 := ho1.ext hx3
      have hosv := hosv.ext hx3
      have how0 := how
      have hsz0 : w3.heap.size ≤ w3.heap.size := Nat.le_refl _
      refine pu rfl pv_as ?_   -- t7 laws.go:1016
      refine LW.nil ?_
      refine SX.seq (SX.reg ?_)   -- region 16
      refine pu rfl pv_mv ?_   -- t47 laws.go:1017
      refine evd rfl (ev_call cb33 rfl (f33_ok v l w3 (hr.ext hX3) (by omega) (fun p hpm => by have := tl_mem l p hpm; omega)) ?_)   -- t48 laws.go:1017
      rintro arg w4 ⟨hoa, hx4⟩
      have hX4 := hX3.trans hx4
      have how := how.ext hx4
      have hoa0 := hoa
      have hszA : w3.heap.size ≤ w4.heap.size := hx4.size
      refine pu rfl pv_as ?_   -- t8 laws.go:1017
      refine LW.nil ?_
      refine SX.seq (SX.reg ?_)   -- region 17
      refine pu rfl pv_mv ?_   -- t49 laws.go:1018
      refine pu rfl pv_mv ?_   -- t50 laws.go:1018
      refine evd rfl (ev_call cb42 rfl (f42_ok arg l z w4 hoa.rd (by omega) (by omega)) ?_)   -- t51 laws.go:1018
      rintro got w5 ⟨hog, hx5⟩
      have hX5 := hX4.trans hx5
      have how := how.ext hx5
      have hoa := hoa.ext hx5
      have hog0 := hog
      refine pu rfl pv_as ?_   -- t9 laws.go:1018
      refine LW.nil ?_
      refine SX.seq ?_
      refine SX.seq (SX.reg ?_)   -- region 18
      refine pu rfl pv_mv ?_   -- t52 laws.go:1019
      refine evd rfl (ev_call cb65 rfl (f65_ok got (layout l z) w5 hog.rd (by omega)) ?_)   -- t53 laws.go:1019
      rintro g1 w6 ⟨hog1, hx6⟩
      have hX6 := hX5.trans hx6
      have how := how.ext hx6
      have hoa := hoa.ext hx6
      have hog := hog.ext hx6
      refine pu rfl pv_mv ?_   -- t54 laws.go:1019
      refine evd rfl (ev_call cb66 rfl (f66_ok g1 want (layout l z) w6 hog1.rd how.rd (by omega)) ?_)   -- t55 laws.go:1019
      rintro _ w7 ⟨rfl, hx7⟩
      have hX7 := hX6.trans hx7
      have how := how.ext hx7
      have hoa := hoa.ext hx7
      have hog := hog.ext hx7
      have hog1 := hog1.ext hx7
      refine pu rfl (pv_not rfl) ?_   -- t56 laws.go:1019
      refine LW.nil ?_
      refine SX.cond_false rfl ?_   -- t56
      refine SX.skip ?_
      refine SX.seq ?_
      refine SX.seq (SX.reg ?_)   -- region 20
      refine pu rfl pv_mv ?_   -- t57 laws.go:1022
      refine evd rfl (ev_call cb61 rfl (f61_ok arg l w7 hoa.rd (by omega)) ?_)   -- t58 laws.go:1022
      rintro b1 w8 ⟨hob1, hx8⟩
      have hX8 := hX7.trans hx8
      have how := how.ext hx8
      have hoa := hoa.ext hx8
      have hog := hog.ext hx8
      refine pu rfl pv_mv ?_   -- t59 laws.go:1022
      refine evd rfl (ev_call cb61 rfl (f61_ok v l w8 (hr.ext hX8) (by omega)) ?_)   -- t60 laws.go:1022
      rintro b2 w9 ⟨hob2, hx9⟩
      have hX9 := hX8.trans hx9
      have how := how.ext hx9
      have hoa := hoa.ext hx9
      have hog := hog.ext hx9
      have hob1 := hob1.ext hx9
      refine evd rfl (ev_call cb62 rfl (f62_ok b1 b2 l w9 hob1.rd hob2.rd (by omega)) ?_)   -- t61 laws.go:1022
      rintro _ w10 ⟨rfl, hx10⟩
      have hX10 := hX9.trans hx10
      have how := how.ext hx10
      have hoa := hoa.ext hx10
      have hog := hog.ext hx10
      have hob1 := hob1.ext hx10
      have hob2 := hob2.ext hx10
      refine pu rfl (pv_not rfl) ?_   -- t62 laws.go:1022
      refine LW.nil ?_
      refine SX.cond_false rfl ?_   -- t62
      refine SX.skip ?_
      refine SX.mid (G := Unit) (fun _ => [(0, v), (1, iv z), (7, want), (8, arg), (9, got)]) (fun _ w' => Ext w10 w') ?_ ?_
      · skip
        refine SX.seq (SX.reg ?_)   -- region 22
        refine pu rfl pv_mv ?_   -- t63 laws.go:1025
        refine pu rfl (pv_lenV (T := tI) Yabc.underlying23 (hr.ext hX10) rfl) ?_   -- t64 laws.go:1025
        refine pu rfl (pv_eql rfl rfl) ?_   -- t65 laws.go:1025
        refine LW.nil ?_
        refine SX.cond rfl (fun hc => ?_) (fun hc => ?_)   -- t65
        · skip
          have hl0 : l = [] := by simpa using hc
          refine SX.seq (SX.reg ?_)   -- region 23
          refine pu rfl pv_mv ?_   -- t66 laws.go:1026
          refine evd rfl (ev_call cb42 rfl (f42_ok _ [] z w10 Rd.empty (by simp) (by simp [tl])) ?_)   -- t67 laws.go:1026
          rintro gn w11 ⟨hogn, hx11⟩
          have hX11 := hx11
          have how := how.ext hx11
          rw [show (layout [] z) = (layout l z) by rw [hl0]] at hogn
          refine evd rfl (ev_call cb65 rfl (f65_ok gn (layout l z) w11 hogn.rd (by omega)) ?_)   -- t68 laws.go:1026
          rintro gn1 w12 ⟨hogn1, hx12⟩
          have hX12 := hX11.trans hx12
          have how := how.ext hx12
          have hogn := hogn.ext hx12
          refine pu rfl pv_mv ?_   -- t69 laws.go:1026
          refine evd rfl (ev_call cb66 rfl (f66_ok gn1 want (layout l z) w12 hogn1.rd how.rd (by omega)) ?_)   -- t70 laws.go:1026
          rintro _ w13 ⟨rfl, hx13⟩
          have hX13 := hX12.trans hx13
          have how := how.ext hx13
          have hogn := hogn.ext hx13
          have hogn1 := hogn1.ext hx13
          refine pu rfl (pv_not rfl) ?_   -- t71 laws.go:1026
          refine pu rfl pv_mv ?_   -- t72 laws.go:1026
          refine LW.sc false 7 6 72 73 80 (b := false) (fun w' => Ext w10 w') rfl rfl rfl rfl (fun _ => rfl) rfl (fun ht => ?_) hX13 (fun J w' hw' => ?_)   -- t80 := pick ['t72', "c:['true']", 't79']
          · skip
            refine evd rfl (ev_bs0 sl23 fun e1 w14 he1 hx14 => ?_)   -- t73 laws.go:1026
            obtain ⟨b1', rfl⟩ := he1
            have hX14 := hX13.trans hx14
            have how := how.ext hx14
            refine pu rfl pv_mv ?_   -- t74 laws.go:1026
            refine evd rfl (ev_call cb42 rfl (f42_ok _ [] z w14 Rd.empty (by simp) (by simp [tl])) ?_)   -- t75 laws.go:1026
            rintro ge w15 ⟨hoge, hx15⟩
            have hX15 := hX14.trans hx15
            have how := how.ext hx15
            rw [show (layout [] z) = (layout l z) by rw [hl0]] at hoge
            refine evd rfl (ev_call cb65 rfl (f65_ok ge (layout l z) w15 hoge.rd (by omega)) ?_)   -- t76 laws.go:1026
            rintro ge1 w16 ⟨hoge1, hx16⟩
            have hX16 := hX15.trans hx16
            have how := how.ext hx16
            have hoge := hoge.ext hx16
            refine pu rfl pv_mv ?_   -- t77 laws.go:1026
            refine evd rfl (ev_call cb66 rfl (f66_ok ge1 want (layout l z) w16 hoge1.rd how.rd (by omega)) ?_)   -- t78 laws.go:1026
            rintro _ w17 ⟨rfl, hx17⟩
            have hX17 := hX16.trans hx17
            have how := how.ext hx17
            have hoge := hoge.ext hx17
            have hoge1 := hoge1.ext hx17
            refine pu rfl (pv_not rfl) ?_   -- t79 laws.go:1026
            exact LW.nil ⟨rfl, hX17⟩
          have hxE := hw'
          refine LW.nil ?_
          refine SX.cond_false rfl ?_   -- t80
          refine SX.skip ?_
          exact ⟨(), ⟨rfl, rfl, rfl, rfl, rfl, trivial⟩, hxE⟩
        · skip
          refine SX.skip ?_
          exact ⟨(), ⟨rfl, rfl, rfl, rfl, rfl, trivial⟩, Ext.refl w10⟩
      rintro _ w18 ρ5 hxA
      have hXA := hX10.trans hxA
      have how := how.ext hxA
      have hoa := hoa.ext hxA
      have hog := hog.ext hxA
      refine SX.seq (SX.reg ?_)   -- region 25
      refine pu rfl pv_mv ?_   -- t81 laws.go:1030
      refine evd rfl (ev_call cb63 rfl (f63_ok arg l _ w18 hoa (by omega)) ?_)   -- t82 laws.go:1030
      intro _ w19 hgA
      have hXB : Ext w w19 := hXA.step hgA (fun g e => by have := (hoa.lt g e).1; have := hX3.size; omega)
      have how : OwnR w19 _ tLF want (layout l z) := how.keep hgA (how0.sep hoa0 (Nat.le_refl _))
      have hog : OwnR w19 _ tF got (layout l z) := hog.keep hgA (hog0.sep' hoa0 (Nat.le_refl _))
      refine LW.nil ?_
      refine SX.seq ?_
      refine SX.seq (SX.reg ?_)   -- region 26
      refine pu rfl pv_mv ?_   -- t83 laws.go:1031
      refine evd rfl (ev_call cb65 rfl (f65_ok got (layout l z) w19 hog.rd (by omega)) ?_)   -- t84 laws.go:1031
      rintro g2 w20 ⟨hog2, hx20⟩
      have hX20 := hXB.trans hx20
      have how := how.ext hx20
      have hog := hog.ext hx20
      refine pu rfl pv_mv ?_   -- t85 laws.go:1031
      refine evd rfl (ev_call cb66 rfl (f66_ok g2 want (layout l z) w20 hog2.rd how.rd (by omega)) ?_)   -- t86 laws.go:1031
      rintro _ w21 ⟨rfl, hx21⟩
      have hX21 := hX20.trans hx21
      have how := how.ext hx21
      have hog := hog.ext hx21
      have hog2 := hog2.ext hx21
      refine pu rfl (pv_not rfl) ?_   -- t87 laws.go:1031
      refine LW.nil ?_
      refine SX.cond_false rfl ?_   -- t87
      refine SX.skip ?_
      refine SX.seq (SX.reg ?_)   -- region 28
      refine pu rfl pv_mv ?_   -- t88 laws.go:1034
      refine evd rfl (ev_call cb67 rfl (f67_ok got (layout l z) _ w21 hog (by omega)) ?_)   -- t89 laws.go:1034
      intro _ w22 hgG
      have hXC : Ext w w22 := hX21.step hgG (fun g e => by have := (hog.lt g e).1; have := hX4.size; omega)
      have how : OwnR w22 _ tLF want (layout l z) := how.keep hgG (how0.sep hog0 hszA)
      refine LW.nil ?_
      refine SX.seq (SX.reg ?_)   -- region 29
      refine pu rfl pv_mv ?_   -- t90 laws.go:1035
      refine evd rfl (ev_call cb33 rfl (f33_ok v l w22 (hr.ext hXC) (by omega) (fun p hpm => by have := tl_mem l p hpm; omega)) ?_)   -- t91 laws.go:1035
      rintro a3 w23 ⟨ho3, hx23⟩
      have hX23 := hXC.trans hx23
      have how := how.ext hx23
      refine pu rfl pv_mv ?_   -- t92 laws.go:1035
      refine evd rfl (ev_call cb42 rfl (f42_ok a3 l z w23 ho3.rd (by omega) (by omega)) ?_)   -- t93 laws.go:1035
      rintro got3 w24 ⟨hog3, hx24⟩
      have hX24 := hX23.trans hx24
      have how := how.ext hx24
      have ho3 := ho3.ext hx24
      refine evd rfl (ev_call cb65 rfl (f65_ok got3 (layout l z) w24 hog3.rd (by omega)) ?_)   -- t94 laws.go:1035
      rintro g3 w25 ⟨hog31, hx25⟩
      have hX25 := hX24.trans hx25
      have how := how.ext hx25
      have ho3 := ho3.ext hx25
      have hog3 := hog3.ext hx25
      refine pu rfl pv_mv ?_   -- t95 laws.go:1035
      refine evd rfl (ev_call cb66 rfl (f66_ok g3 want (layout l z) w25 hog31.rd how.rd (by omega)) ?_)   -- t96 laws.go:1035
      rintro _ w26 ⟨rfl, hx26⟩
      have hX26 := hX25.trans hx26
      have how := how.ext hx26
      have ho3 := ho3.ext hx26
      have hog3 := hog3.ext hx26
      have hog31 := hog31.ext hx26
      refine pu rfl pv_as ?_   -- t4 laws.go:1035
      refine LW.nil ?_
      refine SX.ret ?_
      exact ⟨rfl, hX26⟩

end Go.Proofs.Ybuabw
