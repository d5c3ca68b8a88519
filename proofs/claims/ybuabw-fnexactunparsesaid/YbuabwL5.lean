/-
  WALKS. The law FnExactUnparse. Own work for the seat Ybuabw (the steps of each walk were typed by a program of ours off the printed code).
-/
import Derived.Test.YbuabwW3
import Derived.Test.YbuabwW5
namespace Go.Proofs.Ybuabw
open Go.RowKit
set_option linter.unusedVariables false
set_option linter.unusedSimpArgs false
set_option maxRecDepth 20000

theorem f8_ok (v : Value) (l : List Tri) (w : World) (hr : Rd w tI v l) (hs : l.length ≤ 4398046511104) (hp : ∀ p ∈ l, p.s.length ≤ 140737488355328) : Fn 8 [v] w (fun v' w' => v' = .bool true ∧ Ext w w') := by
  refine Fn.mk1 (N := 78) Yabc.func8 rfl rfl rfl rfl ?_
  refine SX.seq (SX.reg ?_)   -- region 0
  refine pu rfl pv_as ?_   -- t2 laws.go:915
  refine LW.nil ?_
  refine SX.seq (SX.reg ?_)   -- region 1
  refine pu rfl pv_as ?_   -- t3 laws.go:916
  refine LW.nil ?_
  refine SX.seq (SX.reg ?_)   -- region 2
  refine pu rfl pv_mv ?_   -- t8 laws.go:917
  refine pu rfl pv_mv ?_   -- t9 laws.go:917
  refine pu rfl (pv_lenV (T := tI) Yabc.underlying23 hr rfl) ?_   -- t10 laws.go:917
  refine pu rfl (pv_add rfl rfl (by omega)) ?_   -- t11 laws.go:917
  refine pu rfl pv_as ?_   -- t3 laws.go:917
  refine LW.nil ?_
  refine SX.seq ?_
  refine SX.seq (SX.reg ?_)   -- region 3
  refine pu rfl pv_mv ?_   -- t12 laws.go:918
  refine pu rfl (pv_gtr rfl rfl) ?_   -- t13 laws.go:918
  refine LW.nil ?_
  refine SX.cond rfl (fun hc => ?_) (fun hc => ?_)   -- t13
  · skip
    refine SX.seq (SX.reg ?_)   -- region 4
    refine pu rfl pv_as ?_   -- t2 laws.go:919
    refine LW.nil ?_
    refine SX.ret ?_
    exact ⟨rfl, Ext.refl w⟩
  · skip
    have hl0 : l.length ≤ 1048576 := by simp at hc; omega
    refine SX.skip ?_
    refine SX.seq ?_
    refine SX.seq (SX.reg ?_)   -- region 5
    refine pu rfl pv_as ?_   -- t4 laws.go:921
    refine LW.nil ?_
    refine SX.block ?_
    refine SX.loop (G := Nat) (fun k => [(0, v), (3, iv (l.length + tl (l.take k) : Nat)), (4, iv k)]) (fun k w' => w = w' ∧ k ≤ l.length ∧ l.length + tl (l.take k) ≤ 1048576) (fun k => l.length - k) 0 ⟨rfl, congrArg iv (by simp [tl]), rfl, trivial⟩ ⟨rfl, Nat.zero_le _, by simp [tl]; omega⟩ ?_
    rintro k w2 ρ1 ⟨hw, hk, hsz⟩
    subst hw
    refine SX.seq ?_
    refine SX.seq (SX.reg ?_)   -- region 6
    refine pu rfl pv_mv ?_   -- t14 laws.go:921
    refine pu rfl pv_mv ?_   -- t15 laws.go:921
    refine pu rfl (pv_lenV (T := tI) Yabc.underlying23 hr rfl) ?_   -- t16 laws.go:921
    refine pu rfl (pv_lss rfl rfl) ?_   -- t17 laws.go:921
    refine LW.nil ?_
    refine SX.cond rfl (fun hc => ?_) (fun hc => ?_)   -- t17
    · skip
      have hlt : k < l.length := by simpa using hc
      have hts := tl_take l k hlt
      have hpl := hp _ (List.getElem_mem hlt)
      refine SX.skip ?_
      refine SX.seq ?_
      refine SX.block ?_
      refine SX.seq (SX.reg ?_)   -- region 8
      refine pu rfl pv_mv ?_   -- t20 laws.go:922
      refine pu rfl pv_mv ?_   -- t21 laws.go:922
      refine pu rfl pv_mv ?_   -- t22 laws.go:922
      refine pu rfl (pv_ix (T := tI) (k := k) Yabc.underlying23 sz67 okI hr rfl rfl (by omega) (by omega)) ?_   -- t23 laws.go:922
      refine pu rfl (pv_fa fb67_2 rfl) ?_   -- t24 laws.go:922
      refine pu rfl (pv_ld ag9 rfl (hr.cellAt okI (by omega) rfl)) ?_   -- t25 laws.go:922
      refine pu rfl (pv_len_s rfl) ?_   -- t26 laws.go:922
      refine pu rfl (pv_add rfl rfl (by omega)) ?_   -- t27 laws.go:922
      refine pu rfl pv_as ?_   -- t3 laws.go:922
      refine LW.nil ?_
      refine SX.seq (SX.reg ?_)   -- region 9
      refine pu rfl pv_mv ?_   -- t28 laws.go:923
      refine pu rfl (pv_gtr rfl rfl) ?_   -- t29 laws.go:923
      refine LW.nil ?_
      refine SX.cond rfl (fun hc => ?_) (fun hc => ?_)   -- t29
      · skip
        refine SX.seq (SX.reg ?_)   -- region 10
        refine pu rfl pv_as ?_   -- t2 laws.go:924
        refine LW.nil ?_
        refine SX.ret ?_
        exact ⟨rfl, Ext.refl w⟩
      · skip
        have hsz2 : l.length + tl (l.take (k + 1)) ≤ 1048576 := by simp at hc; omega
        refine SX.skip ?_
        refine SX.reg ?_
        refine pu rfl pv_mv ?_   -- t18 laws.go:921
        refine pu rfl (pv_add rfl rfl (by omega)) ?_   -- t19 laws.go:921
        refine pu rfl pv_as ?_   -- t4 laws.go:921
        refine LW.nil ?_
        exact ⟨k + 1, ⟨rfl, congrArg iv (by rw [hts]; simp; omega), rfl, trivial⟩, ⟨rfl, by omega, hsz2⟩, by omega⟩
    · skip
      have hge : k = l.length := by simp at hc; omega
      subst hge
      rw [List.take_length] at hsz
      refine SX.exit (xb_here ?_)
      refine SX.seq ?_
      refine SX.seq (SX.reg ?_)   -- region 11
      refine pu rfl pv_mv ?_   -- t30 laws.go:927
      refine pu rfl (pv_gtr rfl rfl) ?_   -- t31 laws.go:927
      refine LW.nil ?_
      refine SX.cond rfl (fun hc => absurd hc (by rw [List.take_length]; simp; omega)) (fun hc => ?_)   -- t31
      refine SX.skip ?_
      refine SX.seq ?_
      refine SX.seq (SX.reg ?_)   -- region 13
      refine pu rfl pv_mv ?_   -- t32 laws.go:930
      refine pu rfl (pv_lenV (T := tI) Yabc.underlying23 hr rfl) ?_   -- t33 laws.go:930
      refine pu rfl (pv_gtr rfl rfl) ?_   -- t34 laws.go:930
      refine pu rfl pv_mv ?_   -- t35 laws.go:930
      refine LW.sc false 3 3 35 36 39 (b := decide ((1048576 : Int) < (tl l : Int))) (fun w' => w = w') rfl rfl rfl rfl (fun _ => rfl) rfl (fun ht => ?_) rfl (fun J w' hw' => ?_)   -- t39 := pick ['t35', "c:['true']", 't38']
      · skip
        refine pu rfl pv_mv ?_   -- t36 laws.go:930
        refine evd rfl (ev_call cb64 rfl (f64_ok v l w hr (by omega) (by omega)) ?_)   -- t37 laws.go:930
        rintro _ _ ⟨rfl, rfl⟩
        refine pu rfl (pv_gtr rfl rfl) ?_   -- t38 laws.go:930
        exact LW.nil ⟨rfl, rfl⟩
      subst hw'
      refine LW.nil ?_
      refine SX.cond rfl (fun hc => absurd hc (by simp [scv]; omega)) (fun hc => ?_)   -- t39
      refine SX.skip ?_
      refine SX.seq (SX.reg ?_)   -- region 15
      refine pu rfl pv_mv ?_   -- t40 laws.go:933
      refine evd rfl (ev_call cb33 rfl (f33_ok v l w hr (by omega) (fun p hpm => by have := tl_mem l p hpm; omega)) ?_)   -- t41 laws.go:933
      rintro a1 w1 ⟨ho1, hx1⟩
      refine evd rfl (ev_call cb34 rfl (f34_ok a1 l w1 ho1.rd (by omega) (by omega)) ?_)   -- t42 laws.go:933
      rintro _ w2 ⟨rfl, hx2⟩
      have hX2 := hx1.trans hx2
      refine pu rfl pv_as ?_   -- t5 laws.go:933
      refine LW.nil ?_
      refine SX.seq (SX.reg ?_)   -- region 16
      refine pu rfl pv_mv ?_   -- t43 laws.go:934
      refine evd rfl (ev_call cb33 rfl (f33_ok v l w2 (hr.ext hX2) (by omega) (fun p hpm => by have := tl_mem l p hpm; omega)) ?_)   -- t44 laws.go:934
      rintro arg w3 ⟨hoa, hx3⟩
      refine pu rfl pv_as ?_   -- t6 laws.go:934
      refine LW.nil ?_
      refine SX.seq (SX.reg ?_)   -- region 17
      refine pu rfl pv_mv ?_   -- t45 laws.go:935
      refine evd rfl (ev_call cb32 rfl (f32_ok arg l w3 hoa.rd (by omega) (by omega)) ?_)   -- t46 laws.go:935
      rintro _ w4 ⟨rfl, hx4⟩
      have hX4 := (hX2.trans hx3).trans hx4
      have hoa4 := hoa.ext hx4
      refine pu rfl pv_as ?_   -- t7 laws.go:935
      refine LW.nil ?_
      refine SX.seq ?_
      refine SX.seq (SX.reg ?_)   -- region 18
      refine pu rfl pv_mv ?_   -- t47 laws.go:936
      refine pu rfl pv_mv ?_   -- t48 laws.go:936
      refine pu rfl (pv_neqS rfl rfl) ?_   -- t49 laws.go:936
      refine LW.nil ?_
      refine SX.cond rfl (fun hc => absurd hc (by simp)) (fun hc => ?_)   -- t49
      refine SX.skip ?_
      refine SX.seq ?_
      refine SX.seq (SX.reg ?_)   -- region 20
      refine pu rfl pv_mv ?_   -- t50 laws.go:939
      refine evd rfl (ev_call cb61 rfl (f61_ok arg l w4 hoa4.rd (by omega)) ?_)   -- t51 laws.go:939
      rintro b1 w5 ⟨hob1, hx5⟩
      refine pu rfl pv_mv ?_   -- t52 laws.go:939
      refine evd rfl (ev_call cb61 rfl (f61_ok v l w5 (hr.ext (hX4.trans hx5)) (by omega)) ?_)   -- t53 laws.go:939
      rintro b2 w6 ⟨hob2, hx6⟩
      refine evd rfl (ev_call cb62 rfl (f62_ok b1 b2 l w6 (hob1.rd.ext hx6) hob2.rd (by omega)) ?_)   -- t54 laws.go:939
      rintro _ w7 ⟨rfl, hx7⟩
      have hX7 := ((hX4.trans hx5).trans hx6).trans hx7
      have hoa7 := ((hoa4.ext hx5).ext hx6).ext hx7
      refine pu rfl (pv_not rfl) ?_   -- t55 laws.go:939
      refine LW.nil ?_
      refine SX.cond_false rfl ?_   -- t55
      refine SX.skip ?_
      refine SX.mid (G := Unit) (fun _ => [(0, v), (5, S (unparse l)), (6, arg), (7, S (unparse l))]) (fun _ w' => Ext w7 w') ?_ ?_
      · skip
        refine SX.seq (SX.reg ?_)   -- region 22
        refine pu rfl pv_mv ?_   -- t56 laws.go:942
        refine pu rfl (pv_lenV (T := tI) Yabc.underlying23 (hr.ext hX7) rfl) ?_   -- t57 laws.go:942
        refine pu rfl (pv_eql rfl rfl) ?_   -- t58 laws.go:942
        refine LW.nil ?_
        refine SX.cond rfl (fun hc => ?_) (fun hc => ?_)   -- t58
        · skip
          have hl0 : l = [] := by simpa using hc
          have hu0 : unparse l = unparse [] := by rw [hl0]
          refine SX.seq (SX.reg ?_)   -- region 23
          refine evd rfl (ev_call cb32 rfl (f32_ok _ [] w7 Rd.empty (by simp) (by simp [tl])) ?_)   -- t59 laws.go:943
          rintro _ w8 ⟨rfl, hx8⟩
          refine pu rfl pv_mv ?_   -- t60 laws.go:943
          refine pu rfl (pv_neqS rfl rfl) ?_   -- t61 laws.go:943
          refine pu rfl pv_mv ?_   -- t62 laws.go:943
          refine LW.sc false 4 3 62 63 67 (b := decide (unparse [] ≠ unparse l)) (fun w' => Ext w7 w') rfl rfl rfl rfl (fun _ => rfl) rfl (fun ht => ?_) hx8 (fun J w' hw' => ?_)   -- t67 := pick ['t62', "c:['true']", 't66']
          · skip
            refine evd rfl (ev_bs0 sl23 fun e1 w9 he1 hx9 => ?_)   -- t63 laws.go:943
            obtain ⟨b1', rfl⟩ := he1
            refine evd rfl (ev_call cb32 rfl (f32_ok _ [] w9 Rd.empty (by simp) (by simp [tl])) ?_)   -- t64 laws.go:943
            rintro _ w10 ⟨rfl, hx10⟩
            refine pu rfl pv_mv ?_   -- t65 laws.go:943
            refine pu rfl (pv_neqS rfl rfl) ?_   -- t66 laws.go:943
            exact LW.nil ⟨rfl, (hx8.trans hx9).trans hx10⟩
          have hx10 := hw'
          refine LW.nil ?_
          refine SX.cond rfl (fun hc => absurd hc (by simp [scv, hu0])) (fun hc => ?_)   -- t67
          refine SX.skip ?_
          exact ⟨(), ⟨rfl, rfl, rfl, rfl, trivial⟩, hx10⟩
        · skip
          refine SX.skip ?_
          exact ⟨(), ⟨rfl, rfl, rfl, rfl, trivial⟩, Ext.refl w7⟩
      rintro _ w11 ρ5 hx11
      have hX11 := hX7.trans hx11
      have hoa11 := hoa7.ext hx11
      refine SX.seq (SX.reg ?_)   -- region 25
      refine pu rfl pv_mv ?_   -- t68 laws.go:947
      refine evd rfl (ev_call cb63 rfl (f63_ok arg l _ w11 hoa11 (by omega)) ?_)   -- t69 laws.go:947
      intro _ w12 hg12
      have hX12 : Ext w w12 := hX11.step hg12 (fun g e => by have := (hoa11.lt g e).1; have := hX2.size; omega)
      refine LW.nil ?_
      refine SX.seq ?_
      refine SX.seq (SX.reg ?_)   -- region 26
      refine pu rfl pv_mv ?_   -- t70 laws.go:948
      refine pu rfl pv_mv ?_   -- t71 laws.go:948
      refine pu rfl (pv_neqS rfl rfl) ?_   -- t72 laws.go:948
      refine LW.nil ?_
      refine SX.cond rfl (fun hc => absurd hc (by simp)) (fun hc => ?_)   -- t72
      refine SX.skip ?_
      refine SX.seq (SX.reg ?_)   -- region 28
      refine pu rfl pv_mv ?_   -- t73 laws.go:951
      refine evd rfl (ev_call cb33 rfl (f33_ok v l w12 (hr.ext hX12) (by omega) (fun p hpm => by have := tl_mem l p hpm; omega)) ?_)   -- t74 laws.go:951
      rintro a3 w13 ⟨ho13, hx13⟩
      refine evd rfl (ev_call cb32 rfl (f32_ok a3 l w13 ho13.rd (by omega) (by omega)) ?_)   -- t75 laws.go:951
      rintro _ w14 ⟨rfl, hx14⟩
      refine pu rfl pv_mv ?_   -- t76 laws.go:951
      refine pu rfl (pv_eqlS rfl rfl) ?_   -- t77 laws.go:951
      refine pu rfl pv_as ?_   -- t2 laws.go:951
      refine LW.nil ?_
      refine SX.ret ?_
      exact ⟨by simp [ev, upd], (hX12.trans hx13).trans hx14⟩

end Go.Proofs.Ybuabw
