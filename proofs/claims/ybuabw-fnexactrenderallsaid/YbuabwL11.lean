/-
  WALKS. The law FnExactRenderAll. Own work for the seat Ybuabw (the steps of each walk were typed by a program of ours off the printed code).
-/
import Derived.Test.YbuabwW3
import Derived.Test.YbuabwW5
import Derived.Test.YbuabwW15
namespace Go.Proofs.Ybuabw
open Go.RowKit
set_option linter.unusedVariables false
set_option linter.unusedSimpArgs false
set_option maxRecDepth 20000

theorem f13_ok (v : Value) (l : List Tri) (z : Int) (w : World) (hzw : (Lit.int .i64 z).wf = true) (hr : Rd w tK v l) (hs : l.length ≤ 4398046511104) (hp : ∀ p ∈ l, p.s.length ≤ 140737488355328) : Fn 13 [v, iv z] w (fun v' w' => v' = .bool true ∧ Ext w w') := by
  have hz : z ≤ 9223372036854775807 := by
    simp only [Lit.wf, Bool.and_eq_true, decide_eq_true_eq] at hzw
    have h2 : IntKind.i64.max = 9223372036854775807 := rfl
    omega
  refine Fn.mk1 (N := 85) Yabc.func13 rfl rfl rfl rfl ?_
  refine SX.seq (SX.reg ?_)   -- region 0
  refine pu rfl pv_as ?_   -- t4 laws.go:1110
  refine LW.nil ?_
  refine SX.seq (SX.reg ?_)   -- region 1
  refine pu rfl pv_as ?_   -- t5 laws.go:1111
  refine LW.nil ?_
  refine SX.seq (SX.reg ?_)   -- region 2
  refine pu rfl pv_mv ?_   -- t10 laws.go:1112
  refine pu rfl pv_mv ?_   -- t11 laws.go:1112
  refine pu rfl (pv_lenV (T := tK) Yabc.underlying27 hr rfl) ?_   -- t12 laws.go:1112
  refine pu rfl (pv_add rfl rfl (by omega)) ?_   -- t13 laws.go:1112
  refine pu rfl pv_as ?_   -- t5 laws.go:1112
  refine LW.nil ?_
  refine SX.seq ?_
  refine SX.seq (SX.reg ?_)   -- region 3
  refine pu rfl pv_mv ?_   -- t14 laws.go:1113
  refine pu rfl (pv_gtr rfl rfl) ?_   -- t15 laws.go:1113
  refine LW.nil ?_
  refine SX.cond rfl (fun hc => ?_) (fun hc => ?_)   -- t15
  · skip
    refine SX.seq (SX.reg ?_)   -- region 4
    refine pu rfl pv_as ?_   -- t4 laws.go:1114
    refine LW.nil ?_
    refine SX.ret ?_
    exact ⟨rfl, Ext.refl w⟩
  · skip
    have hl0 : l.length ≤ 1048576 := by simp at hc; omega
    refine SX.skip ?_
    refine SX.seq ?_
    refine SX.seq (SX.reg ?_)   -- region 5
    refine pu rfl pv_as ?_   -- t6 laws.go:1116
    refine LW.nil ?_
    refine SX.block ?_
    refine SX.loop (G := Nat) (fun k => [(0, v), (1, iv z), (5, iv (l.length + tl (l.take k) : Nat)), (6, iv k)]) (fun k w' => w = w' ∧ k ≤ l.length ∧ l.length + tl (l.take k) ≤ 1048576) (fun k => l.length - k) 0 ⟨rfl, rfl, congrArg iv (by simp [tl]), rfl, trivial⟩ ⟨rfl, Nat.zero_le _, by simp [tl]; omega⟩ ?_
    rintro k w2 ρ1 ⟨hw, hk, hsz⟩
    subst hw
    refine SX.seq ?_
    refine SX.seq (SX.reg ?_)   -- region 6
    refine pu rfl pv_mv ?_   -- t16 laws.go:1116
    refine pu rfl pv_mv ?_   -- t17 laws.go:1116
    refine pu rfl (pv_lenV (T := tK) Yabc.underlying27 hr rfl) ?_   -- t18 laws.go:1116
    refine pu rfl (pv_lss rfl rfl) ?_   -- t19 laws.go:1116
    refine LW.nil ?_
    refine SX.cond rfl (fun hc => ?_) (fun hc => ?_)   -- t19
    · skip
      have hlt : k < l.length := by simpa using hc
      have hts := tl_take l k hlt
      have hpl := hp _ (List.getElem_mem hlt)
      refine SX.skip ?_
      refine SX.seq ?_
      refine SX.block ?_
      refine SX.seq (SX.reg ?_)   -- region 8
      refine pu rfl pv_mv ?_   -- t22 laws.go:1117
      refine pu rfl pv_mv ?_   -- t23 laws.go:1117
      refine pu rfl pv_mv ?_   -- t24 laws.go:1117
      refine pu rfl (pv_ix (T := tK) (k := k) Yabc.underlying27 sz30 okK hr rfl rfl (by omega) (by omega)) ?_   -- t25 laws.go:1117
      refine pu rfl (pv_fa fb30_2 rfl) ?_   -- t26 laws.go:1117
      refine pu rfl (pv_ld ag9 rfl (hr.cellAt okK (by omega) rfl)) ?_   -- t27 laws.go:1117
      refine pu rfl (pv_len_s rfl) ?_   -- t28 laws.go:1117
      refine pu rfl (pv_add rfl rfl (by omega)) ?_   -- t29 laws.go:1117
      refine pu rfl pv_as ?_   -- t5 laws.go:1117
      refine LW.nil ?_
      refine SX.seq (SX.reg ?_)   -- region 9
      refine pu rfl pv_mv ?_   -- t30 laws.go:1118
      refine pu rfl (pv_gtr rfl rfl) ?_   -- t31 laws.go:1118
      refine LW.nil ?_
      refine SX.cond rfl (fun hc => ?_) (fun hc => ?_)   -- t31
      · skip
        refine SX.seq (SX.reg ?_)   -- region 10
        refine pu rfl pv_as ?_   -- t4 laws.go:1119
        refine LW.nil ?_
        refine SX.ret ?_
        exact ⟨rfl, Ext.refl w⟩
      · skip
        have hsz2 : l.length + tl (l.take (k + 1)) ≤ 1048576 := by simp at hc; omega
        refine SX.skip ?_
        refine SX.reg ?_
        refine pu rfl pv_mv ?_   -- t20 laws.go:1116
        refine pu rfl (pv_add rfl rfl (by omega)) ?_   -- t21 laws.go:1116
        refine pu rfl pv_as ?_   -- t6 laws.go:1116
        refine LW.nil ?_
        exact ⟨k + 1, ⟨rfl, rfl, congrArg iv (by rw [hts]; simp; omega), rfl, trivial⟩, ⟨rfl, by omega, hsz2⟩, by omega⟩
    · skip
      have hge : k = l.length := by simp at hc; omega
      subst hge
      rw [List.take_length] at hsz
      refine SX.exit (xb_here ?_)
      refine SX.seq ?_
      refine SX.seq (SX.reg ?_)   -- region 11
      refine pu rfl pv_mv ?_   -- t32 laws.go:1122
      refine pu rfl (pv_gtr rfl rfl) ?_   -- t33 laws.go:1122
      refine LW.nil ?_
      refine SX.cond rfl (fun hc => absurd hc (by rw [List.take_length]; simp; omega)) (fun hc => ?_)   -- t33
      refine SX.skip ?_
      refine SX.seq ?_
      refine SX.seq (SX.reg ?_)   -- region 13
      refine pu rfl pv_mv ?_   -- t34 laws.go:1125
      refine pu rfl (pv_lenV (T := tK) Yabc.underlying27 hr rfl) ?_   -- t35 laws.go:1125
      refine pu rfl (pv_gtr rfl rfl) ?_   -- t36 laws.go:1125
      refine pu rfl pv_mv ?_   -- t37 laws.go:1125
      refine LW.sc false 3 3 37 38 41 (b := decide ((1048576 : Int) < (tl l : Int))) (fun w' => w = w') rfl rfl rfl rfl (fun _ => rfl) rfl (fun ht => ?_) rfl (fun J w' hw' => ?_)   -- t41 := pick ['t37', "c:['true']", 't40']
      · skip
        refine pu rfl pv_mv ?_   -- t38 laws.go:1125
        refine evd rfl (ev_call cb69 rfl (f69_ok v l w hr (by omega) (by omega)) ?_)   -- t39 laws.go:1125
        rintro _ _ ⟨rfl, rfl⟩
        refine pu rfl (pv_gtr rfl rfl) ?_   -- t40 laws.go:1125
        exact LW.nil ⟨rfl, rfl⟩
      subst hw'
      refine LW.nil ?_
      refine SX.cond rfl (fun hc => absurd hc (by simp [scv]; omega)) (fun hc => ?_)   -- t41
      refine SX.skip ?_
      refine SX.seq (SX.reg ?_)   -- region 15
      refine pu rfl pv_mv ?_   -- t42 laws.go:1128
      refine evd rfl (ev_call cb48 rfl (f48_ok v l w hr (by omega) (fun p hpm => by have := tl_mem l p hpm; omega)) ?_)   -- t43 laws.go:1128
      rintro a1 w1 ⟨ho1, hx1⟩
      refine pu rfl pv_mv ?_   -- t44 laws.go:1128
      refine evd rfl (ev_call cb49 rfl (f49_ok a1 l z w1 hz ho1.rd (by omega) (fun p hpm => by have := tl_mem l p hpm; omega)) ?_)   -- t45 laws.go:1128
      rintro _ w2 ⟨rfl, hx2⟩
      have hX2 := hx1.trans hx2
      refine pu rfl pv_as ?_   -- t7 laws.go:1128
      refine LW.nil ?_
      refine SX.seq (SX.reg ?_)   -- region 16
      refine pu rfl pv_mv ?_   -- t46 laws.go:1129
      refine evd rfl (ev_call cb48 rfl (f48_ok v l w2 (hr.ext hX2) (by omega) (fun p hpm => by have := tl_mem l p hpm; omega)) ?_)   -- t47 laws.go:1129
      rintro arg w3 ⟨hoa, hx3⟩
      refine pu rfl pv_as ?_   -- t8 laws.go:1129
      refine LW.nil ?_
      refine SX.seq (SX.reg ?_)   -- region 17
      refine pu rfl pv_mv ?_   -- t48 laws.go:1130
      refine pu rfl pv_mv ?_   -- t49 laws.go:1130
      refine evd rfl (ev_call cb47 rfl (f47_ok arg l z w3 hz hoa.rd (by omega) (fun p hpm => by have := tl_mem l p hpm; omega)) ?_)   -- t50 laws.go:1130
      rintro _ w4 ⟨rfl, hx4⟩
      have hX4 := (hX2.trans hx3).trans hx4
      have hoa4 := hoa.ext hx4
      refine pu rfl pv_as ?_   -- t9 laws.go:1130
      refine LW.nil ?_
      refine SX.seq ?_
      refine SX.seq (SX.reg ?_)   -- region 18
      refine pu rfl pv_mv ?_   -- t51 laws.go:1131
      refine pu rfl pv_mv ?_   -- t52 laws.go:1131
      refine pu rfl (pv_neqS rfl rfl) ?_   -- t53 laws.go:1131
      refine LW.nil ?_
      refine SX.cond rfl (fun hc => absurd hc (by simp)) (fun hc => ?_)   -- t53
      refine SX.skip ?_
      refine SX.seq ?_
      refine SX.seq (SX.reg ?_)   -- region 20
      refine pu rfl pv_mv ?_   -- t54 laws.go:1134
      refine evd rfl (ev_call cb58 rfl (f58_ok arg l w4 hoa4.rd (by omega)) ?_)   -- t55 laws.go:1134
      rintro b1 w5 ⟨hob1, hx5⟩
      refine pu rfl pv_mv ?_   -- t56 laws.go:1134
      refine evd rfl (ev_call cb58 rfl (f58_ok v l w5 (hr.ext (hX4.trans hx5)) (by omega)) ?_)   -- t57 laws.go:1134
      rintro b2 w6 ⟨hob2, hx6⟩
      refine evd rfl (ev_call cb59 rfl (f59_ok b1 b2 l w6 (hob1.rd.ext hx6) hob2.rd (by omega)) ?_)   -- t58 laws.go:1134
      rintro _ w7 ⟨rfl, hx7⟩
      have hX7 := ((hX4.trans hx5).trans hx6).trans hx7
      have hoa7 := ((hoa4.ext hx5).ext hx6).ext hx7
      refine pu rfl (pv_not rfl) ?_   -- t59 laws.go:1134
      refine LW.nil ?_
      refine SX.cond_false rfl ?_   -- t59
      refine SX.skip ?_
      refine SX.mid (G := Unit) (fun _ => [(0, v), (1, iv z), (7, S (renderAll l z)), (8, arg), (9, S (renderAll l z))]) (fun _ w' => Ext w7 w') ?_ ?_
      · skip
        refine SX.seq (SX.reg ?_)   -- region 22
        refine pu rfl pv_mv ?_   -- t60 laws.go:1137
        refine pu rfl (pv_lenV (T := tK) Yabc.underlying27 (hr.ext hX7) rfl) ?_   -- t61 laws.go:1137
        refine pu rfl (pv_eql rfl rfl) ?_   -- t62 laws.go:1137
        refine LW.nil ?_
        refine SX.cond rfl (fun hc => ?_) (fun hc => ?_)   -- t62
        · skip
          have hl0 : l = [] := by simpa using hc
          have hu0 : renderAll l z = renderAll [] z := by rw [hl0]
          refine SX.seq (SX.reg ?_)   -- region 23
          refine pu rfl pv_mv ?_   -- t63 laws.go:1138
          refine evd rfl (ev_call cb47 rfl (f47_ok _ [] z w7 hz Rd.empty (by simp) (fun p hpm => by cases hpm)) ?_)   -- t64 laws.go:1138
          rintro _ w8 ⟨rfl, hx8⟩
          refine pu rfl pv_mv ?_   -- t65 laws.go:1138
          refine pu rfl (pv_neqS rfl rfl) ?_   -- t66 laws.go:1138
          refine pu rfl pv_mv ?_   -- t67 laws.go:1138
          refine LW.sc false 5 4 67 68 73 (b := decide (renderAll [] z ≠ renderAll l z)) (fun w' => Ext w7 w') rfl rfl rfl rfl (fun _ => rfl) rfl (fun ht => ?_) hx8 (fun J w' hw' => ?_)   -- t73 := pick ['t67', "c:['true']", 't72']
          · skip
            refine evd rfl (ev_bs0 sl27 fun e1 w9 he1 hx9 => ?_)   -- t68 laws.go:1138
            obtain ⟨b1', rfl⟩ := he1
            refine pu rfl pv_mv ?_   -- t69 laws.go:1138
            refine evd rfl (ev_call cb47 rfl (f47_ok _ [] z w9 hz Rd.empty (by simp) (fun p hpm => by cases hpm)) ?_)   -- t70 laws.go:1138
            rintro _ w10 ⟨rfl, hx10⟩
            refine pu rfl pv_mv ?_   -- t71 laws.go:1138
            refine pu rfl (pv_neqS rfl rfl) ?_   -- t72 laws.go:1138
            exact LW.nil ⟨rfl, (hx8.trans hx9).trans hx10⟩
          have hx10 := hw'
          refine LW.nil ?_
          refine SX.cond rfl (fun hc => absurd hc (by simp [scv, hu0])) (fun hc => ?_)   -- t73
          refine SX.skip ?_
          exact ⟨(), ⟨rfl, rfl, rfl, rfl, rfl, trivial⟩, hx10⟩
        · skip
          refine SX.skip ?_
          exact ⟨(), ⟨rfl, rfl, rfl, rfl, rfl, trivial⟩, Ext.refl w7⟩
      rintro _ w11 ρ5 hx11
      have hX11 := hX7.trans hx11
      have hoa11 := hoa7.ext hx11
      refine SX.seq (SX.reg ?_)   -- region 25
      refine pu rfl pv_mv ?_   -- t74 laws.go:1142
      refine evd rfl (ev_call cb60 rfl (f60_ok arg l _ w11 hoa11 (by omega)) ?_)   -- t75 laws.go:1142
      intro _ w12 hg12
      have hX12 : Ext w w12 := hX11.step hg12 (fun g e => by have := (hoa11.lt g e).1; have := hX2.size; omega)
      refine LW.nil ?_
      refine SX.seq ?_
      refine SX.seq (SX.reg ?_)   -- region 26
      refine pu rfl pv_mv ?_   -- t76 laws.go:1143
      refine pu rfl pv_mv ?_   -- t77 laws.go:1143
      refine pu rfl (pv_neqS rfl rfl) ?_   -- t78 laws.go:1143
      refine LW.nil ?_
      refine SX.cond rfl (fun hc => absurd hc (by simp)) (fun hc => ?_)   -- t78
      refine SX.skip ?_
      refine SX.seq (SX.reg ?_)   -- region 28
      refine pu rfl pv_mv ?_   -- t79 laws.go:1146
      refine evd rfl (ev_call cb48 rfl (f48_ok v l w12 (hr.ext hX12) (by omega) (fun p hpm => by have := tl_mem l p hpm; omega)) ?_)   -- t80 laws.go:1146
      rintro a3 w13 ⟨ho13, hx13⟩
      refine pu rfl pv_mv ?_   -- t81 laws.go:1146
      refine evd rfl (ev_call cb47 rfl (f47_ok a3 l z w13 hz ho13.rd (by omega) (fun p hpm => by have := tl_mem l p hpm; omega)) ?_)   -- t82 laws.go:1146
      rintro _ w14 ⟨rfl, hx14⟩
      refine pu rfl pv_mv ?_   -- t83 laws.go:1146
      refine pu rfl (pv_eqlS rfl rfl) ?_   -- t84 laws.go:1146
      refine pu rfl pv_as ?_   -- t4 laws.go:1146
      refine LW.nil ?_
      refine SX.ret ?_
      exact ⟨by simp [ev, upd], (hX12.trans hx13).trans hx14⟩

end Go.Proofs.Ybuabw
