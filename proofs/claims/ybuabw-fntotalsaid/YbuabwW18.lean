/-
  WALKS. Decoders, first part. Own work for the seat Ybuabw (the steps of each walk were typed by a program of ours off the printed code).
-/
import Derived.Test.YbuabwW17
namespace Go.Proofs.Ybuabw
open Go.RowKit
set_option linter.unusedVariables false
set_option linter.unusedSimpArgs false
set_option maxRecDepth 20000

theorem f15_ok (d : Str) (w : World) : Fn 15 [S d] w (fun v w' => (∃ t : Str, v = S t ∧ t.length ≤ 655360) ∧ Ext w w') := by
  refine Fn.mk1 (N := 29) Yabc.func15 rfl rfl rfl rfl ?_
  refine SX.seq (SX.reg ?_)   -- region 0
  refine pu rfl pv_as ?_   -- t2 spec.go:232
  refine LW.nil ?_
  refine SX.seq (SX.reg ?_)   -- region 1
  refine pu rfl pv_mv ?_   -- t6 spec.go:233
  refine evd rfl (ev_call cb70 rfl (f70_ok d w) ?_)   -- t7 spec.go:233
  rintro _ _ ⟨rfl, rfl⟩
  have hD1 : (d.take 65536).length ≤ 65536 := List.length_take_le _ _
  have hD2 : (d.take 65536).length ≤ d.length := by simp only [List.length_take]; omega
  generalize d.take 65536 = D at *
  refine pu rfl pv_as ?_   -- t0(data) spec.go:233
  refine LW.nil ?_
  refine SX.seq (SX.reg ?_)   -- region 2
  refine pu rfl pv_as ?_   -- t3(out) spec.go:234
  refine LW.nil ?_
  refine SX.seq ?_
  refine SX.seq (SX.reg ?_)   -- region 3
  refine pu rfl pv_as ?_   -- t4(i) spec.go:235
  refine LW.nil ?_
  refine SX.block ?_
  refine SX.loop3 (fun (k : Nat) (out : Str) vo => [(0, S D), (3, vo), (4, iv k)]) (fun k out vo w' => k ≤ D.length ∧ Ext w w' ∧ Own w' w.heap.size tB vo out ∧ out.length ≤ 10 * k) (fun k _ _ => D.length - k) 0 [] (.slice none 0 0) ⟨rfl, rfl, rfl, trivial⟩ ⟨Nat.zero_le _, Ext.refl w, Own.nil _ _ _, by simp⟩ ?_
  rintro k out vo w2 ρ1 ⟨hk, hx, ho, hol⟩
  refine SX.seq ?_
  refine SX.seq (SX.reg ?_)   -- region 4
  refine pu rfl pv_mv ?_   -- t8 spec.go:235
  refine pu rfl pv_mv ?_   -- t9 spec.go:235
  refine pu rfl (pv_len_s rfl) ?_   -- t10 spec.go:235
  refine pu rfl (pv_lss rfl rfl) ?_   -- t11 spec.go:235
  refine LW.nil ?_
  refine SX.cond rfl (fun hc => ?_) (fun hc => ?_)   -- t11
  · skip
    have hlt : k < D.length := by simpa using hc
    refine SX.skip ?_
    refine SX.seq ?_
    refine SX.block ?_
    refine SX.seq (SX.reg ?_)   -- region 6
    refine pu rfl pv_mv ?_   -- t14 spec.go:236
    refine pu rfl pv_mv ?_   -- t15 spec.go:236
    refine pu rfl (pv_index (k := k) rfl rfl (by omega) (by omega)) ?_   -- t16 spec.go:236
    refine pu rfl pv_as ?_   -- t5(x) spec.go:236
    refine LW.nil ?_
    refine SX.seq (SX.reg ?_)   -- region 7
    refine pu rfl pv_mv ?_   -- t17 spec.go:237
    refine pu rfl (pv_geqB (b := 240) rfl rfl) ?_   -- t18 spec.go:237
    refine LW.nil ?_
    refine SX.cond rfl (fun hc => ?_) (fun hc => ?_)   -- t18
    · skip
      refine SX.reg ?_
      refine pu rfl pv_mv ?_   -- t19 spec.go:238
      refine pu rfl pv_mv ?_   -- t20 spec.go:238
      refine push (T := tB) (D.getD k 0) sl83 okB (by decide) ho hx.size rfl (fun _ => rfl) rfl rfl (by omega) (by unfold maxLen; omega) fun J1 v5 w5 ho5 hg5 => ?_   -- t21 spec.go:238
      refine pu rfl pv_as ?_   -- t3(out) spec.go:238
      refine LW.nil ?_
      refine SX.reg ?_
      refine pu rfl pv_mv ?_   -- t12 spec.go:235
      refine pu rfl (pv_add rfl rfl (by omega)) ?_   -- t13 spec.go:235
      refine pu rfl pv_as ?_   -- t4(i) spec.go:235
      refine LW.nil ?_
      exact ⟨k + 1, _, v5, ⟨rfl, rfl, rfl, trivial⟩, ⟨by omega, hx.step hg5.grown (fun g e => (ho.lt g e).1), ho5, by simp; omega⟩, by omega⟩
    · skip
      refine SX.reg ?_
      refine pu rfl pv_mv ?_   -- t23 spec.go:240
      refine pu rfl pv_mv ?_   -- t24 spec.go:240
      refine evd rfl (ev_call cb71 rfl (f71_ok (D.getD k 0) w2) ?_)   -- t25 spec.go:240
      rintro _ _ ⟨⟨t, rfl, ht⟩, rfl⟩
      refine evd rfl (ev_appS (c := t) ho hx.size rfl rfl (by omega) fun v5 w5 ho5 hg5 => ?_)   -- t26 spec.go:240
      refine pu rfl pv_as ?_   -- t3(out) spec.go:240
      refine LW.nil ?_
      refine SX.reg ?_
      refine pu rfl pv_mv ?_   -- t12 spec.go:235
      refine pu rfl (pv_add rfl rfl (by omega)) ?_   -- t13 spec.go:235
      refine pu rfl pv_as ?_   -- t4(i) spec.go:235
      refine LW.nil ?_
      exact ⟨k + 1, _, v5, ⟨rfl, rfl, rfl, trivial⟩, ⟨by omega, hx.step hg5.grown (fun g e => (ho.lt g e).1), ho5, by simp; omega⟩, by omega⟩
  · skip
    refine SX.exit (xb_here ?_)
    refine SX.seq (SX.reg ?_)   -- region 10
    refine pu rfl pv_mv ?_   -- t27 spec.go:243
    refine pu rfl (pv_str ho.rd rfl) ?_   -- t28 spec.go:243
    refine pu rfl pv_as ?_   -- t2 spec.go:243
    refine LW.nil ?_
    refine SX.ret ?_
    exact ⟨⟨out, rfl, by omega⟩, hx⟩

theorem f16_ok (d : Str) (w : World) : Fn 16 [S d] w (fun v w' => (∃ t : Str, v = S t ∧ t.length ≤ 655360) ∧ Ext w w') := by
  refine Fn.mk1 (N := 29) Yabc.func16 rfl rfl rfl rfl ?_
  refine SX.seq (SX.reg ?_)   -- region 0
  refine pu rfl pv_as ?_   -- t2 spec.go:289
  refine LW.nil ?_
  refine SX.seq (SX.reg ?_)   -- region 1
  refine pu rfl pv_mv ?_   -- t6 spec.go:290
  refine evd rfl (ev_call cb70 rfl (f70_ok d w) ?_)   -- t7 spec.go:290
  rintro _ _ ⟨rfl, rfl⟩
  have hD1 : (d.take 65536).length ≤ 65536 := List.length_take_le _ _
  have hD2 : (d.take 65536).length ≤ d.length := by simp only [List.length_take]; omega
  generalize d.take 65536 = D at *
  refine pu rfl pv_as ?_   -- t0(data) spec.go:290
  refine LW.nil ?_
  refine SX.seq (SX.reg ?_)   -- region 2
  refine pu rfl pv_as ?_   -- t3(out) spec.go:291
  refine LW.nil ?_
  refine SX.seq ?_
  refine SX.seq (SX.reg ?_)   -- region 3
  refine pu rfl pv_as ?_   -- t4(i) spec.go:292
  refine LW.nil ?_
  refine SX.block ?_
  refine SX.loop3 (fun (k : Nat) (out : Str) vo => [(0, S D), (3, vo), (4, iv k)]) (fun k out vo w' => k ≤ D.length ∧ Ext w w' ∧ Own w' w.heap.size tB vo out ∧ out.length ≤ 10 * k) (fun k _ _ => D.length - k) 0 [] (.slice none 0 0) ⟨rfl, rfl, rfl, trivial⟩ ⟨Nat.zero_le _, Ext.refl w, Own.nil _ _ _, by simp⟩ ?_
  rintro k out vo w2 ρ1 ⟨hk, hx, ho, hol⟩
  refine SX.seq ?_
  refine SX.seq (SX.reg ?_)   -- region 4
  refine pu rfl pv_mv ?_   -- t8 spec.go:292
  refine pu rfl pv_mv ?_   -- t9 spec.go:292
  refine pu rfl (pv_len_s rfl) ?_   -- t10 spec.go:292
  refine pu rfl (pv_lss rfl rfl) ?_   -- t11 spec.go:292
  refine LW.nil ?_
  refine SX.cond rfl (fun hc => ?_) (fun hc => ?_)   -- t11
  · skip
    have hlt : k < D.length := by simpa using hc
    refine SX.skip ?_
    refine SX.seq ?_
    refine SX.block ?_
    refine SX.seq (SX.reg ?_)   -- region 6
    refine pu rfl pv_mv ?_   -- t14 spec.go:293
    refine pu rfl pv_mv ?_   -- t15 spec.go:293
    refine pu rfl (pv_index (k := k) rfl rfl (by omega) (by omega)) ?_   -- t16 spec.go:293
    refine pu rfl pv_as ?_   -- t5(x) spec.go:293
    refine LW.nil ?_
    refine SX.seq (SX.reg ?_)   -- region 7
    refine pu rfl pv_mv ?_   -- t17 spec.go:294
    refine pu rfl (pv_geqB (b := 240) rfl rfl) ?_   -- t18 spec.go:294
    refine LW.nil ?_
    refine SX.cond rfl (fun hc => ?_) (fun hc => ?_)   -- t18
    · skip
      refine SX.reg ?_
      refine pu rfl pv_mv ?_   -- t19 spec.go:295
      refine pu rfl pv_mv ?_   -- t20 spec.go:295
      refine push (T := tB) (D.getD k 0) sl83 okB (by decide) ho hx.size rfl (fun _ => rfl) rfl rfl (by omega) (by unfold maxLen; omega) fun J1 v5 w5 ho5 hg5 => ?_   -- t21 spec.go:295
      refine pu rfl pv_as ?_   -- t3(out) spec.go:295
      refine LW.nil ?_
      refine SX.reg ?_
      refine pu rfl pv_mv ?_   -- t12 spec.go:292
      refine pu rfl (pv_add rfl rfl (by omega)) ?_   -- t13 spec.go:292
      refine pu rfl pv_as ?_   -- t4(i) spec.go:292
      refine LW.nil ?_
      exact ⟨k + 1, _, v5, ⟨rfl, rfl, rfl, trivial⟩, ⟨by omega, hx.step hg5.grown (fun g e => (ho.lt g e).1), ho5, by simp; omega⟩, by omega⟩
    · skip
      refine SX.reg ?_
      refine pu rfl pv_mv ?_   -- t23 spec.go:297
      refine pu rfl pv_mv ?_   -- t24 spec.go:297
      refine evd rfl (ev_call cb72 rfl (f72_ok (D.getD k 0) w2) ?_)   -- t25 spec.go:297
      rintro _ _ ⟨⟨t, rfl, ht⟩, rfl⟩
      refine evd rfl (ev_appS (c := t) ho hx.size rfl rfl (by omega) fun v5 w5 ho5 hg5 => ?_)   -- t26 spec.go:297
      refine pu rfl pv_as ?_   -- t3(out) spec.go:297
      refine LW.nil ?_
      refine SX.reg ?_
      refine pu rfl pv_mv ?_   -- t12 spec.go:292
      refine pu rfl (pv_add rfl rfl (by omega)) ?_   -- t13 spec.go:292
      refine pu rfl pv_as ?_   -- t4(i) spec.go:292
      refine LW.nil ?_
      exact ⟨k + 1, _, v5, ⟨rfl, rfl, rfl, trivial⟩, ⟨by omega, hx.step hg5.grown (fun g e => (ho.lt g e).1), ho5, by simp; omega⟩, by omega⟩
  · skip
    refine SX.exit (xb_here ?_)
    refine SX.seq (SX.reg ?_)   -- region 10
    refine pu rfl pv_mv ?_   -- t27 spec.go:300
    refine pu rfl (pv_str ho.rd rfl) ?_   -- t28 spec.go:300
    refine pu rfl pv_as ?_   -- t2 spec.go:300
    refine LW.nil ?_
    refine SX.ret ?_
    exact ⟨⟨out, rfl, by omega⟩, hx⟩

theorem f79_ok (x : UInt8) (w : World) : Fn 79 [bt x] w (fun v w' => (∃ n : Int, v = iv n) ∧ w = w') := by
  refine Fn.mk1 (N := 10) Yabc.func79 rfl rfl rfl rfl ?_
  refine SX.seq (SX.reg ?_)   -- region 0
  refine pu rfl pv_as ?_   -- t2 spec.go:441
  refine LW.nil ?_
  refine SX.seq (SX.reg ?_)   -- region 1
  refine pu rfl pv_mv ?_   -- t4 spec.go:442
  refine pu rfl (pv_remB (b := 9) rfl rfl (by decide)) ?_   -- t5 spec.go:442
  refine pu rfl (pv_int rfl) ?_   -- t6 spec.go:442
  refine pu rfl pv_as ?_   -- t3(k) spec.go:442
  refine LW.nil ?_
  refine SX.seq ?_
  refine SX.seq (SX.reg ?_)   -- region 2
  refine pu rfl pv_mv ?_   -- t7 spec.go:443
  refine pu rfl (pv_eql rfl rfl) ?_   -- t8 spec.go:443
  refine LW.nil ?_
  refine SX.cond rfl (fun hc => ?_) (fun hc => ?_)   -- t8
  · skip
    refine SX.seq (SX.reg ?_)   -- region 3
    refine pu rfl pv_as ?_   -- t2 spec.go:444
    refine LW.nil ?_
    refine SX.ret ?_
    exact ⟨⟨_, rfl⟩, rfl⟩
  · skip
    refine SX.skip ?_
    refine SX.seq (SX.reg ?_)   -- region 4
    refine pu rfl pv_mv ?_   -- t9 spec.go:446
    refine pu rfl pv_as ?_   -- t2 spec.go:446
    refine LW.nil ?_
    refine SX.ret ?_
    exact ⟨⟨_, rfl⟩, rfl⟩

theorem f80_ok (k : Int) (s : Str) (w : World) : Fn 80 [iv k, S s] w (fun v w' => (∃ t : Str, v = S t ∧ t.length ≤ 655360) ∧ Ext w w') := by
  refine Fn.mk1 (N := 11) Yabc.func80 rfl rfl rfl rfl ?_
  refine SX.seq (SX.reg ?_)   -- region 0
  refine pu rfl pv_as ?_   -- t4 spec.go:449
  refine LW.nil ?_
  refine SX.seq ?_
  refine SX.seq (SX.reg ?_)   -- region 1
  refine pu rfl pv_mv ?_   -- t5 spec.go:450
  refine pu rfl (pv_eql rfl rfl) ?_   -- t6 spec.go:450
  refine LW.nil ?_
  refine SX.cond rfl (fun hc => ?_) (fun hc => ?_)   -- t6
  · skip
    refine SX.seq (SX.reg ?_)   -- region 2
    refine pu rfl pv_mv ?_   -- t7 spec.go:451
    refine evd rfl (ev_call cb15 rfl (f15_ok s w) ?_)   -- t8 spec.go:451
    rintro _ w1 ⟨⟨t, rfl, ht⟩, hx1⟩
    refine pu rfl pv_as ?_   -- t4 spec.go:451
    refine LW.nil ?_
    refine SX.ret ?_
    exact ⟨⟨t, rfl, ht⟩, hx1⟩
  · skip
    refine SX.skip ?_
    refine SX.seq (SX.reg ?_)   -- region 3
    refine pu rfl pv_mv ?_   -- t9 spec.go:453
    refine evd rfl (ev_call cb16 rfl (f16_ok s w) ?_)   -- t10 spec.go:453
    rintro _ w1 ⟨⟨t, rfl, ht⟩, hx1⟩
    refine pu rfl pv_as ?_   -- t4 spec.go:453
    refine LW.nil ?_
    refine SX.ret ?_
    exact ⟨⟨t, rfl, ht⟩, hx1⟩

end Go.Proofs.Ybuabw
