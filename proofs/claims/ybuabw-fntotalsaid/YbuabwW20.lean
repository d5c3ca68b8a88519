/-
  WALKS. Decoders, third part. Own work for the seat Ybuabw (the steps of each walk were typed by a program of ours off the printed code).
-/
import Derived.Test.YbuabwW19
namespace Go.Proofs.Ybuabw
open Go.RowKit
set_option linter.unusedVariables false
set_option linter.unusedSimpArgs false
set_option maxRecDepth 20000

theorem f19_ok (d : Str) (w : World) : Fn 19 [S d] w (fun v w' => (∃ l : List Tri, Rd w' tK v l ∧ l.length ≤ 65536 ∧ ∀ p ∈ l, p.s.length ≤ 655360) ∧ Ext w w') := by
  refine Fn.mk1 (N := 64) Yabc.func19 rfl rfl rfl rfl ?_
  refine SX.seq (SX.reg ?_)   -- region 0
  refine pu rfl pv_as ?_   -- t2 spec.go:474
  refine LW.nil ?_
  refine SX.seq (SX.reg ?_)   -- region 1
  refine pu rfl pv_mv ?_   -- t11 spec.go:475
  refine evd rfl (ev_call cb70 rfl (f70_ok d w) ?_)   -- t12 spec.go:475
  rintro _ _ ⟨rfl, rfl⟩
  have hD1 : (d.take 65536).length ≤ 65536 := List.length_take_le _ _
  have hD2 : (d.take 65536).length ≤ d.length := by simp only [List.length_take]; omega
  generalize d.take 65536 = D at *
  refine pu rfl pv_as ?_   -- t0(data) spec.go:475
  refine LW.nil ?_
  refine SX.seq (SX.reg ?_)   -- region 2
  refine pu rfl pv_as ?_   -- t3(out) spec.go:476
  refine LW.nil ?_
  refine SX.seq (SX.reg ?_)   -- region 3
  refine pu rfl pv_as ?_   -- t4(i) spec.go:477
  refine LW.nil ?_
  refine SX.seq ?_
  refine SX.block ?_
  refine SX.loop3 (fun (i : Nat) (out : List Tri) vo => [(0, S D), (3, vo), (4, iv i)]) (fun i out vo w' => i ≤ D.length ∧ Ext w w' ∧ Own w' w.heap.size tK vo out ∧ out.length ≤ i ∧ ∀ p ∈ out, p.s.length ≤ 655360) (fun i _ _ => D.length - i) 0 [] (.slice none 0 0) ⟨rfl, rfl, rfl, trivial⟩ ⟨Nat.zero_le _, Ext.refl w, Own.nil _ _ _, by simp, by simp⟩ ?_
  rintro i out vo w2 ρ1 ⟨hi, hx, ho, hol, hot⟩
  refine SX.seq ?_
  refine SX.seq (SX.reg ?_)   -- region 4
  refine pu rfl pv_mv ?_   -- t13 spec.go:478
  refine pu rfl pv_mv ?_   -- t14 spec.go:478
  refine pu rfl (pv_len_s rfl) ?_   -- t15 spec.go:478
  refine pu rfl (pv_lss rfl rfl) ?_   -- t16 spec.go:478
  refine LW.nil ?_
  refine SX.cond rfl (fun hc => ?_) (fun hc => ?_)   -- t16
  · skip
    have hlt : i < D.length := by simpa using hc
    refine SX.skip ?_
    refine SX.block ?_
    refine SX.seq (SX.reg ?_)   -- region 5
    refine pu rfl pv_mv ?_   -- t17 spec.go:479
    refine pu rfl pv_mv ?_   -- t18 spec.go:479
    refine pu rfl (pv_index (k := i) rfl rfl (by omega) (by omega)) ?_   -- t19 spec.go:479
    refine pu rfl pv_as ?_   -- t5(h) spec.go:479
    refine LW.nil ?_
    refine SX.seq (SX.reg ?_)   -- region 6
    refine pu rfl pv_mv ?_   -- t20 spec.go:480
    refine pu rfl (pv_add rfl rfl (by omega)) ?_   -- t21 spec.go:480
    refine pu rfl pv_as ?_   -- t4(i) spec.go:480
    refine LW.nil ?_
    refine SX.seq (SX.reg ?_)   -- region 7
    refine pu rfl pv_as ?_   -- t6(n) spec.go:481
    refine LW.nil ?_
    refine SX.mid2 (fun (i2 : Nat) (n : Int) => [(0, S D), (3, vo), (4, iv i2), (5, bt (D.getD i 0)), (6, iv n)]) (fun i2 n w' => w2 = w' ∧ i < i2 ∧ i2 ≤ D.length ∧ 0 ≤ n ∧ n ≤ 255) ?_ ?_
    · skip
      refine SX.seq (SX.reg ?_)   -- region 8
      refine pu rfl pv_mv ?_   -- t22 spec.go:482
      refine pu rfl pv_mv ?_   -- t23 spec.go:482
      refine pu rfl (pv_len_s rfl) ?_   -- t24 spec.go:482
      refine pu rfl (pv_lss rfl rfl) ?_   -- t25 spec.go:482
      refine LW.nil ?_
      refine SX.cond rfl (fun hc => ?_) (fun hc => ?_)   -- t25
      · skip
        have hlt2 : i + 1 < D.length := by simp at hc; omega
        have hmm := u8_lt (D.getD (i + 1) 0 % 24)
        refine SX.seq (SX.reg ?_)   -- region 9
        refine pu rfl pv_mv ?_   -- t26 spec.go:483
        refine pu rfl pv_mv ?_   -- t27 spec.go:483
        refine pu rfl (pv_index (k := i + 1) rfl rfl (by omega) (by omega)) ?_   -- t28 spec.go:483
        refine pu rfl (pv_remB (b := 24) rfl rfl (by decide)) ?_   -- t29 spec.go:483
        refine pu rfl (pv_int rfl) ?_   -- t30 spec.go:483
        refine pu rfl pv_as ?_   -- t6(n) spec.go:483
        refine LW.nil ?_
        refine SX.reg ?_
        refine pu rfl pv_mv ?_   -- t31 spec.go:484
        refine pu rfl (pv_add rfl rfl (by omega)) ?_   -- t32 spec.go:484
        refine pu rfl pv_as ?_   -- t4(i) spec.go:484
        refine LW.nil ?_
        exact ⟨i + 2, _, ⟨rfl, rfl, rfl, rfl, rfl, trivial⟩, rfl, by omega, by omega, by omega, by omega⟩
      · skip
        refine SX.skip ?_
        exact ⟨i + 1, 0, ⟨rfl, rfl, rfl, rfl, rfl, trivial⟩, rfl, by omega, by omega, by omega, by omega⟩
    rintro i2 n w2' ρ2 ⟨hw, hi1, hi2, hn0, hn1⟩
    subst hw
    refine SX.seq (SX.reg ?_)   -- region 11
    refine pu rfl pv_mv ?_   -- t33 spec.go:486
    refine pu rfl pv_mv ?_   -- t34 spec.go:486
    refine pu rfl (pv_add rfl rfl (by omega)) ?_   -- t35 spec.go:486
    refine pu rfl pv_as ?_   -- t7(j) spec.go:486
    refine LW.nil ?_
    refine SX.mid (G := Nat) (fun j => [(0, S D), (3, vo), (4, iv i2), (5, bt (D.getD i 0)), (7, iv j)]) (fun j w' => w2 = w' ∧ i2 ≤ j ∧ j ≤ D.length) ?_ ?_
    · skip
      refine SX.seq (SX.reg ?_)   -- region 12
      refine pu rfl pv_mv ?_   -- t36 spec.go:487
      refine pu rfl pv_mv ?_   -- t37 spec.go:487
      refine pu rfl (pv_len_s rfl) ?_   -- t38 spec.go:487
      refine pu rfl (pv_gtr rfl rfl) ?_   -- t39 spec.go:487
      refine LW.nil ?_
      refine SX.cond rfl (fun hc => ?_) (fun hc => ?_)   -- t39
      · skip
        have hj : (i2 : Int) + n > D.length := by simp at hc; omega
        refine SX.reg ?_
        refine pu rfl pv_mv ?_   -- t40 spec.go:488
        refine pu rfl (pv_len_s rfl) ?_   -- t41 spec.go:488
        refine pu rfl pv_as ?_   -- t7(j) spec.go:488
        refine LW.nil ?_
        exact ⟨D.length, ⟨rfl, rfl, rfl, rfl, rfl, trivial⟩, rfl, by omega, by omega⟩
      · skip
        have hj : (i2 : Int) + n ≤ D.length := by simp at hc; omega
        refine SX.skip ?_
        exact ⟨i2 + n.toNat, ⟨rfl, rfl, rfl, rfl, congrArg iv (by omega), trivial⟩, rfl, by omega, by omega⟩
    rintro j w2' ρ3 ⟨hw, hj1, hj2⟩
    subst hw
    refine SX.seq (SX.reg ?_)   -- region 14
    refine pu rfl pv_mv ?_   -- t42 spec.go:490
    refine pu rfl pv_mv ?_   -- t43 spec.go:490
    refine pu rfl pv_mv ?_   -- t44 spec.go:490
    refine pu rfl (pv_cut (a := i2) (b := j) rfl rfl rfl rfl rfl (by omega) (by omega)) ?_   -- t45 spec.go:490
    refine pu rfl pv_as ?_   -- t8(seg) spec.go:490
    refine LW.nil ?_
    refine SX.seq (SX.reg ?_)   -- region 15
    refine pu rfl pv_mv ?_   -- t46 spec.go:491
    refine pu rfl pv_as ?_   -- t4(i) spec.go:491
    refine LW.nil ?_
    refine SX.seq (SX.reg ?_)   -- region 16
    refine pu rfl pv_mv ?_   -- t47 spec.go:492
    refine evd rfl (ev_call cb79 rfl (f79_ok (D.getD i 0) w2) ?_)   -- t48 spec.go:492
    rintro _ _ ⟨⟨k0, rfl⟩, rfl⟩
    have hqq := u8_lt (D.getD i 0 / 9 % 9)
    refine pu rfl pv_as ?_   -- t9(k) spec.go:492
    refine LW.nil ?_
    refine SX.seq (SX.reg ?_)   -- region 17
    refine pu rfl pv_mv ?_   -- t49 spec.go:493
    refine pu rfl (pv_quoB (b := 9) rfl rfl (by decide)) ?_   -- t50 spec.go:493
    refine pu rfl (pv_remB (b := 9) rfl rfl (by decide)) ?_   -- t51 spec.go:493
    refine pu rfl (pv_int rfl) ?_   -- t52 spec.go:493
    refine pu rfl (pv_sub rfl rfl (by omega)) ?_   -- t53 spec.go:493
    refine pu rfl pv_as ?_   -- t10(lv) spec.go:493
    refine LW.nil ?_
    refine SX.reg ?_
    refine pu rfl pv_mv ?_   -- t54 spec.go:494
    refine pu rfl pv_mv ?_   -- t55 spec.go:494
    refine pu rfl pv_mv ?_   -- t56 spec.go:494
    refine pu rfl pv_mv ?_   -- t57 spec.go:494
    refine pu rfl pv_mv ?_   -- t58 spec.go:494
    refine evd rfl (ev_call cb80 rfl (f80_ok k0 ((D.drop i2).take (j - i2)) w2) ?_)   -- t59 spec.go:494
    rintro _ w3 ⟨⟨t, rfl, ht⟩, hx3⟩
    have ho3 := ho.ext hx3
    have hx13 := hx.trans hx3
    refine pu rfl (pv_bd rfl (bd30 _ _ _)) ?_   -- t60 spec.go:494
    refine push (T := tK) ⟨k0, _, t⟩ sl27 okK (by decide) ho3 hx13.size rfl (fun _ => rfl) rfl rfl (by omega) (by unfold maxLen; omega) fun J1 v5 w5 ho5 hg5 => ?_   -- t61 spec.go:494
    refine pu rfl pv_as ?_   -- t3(out) spec.go:494
    refine LW.nil ?_
    exact ⟨j, _, v5, ⟨rfl, rfl, rfl, trivial⟩, ⟨by omega, hx13.step hg5.grown (fun g e => (ho3.lt g e).1), ho5, by simp; omega, fun p hp => by
      rcases List.mem_append.1 hp with h | h
      · exact hot p h
      · simp only [List.mem_singleton] at h; rw [h]; exact ht⟩, by omega⟩
  · skip
    refine SX.exit (xb_here ?_)
    refine SX.seq (SX.reg ?_)   -- region 19
    refine pu rfl pv_mv ?_   -- t63 spec.go:496
    refine pu rfl pv_as ?_   -- t2 spec.go:496
    refine LW.nil ?_
    refine SX.ret ?_
    exact ⟨⟨out, ho.rd, by omega, hot⟩, hx⟩

theorem f20_ok (d : Str) (w : World) : Fn 20 [S d] w (fun v w' => (∃ b : Tri, v = .agg (encT b).toArray ∧ b.s.length ≤ 655360) ∧ Ext w w') := by
  refine Fn.mkC (N := 31) Yabc.func20 rfl rfl rfl ag30 rfl ?_
  refine SX.seq (SX.reg ?_)   -- region 0
  refine evd rfl (ev_al3 if30 fun w1 hn1 => ?_)   -- t2 spec.go:457
  have hx1 := hn1.ext
  refine LW.nil ?_
  refine SX.seq (SX.reg ?_)   -- region 1
  refine pu rfl pv_mv ?_   -- t6 spec.go:458
  refine evd rfl (ev_call cb70 rfl (f70_ok d w1) ?_)   -- t7 spec.go:458
  rintro _ _ ⟨rfl, rfl⟩
  have hD1 : (d.take 65536).length ≤ 65536 := List.length_take_le _ _
  have hD2 : (d.take 65536).length ≤ d.length := by simp only [List.length_take]; omega
  generalize d.take 65536 = D at *
  refine pu rfl pv_as ?_   -- t0(data) spec.go:458
  refine LW.nil ?_
  refine SX.seq ?_
  refine SX.seq (SX.reg ?_)   -- region 2
  refine pu rfl pv_mv ?_   -- t8 spec.go:459
  refine pu rfl (pv_len_s rfl) ?_   -- t9 spec.go:459
  refine pu rfl (pv_eql rfl rfl) ?_   -- t10 spec.go:459
  refine LW.nil ?_
  refine SX.cond rfl (fun hc => ?_) (fun hc => ?_)   -- t10
  · skip
    refine SX.seq (SX.reg ?_)   -- region 3
    refine pu rfl (pv_bd rfl (bd30z)) ?_   -- t11 spec.go:460
    refine evn (ev_stB (nw := encT ⟨0, 0, []⟩) hn1.blk rfl rfl sz30 rfl (encT_one _) fun w9 hb9 hg9 hz9 => ?_)   --  spec.go:460
    refine LW.nil ?_
    refine SX.ret ?_
    exact ⟨_, _, _, rfl, hb9, sz30, ⟨⟨0, 0, []⟩, rfl, by simp⟩, hx1.step hg9 (fun g e => by cases e; exact Nat.le_refl _)⟩
  · skip
    have h0 : 0 < D.length := by simp at hc; exact List.length_pos_iff.2 hc
    refine SX.skip ?_
    refine SX.seq (SX.reg ?_)   -- region 4
    refine pu rfl pv_mv ?_   -- t12 spec.go:462
    refine pu rfl (pv_index (k := 0) rfl rfl rfl (by omega)) ?_   -- t13 spec.go:462
    refine evd rfl (ev_call cb79 rfl (f79_ok (D.getD 0 0) w1) ?_)   -- t14 spec.go:462
    rintro _ _ ⟨⟨k0, rfl⟩, rfl⟩
    refine pu rfl pv_as ?_   -- t3(k) spec.go:462
    refine LW.nil ?_
    refine SX.seq (SX.reg ?_)   -- region 5
    refine pu rfl pv_as ?_   -- t4(lv) spec.go:463
    refine LW.nil ?_
    refine SX.seq (SX.reg ?_)   -- region 6
    refine pu rfl pv_as ?_   -- t5(rest) spec.go:464
    refine LW.nil ?_
    refine SX.mid2 (fun (lv : Int) (r : Str) => [(2, .pointer (some ⟨w.heap.size, 0, none⟩)), (3, iv k0), (4, iv lv), (5, S r)]) (fun lv r w' => w1 = w') ?_ ?_
    · skip
      refine SX.seq (SX.reg ?_)   -- region 7
      refine pu rfl pv_mv ?_   -- t15 spec.go:465
      refine pu rfl (pv_len_s rfl) ?_   -- t16 spec.go:465
      refine pu rfl (pv_gtr rfl rfl) ?_   -- t17 spec.go:465
      refine LW.nil ?_
      refine SX.cond rfl (fun hc => ?_) (fun hc => ?_)   -- t17
      · skip
        have h1 : 1 < D.length := by simp at hc; omega
        have hqq := u8_lt (D.getD 1 0 % 9)
        refine SX.seq (SX.reg ?_)   -- region 8
        refine pu rfl pv_mv ?_   -- t18 spec.go:466
        refine pu rfl (pv_index (k := 1) rfl rfl rfl (by omega)) ?_   -- t19 spec.go:466
        refine pu rfl (pv_remB (b := 9) rfl rfl (by decide)) ?_   -- t20 spec.go:466
        refine pu rfl (pv_int rfl) ?_   -- t21 spec.go:466
        refine pu rfl (pv_sub rfl rfl (by omega)) ?_   -- t22 spec.go:466
        refine pu rfl pv_as ?_   -- t4(lv) spec.go:466
        refine LW.nil ?_
        refine SX.reg ?_
        refine pu rfl pv_mv ?_   -- t23 spec.go:467
        refine pu rfl (pv_cutFrom (a := 2) rfl rfl rfl (by omega)) ?_   -- t24 spec.go:467
        refine pu rfl pv_as ?_   -- t5(rest) spec.go:467
        refine LW.nil ?_
        exact ⟨_, _, ⟨rfl, rfl, rfl, rfl, trivial⟩, rfl⟩
      · skip
        refine SX.skip ?_
        exact ⟨0, [], ⟨rfl, rfl, rfl, rfl, trivial⟩, rfl⟩
    rintro lv r w1' ρ2 hw
    subst hw
    refine SX.seq (SX.reg ?_)   -- region 10
    refine pu rfl pv_mv ?_   -- t25 spec.go:469
    refine pu rfl pv_mv ?_   -- t26 spec.go:469
    refine pu rfl pv_mv ?_   -- t27 spec.go:469
    refine pu rfl pv_mv ?_   -- t28 spec.go:469
    refine evd rfl (ev_call cb80 rfl (f80_ok k0 r w1) ?_)   -- t29 spec.go:469
    rintro _ w2 ⟨⟨t, rfl, ht⟩, hx2⟩
    refine pu rfl (pv_bd rfl (bd30 _ _ _)) ?_   -- t30 spec.go:469
    refine evn (ev_stB (nw := encT ⟨k0, lv, t⟩) (hn1.blk.ext hx2) rfl rfl sz30 rfl (encT_one _) fun w9 hb9 hg9 hz9 => ?_)   --  spec.go:469
    refine LW.nil ?_
    refine SX.ret ?_
    exact ⟨_, _, _, rfl, hb9, sz30, ⟨⟨k0, lv, t⟩, rfl, ht⟩, (hx1.trans hx2).step hg9 (fun g e => by cases e; exact Nat.le_refl _)⟩

theorem f93_ok (d : Str) (w : World) : Fn 93 [S d] w (fun v w' => (∃ z : Int, v = iv z ∧ z ≤ 9223372036854775807) ∧ w = w') := by
  refine Fn.mk1 (N := 47) Yabc.func93 rfl rfl rfl rfl ?_
  refine SX.seq (SX.reg ?_)   -- region 0
  refine pu rfl pv_as ?_   -- t2 spec.go:501
  refine LW.nil ?_
  refine SX.seq ?_
  refine SX.seq (SX.reg ?_)   -- region 1
  refine pu rfl pv_mv ?_   -- t5 spec.go:502
  refine pu rfl (pv_len_s rfl) ?_   -- t6 spec.go:502
  refine pu rfl (pv_eql rfl rfl) ?_   -- t7 spec.go:502
  refine LW.nil ?_
  refine SX.cond rfl (fun hc => ?_) (fun hc => ?_)   -- t7
  · skip
    refine SX.seq (SX.reg ?_)   -- region 2
    refine pu rfl pv_as ?_   -- t2 spec.go:503
    refine LW.nil ?_
    refine SX.ret ?_
    exact ⟨⟨_, rfl, by omega⟩, rfl⟩
  · skip
    have h0 : 0 < d.length := by simp at hc; exact List.length_pos_iff.2 hc
    have hq0 := u8_lt (d.getD 0 0)
    refine SX.skip ?_
    refine SX.seq (SX.reg ?_)   -- region 3
    refine pu rfl pv_mv ?_   -- t8 spec.go:505
    refine pu rfl (pv_index (k := 0) rfl rfl rfl (by omega)) ?_   -- t9 spec.go:505
    refine pu rfl (pv_int rfl) ?_   -- t10 spec.go:505
    refine pu rfl pv_as ?_   -- t3(a) spec.go:505
    refine LW.nil ?_
    refine SX.seq (SX.reg ?_)   -- region 4
    refine pu rfl pv_as ?_   -- t4(b) spec.go:506
    refine LW.nil ?_
    refine SX.mid (G := Int) (fun b => [(3, iv ((d.getD 0 0).toNat : Nat)), (4, iv b)]) (fun b w' => w = w' ∧ 0 ≤ b ∧ b ≤ 255) ?_ ?_
    · skip
      refine SX.seq (SX.reg ?_)   -- region 5
      refine pu rfl pv_mv ?_   -- t11 spec.go:507
      refine pu rfl (pv_len_s rfl) ?_   -- t12 spec.go:507
      refine pu rfl (pv_gtr rfl rfl) ?_   -- t13 spec.go:507
      refine LW.nil ?_
      refine SX.cond rfl (fun hc => ?_) (fun hc => ?_)   -- t13
      · skip
        have h1 : 1 < d.length := by simp at hc; omega
        have hq1 := u8_lt (d.getD 1 0)
        refine SX.reg ?_
        refine pu rfl pv_mv ?_   -- t14 spec.go:508
        refine pu rfl (pv_index (k := 1) rfl rfl rfl (by omega)) ?_   -- t15 spec.go:508
        refine pu rfl (pv_int rfl) ?_   -- t16 spec.go:508
        refine pu rfl pv_as ?_   -- t4(b) spec.go:508
        refine LW.nil ?_
        exact ⟨_, ⟨rfl, rfl, trivial⟩, rfl, by omega, by omega⟩
      · skip
        refine SX.skip ?_
        exact ⟨0, ⟨rfl, rfl, trivial⟩, rfl, by omega, by omega⟩
    rintro b w' ρ2 ⟨hw, hb0, hb1⟩
    subst hw
    have hbb0 : 0 ≤ b * b := Int.mul_nonneg hb0 hb0
    have hbb1 : b * b ≤ 255 * 255 := Int.mul_le_mul hb1 hb1 hb0 (by omega)
    have hr3 := Int.emod_lt_of_pos b (show (0 : Int) < 3 by decide)
    have hr3' := Int.emod_nonneg b (show (3 : Int) ≠ 0 by decide)
    have hr30 := Int.emod_lt_of_pos b (show (0 : Int) < 30 by decide)
    have hr30' := Int.emod_nonneg b (show (30 : Int) ≠ 0 by decide)
    refine SX.seq ?_
    refine SX.seq (SX.reg ?_)   -- region 7
    refine pu rfl pv_mv ?_   -- t17 spec.go:510
    refine pu rfl (pv_rem rfl rfl (by omega) (by omega)) ?_   -- t18 spec.go:510
    refine LW.nil ?_
    refine SX.block ?_
    refine SX.seq (SX.reg ?_)   -- region 8
    refine pu rfl (pv_eql rfl rfl) ?_   -- t20 spec.go:511
    refine pu rfl pv_as ?_   -- t19 spec.go:511
    refine LW.nil ?_
    refine SX.cond rfl (fun hc => ?_) (fun hc => ?_)   -- t19
    · skip
      refine SX.seq (SX.reg ?_)   -- region 9
      refine pu rfl pv_as ?_   -- t2 spec.go:512
      refine LW.nil ?_
      refine SX.ret ?_
      exact ⟨⟨_, rfl, by omega⟩, rfl⟩
    · skip
      refine SX.seq (SX.reg ?_)   -- region 10
      refine pu rfl (pv_eql rfl rfl) ?_   -- t22 spec.go:513
      refine pu rfl pv_as ?_   -- t21 spec.go:513
      refine LW.nil ?_
      refine SX.cond rfl (fun hc => ?_) (fun hc => ?_)   -- t21
      · skip
        refine SX.seq (SX.reg ?_)   -- region 11
        refine pu rfl pv_as ?_   -- t2 spec.go:514
        refine LW.nil ?_
        refine SX.ret ?_
        exact ⟨⟨_, rfl, by omega⟩, rfl⟩
      · skip
        refine SX.seq (SX.reg ?_)   -- region 12
        refine pu rfl (pv_eql rfl rfl) ?_   -- t24 spec.go:515
        refine pu rfl pv_as ?_   -- t23 spec.go:515
        refine LW.nil ?_
        refine SX.cond rfl (fun hc => ?_) (fun hc => ?_)   -- t23
        · skip
          refine SX.seq (SX.reg ?_)   -- region 13
          refine pu rfl pv_as ?_   -- t2 spec.go:516
          refine LW.nil ?_
          refine SX.ret ?_
          exact ⟨⟨_, rfl, by omega⟩, rfl⟩
        · skip
          refine SX.seq (SX.reg ?_)   -- region 14
          refine pu rfl (pv_eql rfl rfl) ?_   -- t26 spec.go:517
          refine pu rfl pv_as ?_   -- t25 spec.go:517
          refine LW.nil ?_
          refine SX.cond rfl (fun hc => ?_) (fun hc => ?_)   -- t25
          · skip
            refine SX.seq (SX.reg ?_)   -- region 15
            refine pu rfl pv_mv ?_   -- t27 spec.go:518
            refine pu rfl pv_mv ?_   -- t28 spec.go:518
            refine pu rfl (pv_mul rfl rfl (by omega)) ?_   -- t29 spec.go:518
            refine pu rfl (pv_mul rfl rfl (by omega)) ?_   -- t30 spec.go:518
            refine pu rfl (pv_sub rfl rfl (by omega)) ?_   -- t31 spec.go:518
            refine pu rfl pv_as ?_   -- t2 spec.go:518
            refine LW.nil ?_
            refine SX.ret ?_
            exact ⟨⟨_, rfl, by omega⟩, rfl⟩
          · skip
            refine SX.seq (SX.reg ?_)   -- region 16
            refine pu rfl (pv_eql rfl rfl) ?_   -- t33 spec.go:519
            refine pu rfl pv_as ?_   -- t32 spec.go:519
            refine LW.nil ?_
            refine SX.cond rfl (fun hc => ?_) (fun hc => ?_)   -- t32
            · skip
              refine SX.seq (SX.reg ?_)   -- region 17
              refine pu rfl pv_mv ?_   -- t34 spec.go:520
              refine pu rfl pv_mv ?_   -- t35 spec.go:520
              refine pu rfl (pv_mul rfl rfl (by omega)) ?_   -- t36 spec.go:520
              refine pu rfl (pv_mul rfl rfl (by omega)) ?_   -- t37 spec.go:520
              refine pu rfl (pv_add rfl rfl (by omega)) ?_   -- t38 spec.go:520
              refine pu rfl pv_as ?_   -- t2 spec.go:520
              refine LW.nil ?_
              refine SX.ret ?_
              exact ⟨⟨_, rfl, by omega⟩, rfl⟩
            · skip
              refine SX.seq (SX.reg ?_)   -- region 18
              refine pu rfl (pv_eql rfl rfl) ?_   -- t40 spec.go:521
              refine pu rfl pv_as ?_   -- t39 spec.go:521
              refine LW.nil ?_
              refine SX.cond rfl (fun hc => ?_) (fun hc => ?_)   -- t39
              · skip
                refine SX.seq (SX.reg ?_)   -- region 19
                refine pu rfl pv_mv ?_   -- t41 spec.go:522
                refine pu rfl (pv_rem rfl rfl (by omega) (by omega)) ?_   -- t42 spec.go:522
                refine pu rfl (pv_add rfl rfl (by omega)) ?_   -- t43 spec.go:522
                refine pu rfl pv_as ?_   -- t2 spec.go:522
                refine LW.nil ?_
                refine SX.ret ?_
                exact ⟨⟨_, rfl, by omega⟩, rfl⟩
              · skip
                refine SX.skip ?_
                refine SX.seq (SX.reg ?_)   -- region 20
                refine pu rfl pv_mv ?_   -- t44 spec.go:524
                refine pu rfl (pv_rem rfl rfl (by omega) (by omega)) ?_   -- t45 spec.go:524
                refine pu rfl (pv_add rfl rfl (by omega)) ?_   -- t46 spec.go:524
                refine pu rfl pv_as ?_   -- t2 spec.go:524
                refine LW.nil ?_
                refine SX.ret ?_
                exact ⟨⟨_, rfl, by omega⟩, rfl⟩

theorem f40_ok (k : Int) (d : Str) (w : World) : Fn 40 [iv k, S d] w (fun v w' => (∃ z : Int, v = iv z ∧ z ≤ 9223372036854775807) ∧ w = w') := by
  refine Fn.mk1 (N := 22) Yabc.func40 rfl rfl rfl rfl ?_
  refine SX.seq (SX.reg ?_)   -- region 0
  refine pu rfl pv_as ?_   -- t4 laws.go:554
  refine LW.nil ?_
  refine SX.seq ?_
  refine SX.seq (SX.reg ?_)   -- region 1
  refine pu rfl pv_mv ?_   -- t5 laws.go:555
  refine LW.nil ?_
  refine SX.block ?_
  refine SX.seq (SX.reg ?_)   -- region 2
  refine pu rfl (pv_eql rfl rfl) ?_   -- t7 laws.go:556
  refine pu rfl pv_as ?_   -- t6 laws.go:556
  refine LW.nil ?_
  refine SX.cond rfl (fun hc => ?_) (fun hc => ?_)   -- t6
  · skip
    refine SX.seq (SX.reg ?_)   -- region 3
    refine pu rfl pv_as ?_   -- t4 laws.go:557
    refine LW.nil ?_
    refine SX.ret ?_
    exact ⟨⟨_, rfl, by omega⟩, rfl⟩
  · skip
    refine SX.seq (SX.reg ?_)   -- region 4
    refine pu rfl (pv_eql rfl rfl) ?_   -- t9 laws.go:558
    refine pu rfl pv_as ?_   -- t8 laws.go:558
    refine LW.nil ?_
    refine SX.cond rfl (fun hc => ?_) (fun hc => ?_)   -- t8
    · skip
      refine SX.seq (SX.reg ?_)   -- region 5
      refine pu rfl pv_as ?_   -- t4 laws.go:559
      refine LW.nil ?_
      refine SX.ret ?_
      exact ⟨⟨_, rfl, by omega⟩, rfl⟩
    · skip
      refine SX.seq (SX.reg ?_)   -- region 6
      refine pu rfl (pv_eql rfl rfl) ?_   -- t11 laws.go:560
      refine pu rfl pv_as ?_   -- t10 laws.go:560
      refine LW.nil ?_
      refine SX.cond rfl (fun hc => ?_) (fun hc => ?_)   -- t10
      · skip
        refine SX.seq (SX.reg ?_)   -- region 7
        refine pu rfl pv_as ?_   -- t4 laws.go:561
        refine LW.nil ?_
        refine SX.ret ?_
        exact ⟨⟨_, rfl, by omega⟩, rfl⟩
      · skip
        refine SX.seq (SX.reg ?_)   -- region 8
        refine pu rfl (pv_eql rfl rfl) ?_   -- t13 laws.go:562
        refine pu rfl pv_as ?_   -- t12 laws.go:562
        refine LW.nil ?_
        refine SX.cond rfl (fun hc => ?_) (fun hc => ?_)   -- t12
        · skip
          refine SX.seq (SX.reg ?_)   -- region 9
          refine pu rfl pv_as ?_   -- t4 laws.go:563
          refine LW.nil ?_
          refine SX.ret ?_
          exact ⟨⟨_, rfl, by omega⟩, rfl⟩
        · skip
          refine SX.seq (SX.reg ?_)   -- region 10
          refine pu rfl (pv_eql rfl rfl) ?_   -- t15 laws.go:564
          refine pu rfl pv_as ?_   -- t14 laws.go:564
          refine LW.nil ?_
          refine SX.cond rfl (fun hc => ?_) (fun hc => ?_)   -- t14
          · skip
            refine SX.seq (SX.reg ?_)   -- region 11
            refine pu rfl pv_as ?_   -- t4 laws.go:565
            refine LW.nil ?_
            refine SX.ret ?_
            exact ⟨⟨_, rfl, by omega⟩, rfl⟩
          · skip
            refine SX.seq (SX.reg ?_)   -- region 12
            refine pu rfl (pv_eql rfl rfl) ?_   -- t17 laws.go:566
            refine pu rfl pv_as ?_   -- t16 laws.go:566
            refine LW.nil ?_
            refine SX.cond rfl (fun hc => ?_) (fun hc => ?_)   -- t16
            · skip
              refine SX.seq (SX.reg ?_)   -- region 13
              refine pu rfl pv_as ?_   -- t4 laws.go:567
              refine LW.nil ?_
              refine SX.ret ?_
              exact ⟨⟨_, rfl, by omega⟩, rfl⟩
            · skip
              refine SX.seq (SX.reg ?_)   -- region 14
              refine pu rfl (pv_eql rfl rfl) ?_   -- t19 laws.go:568
              refine pu rfl pv_as ?_   -- t18 laws.go:568
              refine LW.nil ?_
              refine SX.cond rfl (fun hc => ?_) (fun hc => ?_)   -- t18
              · skip
                refine SX.seq (SX.reg ?_)   -- region 15
                refine pu rfl pv_as ?_   -- t4 laws.go:569
                refine LW.nil ?_
                refine SX.ret ?_
                exact ⟨⟨_, rfl, by omega⟩, rfl⟩
              · skip
                refine SX.skip ?_
                refine SX.seq (SX.reg ?_)   -- region 16
                refine pu rfl pv_mv ?_   -- t20 laws.go:571
                refine evd rfl (ev_call cb93 rfl (f93_ok d w) ?_)   -- t21 laws.go:571
                rintro _ _ ⟨⟨z, rfl, hz⟩, rfl⟩
                refine pu rfl pv_as ?_   -- t4 laws.go:571
                refine LW.nil ?_
                refine SX.ret ?_
                exact ⟨⟨_, rfl, by omega⟩, rfl⟩

end Go.Proofs.Ybuabw
