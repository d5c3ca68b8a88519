/-
  WALKS. Decoders, second part. Own work for the seat Ybuabw (the steps of each walk were typed by a program of ours off the printed code).
-/
import Derived.Test.YbuabwW18
namespace Go.Proofs.Ybuabw
open Go.RowKit
set_option linter.unusedVariables false
set_option linter.unusedSimpArgs false
set_option maxRecDepth 20000

theorem f17_ok (d : Str) (w : World) : Fn 17 [S d] w (fun v w' => (∃ l : List Tri, Rd w' tI v l ∧ l.length ≤ 65536 ∧ tl l ≤ 65536) ∧ Ext w w') := by
  refine Fn.mk1 (N := 60) Yabc.func17 rfl rfl rfl rfl ?_
  refine SX.seq (SX.reg ?_)   -- region 0
  refine pu rfl pv_as ?_   -- t2 spec.go:357
  refine LW.nil ?_
  refine SX.seq (SX.reg ?_)   -- region 1
  refine pu rfl pv_mv ?_   -- t8 spec.go:358
  refine evd rfl (ev_call cb70 rfl (f70_ok d w) ?_)   -- t9 spec.go:358
  rintro _ _ ⟨rfl, rfl⟩
  have hD1 : (d.take 65536).length ≤ 65536 := List.length_take_le _ _
  have hD2 : (d.take 65536).length ≤ d.length := by simp only [List.length_take]; omega
  generalize d.take 65536 = D at *
  refine pu rfl pv_as ?_   -- t0(data) spec.go:358
  refine LW.nil ?_
  refine SX.seq (SX.reg ?_)   -- region 2
  refine pu rfl pv_as ?_   -- t3(out) spec.go:359
  refine LW.nil ?_
  refine SX.seq (SX.reg ?_)   -- region 3
  refine pu rfl pv_as ?_   -- t4(i) spec.go:360
  refine LW.nil ?_
  refine SX.seq ?_
  refine SX.block ?_
  refine SX.loop3 (fun (i : Nat) (out : List Tri) vo => [(0, S D), (3, vo), (4, iv i)]) (fun i out vo w' => i ≤ D.length ∧ Ext w w' ∧ Own w' w.heap.size tI vo out ∧ out.length ≤ i ∧ tl out ≤ i) (fun i _ _ => D.length - i) 0 [] (.slice none 0 0) ⟨rfl, rfl, rfl, trivial⟩ ⟨Nat.zero_le _, Ext.refl w, Own.nil _ _ _, by simp, by simp [tl]⟩ ?_
  rintro i out vo w2 ρ1 ⟨hi, hx, ho, hol, hot⟩
  refine SX.seq ?_
  refine SX.seq (SX.reg ?_)   -- region 4
  refine pu rfl pv_mv ?_   -- t10 spec.go:361
  refine pu rfl pv_mv ?_   -- t11 spec.go:361
  refine pu rfl (pv_len_s rfl) ?_   -- t12 spec.go:361
  refine pu rfl (pv_lss rfl rfl) ?_   -- t13 spec.go:361
  refine LW.nil ?_
  refine SX.cond rfl (fun hc => ?_) (fun hc => ?_)   -- t13
  · skip
    have hlt : i < D.length := by simpa using hc
    refine SX.skip ?_
    refine SX.block ?_
    refine SX.seq (SX.reg ?_)   -- region 5
    refine pu rfl pv_mv ?_   -- t14 spec.go:362
    refine pu rfl pv_mv ?_   -- t15 spec.go:362
    refine pu rfl (pv_index (k := i) rfl rfl (by omega) (by omega)) ?_   -- t16 spec.go:362
    refine pu rfl pv_as ?_   -- t5(h) spec.go:362
    refine LW.nil ?_
    refine SX.seq (SX.reg ?_)   -- region 6
    refine pu rfl pv_mv ?_   -- t17 spec.go:363
    refine pu rfl (pv_add rfl rfl (by omega)) ?_   -- t18 spec.go:363
    refine pu rfl pv_as ?_   -- t4(i) spec.go:363
    refine LW.nil ?_
    refine SX.seq (SX.reg ?_)   -- region 7
    refine pu rfl pv_as ?_   -- t6(n) spec.go:364
    refine LW.nil ?_
    refine SX.mid2 (fun (i2 : Nat) (n : Int) => [(0, S D), (3, vo), (4, iv i2), (5, bt (D.getD i 0)), (6, iv n)]) (fun i2 n w' => w2 = w' ∧ i < i2 ∧ i2 ≤ D.length ∧ 0 ≤ n ∧ n ≤ 255) ?_ ?_
    · skip
      refine SX.seq (SX.reg ?_)   -- region 8
      refine pu rfl pv_mv ?_   -- t19 spec.go:365
      refine pu rfl pv_mv ?_   -- t20 spec.go:365
      refine pu rfl (pv_len_s rfl) ?_   -- t21 spec.go:365
      refine pu rfl (pv_lss rfl rfl) ?_   -- t22 spec.go:365
      refine LW.nil ?_
      refine SX.cond rfl (fun hc => ?_) (fun hc => ?_)   -- t22
      · skip
        have hlt2 : i + 1 < D.length := by simp at hc; omega
        have hmm := u8_lt (D.getD (i + 1) 0 % 7)
        refine SX.seq (SX.reg ?_)   -- region 9
        refine pu rfl pv_mv ?_   -- t23 spec.go:366
        refine pu rfl pv_mv ?_   -- t24 spec.go:366
        refine pu rfl (pv_index (k := i + 1) rfl rfl (by omega) (by omega)) ?_   -- t25 spec.go:366
        refine pu rfl (pv_remB (b := 7) rfl rfl (by decide)) ?_   -- t26 spec.go:366
        refine pu rfl (pv_int rfl) ?_   -- t27 spec.go:366
        refine pu rfl pv_as ?_   -- t6(n) spec.go:366
        refine LW.nil ?_
        refine SX.reg ?_
        refine pu rfl pv_mv ?_   -- t28 spec.go:367
        refine pu rfl (pv_add rfl rfl (by omega)) ?_   -- t29 spec.go:367
        refine pu rfl pv_as ?_   -- t4(i) spec.go:367
        refine LW.nil ?_
        exact ⟨i + 2, _, ⟨rfl, rfl, rfl, rfl, rfl, trivial⟩, rfl, by omega, by omega, by omega, by omega⟩
      · skip
        refine SX.skip ?_
        exact ⟨i + 1, 0, ⟨rfl, rfl, rfl, rfl, rfl, trivial⟩, rfl, by omega, by omega, by omega, by omega⟩
    rintro i2 n w2' ρ2 ⟨hw, hi1, hi2, hn0, hn1⟩
    subst hw
    refine SX.seq (SX.reg ?_)   -- region 11
    refine pu rfl pv_as ?_   -- t7(t) spec.go:369
    refine LW.nil ?_
    refine SX.seq ?_
    refine SX.block ?_
    refine SX.loop4 (fun (i3 : Nat) (n : Int) (t : Str) vt => [(0, S D), (3, vo), (4, iv i3), (5, bt (D.getD i 0)), (6, iv n), (7, vt)]) (fun i3 n t vt w' => i2 ≤ i3 ∧ i3 ≤ D.length ∧ 0 ≤ n ∧ n ≤ 255 ∧ Ext w2 w' ∧ Own w' w2.heap.size tB vt t ∧ t.length + i2 ≤ i3) (fun i3 _ _ _ => D.length - i3) i2 n [] (.slice none 0 0) ⟨rfl, rfl, rfl, rfl, rfl, rfl, trivial⟩ ⟨Nat.le_refl _, hi2, hn0, hn1, Ext.refl w2, Own.nil _ _ _, by simp⟩ ?_
    clear hn0 hn1 n
    rintro i3 n t vt w3 ρ3 ⟨h3a, h3b, hn0, hn1, hx3, ho3, ht3⟩
    refine SX.seq ?_
    refine SX.seq (SX.reg ?_)   -- region 12
    refine pu rfl pv_mv ?_   -- t30 spec.go:370
    refine pu rfl (pv_gtr rfl rfl) ?_   -- t31 spec.go:370
    refine pu rfl pv_mv ?_   -- t32 spec.go:370
    refine LW.sc true 4 2 32 33 37 (b := decide ((i3 : Int) < (D.length : Int))) (fun w' => w3 = w') rfl rfl rfl rfl (fun _ => rfl) rfl (fun ht => ?_) rfl (fun J w' hw' => ?_)   -- t37 := pick ['t32', 't36', "c:['false']"]
    · skip
      refine pu rfl pv_mv ?_   -- t33 spec.go:370
      refine pu rfl pv_mv ?_   -- t34 spec.go:370
      refine pu rfl (pv_len_s rfl) ?_   -- t35 spec.go:370
      refine pu rfl (pv_lss rfl rfl) ?_   -- t36 spec.go:370
      exact LW.nil ⟨rfl, rfl⟩
    subst hw'
    refine LW.nil ?_
    refine SX.cond rfl (fun hc => ?_) (fun hc => ?_)   -- t37
    · skip
      simp only [scv, Bool.and_eq_true, decide_eq_true_eq] at hc
      have hn2 := hc.1
      have h3c : i3 < D.length := by have := hc.2; omega
      refine SX.skip ?_
      refine SX.block ?_
      refine SX.seq (SX.reg ?_)   -- region 13
      refine pu rfl pv_mv ?_   -- t38 spec.go:371
      refine pu rfl pv_mv ?_   -- t39 spec.go:371
      refine pu rfl pv_mv ?_   -- t40 spec.go:371
      refine pu rfl (pv_index (k := i3) rfl rfl (by omega) (by omega)) ?_   -- t41 spec.go:371
      refine evd rfl (ev_call cb73 rfl (f73_ok (D.getD i3 0) w3) ?_)   -- t42 spec.go:371
      rintro _ _ ⟨⟨c, rfl⟩, rfl⟩
      refine push (T := tB) c sl83 okB (by decide) ho3 hx3.size rfl (fun _ => rfl) rfl rfl (by omega) (by unfold maxLen; omega) fun J1 v5 w5 ho5 hg5 => ?_   -- t43 spec.go:371
      refine pu rfl pv_as ?_   -- t7(t) spec.go:371
      refine LW.nil ?_
      refine SX.seq (SX.reg ?_)   -- region 14
      refine pu rfl pv_mv ?_   -- t45 spec.go:372
      refine pu rfl (pv_add rfl rfl (by omega)) ?_   -- t46 spec.go:372
      refine pu rfl pv_as ?_   -- t4(i) spec.go:372
      refine LW.nil ?_
      refine SX.reg ?_
      refine pu rfl pv_mv ?_   -- t47 spec.go:373
      refine pu rfl (pv_sub rfl rfl (by omega)) ?_   -- t48 spec.go:373
      refine pu rfl pv_as ?_   -- t6(n) spec.go:373
      refine LW.nil ?_
      exact ⟨i3 + 1, n - 1, _, v5, ⟨rfl, rfl, rfl, rfl, rfl, rfl, trivial⟩, ⟨by omega, by omega, by omega, by omega, hx3.step hg5.grown (fun g e => (ho3.lt g e).1), ho5, by simp; omega⟩, by omega⟩
    · skip
      have hx5 := hx3
      have ho5 := ho3
      have hsv : Sep vt vo := by
        unfold Sep
        cases e : vt.ownBlock with
        | none => exact .inl rfl
        | some k => exact .inr (fun e2 => by have h1 := (ho5.lt k e).1; have h2 := (ho.lt k e2.symm).2; omega)
      have hr5 : Rd w3.drew tB vt t := ho5.rd.ext (Ext.drew w3)
      generalize w3 = w5 at *
      refine SX.exit (xb_here ?_)
      skip
      refine SX.draw [(0, true), (1, true), (3, true), (5, true), (6, true), (2, false), (4, false), (7, true), (8, false), (9, false), (10, true)] (fun w' => Rd w' tB vt t) (by kernel_rfl) (hr5) ?_   -- region 16
      refine du rfl rfl (fun w' hw' => pv_mv) ?_   -- 0: t49 spec.go:375 
      refine du rfl rfl (fun w' hw' => pv_mv) ?_   -- 1: t50 spec.go:375 
      refine du rfl rfl (fun w' hw' => pv_mv) ?_   -- 3: t52 spec.go:375 
      refine du rfl rfl (fun w' hw' => pv_mv) ?_   -- 5: t54 spec.go:375 
      refine du rfl rfl (fun w' hw' => pv_str hw' rfl) ?_   -- 6: t55 spec.go:375 
      refine dev rfl rfl (ev_call cb74 rfl (f74_ok (D.getD i 0) w5.drew) ?_)   -- 2: t51 spec.go:375 
      rintro _ _ ⟨⟨n0, rfl⟩, rfl⟩
      refine ⟨hr5, ?_⟩
      refine dev rfl rfl (ev_call cb75 rfl (f75_ok (D.getD i 0) w5.drew) ?_)   -- 4: t53 spec.go:375 
      rintro _ _ ⟨⟨n1, rfl⟩, rfl⟩
      refine ⟨hr5, ?_⟩
      refine du rfl rfl (fun w' hw' => pv_bd rfl (bd67 _ _ _)) ?_   -- 7: t56 spec.go:375 
      refine dev rfl rfl (ev_bs1 (cs := encT ⟨n0, n1, t⟩) sl23 rfl rfl (by decide) fun w6 hn6 => ?_)   -- 8: t57 spec.go:375 
      have hx6 := hx5.trans ((Ext.drew w5).trans hn6.ext)
      have ho6 := (ho.ext hx5).ext ((Ext.drew w5).trans hn6.ext)
      refine ⟨hr5.ext hn6.ext, ?_⟩
      refine dev rfl rfl (ev_app1 (T := tI) (x1 := ⟨n0, n1, t⟩) sl23 okI ho6 (Nat.le_trans hx.size hx6.size) hn6.blk rfl rfl (by omega) (by unfold maxLen; omega) fun v7 w7 ho7 hg7 => ?_)   -- 9: t58 spec.go:375 
      have hr7 : Rd w7 tB vt t := (hr5.ext hn6.ext).keep hg7.grown hsv
      refine ⟨hr7, ?_⟩
      refine du rfl rfl (fun w' hw' => pv_as) ?_   -- 10: t3(out) spec.go:375 
      refine DW.nil ?_
      exact ⟨i3, _, v7, ⟨rfl, rfl, rfl, trivial⟩, ⟨h3b, (hx.trans hx6).step hg7.grown (fun g e => (ho6.lt g e).1), ho7, by simp; omega, by rw [tl_append]; simp only [tl]; omega⟩, by omega⟩
  · skip
    refine SX.exit (xb_here ?_)
    refine SX.seq (SX.reg ?_)   -- region 17
    refine pu rfl pv_mv ?_   -- t59 spec.go:377
    refine pu rfl pv_as ?_   -- t2 spec.go:377
    refine LW.nil ?_
    refine SX.ret ?_
    exact ⟨⟨out, ho.rd, by omega, by omega⟩, hx⟩

theorem f18_ok (d : Str) (w : World) : Fn 18 [S d] w (fun v w' => (∃ l : List Frg, Rd w' tF v l ∧ l.length ≤ 65536 ∧ tlF l ≤ 65536) ∧ Ext w w') := by
  refine Fn.mk1 (N := 62) Yabc.func18 rfl rfl rfl rfl ?_
  refine SX.seq (SX.reg ?_)   -- region 0
  refine pu rfl pv_as ?_   -- t2 spec.go:418
  refine LW.nil ?_
  refine SX.seq (SX.reg ?_)   -- region 1
  refine pu rfl pv_mv ?_   -- t8 spec.go:419
  refine evd rfl (ev_call cb70 rfl (f70_ok d w) ?_)   -- t9 spec.go:419
  rintro _ _ ⟨rfl, rfl⟩
  have hD1 : (d.take 65536).length ≤ 65536 := List.length_take_le _ _
  have hD2 : (d.take 65536).length ≤ d.length := by simp only [List.length_take]; omega
  generalize d.take 65536 = D at *
  refine pu rfl pv_as ?_   -- t0(data) spec.go:419
  refine LW.nil ?_
  refine SX.seq (SX.reg ?_)   -- region 2
  refine pu rfl pv_as ?_   -- t3(out) spec.go:420
  refine LW.nil ?_
  refine SX.seq (SX.reg ?_)   -- region 3
  refine pu rfl pv_as ?_   -- t4(i) spec.go:421
  refine LW.nil ?_
  refine SX.seq ?_
  refine SX.block ?_
  refine SX.loop3 (fun (i : Nat) (out : List Frg) vo => [(0, S D), (3, vo), (4, iv i)]) (fun i out vo w' => i ≤ D.length ∧ Ext w w' ∧ Own w' w.heap.size tF vo out ∧ out.length ≤ i ∧ tlF out ≤ i) (fun i _ _ => D.length - i) 0 [] (.slice none 0 0) ⟨rfl, rfl, rfl, trivial⟩ ⟨Nat.zero_le _, Ext.refl w, Own.nil _ _ _, by simp, by simp [tlF]⟩ ?_
  rintro i out vo w2 ρ1 ⟨hi, hx, ho, hol, hot⟩
  refine SX.seq ?_
  refine SX.seq (SX.reg ?_)   -- region 4
  refine pu rfl pv_mv ?_   -- t10 spec.go:422
  refine pu rfl pv_mv ?_   -- t11 spec.go:422
  refine pu rfl (pv_len_s rfl) ?_   -- t12 spec.go:422
  refine pu rfl (pv_lss rfl rfl) ?_   -- t13 spec.go:422
  refine LW.nil ?_
  refine SX.cond rfl (fun hc => ?_) (fun hc => ?_)   -- t13
  · skip
    have hlt : i < D.length := by simpa using hc
    refine SX.skip ?_
    refine SX.block ?_
    refine SX.seq (SX.reg ?_)   -- region 5
    refine pu rfl pv_mv ?_   -- t14 spec.go:423
    refine pu rfl pv_mv ?_   -- t15 spec.go:423
    refine pu rfl (pv_index (k := i) rfl rfl (by omega) (by omega)) ?_   -- t16 spec.go:423
    refine pu rfl pv_as ?_   -- t5(h) spec.go:423
    refine LW.nil ?_
    refine SX.seq (SX.reg ?_)   -- region 6
    refine pu rfl pv_mv ?_   -- t17 spec.go:424
    refine pu rfl (pv_add rfl rfl (by omega)) ?_   -- t18 spec.go:424
    refine pu rfl pv_as ?_   -- t4(i) spec.go:424
    refine LW.nil ?_
    refine SX.seq (SX.reg ?_)   -- region 7
    refine pu rfl pv_as ?_   -- t6(n) spec.go:425
    refine LW.nil ?_
    refine SX.mid2 (fun (i2 : Nat) (n : Int) => [(0, S D), (3, vo), (4, iv i2), (5, bt (D.getD i 0)), (6, iv n)]) (fun i2 n w' => w2 = w' ∧ i < i2 ∧ i2 ≤ D.length ∧ 0 ≤ n ∧ n ≤ 255) ?_ ?_
    · skip
      refine SX.seq (SX.reg ?_)   -- region 8
      refine pu rfl pv_mv ?_   -- t19 spec.go:426
      refine pu rfl pv_mv ?_   -- t20 spec.go:426
      refine pu rfl (pv_len_s rfl) ?_   -- t21 spec.go:426
      refine pu rfl (pv_lss rfl rfl) ?_   -- t22 spec.go:426
      refine LW.nil ?_
      refine SX.cond rfl (fun hc => ?_) (fun hc => ?_)   -- t22
      · skip
        have hlt2 : i + 1 < D.length := by simp at hc; omega
        have hmm := u8_lt (D.getD (i + 1) 0 % 6)
        refine SX.seq (SX.reg ?_)   -- region 9
        refine pu rfl pv_mv ?_   -- t23 spec.go:427
        refine pu rfl pv_mv ?_   -- t24 spec.go:427
        refine pu rfl (pv_index (k := i + 1) rfl rfl (by omega) (by omega)) ?_   -- t25 spec.go:427
        refine pu rfl (pv_remB (b := 6) rfl rfl (by decide)) ?_   -- t26 spec.go:427
        refine pu rfl (pv_int rfl) ?_   -- t27 spec.go:427
        refine pu rfl pv_as ?_   -- t6(n) spec.go:427
        refine LW.nil ?_
        refine SX.reg ?_
        refine pu rfl pv_mv ?_   -- t28 spec.go:428
        refine pu rfl (pv_add rfl rfl (by omega)) ?_   -- t29 spec.go:428
        refine pu rfl pv_as ?_   -- t4(i) spec.go:428
        refine LW.nil ?_
        exact ⟨i + 2, _, ⟨rfl, rfl, rfl, rfl, rfl, trivial⟩, rfl, by omega, by omega, by omega, by omega⟩
      · skip
        refine SX.skip ?_
        exact ⟨i + 1, 0, ⟨rfl, rfl, rfl, rfl, rfl, trivial⟩, rfl, by omega, by omega, by omega, by omega⟩
    rintro i2 n w2' ρ2 ⟨hw, hi1, hi2, hn0, hn1⟩
    subst hw
    refine SX.seq (SX.reg ?_)   -- region 11
    refine pu rfl pv_as ?_   -- t7(t) spec.go:430
    refine LW.nil ?_
    refine SX.seq ?_
    refine SX.block ?_
    refine SX.loop4 (fun (i3 : Nat) (n : Int) (t : Str) vt => [(0, S D), (3, vo), (4, iv i3), (5, bt (D.getD i 0)), (6, iv n), (7, vt)]) (fun i3 n t vt w' => i2 ≤ i3 ∧ i3 ≤ D.length ∧ 0 ≤ n ∧ n ≤ 255 ∧ Ext w2 w' ∧ Own w' w2.heap.size tB vt t ∧ t.length + i2 ≤ i3) (fun i3 _ _ _ => D.length - i3) i2 n [] (.slice none 0 0) ⟨rfl, rfl, rfl, rfl, rfl, rfl, trivial⟩ ⟨Nat.le_refl _, hi2, hn0, hn1, Ext.refl w2, Own.nil _ _ _, by simp⟩ ?_
    clear hn0 hn1 n
    rintro i3 n t vt w3 ρ3 ⟨h3a, h3b, hn0, hn1, hx3, ho3, ht3⟩
    refine SX.seq ?_
    refine SX.seq (SX.reg ?_)   -- region 12
    refine pu rfl pv_mv ?_   -- t30 spec.go:431
    refine pu rfl (pv_gtr rfl rfl) ?_   -- t31 spec.go:431
    refine pu rfl pv_mv ?_   -- t32 spec.go:431
    refine LW.sc true 4 2 32 33 37 (b := decide ((i3 : Int) < (D.length : Int))) (fun w' => w3 = w') rfl rfl rfl rfl (fun _ => rfl) rfl (fun ht => ?_) rfl (fun J w' hw' => ?_)   -- t37 := pick ['t32', 't36', "c:['false']"]
    · skip
      refine pu rfl pv_mv ?_   -- t33 spec.go:431
      refine pu rfl pv_mv ?_   -- t34 spec.go:431
      refine pu rfl (pv_len_s rfl) ?_   -- t35 spec.go:431
      refine pu rfl (pv_lss rfl rfl) ?_   -- t36 spec.go:431
      exact LW.nil ⟨rfl, rfl⟩
    subst hw'
    refine LW.nil ?_
    refine SX.cond rfl (fun hc => ?_) (fun hc => ?_)   -- t37
    · skip
      simp only [scv, Bool.and_eq_true, decide_eq_true_eq] at hc
      have hn2 := hc.1
      have h3c : i3 < D.length := by have := hc.2; omega
      refine SX.skip ?_
      refine SX.block ?_
      refine SX.seq (SX.reg ?_)   -- region 13
      refine pu rfl pv_mv ?_   -- t38 spec.go:432
      refine pu rfl pv_mv ?_   -- t39 spec.go:432
      refine pu rfl pv_mv ?_   -- t40 spec.go:432
      refine pu rfl (pv_index (k := i3) rfl rfl (by omega) (by omega)) ?_   -- t41 spec.go:432
      refine evd rfl (ev_call cb73 rfl (f73_ok (D.getD i3 0) w3) ?_)   -- t42 spec.go:432
      rintro _ _ ⟨⟨c, rfl⟩, rfl⟩
      refine push (T := tB) c sl83 okB (by decide) ho3 hx3.size rfl (fun _ => rfl) rfl rfl (by omega) (by unfold maxLen; omega) fun J1 v5 w5 ho5 hg5 => ?_   -- t43 spec.go:432
      refine pu rfl pv_as ?_   -- t7(t) spec.go:432
      refine LW.nil ?_
      refine SX.seq (SX.reg ?_)   -- region 14
      refine pu rfl pv_mv ?_   -- t45 spec.go:433
      refine pu rfl (pv_add rfl rfl (by omega)) ?_   -- t46 spec.go:433
      refine pu rfl pv_as ?_   -- t4(i) spec.go:433
      refine LW.nil ?_
      refine SX.reg ?_
      refine pu rfl pv_mv ?_   -- t47 spec.go:434
      refine pu rfl (pv_sub rfl rfl (by omega)) ?_   -- t48 spec.go:434
      refine pu rfl pv_as ?_   -- t6(n) spec.go:434
      refine LW.nil ?_
      exact ⟨i3 + 1, n - 1, _, v5, ⟨rfl, rfl, rfl, rfl, rfl, rfl, trivial⟩, ⟨by omega, by omega, by omega, by omega, hx3.step hg5.grown (fun g e => (ho3.lt g e).1), ho5, by simp; omega⟩, by omega⟩
    · skip
      have hx5 := hx3
      have ho5 := ho3
      have hsv : Sep vt vo := by
        unfold Sep
        cases e : vt.ownBlock with
        | none => exact .inl rfl
        | some k => exact .inr (fun e2 => by have h1 := (ho5.lt k e).1; have h2 := (ho.lt k e2.symm).2; omega)
      have hr5 : Rd w3.drew tB vt t := ho5.rd.ext (Ext.drew w3)
      generalize w3 = w5 at *
      refine SX.exit (xb_here ?_)
      skip
      refine SX.draw [(0, true), (1, true), (3, true), (5, true), (7, true), (8, true), (2, false), (4, false), (6, false), (9, true), (10, false), (11, false), (12, true)] (fun w' => Rd w' tB vt t) (by kernel_rfl) (hr5) ?_   -- region 16
      refine du rfl rfl (fun w' hw' => pv_mv) ?_   -- 0: t49 spec.go:436 
      refine du rfl rfl (fun w' hw' => pv_mv) ?_   -- 1: t50 spec.go:436 
      refine du rfl rfl (fun w' hw' => pv_mv) ?_   -- 3: t52 spec.go:436 
      refine du rfl rfl (fun w' hw' => pv_mv) ?_   -- 5: t54 spec.go:436 
      refine du rfl rfl (fun w' hw' => pv_mv) ?_   -- 7: t56 spec.go:436 
      refine du rfl rfl (fun w' hw' => pv_str hw' rfl) ?_   -- 8: t57 spec.go:436 
      refine dev rfl rfl (ev_call cb76 rfl (f76_ok (D.getD i 0) w5.drew) ?_)   -- 2: t51 spec.go:436 
      rintro _ _ ⟨⟨n0, rfl⟩, rfl⟩
      refine ⟨hr5, ?_⟩
      refine dev rfl rfl (ev_call cb77 rfl (f77_ok (D.getD i 0) w5.drew) ?_)   -- 4: t53 spec.go:436 
      rintro _ _ ⟨⟨n1, rfl⟩, rfl⟩
      refine ⟨hr5, ?_⟩
      refine dev rfl rfl (ev_call cb78 rfl (f78_ok (D.getD i 0) w5.drew) ?_)   -- 6: t55 spec.go:436 
      rintro _ _ ⟨⟨n2, rfl⟩, rfl⟩
      refine ⟨hr5, ?_⟩
      refine du rfl rfl (fun w' hw' => pv_bd rfl (bd76 _ _ _ _)) ?_   -- 9: t58 spec.go:436 
      refine dev rfl rfl (ev_bs1 (cs := encF ⟨n0, n1, n2, t⟩) sl25 rfl rfl (by decide) fun w6 hn6 => ?_)   -- 10: t59 spec.go:436 
      have hx6 := hx5.trans ((Ext.drew w5).trans hn6.ext)
      have ho6 := (ho.ext hx5).ext ((Ext.drew w5).trans hn6.ext)
      refine ⟨hr5.ext hn6.ext, ?_⟩
      refine dev rfl rfl (ev_app1 (T := tF) (x1 := ⟨n0, n1, n2, t⟩) sl25 okF ho6 (Nat.le_trans hx.size hx6.size) hn6.blk rfl rfl (by omega) (by unfold maxLen; omega) fun v7 w7 ho7 hg7 => ?_)   -- 11: t60 spec.go:436 
      have hr7 : Rd w7 tB vt t := (hr5.ext hn6.ext).keep hg7.grown hsv
      refine ⟨hr7, ?_⟩
      refine du rfl rfl (fun w' hw' => pv_as) ?_   -- 12: t3(out) spec.go:436 
      refine DW.nil ?_
      exact ⟨i3, _, v7, ⟨rfl, rfl, rfl, trivial⟩, ⟨h3b, (hx.trans hx6).step hg7.grown (fun g e => (ho6.lt g e).1), ho7, by simp; omega, by rw [tlF_append]; simp only [tlF]; omega⟩, by omega⟩
  · skip
    refine SX.exit (xb_here ?_)
    refine SX.seq (SX.reg ?_)   -- region 17
    refine pu rfl pv_mv ?_   -- t61 spec.go:438
    refine pu rfl pv_as ?_   -- t2 spec.go:438
    refine LW.nil ?_
    refine SX.ret ?_
    exact ⟨⟨out, ho.rd, by omega, by omega⟩, hx⟩

end Go.Proofs.Ybuabw
