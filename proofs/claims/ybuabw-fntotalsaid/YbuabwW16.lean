/-
  WALKS. Comparisons by the model; bounds; line feeds; the whole. Own work for the seat Ybuabw (the steps of each walk were typed by a program of ours off the printed code).
-/
import Derived.Test.YbuabwW12
import Derived.Test.YbuabwW15
import Derived.Test.YbuabwMem10
import Derived.Test.YbuabwPlain9
namespace Go.Proofs.Ybuabw
open Go.RowKit
set_option linter.unusedVariables false
set_option linter.unusedSimpArgs false
set_option maxRecDepth 20000

theorem f22_ok (a b : Value) (l : List Str) (w : World) (ha : Rd w tS a l) (hb : Rd w tS b l) (hs : l.length ≤ 4294967296) : Fn 22 [a, b] w (fun v w' => v = .bool true ∧ Ext w w') := by
  refine Fn.mk1 (N := 26) Yabc.func22 rfl rfl rfl rfl ?_
  refine SX.seq (SX.reg ?_)   -- region 0
  refine pu rfl pv_as ?_   -- t4 spec.go:109
  refine LW.nil ?_
  refine SX.seq ?_
  refine SX.seq (SX.reg ?_)   -- region 1
  refine pu rfl pv_mv ?_   -- t6 spec.go:110
  refine pu rfl (pv_lenV (T := tS) Yabc.underlying32 ha rfl) ?_   -- t7 spec.go:110
  refine pu rfl pv_mv ?_   -- t8 spec.go:110
  refine pu rfl (pv_lenV (T := tS) Yabc.underlying32 hb rfl) ?_   -- t9 spec.go:110
  refine pu rfl (pv_neq rfl rfl) ?_   -- t10 spec.go:110
  refine LW.nil ?_
  refine SX.cond rfl (fun hc => absurd hc (by simp)) (fun hc => ?_)   -- t10
  refine SX.skip ?_
  refine SX.seq ?_
  refine SX.seq (SX.reg ?_)   -- region 3
  refine pu rfl pv_as ?_   -- t5(i) spec.go:113
  refine LW.nil ?_
  refine SX.block ?_
  refine SX.loop (G := Nat) (fun k => [(0, a), (1, b), (5, iv k)]) (fun k w' => k ≤ l.length ∧ Ext w w') (fun k => l.length - k) 0 ⟨rfl, rfl, rfl, trivial⟩ ⟨Nat.zero_le _, Ext.refl w⟩ ?_
  rintro k w2 ρ1 ⟨hk, hx2⟩
  refine SX.seq ?_
  refine SX.seq (SX.reg ?_)   -- region 4
  refine pu rfl pv_mv ?_   -- t11 spec.go:113
  refine pu rfl pv_mv ?_   -- t12 spec.go:113
  refine pu rfl (pv_lenV (T := tS) Yabc.underlying32 (ha.ext hx2) rfl) ?_   -- t13 spec.go:113
  refine pu rfl (pv_lss rfl rfl) ?_   -- t14 spec.go:113
  refine LW.nil ?_
  refine SX.cond rfl (fun hc => ?_) (fun hc => ?_)   -- t14
  · skip
    have hlt : k < l.length := by simpa using hc
    refine SX.skip ?_
    refine SX.seq ?_
    refine SX.block ?_
    refine SX.seq ?_
    refine SX.draw [(0, true), (1, true), (2, true), (3, true), (4, true), (5, true), (6, true), (7, true), (8, true)] (fun w' => Ext w w') (by kernel_rfl) (hx2.trans (Ext.drew w2)) ?_   -- region 6
    refine du rfl rfl (fun w' hw' => pv_mv) ?_   -- 0: t17 spec.go:114 
    refine du rfl rfl (fun w' hw' => pv_mv) ?_   -- 1: t18 spec.go:114 
    refine du rfl rfl (fun w' hw' => pv_ix (T := tS) (k := k) Yabc.underlying32 sz9 okS (ha.ext hw') rfl rfl (by omega) (by omega)) ?_   -- 2: t19 spec.go:114 
    refine du rfl rfl (fun w' hw' => pv_ld ag9 rfl ((ha.ext hw').cell0 okS (by omega) rfl)) ?_   -- 3: t20 spec.go:114 
    refine du rfl rfl (fun w' hw' => pv_mv) ?_   -- 4: t21 spec.go:114 
    refine du rfl rfl (fun w' hw' => pv_mv) ?_   -- 5: t22 spec.go:114 
    refine du rfl rfl (fun w' hw' => pv_ix (T := tS) (k := k) Yabc.underlying32 sz9 okS (hb.ext hw') rfl rfl (by omega) (by omega)) ?_   -- 6: t23 spec.go:114 
    refine du rfl rfl (fun w' hw' => pv_ld ag9 rfl ((hb.ext hw').cell0 okS (by omega) rfl)) ?_   -- 7: t24 spec.go:114 
    refine du rfl rfl (fun w' hw' => pv_neqSE rfl rfl) ?_   -- 8: t25 spec.go:114 
    refine DW.nil ?_
    refine SX.cond_false rfl ?_   -- t25
    refine SX.skip ?_
    refine SX.reg ?_
    refine pu rfl pv_mv ?_   -- t15 spec.go:113
    refine pu rfl (pv_add rfl rfl (by omega)) ?_   -- t16 spec.go:113
    refine pu rfl pv_as ?_   -- t5(i) spec.go:113
    refine LW.nil ?_
    exact ⟨k + 1, ⟨rfl, rfl, rfl, trivial⟩, ⟨by omega, hx2.trans (Ext.drew w2)⟩, by omega⟩
  · skip
    refine SX.exit (xb_here ?_)
    refine SX.seq (SX.reg ?_)   -- region 8
    refine pu rfl pv_as ?_   -- t4 spec.go:118
    refine LW.nil ?_
    refine SX.ret ?_
    exact ⟨rfl, hx2⟩

theorem f27_ok (a b : Value) (l : List Tri) (w : World) (ha : Rd w tK a l) (hb : Rd w tK b l) (hs : l.length ≤ 4294967296) : Fn 27 [a, b] w (fun v w' => v = .bool true ∧ Ext w w') := by
  refine Fn.mk1 (N := 26) Yabc.func27 rfl rfl rfl rfl ?_
  refine SX.seq (SX.reg ?_)   -- region 0
  refine pu rfl pv_as ?_   -- t4 spec.go:148
  refine LW.nil ?_
  refine SX.seq ?_
  refine SX.seq (SX.reg ?_)   -- region 1
  refine pu rfl pv_mv ?_   -- t6 spec.go:149
  refine pu rfl (pv_lenV (T := tK) Yabc.underlying27 ha rfl) ?_   -- t7 spec.go:149
  refine pu rfl pv_mv ?_   -- t8 spec.go:149
  refine pu rfl (pv_lenV (T := tK) Yabc.underlying27 hb rfl) ?_   -- t9 spec.go:149
  refine pu rfl (pv_neq rfl rfl) ?_   -- t10 spec.go:149
  refine LW.nil ?_
  refine SX.cond rfl (fun hc => absurd hc (by simp)) (fun hc => ?_)   -- t10
  refine SX.skip ?_
  refine SX.seq ?_
  refine SX.seq (SX.reg ?_)   -- region 3
  refine pu rfl pv_as ?_   -- t5(i) spec.go:152
  refine LW.nil ?_
  refine SX.block ?_
  refine SX.loop (G := Nat) (fun k => [(0, a), (1, b), (5, iv k)]) (fun k w' => k ≤ l.length ∧ Ext w w') (fun k => l.length - k) 0 ⟨rfl, rfl, rfl, trivial⟩ ⟨Nat.zero_le _, Ext.refl w⟩ ?_
  rintro k w2 ρ1 ⟨hk, hx2⟩
  refine SX.seq ?_
  refine SX.seq (SX.reg ?_)   -- region 4
  refine pu rfl pv_mv ?_   -- t11 spec.go:152
  refine pu rfl pv_mv ?_   -- t12 spec.go:152
  refine pu rfl (pv_lenV (T := tK) Yabc.underlying27 (ha.ext hx2) rfl) ?_   -- t13 spec.go:152
  refine pu rfl (pv_lss rfl rfl) ?_   -- t14 spec.go:152
  refine LW.nil ?_
  refine SX.cond rfl (fun hc => ?_) (fun hc => ?_)   -- t14
  · skip
    have hlt : k < l.length := by simpa using hc
    refine SX.skip ?_
    refine SX.seq ?_
    refine SX.block ?_
    refine SX.seq ?_
    refine SX.draw [(0, true), (1, true), (2, true), (3, true), (4, true), (5, true), (6, true), (7, true), (8, true)] (fun w' => Ext w w') (by kernel_rfl) (hx2.trans (Ext.drew w2)) ?_   -- region 6
    refine du rfl rfl (fun w' hw' => pv_mv) ?_   -- 0: t17 spec.go:153 
    refine du rfl rfl (fun w' hw' => pv_mv) ?_   -- 1: t18 spec.go:153 
    refine du rfl rfl (fun w' hw' => pv_ix (T := tK) (k := k) Yabc.underlying27 sz30 okK (ha.ext hw') rfl rfl (by omega) (by omega)) ?_   -- 2: t19 spec.go:153 
    refine du rfl rfl (fun w' hw' => pv_ldE ag30 okK sz30 (ha.ext hw') (by omega) rfl) ?_   -- 3: t20 spec.go:153 
    refine du rfl rfl (fun w' hw' => pv_mv) ?_   -- 4: t21 spec.go:153 
    refine du rfl rfl (fun w' hw' => pv_mv) ?_   -- 5: t22 spec.go:153 
    refine du rfl rfl (fun w' hw' => pv_ix (T := tK) (k := k) Yabc.underlying27 sz30 okK (hb.ext hw') rfl rfl (by omega) (by omega)) ?_   -- 6: t23 spec.go:153 
    refine du rfl rfl (fun w' hw' => pv_ldE ag30 okK sz30 (hb.ext hw') (by omega) rfl) ?_   -- 7: t24 spec.go:153 
    refine du rfl rfl (fun w' hw' => pv_neq30 rfl rfl) ?_   -- 8: t25 spec.go:153 
    refine DW.nil ?_
    refine SX.cond_false rfl ?_   -- t25
    refine SX.skip ?_
    refine SX.reg ?_
    refine pu rfl pv_mv ?_   -- t15 spec.go:152
    refine pu rfl (pv_add rfl rfl (by omega)) ?_   -- t16 spec.go:152
    refine pu rfl pv_as ?_   -- t5(i) spec.go:152
    refine LW.nil ?_
    exact ⟨k + 1, ⟨rfl, rfl, rfl, trivial⟩, ⟨by omega, hx2.trans (Ext.drew w2)⟩, by omega⟩
  · skip
    refine SX.exit (xb_here ?_)
    refine SX.seq (SX.reg ?_)   -- region 8
    refine pu rfl pv_as ?_   -- t4 spec.go:157
    refine LW.nil ?_
    refine SX.ret ?_
    exact ⟨rfl, hx2⟩

theorem f29_ok (a b : Value) (l : List Tri) (w : World) (ha : Rd w tI a l) (hb : Rd w tI b l) (hs : l.length ≤ 4294967296) : Fn 29 [a, b] w (fun v w' => v = .bool true ∧ Ext w w') := by
  refine Fn.mk1 (N := 26) Yabc.func29 rfl rfl rfl rfl ?_
  refine SX.seq (SX.reg ?_)   -- region 0
  refine pu rfl pv_as ?_   -- t4 spec.go:122
  refine LW.nil ?_
  refine SX.seq ?_
  refine SX.seq (SX.reg ?_)   -- region 1
  refine pu rfl pv_mv ?_   -- t6 spec.go:123
  refine pu rfl (pv_lenV (T := tI) Yabc.underlying23 ha rfl) ?_   -- t7 spec.go:123
  refine pu rfl pv_mv ?_   -- t8 spec.go:123
  refine pu rfl (pv_lenV (T := tI) Yabc.underlying23 hb rfl) ?_   -- t9 spec.go:123
  refine pu rfl (pv_neq rfl rfl) ?_   -- t10 spec.go:123
  refine LW.nil ?_
  refine SX.cond rfl (fun hc => absurd hc (by simp)) (fun hc => ?_)   -- t10
  refine SX.skip ?_
  refine SX.seq ?_
  refine SX.seq (SX.reg ?_)   -- region 3
  refine pu rfl pv_as ?_   -- t5(i) spec.go:126
  refine LW.nil ?_
  refine SX.block ?_
  refine SX.loop (G := Nat) (fun k => [(0, a), (1, b), (5, iv k)]) (fun k w' => k ≤ l.length ∧ Ext w w') (fun k => l.length - k) 0 ⟨rfl, rfl, rfl, trivial⟩ ⟨Nat.zero_le _, Ext.refl w⟩ ?_
  rintro k w2 ρ1 ⟨hk, hx2⟩
  refine SX.seq ?_
  refine SX.seq (SX.reg ?_)   -- region 4
  refine pu rfl pv_mv ?_   -- t11 spec.go:126
  refine pu rfl pv_mv ?_   -- t12 spec.go:126
  refine pu rfl (pv_lenV (T := tI) Yabc.underlying23 (ha.ext hx2) rfl) ?_   -- t13 spec.go:126
  refine pu rfl (pv_lss rfl rfl) ?_   -- t14 spec.go:126
  refine LW.nil ?_
  refine SX.cond rfl (fun hc => ?_) (fun hc => ?_)   -- t14
  · skip
    have hlt : k < l.length := by simpa using hc
    refine SX.skip ?_
    refine SX.seq ?_
    refine SX.block ?_
    refine SX.seq ?_
    refine SX.draw [(0, true), (1, true), (2, true), (3, true), (4, true), (5, true), (6, true), (7, true), (8, true)] (fun w' => Ext w w') (by kernel_rfl) (hx2.trans (Ext.drew w2)) ?_   -- region 6
    refine du rfl rfl (fun w' hw' => pv_mv) ?_   -- 0: t17 spec.go:127 
    refine du rfl rfl (fun w' hw' => pv_mv) ?_   -- 1: t18 spec.go:127 
    refine du rfl rfl (fun w' hw' => pv_ix (T := tI) (k := k) Yabc.underlying23 sz67 okI (ha.ext hw') rfl rfl (by omega) (by omega)) ?_   -- 2: t19 spec.go:127 
    refine du rfl rfl (fun w' hw' => pv_ldE ag67 okI sz67 (ha.ext hw') (by omega) rfl) ?_   -- 3: t20 spec.go:127 
    refine du rfl rfl (fun w' hw' => pv_mv) ?_   -- 4: t21 spec.go:127 
    refine du rfl rfl (fun w' hw' => pv_mv) ?_   -- 5: t22 spec.go:127 
    refine du rfl rfl (fun w' hw' => pv_ix (T := tI) (k := k) Yabc.underlying23 sz67 okI (hb.ext hw') rfl rfl (by omega) (by omega)) ?_   -- 6: t23 spec.go:127 
    refine du rfl rfl (fun w' hw' => pv_ldE ag67 okI sz67 (hb.ext hw') (by omega) rfl) ?_   -- 7: t24 spec.go:127 
    refine du rfl rfl (fun w' hw' => pv_neq67 rfl rfl) ?_   -- 8: t25 spec.go:127 
    refine DW.nil ?_
    refine SX.cond_false rfl ?_   -- t25
    refine SX.skip ?_
    refine SX.reg ?_
    refine pu rfl pv_mv ?_   -- t15 spec.go:126
    refine pu rfl (pv_add rfl rfl (by omega)) ?_   -- t16 spec.go:126
    refine pu rfl pv_as ?_   -- t5(i) spec.go:126
    refine LW.nil ?_
    exact ⟨k + 1, ⟨rfl, rfl, rfl, trivial⟩, ⟨by omega, hx2.trans (Ext.drew w2)⟩, by omega⟩
  · skip
    refine SX.exit (xb_here ?_)
    refine SX.seq (SX.reg ?_)   -- region 8
    refine pu rfl pv_as ?_   -- t4 spec.go:131
    refine LW.nil ?_
    refine SX.ret ?_
    exact ⟨rfl, hx2⟩

theorem f41_ok (a b : Value) (l : List Frg) (w : World) (ha : Rd w tF a l) (hb : Rd w tF b l) (hs : l.length ≤ 4294967296) : Fn 41 [a, b] w (fun v w' => v = .bool true ∧ Ext w w') := by
  refine Fn.mk1 (N := 26) Yabc.func41 rfl rfl rfl rfl ?_
  refine SX.seq (SX.reg ?_)   -- region 0
  refine pu rfl pv_as ?_   -- t4 spec.go:135
  refine LW.nil ?_
  refine SX.seq ?_
  refine SX.seq (SX.reg ?_)   -- region 1
  refine pu rfl pv_mv ?_   -- t6 spec.go:136
  refine pu rfl (pv_lenV (T := tF) Yabc.underlying25 ha rfl) ?_   -- t7 spec.go:136
  refine pu rfl pv_mv ?_   -- t8 spec.go:136
  refine pu rfl (pv_lenV (T := tF) Yabc.underlying25 hb rfl) ?_   -- t9 spec.go:136
  refine pu rfl (pv_neq rfl rfl) ?_   -- t10 spec.go:136
  refine LW.nil ?_
  refine SX.cond rfl (fun hc => absurd hc (by simp)) (fun hc => ?_)   -- t10
  refine SX.skip ?_
  refine SX.seq ?_
  refine SX.seq (SX.reg ?_)   -- region 3
  refine pu rfl pv_as ?_   -- t5(i) spec.go:139
  refine LW.nil ?_
  refine SX.block ?_
  refine SX.loop (G := Nat) (fun k => [(0, a), (1, b), (5, iv k)]) (fun k w' => k ≤ l.length ∧ Ext w w') (fun k => l.length - k) 0 ⟨rfl, rfl, rfl, trivial⟩ ⟨Nat.zero_le _, Ext.refl w⟩ ?_
  rintro k w2 ρ1 ⟨hk, hx2⟩
  refine SX.seq ?_
  refine SX.seq (SX.reg ?_)   -- region 4
  refine pu rfl pv_mv ?_   -- t11 spec.go:139
  refine pu rfl pv_mv ?_   -- t12 spec.go:139
  refine pu rfl (pv_lenV (T := tF) Yabc.underlying25 (ha.ext hx2) rfl) ?_   -- t13 spec.go:139
  refine pu rfl (pv_lss rfl rfl) ?_   -- t14 spec.go:139
  refine LW.nil ?_
  refine SX.cond rfl (fun hc => ?_) (fun hc => ?_)   -- t14
  · skip
    have hlt : k < l.length := by simpa using hc
    refine SX.skip ?_
    refine SX.seq ?_
    refine SX.block ?_
    refine SX.seq ?_
    refine SX.draw [(0, true), (1, true), (2, true), (3, true), (4, true), (5, true), (6, true), (7, true), (8, true)] (fun w' => Ext w w') (by kernel_rfl) (hx2.trans (Ext.drew w2)) ?_   -- region 6
    refine du rfl rfl (fun w' hw' => pv_mv) ?_   -- 0: t17 spec.go:140 
    refine du rfl rfl (fun w' hw' => pv_mv) ?_   -- 1: t18 spec.go:140 
    refine du rfl rfl (fun w' hw' => pv_ix (T := tF) (k := k) Yabc.underlying25 sz76 okF (ha.ext hw') rfl rfl (by omega) (by omega)) ?_   -- 2: t19 spec.go:140 
    refine du rfl rfl (fun w' hw' => pv_ldE ag76 okF sz76 (ha.ext hw') (by omega) rfl) ?_   -- 3: t20 spec.go:140 
    refine du rfl rfl (fun w' hw' => pv_mv) ?_   -- 4: t21 spec.go:140 
    refine du rfl rfl (fun w' hw' => pv_mv) ?_   -- 5: t22 spec.go:140 
    refine du rfl rfl (fun w' hw' => pv_ix (T := tF) (k := k) Yabc.underlying25 sz76 okF (hb.ext hw') rfl rfl (by omega) (by omega)) ?_   -- 6: t23 spec.go:140 
    refine du rfl rfl (fun w' hw' => pv_ldE ag76 okF sz76 (hb.ext hw') (by omega) rfl) ?_   -- 7: t24 spec.go:140 
    refine du rfl rfl (fun w' hw' => pv_neq76 rfl rfl) ?_   -- 8: t25 spec.go:140 
    refine DW.nil ?_
    refine SX.cond_false rfl ?_   -- t25
    refine SX.skip ?_
    refine SX.reg ?_
    refine pu rfl pv_mv ?_   -- t15 spec.go:139
    refine pu rfl (pv_add rfl rfl (by omega)) ?_   -- t16 spec.go:139
    refine pu rfl pv_as ?_   -- t5(i) spec.go:139
    refine LW.nil ?_
    exact ⟨k + 1, ⟨rfl, rfl, rfl, trivial⟩, ⟨by omega, hx2.trans (Ext.drew w2)⟩, by omega⟩
  · skip
    refine SX.exit (xb_here ?_)
    refine SX.seq (SX.reg ?_)   -- region 8
    refine pu rfl pv_as ?_   -- t4 spec.go:144
    refine LW.nil ?_
    refine SX.ret ?_
    exact ⟨rfl, hx2⟩

theorem f52_ok (s : Str) (w : World) (hs : s.length ≤ 4611686018427387904) : Fn 52 [S s] w (fun v w' => v = iv (lf s) ∧ w = w') := by
  refine Fn.mk1 (N := 18) Yabc.func52 rfl rfl rfl rfl ?_
  refine SX.seq (SX.reg ?_)   -- region 0
  refine pu rfl pv_as ?_   -- t2 laws.go:52
  refine LW.nil ?_
  refine SX.seq (SX.reg ?_)   -- region 1
  refine pu rfl pv_as ?_   -- t3(n) laws.go:53
  refine LW.nil ?_
  refine SX.seq ?_
  refine SX.seq (SX.reg ?_)   -- region 2
  refine pu rfl pv_as ?_   -- t4(i) laws.go:54
  refine LW.nil ?_
  refine SX.block ?_
  refine SX.loop (G := Nat) (fun k => [(0, S s), (3, iv (lf (s.take k))), (4, iv k)]) (fun k w' => w = w' ∧ k ≤ s.length) (fun k => s.length - k) 0 ⟨rfl, rfl, rfl, trivial⟩ ⟨rfl, Nat.zero_le _⟩ ?_
  rintro k w2 ρ1 ⟨hw, hk⟩
  subst hw
  have hll := lf_le (s.take k)
  have hlk := List.length_take_le k s
  refine SX.seq ?_
  refine SX.seq (SX.reg ?_)   -- region 3
  refine pu rfl pv_mv ?_   -- t5 laws.go:54
  refine pu rfl pv_mv ?_   -- t6 laws.go:54
  refine pu rfl (pv_len_s rfl) ?_   -- t7 laws.go:54
  refine pu rfl (pv_lss rfl rfl) ?_   -- t8 laws.go:54
  refine LW.nil ?_
  refine SX.cond rfl (fun hc => ?_) (fun hc => ?_)   -- t8
  · skip
    have hlt : k < s.length := by simpa using hc
    have hst := lf_take s k hlt
    refine SX.skip ?_
    refine SX.seq ?_
    refine SX.block ?_
    refine SX.seq (SX.reg ?_)   -- region 5
    refine pu rfl pv_mv ?_   -- t11 laws.go:55
    refine pu rfl pv_mv ?_   -- t12 laws.go:55
    refine pu rfl (pv_index (k := k) rfl rfl (by omega) (by omega)) ?_   -- t13 laws.go:55
    refine pu rfl (pv_eqlB (b := 10) rfl rfl) ?_   -- t14 laws.go:55
    refine LW.nil ?_
    refine SX.cond rfl (fun hc => ?_) (fun hc => ?_)   -- t14
    · skip
      have h10 : s.getD k 0 = 10 := by simpa using hc
      rw [if_pos h10] at hst
      refine SX.reg ?_
      refine pu rfl pv_mv ?_   -- t15 laws.go:56
      refine pu rfl (pv_add rfl rfl (by omega)) ?_   -- t16 laws.go:56
      refine pu rfl pv_as ?_   -- t3(n) laws.go:56
      refine LW.nil ?_
      refine SX.reg ?_
      refine pu rfl pv_mv ?_   -- t9 laws.go:54
      refine pu rfl (pv_add rfl rfl (by omega)) ?_   -- t10 laws.go:54
      refine pu rfl pv_as ?_   -- t4(i) laws.go:54
      refine LW.nil ?_
      exact ⟨k + 1, ⟨rfl, congrArg iv (by rw [hst]; push_cast; rfl), rfl, trivial⟩, ⟨rfl, by omega⟩, by omega⟩
    · skip
      have h10 : ¬ s.getD k 0 = 10 := by simpa using hc
      rw [if_neg h10] at hst
      refine SX.skip ?_
      refine SX.reg ?_
      refine pu rfl pv_mv ?_   -- t9 laws.go:54
      refine pu rfl (pv_add rfl rfl (by omega)) ?_   -- t10 laws.go:54
      refine pu rfl pv_as ?_   -- t4(i) laws.go:54
      refine LW.nil ?_
      exact ⟨k + 1, ⟨rfl, congrArg iv (by rw [hst]; rfl), rfl, trivial⟩, ⟨rfl, by omega⟩, by omega⟩
  · skip
    have hge : k = s.length := by simp at hc; omega
    subst hge
    refine SX.exit (xb_here ?_)
    refine SX.seq (SX.reg ?_)   -- region 7
    refine pu rfl pv_mv ?_   -- t17 laws.go:59
    refine pu rfl pv_as ?_   -- t2 laws.go:59
    refine LW.nil ?_
    refine SX.ret ?_
    exact ⟨by rw [List.take_length]; rfl, rfl⟩

theorem f50_ok (d : Str) (z : Int) (w : World) (hz : z ≤ 9223372036854775807) (hs : d.length ≤ 524280 ∨ (parseBlocks d).length ≤ 1048576) (hd : d.length ≤ 1048575) : Fn 50 [S d, iv z] w (fun v w' => v = S (renderAll (parseBlocks d) z) ∧ Ext w w') := by
  refine Fn.mk1 (N := 9) Yabc.func50 rfl rfl rfl rfl ?_
  refine SX.seq (SX.reg ?_)   -- region 0
  refine pu rfl pv_as ?_   -- t4 impl.go:613
  refine LW.nil ?_
  refine SX.seq (SX.reg ?_)   -- region 1
  refine pu rfl pv_mv ?_   -- t5 impl.go:614
  refine evd rfl (ev_call cb26 rfl (f26_ok d w (by omega)) ?_)   -- t6 impl.go:614
  rintro vb w1 ⟨hob, hx1, hl1, ht1⟩
  refine pu rfl pv_mv ?_   -- t7 impl.go:614
  refine evd rfl (ev_call cb47 rfl (f47_ok vb (parseBlocks d) z w1 hz hob.rd (by omega) (fun p hpm => by have := tl_mem _ p hpm; omega)) ?_)   -- t8 impl.go:614
  rintro _ w2 ⟨rfl, hx2⟩
  refine pu rfl pv_as ?_   -- t4 impl.go:614
  refine LW.nil ?_
  refine SX.ret ?_
  exact ⟨rfl, hx1.trans hx2⟩

theorem f51_ok (d : Str) (z : Int) (w : World) (hz : z ≤ 9223372036854775807) (hs : d.length ≤ 524280 ∨ (parseBlocks d).length ≤ 1048576) (hd : d.length ≤ 1048575) : Fn 51 [S d, iv z] w (fun v w' => v = S (renderAll (parseBlocks d) z) ∧ Ext w w') := by
  refine Fn.mk1 (N := 9) Yabc.func51 rfl rfl rfl rfl ?_
  refine SX.seq (SX.reg ?_)   -- region 0
  refine pu rfl pv_as ?_   -- t4 spec.go:1092
  refine LW.nil ?_
  refine SX.seq (SX.reg ?_)   -- region 1
  refine pu rfl pv_mv ?_   -- t5 spec.go:1093
  refine evd rfl (ev_call cb28 rfl (f28_ok d w (by omega)) ?_)   -- t6 spec.go:1093
  rintro vb w1 ⟨hob, hx1, hl1, ht1⟩
  refine pu rfl pv_mv ?_   -- t7 spec.go:1093
  refine evd rfl (ev_call cb49 rfl (f49_ok vb (parseBlocks d) z w1 hz hob.rd (by omega) (fun p hpm => by have := tl_mem _ p hpm; omega)) ?_)   -- t8 spec.go:1093
  rintro _ w2 ⟨rfl, hx2⟩
  refine pu rfl pv_as ?_   -- t4 spec.go:1093
  refine LW.nil ?_
  refine SX.ret ?_
  exact ⟨rfl, hx1.trans hx2⟩

theorem f46_ok (b : Tri) (z : Int) (v : Value) (w : World) (hr : Rd w tS v (renderBlock b z)) (hs : b.s.length ≤ 2097152) : Fn 46 [.agg (encT b).toArray, iv z, v] w (fun v' w' => v' = .bool true ∧ Ext w w') := by
  refine Fn.mk1 (N := 57) Yabc.func46 rfl rfl rfl rfl ?_
  have hbd := renderBlock_bd b z
  refine SX.seq (SX.reg ?_)   -- region 0
  refine evd rfl (ev_box (cs := encT b) rfl fun w1 hn1 => ?_)   -- t3(b) laws.go:574
  have hx1 := hn1.ext
  refine pu rfl pv_as ?_   -- t6 laws.go:574
  refine LW.nil ?_
  refine SX.seq ?_
  refine SX.seq (SX.reg ?_)   -- region 1
  refine pu rfl (pv_fa fb30_0 rfl) ?_   -- t10 laws.go:575
  refine pu rfl (pv_ld ag3 rfl (hn1.blk.cell rfl)) ?_   -- t11 laws.go:575
  refine pu rfl (pv_eql rfl rfl) ?_   -- t12 laws.go:575
  refine LW.nil ?_
  refine SX.cond rfl (fun hc => ?_) (fun hc => ?_)   -- t12
  · skip
    refine SX.seq (SX.reg ?_)   -- region 2
    refine pu rfl pv_as ?_   -- t6 laws.go:576
    refine LW.nil ?_
    refine SX.ret ?_
    exact ⟨rfl, hx1⟩
  · skip
    have h5 : ¬ b.a = 5 := by simpa using hc
    refine SX.skip ?_
    refine SX.seq (SX.reg ?_)   -- region 3
    refine pu rfl pv_mv ?_   -- t13 laws.go:578
    refine evd rfl (ev_call cb95 rfl (f95_ok z w1) ?_)   -- t14 laws.go:578
    rintro _ _ ⟨rfl, rfl⟩
    refine pu rfl pv_as ?_   -- t7(m) laws.go:578
    refine LW.nil ?_
    refine SX.seq ?_
    refine SX.seq (SX.reg ?_)   -- region 4
    refine pu rfl (pv_fa fb30_0 rfl) ?_   -- t15 laws.go:579
    refine pu rfl (pv_ld ag3 rfl (hn1.blk.cell rfl)) ?_   -- t16 laws.go:579
    refine pu rfl (pv_eql rfl rfl) ?_   -- t17 laws.go:579
    refine LW.nil ?_
    refine SX.cond rfl (fun hc => ?_) (fun hc => ?_)   -- t17
    · skip
      have h6 : b.a = 6 := by simpa using hc
      have hrb : renderBlock b z = [List.replicate (min (wid z) 80) 45] := by rw [renderBlock, if_neg h5, if_pos h6]
      have hl1 : (renderBlock b z).length = 1 := by rw [hrb]; rfl
      have hl2 : ((renderBlock b z)[0]'(by omega)).length = min (wid z) 80 := by simp [hrb]
      refine SX.seq (SX.reg ?_)   -- region 5
      refine pu rfl pv_mv ?_   -- t18 laws.go:580
      refine pu rfl pv_as ?_   -- t8(r) laws.go:580
      refine LW.nil ?_
      refine SX.mid (G := Unit) (fun _ => [(2, v), (8, iv (min (wid z) 80 : Nat))]) (fun _ w' => w1 = w') ?_ ?_
      · skip
        refine SX.seq (SX.reg ?_)   -- region 6
        refine pu rfl pv_mv ?_   -- t19 laws.go:581
        refine pu rfl (pv_gtr rfl rfl) ?_   -- t20 laws.go:581
        refine LW.nil ?_
        refine SX.cond rfl (fun hc => ?_) (fun hc => ?_)   -- t20
        · skip
          have h80 : min (wid z) 80 = 80 := by simp at hc; omega
          refine SX.reg ?_
          refine pu rfl pv_as ?_   -- t8(r) laws.go:582
          refine LW.nil ?_
          exact ⟨(), ⟨rfl, by rw [h80]; rfl, trivial⟩, rfl⟩
        · skip
          have h80 : min (wid z) 80 = wid z := by simp at hc; omega
          refine SX.skip ?_
          exact ⟨(), ⟨rfl, by rw [h80]; rfl, trivial⟩, rfl⟩
      rintro _ w1' ρ2 hw
      subst hw
      refine SX.seq (SX.reg ?_)   -- region 8
      refine pu rfl pv_mv ?_   -- t21 laws.go:584
      refine pu rfl (pv_lenV (T := tS) Yabc.underlying32 (hr.ext hx1) rfl) ?_   -- t22 laws.go:584
      refine pu rfl (pv_eql rfl rfl) ?_   -- t23 laws.go:584
      refine pu rfl pv_mv ?_   -- t24 laws.go:584
      refine LW.sc true 6 3 24 25 31 (b := decide ((((renderBlock b z).getD 0 []).length : Int) = ((min (wid z) 80 : Nat) : Int))) (fun w' => w1 = w') rfl rfl rfl rfl (fun _ => rfl) rfl (fun ht => ?_) rfl (fun J w' hw' => ?_)   -- t31 := pick ['t24', 't30', "c:['false']"]
      · skip
        refine pu rfl pv_mv ?_   -- t25 laws.go:584
        refine pu rfl (pv_ix (T := tS) (k := 0) Yabc.underlying32 sz9 okS (hr.ext hx1) rfl rfl rfl (by omega)) ?_   -- t26 laws.go:584
        refine pu rfl (pv_ld ag9 rfl ((hr.ext hx1).cell0 okS (k := 0) (by omega) rfl)) ?_   -- t27 laws.go:584
        refine pu rfl (pv_len_s rfl) ?_   -- t28 laws.go:584
        refine pu rfl pv_mv ?_   -- t29 laws.go:584
        refine pu rfl (pv_eql rfl rfl) ?_   -- t30 laws.go:584
        exact LW.nil ⟨congrArg Value.bool (by rw [getD_lt _ _ _ (by omega)]), rfl⟩
      subst hw'
      refine pu rfl pv_as ?_   -- t6 laws.go:584
      refine LW.nil ?_
      refine SX.ret ?_
      exact ⟨congrArg Value.bool (by rw [getD_lt _ _ _ (by omega), hl2]; simp [scv, hl1]), hx1⟩
    · skip
      have h6 : ¬ b.a = 6 := by simpa using hc
      have hbo := bounds_ok b z h5 h6
      refine SX.skip ?_
      refine SX.mid (G := Unit) (fun _ => [(2, v), (3, .pointer (some ⟨w.heap.size, 0, none⟩)), (7, iv (max (wid z) 3 : Nat))]) (fun _ w' => w1 = w') ?_ ?_
      · skip
        refine SX.seq (SX.reg ?_)   -- region 9
        refine pu rfl pv_mv ?_   -- t32 laws.go:586
        refine pu rfl (pv_lss rfl rfl) ?_   -- t33 laws.go:586
        refine LW.nil ?_
        refine SX.cond rfl (fun hc => ?_) (fun hc => ?_)   -- t33
        · skip
          have h3 : max (wid z) 3 = 3 := by simp at hc; omega
          refine SX.reg ?_
          refine pu rfl pv_as ?_   -- t7(m) laws.go:587
          refine LW.nil ?_
          exact ⟨(), ⟨rfl, rfl, by rw [h3]; rfl, trivial⟩, rfl⟩
        · skip
          have h3 : max (wid z) 3 = wid z := by simp at hc; omega
          refine SX.skip ?_
          exact ⟨(), ⟨rfl, rfl, by rw [h3]; rfl, trivial⟩, rfl⟩
      rintro _ w1' ρ2 hw
      subst hw
      refine SX.seq ?_
      refine SX.seq (SX.reg ?_)   -- region 11
      refine pu rfl pv_as ?_   -- t9(i) laws.go:589
      refine LW.nil ?_
      refine SX.block ?_
      refine SX.loop (G := Nat) (fun k => [(2, v), (3, .pointer (some ⟨w.heap.size, 0, none⟩)), (7, iv (max (wid z) 3 : Nat)), (9, iv k)]) (fun k w' => k ≤ (renderBlock b z).length ∧ Ext w1 w') (fun k => (renderBlock b z).length - k) 0 ⟨rfl, rfl, rfl, rfl, trivial⟩ ⟨Nat.zero_le _, Ext.refl w1⟩ ?_
      rintro k w2 ρ3 ⟨hk, hx2⟩
      have hr2 := (hr.ext hx1).ext hx2
      refine SX.seq ?_
      refine SX.seq (SX.reg ?_)   -- region 12
      refine pu rfl pv_mv ?_   -- t34 laws.go:589
      refine pu rfl pv_mv ?_   -- t35 laws.go:589
      refine pu rfl (pv_lenV (T := tS) Yabc.underlying32 hr2 rfl) ?_   -- t36 laws.go:589
      refine pu rfl (pv_lss rfl rfl) ?_   -- t37 laws.go:589
      refine LW.nil ?_
      refine SX.cond rfl (fun hc => ?_) (fun hc => ?_)   -- t37
      · skip
        have hlt : k < (renderBlock b z).length := by simpa using hc
        have hbk := hbo _ (List.getElem_mem hlt)
        refine SX.skip ?_
        refine SX.seq ?_
        refine SX.block ?_
        refine SX.seq ?_
        refine SX.seq (SX.reg ?_)   -- region 14
        refine pu rfl pv_mv ?_   -- t40 laws.go:590
        refine pu rfl pv_mv ?_   -- t41 laws.go:590
        refine pu rfl (pv_ix (T := tS) (k := k) Yabc.underlying32 sz9 okS hr2 rfl rfl (by omega) (by omega)) ?_   -- t42 laws.go:590
        refine pu rfl (pv_ld ag9 rfl (hr2.cell0 okS (by omega) rfl)) ?_   -- t43 laws.go:590
        refine pu rfl (pv_len_s rfl) ?_   -- t44 laws.go:590
        refine pu rfl pv_mv ?_   -- t45 laws.go:590
        refine pu rfl (pv_gtr rfl rfl) ?_   -- t46 laws.go:590
        refine LW.nil ?_
        refine SX.cond rfl (fun hc => absurd hc (by simp; omega)) (fun hc => ?_)   -- t46
        refine SX.skip ?_
        refine SX.seq ?_
        refine SX.draw [(0, true), (1, true), (2, true), (3, true), (4, true), (5, true), (6, true), (7, true), (8, true), (9, true)] (fun w' => Ext w1 w') (by kernel_rfl) (hx2.trans (Ext.drew w2)) ?_   -- region 16
        refine du rfl rfl (fun w' hw' => pv_mv) ?_   -- 0: t47 laws.go:593 
        refine du rfl rfl (fun w' hw' => pv_mv) ?_   -- 1: t48 laws.go:593 
        refine du rfl rfl (fun w' hw' => pv_ix (T := tS) (k := k) Yabc.underlying32 sz9 okS ((hr.ext hx1).ext hw') rfl rfl (by omega) (by omega)) ?_   -- 2: t49 laws.go:593 
        refine du rfl rfl (fun w' hw' => pv_ld ag9 rfl (((hr.ext hx1).ext hw').cell0 okS (by omega) rfl)) ?_   -- 3: t50 laws.go:593 
        refine du rfl rfl (fun w' hw' => pv_len_s rfl) ?_   -- 4: t51 laws.go:593 
        refine du rfl rfl (fun w' hw' => pv_fa fb30_2 rfl) ?_   -- 5: t52 laws.go:593 
        refine du rfl rfl (fun w' hw' => pv_ld ag9 rfl ((hn1.blk.ext hw').cell rfl)) ?_   -- 6: t53 laws.go:593 
        refine du rfl rfl (fun w' hw' => pv_len_s rfl) ?_   -- 7: t54 laws.go:593 
        refine du rfl rfl (fun w' hw' => pv_add rfl rfl (by omega)) ?_   -- 8: t55 laws.go:593 
        refine du rfl rfl (fun w' hw' => pv_gtr rfl rfl) ?_   -- 9: t56 laws.go:593 
        refine DW.nil ?_
        refine SX.cond rfl (fun hc => absurd hc (by simp; omega)) (fun hc => ?_)   -- t56
        refine SX.skip ?_
        refine SX.reg ?_
        refine pu rfl pv_mv ?_   -- t38 laws.go:589
        refine pu rfl (pv_add rfl rfl (by omega)) ?_   -- t39 laws.go:589
        refine pu rfl pv_as ?_   -- t9(i) laws.go:589
        refine LW.nil ?_
        exact ⟨k + 1, ⟨rfl, rfl, rfl, rfl, trivial⟩, ⟨by omega, hx2.trans (Ext.drew w2)⟩, by omega⟩
      · skip
        refine SX.exit (xb_here ?_)
        refine SX.seq (SX.reg ?_)   -- region 18
        refine pu rfl pv_as ?_   -- t6 laws.go:597
        refine LW.nil ?_
        refine SX.ret ?_
        exact ⟨rfl, hx1.trans hx2⟩

end Go.Proofs.Ybuabw
