/-
  WALKS. Lines. Own work for the seat Ybuabw (the steps of each walk were typed by a program of ours off the printed code).
-/
import Derived.Test.YbuabwMem3
import Derived.Test.YbuabwPlain
namespace Go.Proofs.Ybuabw
open Go.RowKit
set_option linter.unusedVariables false
set_option linter.unusedSimpArgs false
set_option maxRecDepth 20000


theorem f83_ok (c : UInt8) (w : World) : Fn 83 [bt c] w (fun v w' => v = .bool (isSp c) ∧ w = w') := by
  refine Fn.mk1 (N := 17) Yabc.func83 rfl rfl rfl rfl ?_
  refine SX.seq (SX.reg ?_)   -- region 0
  refine pu rfl pv_as ?_   -- t2 impl.go:67
  refine LW.nil ?_
  refine SX.seq (SX.reg ?_)   -- region 1
  refine pu rfl pv_mv ?_   -- t3 impl.go:68
  refine pu rfl (pv_eqlB (b := 32) rfl rfl) ?_   -- t4 impl.go:68
  refine pu rfl pv_mv ?_   -- t5 impl.go:68
  refine LW.sc false 2 2 5 6 8 (b := decide (c = 9)) (fun w' => w = w') rfl rfl rfl rfl (fun _ => rfl) rfl (fun ht => ?_) rfl (fun J w' hw' => ?_)   -- t8 := pick ['t5', "c:['true']", 't7']
  · skip
    refine pu rfl pv_mv ?_   -- t6 impl.go:68
    refine pu rfl (pv_eqlB (b := 9) rfl rfl) ?_   -- t7 impl.go:68
    exact LW.nil ⟨rfl, rfl⟩
  subst hw'
  refine pu rfl pv_mv ?_   -- t9 impl.go:68
  refine LW.sc false 2 6 9 10 12 (b := decide (c = 13)) (fun w' => w = w') rfl rfl rfl rfl (fun _ => rfl) rfl (fun ht => ?_) rfl (fun J w' hw' => ?_)   -- t12 := pick ['t9', "c:['true']", 't11']
  · skip
    refine pu rfl pv_mv ?_   -- t10 impl.go:68
    refine pu rfl (pv_eqlB (b := 13) rfl rfl) ?_   -- t11 impl.go:68
    exact LW.nil ⟨rfl, rfl⟩
  subst hw'
  refine pu rfl pv_mv ?_   -- t13 impl.go:68
  refine LW.sc false 2 10 13 14 16 (b := decide (c = 10)) (fun w' => w = w') rfl rfl rfl rfl (fun _ => rfl) rfl (fun ht => ?_) rfl (fun J w' hw' => ?_)   -- t16 := pick ['t13', "c:['true']", 't15']
  · skip
    refine pu rfl pv_mv ?_   -- t14 impl.go:68
    refine pu rfl (pv_eqlB (b := 10) rfl rfl) ?_   -- t15 impl.go:68
    exact LW.nil ⟨rfl, rfl⟩
  subst hw'
  refine pu rfl pv_as ?_   -- t2 impl.go:68
  refine LW.nil ?_
  refine SX.ret ?_
  exact ⟨rfl, rfl⟩

theorem f86_ok (c : UInt8) (w : World) : Fn 86 [bt c] w (fun v w' => v = .bool (isSp c) ∧ w = w') := by
  refine Fn.mk1 (N := 17) Yabc.func86 rfl rfl rfl rfl ?_
  refine SX.seq (SX.reg ?_)   -- region 0
  refine pu rfl pv_as ?_   -- t2 spec.go:38
  refine LW.nil ?_
  refine SX.seq (SX.reg ?_)   -- region 1
  refine pu rfl pv_mv ?_   -- t3 spec.go:39
  refine pu rfl (pv_eqlB (b := 32) rfl rfl) ?_   -- t4 spec.go:39
  refine pu rfl pv_mv ?_   -- t5 spec.go:39
  refine LW.sc false 2 2 5 6 8 (b := decide (c = 9)) (fun w' => w = w') rfl rfl rfl rfl (fun _ => rfl) rfl (fun ht => ?_) rfl (fun J w' hw' => ?_)   -- t8 := pick ['t5', "c:['true']", 't7']
  · skip
    refine pu rfl pv_mv ?_   -- t6 spec.go:39
    refine pu rfl (pv_eqlB (b := 9) rfl rfl) ?_   -- t7 spec.go:39
    exact LW.nil ⟨rfl, rfl⟩
  subst hw'
  refine pu rfl pv_mv ?_   -- t9 spec.go:39
  refine LW.sc false 2 6 9 10 12 (b := decide (c = 13)) (fun w' => w = w') rfl rfl rfl rfl (fun _ => rfl) rfl (fun ht => ?_) rfl (fun J w' hw' => ?_)   -- t12 := pick ['t9', "c:['true']", 't11']
  · skip
    refine pu rfl pv_mv ?_   -- t10 spec.go:39
    refine pu rfl (pv_eqlB (b := 13) rfl rfl) ?_   -- t11 spec.go:39
    exact LW.nil ⟨rfl, rfl⟩
  subst hw'
  refine pu rfl pv_mv ?_   -- t13 spec.go:39
  refine LW.sc false 2 10 13 14 16 (b := decide (c = 10)) (fun w' => w = w') rfl rfl rfl rfl (fun _ => rfl) rfl (fun ht => ?_) rfl (fun J w' hw' => ?_)   -- t16 := pick ['t13', "c:['true']", 't15']
  · skip
    refine pu rfl pv_mv ?_   -- t14 spec.go:39
    refine pu rfl (pv_eqlB (b := 10) rfl rfl) ?_   -- t15 spec.go:39
    exact LW.nil ⟨rfl, rfl⟩
  subst hw'
  refine pu rfl pv_as ?_   -- t2 spec.go:39
  refine LW.nil ?_
  refine SX.ret ?_
  exact ⟨rfl, rfl⟩

theorem f53_ok (s : List UInt8) (w : World) (hs : s.length ≤ 4294967296) : Fn 53 [S s] w (fun v w' => v = S s ∧ Ext w w') := by
  refine Fn.mk1 (N := 22) Yabc.func53 rfl rfl rfl rfl ?_
  refine SX.seq (SX.reg ?_)   -- region 0
  refine pu rfl pv_as ?_   -- t2 laws.go:35
  refine LW.nil ?_
  refine SX.seq (SX.reg ?_)   -- region 1
  refine pu rfl pv_mv ?_   -- t5 laws.go:36
  refine pu rfl (pv_len_s rfl) ?_   -- t6 laws.go:36
  refine evd rfl (ev_make (T := tB) (z0 := 0) (m := s.length) sl83 okB rfl rfl rfl (by omega) (by unfold maxLen; omega) (Nat.le_refl _) fun vb w1 hv1 ho1 ho1' hx1 => ?_)   -- t7 laws.go:36
  refine pu rfl pv_as ?_   -- t3(b) laws.go:36
  refine LW.nil ?_
  refine SX.seq ?_
  refine SX.seq (SX.reg ?_)   -- region 2
  refine pu rfl pv_as ?_   -- t4(i) laws.go:37
  refine LW.nil ?_
  refine SX.block ?_
  have ho := ho1.own
  clear ho1 ho1' hv1
  refine SX.loop (G := Nat) (fun k => [(0, S s), (3, vb), (4, iv k)]) (fun k w' => k ≤ s.length ∧ Ext w w' ∧ OwnR w' w.heap.size tB vb (s.take k ++ List.replicate (s.length - k) 0)) (fun k => s.length - k) 0 ⟨rfl, rfl, rfl, trivial⟩ ⟨Nat.zero_le _, hx1, by simpa using ho⟩ ?_
  rintro k w2 ρ1 ⟨hk, hx2, ho2⟩
  refine SX.seq ?_
  refine SX.seq (SX.reg ?_)   -- region 3
  refine pu rfl pv_mv ?_   -- t8 laws.go:37
  refine pu rfl pv_mv ?_   -- t9 laws.go:37
  refine pu rfl (pv_len_s rfl) ?_   -- t10 laws.go:37
  refine pu rfl (pv_lss rfl rfl) ?_   -- t11 laws.go:37
  refine LW.nil ?_
  refine SX.cond rfl (fun hc => ?_) (fun hc => ?_)   -- t11
  · skip
    have hlt : k < s.length := by simpa using hc
    have hlen := fill_len s 0 k hk
    refine SX.skip ?_
    refine SX.seq ?_
    refine SX.block ?_
    refine SX.reg ?_
    refine pu rfl pv_mv ?_   -- t14 laws.go:38
    refine pu rfl pv_mv ?_   -- t15 laws.go:38
    refine pu rfl pv_mv ?_   -- t16 laws.go:38
    refine pu rfl pv_mv ?_   -- t17 laws.go:38
    refine pu rfl (pv_index (k := k) rfl rfl (by omega) (by omega)) ?_   -- t18 laws.go:38
    refine pu rfl (pv_ix (T := tB) (k := k) Yabc.underlying83 sz5 okB ho2.rd rfl rfl (by omega) (by omega)) ?_   -- t19 laws.go:38
    refine evn (ev_stE (T := tB) (s.getD k 0) okB ho2 (by omega) sz5 rfl rfl fun w3 ho3 hg3 hz3 hb3 => ?_)   --  laws.go:38
    refine LW.nil ?_
    refine SX.reg ?_
    refine pu rfl pv_mv ?_   -- t12 laws.go:37
    refine pu rfl (pv_add rfl rfl (by omega)) ?_   -- t13 laws.go:37
    refine pu rfl pv_as ?_   -- t4(i) laws.go:37
    refine LW.nil ?_
    rw [getD_lt _ _ _ hlt, fill_step _ _ _ hlt] at ho3
    exact ⟨k + 1, ⟨rfl, rfl, rfl, trivial⟩, ⟨by omega, hx2.step hg3 hb3, ho3⟩, by omega⟩
  · skip
    have hge : s.length ≤ k := by simpa using hc
    rw [fill_end _ _ _ hge] at ho2
    refine SX.exit (xb_here ?_)
    refine SX.seq (SX.reg ?_)   -- region 6
    refine pu rfl pv_mv ?_   -- t20 laws.go:40
    refine pu rfl (pv_str ho2.rd rfl) ?_   -- t21 laws.go:40
    refine pu rfl pv_as ?_   -- t2 laws.go:40
    refine LW.nil ?_
    refine SX.ret ?_
    exact ⟨rfl, hx2⟩

theorem f55_ok (v : Value) (l : List (List UInt8)) (B : Nat) (w : World) (ho : OwnR w B tS v l) (hs : l.length ≤ 4294967296) : Fn 55 [v] w (fun _ w' => w.grownBy w' v.ownBlock) := by
  refine Fn.mk0 (N := 12) Yabc.func55 rfl rfl rfl rfl ?_
  refine SX.seq (SX.reg ?_)   -- region 0
  refine pu rfl pv_as ?_   -- t2(i) laws.go:779
  refine LW.nil ?_
  refine SX.block ?_
  refine SX.loop (G := Nat) (fun k => [(0, v), (2, iv k)]) (fun k w' => k ≤ l.length ∧ w.grownBy w' v.ownBlock ∧ ∃ l', l'.length = l.length ∧ OwnR w' B tS v l') (fun k => l.length - k) 0 ⟨rfl, rfl, trivial⟩ ⟨Nat.zero_le _, grow_refl _ _, l, rfl, ho⟩ ?_
  rintro k w2 ρ1 ⟨hk, hg2, l', hl', ho2⟩
  refine SX.seq ?_
  refine SX.seq (SX.reg ?_)   -- region 1
  refine pu rfl pv_mv ?_   -- t3 laws.go:779
  refine pu rfl pv_mv ?_   -- t4 laws.go:779
  refine pu rfl (pv_lenV (T := tS) Yabc.underlying32 ho2.rd rfl) ?_   -- t5 laws.go:779
  refine pu rfl (pv_lss rfl rfl) ?_   -- t6 laws.go:779
  refine LW.nil ?_
  refine SX.cond rfl (fun hc => ?_) (fun hc => ?_)   -- t6
  · skip
    have hlt : k < l.length := by simp at hc; omega
    refine SX.skip ?_
    refine SX.seq ?_
    refine SX.block ?_
    refine SX.reg ?_
    refine pu rfl pv_mv ?_   -- t9 laws.go:780
    refine pu rfl pv_mv ?_   -- t10 laws.go:780
    refine pu rfl (pv_ix (T := tS) (k := k) Yabc.underlying32 sz9 okS ho2.rd rfl rfl (by omega) (by omega)) ?_   -- t11 laws.go:780
    refine evn (ev_stE (T := tS) [0, 115, 99, 114, 105, 98, 98, 108, 101, 100, 0] okS ho2 (by omega) sz9 rfl rfl fun w3 ho3 hg3 hz3 hb3 => ?_)   --  laws.go:780
    refine LW.nil ?_
    refine SX.reg ?_
    refine pu rfl pv_mv ?_   -- t7 laws.go:779
    refine pu rfl (pv_add rfl rfl (by omega)) ?_   -- t8 laws.go:779
    refine pu rfl pv_as ?_   -- t2(i) laws.go:779
    refine LW.nil ?_
    exact ⟨k + 1, ⟨rfl, rfl, trivial⟩, ⟨by omega, grow_trans hg2 hg3, _, by simpa using hl', ho3⟩, by omega⟩
  · skip
    refine SX.exit (xb_here ?_)
    exact hg2

theorem f54_ok (a b : Value) (l : List (List UInt8)) (w : World) (ha : Rd w tS a l) (hb : Rd w tS b l) (hs : l.length ≤ 4294967296) : Fn 54 [a, b] w (fun v w' => v = .bool true ∧ Ext w w') := by
  refine Fn.mk1 (N := 26) Yabc.func54 rfl rfl rfl rfl ?_
  refine SX.seq (SX.reg ?_)   -- region 0
  refine pu rfl pv_as ?_   -- t4 laws.go:766
  refine LW.nil ?_
  refine SX.seq ?_
  refine SX.seq (SX.reg ?_)   -- region 1
  refine pu rfl pv_mv ?_   -- t6 laws.go:767
  refine pu rfl (pv_lenV (T := tS) Yabc.underlying32 ha rfl) ?_   -- t7 laws.go:767
  refine pu rfl pv_mv ?_   -- t8 laws.go:767
  refine pu rfl (pv_lenV (T := tS) Yabc.underlying32 hb rfl) ?_   -- t9 laws.go:767
  refine pu rfl (pv_neq rfl rfl) ?_   -- t10 laws.go:767
  refine LW.nil ?_
  refine SX.cond rfl (fun hc => absurd hc (by simp)) (fun hc => ?_)   -- t10
  refine SX.skip ?_
  refine SX.seq ?_
  refine SX.seq (SX.reg ?_)   -- region 3
  refine pu rfl pv_as ?_   -- t5(i) laws.go:770
  refine LW.nil ?_
  refine SX.block ?_
  refine SX.loop (G := Nat) (fun k => [(0, a), (1, b), (5, iv k)]) (fun k w' => k ≤ l.length ∧ Ext w w') (fun k => l.length - k) 0 ⟨rfl, rfl, rfl, trivial⟩ ⟨Nat.zero_le _, Ext.refl w⟩ ?_
  rintro k w2 ρ1 ⟨hk, hx2⟩
  refine SX.seq ?_
  refine SX.seq (SX.reg ?_)   -- region 4
  refine pu rfl pv_mv ?_   -- t11 laws.go:770
  refine pu rfl pv_mv ?_   -- t12 laws.go:770
  refine pu rfl (pv_lenV (T := tS) Yabc.underlying32 (ha.ext hx2) rfl) ?_   -- t13 laws.go:770
  refine pu rfl (pv_lss rfl rfl) ?_   -- t14 laws.go:770
  refine LW.nil ?_
  refine SX.cond rfl (fun hc => ?_) (fun hc => ?_)   -- t14
  · skip
    have hlt : k < l.length := by simpa using hc
    refine SX.skip ?_
    refine SX.seq ?_
    refine SX.block ?_
    refine SX.seq ?_
    refine SX.draw [(0, true), (1, true), (2, true), (3, true), (4, true), (5, true), (6, true), (7, true), (8, true)] (fun w' => Ext w w') (by kernel_rfl) (hx2.trans (Ext.drew w2)) ?_   -- region 6
    refine du rfl rfl (fun w' hw' => pv_mv) ?_   -- 0: t17 laws.go:771 
    refine du rfl rfl (fun w' hw' => pv_mv) ?_   -- 1: t18 laws.go:771 
    refine du rfl rfl (fun w' hw' => pv_ix (T := tS) (k := k) Yabc.underlying32 sz9 okS (ha.ext hw') rfl rfl (by omega) (by omega)) ?_   -- 2: t19 laws.go:771 
    refine du rfl rfl (fun w' hw' => pv_ld ag9 rfl ((ha.ext hw').cell0 okS (by omega) rfl)) ?_   -- 3: t20 laws.go:771 
    refine du rfl rfl (fun w' hw' => pv_mv) ?_   -- 4: t21 laws.go:771 
    refine du rfl rfl (fun w' hw' => pv_mv) ?_   -- 5: t22 laws.go:771 
    refine du rfl rfl (fun w' hw' => pv_ix (T := tS) (k := k) Yabc.underlying32 sz9 okS (hb.ext hw') rfl rfl (by omega) (by omega)) ?_   -- 6: t23 laws.go:771 
    refine du rfl rfl (fun w' hw' => pv_ld ag9 rfl ((hb.ext hw').cell0 okS (by omega) rfl)) ?_   -- 7: t24 laws.go:771 
    refine du rfl rfl (fun w' hw' => pv_neqS rfl rfl) ?_   -- 8: t25 laws.go:771 
    refine DW.nil ?_
    refine SX.cond rfl (fun hc => absurd hc (by simp)) (fun hc => ?_)   -- t25
    refine SX.skip ?_
    refine SX.reg ?_
    refine pu rfl pv_mv ?_   -- t15 laws.go:770
    refine pu rfl (pv_add rfl rfl (by omega)) ?_   -- t16 laws.go:770
    refine pu rfl pv_as ?_   -- t5(i) laws.go:770
    refine LW.nil ?_
    exact ⟨k + 1, ⟨rfl, rfl, rfl, trivial⟩, ⟨by omega, hx2.trans (Ext.drew w2)⟩, by omega⟩
  · skip
    refine SX.exit (xb_here ?_)
    refine SX.seq (SX.reg ?_)   -- region 8
    refine pu rfl pv_as ?_   -- t4 laws.go:775
    refine LW.nil ?_
    refine SX.ret ?_
    exact ⟨rfl, hx2⟩

theorem f81_ok (d : List UInt8) (w : World) (hs : d.length ≤ 4294967296) : Fn 81 [S d] w (fun v w' => Own w' w.heap.size tS v (cutAll d) ∧ Ext w w') := by
  refine Fn.mk1 (N := 31) Yabc.func81 rfl rfl rfl rfl ?_
  refine SX.seq (SX.reg ?_)   -- region 0
  refine pu rfl pv_as ?_   -- t2 spec.go:529
  refine LW.nil ?_
  refine SX.seq (SX.reg ?_)   -- region 1
  refine pu rfl pv_as ?_   -- t3(parts) spec.go:530
  refine LW.nil ?_
  refine SX.seq (SX.reg ?_)   -- region 2
  refine pu rfl pv_as ?_   -- t4(start) spec.go:531
  refine LW.nil ?_
  refine SX.seq ?_
  refine SX.seq (SX.reg ?_)   -- region 3
  refine pu rfl pv_as ?_   -- t5(i) spec.go:532
  refine LW.nil ?_
  refine SX.block ?_
  refine SX.loop4 (fun (i st : Nat) v (P : List (List UInt8)) => [(0, S d), (3, v), (4, iv st), (5, iv i)]) (fun i st v P w' => CutInv d P st i ∧ Own w' w.heap.size tS v P ∧ Ext w w') (fun i _ _ _ => d.length - i) 0 0 (.slice none 0 0) [] ⟨rfl, rfl, rfl, rfl, trivial⟩ ⟨CutInv.start d, Own.nil _ _ _, Ext.refl w⟩ ?_
  rintro i st v P w2 ρ1 ⟨hinv, hown, hx⟩
  have hcnt := hinv.cnt
  have hle := hinv.le
  have hhi := hinv.hi
  refine SX.seq ?_
  refine SX.seq (SX.reg ?_)   -- region 4
  refine pu rfl pv_mv ?_   -- t6 spec.go:532
  refine pu rfl pv_mv ?_   -- t7 spec.go:532
  refine pu rfl (pv_len_s rfl) ?_   -- t8 spec.go:532
  refine pu rfl (pv_lss rfl rfl) ?_   -- t9 spec.go:532
  refine LW.nil ?_
  refine SX.cond rfl (fun hc => ?_) (fun hc => ?_)   -- t9
  · skip
    have hlt : i < d.length := by simpa using hc
    refine SX.skip ?_
    refine SX.seq ?_
    refine SX.block ?_
    refine SX.seq (SX.reg ?_)   -- region 6
    refine pu rfl pv_mv ?_   -- t12 spec.go:533
    refine pu rfl pv_mv ?_   -- t13 spec.go:533
    refine pu rfl (pv_index (k := i) rfl rfl (by omega) (by omega)) ?_   -- t14 spec.go:533
    refine pu rfl (pv_eqlB (b := 10) rfl rfl) ?_   -- t15 spec.go:533
    refine LW.nil ?_
    refine SX.cond rfl (fun hc => ?_) (fun hc => ?_)   -- t15
    · skip
      have hit : d.getD i 0 = 10 := by simpa using hc
      refine SX.seq (SX.reg ?_)   -- region 7
      refine pu rfl pv_mv ?_   -- t16 spec.go:534
      refine pu rfl pv_mv ?_   -- t17 spec.go:534
      refine pu rfl pv_mv ?_   -- t18 spec.go:534
      refine pu rfl pv_mv ?_   -- t19 spec.go:534
      refine pu rfl (pv_cut (a := st) (b := i) rfl rfl rfl (by omega) (by omega) (by omega) (by omega)) ?_   -- t20 spec.go:534
      refine push (T := tS) ((d.drop st).take (i - st)) sl32 okS (by decide) hown hx.size rfl (fun _ => rfl) rfl rfl (by omega) (by unfold maxLen; omega) fun J1 v1 w3 ho3 hg3 => ?_   -- t21 spec.go:534
      refine pu rfl pv_as ?_   -- t3(parts) spec.go:534
      refine LW.nil ?_
      refine SX.reg ?_
      refine pu rfl pv_mv ?_   -- t23 spec.go:535
      refine pu rfl (pv_add rfl rfl (by omega)) ?_   -- t24 spec.go:535
      refine pu rfl pv_as ?_   -- t4(start) spec.go:535
      refine LW.nil ?_
      refine SX.reg ?_
      refine pu rfl pv_mv ?_   -- t10 spec.go:532
      refine pu rfl (pv_add rfl rfl (by omega)) ?_   -- t11 spec.go:532
      refine pu rfl pv_as ?_   -- t5(i) spec.go:532
      refine LW.nil ?_
      exact ⟨i + 1, i + 1, v1, P ++ [(d.drop st).take (i - st)], ⟨rfl, rfl, rfl, rfl, trivial⟩, ⟨hinv.hit hlt hit, ho3, hx.step hg3.grown fun g e => (hown.lt g e).1⟩, by omega⟩
    · skip
      have hit : d.getD i 0 ≠ 10 := by simpa using hc
      refine SX.skip ?_
      refine SX.reg ?_
      refine pu rfl pv_mv ?_   -- t10 spec.go:532
      refine pu rfl (pv_add rfl rfl (by omega)) ?_   -- t11 spec.go:532
      refine pu rfl pv_as ?_   -- t5(i) spec.go:532
      refine LW.nil ?_
      exact ⟨i + 1, st, v, P, ⟨rfl, rfl, rfl, rfl, trivial⟩, ⟨hinv.miss hlt hit, hown, hx⟩, by omega⟩
  · skip
    have hge : d.length ≤ i := by simpa using hc
    refine SX.exit (xb_here ?_)
    refine SX.seq (SX.reg ?_)   -- region 9
    refine pu rfl pv_mv ?_   -- t25 spec.go:538
    refine pu rfl pv_mv ?_   -- t26 spec.go:538
    refine pu rfl pv_mv ?_   -- t27 spec.go:538
    refine pu rfl (pv_cutFrom (a := st) rfl rfl (by omega) (by omega)) ?_   -- t28 spec.go:538
    refine push (T := tS) (d.drop st) sl32 okS (by decide) hown hx.size rfl (fun _ => rfl) rfl rfl (by omega) (by unfold maxLen; omega) fun J1 v1 w3 ho3 hg3 => ?_   -- t29 spec.go:538
    refine pu rfl pv_as ?_   -- t2 spec.go:538
    refine LW.nil ?_
    refine SX.ret ?_
    exact ⟨by rw [hinv.done hge]; exact ho3, hx.step hg3.grown fun g e => (hown.lt g e).1⟩

theorem f23_ok (d : List UInt8) (w : World) (hs : d.length ≤ 4294967296) : Fn 23 [S d] w (fun v w' => OwnR w' w.heap.size tS v (splitL d) ∧ Ext w w') := by
  refine Fn.mk1 (N := 21) Yabc.func23 rfl rfl rfl rfl ?_
  refine SX.seq (SX.reg ?_)   -- region 0
  refine pu rfl pv_as ?_   -- t2 spec.go:542
  refine LW.nil ?_
  refine SX.seq ?_
  refine SX.seq (SX.reg ?_)   -- region 1
  refine pu rfl pv_mv ?_   -- t4 spec.go:543
  refine pu rfl (pv_len_s rfl) ?_   -- t5 spec.go:543
  refine pu rfl (pv_eql rfl rfl) ?_   -- t6 spec.go:543
  refine LW.nil ?_
  refine SX.cond rfl (fun hc => ?_) (fun hc => ?_)   -- t6
  · skip
    have hd : d = [] := by simpa using hc
    refine SX.seq (SX.reg ?_)   -- region 2
    refine pu rfl pv_as ?_   -- t2 spec.go:544
    refine LW.nil ?_
    refine SX.ret ?_
    exact ⟨by rw [splitL, if_pos hd]; exact (Own.nil _ _ _).own, Ext.refl w⟩
  · skip
    have hd : d ≠ [] := by simpa using hc
    have hpos : 0 < d.length := List.length_pos_iff.2 hd
    refine SX.skip ?_
    refine SX.seq (SX.reg ?_)   -- region 3
    refine pu rfl pv_mv ?_   -- t7 spec.go:546
    refine evd rfl (ev_call cb81 rfl (f81_ok d w hs) ?_)   -- t8 spec.go:546
    rintro v1 w1 ⟨ho1, hx1⟩
    obtain ⟨ao, c, rfl, hc1, hc2⟩ := ho1.form
    have hc3 := hc2 (cutAll_ne d)
    have hcl := cutAll_len d
    have hcp : 0 < (cutAll d).length := List.length_pos_iff.2 (cutAll_ne d)
    refine pu rfl pv_as ?_   -- t3(parts) spec.go:546
    refine LW.nil ?_
    refine SX.seq ?_
    refine SX.seq (SX.reg ?_)   -- region 4
    refine pu rfl pv_mv ?_   -- t9 spec.go:547
    refine pu rfl pv_mv ?_   -- t10 spec.go:547
    refine pu rfl (pv_len_s rfl) ?_   -- t11 spec.go:547
    refine pu rfl (pv_sub rfl rfl (by omega)) ?_   -- t12 spec.go:547
    refine pu rfl (pv_index (k := (d.length - 1)) rfl rfl (by omega) (by omega)) ?_   -- t13 spec.go:547
    refine pu rfl (pv_eqlB (b := 10) rfl rfl) ?_   -- t14 spec.go:547
    refine LW.nil ?_
    refine SX.cond rfl (fun hc => ?_) (fun hc => ?_)   -- t14
    · skip
      have hit : d.getD (d.length - 1) 0 = 10 := by simpa using hc
      refine SX.reg ?_
      refine pu rfl pv_mv ?_   -- t15 spec.go:548
      refine pu rfl pv_mv ?_   -- t16 spec.go:548
      refine pu rfl (pv_lenV (T := tS) Yabc.underlying32 ho1.rd rfl) ?_   -- t17 spec.go:548
      refine pu rfl (pv_sub rfl rfl (by omega)) ?_   -- t18 spec.go:548
      refine pu rfl (pv_to (T := tS) (n := (cutAll d).length - 1) Yabc.underlying32 sz9 rfl rfl (by omega) (by omega) (by omega)) ?_   -- t19 spec.go:548
      refine pu rfl pv_as ?_   -- t3(parts) spec.go:548
      refine LW.nil ?_
      refine SX.seq (SX.reg ?_)   -- region 6
      refine pu rfl pv_mv ?_   -- t20 spec.go:550
      refine pu rfl pv_as ?_   -- t2 spec.go:550
      refine LW.nil ?_
      refine SX.ret ?_
      refine ⟨?_, hx1⟩
      have ho2 := (ho1.cut okS (k := (cutAll d).length - 1) (by omega) hcp).own
      rw [splitL, if_neg hd, if_pos hit, List.dropLast_eq_take]
      exact ho2
    · skip
      have hit : d.getD (d.length - 1) 0 ≠ 10 := by simpa using hc
      refine SX.skip ?_
      refine SX.seq (SX.reg ?_)   -- region 6
      refine pu rfl pv_mv ?_   -- t20 spec.go:550
      refine pu rfl pv_as ?_   -- t2 spec.go:550
      refine LW.nil ?_
      refine SX.ret ?_
      exact ⟨by rw [splitL, if_neg hd, if_neg hit]; exact ho1.own, hx1⟩

theorem f21_ok (d : List UInt8) (w : World) (hs : d.length ≤ 4294967296) : Fn 21 [S d] w (fun v w' => OwnR w' w.heap.size tS v (splitL d) ∧ Ext w w') := by
  refine Fn.mk1 (N := 40) Yabc.func21 rfl rfl rfl rfl ?_
  refine SX.seq (SX.reg ?_)   -- region 0
  refine pu rfl pv_as ?_   -- t2 impl.go:102
  refine LW.nil ?_
  refine SX.seq (SX.reg ?_)   -- region 1
  refine pu rfl pv_as ?_   -- t3(res) impl.go:103
  refine LW.nil ?_
  refine SX.seq ?_
  refine SX.seq (SX.reg ?_)   -- region 2
  refine pu rfl pv_mv ?_   -- t6 impl.go:104
  refine pu rfl (pv_len_s rfl) ?_   -- t7 impl.go:104
  refine pu rfl (pv_eql rfl rfl) ?_   -- t8 impl.go:104
  refine LW.nil ?_
  refine SX.cond rfl (fun hc => ?_) (fun hc => ?_)   -- t8
  · skip
    have hd : d = [] := by simpa using hc
    refine SX.seq (SX.reg ?_)   -- region 3
    refine pu rfl pv_mv ?_   -- t9 impl.go:105
    refine pu rfl pv_as ?_   -- t2 impl.go:105
    refine LW.nil ?_
    refine SX.ret ?_
    exact ⟨by rw [splitL, if_pos hd]; exact (Own.nil _ _ _).own, Ext.refl w⟩
  · skip
    have hd : d ≠ [] := by simpa using hc
    refine SX.skip ?_
    refine SX.seq (SX.reg ?_)   -- region 4
    refine pu rfl pv_as ?_   -- t4(start) impl.go:107
    refine LW.nil ?_
    refine SX.seq ?_
    refine SX.seq (SX.reg ?_)   -- region 5
    refine pu rfl pv_as ?_   -- t5(i) impl.go:108
    refine LW.nil ?_
    refine SX.block ?_
    refine SX.loop4 (fun (i st : Nat) v (P : List (List UInt8)) => [(0, S d), (3, v), (4, iv st), (5, iv i)]) (fun i st v P w' => CutInv d P st i ∧ Own w' w.heap.size tS v P ∧ Ext w w') (fun i _ _ _ => d.length - i) 0 0 (.slice none 0 0) [] ⟨rfl, rfl, rfl, rfl, trivial⟩ ⟨CutInv.start d, Own.nil _ _ _, Ext.refl w⟩ ?_
    rintro i st v P w2 ρ1 ⟨hinv, hown, hx⟩
    have hcnt := hinv.cnt
    have hle := hinv.le
    have hhi := hinv.hi
    refine SX.seq ?_
    refine SX.seq (SX.reg ?_)   -- region 6
    refine pu rfl pv_mv ?_   -- t10 impl.go:108
    refine pu rfl pv_mv ?_   -- t11 impl.go:108
    refine pu rfl (pv_len_s rfl) ?_   -- t12 impl.go:108
    refine pu rfl (pv_lss rfl rfl) ?_   -- t13 impl.go:108
    refine LW.nil ?_
    refine SX.cond rfl (fun hc => ?_) (fun hc => ?_)   -- t13
    · skip
      have hlt : i < d.length := by simpa using hc
      refine SX.skip ?_
      refine SX.seq ?_
      refine SX.block ?_
      refine SX.seq (SX.reg ?_)   -- region 8
      refine pu rfl pv_mv ?_   -- t16 impl.go:109
      refine pu rfl pv_mv ?_   -- t17 impl.go:109
      refine pu rfl (pv_index (k := i) rfl rfl (by omega) (by omega)) ?_   -- t18 impl.go:109
      refine pu rfl (pv_eqlB (b := 10) rfl rfl) ?_   -- t19 impl.go:109
      refine LW.nil ?_
      refine SX.cond rfl (fun hc => ?_) (fun hc => ?_)   -- t19
      · skip
        have hit : d.getD i 0 = 10 := by simpa using hc
        refine SX.seq (SX.reg ?_)   -- region 9
        refine pu rfl pv_mv ?_   -- t20 impl.go:110
        refine pu rfl pv_mv ?_   -- t21 impl.go:110
        refine pu rfl pv_mv ?_   -- t22 impl.go:110
        refine pu rfl pv_mv ?_   -- t23 impl.go:110
        refine pu rfl (pv_cut (a := st) (b := i) rfl rfl rfl (by omega) (by omega) (by omega) (by omega)) ?_   -- t24 impl.go:110
        refine push (T := tS) ((d.drop st).take (i - st)) sl32 okS (by decide) hown hx.size rfl (fun _ => rfl) rfl rfl (by omega) (by unfold maxLen; omega) fun J1 v1 w3 ho3 hg3 => ?_   -- t25 impl.go:110
        refine pu rfl pv_as ?_   -- t3(res) impl.go:110
        refine LW.nil ?_
        refine SX.reg ?_
        refine pu rfl pv_mv ?_   -- t27 impl.go:111
        refine pu rfl (pv_add rfl rfl (by omega)) ?_   -- t28 impl.go:111
        refine pu rfl pv_as ?_   -- t4(start) impl.go:111
        refine LW.nil ?_
        refine SX.reg ?_
        refine pu rfl pv_mv ?_   -- t14 impl.go:108
        refine pu rfl (pv_add rfl rfl (by omega)) ?_   -- t15 impl.go:108
        refine pu rfl pv_as ?_   -- t5(i) impl.go:108
        refine LW.nil ?_
        exact ⟨i + 1, i + 1, v1, P ++ [(d.drop st).take (i - st)], ⟨rfl, rfl, rfl, rfl, trivial⟩, ⟨hinv.hit hlt hit, ho3, hx.step hg3.grown fun g e => (hown.lt g e).1⟩, by omega⟩
      · skip
        have hit : d.getD i 0 ≠ 10 := by simpa using hc
        refine SX.skip ?_
        refine SX.reg ?_
        refine pu rfl pv_mv ?_   -- t14 impl.go:108
        refine pu rfl (pv_add rfl rfl (by omega)) ?_   -- t15 impl.go:108
        refine pu rfl pv_as ?_   -- t5(i) impl.go:108
        refine LW.nil ?_
        exact ⟨i + 1, st, v, P, ⟨rfl, rfl, rfl, rfl, trivial⟩, ⟨hinv.miss hlt hit, hown, hx⟩, by omega⟩
    · skip
      have hge : d.length ≤ i := by simpa using hc
      refine SX.exit (xb_here ?_)
      refine SX.seq ?_
      refine SX.seq (SX.reg ?_)   -- region 11
      refine pu rfl pv_mv ?_   -- t29 impl.go:114
      refine pu rfl pv_mv ?_   -- t30 impl.go:114
      refine pu rfl (pv_len_s rfl) ?_   -- t31 impl.go:114
      refine pu rfl (pv_lss rfl rfl) ?_   -- t32 impl.go:114
      refine LW.nil ?_
      refine SX.cond rfl (fun hc => ?_) (fun hc => ?_)   -- t32
      · skip
        have hst : st < d.length := by simpa using hc
        refine SX.reg ?_
        refine pu rfl pv_mv ?_   -- t33 impl.go:115
        refine pu rfl pv_mv ?_   -- t34 impl.go:115
        refine pu rfl pv_mv ?_   -- t35 impl.go:115
        refine pu rfl (pv_cutFrom (a := st) rfl rfl (by omega) (by omega)) ?_   -- t36 impl.go:115
        refine push (T := tS) (d.drop st) sl32 okS (by decide) hown hx.size rfl (fun _ => rfl) rfl rfl (by omega) (by unfold maxLen; omega) fun J1 v1 w3 ho3 hg3 => ?_   -- t37 impl.go:115
        refine pu rfl pv_as ?_   -- t3(res) impl.go:115
        refine LW.nil ?_
        refine SX.seq (SX.reg ?_)   -- region 13
        refine pu rfl pv_mv ?_   -- t39 impl.go:117
        refine pu rfl pv_as ?_   -- t2 impl.go:117
        refine LW.nil ?_
        refine SX.ret ?_
        exact ⟨by rw [hinv.split_more hge hd hst]; exact ho3.own, hx.step hg3.grown fun g e => (hown.lt g e).1⟩
      · skip
        have hst : d.length ≤ st := by simpa using hc
        refine SX.skip ?_
        refine SX.seq (SX.reg ?_)   -- region 13
        refine pu rfl pv_mv ?_   -- t39 impl.go:117
        refine pu rfl pv_as ?_   -- t2 impl.go:117
        refine LW.nil ?_
        refine SX.ret ?_
        exact ⟨by rw [hinv.split_end hge hd hst]; exact hown.own, hx⟩

end Go.Proofs.Ybuabw
