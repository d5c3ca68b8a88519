/-
  WALKS. Rows of one byte; normal forms of texts; shown lines of the call's own. Own work for the seat Ybuabw (the steps of each walk were typed by a program of ours off the printed code).
-/
import Derived.Test.YbuabwW4
import Derived.Test.YbuabwW6
import Derived.Test.YbuabwW7
import Derived.Test.YbuabwMem8
import Derived.Test.YbuabwPlain6
namespace Go.Proofs.Ybuabw
open Go.RowKit
set_option linter.unusedVariables false
set_option linter.unusedSimpArgs false
set_option maxRecDepth 20000

theorem f97_ok (c : UInt8) (n : Nat) (w : World) (hn : n ≤ 1073741824) : Fn 97 [bt c, iv n] w (fun v w' => v = S (List.replicate n c) ∧ Ext w w') := by
  refine Fn.mk1 (N := 22) Yabc.func97 rfl rfl rfl rfl ?_
  have hrl : (List.replicate n c).length = n := List.length_replicate
  refine SX.seq (SX.reg ?_)   -- region 0
  refine pu rfl pv_as ?_   -- t4 impl.go:90
  refine LW.nil ?_
  refine SX.seq ?_
  refine SX.seq (SX.reg ?_)   -- region 1
  refine pu rfl pv_mv ?_   -- t7 impl.go:91
  refine pu rfl (pv_leq rfl rfl) ?_   -- t8 impl.go:91
  refine LW.nil ?_
  refine SX.cond rfl (fun hc => ?_) (fun hc => ?_)   -- t8
  · skip
    have h0 : n = 0 := by simp at hc; omega
    refine SX.seq (SX.reg ?_)   -- region 2
    refine pu rfl pv_as ?_   -- t4 impl.go:92
    refine LW.nil ?_
    refine SX.ret ?_
    exact ⟨by rw [h0]; rfl, Ext.refl w⟩
  · skip
    have h0 : 0 < n := by simp at hc; omega
    refine SX.skip ?_
    refine SX.seq (SX.reg ?_)   -- region 3
    refine pu rfl pv_mv ?_   -- t9 impl.go:94
    refine evd rfl (ev_make (T := tB) (z0 := 0) (m := n) sl83 okB rfl rfl rfl (by omega) (by unfold maxLen; omega) (Nat.le_refl _) fun vb w1 hv1 ho1 ho1' hx1 => ?_)   -- t10 impl.go:94
    refine pu rfl pv_as ?_   -- t5(out) impl.go:94
    refine LW.nil ?_
    refine SX.seq ?_
    refine SX.seq (SX.reg ?_)   -- region 4
    refine pu rfl pv_as ?_   -- t6(i) impl.go:95
    refine LW.nil ?_
    refine SX.block ?_
    have ho := ho1.own
    clear ho1 ho1' hv1
    refine SX.loop (G := Nat) (fun k => [(0, bt c), (1, iv n), (5, vb), (6, iv k)]) (fun k w' => k ≤ n ∧ Ext w w' ∧ OwnR w' w.heap.size tB vb ((List.replicate n c).take k ++ List.replicate ((List.replicate n c).length - k) 0)) (fun k => n - k) 0 ⟨rfl, rfl, rfl, rfl, trivial⟩ ⟨Nat.zero_le _, hx1, by simpa using ho⟩ ?_
    rintro k w2 ρ1 ⟨hk, hx2, ho2⟩
    refine SX.seq ?_
    refine SX.seq (SX.reg ?_)   -- region 5
    refine pu rfl pv_mv ?_   -- t11 impl.go:95
    refine pu rfl pv_mv ?_   -- t12 impl.go:95
    refine pu rfl (pv_lss rfl rfl) ?_   -- t13 impl.go:95
    refine LW.nil ?_
    refine SX.cond rfl (fun hc => ?_) (fun hc => ?_)   -- t13
    · skip
      have hlt : k < n := by simpa using hc
      have hlen := fill_len (List.replicate n c) 0 k (by omega)
      refine SX.skip ?_
      refine SX.seq ?_
      refine SX.block ?_
      refine SX.reg ?_
      refine pu rfl pv_mv ?_   -- t16 impl.go:96
      refine pu rfl pv_mv ?_   -- t17 impl.go:96
      refine pu rfl pv_mv ?_   -- t18 impl.go:96
      refine pu rfl (pv_ix (T := tB) (k := k) Yabc.underlying83 sz5 okB ho2.rd rfl rfl (by omega) (by omega)) ?_   -- t19 impl.go:96
      refine evn (ev_stE (T := tB) c okB ho2 (k := k) (by omega) sz5 rfl rfl fun w3 ho3 hg3 hz3 hb3 => ?_)   --  impl.go:96
      refine LW.nil ?_
      refine SX.reg ?_
      refine pu rfl pv_mv ?_   -- t14 impl.go:95
      refine pu rfl (pv_add rfl rfl (by omega)) ?_   -- t15 impl.go:95
      refine pu rfl pv_as ?_   -- t6(i) impl.go:95
      refine LW.nil ?_
      have hfs := fill_step (List.replicate n c) 0 k (by omega)
      rw [List.getElem_replicate] at hfs
      rw [hfs] at ho3
      exact ⟨k + 1, ⟨rfl, rfl, rfl, rfl, trivial⟩, ⟨by omega, hx2.step hg3 hb3, ho3⟩, by omega⟩
    · skip
      have hge : n ≤ k := by simpa using hc
      rw [fill_end _ _ _ (by omega)] at ho2
      refine SX.exit (xb_here ?_)
      refine SX.seq (SX.reg ?_)   -- region 8
      refine pu rfl pv_mv ?_   -- t20 impl.go:98
      refine pu rfl (pv_str ho2.rd rfl) ?_   -- t21 impl.go:98
      refine pu rfl pv_as ?_   -- t4 impl.go:98
      refine LW.nil ?_
      refine SX.ret ?_
      exact ⟨rfl, hx2⟩

theorem f99_ok (c : UInt8) (n : Nat) (w : World) (hn : n ≤ 1073741824) : Fn 99 [bt c, iv n] w (fun v w' => v = S (List.replicate n c) ∧ Ext w w') := by
  refine Fn.mk1 (N := 22) Yabc.func99 rfl rfl rfl rfl ?_
  have hrl : (List.replicate n c).length = n := List.length_replicate
  refine SX.seq (SX.reg ?_)   -- region 0
  refine pu rfl pv_as ?_   -- t4 spec.go:89
  refine LW.nil ?_
  refine SX.seq ?_
  refine SX.seq (SX.reg ?_)   -- region 1
  refine pu rfl pv_mv ?_   -- t7 spec.go:90
  refine pu rfl (pv_leq rfl rfl) ?_   -- t8 spec.go:90
  refine LW.nil ?_
  refine SX.cond rfl (fun hc => ?_) (fun hc => ?_)   -- t8
  · skip
    have h0 : n = 0 := by simp at hc; omega
    refine SX.seq (SX.reg ?_)   -- region 2
    refine pu rfl pv_as ?_   -- t4 spec.go:91
    refine LW.nil ?_
    refine SX.ret ?_
    exact ⟨by rw [h0]; rfl, Ext.refl w⟩
  · skip
    have h0 : 0 < n := by simp at hc; omega
    refine SX.skip ?_
    refine SX.seq (SX.reg ?_)   -- region 3
    refine pu rfl pv_mv ?_   -- t9 spec.go:93
    refine evd rfl (ev_make (T := tB) (z0 := 0) (m := n) sl83 okB rfl rfl rfl (by omega) (by unfold maxLen; omega) (Nat.le_refl _) fun vb w1 hv1 ho1 ho1' hx1 => ?_)   -- t10 spec.go:93
    refine pu rfl pv_as ?_   -- t5(out) spec.go:93
    refine LW.nil ?_
    refine SX.seq ?_
    refine SX.seq (SX.reg ?_)   -- region 4
    refine pu rfl pv_as ?_   -- t6(i) spec.go:94
    refine LW.nil ?_
    refine SX.block ?_
    have ho := ho1.own
    clear ho1 ho1' hv1
    refine SX.loop (G := Nat) (fun k => [(0, bt c), (1, iv n), (5, vb), (6, iv k)]) (fun k w' => k ≤ n ∧ Ext w w' ∧ OwnR w' w.heap.size tB vb ((List.replicate n c).take k ++ List.replicate ((List.replicate n c).length - k) 0)) (fun k => n - k) 0 ⟨rfl, rfl, rfl, rfl, trivial⟩ ⟨Nat.zero_le _, hx1, by simpa using ho⟩ ?_
    rintro k w2 ρ1 ⟨hk, hx2, ho2⟩
    refine SX.seq ?_
    refine SX.seq (SX.reg ?_)   -- region 5
    refine pu rfl pv_mv ?_   -- t11 spec.go:94
    refine pu rfl pv_mv ?_   -- t12 spec.go:94
    refine pu rfl (pv_lss rfl rfl) ?_   -- t13 spec.go:94
    refine LW.nil ?_
    refine SX.cond rfl (fun hc => ?_) (fun hc => ?_)   -- t13
    · skip
      have hlt : k < n := by simpa using hc
      have hlen := fill_len (List.replicate n c) 0 k (by omega)
      refine SX.skip ?_
      refine SX.seq ?_
      refine SX.block ?_
      refine SX.reg ?_
      refine pu rfl pv_mv ?_   -- t16 spec.go:95
      refine pu rfl pv_mv ?_   -- t17 spec.go:95
      refine pu rfl pv_mv ?_   -- t18 spec.go:95
      refine pu rfl (pv_ix (T := tB) (k := k) Yabc.underlying83 sz5 okB ho2.rd rfl rfl (by omega) (by omega)) ?_   -- t19 spec.go:95
      refine evn (ev_stE (T := tB) c okB ho2 (k := k) (by omega) sz5 rfl rfl fun w3 ho3 hg3 hz3 hb3 => ?_)   --  spec.go:95
      refine LW.nil ?_
      refine SX.reg ?_
      refine pu rfl pv_mv ?_   -- t14 spec.go:94
      refine pu rfl (pv_add rfl rfl (by omega)) ?_   -- t15 spec.go:94
      refine pu rfl pv_as ?_   -- t6(i) spec.go:94
      refine LW.nil ?_
      have hfs := fill_step (List.replicate n c) 0 k (by omega)
      rw [List.getElem_replicate] at hfs
      rw [hfs] at ho3
      exact ⟨k + 1, ⟨rfl, rfl, rfl, rfl, trivial⟩, ⟨by omega, hx2.step hg3 hb3, ho3⟩, by omega⟩
    · skip
      have hge : n ≤ k := by simpa using hc
      rw [fill_end _ _ _ (by omega)] at ho2
      refine SX.exit (xb_here ?_)
      refine SX.seq (SX.reg ?_)   -- region 8
      refine pu rfl pv_mv ?_   -- t20 spec.go:97
      refine pu rfl (pv_str ho2.rd rfl) ?_   -- t21 spec.go:97
      refine pu rfl pv_as ?_   -- t4 spec.go:97
      refine LW.nil ?_
      refine SX.ret ?_
      exact ⟨rfl, hx2⟩

theorem f98_ok (t : Str) (w : World) (hs : t.length ≤ 2097152) : Fn 98 [S t] w (fun v w' => OwnR w' w.heap.size tI v (pOf t) ∧ Ext w w') := by
  refine Fn.mk1 (N := 6) Yabc.func98 rfl rfl rfl rfl ?_
  have hbd := parseInline_bd t
  refine SX.seq (SX.reg ?_)   -- region 0
  refine pu rfl pv_as ?_   -- t2 impl.go:518
  refine LW.nil ?_
  refine SX.seq (SX.reg ?_)   -- region 1
  refine pu rfl pv_mv ?_   -- t3 impl.go:519
  refine evd rfl (ev_call cb30 rfl (f30_ok t w (by omega)) ?_)   -- t4 impl.go:519
  rintro v1 w1 ⟨ho1, hx1, _⟩
  refine evd rfl (ev_call cb35 rfl (f35_ok v1 (parseInline t) w1 ho1.rd (by omega) (by omega)) ?_)   -- t5 impl.go:519
  rintro v2 w2 ⟨ho2, hx2⟩
  refine pu rfl pv_as ?_   -- t2 impl.go:519
  refine LW.nil ?_
  refine SX.ret ?_
  exact ⟨ho2.low hx1.size, hx1.trans hx2⟩

theorem f100_ok (t : Str) (w : World) (hs : t.length ≤ 2097152) : Fn 100 [S t] w (fun v w' => OwnR w' w.heap.size tI v (pOf t) ∧ Ext w w') := by
  refine Fn.mk1 (N := 6) Yabc.func100 rfl rfl rfl rfl ?_
  have hbd := parseInline_bd t
  refine SX.seq (SX.reg ?_)   -- region 0
  refine pu rfl pv_as ?_   -- t2 spec.go:998
  refine LW.nil ?_
  refine SX.seq (SX.reg ?_)   -- region 1
  refine pu rfl pv_mv ?_   -- t3 spec.go:999
  refine evd rfl (ev_call cb31 rfl (f31_ok t w (by omega)) ?_)   -- t4 spec.go:999
  rintro v1 w1 ⟨ho1, hx1, _⟩
  refine evd rfl (ev_call cb36 rfl (f36_ok v1 (parseInline t) w1 ho1.rd (by omega) (by omega)) ?_)   -- t5 spec.go:999
  rintro v2 w2 ⟨ho2, hx2⟩
  refine pu rfl pv_as ?_   -- t2 spec.go:999
  refine LW.nil ?_
  refine SX.ret ?_
  exact ⟨ho2.low hx1.size, hx1.trans hx2⟩

theorem f37_own (v0 : Value) (l : List Frg) (w : World) (hr : Rd w tF v0 l) (hs : l.length ≤ 1073741824) (ht : tlF l ≤ 1073741824) : Fn 37 [v0] w (fun v' w' => Own w' w.heap.size tS v' (renderLines l) ∧ Ext w w') := by
  refine Fn.mk1 (N := 78) Yabc.func37 rfl rfl rfl rfl ?_
  refine SX.seq (SX.reg ?_)   -- region 0
  refine pu rfl pv_as ?_   -- t2 impl.go:487
  refine LW.nil ?_
  refine SX.seq (SX.reg ?_)   -- region 1
  refine pu rfl pv_as ?_   -- t3 impl.go:488
  refine LW.nil ?_
  refine SX.seq ?_
  refine SX.seq (SX.reg ?_)   -- region 2
  refine pu rfl pv_mv ?_   -- t9 impl.go:489
  refine pu rfl (pv_lenV (T := tF) Yabc.underlying25 hr rfl) ?_   -- t10 impl.go:489
  refine pu rfl (pv_eql rfl rfl) ?_   -- t11 impl.go:489
  refine LW.nil ?_
  refine SX.cond rfl (fun hc => ?_) (fun hc => ?_)   -- t11
  · skip
    have hl0 : l = [] := by simpa using hc
    refine SX.seq (SX.reg ?_)   -- region 3
    refine pu rfl pv_mv ?_   -- t12 impl.go:490
    refine pu rfl pv_as ?_   -- t2 impl.go:490
    refine LW.nil ?_
    refine SX.ret ?_
    exact ⟨by rw [renderLines, if_pos hl0]; exact Own.nil _ _ _, Ext.refl w⟩
  · skip
    have hl0 : ¬ l = [] := by simpa using hc
    refine SX.skip ?_
    refine SX.seq (SX.reg ?_)   -- region 4
    refine pu rfl pv_as ?_   -- t4 impl.go:492
    refine LW.nil ?_
    refine SX.seq ?_
    refine SX.seq (SX.reg ?_)   -- region 5
    refine pu rfl pv_mv ?_   -- t13 impl.go:493
    refine pu rfl (pv_lenV (T := tF) Yabc.underlying25 hr rfl) ?_   -- t14 impl.go:493
    refine pu rfl pv_mv ?_   -- t15 impl.go:493
    refine LW.nil ?_
    refine SX.block ?_
    refine SX.loop3 (fun (k : Nat) vl vc => [(3, vl), (4, vc), (13, v0), (14, iv l.length), (15, iv k)]) (fun k vl vc w' => k ≤ l.length ∧ Two w w' tS vl (rlN l k).1 tB vc (rlN l k).2) (fun k _ _ => l.length - k) 0 (.slice none 0 0) (.slice none 0 0) ⟨rfl, rfl, rfl, rfl, rfl, trivial⟩ ⟨Nat.zero_le _, Two.start w tS tB⟩ ?_
    rintro k vl vc w2 ρ1 ⟨hk, hT⟩
    have hrl := rlN_len l k hk
    have hcl := cur_len l k hk
    have htk := tlF_le l k
    refine SX.seq (SX.reg ?_)   -- region 6
    refine pu rfl (pv_lss rfl rfl) ?_   -- t16 impl.go:493
    refine LW.nil ?_
    refine SX.seq ?_
    refine SX.cond rfl (fun hc => ?_) (fun hc => ?_)   -- t16
    · skip
      have hlt : k < l.length := by simpa using hc
      refine SX.skip ?_
      refine SX.seq ?_
      refine SX.block ?_
      refine SX.seq (SX.reg ?_)   -- region 7
      refine pu rfl pv_mv ?_   -- t17 impl.go:493
      refine pu rfl (pv_ix (T := tF) (k := k) Yabc.underlying25 sz76 okF (hr.ext hT.ext) rfl rfl (by omega) (by omega)) ?_   -- t18 impl.go:493
      refine pu rfl (pv_ldE ag76 okF sz76 (hr.ext hT.ext) (by omega) rfl) ?_   -- t19 impl.go:493
      refine evd rfl (ev_al4 fun w3 hn3 => ?_)   -- t6 impl.go:493
      refine pu rfl pv_as ?_   -- t5 impl.go:493
      refine evn (ev_stB hn3.blk rfl rfl sz76 rfl (encF_one _) fun w4 hb4 hg4 hz4 => ?_)   --  impl.go:493
      have hX : Tx w w4 tS vl (rlN l k).1 tB vc (rlN l k).2 w2.heap.size 76 (encF (l[k]'hlt)) := Tx.make hT hn3 hb4 hg4
      have hts := tlF_take l k hlt
      have htk1 := tlF_le l (k + 1)
      refine LW.nil ?_
      refine SX.mid2 (fun vl vc => [(3, vl), (4, vc), (13, v0), (14, iv l.length), (15, iv k), (6, .pointer (some ⟨w2.heap.size, 0, none⟩))]) (fun vl vc w' => Tx w w' tS vl (rlPre k (rlN l k) (l[k]'hlt)).1 tB vc (rlPre k (rlN l k) (l[k]'hlt)).2 w2.heap.size 76 (encF (l[k]'hlt))) ?_ ?_
      · skip
        refine SX.seq (SX.reg ?_)   -- region 8
        refine pu rfl pv_mv ?_   -- t20 impl.go:494
        refine pu rfl (pv_gtr rfl rfl) ?_   -- t21 impl.go:494
        refine LW.nil ?_
        refine SX.cond rfl (fun hc => ?_) (fun hc => ?_)   -- t21
        · skip
          have hk0 : ¬ k = 0 := by simp at hc; omega
          refine SX.seq (SX.reg ?_)   -- region 9
          refine pu rfl (pv_fa fb76_0 rfl) ?_   -- t22 impl.go:495
          refine pu rfl (pv_ld ag3 rfl (hX.blk.cell rfl)) ?_   -- t23 impl.go:495
          refine pu rfl (pv_eql rfl rfl) ?_   -- t24 impl.go:495
          refine LW.nil ?_
          refine SX.cond rfl (fun hc => ?_) (fun hc => ?_)   -- t24
          · skip
            have hb2 : (l[k]'hlt).br = 2 := by simpa using hc
            refine SX.seq (SX.reg ?_)   -- region 10
            refine pu rfl pv_mv ?_   -- t25 impl.go:496
            refine pu rfl pv_mv ?_   -- t26 impl.go:496
            refine pu rfl (pv_str hX.two.o2.rd rfl) ?_   -- t27 impl.go:496
            refine push (T := tS) (rlN l k).2 sl32 okS (by decide) hX.two.o1 hX.two.ext.size rfl (fun _ => rfl) rfl rfl (by omega) (by unfold maxLen; omega) fun J1 v5 w5 ho5 hg5 => ?_   -- t28 impl.go:496
            refine pu rfl pv_as ?_   -- t3 impl.go:496
            refine LW.nil ?_
            refine SX.reg ?_
            refine pu rfl pv_as ?_   -- t4 impl.go:497
            refine LW.nil ?_
            exact ⟨v5, .slice none 0 0, ⟨rfl, rfl, rfl, rfl, rfl, rfl, trivial⟩, by rw [rlPre, if_neg hk0, if_pos hb2]; exact (hX.push1 hg5 ho5).nil2⟩
          · skip
            have hb2 : ¬ (l[k]'hlt).br = 2 := by simpa using hc
            refine SX.seq (SX.reg ?_)   -- region 12
            refine pu rfl (pv_fa fb76_0 rfl) ?_   -- t30 impl.go:498
            refine pu rfl (pv_ld ag3 rfl (hX.blk.cell rfl)) ?_   -- t31 impl.go:498
            refine pu rfl (pv_eql rfl rfl) ?_   -- t32 impl.go:498
            refine LW.nil ?_
            refine SX.cond rfl (fun hc => ?_) (fun hc => ?_)   -- t32
            · skip
              have hb1 : (l[k]'hlt).br = 1 := by simpa using hc
              refine SX.reg ?_
              refine pu rfl pv_mv ?_   -- t33 impl.go:499
              refine push (T := tB) 32 sl83 okB (by decide) hX.two.o2 hX.two.ext.size rfl (fun _ => rfl) rfl rfl (by omega) (by unfold maxLen; omega) fun J1 v5 w5 ho5 hg5 => ?_   -- t34 impl.go:499
              refine pu rfl pv_as ?_   -- t4 impl.go:499
              refine LW.nil ?_
              exact ⟨vl, v5, ⟨rfl, rfl, rfl, rfl, rfl, rfl, trivial⟩, by rw [rlPre, if_neg hk0, if_neg hb2, if_pos hb1]; exact hX.push2 hg5 ho5⟩
            · skip
              have hb1 : ¬ (l[k]'hlt).br = 1 := by simpa using hc
              refine SX.skip ?_
              exact ⟨vl, vc, ⟨rfl, rfl, rfl, rfl, rfl, rfl, trivial⟩, by rw [rlPre, if_neg hk0, if_neg hb2, if_neg hb1]; exact hX⟩
        · skip
          have hk0 : k = 0 := by simp at hc; omega
          refine SX.skip ?_
          exact ⟨vl, vc, ⟨rfl, rfl, rfl, rfl, rfl, rfl, trivial⟩, by rw [rlPre, if_pos hk0]; exact hX⟩
      rintro vl1 vc1 w6 ρ6 hX6
      have hpl := rlPre_len k (rlN l k) (l[k]'hlt)
      have hst : rlN l (k + 1) = ((rlPre k (rlN l k) (l[k]'hlt)).1, (rlPre k (rlN l k) (l[k]'hlt)).2 ++ shown (l[k]'hlt).k (l[k]'hlt).st (l[k]'hlt).s) := by rw [rlN_step l k hlt]; rfl
      generalize hPg : (rlPre k (rlN l k) (l[k]'hlt)) = P at *
      refine SX.seq (SX.reg ?_)   -- region 14
      refine pu rfl (pv_fa fb76_1 rfl) ?_   -- t36 impl.go:502
      refine pu rfl (pv_ld ag3 rfl (hX6.blk.cell rfl)) ?_   -- t37 impl.go:502
      refine pu rfl (pv_eql rfl rfl) ?_   -- t38 impl.go:502
      refine pu rfl pv_mv ?_   -- t39 impl.go:502
      refine LW.sc false 3 3 39 40 43 (b := decide ((l[k]'hlt).st = 0)) (fun w' => w6 = w') rfl rfl rfl rfl (fun _ => rfl) rfl (fun ht => ?_) rfl (fun J w' hw' => ?_)   -- t43 := pick ['t39', "c:['true']", 't42']
      · skip
        refine pu rfl (pv_fa fb76_2 rfl) ?_   -- t40 impl.go:502
        refine pu rfl (pv_ld ag3 rfl (hX6.blk.cell rfl)) ?_   -- t41 impl.go:502
        refine pu rfl (pv_eql rfl rfl) ?_   -- t42 impl.go:502
        exact LW.nil ⟨rfl, rfl⟩
      subst hw'
      refine LW.nil ?_
      refine SX.cond rfl (fun hc => ?_) (fun hc => ?_)   -- t43
      · skip
        have hsh : (l[k]'hlt).k = 2 ∨ (l[k]'hlt).st = 0 := by simpa [scv] using hc
        refine SX.reg ?_
        refine pu rfl pv_mv ?_   -- t44 impl.go:503
        refine pu rfl (pv_fa fb76_3 rfl) ?_   -- t45 impl.go:503
        refine pu rfl (pv_ld ag9 rfl (hX6.blk.cell rfl)) ?_   -- t46 impl.go:503
        refine evd rfl (ev_appS (c := (l[k]'hlt).s) hX6.two.o2 hX6.two.ext.size rfl rfl (by omega) fun v7 w7 ho7 hg7 => ?_)   -- t47 impl.go:503
        refine pu rfl pv_as ?_   -- t4 impl.go:503
        refine LW.nil ?_
        refine SX.reg ?_
        refine pu rfl (pv_add rfl rfl (by omega)) ?_   -- t71 impl.go:493
        refine pu rfl pv_mv ?_   -- t15 impl.go:493
        refine LW.nil ?_
        exact ⟨k + 1, vl1, v7, ⟨rfl, rfl, rfl, rfl, rfl, trivial⟩, ⟨by omega, by rw [hst]; rw [shown, if_pos hsh]; exact (hX6.push2 hg7 ho7).two⟩, by omega⟩
      · skip
        have hsh : ¬ ((l[k]'hlt).k = 2 ∨ (l[k]'hlt).st = 0) := by simpa [scv] using hc
        refine SX.seq (SX.reg ?_)   -- region 16
        refine pu rfl pv_as ?_   -- t7 impl.go:505
        refine LW.nil ?_
        refine SX.block ?_
        refine SX.loop2 (fun (m : Nat) vc => [(3, vl1), (4, vc), (13, v0), (14, iv l.length), (15, iv k), (6, .pointer (some ⟨w2.heap.size, 0, none⟩)), (7, iv m)]) (fun m vc w' => m ≤ (l[k]'hlt).s.length ∧ Tx w w' tS vl1 P.1 tB vc (P.2 ++ upper ((l[k]'hlt).s.take m)) w2.heap.size 76 (encF (l[k]'hlt))) (fun m _ => (l[k]'hlt).s.length - m) 0 vc1 ⟨rfl, rfl, rfl, rfl, rfl, rfl, rfl, trivial⟩ ⟨Nat.zero_le _, by simpa [upper] using hX6⟩ ?_
        rintro m vc2 w7 ρ7 ⟨hm, hX7⟩
        have hul : (P.2 ++ upper ((l[k]'hlt).s.take m)).length = P.2.length + m := by simp [upper]; omega
        refine SX.seq ?_
        refine SX.seq (SX.reg ?_)   -- region 17
        refine pu rfl pv_mv ?_   -- t48 impl.go:505
        refine pu rfl (pv_fa fb76_3 rfl) ?_   -- t49 impl.go:505
        refine pu rfl (pv_ld ag9 rfl (hX7.blk.cell rfl)) ?_   -- t50 impl.go:505
        refine pu rfl (pv_len_s rfl) ?_   -- t51 impl.go:505
        refine pu rfl (pv_lss rfl rfl) ?_   -- t52 impl.go:505
        refine LW.nil ?_
        refine SX.cond rfl (fun hc => ?_) (fun hc => ?_)   -- t52
        · skip
          have hml : m < (l[k]'hlt).s.length := by simpa using hc
          refine SX.skip ?_
          refine SX.seq ?_
          refine SX.block ?_
          refine SX.seq (SX.reg ?_)   -- region 19
          refine pu rfl (pv_fa fb76_3 rfl) ?_   -- t55 impl.go:506
          refine pu rfl (pv_ld ag9 rfl (hX7.blk.cell rfl)) ?_   -- t56 impl.go:506
          refine pu rfl pv_mv ?_   -- t57 impl.go:506
          refine pu rfl (pv_index (k := m) rfl rfl (by omega) (by omega)) ?_   -- t58 impl.go:506
          refine pu rfl pv_as ?_   -- t8 impl.go:506
          refine LW.nil ?_
          refine SX.mid (G := Unit) (fun _ => [(3, vl1), (4, vc2), (13, v0), (14, iv l.length), (15, iv k), (6, .pointer (some ⟨w2.heap.size, 0, none⟩)), (7, iv m), (8, bt (up1 ((l[k]'hlt).s.getD m 0)))]) (fun _ w' => w7 = w') ?_ ?_
          · skip
            refine SX.seq (SX.reg ?_)   -- region 20
            refine pu rfl pv_mv ?_   -- t59 impl.go:507
            refine pu rfl (pv_geqB (b := 97) rfl rfl) ?_   -- t60 impl.go:507
            refine pu rfl pv_mv ?_   -- t61 impl.go:507
            refine LW.sc true 2 2 61 62 64 (b := decide (((l[k]'hlt).s.getD m 0) ≤ 122)) (fun w' => w7 = w') rfl rfl rfl rfl (fun _ => rfl) rfl (fun ht => ?_) rfl (fun J w' hw' => ?_)   -- t64 := pick ['t61', 't63', "c:['false']"]
            · skip
              refine pu rfl pv_mv ?_   -- t62 impl.go:507
              refine pu rfl (pv_leqB (b := 122) rfl rfl) ?_   -- t63 impl.go:507
              exact LW.nil ⟨rfl, rfl⟩
            subst hw'
            refine LW.nil ?_
            refine SX.cond rfl (fun hc => ?_) (fun hc => ?_)   -- t64
            · skip
              have hc1 : (decide (97 ≤ ((l[k]'hlt).s.getD m 0)) && decide (((l[k]'hlt).s.getD m 0) ≤ 122)) = true := hc
              have hup : up1 (((l[k]'hlt).s.getD m 0)) = ((l[k]'hlt).s.getD m 0) - 32 := by rw [up1, if_pos hc1]
              have h97 : (32 : UInt8) ≤ ((l[k]'hlt).s.getD m 0) := by simp only [scv, Bool.and_eq_true, decide_eq_true_eq] at hc; exact UInt8.le_trans (by decide) hc.1
              refine SX.reg ?_
              refine pu rfl pv_mv ?_   -- t65 impl.go:508
              refine pu rfl (pv_subB rfl rfl h97) ?_   -- t66 impl.go:508
              refine pu rfl pv_as ?_   -- t8 impl.go:508
              refine LW.nil ?_
              exact ⟨(), ⟨rfl, rfl, rfl, rfl, rfl, rfl, rfl, by rw [hup]; rfl, trivial⟩, rfl⟩
            · skip
              have hup : up1 (((l[k]'hlt).s.getD m 0)) = ((l[k]'hlt).s.getD m 0) := by rw [up1, if_neg]; rw [Bool.not_eq_true]; exact hc
              refine SX.skip ?_
              exact ⟨(), ⟨rfl, rfl, rfl, rfl, rfl, rfl, rfl, by rw [hup]; rfl, trivial⟩, rfl⟩
          rintro _ w7' ρ8 hw
          subst hw
          refine SX.reg ?_
          refine pu rfl pv_mv ?_   -- t67 impl.go:510
          refine pu rfl pv_mv ?_   -- t68 impl.go:510
          refine push (T := tB) (up1 ((l[k]'hlt).s.getD m 0)) sl83 okB (by decide) hX7.two.o2 hX7.two.ext.size rfl (fun _ => rfl) rfl rfl (by omega) (by unfold maxLen; omega) fun J1 v8 w8 ho8 hg8 => ?_   -- t69 impl.go:510
          refine pu rfl pv_as ?_   -- t4 impl.go:510
          refine LW.nil ?_
          refine SX.reg ?_
          refine pu rfl pv_mv ?_   -- t53 impl.go:505
          refine pu rfl (pv_add rfl rfl (by omega)) ?_   -- t54 impl.go:505
          refine pu rfl pv_as ?_   -- t7 impl.go:505
          refine LW.nil ?_
          exact ⟨m + 1, v8, ⟨rfl, rfl, rfl, rfl, rfl, rfl, rfl, trivial⟩, ⟨by omega, by rw [upper_step _ _ hml, ← List.append_assoc]; exact hX7.push2 hg8 ho8⟩, by omega⟩
        · skip
          have hml : m = (l[k]'hlt).s.length := by simp at hc; omega
          refine SX.exit (xb_here ?_)
          refine SX.reg ?_
          refine pu rfl (pv_add rfl rfl (by omega)) ?_   -- t71 impl.go:493
          refine pu rfl pv_mv ?_   -- t15 impl.go:493
          refine LW.nil ?_
          exact ⟨k + 1, vl1, vc2, ⟨rfl, rfl, rfl, rfl, rfl, trivial⟩, ⟨by omega, by rw [hst]; rw [shown, if_neg hsh]; have h9 := hX7.two; rw [hml, List.take_length] at h9; exact h9⟩, by omega⟩
    · skip
      have hge : k = l.length := by simp at hc; omega
      subst hge
      refine SX.exit (xb_here ?_)
      refine SX.seq (SX.reg ?_)   -- region 24
      refine pu rfl pv_mv ?_   -- t72 impl.go:514
      refine pu rfl pv_mv ?_   -- t73 impl.go:514
      refine pu rfl (pv_str hT.o2.rd rfl) ?_   -- t74 impl.go:514
      refine push (T := tS) (rlN l l.length).2 sl32 okS (by decide) hT.o1 hT.ext.size rfl (fun _ => rfl) rfl rfl (by omega) (by unfold maxLen; omega) fun J1 v5 w5 ho5 hg5 => ?_   -- t75 impl.go:514
      refine pu rfl pv_as ?_   -- t3 impl.go:514
      refine LW.nil ?_
      refine SX.seq (SX.reg ?_)   -- region 25
      refine pu rfl pv_mv ?_   -- t77 impl.go:515
      refine pu rfl pv_as ?_   -- t2 impl.go:515
      refine LW.nil ?_
      refine SX.ret ?_
      exact ⟨by rw [renderLines, if_neg hl0]; exact ho5, (hT.push1 hg5 ho5).ext⟩

theorem f39_own (v0 : Value) (l : List Frg) (w : World) (hr : Rd w tF v0 l) (hs : l.length ≤ 1073741824) (ht : tlF l ≤ 1073741824) : Fn 39 [v0] w (fun v' w' => Own w' w.heap.size tS v' (renderLines l) ∧ Ext w w') := by
  refine Fn.mk1 (N := 50) Yabc.func39 rfl rfl rfl rfl ?_
  refine SX.seq (SX.reg ?_)   -- region 0
  refine pu rfl pv_as ?_   -- t2 spec.go:974
  refine LW.nil ?_
  refine SX.seq ?_
  refine SX.seq (SX.reg ?_)   -- region 1
  refine pu rfl pv_mv ?_   -- t7 spec.go:975
  refine pu rfl (pv_lenV (T := tF) Yabc.underlying25 hr rfl) ?_   -- t8 spec.go:975
  refine pu rfl (pv_eql rfl rfl) ?_   -- t9 spec.go:975
  refine LW.nil ?_
  refine SX.cond rfl (fun hc => ?_) (fun hc => ?_)   -- t9
  · skip
    have hl0 : l = [] := by simpa using hc
    refine SX.seq (SX.reg ?_)   -- region 2
    refine pu rfl pv_as ?_   -- t2 spec.go:976
    refine LW.nil ?_
    refine SX.ret ?_
    exact ⟨by rw [renderLines, if_pos hl0]; exact Own.nil _ _ _, Ext.refl w⟩
  · skip
    have hl0 : ¬ l = [] := by simpa using hc
    refine SX.skip ?_
    refine SX.seq (SX.reg ?_)   -- region 3
    refine pu rfl pv_as ?_   -- t3(lines) spec.go:978
    refine LW.nil ?_
    refine SX.seq (SX.reg ?_)   -- region 4
    refine pu rfl pv_as ?_   -- t4(cur) spec.go:979
    refine LW.nil ?_
    refine SX.seq ?_
    refine SX.seq (SX.reg ?_)   -- region 5
    refine pu rfl pv_as ?_   -- t5(i) spec.go:980
    refine LW.nil ?_
    refine SX.block ?_
    refine SX.loop3 (fun (k : Nat) vl vc => [(3, vl), (4, vc), (0, v0), (5, iv k)]) (fun k vl vc w' => k ≤ l.length ∧ Two w w' tS vl (rlN l k).1 tB vc (rlN l k).2) (fun k _ _ => l.length - k) 0 (.slice none 0 0) (.slice none 0 0) ⟨rfl, rfl, rfl, rfl, trivial⟩ ⟨Nat.zero_le _, Two.start w tS tB⟩ ?_
    rintro k vl vc w2 ρ1 ⟨hk, hT⟩
    have hrl := rlN_len l k hk
    have hcl := cur_len l k hk
    have htk := tlF_le l k
    refine SX.seq ?_
    refine SX.seq (SX.reg ?_)   -- region 6
    refine pu rfl pv_mv ?_   -- t10 spec.go:980
    refine pu rfl pv_mv ?_   -- t11 spec.go:980
    refine pu rfl (pv_lenV (T := tF) Yabc.underlying25 (hr.ext hT.ext) rfl) ?_   -- t12 spec.go:980
    refine pu rfl (pv_lss rfl rfl) ?_   -- t13 spec.go:980
    refine LW.nil ?_
    refine SX.cond rfl (fun hc => ?_) (fun hc => ?_)   -- t13
    · skip
      have hlt : k < l.length := by simpa using hc
      refine SX.skip ?_
      refine SX.seq ?_
      refine SX.block ?_
      refine SX.seq (SX.reg ?_)   -- region 8
      refine pu rfl pv_mv ?_   -- t16 spec.go:981
      refine pu rfl pv_mv ?_   -- t17 spec.go:981
      refine pu rfl (pv_ix (T := tF) (k := k) Yabc.underlying25 sz76 okF (hr.ext hT.ext) rfl rfl (by omega) (by omega)) ?_   -- t18 spec.go:981
      refine pu rfl (pv_ldE ag76 okF sz76 (hr.ext hT.ext) (by omega) rfl) ?_   -- t19 spec.go:981
      refine evd rfl (ev_al4 fun w3 hn3 => ?_)   -- t6(f) spec.go:981
      refine evn (ev_stB hn3.blk rfl rfl sz76 rfl (encF_one _) fun w4 hb4 hg4 hz4 => ?_)   --  spec.go:981
      have hX : Tx w w4 tS vl (rlN l k).1 tB vc (rlN l k).2 w2.heap.size 76 (encF (l[k]'hlt)) := Tx.make hT hn3 hb4 hg4
      have hts := tlF_take l k hlt
      have htk1 := tlF_le l (k + 1)
      refine LW.nil ?_
      refine SX.mid2 (fun vl vc => [(3, vl), (4, vc), (0, v0), (5, iv k), (6, .pointer (some ⟨w2.heap.size, 0, none⟩))]) (fun vl vc w' => Tx w w' tS vl (rlPre k (rlN l k) (l[k]'hlt)).1 tB vc (rlPre k (rlN l k) (l[k]'hlt)).2 w2.heap.size 76 (encF (l[k]'hlt))) ?_ ?_
      · skip
        refine SX.seq (SX.reg ?_)   -- region 9
        refine pu rfl pv_mv ?_   -- t20 spec.go:982
        refine pu rfl (pv_gtr rfl rfl) ?_   -- t21 spec.go:982
        refine LW.nil ?_
        refine SX.cond rfl (fun hc => ?_) (fun hc => ?_)   -- t21
        · skip
          have hk0 : ¬ k = 0 := by simp at hc; omega
          refine SX.seq (SX.reg ?_)   -- region 10
          refine pu rfl (pv_fa fb76_0 rfl) ?_   -- t22 spec.go:983
          refine pu rfl (pv_ld ag3 rfl (hX.blk.cell rfl)) ?_   -- t23 spec.go:983
          refine pu rfl (pv_eql rfl rfl) ?_   -- t24 spec.go:983
          refine LW.nil ?_
          refine SX.cond rfl (fun hc => ?_) (fun hc => ?_)   -- t24
          · skip
            have hb2 : (l[k]'hlt).br = 2 := by simpa using hc
            refine SX.seq (SX.reg ?_)   -- region 11
            refine pu rfl pv_mv ?_   -- t25 spec.go:984
            refine pu rfl pv_mv ?_   -- t26 spec.go:984
            refine pu rfl (pv_str hX.two.o2.rd rfl) ?_   -- t27 spec.go:984
            refine push (T := tS) (rlN l k).2 sl32 okS (by decide) hX.two.o1 hX.two.ext.size rfl (fun _ => rfl) rfl rfl (by omega) (by unfold maxLen; omega) fun J1 v5 w5 ho5 hg5 => ?_   -- t28 spec.go:984
            refine pu rfl pv_as ?_   -- t3(lines) spec.go:984
            refine LW.nil ?_
            refine SX.reg ?_
            refine pu rfl pv_as ?_   -- t4(cur) spec.go:985
            refine LW.nil ?_
            exact ⟨v5, .slice none 0 0, ⟨rfl, rfl, rfl, rfl, rfl, trivial⟩, by rw [rlPre, if_neg hk0, if_pos hb2]; exact (hX.push1 hg5 ho5).nil2⟩
          · skip
            have hb2 : ¬ (l[k]'hlt).br = 2 := by simpa using hc
            refine SX.seq (SX.reg ?_)   -- region 13
            refine pu rfl (pv_fa fb76_0 rfl) ?_   -- t30 spec.go:986
            refine pu rfl (pv_ld ag3 rfl (hX.blk.cell rfl)) ?_   -- t31 spec.go:986
            refine pu rfl (pv_eql rfl rfl) ?_   -- t32 spec.go:986
            refine LW.nil ?_
            refine SX.cond rfl (fun hc => ?_) (fun hc => ?_)   -- t32
            · skip
              have hb1 : (l[k]'hlt).br = 1 := by simpa using hc
              refine SX.reg ?_
              refine pu rfl pv_mv ?_   -- t33 spec.go:987
              refine push (T := tB) 32 sl83 okB (by decide) hX.two.o2 hX.two.ext.size rfl (fun _ => rfl) rfl rfl (by omega) (by unfold maxLen; omega) fun J1 v5 w5 ho5 hg5 => ?_   -- t34 spec.go:987
              refine pu rfl pv_as ?_   -- t4(cur) spec.go:987
              refine LW.nil ?_
              exact ⟨vl, v5, ⟨rfl, rfl, rfl, rfl, rfl, trivial⟩, by rw [rlPre, if_neg hk0, if_neg hb2, if_pos hb1]; exact hX.push2 hg5 ho5⟩
            · skip
              have hb1 : ¬ (l[k]'hlt).br = 1 := by simpa using hc
              refine SX.skip ?_
              exact ⟨vl, vc, ⟨rfl, rfl, rfl, rfl, rfl, trivial⟩, by rw [rlPre, if_neg hk0, if_neg hb2, if_neg hb1]; exact hX⟩
        · skip
          have hk0 : k = 0 := by simp at hc; omega
          refine SX.skip ?_
          exact ⟨vl, vc, ⟨rfl, rfl, rfl, rfl, rfl, trivial⟩, by rw [rlPre, if_pos hk0]; exact hX⟩
      rintro vl1 vc1 w6 ρ6 hX6
      have hpl := rlPre_len k (rlN l k) (l[k]'hlt)
      have hst : rlN l (k + 1) = ((rlPre k (rlN l k) (l[k]'hlt)).1, (rlPre k (rlN l k) (l[k]'hlt)).2 ++ shown (l[k]'hlt).k (l[k]'hlt).st (l[k]'hlt).s) := by rw [rlN_step l k hlt]; rfl
      generalize hPg : (rlPre k (rlN l k) (l[k]'hlt)) = P at *
      refine SX.reg ?_
      refine pu rfl pv_mv ?_   -- t36 spec.go:990
      refine pu rfl (pv_fa fb76_1 rfl) ?_   -- t37 spec.go:990
      refine pu rfl (pv_ld ag3 rfl (hX6.blk.cell rfl)) ?_   -- t38 spec.go:990
      refine pu rfl (pv_fa fb76_2 rfl) ?_   -- t39 spec.go:990
      refine pu rfl (pv_ld ag3 rfl (hX6.blk.cell rfl)) ?_   -- t40 spec.go:990
      refine pu rfl (pv_fa fb76_3 rfl) ?_   -- t41 spec.go:990
      refine pu rfl (pv_ld ag9 rfl (hX6.blk.cell rfl)) ?_   -- t42 spec.go:990
      refine evd rfl (ev_call cb92 rfl (f92_ok (l[k]'hlt).k (l[k]'hlt).st (l[k]'hlt).s w6 (by omega)) ?_)   -- t43 spec.go:990
      rintro _ w7 ⟨rfl, hx7⟩
      have hX7 := hX6.more hx7
      have hshl := shown_len (l[k]'hlt).k (l[k]'hlt).st (l[k]'hlt).s
      refine evd rfl (ev_appS (c := shown (l[k]'hlt).k (l[k]'hlt).st (l[k]'hlt).s) hX7.two.o2 hX7.two.ext.size rfl rfl (by omega) fun v8 w8 ho8 hg8 => ?_)   -- t44 spec.go:990
      refine pu rfl pv_as ?_   -- t4(cur) spec.go:990
      refine LW.nil ?_
      refine SX.reg ?_
      refine pu rfl pv_mv ?_   -- t14 spec.go:980
      refine pu rfl (pv_add rfl rfl (by omega)) ?_   -- t15 spec.go:980
      refine pu rfl pv_as ?_   -- t5(i) spec.go:980
      refine LW.nil ?_
      exact ⟨k + 1, vl1, v8, ⟨rfl, rfl, rfl, rfl, trivial⟩, ⟨by omega, by rw [hst]; exact (hX7.push2 hg8 ho8).two⟩, by omega⟩
    · skip
      have hge : k = l.length := by simp at hc; omega
      subst hge
      refine SX.exit (xb_here ?_)
      refine SX.seq (SX.reg ?_)   -- region 16
      refine pu rfl pv_mv ?_   -- t45 spec.go:992
      refine pu rfl pv_mv ?_   -- t46 spec.go:992
      refine pu rfl (pv_str hT.o2.rd rfl) ?_   -- t47 spec.go:992
      refine push (T := tS) (rlN l l.length).2 sl32 okS (by decide) hT.o1 hT.ext.size rfl (fun _ => rfl) rfl rfl (by omega) (by unfold maxLen; omega) fun J1 v5 w5 ho5 hg5 => ?_   -- t48 spec.go:992
      refine pu rfl pv_as ?_   -- t2 spec.go:992
      refine LW.nil ?_
      refine SX.ret ?_
      exact ⟨by rw [renderLines, if_neg hl0]; exact ho5, (hT.push1 hg5 ho5).ext⟩

end Go.Proofs.Ybuabw
