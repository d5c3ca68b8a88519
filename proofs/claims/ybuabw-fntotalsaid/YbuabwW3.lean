/-
  WALKS. Lists of structs: copies, mirrors, comparisons. Own work for the seat Ybuabw (the steps of each walk were typed by a program of ours off the printed code).
-/
import Derived.Test.YbuabwW1
namespace Go.Proofs.Ybuabw
open Go.RowKit
set_option linter.unusedVariables false
set_option linter.unusedSimpArgs false
set_option maxRecDepth 20000

theorem f61_ok (v : Value) (l : List Tri) (w : World) (hr : Rd w tI v l) (hs : l.length ≤ 4294967296) : Fn 61 [v] w (fun v' w' => OwnR w' w.heap.size tLI v' l ∧ Ext w w') := by
  refine Fn.mk1 (N := 34) Yabc.func61 rfl rfl rfl rfl ?_
  refine SX.seq (SX.reg ?_)   -- region 0
  refine pu rfl pv_as ?_   -- t2 laws.go:710
  refine LW.nil ?_
  refine SX.seq (SX.reg ?_)   -- region 1
  refine pu rfl pv_mv ?_   -- t5 laws.go:711
  refine pu rfl (pv_lenV (T := tI) Yabc.underlying23 hr rfl) ?_   -- t6 laws.go:711
  refine evd rfl (ev_make (T := tLI) (z0 := ⟨0, 0, []⟩) (m := l.length) sl62 okLI rfl rfl rfl (by omega) (by unfold maxLen; omega) (Nat.le_refl _) fun vb w1 hv1 ho1 ho1' hx1 => ?_)   -- t7 laws.go:711
  have ho := ho1.own
  clear ho1 ho1'
  subst hv1
  refine pu rfl pv_as ?_   -- t3(out) laws.go:711
  refine LW.nil ?_
  refine SX.seq ?_
  refine SX.seq (SX.reg ?_)   -- region 2
  refine pu rfl pv_as ?_   -- t4(i) laws.go:712
  refine LW.nil ?_
  refine SX.block ?_
  refine SX.loop (G := Nat) (fun k => [(0, v), (3, .slice (some ⟨w.heap.size, 0, none⟩) l.length l.length), (4, iv k)]) (fun k w' => k ≤ l.length ∧ Ext w w' ∧ OwnR w' w.heap.size tLI (.slice (some ⟨w.heap.size, 0, none⟩) l.length l.length) (l.take k ++ List.replicate (l.length - k) ⟨0, 0, []⟩)) (fun k => l.length - k) 0 ⟨rfl, rfl, rfl, trivial⟩ ⟨Nat.zero_le _, hx1, by simpa using ho⟩ ?_
  rintro k w2 ρ1 ⟨hk, hx2, ho2⟩
  refine SX.seq ?_
  refine SX.seq (SX.reg ?_)   -- region 3
  refine pu rfl pv_mv ?_   -- t8 laws.go:712
  refine pu rfl pv_mv ?_   -- t9 laws.go:712
  refine pu rfl (pv_lenV (T := tI) Yabc.underlying23 (hr.ext hx2) rfl) ?_   -- t10 laws.go:712
  refine pu rfl (pv_lss rfl rfl) ?_   -- t11 laws.go:712
  refine LW.nil ?_
  refine SX.cond rfl (fun hc => ?_) (fun hc => ?_)   -- t11
  · skip
    have hlt : k < l.length := by simpa using hc
    have hlen := fill_len l ⟨0, 0, []⟩ k hk
    refine SX.skip ?_
    refine SX.seq ?_
    refine SX.block ?_
    skip
    refine SX.draw [(0, true), (1, true), (2, true), (3, true), (4, true), (5, true), (6, true), (7, true), (8, true), (9, true), (10, true), (11, true), (12, true), (13, true), (14, true), (15, true), (16, true), (17, true), (18, true), (19, false)] (fun w' => Ext w w') (by kernel_rfl) (hx2.trans (Ext.drew w2)) ?_   -- region 5
    refine du rfl rfl (fun w' hw' => pv_mv) ?_   -- 0: t14 laws.go:713 
    refine du rfl rfl (fun w' hw' => pv_mv) ?_   -- 1: t15 laws.go:713 
    refine du rfl rfl (fun w' hw' => pv_mv) ?_   -- 2: t16 laws.go:713 
    refine du rfl rfl (fun w' hw' => pv_mv) ?_   -- 3: t17 laws.go:713 
    refine du rfl rfl (fun w' hw' => pv_ix (T := tI) (k := k) Yabc.underlying23 sz67 okI (hr.ext hw') rfl rfl (by omega) (by omega)) ?_   -- 4: t18 laws.go:713 
    refine du rfl rfl (fun w' hw' => pv_fa fb67_0 rfl) ?_   -- 5: t19 laws.go:713 
    refine du rfl rfl (fun w' hw' => pv_ld ag3 rfl ((hr.ext hw').cellAt okI (by omega) rfl)) ?_   -- 6: t20 laws.go:713 
    refine du rfl rfl (fun w' hw' => pv_mv) ?_   -- 7: t21 laws.go:713 
    refine du rfl rfl (fun w' hw' => pv_mv) ?_   -- 8: t22 laws.go:713 
    refine du rfl rfl (fun w' hw' => pv_ix (T := tI) (k := k) Yabc.underlying23 sz67 okI (hr.ext hw') rfl rfl (by omega) (by omega)) ?_   -- 9: t23 laws.go:713 
    refine du rfl rfl (fun w' hw' => pv_fa fb67_1 rfl) ?_   -- 10: t24 laws.go:713 
    refine du rfl rfl (fun w' hw' => pv_ld ag3 rfl ((hr.ext hw').cellAt okI (by omega) rfl)) ?_   -- 11: t25 laws.go:713 
    refine du rfl rfl (fun w' hw' => pv_mv) ?_   -- 12: t26 laws.go:713 
    refine du rfl rfl (fun w' hw' => pv_mv) ?_   -- 13: t27 laws.go:713 
    refine du rfl rfl (fun w' hw' => pv_ix (T := tI) (k := k) Yabc.underlying23 sz67 okI (hr.ext hw') rfl rfl (by omega) (by omega)) ?_   -- 14: t28 laws.go:713 
    refine du rfl rfl (fun w' hw' => pv_fa fb67_2 rfl) ?_   -- 15: t29 laws.go:713 
    refine du rfl rfl (fun w' hw' => pv_ld ag9 rfl ((hr.ext hw').cellAt okI (by omega) rfl)) ?_   -- 16: t30 laws.go:713 
    refine du rfl rfl (fun w' hw' => pv_bd rfl (bd99 _ _ _)) ?_   -- 17: t31 laws.go:713 
    refine du rfl rfl (fun w' hw' => pv_ia Yabc.underlying62 sz99 rfl rfl rfl rfl (by omega)) ?_   -- 18: t32 laws.go:713 
    refine den rfl (ev_stE (T := tLI) l[k] okLI (ho2.ext (Ext.drew w2)) (by omega) sz99 rfl rfl fun w3 ho3 hg3 hz3 hb3 => ?_)   -- 19:  laws.go:713 
    have hx3 := (hx2.trans (Ext.drew w2)).step hg3 hb3
    refine ⟨hx3, ?_⟩
    refine DW.nil ?_
    refine SX.reg ?_
    refine pu rfl pv_mv ?_   -- t12 laws.go:712
    refine pu rfl (pv_add rfl rfl (by omega)) ?_   -- t13 laws.go:712
    refine pu rfl pv_as ?_   -- t4(i) laws.go:712
    refine LW.nil ?_
    rw [fill_step _ _ _ hlt] at ho3
    exact ⟨k + 1, ⟨rfl, rfl, rfl, trivial⟩, ⟨by omega, hx3, ho3⟩, by omega⟩
  · skip
    have hge : l.length ≤ k := by simpa using hc
    rw [fill_end _ _ _ hge] at ho2
    refine SX.exit (xb_here ?_)
    refine SX.seq (SX.reg ?_)   -- region 6
    refine pu rfl pv_mv ?_   -- t33 laws.go:715
    refine pu rfl pv_as ?_   -- t2 laws.go:715
    refine LW.nil ?_
    refine SX.ret ?_
    exact ⟨ho2, hx2⟩

theorem f58_ok (v : Value) (l : List Tri) (w : World) (hr : Rd w tK v l) (hs : l.length ≤ 4294967296) : Fn 58 [v] w (fun v' w' => OwnR w' w.heap.size tLK v' l ∧ Ext w w') := by
  refine Fn.mk1 (N := 34) Yabc.func58 rfl rfl rfl rfl ?_
  refine SX.seq (SX.reg ?_)   -- region 0
  refine pu rfl pv_as ?_   -- t2 laws.go:702
  refine LW.nil ?_
  refine SX.seq (SX.reg ?_)   -- region 1
  refine pu rfl pv_mv ?_   -- t5 laws.go:703
  refine pu rfl (pv_lenV (T := tK) Yabc.underlying27 hr rfl) ?_   -- t6 laws.go:703
  refine evd rfl (ev_make (T := tLK) (z0 := ⟨0, 0, []⟩) (m := l.length) sl58 okLK rfl rfl rfl (by omega) (by unfold maxLen; omega) (Nat.le_refl _) fun vb w1 hv1 ho1 ho1' hx1 => ?_)   -- t7 laws.go:703
  have ho := ho1.own
  clear ho1 ho1'
  subst hv1
  refine pu rfl pv_as ?_   -- t3(out) laws.go:703
  refine LW.nil ?_
  refine SX.seq ?_
  refine SX.seq (SX.reg ?_)   -- region 2
  refine pu rfl pv_as ?_   -- t4(i) laws.go:704
  refine LW.nil ?_
  refine SX.block ?_
  refine SX.loop (G := Nat) (fun k => [(0, v), (3, .slice (some ⟨w.heap.size, 0, none⟩) l.length l.length), (4, iv k)]) (fun k w' => k ≤ l.length ∧ Ext w w' ∧ OwnR w' w.heap.size tLK (.slice (some ⟨w.heap.size, 0, none⟩) l.length l.length) (l.take k ++ List.replicate (l.length - k) ⟨0, 0, []⟩)) (fun k => l.length - k) 0 ⟨rfl, rfl, rfl, trivial⟩ ⟨Nat.zero_le _, hx1, by simpa using ho⟩ ?_
  rintro k w2 ρ1 ⟨hk, hx2, ho2⟩
  refine SX.seq ?_
  refine SX.seq (SX.reg ?_)   -- region 3
  refine pu rfl pv_mv ?_   -- t8 laws.go:704
  refine pu rfl pv_mv ?_   -- t9 laws.go:704
  refine pu rfl (pv_lenV (T := tK) Yabc.underlying27 (hr.ext hx2) rfl) ?_   -- t10 laws.go:704
  refine pu rfl (pv_lss rfl rfl) ?_   -- t11 laws.go:704
  refine LW.nil ?_
  refine SX.cond rfl (fun hc => ?_) (fun hc => ?_)   -- t11
  · skip
    have hlt : k < l.length := by simpa using hc
    have hlen := fill_len l ⟨0, 0, []⟩ k hk
    refine SX.skip ?_
    refine SX.seq ?_
    refine SX.block ?_
    skip
    refine SX.draw [(0, true), (1, true), (2, true), (3, true), (4, true), (5, true), (6, true), (7, true), (8, true), (9, true), (10, true), (11, true), (12, true), (13, true), (14, true), (15, true), (16, true), (17, true), (18, true), (19, false)] (fun w' => Ext w w') (by kernel_rfl) (hx2.trans (Ext.drew w2)) ?_   -- region 5
    refine du rfl rfl (fun w' hw' => pv_mv) ?_   -- 0: t14 laws.go:705 
    refine du rfl rfl (fun w' hw' => pv_mv) ?_   -- 1: t15 laws.go:705 
    refine du rfl rfl (fun w' hw' => pv_mv) ?_   -- 2: t16 laws.go:705 
    refine du rfl rfl (fun w' hw' => pv_mv) ?_   -- 3: t17 laws.go:705 
    refine du rfl rfl (fun w' hw' => pv_ix (T := tK) (k := k) Yabc.underlying27 sz30 okK (hr.ext hw') rfl rfl (by omega) (by omega)) ?_   -- 4: t18 laws.go:705 
    refine du rfl rfl (fun w' hw' => pv_fa fb30_0 rfl) ?_   -- 5: t19 laws.go:705 
    refine du rfl rfl (fun w' hw' => pv_ld ag3 rfl ((hr.ext hw').cellAt okK (by omega) rfl)) ?_   -- 6: t20 laws.go:705 
    refine du rfl rfl (fun w' hw' => pv_mv) ?_   -- 7: t21 laws.go:705 
    refine du rfl rfl (fun w' hw' => pv_mv) ?_   -- 8: t22 laws.go:705 
    refine du rfl rfl (fun w' hw' => pv_ix (T := tK) (k := k) Yabc.underlying27 sz30 okK (hr.ext hw') rfl rfl (by omega) (by omega)) ?_   -- 9: t23 laws.go:705 
    refine du rfl rfl (fun w' hw' => pv_fa fb30_1 rfl) ?_   -- 10: t24 laws.go:705 
    refine du rfl rfl (fun w' hw' => pv_ld ag3 rfl ((hr.ext hw').cellAt okK (by omega) rfl)) ?_   -- 11: t25 laws.go:705 
    refine du rfl rfl (fun w' hw' => pv_mv) ?_   -- 12: t26 laws.go:705 
    refine du rfl rfl (fun w' hw' => pv_mv) ?_   -- 13: t27 laws.go:705 
    refine du rfl rfl (fun w' hw' => pv_ix (T := tK) (k := k) Yabc.underlying27 sz30 okK (hr.ext hw') rfl rfl (by omega) (by omega)) ?_   -- 14: t28 laws.go:705 
    refine du rfl rfl (fun w' hw' => pv_fa fb30_2 rfl) ?_   -- 15: t29 laws.go:705 
    refine du rfl rfl (fun w' hw' => pv_ld ag9 rfl ((hr.ext hw').cellAt okK (by omega) rfl)) ?_   -- 16: t30 laws.go:705 
    refine du rfl rfl (fun w' hw' => pv_bd rfl (bd98 _ _ _)) ?_   -- 17: t31 laws.go:705 
    refine du rfl rfl (fun w' hw' => pv_ia Yabc.underlying58 sz98 rfl rfl rfl rfl (by omega)) ?_   -- 18: t32 laws.go:705 
    refine den rfl (ev_stE (T := tLK) l[k] okLK (ho2.ext (Ext.drew w2)) (by omega) sz98 rfl rfl fun w3 ho3 hg3 hz3 hb3 => ?_)   -- 19:  laws.go:705 
    have hx3 := (hx2.trans (Ext.drew w2)).step hg3 hb3
    refine ⟨hx3, ?_⟩
    refine DW.nil ?_
    refine SX.reg ?_
    refine pu rfl pv_mv ?_   -- t12 laws.go:704
    refine pu rfl (pv_add rfl rfl (by omega)) ?_   -- t13 laws.go:704
    refine pu rfl pv_as ?_   -- t4(i) laws.go:704
    refine LW.nil ?_
    rw [fill_step _ _ _ hlt] at ho3
    exact ⟨k + 1, ⟨rfl, rfl, rfl, trivial⟩, ⟨by omega, hx3, ho3⟩, by omega⟩
  · skip
    have hge : l.length ≤ k := by simpa using hc
    rw [fill_end _ _ _ hge] at ho2
    refine SX.exit (xb_here ?_)
    refine SX.seq (SX.reg ?_)   -- region 6
    refine pu rfl pv_mv ?_   -- t33 laws.go:707
    refine pu rfl pv_as ?_   -- t2 laws.go:707
    refine LW.nil ?_
    refine SX.ret ?_
    exact ⟨ho2, hx2⟩

theorem f65_ok (v : Value) (l : List Frg) (w : World) (hr : Rd w tF v l) (hs : l.length ≤ 4294967296) : Fn 65 [v] w (fun v' w' => OwnR w' w.heap.size tLF v' l ∧ Ext w w') := by
  refine Fn.mk1 (N := 39) Yabc.func65 rfl rfl rfl rfl ?_
  refine SX.seq (SX.reg ?_)   -- region 0
  refine pu rfl pv_as ?_   -- t2 laws.go:718
  refine LW.nil ?_
  refine SX.seq (SX.reg ?_)   -- region 1
  refine pu rfl pv_mv ?_   -- t5 laws.go:719
  refine pu rfl (pv_lenV (T := tF) Yabc.underlying25 hr rfl) ?_   -- t6 laws.go:719
  refine evd rfl (ev_make (T := tLF) (z0 := ⟨0, 0, 0, []⟩) (m := l.length) sl70 okLF rfl rfl rfl (by omega) (by unfold maxLen; omega) (Nat.le_refl _) fun vb w1 hv1 ho1 ho1' hx1 => ?_)   -- t7 laws.go:719
  have ho := ho1.own
  clear ho1 ho1'
  subst hv1
  refine pu rfl pv_as ?_   -- t3(out) laws.go:719
  refine LW.nil ?_
  refine SX.seq ?_
  refine SX.seq (SX.reg ?_)   -- region 2
  refine pu rfl pv_as ?_   -- t4(i) laws.go:720
  refine LW.nil ?_
  refine SX.block ?_
  refine SX.loop (G := Nat) (fun k => [(0, v), (3, .slice (some ⟨w.heap.size, 0, none⟩) l.length l.length), (4, iv k)]) (fun k w' => k ≤ l.length ∧ Ext w w' ∧ OwnR w' w.heap.size tLF (.slice (some ⟨w.heap.size, 0, none⟩) l.length l.length) (l.take k ++ List.replicate (l.length - k) ⟨0, 0, 0, []⟩)) (fun k => l.length - k) 0 ⟨rfl, rfl, rfl, trivial⟩ ⟨Nat.zero_le _, hx1, by simpa using ho⟩ ?_
  rintro k w2 ρ1 ⟨hk, hx2, ho2⟩
  refine SX.seq ?_
  refine SX.seq (SX.reg ?_)   -- region 3
  refine pu rfl pv_mv ?_   -- t8 laws.go:720
  refine pu rfl pv_mv ?_   -- t9 laws.go:720
  refine pu rfl (pv_lenV (T := tF) Yabc.underlying25 (hr.ext hx2) rfl) ?_   -- t10 laws.go:720
  refine pu rfl (pv_lss rfl rfl) ?_   -- t11 laws.go:720
  refine LW.nil ?_
  refine SX.cond rfl (fun hc => ?_) (fun hc => ?_)   -- t11
  · skip
    have hlt : k < l.length := by simpa using hc
    have hlen := fill_len l ⟨0, 0, 0, []⟩ k hk
    refine SX.skip ?_
    refine SX.seq ?_
    refine SX.block ?_
    skip
    refine SX.draw [(0, true), (1, true), (2, true), (3, true), (4, true), (5, true), (6, true), (7, true), (8, true), (9, true), (10, true), (11, true), (12, true), (13, true), (14, true), (15, true), (16, true), (17, true), (18, true), (19, true), (20, true), (21, true), (22, true), (23, true), (24, false)] (fun w' => Ext w w') (by kernel_rfl) (hx2.trans (Ext.drew w2)) ?_   -- region 5
    refine du rfl rfl (fun w' hw' => pv_mv) ?_   -- 0: t14 laws.go:721 
    refine du rfl rfl (fun w' hw' => pv_mv) ?_   -- 1: t15 laws.go:721 
    refine du rfl rfl (fun w' hw' => pv_mv) ?_   -- 2: t16 laws.go:721 
    refine du rfl rfl (fun w' hw' => pv_mv) ?_   -- 3: t17 laws.go:721 
    refine du rfl rfl (fun w' hw' => pv_ix (T := tF) (k := k) Yabc.underlying25 sz76 okF (hr.ext hw') rfl rfl (by omega) (by omega)) ?_   -- 4: t18 laws.go:721 
    refine du rfl rfl (fun w' hw' => pv_fa fb76_0 rfl) ?_   -- 5: t19 laws.go:721 
    refine du rfl rfl (fun w' hw' => pv_ld ag3 rfl ((hr.ext hw').cellAt okF (by omega) rfl)) ?_   -- 6: t20 laws.go:721 
    refine du rfl rfl (fun w' hw' => pv_mv) ?_   -- 7: t21 laws.go:721 
    refine du rfl rfl (fun w' hw' => pv_mv) ?_   -- 8: t22 laws.go:721 
    refine du rfl rfl (fun w' hw' => pv_ix (T := tF) (k := k) Yabc.underlying25 sz76 okF (hr.ext hw') rfl rfl (by omega) (by omega)) ?_   -- 9: t23 laws.go:721 
    refine du rfl rfl (fun w' hw' => pv_fa fb76_1 rfl) ?_   -- 10: t24 laws.go:721 
    refine du rfl rfl (fun w' hw' => pv_ld ag3 rfl ((hr.ext hw').cellAt okF (by omega) rfl)) ?_   -- 11: t25 laws.go:721 
    refine du rfl rfl (fun w' hw' => pv_mv) ?_   -- 12: t26 laws.go:721 
    refine du rfl rfl (fun w' hw' => pv_mv) ?_   -- 13: t27 laws.go:721 
    refine du rfl rfl (fun w' hw' => pv_ix (T := tF) (k := k) Yabc.underlying25 sz76 okF (hr.ext hw') rfl rfl (by omega) (by omega)) ?_   -- 14: t28 laws.go:721 
    refine du rfl rfl (fun w' hw' => pv_fa fb76_2 rfl) ?_   -- 15: t29 laws.go:721 
    refine du rfl rfl (fun w' hw' => pv_ld ag3 rfl ((hr.ext hw').cellAt okF (by omega) rfl)) ?_   -- 16: t30 laws.go:721 
    refine du rfl rfl (fun w' hw' => pv_mv) ?_   -- 17: t31 laws.go:721 
    refine du rfl rfl (fun w' hw' => pv_mv) ?_   -- 18: t32 laws.go:721 
    refine du rfl rfl (fun w' hw' => pv_ix (T := tF) (k := k) Yabc.underlying25 sz76 okF (hr.ext hw') rfl rfl (by omega) (by omega)) ?_   -- 19: t33 laws.go:721 
    refine du rfl rfl (fun w' hw' => pv_fa fb76_3 rfl) ?_   -- 20: t34 laws.go:721 
    refine du rfl rfl (fun w' hw' => pv_ld ag9 rfl ((hr.ext hw').cellAt okF (by omega) rfl)) ?_   -- 21: t35 laws.go:721 
    refine du rfl rfl (fun w' hw' => pv_bd rfl (bd100 _ _ _ _)) ?_   -- 22: t36 laws.go:721 
    refine du rfl rfl (fun w' hw' => pv_ia Yabc.underlying70 sz100 rfl rfl rfl rfl (by omega)) ?_   -- 23: t37 laws.go:721 
    refine den rfl (ev_stE (T := tLF) l[k] okLF (ho2.ext (Ext.drew w2)) (by omega) sz100 rfl rfl fun w3 ho3 hg3 hz3 hb3 => ?_)   -- 24:  laws.go:721 
    have hx3 := (hx2.trans (Ext.drew w2)).step hg3 hb3
    refine ⟨hx3, ?_⟩
    refine DW.nil ?_
    refine SX.reg ?_
    refine pu rfl pv_mv ?_   -- t12 laws.go:720
    refine pu rfl (pv_add rfl rfl (by omega)) ?_   -- t13 laws.go:720
    refine pu rfl pv_as ?_   -- t4(i) laws.go:720
    refine LW.nil ?_
    rw [fill_step _ _ _ hlt] at ho3
    exact ⟨k + 1, ⟨rfl, rfl, rfl, trivial⟩, ⟨by omega, hx3, ho3⟩, by omega⟩
  · skip
    have hge : l.length ≤ k := by simpa using hc
    rw [fill_end _ _ _ hge] at ho2
    refine SX.exit (xb_here ?_)
    refine SX.seq (SX.reg ?_)   -- region 6
    refine pu rfl pv_mv ?_   -- t38 laws.go:723
    refine pu rfl pv_as ?_   -- t2 laws.go:723
    refine LW.nil ?_
    refine SX.ret ?_
    exact ⟨ho2, hx2⟩

theorem f33_ok (v : Value) (l : List Tri) (w : World) (hr : Rd w tI v l) (hs : l.length ≤ 4294967296) (ht : ∀ p ∈ l, p.s.length ≤ 4294967296) : Fn 33 [v] w (fun v' w' => OwnR w' w.heap.size tI v' l ∧ Ext w w') := by
  refine Fn.mk1 (N := 35) Yabc.func33 rfl rfl rfl rfl ?_
  refine SX.seq (SX.reg ?_)   -- region 0
  refine pu rfl pv_as ?_   -- t2 laws.go:11
  refine LW.nil ?_
  refine SX.seq (SX.reg ?_)   -- region 1
  refine pu rfl pv_mv ?_   -- t5 laws.go:12
  refine pu rfl (pv_lenV (T := tI) Yabc.underlying23 hr rfl) ?_   -- t6 laws.go:12
  refine evd rfl (ev_make (T := tI) (z0 := ⟨0, 0, []⟩) (m := l.length) sl23 okI rfl rfl rfl (by omega) (by unfold maxLen; omega) (Nat.le_refl _) fun vb w1 hv1 ho1 ho1' hx1 => ?_)   -- t7 laws.go:12
  have ho := ho1.own
  clear ho1 ho1'
  subst hv1
  refine pu rfl pv_as ?_   -- t3(out) laws.go:12
  refine LW.nil ?_
  refine SX.seq ?_
  refine SX.seq (SX.reg ?_)   -- region 2
  refine pu rfl pv_as ?_   -- t4(i) laws.go:13
  refine LW.nil ?_
  refine SX.block ?_
  refine SX.loop (G := Nat) (fun k => [(0, v), (3, .slice (some ⟨w.heap.size, 0, none⟩) l.length l.length), (4, iv k)]) (fun k w' => k ≤ l.length ∧ Ext w w' ∧ OwnR w' w.heap.size tI (.slice (some ⟨w.heap.size, 0, none⟩) l.length l.length) (l.take k ++ List.replicate (l.length - k) ⟨0, 0, []⟩)) (fun k => l.length - k) 0 ⟨rfl, rfl, rfl, trivial⟩ ⟨Nat.zero_le _, hx1, by simpa using ho⟩ ?_
  rintro k w2 ρ1 ⟨hk, hx2, ho2⟩
  refine SX.seq ?_
  refine SX.seq (SX.reg ?_)   -- region 3
  refine pu rfl pv_mv ?_   -- t8 laws.go:13
  refine pu rfl pv_mv ?_   -- t9 laws.go:13
  refine pu rfl (pv_lenV (T := tI) Yabc.underlying23 (hr.ext hx2) rfl) ?_   -- t10 laws.go:13
  refine pu rfl (pv_lss rfl rfl) ?_   -- t11 laws.go:13
  refine LW.nil ?_
  refine SX.cond rfl (fun hc => ?_) (fun hc => ?_)   -- t11
  · skip
    have hlt : k < l.length := by simpa using hc
    have hlen := fill_len l ⟨0, 0, []⟩ k hk
    refine SX.skip ?_
    refine SX.seq ?_
    refine SX.block ?_
    skip
    refine SX.draw [(0, true), (1, true), (2, true), (3, true), (4, true), (5, true), (6, true), (7, true), (8, true), (9, true), (10, true), (11, true), (12, true), (13, true), (14, true), (15, true), (16, true), (17, false), (18, true), (19, true), (20, false)] (fun w' => Ext w w') (by kernel_rfl) (hx2.trans (Ext.drew w2)) ?_   -- region 5
    refine du rfl rfl (fun w' hw' => pv_mv) ?_   -- 0: t14 laws.go:14 
    refine du rfl rfl (fun w' hw' => pv_mv) ?_   -- 1: t15 laws.go:14 
    refine du rfl rfl (fun w' hw' => pv_mv) ?_   -- 2: t16 laws.go:14 
    refine du rfl rfl (fun w' hw' => pv_mv) ?_   -- 3: t17 laws.go:14 
    refine du rfl rfl (fun w' hw' => pv_ix (T := tI) (k := k) Yabc.underlying23 sz67 okI (hr.ext hw') rfl rfl (by omega) (by omega)) ?_   -- 4: t18 laws.go:14 
    refine du rfl rfl (fun w' hw' => pv_fa fb67_0 rfl) ?_   -- 5: t19 laws.go:14 
    refine du rfl rfl (fun w' hw' => pv_ld ag3 rfl ((hr.ext hw').cellAt okI (by omega) rfl)) ?_   -- 6: t20 laws.go:14 
    refine du rfl rfl (fun w' hw' => pv_mv) ?_   -- 7: t21 laws.go:14 
    refine du rfl rfl (fun w' hw' => pv_mv) ?_   -- 8: t22 laws.go:14 
    refine du rfl rfl (fun w' hw' => pv_ix (T := tI) (k := k) Yabc.underlying23 sz67 okI (hr.ext hw') rfl rfl (by omega) (by omega)) ?_   -- 9: t23 laws.go:14 
    refine du rfl rfl (fun w' hw' => pv_fa fb67_1 rfl) ?_   -- 10: t24 laws.go:14 
    refine du rfl rfl (fun w' hw' => pv_ld ag3 rfl ((hr.ext hw').cellAt okI (by omega) rfl)) ?_   -- 11: t25 laws.go:14 
    refine du rfl rfl (fun w' hw' => pv_mv) ?_   -- 12: t26 laws.go:14 
    refine du rfl rfl (fun w' hw' => pv_mv) ?_   -- 13: t27 laws.go:14 
    refine du rfl rfl (fun w' hw' => pv_ix (T := tI) (k := k) Yabc.underlying23 sz67 okI (hr.ext hw') rfl rfl (by omega) (by omega)) ?_   -- 14: t28 laws.go:14 
    refine du rfl rfl (fun w' hw' => pv_fa fb67_2 rfl) ?_   -- 15: t29 laws.go:14 
    refine du rfl rfl (fun w' hw' => pv_ld ag9 rfl ((hr.ext hw').cellAt okI (by omega) rfl)) ?_   -- 16: t30 laws.go:14 
    refine dev rfl rfl (ev_call cb53 rfl (f53_ok (l[k]'hlt).s w2.drew (ht _ (List.getElem_mem _))) ?_)   -- 17: t31 laws.go:14 
    rintro _ w4 ⟨rfl, hx4⟩
    refine ⟨(hx2.trans (Ext.drew w2)).trans hx4, ?_⟩
    refine du rfl rfl (fun w' hw' => pv_bd rfl (bd67 _ _ _)) ?_   -- 18: t32 laws.go:14 
    refine du rfl rfl (fun w' hw' => pv_ia Yabc.underlying23 sz67 rfl rfl rfl rfl (by omega)) ?_   -- 19: t33 laws.go:14 
    refine den rfl (ev_stE (T := tI) l[k] okI ((ho2.ext (Ext.drew w2)).ext hx4) (by omega) sz67 rfl rfl fun w3 ho3 hg3 hz3 hb3 => ?_)   -- 20:  laws.go:14 
    have hx3 := ((hx2.trans (Ext.drew w2)).trans hx4).step hg3 hb3
    refine ⟨hx3, ?_⟩
    refine DW.nil ?_
    refine SX.reg ?_
    refine pu rfl pv_mv ?_   -- t12 laws.go:13
    refine pu rfl (pv_add rfl rfl (by omega)) ?_   -- t13 laws.go:13
    refine pu rfl pv_as ?_   -- t4(i) laws.go:13
    refine LW.nil ?_
    rw [fill_step _ _ _ hlt] at ho3
    exact ⟨k + 1, ⟨rfl, rfl, rfl, trivial⟩, ⟨by omega, hx3, ho3⟩, by omega⟩
  · skip
    have hge : l.length ≤ k := by simpa using hc
    rw [fill_end _ _ _ hge] at ho2
    refine SX.exit (xb_here ?_)
    refine SX.seq (SX.reg ?_)   -- region 6
    refine pu rfl pv_mv ?_   -- t34 laws.go:16
    refine pu rfl pv_as ?_   -- t2 laws.go:16
    refine LW.nil ?_
    refine SX.ret ?_
    exact ⟨ho2, hx2⟩

theorem f48_ok (v : Value) (l : List Tri) (w : World) (hr : Rd w tK v l) (hs : l.length ≤ 4294967296) (ht : ∀ p ∈ l, p.s.length ≤ 4294967296) : Fn 48 [v] w (fun v' w' => OwnR w' w.heap.size tK v' l ∧ Ext w w') := by
  refine Fn.mk1 (N := 35) Yabc.func48 rfl rfl rfl rfl ?_
  refine SX.seq (SX.reg ?_)   -- region 0
  refine pu rfl pv_as ?_   -- t2 laws.go:27
  refine LW.nil ?_
  refine SX.seq (SX.reg ?_)   -- region 1
  refine pu rfl pv_mv ?_   -- t5 laws.go:28
  refine pu rfl (pv_lenV (T := tK) Yabc.underlying27 hr rfl) ?_   -- t6 laws.go:28
  refine evd rfl (ev_make (T := tK) (z0 := ⟨0, 0, []⟩) (m := l.length) sl27 okK rfl rfl rfl (by omega) (by unfold maxLen; omega) (Nat.le_refl _) fun vb w1 hv1 ho1 ho1' hx1 => ?_)   -- t7 laws.go:28
  have ho := ho1.own
  clear ho1 ho1'
  subst hv1
  refine pu rfl pv_as ?_   -- t3(out) laws.go:28
  refine LW.nil ?_
  refine SX.seq ?_
  refine SX.seq (SX.reg ?_)   -- region 2
  refine pu rfl pv_as ?_   -- t4(i) laws.go:29
  refine LW.nil ?_
  refine SX.block ?_
  refine SX.loop (G := Nat) (fun k => [(0, v), (3, .slice (some ⟨w.heap.size, 0, none⟩) l.length l.length), (4, iv k)]) (fun k w' => k ≤ l.length ∧ Ext w w' ∧ OwnR w' w.heap.size tK (.slice (some ⟨w.heap.size, 0, none⟩) l.length l.length) (l.take k ++ List.replicate (l.length - k) ⟨0, 0, []⟩)) (fun k => l.length - k) 0 ⟨rfl, rfl, rfl, trivial⟩ ⟨Nat.zero_le _, hx1, by simpa using ho⟩ ?_
  rintro k w2 ρ1 ⟨hk, hx2, ho2⟩
  refine SX.seq ?_
  refine SX.seq (SX.reg ?_)   -- region 3
  refine pu rfl pv_mv ?_   -- t8 laws.go:29
  refine pu rfl pv_mv ?_   -- t9 laws.go:29
  refine pu rfl (pv_lenV (T := tK) Yabc.underlying27 (hr.ext hx2) rfl) ?_   -- t10 laws.go:29
  refine pu rfl (pv_lss rfl rfl) ?_   -- t11 laws.go:29
  refine LW.nil ?_
  refine SX.cond rfl (fun hc => ?_) (fun hc => ?_)   -- t11
  · skip
    have hlt : k < l.length := by simpa using hc
    have hlen := fill_len l ⟨0, 0, []⟩ k hk
    refine SX.skip ?_
    refine SX.seq ?_
    refine SX.block ?_
    skip
    refine SX.draw [(0, true), (1, true), (2, true), (3, true), (4, true), (5, true), (6, true), (7, true), (8, true), (9, true), (10, true), (11, true), (12, true), (13, true), (14, true), (15, true), (16, true), (17, false), (18, true), (19, true), (20, false)] (fun w' => Ext w w') (by kernel_rfl) (hx2.trans (Ext.drew w2)) ?_   -- region 5
    refine du rfl rfl (fun w' hw' => pv_mv) ?_   -- 0: t14 laws.go:30 
    refine du rfl rfl (fun w' hw' => pv_mv) ?_   -- 1: t15 laws.go:30 
    refine du rfl rfl (fun w' hw' => pv_mv) ?_   -- 2: t16 laws.go:30 
    refine du rfl rfl (fun w' hw' => pv_mv) ?_   -- 3: t17 laws.go:30 
    refine du rfl rfl (fun w' hw' => pv_ix (T := tK) (k := k) Yabc.underlying27 sz30 okK (hr.ext hw') rfl rfl (by omega) (by omega)) ?_   -- 4: t18 laws.go:30 
    refine du rfl rfl (fun w' hw' => pv_fa fb30_0 rfl) ?_   -- 5: t19 laws.go:30 
    refine du rfl rfl (fun w' hw' => pv_ld ag3 rfl ((hr.ext hw').cellAt okK (by omega) rfl)) ?_   -- 6: t20 laws.go:30 
    refine du rfl rfl (fun w' hw' => pv_mv) ?_   -- 7: t21 laws.go:30 
    refine du rfl rfl (fun w' hw' => pv_mv) ?_   -- 8: t22 laws.go:30 
    refine du rfl rfl (fun w' hw' => pv_ix (T := tK) (k := k) Yabc.underlying27 sz30 okK (hr.ext hw') rfl rfl (by omega) (by omega)) ?_   -- 9: t23 laws.go:30 
    refine du rfl rfl (fun w' hw' => pv_fa fb30_1 rfl) ?_   -- 10: t24 laws.go:30 
    refine du rfl rfl (fun w' hw' => pv_ld ag3 rfl ((hr.ext hw').cellAt okK (by omega) rfl)) ?_   -- 11: t25 laws.go:30 
    refine du rfl rfl (fun w' hw' => pv_mv) ?_   -- 12: t26 laws.go:30 
    refine du rfl rfl (fun w' hw' => pv_mv) ?_   -- 13: t27 laws.go:30 
    refine du rfl rfl (fun w' hw' => pv_ix (T := tK) (k := k) Yabc.underlying27 sz30 okK (hr.ext hw') rfl rfl (by omega) (by omega)) ?_   -- 14: t28 laws.go:30 
    refine du rfl rfl (fun w' hw' => pv_fa fb30_2 rfl) ?_   -- 15: t29 laws.go:30 
    refine du rfl rfl (fun w' hw' => pv_ld ag9 rfl ((hr.ext hw').cellAt okK (by omega) rfl)) ?_   -- 16: t30 laws.go:30 
    refine dev rfl rfl (ev_call cb53 rfl (f53_ok (l[k]'hlt).s w2.drew (ht _ (List.getElem_mem _))) ?_)   -- 17: t31 laws.go:30 
    rintro _ w4 ⟨rfl, hx4⟩
    refine ⟨(hx2.trans (Ext.drew w2)).trans hx4, ?_⟩
    refine du rfl rfl (fun w' hw' => pv_bd rfl (bd30 _ _ _)) ?_   -- 18: t32 laws.go:30 
    refine du rfl rfl (fun w' hw' => pv_ia Yabc.underlying27 sz30 rfl rfl rfl rfl (by omega)) ?_   -- 19: t33 laws.go:30 
    refine den rfl (ev_stE (T := tK) l[k] okK ((ho2.ext (Ext.drew w2)).ext hx4) (by omega) sz30 rfl rfl fun w3 ho3 hg3 hz3 hb3 => ?_)   -- 20:  laws.go:30 
    have hx3 := ((hx2.trans (Ext.drew w2)).trans hx4).step hg3 hb3
    refine ⟨hx3, ?_⟩
    refine DW.nil ?_
    refine SX.reg ?_
    refine pu rfl pv_mv ?_   -- t12 laws.go:29
    refine pu rfl (pv_add rfl rfl (by omega)) ?_   -- t13 laws.go:29
    refine pu rfl pv_as ?_   -- t4(i) laws.go:29
    refine LW.nil ?_
    rw [fill_step _ _ _ hlt] at ho3
    exact ⟨k + 1, ⟨rfl, rfl, rfl, trivial⟩, ⟨by omega, hx3, ho3⟩, by omega⟩
  · skip
    have hge : l.length ≤ k := by simpa using hc
    rw [fill_end _ _ _ hge] at ho2
    refine SX.exit (xb_here ?_)
    refine SX.seq (SX.reg ?_)   -- region 6
    refine pu rfl pv_mv ?_   -- t34 laws.go:32
    refine pu rfl pv_as ?_   -- t2 laws.go:32
    refine LW.nil ?_
    refine SX.ret ?_
    exact ⟨ho2, hx2⟩

theorem f38_ok (v : Value) (l : List Frg) (w : World) (hr : Rd w tF v l) (hs : l.length ≤ 4294967296) (ht : ∀ p ∈ l, p.s.length ≤ 4294967296) : Fn 38 [v] w (fun v' w' => OwnR w' w.heap.size tF v' l ∧ Ext w w') := by
  refine Fn.mk1 (N := 40) Yabc.func38 rfl rfl rfl rfl ?_
  refine SX.seq (SX.reg ?_)   -- region 0
  refine pu rfl pv_as ?_   -- t2 laws.go:19
  refine LW.nil ?_
  refine SX.seq (SX.reg ?_)   -- region 1
  refine pu rfl pv_mv ?_   -- t5 laws.go:20
  refine pu rfl (pv_lenV (T := tF) Yabc.underlying25 hr rfl) ?_   -- t6 laws.go:20
  refine evd rfl (ev_make (T := tF) (z0 := ⟨0, 0, 0, []⟩) (m := l.length) sl25 okF rfl rfl rfl (by omega) (by unfold maxLen; omega) (Nat.le_refl _) fun vb w1 hv1 ho1 ho1' hx1 => ?_)   -- t7 laws.go:20
  have ho := ho1.own
  clear ho1 ho1'
  subst hv1
  refine pu rfl pv_as ?_   -- t3(out) laws.go:20
  refine LW.nil ?_
  refine SX.seq ?_
  refine SX.seq (SX.reg ?_)   -- region 2
  refine pu rfl pv_as ?_   -- t4(i) laws.go:21
  refine LW.nil ?_
  refine SX.block ?_
  refine SX.loop (G := Nat) (fun k => [(0, v), (3, .slice (some ⟨w.heap.size, 0, none⟩) l.length l.length), (4, iv k)]) (fun k w' => k ≤ l.length ∧ Ext w w' ∧ OwnR w' w.heap.size tF (.slice (some ⟨w.heap.size, 0, none⟩) l.length l.length) (l.take k ++ List.replicate (l.length - k) ⟨0, 0, 0, []⟩)) (fun k => l.length - k) 0 ⟨rfl, rfl, rfl, trivial⟩ ⟨Nat.zero_le _, hx1, by simpa using ho⟩ ?_
  rintro k w2 ρ1 ⟨hk, hx2, ho2⟩
  refine SX.seq ?_
  refine SX.seq (SX.reg ?_)   -- region 3
  refine pu rfl pv_mv ?_   -- t8 laws.go:21
  refine pu rfl pv_mv ?_   -- t9 laws.go:21
  refine pu rfl (pv_lenV (T := tF) Yabc.underlying25 (hr.ext hx2) rfl) ?_   -- t10 laws.go:21
  refine pu rfl (pv_lss rfl rfl) ?_   -- t11 laws.go:21
  refine LW.nil ?_
  refine SX.cond rfl (fun hc => ?_) (fun hc => ?_)   -- t11
  · skip
    have hlt : k < l.length := by simpa using hc
    have hlen := fill_len l ⟨0, 0, 0, []⟩ k hk
    refine SX.skip ?_
    refine SX.seq ?_
    refine SX.block ?_
    skip
    refine SX.draw [(0, true), (1, true), (2, true), (3, true), (4, true), (5, true), (6, true), (7, true), (8, true), (9, true), (10, true), (11, true), (12, true), (13, true), (14, true), (15, true), (16, true), (17, true), (18, true), (19, true), (20, true), (21, true), (22, false), (23, true), (24, true), (25, false)] (fun w' => Ext w w') (by kernel_rfl) (hx2.trans (Ext.drew w2)) ?_   -- region 5
    refine du rfl rfl (fun w' hw' => pv_mv) ?_   -- 0: t14 laws.go:22 
    refine du rfl rfl (fun w' hw' => pv_mv) ?_   -- 1: t15 laws.go:22 
    refine du rfl rfl (fun w' hw' => pv_mv) ?_   -- 2: t16 laws.go:22 
    refine du rfl rfl (fun w' hw' => pv_mv) ?_   -- 3: t17 laws.go:22 
    refine du rfl rfl (fun w' hw' => pv_ix (T := tF) (k := k) Yabc.underlying25 sz76 okF (hr.ext hw') rfl rfl (by omega) (by omega)) ?_   -- 4: t18 laws.go:22 
    refine du rfl rfl (fun w' hw' => pv_fa fb76_0 rfl) ?_   -- 5: t19 laws.go:22 
    refine du rfl rfl (fun w' hw' => pv_ld ag3 rfl ((hr.ext hw').cellAt okF (by omega) rfl)) ?_   -- 6: t20 laws.go:22 
    refine du rfl rfl (fun w' hw' => pv_mv) ?_   -- 7: t21 laws.go:22 
    refine du rfl rfl (fun w' hw' => pv_mv) ?_   -- 8: t22 laws.go:22 
    refine du rfl rfl (fun w' hw' => pv_ix (T := tF) (k := k) Yabc.underlying25 sz76 okF (hr.ext hw') rfl rfl (by omega) (by omega)) ?_   -- 9: t23 laws.go:22 
    refine du rfl rfl (fun w' hw' => pv_fa fb76_1 rfl) ?_   -- 10: t24 laws.go:22 
    refine du rfl rfl (fun w' hw' => pv_ld ag3 rfl ((hr.ext hw').cellAt okF (by omega) rfl)) ?_   -- 11: t25 laws.go:22 
    refine du rfl rfl (fun w' hw' => pv_mv) ?_   -- 12: t26 laws.go:22 
    refine du rfl rfl (fun w' hw' => pv_mv) ?_   -- 13: t27 laws.go:22 
    refine du rfl rfl (fun w' hw' => pv_ix (T := tF) (k := k) Yabc.underlying25 sz76 okF (hr.ext hw') rfl rfl (by omega) (by omega)) ?_   -- 14: t28 laws.go:22 
    refine du rfl rfl (fun w' hw' => pv_fa fb76_2 rfl) ?_   -- 15: t29 laws.go:22 
    refine du rfl rfl (fun w' hw' => pv_ld ag3 rfl ((hr.ext hw').cellAt okF (by omega) rfl)) ?_   -- 16: t30 laws.go:22 
    refine du rfl rfl (fun w' hw' => pv_mv) ?_   -- 17: t31 laws.go:22 
    refine du rfl rfl (fun w' hw' => pv_mv) ?_   -- 18: t32 laws.go:22 
    refine du rfl rfl (fun w' hw' => pv_ix (T := tF) (k := k) Yabc.underlying25 sz76 okF (hr.ext hw') rfl rfl (by omega) (by omega)) ?_   -- 19: t33 laws.go:22 
    refine du rfl rfl (fun w' hw' => pv_fa fb76_3 rfl) ?_   -- 20: t34 laws.go:22 
    refine du rfl rfl (fun w' hw' => pv_ld ag9 rfl ((hr.ext hw').cellAt okF (by omega) rfl)) ?_   -- 21: t35 laws.go:22 
    refine dev rfl rfl (ev_call cb53 rfl (f53_ok (l[k]'hlt).s w2.drew (ht _ (List.getElem_mem _))) ?_)   -- 22: t36 laws.go:22 
    rintro _ w4 ⟨rfl, hx4⟩
    refine ⟨(hx2.trans (Ext.drew w2)).trans hx4, ?_⟩
    refine du rfl rfl (fun w' hw' => pv_bd rfl (bd76 _ _ _ _)) ?_   -- 23: t37 laws.go:22 
    refine du rfl rfl (fun w' hw' => pv_ia Yabc.underlying25 sz76 rfl rfl rfl rfl (by omega)) ?_   -- 24: t38 laws.go:22 
    refine den rfl (ev_stE (T := tF) l[k] okF ((ho2.ext (Ext.drew w2)).ext hx4) (by omega) sz76 rfl rfl fun w3 ho3 hg3 hz3 hb3 => ?_)   -- 25:  laws.go:22 
    have hx3 := ((hx2.trans (Ext.drew w2)).trans hx4).step hg3 hb3
    refine ⟨hx3, ?_⟩
    refine DW.nil ?_
    refine SX.reg ?_
    refine pu rfl pv_mv ?_   -- t12 laws.go:21
    refine pu rfl (pv_add rfl rfl (by omega)) ?_   -- t13 laws.go:21
    refine pu rfl pv_as ?_   -- t4(i) laws.go:21
    refine LW.nil ?_
    rw [fill_step _ _ _ hlt] at ho3
    exact ⟨k + 1, ⟨rfl, rfl, rfl, trivial⟩, ⟨by omega, hx3, ho3⟩, by omega⟩
  · skip
    have hge : l.length ≤ k := by simpa using hc
    rw [fill_end _ _ _ hge] at ho2
    refine SX.exit (xb_here ?_)
    refine SX.seq (SX.reg ?_)   -- region 6
    refine pu rfl pv_mv ?_   -- t39 laws.go:24
    refine pu rfl pv_as ?_   -- t2 laws.go:24
    refine LW.nil ?_
    refine SX.ret ?_
    exact ⟨ho2, hx2⟩

theorem f62_ok (a b : Value) (l : List Tri) (w : World) (ha : Rd w tLI a l) (hb : Rd w tLI b l) (hs : l.length ≤ 4294967296) : Fn 62 [a, b] w (fun v w' => v = .bool true ∧ Ext w w') := by
  refine Fn.mk1 (N := 54) Yabc.func62 rfl rfl rfl rfl ?_
  refine SX.seq (SX.reg ?_)   -- region 0
  refine pu rfl pv_as ?_   -- t4 laws.go:742
  refine LW.nil ?_
  refine SX.seq ?_
  refine SX.seq (SX.reg ?_)   -- region 1
  refine pu rfl pv_mv ?_   -- t6 laws.go:743
  refine pu rfl (pv_lenV (T := tLI) Yabc.underlying62 ha rfl) ?_   -- t7 laws.go:743
  refine pu rfl pv_mv ?_   -- t8 laws.go:743
  refine pu rfl (pv_lenV (T := tLI) Yabc.underlying62 hb rfl) ?_   -- t9 laws.go:743
  refine pu rfl (pv_neqE rfl rfl) ?_   -- t10 laws.go:743
  refine LW.nil ?_
  refine SX.cond_false rfl ?_   -- t10
  refine SX.skip ?_
  refine SX.seq ?_
  refine SX.seq (SX.reg ?_)   -- region 3
  refine pu rfl pv_as ?_   -- t5(i) laws.go:746
  refine LW.nil ?_
  refine SX.block ?_
  refine SX.loop (G := Nat) (fun k => [(0, a), (1, b), (5, iv k)]) (fun k w' => k ≤ l.length ∧ Ext w w') (fun k => l.length - k) 0 ⟨rfl, rfl, rfl, trivial⟩ ⟨Nat.zero_le _, Ext.refl w⟩ ?_
  rintro k w2 ρ1 ⟨hk, hx2⟩
  refine SX.seq ?_
  refine SX.seq (SX.reg ?_)   -- region 4
  refine pu rfl pv_mv ?_   -- t11 laws.go:746
  refine pu rfl pv_mv ?_   -- t12 laws.go:746
  refine pu rfl (pv_lenV (T := tLI) Yabc.underlying62 (ha.ext hx2) rfl) ?_   -- t13 laws.go:746
  refine pu rfl (pv_lss rfl rfl) ?_   -- t14 laws.go:746
  refine LW.nil ?_
  refine SX.cond rfl (fun hc => ?_) (fun hc => ?_)   -- t14
  · skip
    have hlt : k < l.length := by simpa using hc
    refine SX.skip ?_
    refine SX.seq ?_
    refine SX.block ?_
    refine SX.seq ?_
    refine SX.draw [(0, true), (1, true), (2, true), (3, true), (4, true), (5, true), (6, true), (7, true), (8, true), (9, true), (10, true), (11, true), (12, true), (13, true), (14, true), (15, true), (16, true), (17, true), (18, true), (19, true), (20, true), (21, true), (22, true), (23, true), (24, true), (25, true), (26, true), (27, true), (28, true), (29, true), (30, true), (31, true), (32, true), (33, true), (34, true), (35, true), (36, true)] (fun w' => Ext w w') (by kernel_rfl) (hx2.trans (Ext.drew w2)) ?_   -- region 6
    refine du rfl rfl (fun w' hw' => pv_mv) ?_   -- 0: t17 laws.go:747 
    refine du rfl rfl (fun w' hw' => pv_mv) ?_   -- 1: t18 laws.go:747 
    refine du rfl rfl (fun w' hw' => pv_ix (T := tLI) (k := k) Yabc.underlying62 sz99 okLI (ha.ext hw') rfl rfl (by omega) (by omega)) ?_   -- 2: t19 laws.go:747 
    refine du rfl rfl (fun w' hw' => pv_fa fb99_0 rfl) ?_   -- 3: t20 laws.go:747 
    refine du rfl rfl (fun w' hw' => pv_ld ag3 rfl ((ha.ext hw').cellAt okLI (by omega) rfl)) ?_   -- 4: t21 laws.go:747 
    refine du rfl rfl (fun w' hw' => pv_mv) ?_   -- 5: t22 laws.go:747 
    refine du rfl rfl (fun w' hw' => pv_mv) ?_   -- 6: t23 laws.go:747 
    refine du rfl rfl (fun w' hw' => pv_ix (T := tLI) (k := k) Yabc.underlying62 sz99 okLI (hb.ext hw') rfl rfl (by omega) (by omega)) ?_   -- 7: t24 laws.go:747 
    refine du rfl rfl (fun w' hw' => pv_fa fb99_0 rfl) ?_   -- 8: t25 laws.go:747 
    refine du rfl rfl (fun w' hw' => pv_ld ag3 rfl ((hb.ext hw').cellAt okLI (by omega) rfl)) ?_   -- 9: t26 laws.go:747 
    refine du rfl rfl (fun w' hw' => pv_neqE rfl rfl) ?_   -- 10: t27 laws.go:747 
    refine du rfl rfl (fun w' hw' => pv_mv) ?_   -- 11: t28 laws.go:747 
    refine dgr rfl rfl rfl rfl (fun w' hw' => pv_mv) ?_   -- 12: t29 laws.go:747 [guard (11, False)]
    refine dgr rfl rfl rfl rfl (fun w' hw' => pv_mv) ?_   -- 13: t30 laws.go:747 [guard (11, False)]
    refine dgr rfl rfl rfl rfl (fun w' hw' => pv_ix (T := tLI) (k := k) Yabc.underlying62 sz99 okLI (ha.ext hw') rfl rfl (by omega) (by omega)) ?_   -- 14: t31 laws.go:747 [guard (11, False)]
    refine dgr rfl rfl rfl rfl (fun w' hw' => pv_fa fb99_1 rfl) ?_   -- 15: t32 laws.go:747 [guard (11, False)]
    refine dgr rfl rfl rfl rfl (fun w' hw' => pv_ld ag3 rfl ((ha.ext hw').cellAt okLI (by omega) rfl)) ?_   -- 16: t33 laws.go:747 [guard (11, False)]
    refine dgr rfl rfl rfl rfl (fun w' hw' => pv_mv) ?_   -- 17: t34 laws.go:747 [guard (11, False)]
    refine dgr rfl rfl rfl rfl (fun w' hw' => pv_mv) ?_   -- 18: t35 laws.go:747 [guard (11, False)]
    refine dgr rfl rfl rfl rfl (fun w' hw' => pv_ix (T := tLI) (k := k) Yabc.underlying62 sz99 okLI (hb.ext hw') rfl rfl (by omega) (by omega)) ?_   -- 19: t36 laws.go:747 [guard (11, False)]
    refine dgr rfl rfl rfl rfl (fun w' hw' => pv_fa fb99_1 rfl) ?_   -- 20: t37 laws.go:747 [guard (11, False)]
    refine dgr rfl rfl rfl rfl (fun w' hw' => pv_ld ag3 rfl ((hb.ext hw').cellAt okLI (by omega) rfl)) ?_   -- 21: t38 laws.go:747 [guard (11, False)]
    refine dgr rfl rfl rfl rfl (fun w' hw' => pv_neqE rfl rfl) ?_   -- 22: t39 laws.go:747 [guard (11, False)]
    refine du rfl rfl (fun w' hw' => pv_pkF rfl) ?_   -- 23: t40 laws.go:747 
    refine du rfl rfl (fun w' hw' => pv_mv) ?_   -- 24: t41 laws.go:747 
    refine dgr rfl rfl rfl rfl (fun w' hw' => pv_mv) ?_   -- 25: t42 laws.go:747 [guard (24, False)]
    refine dgr rfl rfl rfl rfl (fun w' hw' => pv_mv) ?_   -- 26: t43 laws.go:747 [guard (24, False)]
    refine dgr rfl rfl rfl rfl (fun w' hw' => pv_ix (T := tLI) (k := k) Yabc.underlying62 sz99 okLI (ha.ext hw') rfl rfl (by omega) (by omega)) ?_   -- 27: t44 laws.go:747 [guard (24, False)]
    refine dgr rfl rfl rfl rfl (fun w' hw' => pv_fa fb99_2 rfl) ?_   -- 28: t45 laws.go:747 [guard (24, False)]
    refine dgr rfl rfl rfl rfl (fun w' hw' => pv_ld ag9 rfl ((ha.ext hw').cellAt okLI (by omega) rfl)) ?_   -- 29: t46 laws.go:747 [guard (24, False)]
    refine dgr rfl rfl rfl rfl (fun w' hw' => pv_mv) ?_   -- 30: t47 laws.go:747 [guard (24, False)]
    refine dgr rfl rfl rfl rfl (fun w' hw' => pv_mv) ?_   -- 31: t48 laws.go:747 [guard (24, False)]
    refine dgr rfl rfl rfl rfl (fun w' hw' => pv_ix (T := tLI) (k := k) Yabc.underlying62 sz99 okLI (hb.ext hw') rfl rfl (by omega) (by omega)) ?_   -- 32: t49 laws.go:747 [guard (24, False)]
    refine dgr rfl rfl rfl rfl (fun w' hw' => pv_fa fb99_2 rfl) ?_   -- 33: t50 laws.go:747 [guard (24, False)]
    refine dgr rfl rfl rfl rfl (fun w' hw' => pv_ld ag9 rfl ((hb.ext hw').cellAt okLI (by omega) rfl)) ?_   -- 34: t51 laws.go:747 [guard (24, False)]
    refine dgr rfl rfl rfl rfl (fun w' hw' => pv_neqSE rfl rfl) ?_   -- 35: t52 laws.go:747 [guard (24, False)]
    refine du rfl rfl (fun w' hw' => pv_pkF rfl) ?_   -- 36: t53 laws.go:747 
    refine DW.nil ?_
    refine SX.cond_false rfl ?_   -- t53
    refine SX.skip ?_
    refine SX.reg ?_
    refine pu rfl pv_mv ?_   -- t15 laws.go:746
    refine pu rfl (pv_add rfl rfl (by omega)) ?_   -- t16 laws.go:746
    refine pu rfl pv_as ?_   -- t5(i) laws.go:746
    refine LW.nil ?_
    exact ⟨k + 1, ⟨rfl, rfl, rfl, trivial⟩, ⟨by omega, hx2.trans (Ext.drew w2)⟩, by omega⟩
  · skip
    refine SX.exit (xb_here ?_)
    refine SX.seq (SX.reg ?_)   -- region 8
    refine pu rfl pv_as ?_   -- t4 laws.go:751
    refine LW.nil ?_
    refine SX.ret ?_
    exact ⟨rfl, hx2⟩

theorem f59_ok (a b : Value) (l : List Tri) (w : World) (ha : Rd w tLK a l) (hb : Rd w tLK b l) (hs : l.length ≤ 4294967296) : Fn 59 [a, b] w (fun v w' => v = .bool true ∧ Ext w w') := by
  refine Fn.mk1 (N := 54) Yabc.func59 rfl rfl rfl rfl ?_
  refine SX.seq (SX.reg ?_)   -- region 0
  refine pu rfl pv_as ?_   -- t4 laws.go:730
  refine LW.nil ?_
  refine SX.seq ?_
  refine SX.seq (SX.reg ?_)   -- region 1
  refine pu rfl pv_mv ?_   -- t6 laws.go:731
  refine pu rfl (pv_lenV (T := tLK) Yabc.underlying58 ha rfl) ?_   -- t7 laws.go:731
  refine pu rfl pv_mv ?_   -- t8 laws.go:731
  refine pu rfl (pv_lenV (T := tLK) Yabc.underlying58 hb rfl) ?_   -- t9 laws.go:731
  refine pu rfl (pv_neqE rfl rfl) ?_   -- t10 laws.go:731
  refine LW.nil ?_
  refine SX.cond_false rfl ?_   -- t10
  refine SX.skip ?_
  refine SX.seq ?_
  refine SX.seq (SX.reg ?_)   -- region 3
  refine pu rfl pv_as ?_   -- t5(i) laws.go:734
  refine LW.nil ?_
  refine SX.block ?_
  refine SX.loop (G := Nat) (fun k => [(0, a), (1, b), (5, iv k)]) (fun k w' => k ≤ l.length ∧ Ext w w') (fun k => l.length - k) 0 ⟨rfl, rfl, rfl, trivial⟩ ⟨Nat.zero_le _, Ext.refl w⟩ ?_
  rintro k w2 ρ1 ⟨hk, hx2⟩
  refine SX.seq ?_
  refine SX.seq (SX.reg ?_)   -- region 4
  refine pu rfl pv_mv ?_   -- t11 laws.go:734
  refine pu rfl pv_mv ?_   -- t12 laws.go:734
  refine pu rfl (pv_lenV (T := tLK) Yabc.underlying58 (ha.ext hx2) rfl) ?_   -- t13 laws.go:734
  refine pu rfl (pv_lss rfl rfl) ?_   -- t14 laws.go:734
  refine LW.nil ?_
  refine SX.cond rfl (fun hc => ?_) (fun hc => ?_)   -- t14
  · skip
    have hlt : k < l.length := by simpa using hc
    refine SX.skip ?_
    refine SX.seq ?_
    refine SX.block ?_
    refine SX.seq ?_
    refine SX.draw [(0, true), (1, true), (2, true), (3, true), (4, true), (5, true), (6, true), (7, true), (8, true), (9, true), (10, true), (11, true), (12, true), (13, true), (14, true), (15, true), (16, true), (17, true), (18, true), (19, true), (20, true), (21, true), (22, true), (23, true), (24, true), (25, true), (26, true), (27, true), (28, true), (29, true), (30, true), (31, true), (32, true), (33, true), (34, true), (35, true), (36, true)] (fun w' => Ext w w') (by kernel_rfl) (hx2.trans (Ext.drew w2)) ?_   -- region 6
    refine du rfl rfl (fun w' hw' => pv_mv) ?_   -- 0: t17 laws.go:735 
    refine du rfl rfl (fun w' hw' => pv_mv) ?_   -- 1: t18 laws.go:735 
    refine du rfl rfl (fun w' hw' => pv_ix (T := tLK) (k := k) Yabc.underlying58 sz98 okLK (ha.ext hw') rfl rfl (by omega) (by omega)) ?_   -- 2: t19 laws.go:735 
    refine du rfl rfl (fun w' hw' => pv_fa fb98_0 rfl) ?_   -- 3: t20 laws.go:735 
    refine du rfl rfl (fun w' hw' => pv_ld ag3 rfl ((ha.ext hw').cellAt okLK (by omega) rfl)) ?_   -- 4: t21 laws.go:735 
    refine du rfl rfl (fun w' hw' => pv_mv) ?_   -- 5: t22 laws.go:735 
    refine du rfl rfl (fun w' hw' => pv_mv) ?_   -- 6: t23 laws.go:735 
    refine du rfl rfl (fun w' hw' => pv_ix (T := tLK) (k := k) Yabc.underlying58 sz98 okLK (hb.ext hw') rfl rfl (by omega) (by omega)) ?_   -- 7: t24 laws.go:735 
    refine du rfl rfl (fun w' hw' => pv_fa fb98_0 rfl) ?_   -- 8: t25 laws.go:735 
    refine du rfl rfl (fun w' hw' => pv_ld ag3 rfl ((hb.ext hw').cellAt okLK (by omega) rfl)) ?_   -- 9: t26 laws.go:735 
    refine du rfl rfl (fun w' hw' => pv_neqE rfl rfl) ?_   -- 10: t27 laws.go:735 
    refine du rfl rfl (fun w' hw' => pv_mv) ?_   -- 11: t28 laws.go:735 
    refine dgr rfl rfl rfl rfl (fun w' hw' => pv_mv) ?_   -- 12: t29 laws.go:735 [guard (11, False)]
    refine dgr rfl rfl rfl rfl (fun w' hw' => pv_mv) ?_   -- 13: t30 laws.go:735 [guard (11, False)]
    refine dgr rfl rfl rfl rfl (fun w' hw' => pv_ix (T := tLK) (k := k) Yabc.underlying58 sz98 okLK (ha.ext hw') rfl rfl (by omega) (by omega)) ?_   -- 14: t31 laws.go:735 [guard (11, False)]
    refine dgr rfl rfl rfl rfl (fun w' hw' => pv_fa fb98_1 rfl) ?_   -- 15: t32 laws.go:735 [guard (11, False)]
    refine dgr rfl rfl rfl rfl (fun w' hw' => pv_ld ag3 rfl ((ha.ext hw').cellAt okLK (by omega) rfl)) ?_   -- 16: t33 laws.go:735 [guard (11, False)]
    refine dgr rfl rfl rfl rfl (fun w' hw' => pv_mv) ?_   -- 17: t34 laws.go:735 [guard (11, False)]
    refine dgr rfl rfl rfl rfl (fun w' hw' => pv_mv) ?_   -- 18: t35 laws.go:735 [guard (11, False)]
    refine dgr rfl rfl rfl rfl (fun w' hw' => pv_ix (T := tLK) (k := k) Yabc.underlying58 sz98 okLK (hb.ext hw') rfl rfl (by omega) (by omega)) ?_   -- 19: t36 laws.go:735 [guard (11, False)]
    refine dgr rfl rfl rfl rfl (fun w' hw' => pv_fa fb98_1 rfl) ?_   -- 20: t37 laws.go:735 [guard (11, False)]
    refine dgr rfl rfl rfl rfl (fun w' hw' => pv_ld ag3 rfl ((hb.ext hw').cellAt okLK (by omega) rfl)) ?_   -- 21: t38 laws.go:735 [guard (11, False)]
    refine dgr rfl rfl rfl rfl (fun w' hw' => pv_neqE rfl rfl) ?_   -- 22: t39 laws.go:735 [guard (11, False)]
    refine du rfl rfl (fun w' hw' => pv_pkF rfl) ?_   -- 23: t40 laws.go:735 
    refine du rfl rfl (fun w' hw' => pv_mv) ?_   -- 24: t41 laws.go:735 
    refine dgr rfl rfl rfl rfl (fun w' hw' => pv_mv) ?_   -- 25: t42 laws.go:735 [guard (24, False)]
    refine dgr rfl rfl rfl rfl (fun w' hw' => pv_mv) ?_   -- 26: t43 laws.go:735 [guard (24, False)]
    refine dgr rfl rfl rfl rfl (fun w' hw' => pv_ix (T := tLK) (k := k) Yabc.underlying58 sz98 okLK (ha.ext hw') rfl rfl (by omega) (by omega)) ?_   -- 27: t44 laws.go:735 [guard (24, False)]
    refine dgr rfl rfl rfl rfl (fun w' hw' => pv_fa fb98_2 rfl) ?_   -- 28: t45 laws.go:735 [guard (24, False)]
    refine dgr rfl rfl rfl rfl (fun w' hw' => pv_ld ag9 rfl ((ha.ext hw').cellAt okLK (by omega) rfl)) ?_   -- 29: t46 laws.go:735 [guard (24, False)]
    refine dgr rfl rfl rfl rfl (fun w' hw' => pv_mv) ?_   -- 30: t47 laws.go:735 [guard (24, False)]
    refine dgr rfl rfl rfl rfl (fun w' hw' => pv_mv) ?_   -- 31: t48 laws.go:735 [guard (24, False)]
    refine dgr rfl rfl rfl rfl (fun w' hw' => pv_ix (T := tLK) (k := k) Yabc.underlying58 sz98 okLK (hb.ext hw') rfl rfl (by omega) (by omega)) ?_   -- 32: t49 laws.go:735 [guard (24, False)]
    refine dgr rfl rfl rfl rfl (fun w' hw' => pv_fa fb98_2 rfl) ?_   -- 33: t50 laws.go:735 [guard (24, False)]
    refine dgr rfl rfl rfl rfl (fun w' hw' => pv_ld ag9 rfl ((hb.ext hw').cellAt okLK (by omega) rfl)) ?_   -- 34: t51 laws.go:735 [guard (24, False)]
    refine dgr rfl rfl rfl rfl (fun w' hw' => pv_neqSE rfl rfl) ?_   -- 35: t52 laws.go:735 [guard (24, False)]
    refine du rfl rfl (fun w' hw' => pv_pkF rfl) ?_   -- 36: t53 laws.go:735 
    refine DW.nil ?_
    refine SX.cond_false rfl ?_   -- t53
    refine SX.skip ?_
    refine SX.reg ?_
    refine pu rfl pv_mv ?_   -- t15 laws.go:734
    refine pu rfl (pv_add rfl rfl (by omega)) ?_   -- t16 laws.go:734
    refine pu rfl pv_as ?_   -- t5(i) laws.go:734
    refine LW.nil ?_
    exact ⟨k + 1, ⟨rfl, rfl, rfl, trivial⟩, ⟨by omega, hx2.trans (Ext.drew w2)⟩, by omega⟩
  · skip
    refine SX.exit (xb_here ?_)
    refine SX.seq (SX.reg ?_)   -- region 8
    refine pu rfl pv_as ?_   -- t4 laws.go:739
    refine LW.nil ?_
    refine SX.ret ?_
    exact ⟨rfl, hx2⟩

theorem f66_ok (a b : Value) (l : List Frg) (w : World) (ha : Rd w tLF a l) (hb : Rd w tLF b l) (hs : l.length ≤ 4294967296) : Fn 66 [a, b] w (fun v w' => v = .bool true ∧ Ext w w') := by
  refine Fn.mk1 (N := 67) Yabc.func66 rfl rfl rfl rfl ?_
  refine SX.seq (SX.reg ?_)   -- region 0
  refine pu rfl pv_as ?_   -- t4 laws.go:754
  refine LW.nil ?_
  refine SX.seq ?_
  refine SX.seq (SX.reg ?_)   -- region 1
  refine pu rfl pv_mv ?_   -- t6 laws.go:755
  refine pu rfl (pv_lenV (T := tLF) Yabc.underlying70 ha rfl) ?_   -- t7 laws.go:755
  refine pu rfl pv_mv ?_   -- t8 laws.go:755
  refine pu rfl (pv_lenV (T := tLF) Yabc.underlying70 hb rfl) ?_   -- t9 laws.go:755
  refine pu rfl (pv_neqE rfl rfl) ?_   -- t10 laws.go:755
  refine LW.nil ?_
  refine SX.cond_false rfl ?_   -- t10
  refine SX.skip ?_
  refine SX.seq ?_
  refine SX.seq (SX.reg ?_)   -- region 3
  refine pu rfl pv_as ?_   -- t5 laws.go:758
  refine LW.nil ?_
  refine SX.block ?_
  refine SX.loop (G := Nat) (fun k => [(0, a), (1, b), (5, iv k)]) (fun k w' => k ≤ l.length ∧ Ext w w') (fun k => l.length - k) 0 ⟨rfl, rfl, rfl, trivial⟩ ⟨Nat.zero_le _, Ext.refl w⟩ ?_
  rintro k w2 ρ1 ⟨hk, hx2⟩
  refine SX.seq ?_
  refine SX.seq (SX.reg ?_)   -- region 4
  refine pu rfl pv_mv ?_   -- t11 laws.go:758
  refine pu rfl pv_mv ?_   -- t12 laws.go:758
  refine pu rfl (pv_lenV (T := tLF) Yabc.underlying70 (ha.ext hx2) rfl) ?_   -- t13 laws.go:758
  refine pu rfl (pv_lss rfl rfl) ?_   -- t14 laws.go:758
  refine LW.nil ?_
  refine SX.cond rfl (fun hc => ?_) (fun hc => ?_)   -- t14
  · skip
    have hlt : k < l.length := by simpa using hc
    refine SX.skip ?_
    refine SX.seq ?_
    refine SX.block ?_
    refine SX.seq ?_
    refine SX.draw [(0, true), (1, true), (2, true), (3, true), (4, true), (5, true), (6, true), (7, true), (8, true), (9, true), (10, true), (11, true), (12, true), (13, true), (14, true), (15, true), (16, true), (17, true), (18, true), (19, true), (20, true), (21, true), (22, true), (23, true), (24, true), (25, true), (26, true), (27, true), (28, true), (29, true), (30, true), (31, true), (32, true), (33, true), (34, true), (35, true), (36, true), (37, true), (38, true), (39, true), (40, true), (41, true), (42, true), (43, true), (44, true), (45, true), (46, true), (47, true), (48, true), (49, true)] (fun w' => Ext w w') (by kernel_rfl) (hx2.trans (Ext.drew w2)) ?_   -- region 6
    refine du rfl rfl (fun w' hw' => pv_mv) ?_   -- 0: t17 laws.go:759 
    refine du rfl rfl (fun w' hw' => pv_mv) ?_   -- 1: t18 laws.go:759 
    refine du rfl rfl (fun w' hw' => pv_ix (T := tLF) (k := k) Yabc.underlying70 sz100 okLF (ha.ext hw') rfl rfl (by omega) (by omega)) ?_   -- 2: t19 laws.go:759 
    refine du rfl rfl (fun w' hw' => pv_fa fb100_0 rfl) ?_   -- 3: t20 laws.go:759 
    refine du rfl rfl (fun w' hw' => pv_ld ag3 rfl ((ha.ext hw').cellAt okLF (by omega) rfl)) ?_   -- 4: t21 laws.go:759 
    refine du rfl rfl (fun w' hw' => pv_mv) ?_   -- 5: t22 laws.go:759 
    refine du rfl rfl (fun w' hw' => pv_mv) ?_   -- 6: t23 laws.go:759 
    refine du rfl rfl (fun w' hw' => pv_ix (T := tLF) (k := k) Yabc.underlying70 sz100 okLF (hb.ext hw') rfl rfl (by omega) (by omega)) ?_   -- 7: t24 laws.go:759 
    refine du rfl rfl (fun w' hw' => pv_fa fb100_0 rfl) ?_   -- 8: t25 laws.go:759 
    refine du rfl rfl (fun w' hw' => pv_ld ag3 rfl ((hb.ext hw').cellAt okLF (by omega) rfl)) ?_   -- 9: t26 laws.go:759 
    refine du rfl rfl (fun w' hw' => pv_neqE rfl rfl) ?_   -- 10: t27 laws.go:759 
    refine du rfl rfl (fun w' hw' => pv_mv) ?_   -- 11: t28 laws.go:759 
    refine dgr rfl rfl rfl rfl (fun w' hw' => pv_mv) ?_   -- 12: t29 laws.go:759 [guard (11, False)]
    refine dgr rfl rfl rfl rfl (fun w' hw' => pv_mv) ?_   -- 13: t30 laws.go:759 [guard (11, False)]
    refine dgr rfl rfl rfl rfl (fun w' hw' => pv_ix (T := tLF) (k := k) Yabc.underlying70 sz100 okLF (ha.ext hw') rfl rfl (by omega) (by omega)) ?_   -- 14: t31 laws.go:759 [guard (11, False)]
    refine dgr rfl rfl rfl rfl (fun w' hw' => pv_fa fb100_1 rfl) ?_   -- 15: t32 laws.go:759 [guard (11, False)]
    refine dgr rfl rfl rfl rfl (fun w' hw' => pv_ld ag3 rfl ((ha.ext hw').cellAt okLF (by omega) rfl)) ?_   -- 16: t33 laws.go:759 [guard (11, False)]
    refine dgr rfl rfl rfl rfl (fun w' hw' => pv_mv) ?_   -- 17: t34 laws.go:759 [guard (11, False)]
    refine dgr rfl rfl rfl rfl (fun w' hw' => pv_mv) ?_   -- 18: t35 laws.go:759 [guard (11, False)]
    refine dgr rfl rfl rfl rfl (fun w' hw' => pv_ix (T := tLF) (k := k) Yabc.underlying70 sz100 okLF (hb.ext hw') rfl rfl (by omega) (by omega)) ?_   -- 19: t36 laws.go:759 [guard (11, False)]
    refine dgr rfl rfl rfl rfl (fun w' hw' => pv_fa fb100_1 rfl) ?_   -- 20: t37 laws.go:759 [guard (11, False)]
    refine dgr rfl rfl rfl rfl (fun w' hw' => pv_ld ag3 rfl ((hb.ext hw').cellAt okLF (by omega) rfl)) ?_   -- 21: t38 laws.go:759 [guard (11, False)]
    refine dgr rfl rfl rfl rfl (fun w' hw' => pv_neqE rfl rfl) ?_   -- 22: t39 laws.go:759 [guard (11, False)]
    refine du rfl rfl (fun w' hw' => pv_pkF rfl) ?_   -- 23: t40 laws.go:759 
    refine du rfl rfl (fun w' hw' => pv_mv) ?_   -- 24: t41 laws.go:759 
    refine dgr rfl rfl rfl rfl (fun w' hw' => pv_mv) ?_   -- 25: t42 laws.go:759 [guard (24, False)]
    refine dgr rfl rfl rfl rfl (fun w' hw' => pv_mv) ?_   -- 26: t43 laws.go:759 [guard (24, False)]
    refine dgr rfl rfl rfl rfl (fun w' hw' => pv_ix (T := tLF) (k := k) Yabc.underlying70 sz100 okLF (ha.ext hw') rfl rfl (by omega) (by omega)) ?_   -- 27: t44 laws.go:759 [guard (24, False)]
    refine dgr rfl rfl rfl rfl (fun w' hw' => pv_fa fb100_2 rfl) ?_   -- 28: t45 laws.go:759 [guard (24, False)]
    refine dgr rfl rfl rfl rfl (fun w' hw' => pv_ld ag3 rfl ((ha.ext hw').cellAt okLF (by omega) rfl)) ?_   -- 29: t46 laws.go:759 [guard (24, False)]
    refine dgr rfl rfl rfl rfl (fun w' hw' => pv_mv) ?_   -- 30: t47 laws.go:759 [guard (24, False)]
    refine dgr rfl rfl rfl rfl (fun w' hw' => pv_mv) ?_   -- 31: t48 laws.go:759 [guard (24, False)]
    refine dgr rfl rfl rfl rfl (fun w' hw' => pv_ix (T := tLF) (k := k) Yabc.underlying70 sz100 okLF (hb.ext hw') rfl rfl (by omega) (by omega)) ?_   -- 32: t49 laws.go:759 [guard (24, False)]
    refine dgr rfl rfl rfl rfl (fun w' hw' => pv_fa fb100_2 rfl) ?_   -- 33: t50 laws.go:759 [guard (24, False)]
    refine dgr rfl rfl rfl rfl (fun w' hw' => pv_ld ag3 rfl ((hb.ext hw').cellAt okLF (by omega) rfl)) ?_   -- 34: t51 laws.go:759 [guard (24, False)]
    refine dgr rfl rfl rfl rfl (fun w' hw' => pv_neqE rfl rfl) ?_   -- 35: t52 laws.go:759 [guard (24, False)]
    refine du rfl rfl (fun w' hw' => pv_pkF rfl) ?_   -- 36: t53 laws.go:759 
    refine du rfl rfl (fun w' hw' => pv_mv) ?_   -- 37: t54 laws.go:759 
    refine dgr rfl rfl rfl rfl (fun w' hw' => pv_mv) ?_   -- 38: t55 laws.go:759 [guard (37, False)]
    refine dgr rfl rfl rfl rfl (fun w' hw' => pv_mv) ?_   -- 39: t56 laws.go:759 [guard (37, False)]
    refine dgr rfl rfl rfl rfl (fun w' hw' => pv_ix (T := tLF) (k := k) Yabc.underlying70 sz100 okLF (ha.ext hw') rfl rfl (by omega) (by omega)) ?_   -- 40: t57 laws.go:759 [guard (37, False)]
    refine dgr rfl rfl rfl rfl (fun w' hw' => pv_fa fb100_3 rfl) ?_   -- 41: t58 laws.go:759 [guard (37, False)]
    refine dgr rfl rfl rfl rfl (fun w' hw' => pv_ld ag9 rfl ((ha.ext hw').cellAt okLF (by omega) rfl)) ?_   -- 42: t59 laws.go:759 [guard (37, False)]
    refine dgr rfl rfl rfl rfl (fun w' hw' => pv_mv) ?_   -- 43: t60 laws.go:759 [guard (37, False)]
    refine dgr rfl rfl rfl rfl (fun w' hw' => pv_mv) ?_   -- 44: t61 laws.go:759 [guard (37, False)]
    refine dgr rfl rfl rfl rfl (fun w' hw' => pv_ix (T := tLF) (k := k) Yabc.underlying70 sz100 okLF (hb.ext hw') rfl rfl (by omega) (by omega)) ?_   -- 45: t62 laws.go:759 [guard (37, False)]
    refine dgr rfl rfl rfl rfl (fun w' hw' => pv_fa fb100_3 rfl) ?_   -- 46: t63 laws.go:759 [guard (37, False)]
    refine dgr rfl rfl rfl rfl (fun w' hw' => pv_ld ag9 rfl ((hb.ext hw').cellAt okLF (by omega) rfl)) ?_   -- 47: t64 laws.go:759 [guard (37, False)]
    refine dgr rfl rfl rfl rfl (fun w' hw' => pv_neqSE rfl rfl) ?_   -- 48: t65 laws.go:759 [guard (37, False)]
    refine du rfl rfl (fun w' hw' => pv_pkF rfl) ?_   -- 49: t66 laws.go:759 
    refine DW.nil ?_
    refine SX.cond_false rfl ?_   -- t66
    refine SX.skip ?_
    refine SX.reg ?_
    refine pu rfl pv_mv ?_   -- t15 laws.go:758
    refine pu rfl (pv_add rfl rfl (by omega)) ?_   -- t16 laws.go:758
    refine pu rfl pv_as ?_   -- t5 laws.go:758
    refine LW.nil ?_
    exact ⟨k + 1, ⟨rfl, rfl, rfl, trivial⟩, ⟨by omega, hx2.trans (Ext.drew w2)⟩, by omega⟩
  · skip
    refine SX.exit (xb_here ?_)
    refine SX.seq (SX.reg ?_)   -- region 8
    refine pu rfl pv_as ?_   -- t4 laws.go:763
    refine LW.nil ?_
    refine SX.ret ?_
    exact ⟨rfl, hx2⟩

theorem f63_ok (v : Value) (l : List Tri) (B : Nat) (w : World) (ho : OwnR w B tI v l) (hs : l.length ≤ 4294967296) : Fn 63 [v] w (fun _ w' => w.grownBy w' v.ownBlock) := by
  refine Fn.mk0 (N := 13) Yabc.func63 rfl rfl rfl rfl ?_
  refine SX.seq (SX.reg ?_)   -- region 0
  refine pu rfl pv_as ?_   -- t2(i) laws.go:785
  refine LW.nil ?_
  refine SX.block ?_
  refine SX.loop (G := Nat) (fun k => [(0, v), (2, iv k)]) (fun k w' => k ≤ l.length ∧ w.grownBy w' v.ownBlock ∧ ∃ l', l'.length = l.length ∧ OwnR w' B tI v l') (fun k => l.length - k) 0 ⟨rfl, rfl, trivial⟩ ⟨Nat.zero_le _, grow_refl _ _, l, rfl, ho⟩ ?_
  rintro k w2 ρ1 ⟨hk, hg2, l', hl', ho2⟩
  refine SX.seq ?_
  refine SX.seq (SX.reg ?_)   -- region 1
  refine pu rfl pv_mv ?_   -- t3 laws.go:785
  refine pu rfl pv_mv ?_   -- t4 laws.go:785
  refine pu rfl (pv_lenV (T := tI) Yabc.underlying23 ho2.rd rfl) ?_   -- t5 laws.go:785
  refine pu rfl (pv_lss rfl rfl) ?_   -- t6 laws.go:785
  refine LW.nil ?_
  refine SX.cond rfl (fun hc => ?_) (fun hc => ?_)   -- t6
  · skip
    have hlt : k < l.length := by simp at hc; omega
    refine SX.skip ?_
    refine SX.seq ?_
    refine SX.block ?_
    refine SX.reg ?_
    refine pu rfl pv_mv ?_   -- t9 laws.go:786
    refine pu rfl pv_mv ?_   -- t10 laws.go:786
    refine pu rfl (pv_bd rfl (bd67 _ _ _)) ?_   -- t11 laws.go:786
    refine pu rfl (pv_ix (T := tI) (k := k) Yabc.underlying23 sz67 okI ho2.rd rfl rfl (by omega) (by omega)) ?_   -- t12 laws.go:786
    refine evn (ev_stE (T := tI) ⟨-99, 99, [0, 115, 99, 114, 105, 98, 98, 108, 101, 100]⟩ okI ho2 (by omega) sz67 rfl rfl fun w3 ho3 hg3 hz3 hb3 => ?_)   --  laws.go:786
    refine LW.nil ?_
    refine SX.reg ?_
    refine pu rfl pv_mv ?_   -- t7 laws.go:785
    refine pu rfl (pv_add rfl rfl (by omega)) ?_   -- t8 laws.go:785
    refine pu rfl pv_as ?_   -- t2(i) laws.go:785
    refine LW.nil ?_
    exact ⟨k + 1, ⟨rfl, rfl, trivial⟩, ⟨by omega, grow_trans hg2 hg3, _, by simpa using hl', ho3⟩, by omega⟩
  · skip
    refine SX.exit (xb_here ?_)
    exact hg2

theorem f60_ok (v : Value) (l : List Tri) (B : Nat) (w : World) (ho : OwnR w B tK v l) (hs : l.length ≤ 4294967296) : Fn 60 [v] w (fun _ w' => w.grownBy w' v.ownBlock) := by
  refine Fn.mk0 (N := 13) Yabc.func60 rfl rfl rfl rfl ?_
  refine SX.seq (SX.reg ?_)   -- region 0
  refine pu rfl pv_as ?_   -- t2(i) laws.go:797
  refine LW.nil ?_
  refine SX.block ?_
  refine SX.loop (G := Nat) (fun k => [(0, v), (2, iv k)]) (fun k w' => k ≤ l.length ∧ w.grownBy w' v.ownBlock ∧ ∃ l', l'.length = l.length ∧ OwnR w' B tK v l') (fun k => l.length - k) 0 ⟨rfl, rfl, trivial⟩ ⟨Nat.zero_le _, grow_refl _ _, l, rfl, ho⟩ ?_
  rintro k w2 ρ1 ⟨hk, hg2, l', hl', ho2⟩
  refine SX.seq ?_
  refine SX.seq (SX.reg ?_)   -- region 1
  refine pu rfl pv_mv ?_   -- t3 laws.go:797
  refine pu rfl pv_mv ?_   -- t4 laws.go:797
  refine pu rfl (pv_lenV (T := tK) Yabc.underlying27 ho2.rd rfl) ?_   -- t5 laws.go:797
  refine pu rfl (pv_lss rfl rfl) ?_   -- t6 laws.go:797
  refine LW.nil ?_
  refine SX.cond rfl (fun hc => ?_) (fun hc => ?_)   -- t6
  · skip
    have hlt : k < l.length := by simp at hc; omega
    refine SX.skip ?_
    refine SX.seq ?_
    refine SX.block ?_
    refine SX.reg ?_
    refine pu rfl pv_mv ?_   -- t9 laws.go:798
    refine pu rfl pv_mv ?_   -- t10 laws.go:798
    refine pu rfl (pv_bd rfl (bd30 _ _ _)) ?_   -- t11 laws.go:798
    refine pu rfl (pv_ix (T := tK) (k := k) Yabc.underlying27 sz30 okK ho2.rd rfl rfl (by omega) (by omega)) ?_   -- t12 laws.go:798
    refine evn (ev_stE (T := tK) ⟨-99, 99, [0, 115, 99, 114, 105, 98, 98, 108, 101, 100]⟩ okK ho2 (by omega) sz30 rfl rfl fun w3 ho3 hg3 hz3 hb3 => ?_)   --  laws.go:798
    refine LW.nil ?_
    refine SX.reg ?_
    refine pu rfl pv_mv ?_   -- t7 laws.go:797
    refine pu rfl (pv_add rfl rfl (by omega)) ?_   -- t8 laws.go:797
    refine pu rfl pv_as ?_   -- t2(i) laws.go:797
    refine LW.nil ?_
    exact ⟨k + 1, ⟨rfl, rfl, trivial⟩, ⟨by omega, grow_trans hg2 hg3, _, by simpa using hl', ho3⟩, by omega⟩
  · skip
    refine SX.exit (xb_here ?_)
    exact hg2

theorem f67_ok (v : Value) (l : List Frg) (B : Nat) (w : World) (ho : OwnR w B tF v l) (hs : l.length ≤ 4294967296) : Fn 67 [v] w (fun _ w' => w.grownBy w' v.ownBlock) := by
  refine Fn.mk0 (N := 13) Yabc.func67 rfl rfl rfl rfl ?_
  refine SX.seq (SX.reg ?_)   -- region 0
  refine pu rfl pv_as ?_   -- t2(i) laws.go:791
  refine LW.nil ?_
  refine SX.block ?_
  refine SX.loop (G := Nat) (fun k => [(0, v), (2, iv k)]) (fun k w' => k ≤ l.length ∧ w.grownBy w' v.ownBlock ∧ ∃ l', l'.length = l.length ∧ OwnR w' B tF v l') (fun k => l.length - k) 0 ⟨rfl, rfl, trivial⟩ ⟨Nat.zero_le _, grow_refl _ _, l, rfl, ho⟩ ?_
  rintro k w2 ρ1 ⟨hk, hg2, l', hl', ho2⟩
  refine SX.seq ?_
  refine SX.seq (SX.reg ?_)   -- region 1
  refine pu rfl pv_mv ?_   -- t3 laws.go:791
  refine pu rfl pv_mv ?_   -- t4 laws.go:791
  refine pu rfl (pv_lenV (T := tF) Yabc.underlying25 ho2.rd rfl) ?_   -- t5 laws.go:791
  refine pu rfl (pv_lss rfl rfl) ?_   -- t6 laws.go:791
  refine LW.nil ?_
  refine SX.cond rfl (fun hc => ?_) (fun hc => ?_)   -- t6
  · skip
    have hlt : k < l.length := by simp at hc; omega
    refine SX.skip ?_
    refine SX.seq ?_
    refine SX.block ?_
    refine SX.reg ?_
    refine pu rfl pv_mv ?_   -- t9 laws.go:792
    refine pu rfl pv_mv ?_   -- t10 laws.go:792
    refine pu rfl (pv_bd rfl (bd76 _ _ _ _)) ?_   -- t11 laws.go:792
    refine pu rfl (pv_ix (T := tF) (k := k) Yabc.underlying25 sz76 okF ho2.rd rfl rfl (by omega) (by omega)) ?_   -- t12 laws.go:792
    refine evn (ev_stE (T := tF) ⟨77, -99, 99, [0, 115, 99, 114, 105, 98, 98, 108, 101, 100]⟩ okF ho2 (by omega) sz76 rfl rfl fun w3 ho3 hg3 hz3 hb3 => ?_)   --  laws.go:792
    refine LW.nil ?_
    refine SX.reg ?_
    refine pu rfl pv_mv ?_   -- t7 laws.go:791
    refine pu rfl (pv_add rfl rfl (by omega)) ?_   -- t8 laws.go:791
    refine pu rfl pv_as ?_   -- t2(i) laws.go:791
    refine LW.nil ?_
    exact ⟨k + 1, ⟨rfl, rfl, trivial⟩, ⟨by omega, grow_trans hg2 hg3, _, by simpa using hl', ho3⟩, by omega⟩
  · skip
    refine SX.exit (xb_here ?_)
    exact hg2

end Go.Proofs.Ybuabw
