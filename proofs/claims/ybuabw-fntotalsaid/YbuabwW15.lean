/-
  WALKS. All blocks shown. Own work for the seat Ybuabw (the steps of each walk were typed by a program of ours off the printed code).
-/
import Derived.Test.YbuabwW14
import Derived.Test.YbuabwMem9
namespace Go.Proofs.Ybuabw
open Go.RowKit
set_option linter.unusedVariables false
set_option linter.unusedSimpArgs false
set_option maxRecDepth 20000

theorem f47_ok (v0 : Value) (l : List Tri) (z : Int) (w : World) (hz : z ≤ 9223372036854775807) (hr : Rd w tK v0 l) (hs : l.length ≤ 1048576) (hb : ∀ p ∈ l, p.s.length ≤ 1048576) : Fn 47 [v0, iv z] w (fun v' w' => v' = S (renderAll l z) ∧ Ext w w') := by
  refine Fn.mk1 (N := 44) Yabc.func47 rfl rfl rfl rfl ?_
  refine SX.seq (SX.reg ?_)   -- region 0
  refine pu rfl pv_as ?_   -- t4 impl.go:592
  refine LW.nil ?_
  refine SX.seq (SX.reg ?_)   -- region 1
  refine pu rfl pv_as ?_   -- t5(out) impl.go:593
  refine LW.nil ?_
  refine SX.seq (SX.reg ?_)   -- region 2
  refine pu rfl pv_as ?_   -- t6(seen) impl.go:594
  refine LW.nil ?_
  refine SX.seq ?_
  refine SX.seq (SX.reg ?_)   -- region 3
  refine pu rfl pv_mv ?_   -- t12 impl.go:595
  refine pu rfl (pv_lenV (T := tK) Yabc.underlying27 hr rfl) ?_   -- t13 impl.go:595
  refine pu rfl pv_mv ?_   -- t14 impl.go:595
  refine LW.nil ?_
  refine SX.block ?_
  refine SX.loop2 (fun (k : Nat) vo => [(1, iv z), (5, vo), (6, .bool (decide (0 < (raN l z k).2))), (12, v0), (13, iv l.length), (14, iv k)]) (fun k vo w' => k ≤ l.length ∧ Ext w w' ∧ Own w' w.heap.size tB vo (raN l z k).1) (fun k _ => l.length - k) 0 (.slice none 0 0) ⟨rfl, rfl, rfl, rfl, rfl, rfl, trivial⟩ ⟨Nat.zero_le _, Ext.refl w, Own.nil _ _ _⟩ ?_
  rintro k vo w2 ρ1 ⟨hk, hx, hown⟩
  have hrl := raN_len l z hb k hk
  refine SX.seq (SX.reg ?_)   -- region 4
  refine pu rfl (pv_lss rfl rfl) ?_   -- t15 impl.go:595
  refine LW.nil ?_
  refine SX.seq ?_
  refine SX.cond rfl (fun hc => ?_) (fun hc => ?_)   -- t15
  · skip
    have hlt : k < l.length := by simpa using hc
    have hsk := hb _ (List.getElem_mem hlt)
    refine SX.skip ?_
    refine SX.seq ?_
    refine SX.block ?_
    refine SX.seq (SX.reg ?_)   -- region 5
    refine pu rfl (pv_ix (T := tK) (k := k) Yabc.underlying27 sz30 okK (hr.ext hx) rfl rfl (by omega) (by omega)) ?_   -- t16 impl.go:595
    refine pu rfl (pv_ldE ag30 okK sz30 (hr.ext hx) (by omega) rfl) ?_   -- t17 impl.go:595
    refine evd rfl (ev_al3 if30 fun w3 hn3 => ?_)   -- t8(b) impl.go:595
    refine evn (ev_stB hn3.blk rfl rfl sz30 rfl (encT_one _) fun w4 hb4 hg4 hz4 => ?_)   --  impl.go:595
    have hB : Bx w w4 tB vo (raN l z k).1 w2.heap.size 30 (encT (l[k]'hlt)) := Bx.make hx hown hn3 hb4 hg4
    refine LW.nil ?_
    refine SX.seq (SX.reg ?_)   -- region 6
    refine pu rfl (pv_ldB ag30 hB.blk sz30 rfl) ?_   -- t18 impl.go:596
    refine pu rfl pv_mv ?_   -- t19 impl.go:596
    refine evd rfl (ev_call cb44 rfl (f44_ok (l[k]'hlt) z w4 hz (by omega)) ?_)   -- t20 impl.go:596
    rintro vg w5 ⟨hog, hx5⟩
    have hO : Og w w5 vo (raN l z k).1 w4.heap.size vg (renderBlock (l[k]'hlt) z) := Og.call hB.ext hB.own hx5 hog
    have hgl := grpN_len (renderBlock (l[k]'hlt) z)
    have hbb := renderBlock_bd (l[k]'hlt) z
    refine pu rfl pv_as ?_   -- t9(g) impl.go:596
    refine LW.nil ?_
    refine SX.seq ?_
    refine SX.seq (SX.reg ?_)   -- region 7
    refine pu rfl pv_mv ?_   -- t21 impl.go:597
    refine pu rfl (pv_lenV (T := tS) Yabc.underlying32 hO.rg.rd rfl) ?_   -- t22 impl.go:597
    refine pu rfl (pv_eql rfl rfl) ?_   -- t23 impl.go:597
    refine LW.nil ?_
    refine SX.cond rfl (fun hc => ?_) (fun hc => ?_)   -- t23
    · skip
      have hg0 : (renderBlock (l[k]'hlt) z) = [] := by simpa using hc
      have hst : raN l z (k + 1) = (raN l z k) := by rw [raN_step l z k hlt, raStep, if_pos hg0]
      refine SX.exit (xb_here ?_)
      refine SX.reg ?_
      refine pu rfl (pv_add rfl rfl (by omega)) ?_   -- t41 impl.go:595
      refine pu rfl pv_mv ?_   -- t14 impl.go:595
      refine LW.nil ?_
      exact ⟨k + 1, vo, ⟨rfl, rfl, by rw [hst]; rfl, rfl, rfl, rfl, trivial⟩, ⟨by omega, hO.ext, by rw [hst]; exact hO.own⟩, by omega⟩
    · skip
      have hg0 : ¬ (renderBlock (l[k]'hlt) z) = [] := by simpa using hc
      have hst : raN l z (k + 1) = ((raN l z k).1 ++ sepN (raN l z k).2 ++ grpN (renderBlock (l[k]'hlt) z) (renderBlock (l[k]'hlt) z).length, (raN l z k).2 + 1) := by rw [raN_step l z k hlt, raStep, if_neg hg0]
      refine SX.skip ?_
      refine SX.mid (G := Value) (fun vo => [(1, iv z), (5, vo), (6, .bool (decide (0 < (raN l z k).2))), (12, v0), (13, iv l.length), (14, iv k), (9, vg)]) (fun vo w' => Og w w' vo ((raN l z k).1 ++ sepN (raN l z k).2) w4.heap.size vg (renderBlock (l[k]'hlt) z)) ?_ ?_
      · skip
        refine SX.seq (SX.reg ?_)   -- region 8
        refine pu rfl pv_mv ?_   -- t24 impl.go:600
        refine LW.nil ?_
        refine SX.cond rfl (fun hc => ?_) (fun hc => ?_)   -- t24
        · skip
          have hsn : 0 < (raN l z k).2 := by simp at hc; omega
          refine SX.reg ?_
          refine pu rfl pv_mv ?_   -- t25 impl.go:601
          refine push (T := tB) 10 sl83 okB (by decide) hO.own hO.ext.size rfl (fun _ => rfl) rfl rfl (by omega) (by unfold maxLen; omega) fun J1 v6 w6 ho6 hg6 => ?_   -- t26 impl.go:601
          refine pu rfl pv_as ?_   -- t5(out) impl.go:601
          refine LW.nil ?_
          exact ⟨v6, ⟨rfl, rfl, rfl, rfl, rfl, rfl, rfl, trivial⟩, by rw [sepN, if_pos hsn]; exact hO.push hg6 ho6⟩
        · skip
          have hsn : ¬ 0 < (raN l z k).2 := by simp at hc; omega
          refine SX.skip ?_
          exact ⟨vo, ⟨rfl, rfl, rfl, rfl, rfl, rfl, rfl, trivial⟩, by rw [sepN, if_neg hsn, List.append_nil]; exact hO⟩
      rintro vo1 w6 ρ6 hO6
      refine SX.seq (SX.reg ?_)   -- region 10
      refine pu rfl pv_as ?_   -- t6(seen) impl.go:603
      refine LW.nil ?_
      refine SX.seq (SX.reg ?_)   -- region 11
      refine pu rfl pv_mv ?_   -- t28 impl.go:604
      refine pu rfl (pv_lenV (T := tS) Yabc.underlying32 hO6.rg.rd rfl) ?_   -- t29 impl.go:604
      refine pu rfl pv_mv ?_   -- t30 impl.go:604
      refine LW.nil ?_
      refine SX.block ?_
      refine SX.loop2 (fun (j : Nat) vo => [(1, iv z), (5, vo), (6, .bool true), (12, v0), (13, iv l.length), (14, iv k), (28, vg), (29, iv (renderBlock (l[k]'hlt) z).length), (30, iv j)]) (fun j vo w' => j ≤ (renderBlock (l[k]'hlt) z).length ∧ Og w w' vo ((raN l z k).1 ++ sepN (raN l z k).2 ++ grpN (renderBlock (l[k]'hlt) z) j) w4.heap.size vg (renderBlock (l[k]'hlt) z)) (fun j _ => (renderBlock (l[k]'hlt) z).length - j) 0 vo1 ⟨rfl, rfl, rfl, rfl, rfl, rfl, rfl, rfl, rfl, trivial⟩ ⟨Nat.zero_le _, by simpa [grpN] using hO6⟩ ?_
      rintro j vo2 w7 ρ7 ⟨hj, hO7⟩
      have hgj := hgl j hj
      have htk := ttl_le (renderBlock (l[k]'hlt) z) j
      have hlen7 : ((raN l z k).1 ++ sepN (raN l z k).2 ++ grpN (renderBlock (l[k]'hlt) z) j).length ≤ (raN l z k).1.length + 1 + (grpN (renderBlock (l[k]'hlt) z) j).length := by have := sepN_len (raN l z k).2; simp only [List.length_append]; omega
      refine SX.seq (SX.reg ?_)   -- region 12
      refine pu rfl (pv_lss rfl rfl) ?_   -- t31 impl.go:604
      refine LW.nil ?_
      refine SX.seq ?_
      refine SX.cond rfl (fun hc => ?_) (fun hc => ?_)   -- t31
      · skip
        have hjg : j < (renderBlock (l[k]'hlt) z).length := by simpa using hc
        have hts := ttl_take (renderBlock (l[k]'hlt) z) j hjg
        have htk1 := ttl_le (renderBlock (l[k]'hlt) z) (j + 1)
        refine SX.skip ?_
        refine SX.seq ?_
        refine SX.block ?_
        refine SX.seq (SX.reg ?_)   -- region 13
        refine pu rfl (pv_ix (T := tS) (k := j) Yabc.underlying32 sz9 okS hO7.rg.rd rfl rfl (by omega) (by omega)) ?_   -- t32 impl.go:604
        refine pu rfl (pv_ld ag9 rfl (hO7.rg.rd.cell0 okS (by omega) rfl)) ?_   -- t33 impl.go:604
        refine pu rfl pv_as ?_   -- t11(l) impl.go:604
        refine LW.nil ?_
        refine SX.seq (SX.reg ?_)   -- region 14
        refine pu rfl pv_mv ?_   -- t34 impl.go:605
        refine pu rfl pv_mv ?_   -- t35 impl.go:605
        refine evd rfl (ev_appS (c := ((renderBlock (l[k]'hlt) z)[j]'hjg)) hO7.own hO7.ext.size rfl rfl (by omega) fun v8 w8 ho8 hg8 => ?_)   -- t36 impl.go:605
        have hO8 := hO7.push hg8 ho8
        have hlen8 : ((raN l z k).1 ++ sepN (raN l z k).2 ++ grpN (renderBlock (l[k]'hlt) z) j ++ ((renderBlock (l[k]'hlt) z)[j]'hjg)).length ≤ (raN l z k).1.length + 1 + (grpN (renderBlock (l[k]'hlt) z) j).length + ((renderBlock (l[k]'hlt) z)[j]'hjg).length := by simp only [List.length_append] at hlen7 ⊢; omega
        refine pu rfl pv_as ?_   -- t5(out) impl.go:605
        refine LW.nil ?_
        refine SX.reg ?_
        refine pu rfl pv_mv ?_   -- t37 impl.go:606
        refine push (T := tB) 10 sl83 okB (by decide) hO8.own hO8.ext.size rfl (fun _ => rfl) rfl rfl (by omega) (by unfold maxLen; omega) fun J1 v9 w9 ho9 hg9 => ?_   -- t38 impl.go:606
        refine pu rfl pv_as ?_   -- t5(out) impl.go:606
        refine LW.nil ?_
        refine SX.reg ?_
        refine pu rfl (pv_add rfl rfl (by omega)) ?_   -- t40 impl.go:604
        refine pu rfl pv_mv ?_   -- t30 impl.go:604
        refine LW.nil ?_
        exact ⟨j + 1, v9, ⟨rfl, rfl, rfl, rfl, rfl, rfl, rfl, rfl, rfl, trivial⟩, ⟨by omega, by rw [grpN, getD_lt _ _ _ hjg, ← List.append_assoc, ← List.append_assoc]; exact hO8.push hg9 ho9⟩, by omega⟩
      · skip
        have hge : j = (renderBlock (l[k]'hlt) z).length := by simp at hc; omega
        refine SX.exit (xb_here ?_)
        refine SX.reg ?_
        refine pu rfl (pv_add rfl rfl (by omega)) ?_   -- t41 impl.go:595
        refine pu rfl pv_mv ?_   -- t14 impl.go:595
        refine LW.nil ?_
        exact ⟨k + 1, vo2, ⟨rfl, rfl, congrArg Value.bool (show true = decide (0 < (raN l z (k + 1)).2) by rw [hst]; simp), rfl, rfl, rfl, trivial⟩, ⟨by omega, hO7.ext, by rw [hst]; have h9 := hO7.own; rw [hge] at h9; exact h9⟩, by omega⟩
  · skip
    have hge : k = l.length := by simp at hc; omega
    subst hge
    refine SX.exit (xb_here ?_)
    refine SX.seq (SX.reg ?_)   -- region 18
    refine pu rfl pv_mv ?_   -- t42 impl.go:609
    refine pu rfl (pv_str hown.rd rfl) ?_   -- t43 impl.go:609
    refine pu rfl pv_as ?_   -- t4 impl.go:609
    refine LW.nil ?_
    refine SX.ret ?_
    exact ⟨rfl, hx⟩

theorem f49_ok (v0 : Value) (l : List Tri) (z : Int) (w : World) (hz : z ≤ 9223372036854775807) (hr : Rd w tK v0 l) (hs : l.length ≤ 1048576) (hb : ∀ p ∈ l, p.s.length ≤ 1048576) : Fn 49 [v0, iv z] w (fun v' w' => v' = S (renderAll l z) ∧ Ext w w') := by
  refine Fn.mk1 (N := 49) Yabc.func49 rfl rfl rfl rfl ?_
  refine SX.seq (SX.reg ?_)   -- region 0
  refine pu rfl pv_as ?_   -- t4 spec.go:1071
  refine LW.nil ?_
  refine SX.seq (SX.reg ?_)   -- region 1
  refine pu rfl pv_as ?_   -- t5(out) spec.go:1072
  refine LW.nil ?_
  refine SX.seq (SX.reg ?_)   -- region 2
  refine pu rfl pv_as ?_   -- t6(groups) spec.go:1073
  refine LW.nil ?_
  refine SX.seq ?_
  refine SX.seq (SX.reg ?_)   -- region 3
  refine pu rfl pv_as ?_   -- t7(i) spec.go:1074
  refine LW.nil ?_
  refine SX.block ?_
  refine SX.loop2 (fun (k : Nat) vo => [(0, v0), (1, iv z), (5, vo), (6, iv ((raN l z k).2 : Nat)), (7, iv k)]) (fun k vo w' => k ≤ l.length ∧ Ext w w' ∧ Own w' w.heap.size tB vo (raN l z k).1) (fun k _ => l.length - k) 0 (.slice none 0 0) ⟨rfl, rfl, rfl, rfl, rfl, trivial⟩ ⟨Nat.zero_le _, Ext.refl w, Own.nil _ _ _⟩ ?_
  rintro k vo w4 ρ1 ⟨hk, hx, hown⟩
  have hrl := raN_len l z hb k hk
  refine SX.seq ?_
  refine SX.seq (SX.reg ?_)   -- region 4
  refine pu rfl pv_mv ?_   -- t10 spec.go:1074
  refine pu rfl pv_mv ?_   -- t11 spec.go:1074
  refine pu rfl (pv_lenV (T := tK) Yabc.underlying27 (hr.ext hx) rfl) ?_   -- t12 spec.go:1074
  refine pu rfl (pv_lss rfl rfl) ?_   -- t13 spec.go:1074
  refine LW.nil ?_
  refine SX.cond rfl (fun hc => ?_) (fun hc => ?_)   -- t13
  · skip
    have hlt : k < l.length := by simpa using hc
    have hsk := hb _ (List.getElem_mem hlt)
    refine SX.skip ?_
    refine SX.seq ?_
    refine SX.block ?_
    refine SX.seq (SX.reg ?_)   -- region 6
    refine pu rfl pv_mv ?_   -- t16 spec.go:1075
    refine pu rfl pv_mv ?_   -- t17 spec.go:1075
    refine pu rfl (pv_ix (T := tK) (k := k) Yabc.underlying27 sz30 okK (hr.ext hx) rfl rfl (by omega) (by omega)) ?_   -- t18 spec.go:1075
    refine pu rfl (pv_ldE ag30 okK sz30 (hr.ext hx) (by omega) rfl) ?_   -- t19 spec.go:1075
    refine pu rfl pv_mv ?_   -- t20 spec.go:1075
    refine evd rfl (ev_call cb45 rfl (f45_ok (l[k]'hlt) z w4 hz (by omega)) ?_)   -- t21 spec.go:1075
    rintro vg w5 ⟨hog, hx5⟩
    have hO : Og w w5 vo (raN l z k).1 w4.heap.size vg (renderBlock (l[k]'hlt) z) := Og.call hx hown hx5 hog
    have hgl := grpN_len (renderBlock (l[k]'hlt) z)
    have hbb := renderBlock_bd (l[k]'hlt) z
    refine pu rfl pv_as ?_   -- t8(g) spec.go:1075
    refine LW.nil ?_
    refine SX.seq ?_
    refine SX.seq (SX.reg ?_)   -- region 7
    refine pu rfl pv_mv ?_   -- t22 spec.go:1076
    refine pu rfl (pv_lenV (T := tS) Yabc.underlying32 hO.rg.rd rfl) ?_   -- t23 spec.go:1076
    refine pu rfl (pv_eql rfl rfl) ?_   -- t24 spec.go:1076
    refine LW.nil ?_
    refine SX.cond rfl (fun hc => ?_) (fun hc => ?_)   -- t24
    · skip
      have hg0 : (renderBlock (l[k]'hlt) z) = [] := by simpa using hc
      have hst : raN l z (k + 1) = (raN l z k) := by rw [raN_step l z k hlt, raStep, if_pos hg0]
      refine SX.exit (xb_here ?_)
      refine SX.reg ?_
      refine pu rfl pv_mv ?_   -- t14 spec.go:1074
      refine pu rfl (pv_add rfl rfl (by omega)) ?_   -- t15 spec.go:1074
      refine pu rfl pv_as ?_   -- t7(i) spec.go:1074
      refine LW.nil ?_
      exact ⟨k + 1, vo, ⟨rfl, rfl, rfl, by rw [hst]; rfl, rfl, trivial⟩, ⟨by omega, hO.ext, by rw [hst]; exact hO.own⟩, by omega⟩
    · skip
      have hg0 : ¬ (renderBlock (l[k]'hlt) z) = [] := by simpa using hc
      have hst : raN l z (k + 1) = ((raN l z k).1 ++ sepN (raN l z k).2 ++ grpN (renderBlock (l[k]'hlt) z) (renderBlock (l[k]'hlt) z).length, (raN l z k).2 + 1) := by rw [raN_step l z k hlt, raStep, if_neg hg0]
      refine SX.skip ?_
      refine SX.mid (G := Value) (fun vo => [(0, v0), (1, iv z), (5, vo), (6, iv ((raN l z k).2 : Nat)), (7, iv k), (8, vg)]) (fun vo w' => Og w w' vo ((raN l z k).1 ++ sepN (raN l z k).2) w4.heap.size vg (renderBlock (l[k]'hlt) z)) ?_ ?_
      · skip
        refine SX.seq (SX.reg ?_)   -- region 8
        refine pu rfl pv_mv ?_   -- t25 spec.go:1079
        refine pu rfl (pv_gtr rfl rfl) ?_   -- t26 spec.go:1079
        refine LW.nil ?_
        refine SX.cond rfl (fun hc => ?_) (fun hc => ?_)   -- t26
        · skip
          have hsn : 0 < (raN l z k).2 := by simp at hc; omega
          refine SX.reg ?_
          refine pu rfl pv_mv ?_   -- t27 spec.go:1080
          refine push (T := tB) 10 sl83 okB (by decide) hO.own hO.ext.size rfl (fun _ => rfl) rfl rfl (by omega) (by unfold maxLen; omega) fun J1 v6 w6 ho6 hg6 => ?_   -- t28 spec.go:1080
          refine pu rfl pv_as ?_   -- t5(out) spec.go:1080
          refine LW.nil ?_
          exact ⟨v6, ⟨rfl, rfl, rfl, rfl, rfl, rfl, trivial⟩, by rw [sepN, if_pos hsn]; exact hO.push hg6 ho6⟩
        · skip
          have hsn : ¬ 0 < (raN l z k).2 := by simp at hc; omega
          refine SX.skip ?_
          exact ⟨vo, ⟨rfl, rfl, rfl, rfl, rfl, rfl, trivial⟩, by rw [sepN, if_neg hsn, List.append_nil]; exact hO⟩
      rintro vo1 w6 ρ6 hO6
      refine SX.seq ?_
      refine SX.seq (SX.reg ?_)   -- region 10
      refine pu rfl pv_as ?_   -- t9(k) spec.go:1082
      refine LW.nil ?_
      refine SX.block ?_
      refine SX.loop2 (fun (j : Nat) vo => [(0, v0), (1, iv z), (5, vo), (6, iv ((raN l z k).2 : Nat)), (7, iv k), (8, vg), (9, iv j)]) (fun j vo w' => j ≤ (renderBlock (l[k]'hlt) z).length ∧ Og w w' vo ((raN l z k).1 ++ sepN (raN l z k).2 ++ grpN (renderBlock (l[k]'hlt) z) j) w4.heap.size vg (renderBlock (l[k]'hlt) z)) (fun j _ => (renderBlock (l[k]'hlt) z).length - j) 0 vo1 ⟨rfl, rfl, rfl, rfl, rfl, rfl, rfl, trivial⟩ ⟨Nat.zero_le _, by simpa [grpN] using hO6⟩ ?_
      rintro j vo2 w7 ρ7 ⟨hj, hO7⟩
      have hgj := hgl j hj
      have htk := ttl_le (renderBlock (l[k]'hlt) z) j
      have hlen7 : ((raN l z k).1 ++ sepN (raN l z k).2 ++ grpN (renderBlock (l[k]'hlt) z) j).length ≤ (raN l z k).1.length + 1 + (grpN (renderBlock (l[k]'hlt) z) j).length := by have := sepN_len (raN l z k).2; simp only [List.length_append]; omega
      refine SX.seq ?_
      refine SX.seq (SX.reg ?_)   -- region 11
      refine pu rfl pv_mv ?_   -- t30 spec.go:1082
      refine pu rfl pv_mv ?_   -- t31 spec.go:1082
      refine pu rfl (pv_lenV (T := tS) Yabc.underlying32 hO7.rg.rd rfl) ?_   -- t32 spec.go:1082
      refine pu rfl (pv_lss rfl rfl) ?_   -- t33 spec.go:1082
      refine LW.nil ?_
      refine SX.cond rfl (fun hc => ?_) (fun hc => ?_)   -- t33
      · skip
        have hjg : j < (renderBlock (l[k]'hlt) z).length := by simpa using hc
        have hts := ttl_take (renderBlock (l[k]'hlt) z) j hjg
        have htk1 := ttl_le (renderBlock (l[k]'hlt) z) (j + 1)
        refine SX.skip ?_
        refine SX.seq ?_
        refine SX.block ?_
        refine SX.seq (SX.reg ?_)   -- region 13
        refine pu rfl pv_mv ?_   -- t36 spec.go:1083
        refine pu rfl pv_mv ?_   -- t37 spec.go:1083
        refine pu rfl pv_mv ?_   -- t38 spec.go:1083
        refine pu rfl (pv_ix (T := tS) (k := j) Yabc.underlying32 sz9 okS hO7.rg.rd rfl rfl (by omega) (by omega)) ?_   -- t39 spec.go:1083
        refine pu rfl (pv_ld ag9 rfl (hO7.rg.rd.cell0 okS (by omega) rfl)) ?_   -- t40 spec.go:1083
        refine evd rfl (ev_appS (c := ((renderBlock (l[k]'hlt) z)[j]'hjg)) hO7.own hO7.ext.size rfl rfl (by omega) fun v8 w8 ho8 hg8 => ?_)   -- t41 spec.go:1083
        have hO8 := hO7.push hg8 ho8
        have hlen8 : ((raN l z k).1 ++ sepN (raN l z k).2 ++ grpN (renderBlock (l[k]'hlt) z) j ++ ((renderBlock (l[k]'hlt) z)[j]'hjg)).length ≤ (raN l z k).1.length + 1 + (grpN (renderBlock (l[k]'hlt) z) j).length + ((renderBlock (l[k]'hlt) z)[j]'hjg).length := by simp only [List.length_append] at hlen7 ⊢; omega
        refine pu rfl pv_as ?_   -- t5(out) spec.go:1083
        refine LW.nil ?_
        refine SX.reg ?_
        refine pu rfl pv_mv ?_   -- t42 spec.go:1084
        refine push (T := tB) 10 sl83 okB (by decide) hO8.own hO8.ext.size rfl (fun _ => rfl) rfl rfl (by omega) (by unfold maxLen; omega) fun J1 v9 w9 ho9 hg9 => ?_   -- t43 spec.go:1084
        refine pu rfl pv_as ?_   -- t5(out) spec.go:1084
        refine LW.nil ?_
        refine SX.reg ?_
        refine pu rfl pv_mv ?_   -- t34 spec.go:1082
        refine pu rfl (pv_add rfl rfl (by omega)) ?_   -- t35 spec.go:1082
        refine pu rfl pv_as ?_   -- t9(k) spec.go:1082
        refine LW.nil ?_
        exact ⟨j + 1, v9, ⟨rfl, rfl, rfl, rfl, rfl, rfl, rfl, trivial⟩, ⟨by omega, by rw [grpN, getD_lt _ _ _ hjg, ← List.append_assoc, ← List.append_assoc]; exact hO8.push hg9 ho9⟩, by omega⟩
      · skip
        have hge : j = (renderBlock (l[k]'hlt) z).length := by simp at hc; omega
        refine SX.exit (xb_here ?_)
        refine SX.reg ?_
        refine pu rfl pv_mv ?_   -- t45 spec.go:1086
        refine pu rfl (pv_add rfl rfl (by omega)) ?_   -- t46 spec.go:1086
        refine pu rfl pv_as ?_   -- t6(groups) spec.go:1086
        refine LW.nil ?_
        refine SX.reg ?_
        refine pu rfl pv_mv ?_   -- t14 spec.go:1074
        refine pu rfl (pv_add rfl rfl (by omega)) ?_   -- t15 spec.go:1074
        refine pu rfl pv_as ?_   -- t7(i) spec.go:1074
        refine LW.nil ?_
        exact ⟨k + 1, vo2, ⟨rfl, rfl, rfl, congrArg iv (by rw [hst]; push_cast; rfl), rfl, trivial⟩, ⟨by omega, hO7.ext, by rw [hst]; have h9 := hO7.own; rw [hge] at h9; exact h9⟩, by omega⟩
  · skip
    have hge : k = l.length := by simp at hc; omega
    subst hge
    refine SX.exit (xb_here ?_)
    refine SX.seq (SX.reg ?_)   -- region 16
    refine pu rfl pv_mv ?_   -- t47 spec.go:1088
    refine pu rfl (pv_str hown.rd rfl) ?_   -- t48 spec.go:1088
    refine pu rfl pv_as ?_   -- t4 spec.go:1088
    refine LW.nil ?_
    refine SX.ret ?_
    exact ⟨rfl, hx⟩

end Go.Proofs.Ybuabw
