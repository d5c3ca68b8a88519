/-
  WALKS. Widths and words. Own work for the seat Ybuabw (the steps of each walk were typed by a program of ours off the printed code).
-/
import Derived.Test.YbuabwW1
import Derived.Test.YbuabwMem5
import Derived.Test.YbuabwPlain4
namespace Go.Proofs.Ybuabw
open Go.RowKit
set_option linter.unusedVariables false
set_option linter.unusedSimpArgs false
set_option maxRecDepth 20000

theorem f94_ok (z : Int) (w : World) : Fn 94 [iv z] w (fun v w' => v = iv (wid z : Nat) ∧ w = w') := by
  refine Fn.mk1 (N := 6) Yabc.func94 rfl rfl rfl rfl ?_
  refine SX.seq (SX.reg ?_)   -- region 0
  refine pu rfl pv_as ?_   -- t2 impl.go:83
  refine LW.nil ?_
  refine SX.seq ?_
  refine SX.seq (SX.reg ?_)   -- region 1
  refine pu rfl pv_mv ?_   -- t3 impl.go:84
  refine pu rfl (pv_geq rfl rfl) ?_   -- t4 impl.go:84
  refine LW.nil ?_
  refine SX.cond rfl (fun hc => ?_) (fun hc => ?_)   -- t4
  · skip
    have h1 : 1 ≤ z := by simpa using hc
    refine SX.seq (SX.reg ?_)   -- region 2
    refine pu rfl pv_mv ?_   -- t5 impl.go:85
    refine pu rfl pv_as ?_   -- t2 impl.go:85
    refine LW.nil ?_
    refine SX.ret ?_
    exact ⟨congrArg iv (show z = ((wid z : Nat) : Int) by unfold wid; rw [if_pos h1]; omega), rfl⟩
  · skip
    have h1 : ¬ 1 ≤ z := by simpa using hc
    refine SX.skip ?_
    refine SX.seq (SX.reg ?_)   -- region 3
    refine pu rfl pv_as ?_   -- t2 impl.go:87
    refine LW.nil ?_
    refine SX.ret ?_
    exact ⟨congrArg iv (show (1 : Int) = ((wid z : Nat) : Int) by unfold wid; rw [if_neg h1]; rfl), rfl⟩

theorem f95_ok (z : Int) (w : World) : Fn 95 [iv z] w (fun v w' => v = iv (wid z : Nat) ∧ w = w') := by
  refine Fn.mk1 (N := 6) Yabc.func95 rfl rfl rfl rfl ?_
  refine SX.seq (SX.reg ?_)   -- region 0
  refine pu rfl pv_as ?_   -- t2 spec.go:69
  refine LW.nil ?_
  refine SX.seq ?_
  refine SX.seq (SX.reg ?_)   -- region 1
  refine pu rfl pv_mv ?_   -- t3 spec.go:70
  refine pu rfl (pv_geq rfl rfl) ?_   -- t4 spec.go:70
  refine LW.nil ?_
  refine SX.cond rfl (fun hc => ?_) (fun hc => ?_)   -- t4
  · skip
    have h1 : 1 ≤ z := by simpa using hc
    refine SX.seq (SX.reg ?_)   -- region 2
    refine pu rfl pv_mv ?_   -- t5 spec.go:71
    refine pu rfl pv_as ?_   -- t2 spec.go:71
    refine LW.nil ?_
    refine SX.ret ?_
    exact ⟨congrArg iv (show z = ((wid z : Nat) : Int) by unfold wid; rw [if_pos h1]; omega), rfl⟩
  · skip
    have h1 : ¬ 1 ≤ z := by simpa using hc
    refine SX.skip ?_
    refine SX.seq (SX.reg ?_)   -- region 3
    refine pu rfl pv_as ?_   -- t2 spec.go:73
    refine LW.nil ?_
    refine SX.ret ?_
    exact ⟨congrArg iv (show (1 : Int) = ((wid z : Nat) : Int) by unfold wid; rw [if_neg h1]; rfl), rfl⟩

theorem f96_ok (v0 : Value) (l : List Tri) (w : World) (hr : Rd w tI v0 l) (hs : l.length ≤ 1073741824) : Fn 96 [v0] w (fun v' w' => (∃ P : List ((Option Addr × Nat × Nat) × List Tri), P.map (·.2) = words l ∧ Rd w' tV v' (P.map (·.1)) ∧ ∀ q ∈ P, Rd w' tI (slv q.1) q.2) ∧ Ext w w') := by
  refine Fn.mk1 (N := 43) Yabc.func96 rfl rfl rfl rfl ?_
  refine SX.seq (SX.reg ?_)   -- region 0
  refine pu rfl pv_as ?_   -- t2 spec.go:873
  refine LW.nil ?_
  refine SX.seq (SX.reg ?_)   -- region 1
  refine pu rfl pv_as ?_   -- t3(ws) spec.go:874
  refine LW.nil ?_
  refine SX.seq (SX.reg ?_)   -- region 2
  refine pu rfl pv_as ?_   -- t4(cur) spec.go:875
  refine LW.nil ?_
  refine SX.seq ?_
  refine SX.seq (SX.reg ?_)   -- region 3
  refine pu rfl pv_as ?_   -- t5(i) spec.go:876
  refine LW.nil ?_
  refine SX.block ?_
  refine SX.loop5 (fun (k : Nat) vw (P : List ((Option Addr × Nat × Nat) × List Tri)) vc (cur : List Tri) => [(0, v0), (3, vw), (4, vc), (5, iv k)]) (fun k vw P vc cur w' => k ≤ l.length ∧ Ws w w' vw P vc cur ∧ P.map (·.2) ++ wd cur (l.drop k) = words l ∧ P.length ≤ k ∧ cur.length ≤ k) (fun k _ _ _ _ => l.length - k) 0 (.slice none 0 0) [] (.slice none 0 0) [] ⟨rfl, rfl, rfl, rfl, trivial⟩ ⟨Nat.zero_le _, Ws.start w, by simp [words], by simp, by simp⟩ ?_
  rintro k vw P vc cur w2 ρ1 ⟨hk, hW, hwd, hPl, hcl⟩
  refine SX.seq ?_
  refine SX.seq (SX.reg ?_)   -- region 4
  refine pu rfl pv_mv ?_   -- t7 spec.go:876
  refine pu rfl pv_mv ?_   -- t8 spec.go:876
  refine pu rfl (pv_lenV (T := tI) Yabc.underlying23 (hr.ext hW.two.ext) rfl) ?_   -- t9 spec.go:876
  refine pu rfl (pv_lss rfl rfl) ?_   -- t10 spec.go:876
  refine LW.nil ?_
  refine SX.cond rfl (fun hc => ?_) (fun hc => ?_)   -- t10
  · skip
    have hlt : k < l.length := by simpa using hc
    refine SX.skip ?_
    refine SX.seq ?_
    refine SX.block ?_
    refine SX.seq (SX.reg ?_)   -- region 6
    refine pu rfl pv_mv ?_   -- t13 spec.go:877
    refine pu rfl pv_mv ?_   -- t14 spec.go:877
    refine pu rfl (pv_ix (T := tI) (k := k) Yabc.underlying23 sz67 okI (hr.ext hW.two.ext) rfl rfl (by omega) (by omega)) ?_   -- t15 spec.go:877
    refine pu rfl (pv_ldE ag67 okI sz67 (hr.ext hW.two.ext) (by omega) rfl) ?_   -- t16 spec.go:877
    refine evd rfl (ev_al3 if67 fun w3 hn3 => ?_)   -- t6(p) spec.go:877
    refine evn (ev_stB hn3.blk rfl rfl sz67 rfl (encT_one _) fun w4 hb4 hg4 hz4 => ?_)   --  spec.go:877
    have hX : Wx w w4 vw P vc cur w2.heap.size 67 (encT (l[k]'hlt)) := Wx.make hW hn3 hb4 hg4
    refine LW.nil ?_
    refine SX.seq ?_
    refine SX.seq (SX.reg ?_)   -- region 7
    refine pu rfl (pv_fa fb67_0 rfl) ?_   -- t17 spec.go:878
    refine pu rfl (pv_ld ag3 rfl (hX.blk.cell rfl)) ?_   -- t18 spec.go:878
    refine pu rfl (pv_eql rfl rfl) ?_   -- t19 spec.go:878
    refine LW.nil ?_
    refine SX.cond rfl (fun hc => ?_) (fun hc => ?_)   -- t19
    · skip
      have h1 : (l[k]'hlt).a = 1 := by simpa using hc
      refine SX.seq ?_
      refine SX.seq (SX.reg ?_)   -- region 8
      refine pu rfl pv_mv ?_   -- t20 spec.go:879
      refine pu rfl (pv_lenV (T := tI) Yabc.underlying23 hX.ws.two.o2.rd rfl) ?_   -- t21 spec.go:879
      refine pu rfl (pv_gtr rfl rfl) ?_   -- t22 spec.go:879
      refine LW.nil ?_
      refine SX.cond rfl (fun hc => ?_) (fun hc => ?_)   -- t22
      · skip
        have hc0 : ¬ cur = [] := by intro e; simp [e] at hc
        obtain ⟨a, c, rfl, hac, _⟩ := hW.two.o2.form
        refine SX.reg ?_
        refine pu rfl pv_mv ?_   -- t23 spec.go:880
        refine pu rfl pv_mv ?_   -- t24 spec.go:880
        refine push (T := tV) (a, cur.length, c) sl94 okV (by decide) hX.ws.two.o1 hX.ws.two.ext.size rfl (fun _ => rfl) rfl rfl (by simp only [List.length_map]; omega) (by simp only [List.length_map]; unfold maxLen; omega) fun J1 v5 w5 ho5 hg5 => ?_   -- t25 spec.go:880
        refine pu rfl pv_as ?_   -- t3(ws) spec.go:880
        refine LW.nil ?_
        refine SX.seq (SX.reg ?_)   -- region 10
        refine pu rfl pv_as ?_   -- t4(cur) spec.go:882
        refine LW.nil ?_
        refine SX.exit (xb_here ?_)
        refine SX.reg ?_
        refine pu rfl pv_mv ?_   -- t11 spec.go:876
        refine pu rfl (pv_add rfl rfl (by omega)) ?_   -- t12 spec.go:876
        refine pu rfl pv_as ?_   -- t5(i) spec.go:876
        refine LW.nil ?_
        exact ⟨k + 1, v5, P ++ [((a, cur.length, c), cur)], .slice none 0 0, [], ⟨rfl, rfl, rfl, rfl, trivial⟩, ⟨by omega, hX.ws.pushW hg5 (by simpa using ho5), by rw [← hwd, wd_space hlt h1, if_neg hc0]; simp, by simp; omega, by simp⟩, by omega⟩
      · skip
        have hc0 : cur = [] := by simpa using hc
        refine SX.skip ?_
        refine SX.seq (SX.reg ?_)   -- region 10
        refine pu rfl pv_as ?_   -- t4(cur) spec.go:882
        refine LW.nil ?_
        refine SX.exit (xb_here ?_)
        refine SX.reg ?_
        refine pu rfl pv_mv ?_   -- t11 spec.go:876
        refine pu rfl (pv_add rfl rfl (by omega)) ?_   -- t12 spec.go:876
        refine pu rfl pv_as ?_   -- t5(i) spec.go:876
        refine LW.nil ?_
        exact ⟨k + 1, vw, P, .slice none 0 0, [], ⟨rfl, rfl, rfl, rfl, trivial⟩, ⟨by omega, hX.ws.nilC, by rw [← hwd, wd_space hlt h1, if_pos hc0], by omega, by simp⟩, by omega⟩
    · skip
      have h1 : ¬ (l[k]'hlt).a = 1 := by simpa using hc
      refine SX.skip ?_
      refine SX.seq (SX.reg ?_)   -- region 11
      refine pu rfl (pv_fa fb67_2 rfl) ?_   -- t27 spec.go:885
      refine pu rfl (pv_ld ag9 rfl (hX.blk.cell rfl)) ?_   -- t28 spec.go:885
      refine pu rfl (pv_len_s rfl) ?_   -- t29 spec.go:885
      refine pu rfl (pv_gtr rfl rfl) ?_   -- t30 spec.go:885
      refine LW.nil ?_
      refine SX.cond rfl (fun hc => ?_) (fun hc => ?_)   -- t30
      · skip
        have h2 : (l[k]'hlt).s ≠ [] := by intro e; simp [e] at hc
        refine SX.reg ?_
        refine pu rfl pv_mv ?_   -- t31 spec.go:886
        refine pu rfl (pv_ldB ag67 hX.blk sz67 rfl) ?_   -- t32 spec.go:886
        refine push (T := tI) (l[k]'hlt) sl23 okI (by decide) hX.ws.two.o2 hX.ws.two.ext.size rfl (fun _ => rfl) rfl rfl (by omega) (by unfold maxLen; omega) fun J1 v5 w5 ho5 hg5 => ?_   -- t33 spec.go:886
        refine pu rfl pv_as ?_   -- t4(cur) spec.go:886
        refine LW.nil ?_
        refine SX.reg ?_
        refine pu rfl pv_mv ?_   -- t11 spec.go:876
        refine pu rfl (pv_add rfl rfl (by omega)) ?_   -- t12 spec.go:876
        refine pu rfl pv_as ?_   -- t5(i) spec.go:876
        refine LW.nil ?_
        exact ⟨k + 1, vw, P, v5, cur ++ [(l[k]'hlt)], ⟨rfl, rfl, rfl, rfl, trivial⟩, ⟨by omega, hX.ws.pushC hg5 ho5, by rw [← hwd, wd_more hlt h1 h2], by omega, by simp; omega⟩, by omega⟩
      · skip
        have h2 : (l[k]'hlt).s = [] := by simpa using hc
        refine SX.skip ?_
        refine SX.reg ?_
        refine pu rfl pv_mv ?_   -- t11 spec.go:876
        refine pu rfl (pv_add rfl rfl (by omega)) ?_   -- t12 spec.go:876
        refine pu rfl pv_as ?_   -- t5(i) spec.go:876
        refine LW.nil ?_
        exact ⟨k + 1, vw, P, vc, cur, ⟨rfl, rfl, rfl, rfl, trivial⟩, ⟨by omega, hX.ws, by rw [← hwd, wd_skip hlt h1 h2], by omega, by omega⟩, by omega⟩
  · skip
    have hge : k = l.length := by simp at hc; omega
    subst hge
    rw [wd_end (Nat.le_refl _)] at hwd
    refine SX.exit (xb_here ?_)
    refine SX.seq ?_
    refine SX.seq (SX.reg ?_)   -- region 13
    refine pu rfl pv_mv ?_   -- t35 spec.go:889
    refine pu rfl (pv_lenV (T := tI) Yabc.underlying23 hW.two.o2.rd rfl) ?_   -- t36 spec.go:889
    refine pu rfl (pv_gtr rfl rfl) ?_   -- t37 spec.go:889
    refine LW.nil ?_
    refine SX.cond rfl (fun hc => ?_) (fun hc => ?_)   -- t37
    · skip
      have hc0 : ¬ cur = [] := by intro e; simp [e] at hc
      obtain ⟨a, c, rfl, hac, _⟩ := hW.two.o2.form
      refine SX.reg ?_
      refine pu rfl pv_mv ?_   -- t38 spec.go:890
      refine pu rfl pv_mv ?_   -- t39 spec.go:890
      refine push (T := tV) (a, cur.length, c) sl94 okV (by decide) hW.two.o1 hW.two.ext.size rfl (fun _ => rfl) rfl rfl (by simp only [List.length_map]; omega) (by simp only [List.length_map]; unfold maxLen; omega) fun J1 v5 w5 ho5 hg5 => ?_   -- t40 spec.go:890
      refine pu rfl pv_as ?_   -- t3(ws) spec.go:890
      refine LW.nil ?_
      refine SX.seq (SX.reg ?_)   -- region 15
      refine pu rfl pv_mv ?_   -- t42 spec.go:892
      refine pu rfl pv_as ?_   -- t2 spec.go:892
      refine LW.nil ?_
      refine SX.ret ?_
      have hW2 := hW.pushW hg5 (by simpa using ho5)
      exact ⟨⟨P ++ [((a, cur.length, c), cur)], by rw [if_neg hc0] at hwd; rw [← hwd]; simp, hW2.two.o1.rd, fun q hq => (hW2.own q hq).rd⟩, hW2.two.ext⟩
    · skip
      have hc0 : cur = [] := by simpa using hc
      refine SX.skip ?_
      refine SX.seq (SX.reg ?_)   -- region 15
      refine pu rfl pv_mv ?_   -- t42 spec.go:892
      refine pu rfl pv_as ?_   -- t2 spec.go:892
      refine LW.nil ?_
      refine SX.ret ?_
      exact ⟨⟨P, by rw [if_pos hc0] at hwd; simpa using hwd, hW.two.o1.rd, fun q hq => (hW.own q hq).rd⟩, hW.two.ext⟩

end Go.Proofs.Ybuabw
