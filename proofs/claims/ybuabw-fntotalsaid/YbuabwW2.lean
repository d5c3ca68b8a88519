/-
  WALKS. The class of a line. Own work for the seat Ybuabw (the steps of each walk were typed by a program of ours off the printed code).
-/
import Derived.Test.YbuabwW1
namespace Go.Proofs.Ybuabw
open Go.RowKit
set_option linter.unusedVariables false
set_option linter.unusedSimpArgs false
set_option maxRecDepth 20000

theorem f82_ok (s : List UInt8) (w : World) (hs : s.length ≤ 4294967296) : Fn 82 [S s] w (fun v w' => v = S (trim s) ∧ w = w') := by
  refine Fn.mk1 (N := 34) Yabc.func82 rfl rfl rfl rfl ?_
  refine SX.seq (SX.reg ?_)   -- region 0
  refine pu rfl pv_as ?_   -- t2 impl.go:71
  refine LW.nil ?_
  refine SX.seq (SX.reg ?_)   -- region 1
  refine pu rfl pv_as ?_   -- t3(a) impl.go:72
  refine LW.nil ?_
  refine SX.seq (SX.reg ?_)   -- region 2
  refine pu rfl pv_mv ?_   -- t5 impl.go:73
  refine pu rfl (pv_len_s rfl) ?_   -- t6 impl.go:73
  refine pu rfl pv_as ?_   -- t4(b) impl.go:73
  refine LW.nil ?_
  refine SX.seq ?_
  refine SX.block ?_
  have hle := lead_le isSp s
  refine SX.loop (G := Nat) (fun k => [(0, S s), (3, iv k), (4, iv s.length)]) (fun k w' => w = w' ∧ k ≤ lead isSp s) (fun k => s.length - k) 0 ⟨rfl, rfl, rfl, trivial⟩ ⟨rfl, Nat.zero_le _⟩ ?_
  rintro k w2 ρ1 ⟨hw, hk⟩
  subst hw
  refine SX.seq ?_
  refine SX.seq (SX.reg ?_)   -- region 3
  refine pu rfl pv_mv ?_   -- t7 impl.go:74
  refine pu rfl pv_mv ?_   -- t8 impl.go:74
  refine pu rfl (pv_lss rfl rfl) ?_   -- t9 impl.go:74
  refine pu rfl pv_mv ?_   -- t10 impl.go:74
  refine LW.sc true 4 3 10 11 15 (b := isSp (s.getD k 0)) (fun w' => w = w') rfl rfl rfl rfl (fun _ => rfl) rfl (fun ht => ?_) rfl (fun J w' hw' => ?_)   -- t15 := pick ['t10', 't14', "c:['false']"]
  · skip
    have hlt : k < s.length := by simpa using ht
    refine pu rfl pv_mv ?_   -- t11 impl.go:74
    refine pu rfl pv_mv ?_   -- t12 impl.go:74
    refine pu rfl (pv_index (k := k) rfl rfl (by omega) (by omega)) ?_   -- t13 impl.go:74
    refine evd rfl (ev_call cb83 rfl (f83_ok _ w) ?_)   -- t14 impl.go:74
    rintro _ _ ⟨rfl, rfl⟩
    exact LW.nil ⟨rfl, rfl⟩
  subst hw'
  refine LW.nil ?_
  refine SX.cond rfl (fun hc => ?_) (fun hc => ?_)   -- t15
  · skip
    simp only [scv, Bool.and_eq_true, decide_eq_true_eq] at hc
    have hlt : k < s.length := by have := hc.1; omega
    refine SX.skip ?_
    refine SX.block ?_
    refine SX.reg ?_
    refine pu rfl pv_mv ?_   -- t16 impl.go:75
    refine pu rfl (pv_add rfl rfl (by omega)) ?_   -- t17 impl.go:75
    refine pu rfl pv_as ?_   -- t3(a) impl.go:75
    refine LW.nil ?_
    exact ⟨k + 1, ⟨rfl, rfl, rfl, trivial⟩, ⟨rfl, lead_step _ _ _ hk hlt hc.2⟩, by omega⟩
  · skip
    have hd : lead isSp s = k := lead_done _ _ _ hk (fun hl => by simpa [scv, hl] using hc)
    refine SX.exit (xb_here ?_)
    refine SX.seq ?_
    refine SX.block ?_
    have hle2 := lead_le isSp (s.drop k).reverse
    simp only [List.length_reverse, List.length_drop] at hle2
    refine SX.loop (G := Nat) (fun m => [(0, S s), (3, iv k), (4, iv (s.length - m : Nat))]) (fun m w' => w = w' ∧ m ≤ lead isSp (s.drop k).reverse) (fun m => s.length - m) 0 ⟨rfl, rfl, rfl, trivial⟩ ⟨rfl, Nat.zero_le _⟩ ?_
    rintro m w2 ρ2 ⟨hw, hm⟩
    subst hw
    refine SX.seq ?_
    refine SX.seq (SX.reg ?_)   -- region 5
    refine pu rfl pv_mv ?_   -- t18 impl.go:77
    refine pu rfl pv_mv ?_   -- t19 impl.go:77
    refine pu rfl (pv_gtr rfl rfl) ?_   -- t20 impl.go:77
    refine pu rfl pv_mv ?_   -- t21 impl.go:77
    refine LW.sc true 5 3 21 22 27 (b := isSp (s.getD (s.length - m - 1) 0)) (fun w' => w = w') rfl rfl rfl rfl (fun _ => rfl) rfl (fun ht => ?_) rfl (fun J w' hw' => ?_)   -- t27 := pick ['t21', 't26', "c:['false']"]
    · skip
      have hlt : k < s.length - m := by simp at ht; omega
      refine pu rfl pv_mv ?_   -- t22 impl.go:77
      refine pu rfl pv_mv ?_   -- t23 impl.go:77
      refine pu rfl (pv_sub rfl rfl (by omega)) ?_   -- t24 impl.go:77
      refine pu rfl (pv_index (k := ((s.length - m) - 1)) rfl rfl (by omega) (by omega)) ?_   -- t25 impl.go:77
      refine evd rfl (ev_call cb83 rfl (f83_ok _ w) ?_)   -- t26 impl.go:77
      rintro _ _ ⟨rfl, rfl⟩
      exact LW.nil ⟨rfl, rfl⟩
    subst hw'
    refine LW.nil ?_
    refine SX.cond rfl (fun hc => ?_) (fun hc => ?_)   -- t27
    · skip
      simp only [scv, Bool.and_eq_true, decide_eq_true_eq] at hc
      have hlt : k < s.length - m := by have := hc.1; omega
      have hlen : m < (s.drop k).reverse.length := by simp; omega
      refine SX.skip ?_
      refine SX.block ?_
      refine SX.reg ?_
      refine pu rfl pv_mv ?_   -- t28 impl.go:78
      refine pu rfl (pv_sub rfl rfl (by omega)) ?_   -- t29 impl.go:78
      refine pu rfl pv_as ?_   -- t4(b) impl.go:78
      refine LW.nil ?_
      exact ⟨m + 1, ⟨rfl, rfl, congrArg iv (by omega), trivial⟩, ⟨rfl, lead_step _ _ _ hm hlen (by rw [rev_at _ _ _ hlen]; exact hc.2)⟩, by omega⟩
    · skip
      have hd2 : lead isSp (s.drop k).reverse = m := lead_done _ _ _ hm (fun hl => by
        rw [rev_at _ _ _ hl]
        simp only [List.length_reverse, List.length_drop] at hl
        have hl2 : (k : Int) < ((s.length - m : Nat) : Int) := by omega
        simpa [scv, hl2] using hc)
      refine SX.exit (xb_here ?_)
      refine SX.seq (SX.reg ?_)   -- region 7
      refine pu rfl pv_mv ?_   -- t30 impl.go:80
      refine pu rfl pv_mv ?_   -- t31 impl.go:80
      refine pu rfl pv_mv ?_   -- t32 impl.go:80
      refine pu rfl (pv_cut (a := k) (b := (s.length - m)) rfl rfl rfl (by omega) (by omega) (by omega) (by omega)) ?_   -- t33 impl.go:80
      refine pu rfl pv_as ?_   -- t2 impl.go:80
      refine LW.nil ?_
      refine SX.ret ?_
      exact ⟨congrArg S (by rw [trim, hd, hd2]), rfl⟩

theorem f84_ok (s : List UInt8) (w : World) (hs : s.length ≤ 4294967296) : Fn 84 [S s] w (fun v w' => v = S (trim s) ∧ w = w') := by
  refine Fn.mk1 (N := 35) Yabc.func84 rfl rfl rfl rfl ?_
  refine SX.seq (SX.reg ?_)   -- region 0
  refine pu rfl pv_as ?_   -- t2 spec.go:43
  refine LW.nil ?_
  refine SX.seq (SX.reg ?_)   -- region 1
  refine pu rfl pv_as ?_   -- t3(a) spec.go:44
  refine LW.nil ?_
  refine SX.seq ?_
  refine SX.block ?_
  have hle := lead_le isSp s
  refine SX.loop (G := Nat) (fun k => [(0, S s), (3, iv k)]) (fun k w' => w = w' ∧ k ≤ lead isSp s) (fun k => s.length - k) 0 ⟨rfl, rfl, trivial⟩ ⟨rfl, Nat.zero_le _⟩ ?_
  rintro k w2 ρ1 ⟨hw, hk⟩
  subst hw
  refine SX.seq ?_
  refine SX.seq (SX.reg ?_)   -- region 2
  refine pu rfl pv_mv ?_   -- t5 spec.go:45
  refine pu rfl pv_mv ?_   -- t6 spec.go:45
  refine pu rfl (pv_len_s rfl) ?_   -- t7 spec.go:45
  refine pu rfl (pv_lss rfl rfl) ?_   -- t8 spec.go:45
  refine pu rfl pv_mv ?_   -- t9 spec.go:45
  refine LW.sc true 4 4 9 10 14 (b := isSp (s.getD k 0)) (fun w' => w = w') rfl rfl rfl rfl (fun _ => rfl) rfl (fun ht => ?_) rfl (fun J w' hw' => ?_)   -- t14 := pick ['t9', 't13', "c:['false']"]
  · skip
    have hlt : k < s.length := by simpa using ht
    refine pu rfl pv_mv ?_   -- t10 spec.go:45
    refine pu rfl pv_mv ?_   -- t11 spec.go:45
    refine pu rfl (pv_index (k := k) rfl rfl (by omega) (by omega)) ?_   -- t12 spec.go:45
    refine evd rfl (ev_call cb86 rfl (f86_ok _ w) ?_)   -- t13 spec.go:45
    rintro _ _ ⟨rfl, rfl⟩
    exact LW.nil ⟨rfl, rfl⟩
  subst hw'
  refine LW.nil ?_
  refine SX.cond rfl (fun hc => ?_) (fun hc => ?_)   -- t14
  · skip
    simp only [scv, Bool.and_eq_true, decide_eq_true_eq] at hc
    have hlt : k < s.length := by have := hc.1; omega
    refine SX.skip ?_
    refine SX.block ?_
    refine SX.reg ?_
    refine pu rfl pv_mv ?_   -- t15 spec.go:46
    refine pu rfl (pv_add rfl rfl (by omega)) ?_   -- t16 spec.go:46
    refine pu rfl pv_as ?_   -- t3(a) spec.go:46
    refine LW.nil ?_
    exact ⟨k + 1, ⟨rfl, rfl, trivial⟩, ⟨rfl, lead_step _ _ _ hk hlt hc.2⟩, by omega⟩
  · skip
    have hd : lead isSp s = k := lead_done _ _ _ hk (fun hl => by simpa [scv, hl] using hc)
    refine SX.exit (xb_here ?_)
    refine SX.seq (SX.reg ?_)   -- region 4
    refine pu rfl pv_mv ?_   -- t17 spec.go:48
    refine pu rfl (pv_len_s rfl) ?_   -- t18 spec.go:48
    refine pu rfl pv_as ?_   -- t4(b) spec.go:48
    refine LW.nil ?_
    refine SX.seq ?_
    refine SX.block ?_
    have hle2 := lead_le isSp (s.drop k).reverse
    simp only [List.length_reverse, List.length_drop] at hle2
    refine SX.loop (G := Nat) (fun m => [(0, S s), (3, iv k), (4, iv (s.length - m : Nat))]) (fun m w' => w = w' ∧ m ≤ lead isSp (s.drop k).reverse) (fun m => s.length - m) 0 ⟨rfl, rfl, rfl, trivial⟩ ⟨rfl, Nat.zero_le _⟩ ?_
    rintro m w2 ρ2 ⟨hw, hm⟩
    subst hw
    refine SX.seq ?_
    refine SX.seq (SX.reg ?_)   -- region 5
    refine pu rfl pv_mv ?_   -- t19 spec.go:49
    refine pu rfl pv_mv ?_   -- t20 spec.go:49
    refine pu rfl (pv_gtr rfl rfl) ?_   -- t21 spec.go:49
    refine pu rfl pv_mv ?_   -- t22 spec.go:49
    refine LW.sc true 5 3 22 23 28 (b := isSp (s.getD (s.length - m - 1) 0)) (fun w' => w = w') rfl rfl rfl rfl (fun _ => rfl) rfl (fun ht => ?_) rfl (fun J w' hw' => ?_)   -- t28 := pick ['t22', 't27', "c:['false']"]
    · skip
      have hlt : k < s.length - m := by simp at ht; omega
      refine pu rfl pv_mv ?_   -- t23 spec.go:49
      refine pu rfl pv_mv ?_   -- t24 spec.go:49
      refine pu rfl (pv_sub rfl rfl (by omega)) ?_   -- t25 spec.go:49
      refine pu rfl (pv_index (k := ((s.length - m) - 1)) rfl rfl (by omega) (by omega)) ?_   -- t26 spec.go:49
      refine evd rfl (ev_call cb86 rfl (f86_ok _ w) ?_)   -- t27 spec.go:49
      rintro _ _ ⟨rfl, rfl⟩
      exact LW.nil ⟨rfl, rfl⟩
    subst hw'
    refine LW.nil ?_
    refine SX.cond rfl (fun hc => ?_) (fun hc => ?_)   -- t28
    · skip
      simp only [scv, Bool.and_eq_true, decide_eq_true_eq] at hc
      have hlt : k < s.length - m := by have := hc.1; omega
      have hlen : m < (s.drop k).reverse.length := by simp; omega
      refine SX.skip ?_
      refine SX.block ?_
      refine SX.reg ?_
      refine pu rfl pv_mv ?_   -- t29 spec.go:50
      refine pu rfl (pv_sub rfl rfl (by omega)) ?_   -- t30 spec.go:50
      refine pu rfl pv_as ?_   -- t4(b) spec.go:50
      refine LW.nil ?_
      exact ⟨m + 1, ⟨rfl, rfl, congrArg iv (by omega), trivial⟩, ⟨rfl, lead_step _ _ _ hm hlen (by rw [rev_at _ _ _ hlen]; exact hc.2)⟩, by omega⟩
    · skip
      have hd2 : lead isSp (s.drop k).reverse = m := lead_done _ _ _ hm (fun hl => by
        rw [rev_at _ _ _ hl]
        simp only [List.length_reverse, List.length_drop] at hl
        have hl2 : (k : Int) < ((s.length - m : Nat) : Int) := by omega
        simpa [scv, hl2] using hc)
      refine SX.exit (xb_here ?_)
      refine SX.seq (SX.reg ?_)   -- region 7
      refine pu rfl pv_mv ?_   -- t31 spec.go:52
      refine pu rfl pv_mv ?_   -- t32 spec.go:52
      refine pu rfl pv_mv ?_   -- t33 spec.go:52
      refine pu rfl (pv_cut (a := k) (b := (s.length - m)) rfl rfl rfl (by omega) (by omega) (by omega) (by omega)) ?_   -- t34 spec.go:52
      refine pu rfl pv_as ?_   -- t2 spec.go:52
      refine LW.nil ?_
      refine SX.ret ?_
      exact ⟨congrArg S (by rw [trim, hd, hd2]), rfl⟩

theorem ticks_eq (l : List UInt8) : scv true (scv true (scv true (decide ((3 : Int) ≤ (l.length : Int))) (decide (l.getD 0 0 = 96))) (decide (l.getD 1 0 = 96))) (decide (l.getD 2 0 = 96)) = ticks l := by
  have e : decide ((3 : Int) ≤ (l.length : Int)) = decide (3 ≤ l.length) := by rw [decide_eq_decide]; omega
  simp only [scv, ticks, e]

theorem head_eq (l : List UInt8) (k : Nat) (hd : lead isHash l = k) :
    scv true (scv true (decide ((1 : Int) ≤ (k : Int))) (decide ((k : Int) ≤ 6))) (scv false (decide ((l.length : Int) = (k : Int))) (isSp (l.getD k 0))) = headB l := by
  have e1 : decide ((1 : Int) ≤ (k : Int)) = decide (1 ≤ k) := by rw [decide_eq_decide]; omega
  have e2 : decide ((k : Int) ≤ 6) = decide (k ≤ 6) := by rw [decide_eq_decide]; omega
  have e3 : decide ((l.length : Int) = (k : Int)) = decide (l.length = k) := by rw [decide_eq_decide]; omega
  simp only [scv, headB, e1, e2, e3, hd]

theorem head_eq' (l : List UInt8) (k : Nat) (hd : lead isHash l = k) :
    scv true (scv true (decide ((1 : Int) ≤ (k : Int))) (decide ((k : Int) ≤ 6))) (scv false (decide ((k : Int) = (l.length : Int))) (isSp (l.getD k 0))) = headB l := by
  rw [← head_eq l k hd]
  have e : decide ((k : Int) = (l.length : Int)) = decide ((l.length : Int) = (k : Int)) := by rw [decide_eq_decide]; omega
  rw [e]

theorem item_eq (l : List UInt8) : scv true (scv true (decide ((2 : Int) ≤ (l.length : Int))) (decide (l.getD 0 0 = 45))) (isSp (l.getD 1 0)) = itemB l := by
  have e : decide ((2 : Int) ≤ (l.length : Int)) = decide (2 ≤ l.length) := by rw [decide_eq_decide]; omega
  simp only [scv, itemB, e]

theorem rule_eq (t : List UInt8) (h : (3 : Int) ≤ (t.length : Int)) : ruleB t = decide (lead isDash t = t.length) := by
  have e : decide (3 ≤ t.length) = true := by simp; omega
  simp [ruleB, e]

theorem f85_ok (l : List UInt8) (w : World) : Fn 85 [S l] w (fun v w' => v = .bool (ticks l) ∧ w = w') := by
  refine Fn.mk1 (N := 21) Yabc.func85 rfl rfl rfl rfl ?_
  refine SX.seq (SX.reg ?_)   -- region 0
  refine pu rfl pv_as ?_   -- t2 spec.go:553
  refine LW.nil ?_
  refine SX.seq (SX.reg ?_)   -- region 1
  refine pu rfl pv_mv ?_   -- t3 spec.go:554
  refine pu rfl (pv_len_s rfl) ?_   -- t4 spec.go:554
  refine pu rfl (pv_geq rfl rfl) ?_   -- t5 spec.go:554
  refine pu rfl pv_mv ?_   -- t6 spec.go:554
  refine LW.sc true 3 3 6 7 10 (b := decide (l.getD 0 0 = 96)) (fun w' => w = w') rfl rfl rfl rfl (fun _ => rfl) rfl (fun ht => ?_) rfl (fun J w' hw' => ?_)   -- t10 := pick ['t6', 't9', "c:['false']"]
  · skip
    have hl3 : 3 ≤ l.length := by simp [scv] at ht; omega
    refine pu rfl pv_mv ?_   -- t7 spec.go:554
    refine pu rfl (pv_index (k := 0) rfl rfl (by omega) (by omega)) ?_   -- t8 spec.go:554
    refine pu rfl (pv_eqlB (b := 96) rfl rfl) ?_   -- t9 spec.go:554
    exact LW.nil ⟨rfl, rfl⟩
  subst hw'
  refine pu rfl pv_mv ?_   -- t11 spec.go:554
  refine LW.sc true 3 8 11 12 15 (b := decide (l.getD 1 0 = 96)) (fun w' => w = w') rfl rfl rfl rfl (fun _ => rfl) rfl (fun ht => ?_) rfl (fun J w' hw' => ?_)   -- t15 := pick ['t11', 't14', "c:['false']"]
  · skip
    have hl3 : 3 ≤ l.length := by simp [scv] at ht; omega
    refine pu rfl pv_mv ?_   -- t12 spec.go:554
    refine pu rfl (pv_index (k := 1) rfl rfl (by omega) (by omega)) ?_   -- t13 spec.go:554
    refine pu rfl (pv_eqlB (b := 96) rfl rfl) ?_   -- t14 spec.go:554
    exact LW.nil ⟨rfl, rfl⟩
  subst hw'
  refine pu rfl pv_mv ?_   -- t16 spec.go:554
  refine LW.sc true 3 13 16 17 20 (b := decide (l.getD 2 0 = 96)) (fun w' => w = w') rfl rfl rfl rfl (fun _ => rfl) rfl (fun ht => ?_) rfl (fun J w' hw' => ?_)   -- t20 := pick ['t16', 't19', "c:['false']"]
  · skip
    have hl3 : 3 ≤ l.length := by simp [scv] at ht; omega
    refine pu rfl pv_mv ?_   -- t17 spec.go:554
    refine pu rfl (pv_index (k := 2) rfl rfl (by omega) (by omega)) ?_   -- t18 spec.go:554
    refine pu rfl (pv_eqlB (b := 96) rfl rfl) ?_   -- t19 spec.go:554
    exact LW.nil ⟨rfl, rfl⟩
  subst hw'
  refine pu rfl pv_as ?_   -- t2 spec.go:554
  refine LW.nil ?_
  refine SX.ret ?_
  exact ⟨congrArg Value.bool (ticks_eq l), rfl⟩

theorem f87_ok (t : List UInt8) (w : World) (hs : t.length ≤ 4294967296) : Fn 87 [S t] w (fun v w' => v = .bool (decide (lead isDash t = t.length)) ∧ w = w') := by
  refine Fn.mk1 (N := 14) Yabc.func87 rfl rfl rfl rfl ?_
  refine SX.seq (SX.reg ?_)   -- region 0
  refine pu rfl pv_as ?_   -- t2 spec.go:557
  refine LW.nil ?_
  refine SX.seq ?_
  refine SX.seq (SX.reg ?_)   -- region 1
  refine pu rfl pv_as ?_   -- t3(i) spec.go:558
  refine LW.nil ?_
  refine SX.block ?_
  have hle := lead_le isDash t
  refine SX.loop (G := Nat) (fun k => [(0, S t), (3, iv k)]) (fun k w' => w = w' ∧ k ≤ lead isDash t) (fun k => t.length - k) 0 ⟨rfl, rfl, trivial⟩ ⟨rfl, Nat.zero_le _⟩ ?_
  rintro k w2 ρ1 ⟨hw, hk⟩
  subst hw
  refine SX.seq ?_
  refine SX.seq (SX.reg ?_)   -- region 2
  refine pu rfl pv_mv ?_   -- t4 spec.go:558
  refine pu rfl pv_mv ?_   -- t5 spec.go:558
  refine pu rfl (pv_len_s rfl) ?_   -- t6 spec.go:558
  refine pu rfl (pv_lss rfl rfl) ?_   -- t7 spec.go:558
  refine LW.nil ?_
  refine SX.cond rfl (fun hc => ?_) (fun hc => ?_)   -- t7
  · skip
    have hlt : k < t.length := by simpa using hc
    refine SX.skip ?_
    refine SX.seq ?_
    refine SX.block ?_
    refine SX.seq (SX.reg ?_)   -- region 4
    refine pu rfl pv_mv ?_   -- t10 spec.go:559
    refine pu rfl pv_mv ?_   -- t11 spec.go:559
    refine pu rfl (pv_index (k := k) rfl rfl (by omega) (by omega)) ?_   -- t12 spec.go:559
    refine pu rfl (pv_neqB (b := 45) rfl rfl) ?_   -- t13 spec.go:559
    refine LW.nil ?_
    refine SX.cond rfl (fun hc => ?_) (fun hc => ?_)   -- t13
    · skip
      have hd : lead isDash t = k := lead_done _ _ _ hk (fun _ => by simpa [isDash] using hc)
      have hne : ¬ lead isDash t = t.length := by omega
      refine SX.seq (SX.reg ?_)   -- region 5
      refine pu rfl pv_as ?_   -- t2 spec.go:560
      refine LW.nil ?_
      refine SX.ret ?_
      exact ⟨by simp [hne]; rfl, rfl⟩
    · skip
      have hq : isDash (t.getD k 0) = true := by simpa [isDash] using hc
      refine SX.skip ?_
      refine SX.reg ?_
      refine pu rfl pv_mv ?_   -- t8 spec.go:558
      refine pu rfl (pv_add rfl rfl (by omega)) ?_   -- t9 spec.go:558
      refine pu rfl pv_as ?_   -- t3(i) spec.go:558
      refine LW.nil ?_
      exact ⟨k + 1, ⟨rfl, rfl, trivial⟩, ⟨rfl, lead_step _ _ _ hk hlt hq⟩, by omega⟩
  · skip
    have hge : t.length ≤ k := by simpa using hc
    have hd : lead isDash t = t.length := by omega
    refine SX.exit (xb_here ?_)
    refine SX.seq (SX.reg ?_)   -- region 6
    refine pu rfl pv_as ?_   -- t2 spec.go:563
    refine LW.nil ?_
    refine SX.ret ?_
    exact ⟨by simp [hd]; rfl, rfl⟩

theorem f24_ok (l : List UInt8) (w : World) (hs : l.length ≤ 4294967296) : Fn 24 [S l] w (fun v w' => v = .agg (encT (classify l)).toArray ∧ Ext w w') := by
  have htl := trim_len l
  refine Fn.mkC (N := 110) Yabc.func24 rfl rfl rfl ag36 rfl ?_
  refine SX.seq (SX.reg ?_)   -- region 0
  refine evd rfl (ev_al3 if36 fun w1 hn1 => ?_)   -- t2 impl.go:121
  have hx1 := hn1.ext
  have hb := hn1.blk
  refine LW.nil ?_
  refine SX.seq ?_
  refine SX.seq (SX.reg ?_)   -- region 1
  refine pu rfl pv_mv ?_   -- t7 impl.go:122
  refine evd rfl (ev_call cb82 rfl (f82_ok l w1 hs) ?_)   -- t8 impl.go:122
  rintro _ _ ⟨rfl, rfl⟩
  refine pu rfl (pv_len_s rfl) ?_   -- t9 impl.go:122
  refine pu rfl (pv_eql rfl rfl) ?_   -- t10 impl.go:122
  refine LW.nil ?_
  refine SX.cond rfl (fun hc => ?_) (fun hc => ?_)   -- t10
  · skip
    have h1 : (trim l).length = 0 := by simp at hc; simp [hc]
    refine SX.seq (SX.reg ?_)   -- region 2
    refine pu rfl (pv_bd rfl (bd36 _ _ _)) ?_   -- t11 impl.go:123
    refine evn (ev_stB hb rfl rfl sz36 rfl (encT_one ⟨_, _, _⟩) fun w3 hb3 hg3 hz3 => ?_)   --  impl.go:123
    refine LW.nil ?_
    refine SX.ret ?_
    refine ⟨_, _, _, rfl, hb3, sz36, ?_, hx1.step hg3 (fun g e => by cases e; exact Nat.le_refl _)⟩
    rw [classify, if_pos h1]
    rfl
  · skip
    have h1 : ¬ (trim l).length = 0 := by simp at hc; simpa using hc
    have hpos : 0 < l.length := by have := trim_len l; omega
    refine SX.skip ?_
    refine SX.seq ?_
    refine SX.seq (SX.reg ?_)   -- region 3
    refine pu rfl pv_mv ?_   -- t12 impl.go:125
    refine pu rfl (pv_len_s rfl) ?_   -- t13 impl.go:125
    refine pu rfl (pv_geq rfl rfl) ?_   -- t14 impl.go:125
    refine pu rfl pv_mv ?_   -- t15 impl.go:125
    refine LW.sc true 3 3 15 16 19 (b := decide (l.getD 0 0 = 96)) (fun w' => w1 = w') rfl rfl rfl rfl (fun _ => rfl) rfl (fun ht => ?_) rfl (fun J w' hw' => ?_)   -- t19 := pick ['t15', 't18', "c:['false']"]
    · skip
      have hl3 : 3 ≤ l.length := by simp [scv] at ht; omega
      refine pu rfl pv_mv ?_   -- t16 impl.go:125
      refine pu rfl (pv_index (k := 0) rfl rfl (by omega) (by omega)) ?_   -- t17 impl.go:125
      refine pu rfl (pv_eqlB (b := 96) rfl rfl) ?_   -- t18 impl.go:125
      exact LW.nil ⟨rfl, rfl⟩
    subst hw'
    refine pu rfl pv_mv ?_   -- t20 impl.go:125
    refine LW.sc true 3 8 20 21 24 (b := decide (l.getD 1 0 = 96)) (fun w' => w1 = w') rfl rfl rfl rfl (fun _ => rfl) rfl (fun ht => ?_) rfl (fun J w' hw' => ?_)   -- t24 := pick ['t20', 't23', "c:['false']"]
    · skip
      have hl3 : 3 ≤ l.length := by simp [scv] at ht; omega
      refine pu rfl pv_mv ?_   -- t21 impl.go:125
      refine pu rfl (pv_index (k := 1) rfl rfl (by omega) (by omega)) ?_   -- t22 impl.go:125
      refine pu rfl (pv_eqlB (b := 96) rfl rfl) ?_   -- t23 impl.go:125
      exact LW.nil ⟨rfl, rfl⟩
    subst hw'
    refine pu rfl pv_mv ?_   -- t25 impl.go:125
    refine LW.sc true 3 13 25 26 29 (b := decide (l.getD 2 0 = 96)) (fun w' => w1 = w') rfl rfl rfl rfl (fun _ => rfl) rfl (fun ht => ?_) rfl (fun J w' hw' => ?_)   -- t29 := pick ['t25', 't28', "c:['false']"]
    · skip
      have hl3 : 3 ≤ l.length := by simp [scv] at ht; omega
      refine pu rfl pv_mv ?_   -- t26 impl.go:125
      refine pu rfl (pv_index (k := 2) rfl rfl (by omega) (by omega)) ?_   -- t27 impl.go:125
      refine pu rfl (pv_eqlB (b := 96) rfl rfl) ?_   -- t28 impl.go:125
      exact LW.nil ⟨rfl, rfl⟩
    subst hw'
    refine LW.nil ?_
    refine SX.cond rfl (fun hc => ?_) (fun hc => ?_)   -- t29
    · skip
      rw [ticks_eq] at hc
      refine SX.seq (SX.reg ?_)   -- region 4
      refine pu rfl (pv_bd rfl (bd36 _ _ _)) ?_   -- t30 impl.go:126
      refine evn (ev_stB hb rfl rfl sz36 rfl (encT_one ⟨_, _, _⟩) fun w3 hb3 hg3 hz3 => ?_)   --  impl.go:126
      refine LW.nil ?_
      refine SX.ret ?_
      refine ⟨_, _, _, rfl, hb3, sz36, ?_, hx1.step hg3 (fun g e => by cases e; exact Nat.le_refl _)⟩
      rw [classify, if_neg h1, if_pos hc]
      rfl
    · skip
      rw [ticks_eq] at hc
      have h2 : ¬ ticks l = true := by simp [hc]
      refine SX.skip ?_
      refine SX.seq (SX.reg ?_)   -- region 5
      refine pu rfl pv_as ?_   -- t3 impl.go:128
      refine LW.nil ?_
      refine SX.seq ?_
      refine SX.block ?_
      have hle := lead_le isHash l
      refine SX.loop (G := Nat) (fun k => [(0, S l), (2, .pointer (some ⟨w.heap.size, 0, none⟩)), (3, iv k)]) (fun k w' => w1 = w' ∧ k ≤ lead isHash l) (fun k => l.length - k) 0 ⟨rfl, rfl, rfl, trivial⟩ ⟨rfl, Nat.zero_le _⟩ ?_
      rintro k w2 ρ1 ⟨hw, hk⟩
      subst hw
      refine SX.seq ?_
      refine SX.seq (SX.reg ?_)   -- region 6
      refine pu rfl pv_mv ?_   -- t31 impl.go:129
      refine pu rfl pv_mv ?_   -- t32 impl.go:129
      refine pu rfl (pv_len_s rfl) ?_   -- t33 impl.go:129
      refine pu rfl (pv_lss rfl rfl) ?_   -- t34 impl.go:129
      refine pu rfl pv_mv ?_   -- t35 impl.go:129
      refine LW.sc true 4 4 35 36 40 (b := isHash (l.getD k 0)) (fun w' => w1 = w') rfl rfl rfl rfl (fun _ => rfl) rfl (fun ht => ?_) rfl (fun J w' hw' => ?_)   -- t40 := pick ['t35', 't39', "c:['false']"]
      · skip
        have hlt : k < l.length := by simpa using ht
        refine pu rfl pv_mv ?_   -- t36 impl.go:129
        refine pu rfl pv_mv ?_   -- t37 impl.go:129
        refine pu rfl (pv_index (k := k) rfl rfl (by omega) (by omega)) ?_   -- t38 impl.go:129
        refine pu rfl (pv_eqlB (b := 35) rfl rfl) ?_   -- t39 impl.go:129
        exact LW.nil ⟨rfl, rfl⟩
      subst hw'
      refine LW.nil ?_
      refine SX.cond rfl (fun hc => ?_) (fun hc => ?_)   -- t40
      · skip
        simp only [scv, Bool.and_eq_true, decide_eq_true_eq] at hc
        have hlt : k < l.length := by have := hc.1; omega
        refine SX.skip ?_
        refine SX.block ?_
        refine SX.reg ?_
        refine pu rfl pv_mv ?_   -- t41 impl.go:130
        refine pu rfl (pv_add rfl rfl (by omega)) ?_   -- t42 impl.go:130
        refine pu rfl pv_as ?_   -- t3 impl.go:130
        refine LW.nil ?_
        exact ⟨k + 1, ⟨rfl, rfl, rfl, trivial⟩, ⟨rfl, lead_step _ _ _ hk hlt hc.2⟩, by omega⟩
      · skip
        have hd : lead isHash l = k := lead_done _ _ _ hk (fun hl => by simpa [scv, hl] using hc)
        clear hc
        refine SX.exit (xb_here ?_)
        refine SX.seq ?_
        refine SX.seq (SX.reg ?_)   -- region 8
        refine pu rfl pv_mv ?_   -- t43 impl.go:132
        refine pu rfl (pv_geq rfl rfl) ?_   -- t44 impl.go:132
        refine pu rfl pv_mv ?_   -- t45 impl.go:132
        refine LW.sc true 2 2 45 46 48 (b := decide ((k : Int) ≤ 6)) (fun w' => w1 = w') rfl rfl rfl rfl (fun _ => rfl) rfl (fun ht => ?_) rfl (fun J w' hw' => ?_)   -- t48 := pick ['t45', 't47', "c:['false']"]
        · skip
          refine pu rfl pv_mv ?_   -- t46 impl.go:132
          refine pu rfl (pv_leq rfl rfl) ?_   -- t47 impl.go:132
          exact LW.nil ⟨rfl, rfl⟩
        subst hw'
        refine pu rfl pv_mv ?_   -- t49 impl.go:132
        refine LW.sc true 10 6 49 50 60 (b := scv false (decide ((l.length : Int) = (k : Int))) (isSp (l.getD k 0))) (fun w' => w1 = w') rfl rfl rfl rfl (fun _ => rfl) rfl (fun ht => ?_) rfl (fun J w' hw' => ?_)   -- t60 := pick ['t49', 't59', "c:['false']"]
        · skip
          refine pu rfl pv_mv ?_   -- t50 impl.go:132
          refine pu rfl (pv_len_s rfl) ?_   -- t51 impl.go:132
          refine pu rfl pv_mv ?_   -- t52 impl.go:132
          refine pu rfl (pv_eql rfl rfl) ?_   -- t53 impl.go:132
          refine pu rfl pv_mv ?_   -- t54 impl.go:132
          refine LW.sc false 4 11 54 55 59 (b := isSp (l.getD k 0)) (fun w' => w1 = w') rfl rfl rfl rfl (fun _ => rfl) rfl (fun ht => ?_) rfl (fun J w' hw' => ?_)   -- t59 := pick ['t54', "c:['true']", 't58']
          · skip
            have hlt : k < l.length := by simp at ht; omega
            refine pu rfl pv_mv ?_   -- t55 impl.go:132
            refine pu rfl pv_mv ?_   -- t56 impl.go:132
            refine pu rfl (pv_index (k := k) rfl rfl (by omega) (by omega)) ?_   -- t57 impl.go:132
            refine evd rfl (ev_call cb83 rfl (f83_ok _ w1) ?_)   -- t58 impl.go:132
            rintro _ _ ⟨rfl, rfl⟩
            exact LW.nil ⟨rfl, rfl⟩
          subst hw'
          exact LW.nil ⟨rfl, rfl⟩
        subst hw'
        refine LW.nil ?_
        refine SX.cond rfl (fun hc => ?_) (fun hc => ?_)   -- t60
        · skip
          rw [head_eq l k hd] at hc
          refine SX.seq (SX.reg ?_)   -- region 9
          refine pu rfl pv_mv ?_   -- t61 impl.go:133
          refine pu rfl pv_mv ?_   -- t62 impl.go:133
          refine pu rfl pv_mv ?_   -- t63 impl.go:133
          refine pu rfl (pv_cutFrom (a := k) rfl rfl (by omega) (by omega)) ?_   -- t64 impl.go:133
          refine evd rfl (ev_call cb82 rfl (f82_ok (l.drop k) w1 (by simp; omega)) ?_)   -- t65 impl.go:133
          rintro _ _ ⟨rfl, rfl⟩
          refine pu rfl (pv_bd rfl (bd36 _ _ _)) ?_   -- t66 impl.go:133
          refine evn (ev_stB hb rfl rfl sz36 rfl (encT_one ⟨_, _, _⟩) fun w3 hb3 hg3 hz3 => ?_)   --  impl.go:133
          refine LW.nil ?_
          refine SX.ret ?_
          refine ⟨_, _, _, rfl, hb3, sz36, ?_, hx1.step hg3 (fun g e => by cases e; exact Nat.le_refl _)⟩
          rw [classify, if_neg h1, if_neg h2, if_pos hc, hd]
          rfl
        · skip
          rw [head_eq l k hd] at hc
          have h3 : ¬ headB l = true := by simp [hc]
          refine SX.skip ?_
          refine SX.seq (SX.reg ?_)   -- region 10
          refine pu rfl pv_mv ?_   -- t67 impl.go:135
          refine evd rfl (ev_call cb82 rfl (f82_ok l w1 hs) ?_)   -- t68 impl.go:135
          rintro _ _ ⟨rfl, rfl⟩
          refine pu rfl pv_as ?_   -- t4 impl.go:135
          refine LW.nil ?_
          refine SX.mid (G := Unit) (fun _ => [(0, S l), (2, .pointer (some ⟨w.heap.size, 0, none⟩)), (4, S (trim l))]) (fun _ w' => w1 = w' ∧ ruleB (trim l) = false) ?_ ?_
          · skip
            refine SX.seq (SX.reg ?_)   -- region 11
            refine pu rfl pv_mv ?_   -- t69 impl.go:136
            refine pu rfl (pv_len_s rfl) ?_   -- t70 impl.go:136
            refine pu rfl (pv_geq rfl rfl) ?_   -- t71 impl.go:136
            refine LW.nil ?_
            refine SX.cond rfl (fun hc => ?_) (fun hc => ?_)   -- t71
            · skip
              have h71 : (3 : Int) ≤ ((trim l).length : Int) := by simpa using hc
              refine SX.seq (SX.reg ?_)   -- region 12
              refine pu rfl pv_as ?_   -- t5 impl.go:137
              refine LW.nil ?_
              refine SX.mid (G := Unit) (fun _ => [(0, S l), (2, .pointer (some ⟨w.heap.size, 0, none⟩)), (4, S (trim l)), (5, .bool (decide (lead isDash (trim l) = (trim l).length)))]) (fun _ w' => w1 = w') ?_ ?_
              · skip
                refine SX.seq (SX.reg ?_)   -- region 13
                refine pu rfl pv_as ?_   -- t6 impl.go:138
                refine LW.nil ?_
                refine SX.block ?_
                have hle2 := lead_le isDash (trim l)
                refine SX.loop (G := Nat) (fun i => [(0, S l), (2, .pointer (some ⟨w.heap.size, 0, none⟩)), (4, S (trim l)), (5, .bool true), (6, iv i)]) (fun i w' => w1 = w' ∧ i ≤ lead isDash (trim l)) (fun i => (trim l).length - i) 0 ⟨rfl, rfl, rfl, rfl, rfl, trivial⟩ ⟨rfl, Nat.zero_le _⟩ ?_
                rintro i w2 ρ2 ⟨hw, hi⟩
                subst hw
                refine SX.seq ?_
                refine SX.seq (SX.reg ?_)   -- region 14
                refine pu rfl pv_mv ?_   -- t72 impl.go:138
                refine pu rfl pv_mv ?_   -- t73 impl.go:138
                refine pu rfl (pv_len_s rfl) ?_   -- t74 impl.go:138
                refine pu rfl (pv_lss rfl rfl) ?_   -- t75 impl.go:138
                refine LW.nil ?_
                refine SX.cond rfl (fun hc => ?_) (fun hc => ?_)   -- t75
                · skip
                  have hlt : i < (trim l).length := by simpa using hc
                  refine SX.skip ?_
                  refine SX.seq ?_
                  refine SX.block ?_
                  refine SX.seq (SX.reg ?_)   -- region 16
                  refine pu rfl pv_mv ?_   -- t78 impl.go:139
                  refine pu rfl pv_mv ?_   -- t79 impl.go:139
                  refine pu rfl (pv_index (k := i) rfl rfl (by omega) (by omega)) ?_   -- t80 impl.go:139
                  refine pu rfl (pv_neqB (b := 45) rfl rfl) ?_   -- t81 impl.go:139
                  refine LW.nil ?_
                  refine SX.cond rfl (fun hc => ?_) (fun hc => ?_)   -- t81
                  · skip
                    have hd2 : lead isDash (trim l) = i := lead_done _ _ _ hi (fun _ => by simpa [isDash] using hc)
                    have hne : ¬ lead isDash (trim l) = (trim l).length := by omega
                    refine SX.seq (SX.reg ?_)   -- region 17
                    refine pu rfl pv_as ?_   -- t5 impl.go:140
                    refine LW.nil ?_
                    refine SX.exit (xb_on rfl (xb_here ?_))
                    exact ⟨(), ⟨rfl, rfl, rfl, by simp [hne]; rfl, trivial⟩, rfl⟩
                  · skip
                    have hq : isDash ((trim l).getD i 0) = true := by simpa [isDash] using hc
                    refine SX.skip ?_
                    refine SX.reg ?_
                    refine pu rfl pv_mv ?_   -- t76 impl.go:138
                    refine pu rfl (pv_add rfl rfl (by omega)) ?_   -- t77 impl.go:138
                    refine pu rfl pv_as ?_   -- t6 impl.go:138
                    refine LW.nil ?_
                    exact ⟨i + 1, ⟨rfl, rfl, rfl, rfl, rfl, trivial⟩, ⟨rfl, lead_step _ _ _ hi hlt hq⟩, by omega⟩
                · skip
                  have hge : (trim l).length ≤ i := by simpa using hc
                  have hd2 : lead isDash (trim l) = (trim l).length := by omega
                  refine SX.exit (xb_here ?_)
                  exact ⟨(), ⟨rfl, rfl, rfl, by simp [hd2]; rfl, trivial⟩, rfl⟩
              rintro _ w2 ρ2 hw
              subst hw
              refine SX.seq (SX.reg ?_)   -- region 18
              refine pu rfl pv_mv ?_   -- t82 impl.go:144
              refine LW.nil ?_
              refine SX.cond rfl (fun hc => ?_) (fun hc => ?_)   -- t82
              · skip
                rw [← rule_eq _ h71] at hc
                refine SX.seq (SX.reg ?_)   -- region 19
                refine pu rfl (pv_bd rfl (bd36 _ _ _)) ?_   -- t83 impl.go:145
                refine evn (ev_stB hb rfl rfl sz36 rfl (encT_one ⟨_, _, _⟩) fun w3 hb3 hg3 hz3 => ?_)   --  impl.go:145
                refine LW.nil ?_
                refine SX.ret ?_
                refine ⟨_, _, _, rfl, hb3, sz36, ?_, hx1.step hg3 (fun g e => by cases e; exact Nat.le_refl _)⟩
                rw [classify, if_neg h1, if_neg h2, if_neg h3, if_pos hc]
                rfl
              · skip
                rw [← rule_eq _ h71] at hc
                refine SX.skip ?_
                exact ⟨(), ⟨rfl, rfl, rfl, trivial⟩, rfl, hc⟩
            · skip
              have h71 : ruleB (trim l) = false := by simp at hc; simp [ruleB]; omega
              refine SX.skip ?_
              exact ⟨(), ⟨rfl, rfl, rfl, trivial⟩, rfl, h71⟩
          rintro _ w2 ρ3 ⟨hw, h4⟩
          subst hw
          refine SX.seq ?_
          refine SX.seq (SX.reg ?_)   -- region 20
          refine pu rfl pv_mv ?_   -- t84 impl.go:148
          refine pu rfl (pv_len_s rfl) ?_   -- t85 impl.go:148
          refine pu rfl (pv_geq rfl rfl) ?_   -- t86 impl.go:148
          refine pu rfl pv_mv ?_   -- t87 impl.go:148
          refine LW.sc true 3 3 87 88 91 (b := decide (l.getD 0 0 = 45)) (fun w' => w1 = w') rfl rfl rfl rfl (fun _ => rfl) rfl (fun ht => ?_) rfl (fun J w' hw' => ?_)   -- t91 := pick ['t87', 't90', "c:['false']"]
          · skip
            have hl2 : 2 ≤ l.length := by simp at ht; omega
            refine pu rfl pv_mv ?_   -- t88 impl.go:148
            refine pu rfl (pv_index (k := 0) rfl rfl (by omega) (by omega)) ?_   -- t89 impl.go:148
            refine pu rfl (pv_eqlB (b := 45) rfl rfl) ?_   -- t90 impl.go:148
            exact LW.nil ⟨rfl, rfl⟩
          subst hw'
          refine pu rfl pv_mv ?_   -- t92 impl.go:148
          refine LW.sc true 3 8 92 93 96 (b := isSp (l.getD 1 0)) (fun w' => w1 = w') rfl rfl rfl rfl (fun _ => rfl) rfl (fun ht => ?_) rfl (fun J w' hw' => ?_)   -- t96 := pick ['t92', 't95', "c:['false']"]
          · skip
            have hl2 : 2 ≤ l.length := by simp [scv] at ht; omega
            refine pu rfl pv_mv ?_   -- t93 impl.go:148
            refine pu rfl (pv_index (k := 1) rfl rfl (by omega) (by omega)) ?_   -- t94 impl.go:148
            refine evd rfl (ev_call cb83 rfl (f83_ok _ w1) ?_)   -- t95 impl.go:148
            rintro _ _ ⟨rfl, rfl⟩
            exact LW.nil ⟨rfl, rfl⟩
          subst hw'
          refine LW.nil ?_
          refine SX.cond rfl (fun hc => ?_) (fun hc => ?_)   -- t96
          · skip
            rw [item_eq] at hc
            refine SX.seq (SX.reg ?_)   -- region 21
            refine pu rfl pv_mv ?_   -- t97 impl.go:149
            refine pu rfl (pv_cutFrom (a := 1) rfl rfl (by omega) (by omega)) ?_   -- t98 impl.go:149
            refine evd rfl (ev_call cb82 rfl (f82_ok (l.drop 1) w1 (by simp; omega)) ?_)   -- t99 impl.go:149
            rintro _ _ ⟨rfl, rfl⟩
            refine pu rfl (pv_bd rfl (bd36 _ _ _)) ?_   -- t100 impl.go:149
            refine evn (ev_stB hb rfl rfl sz36 rfl (encT_one ⟨_, _, _⟩) fun w3 hb3 hg3 hz3 => ?_)   --  impl.go:149
            refine LW.nil ?_
            refine SX.ret ?_
            refine ⟨_, _, _, rfl, hb3, sz36, ?_, hx1.step hg3 (fun g e => by cases e; exact Nat.le_refl _)⟩
            rw [classify, if_neg h1, if_neg h2, if_neg h3, if_neg (by simp [h4]), if_pos hc]
            rfl
          · skip
            rw [item_eq] at hc
            have h5 : ¬ itemB l = true := by simp [hc]
            refine SX.skip ?_
            refine SX.seq ?_
            refine SX.seq (SX.reg ?_)   -- region 22
            refine pu rfl pv_mv ?_   -- t101 impl.go:151
            refine pu rfl (pv_index (k := 0) rfl rfl (by omega) (by omega)) ?_   -- t102 impl.go:151
            refine pu rfl (pv_eqlB (b := 62) rfl rfl) ?_   -- t103 impl.go:151
            refine LW.nil ?_
            refine SX.cond rfl (fun hc => ?_) (fun hc => ?_)   -- t103
            · skip
              have h6 : l.getD 0 0 = 62 := by simpa using hc
              refine SX.seq (SX.reg ?_)   -- region 23
              refine pu rfl pv_mv ?_   -- t104 impl.go:152
              refine pu rfl (pv_cutFrom (a := 1) rfl rfl (by omega) (by omega)) ?_   -- t105 impl.go:152
              refine evd rfl (ev_call cb82 rfl (f82_ok (l.drop 1) w1 (by simp; omega)) ?_)   -- t106 impl.go:152
              rintro _ _ ⟨rfl, rfl⟩
              refine pu rfl (pv_bd rfl (bd36 _ _ _)) ?_   -- t107 impl.go:152
              refine evn (ev_stB hb rfl rfl sz36 rfl (encT_one ⟨_, _, _⟩) fun w3 hb3 hg3 hz3 => ?_)   --  impl.go:152
              refine LW.nil ?_
              refine SX.ret ?_
              refine ⟨_, _, _, rfl, hb3, sz36, ?_, hx1.step hg3 (fun g e => by cases e; exact Nat.le_refl _)⟩
              rw [classify, if_neg h1, if_neg h2, if_neg h3, if_neg (by simp [h4]), if_neg h5, if_pos h6]
              rfl
            · skip
              have h6 : ¬ l.getD 0 0 = 62 := by simpa using hc
              refine SX.skip ?_
              refine SX.seq (SX.reg ?_)   -- region 24
              refine pu rfl pv_mv ?_   -- t108 impl.go:154
              refine pu rfl (pv_bd rfl (bd36 _ _ _)) ?_   -- t109 impl.go:154
              refine evn (ev_stB hb rfl rfl sz36 rfl (encT_one ⟨_, _, _⟩) fun w3 hb3 hg3 hz3 => ?_)   --  impl.go:154
              refine LW.nil ?_
              refine SX.ret ?_
              refine ⟨_, _, _, rfl, hb3, sz36, ?_, hx1.step hg3 (fun g e => by cases e; exact Nat.le_refl _)⟩
              rw [classify, if_neg h1, if_neg h2, if_neg h3, if_neg (by simp [h4]), if_neg h5, if_neg h6]
              rfl

theorem rule_eq' (t : List UInt8) : scv true (decide ((3 : Int) ≤ (t.length : Int))) (decide (lead isDash t = t.length)) = ruleB t := by
  have e : decide ((3 : Int) ≤ (t.length : Int)) = decide (3 ≤ t.length) := by rw [decide_eq_decide]; omega
  simp only [scv, ruleB, e]

theorem f25_ok (l : List UInt8) (w : World) (hs : l.length ≤ 4294967296) : Fn 25 [S l] w (fun v w' => v = .agg (encT (classify l)).toArray ∧ Ext w w') := by
  have htl := trim_len l
  refine Fn.mkC (N := 84) Yabc.func25 rfl rfl rfl ag36 rfl ?_
  refine SX.seq (SX.reg ?_)   -- region 0
  refine evd rfl (ev_al3 if36 fun w1 hn1 => ?_)   -- t2 spec.go:567
  have hx1 := hn1.ext
  have hb := hn1.blk
  refine LW.nil ?_
  refine SX.seq (SX.reg ?_)   -- region 1
  refine pu rfl pv_mv ?_   -- t5 spec.go:568
  refine evd rfl (ev_call cb84 rfl (f84_ok l w1 hs) ?_)   -- t6 spec.go:568
  rintro _ _ ⟨rfl, rfl⟩
  refine pu rfl pv_as ?_   -- t3 spec.go:568
  refine LW.nil ?_
  refine SX.seq ?_
  refine SX.seq (SX.reg ?_)   -- region 2
  refine pu rfl pv_mv ?_   -- t7 spec.go:569
  refine pu rfl (pv_len_s rfl) ?_   -- t8 spec.go:569
  refine pu rfl (pv_eql rfl rfl) ?_   -- t9 spec.go:569
  refine LW.nil ?_
  refine SX.cond rfl (fun hc => ?_) (fun hc => ?_)   -- t9
  · skip
    have h1 : (trim l).length = 0 := by simp at hc; simp [hc]
    refine SX.seq (SX.reg ?_)   -- region 3
    refine pu rfl (pv_bd rfl (bd36a _)) ?_   -- t10 spec.go:570
    refine evn (ev_stB hb rfl rfl sz36 rfl (encT_one ⟨_, _, _⟩) fun w3 hb3 hg3 hz3 => ?_)   --  spec.go:570
    refine LW.nil ?_
    refine SX.ret ?_
    refine ⟨_, _, _, rfl, hb3, sz36, ?_, hx1.step hg3 (fun g e => by cases e; exact Nat.le_refl _)⟩
    rw [classify, if_pos h1]
    rfl
  · skip
    have h1 : ¬ (trim l).length = 0 := by simp at hc; simpa using hc
    have hpos : 0 < l.length := by have := trim_len l; omega
    refine SX.skip ?_
    refine SX.seq ?_
    refine SX.seq (SX.reg ?_)   -- region 4
    refine pu rfl pv_mv ?_   -- t11 spec.go:572
    refine evd rfl (ev_call cb85 rfl (f85_ok l w1) ?_)   -- t12 spec.go:572
    rintro _ _ ⟨rfl, rfl⟩
    refine LW.nil ?_
    refine SX.cond rfl (fun hc => ?_) (fun hc => ?_)   -- t12
    · skip
      refine SX.seq (SX.reg ?_)   -- region 5
      refine pu rfl (pv_bd rfl (bd36a _)) ?_   -- t13 spec.go:573
      refine evn (ev_stB hb rfl rfl sz36 rfl (encT_one ⟨_, _, _⟩) fun w3 hb3 hg3 hz3 => ?_)   --  spec.go:573
      refine LW.nil ?_
      refine SX.ret ?_
      refine ⟨_, _, _, rfl, hb3, sz36, ?_, hx1.step hg3 (fun g e => by cases e; exact Nat.le_refl _)⟩
      rw [classify, if_neg h1, if_pos hc]
      rfl
    · skip
      have h2 : ¬ ticks l = true := by simp [hc]
      refine SX.skip ?_
      refine SX.seq (SX.reg ?_)   -- region 6
      refine pu rfl pv_as ?_   -- t4 spec.go:575
      refine LW.nil ?_
      refine SX.seq ?_
      refine SX.block ?_
      have hle := lead_le isHash l
      refine SX.loop (G := Nat) (fun k => [(0, S l), (2, .pointer (some ⟨w.heap.size, 0, none⟩)), (3, S (trim l)), (4, iv k)]) (fun k w' => w1 = w' ∧ k ≤ lead isHash l) (fun k => l.length - k) 0 ⟨rfl, rfl, rfl, rfl, trivial⟩ ⟨rfl, Nat.zero_le _⟩ ?_
      rintro k w2 ρ1 ⟨hw, hk⟩
      subst hw
      refine SX.seq ?_
      refine SX.seq (SX.reg ?_)   -- region 7
      refine pu rfl pv_mv ?_   -- t14 spec.go:576
      refine pu rfl pv_mv ?_   -- t15 spec.go:576
      refine pu rfl (pv_len_s rfl) ?_   -- t16 spec.go:576
      refine pu rfl (pv_lss rfl rfl) ?_   -- t17 spec.go:576
      refine pu rfl pv_mv ?_   -- t18 spec.go:576
      refine LW.sc true 4 4 18 19 23 (b := isHash (l.getD k 0)) (fun w' => w1 = w') rfl rfl rfl rfl (fun _ => rfl) rfl (fun ht => ?_) rfl (fun J w' hw' => ?_)   -- t23 := pick ['t18', 't22', "c:['false']"]
      · skip
        have hlt : k < l.length := by simpa using ht
        refine pu rfl pv_mv ?_   -- t19 spec.go:576
        refine pu rfl pv_mv ?_   -- t20 spec.go:576
        refine pu rfl (pv_index (k := k) rfl rfl (by omega) (by omega)) ?_   -- t21 spec.go:576
        refine pu rfl (pv_eqlB (b := 35) rfl rfl) ?_   -- t22 spec.go:576
        exact LW.nil ⟨rfl, rfl⟩
      subst hw'
      refine LW.nil ?_
      refine SX.cond rfl (fun hc => ?_) (fun hc => ?_)   -- t23
      · skip
        simp only [scv, Bool.and_eq_true, decide_eq_true_eq] at hc
        have hlt : k < l.length := by have := hc.1; omega
        refine SX.skip ?_
        refine SX.block ?_
        refine SX.reg ?_
        refine pu rfl pv_mv ?_   -- t24 spec.go:577
        refine pu rfl (pv_add rfl rfl (by omega)) ?_   -- t25 spec.go:577
        refine pu rfl pv_as ?_   -- t4 spec.go:577
        refine LW.nil ?_
        exact ⟨k + 1, ⟨rfl, rfl, rfl, rfl, trivial⟩, ⟨rfl, lead_step _ _ _ hk hlt hc.2⟩, by omega⟩
      · skip
        have hd : lead isHash l = k := lead_done _ _ _ hk (fun hl => by simpa [scv, hl] using hc)
        clear hc
        refine SX.exit (xb_here ?_)
        refine SX.seq ?_
        refine SX.seq (SX.reg ?_)   -- region 9
        refine pu rfl pv_mv ?_   -- t26 spec.go:579
        refine pu rfl (pv_geq rfl rfl) ?_   -- t27 spec.go:579
        refine pu rfl pv_mv ?_   -- t28 spec.go:579
        refine LW.sc true 2 2 28 29 31 (b := decide ((k : Int) ≤ 6)) (fun w' => w1 = w') rfl rfl rfl rfl (fun _ => rfl) rfl (fun ht => ?_) rfl (fun J w' hw' => ?_)   -- t31 := pick ['t28', 't30', "c:['false']"]
        · skip
          refine pu rfl pv_mv ?_   -- t29 spec.go:579
          refine pu rfl (pv_leq rfl rfl) ?_   -- t30 spec.go:579
          exact LW.nil ⟨rfl, rfl⟩
        subst hw'
        refine pu rfl pv_mv ?_   -- t32 spec.go:579
        refine LW.sc true 10 6 32 33 43 (b := scv false (decide ((k : Int) = (l.length : Int))) (isSp (l.getD k 0))) (fun w' => w1 = w') rfl rfl rfl rfl (fun _ => rfl) rfl (fun ht => ?_) rfl (fun J w' hw' => ?_)   -- t43 := pick ['t32', 't42', "c:['false']"]
        · skip
          refine pu rfl pv_mv ?_   -- t33 spec.go:579
          refine pu rfl pv_mv ?_   -- t34 spec.go:579
          refine pu rfl (pv_len_s rfl) ?_   -- t35 spec.go:579
          refine pu rfl (pv_eql rfl rfl) ?_   -- t36 spec.go:579
          refine pu rfl pv_mv ?_   -- t37 spec.go:579
          refine LW.sc false 4 11 37 38 42 (b := isSp (l.getD k 0)) (fun w' => w1 = w') rfl rfl rfl rfl (fun _ => rfl) rfl (fun ht => ?_) rfl (fun J w' hw' => ?_)   -- t42 := pick ['t37', "c:['true']", 't41']
          · skip
            have hlt : k < l.length := by simp at ht; omega
            refine pu rfl pv_mv ?_   -- t38 spec.go:579
            refine pu rfl pv_mv ?_   -- t39 spec.go:579
            refine pu rfl (pv_index (k := k) rfl rfl (by omega) (by omega)) ?_   -- t40 spec.go:579
            refine evd rfl (ev_call cb86 rfl (f86_ok _ w1) ?_)   -- t41 spec.go:579
            rintro _ _ ⟨rfl, rfl⟩
            exact LW.nil ⟨rfl, rfl⟩
          subst hw'
          exact LW.nil ⟨rfl, rfl⟩
        subst hw'
        refine LW.nil ?_
        refine SX.cond rfl (fun hc => ?_) (fun hc => ?_)   -- t43
        · skip
          rw [head_eq' l k hd] at hc
          refine SX.seq (SX.reg ?_)   -- region 10
          refine pu rfl pv_mv ?_   -- t44 spec.go:580
          refine pu rfl pv_mv ?_   -- t45 spec.go:580
          refine pu rfl pv_mv ?_   -- t46 spec.go:580
          refine pu rfl (pv_cutFrom (a := k) rfl rfl (by omega) (by omega)) ?_   -- t47 spec.go:580
          refine evd rfl (ev_call cb84 rfl (f84_ok (l.drop k) w1 (by simp; omega)) ?_)   -- t48 spec.go:580
          rintro _ _ ⟨rfl, rfl⟩
          refine pu rfl (pv_bd rfl (bd36 _ _ _)) ?_   -- t49 spec.go:580
          refine evn (ev_stB hb rfl rfl sz36 rfl (encT_one ⟨_, _, _⟩) fun w3 hb3 hg3 hz3 => ?_)   --  spec.go:580
          refine LW.nil ?_
          refine SX.ret ?_
          refine ⟨_, _, _, rfl, hb3, sz36, ?_, hx1.step hg3 (fun g e => by cases e; exact Nat.le_refl _)⟩
          rw [classify, if_neg h1, if_neg h2, if_pos hc, hd]
          rfl
        · skip
          rw [head_eq' l k hd] at hc
          have h3 : ¬ headB l = true := by simp [hc]
          refine SX.skip ?_
          refine SX.seq ?_
          refine SX.seq (SX.reg ?_)   -- region 11
          refine pu rfl pv_mv ?_   -- t50 spec.go:582
          refine pu rfl (pv_len_s rfl) ?_   -- t51 spec.go:582
          refine pu rfl (pv_geq rfl rfl) ?_   -- t52 spec.go:582
          refine pu rfl pv_mv ?_   -- t53 spec.go:582
          refine LW.sc true 2 3 53 54 56 (b := decide (lead isDash (trim l) = (trim l).length)) (fun w' => w1 = w') rfl rfl rfl rfl (fun _ => rfl) rfl (fun ht => ?_) rfl (fun J w' hw' => ?_)   -- t56 := pick ['t53', 't55', "c:['false']"]
          · skip
            refine pu rfl pv_mv ?_   -- t54 spec.go:582
            refine evd rfl (ev_call cb87 rfl (f87_ok (trim l) w1 (by omega)) ?_)   -- t55 spec.go:582
            rintro _ _ ⟨rfl, rfl⟩
            exact LW.nil ⟨rfl, rfl⟩
          subst hw'
          refine LW.nil ?_
          refine SX.cond rfl (fun hc => ?_) (fun hc => ?_)   -- t56
          · skip
            have h4 : ruleB (trim l) = true := by rw [← rule_eq']; exact hc
            refine SX.seq (SX.reg ?_)   -- region 12
            refine pu rfl (pv_bd rfl (bd36a _)) ?_   -- t57 spec.go:583
            refine evn (ev_stB hb rfl rfl sz36 rfl (encT_one ⟨_, _, _⟩) fun w3 hb3 hg3 hz3 => ?_)   --  spec.go:583
            refine LW.nil ?_
            refine SX.ret ?_
            refine ⟨_, _, _, rfl, hb3, sz36, ?_, hx1.step hg3 (fun g e => by cases e; exact Nat.le_refl _)⟩
            rw [classify, if_neg h1, if_neg h2, if_neg h3, if_pos h4]
            rfl
          · skip
            have h4 : ¬ ruleB (trim l) = true := by rw [← rule_eq']; simp [hc]
            refine SX.skip ?_
            refine SX.seq ?_
            refine SX.seq (SX.reg ?_)   -- region 13
            refine pu rfl pv_mv ?_   -- t58 spec.go:585
            refine pu rfl (pv_len_s rfl) ?_   -- t59 spec.go:585
            refine pu rfl (pv_geq rfl rfl) ?_   -- t60 spec.go:585
            refine pu rfl pv_mv ?_   -- t61 spec.go:585
            refine LW.sc true 3 3 61 62 65 (b := decide (l.getD 0 0 = 45)) (fun w' => w1 = w') rfl rfl rfl rfl (fun _ => rfl) rfl (fun ht => ?_) rfl (fun J w' hw' => ?_)   -- t65 := pick ['t61', 't64', "c:['false']"]
            · skip
              have hl2 : 2 ≤ l.length := by simp at ht; omega
              refine pu rfl pv_mv ?_   -- t62 spec.go:585
              refine pu rfl (pv_index (k := 0) rfl rfl (by omega) (by omega)) ?_   -- t63 spec.go:585
              refine pu rfl (pv_eqlB (b := 45) rfl rfl) ?_   -- t64 spec.go:585
              exact LW.nil ⟨rfl, rfl⟩
            subst hw'
            refine pu rfl pv_mv ?_   -- t66 spec.go:585
            refine LW.sc true 3 8 66 67 70 (b := isSp (l.getD 1 0)) (fun w' => w1 = w') rfl rfl rfl rfl (fun _ => rfl) rfl (fun ht => ?_) rfl (fun J w' hw' => ?_)   -- t70 := pick ['t66', 't69', "c:['false']"]
            · skip
              have hl2 : 2 ≤ l.length := by simp [scv] at ht; omega
              refine pu rfl pv_mv ?_   -- t67 spec.go:585
              refine pu rfl (pv_index (k := 1) rfl rfl (by omega) (by omega)) ?_   -- t68 spec.go:585
              refine evd rfl (ev_call cb86 rfl (f86_ok _ w1) ?_)   -- t69 spec.go:585
              rintro _ _ ⟨rfl, rfl⟩
              exact LW.nil ⟨rfl, rfl⟩
            subst hw'
            refine LW.nil ?_
            refine SX.cond rfl (fun hc => ?_) (fun hc => ?_)   -- t70
            · skip
              rw [item_eq] at hc
              refine SX.seq (SX.reg ?_)   -- region 14
              refine pu rfl pv_mv ?_   -- t71 spec.go:586
              refine pu rfl (pv_cutFrom (a := 1) rfl rfl (by omega) (by omega)) ?_   -- t72 spec.go:586
              refine evd rfl (ev_call cb84 rfl (f84_ok (l.drop 1) w1 (by simp; omega)) ?_)   -- t73 spec.go:586
              rintro _ _ ⟨rfl, rfl⟩
              refine pu rfl (pv_bd rfl (bd36c _ _)) ?_   -- t74 spec.go:586
              refine evn (ev_stB hb rfl rfl sz36 rfl (encT_one ⟨_, _, _⟩) fun w3 hb3 hg3 hz3 => ?_)   --  spec.go:586
              refine LW.nil ?_
              refine SX.ret ?_
              refine ⟨_, _, _, rfl, hb3, sz36, ?_, hx1.step hg3 (fun g e => by cases e; exact Nat.le_refl _)⟩
              rw [classify, if_neg h1, if_neg h2, if_neg h3, if_neg h4, if_pos hc]
              rfl
            · skip
              rw [item_eq] at hc
              have h5 : ¬ itemB l = true := by simp [hc]
              refine SX.skip ?_
              refine SX.seq ?_
              refine SX.seq (SX.reg ?_)   -- region 15
              refine pu rfl pv_mv ?_   -- t75 spec.go:588
              refine pu rfl (pv_index (k := 0) rfl rfl (by omega) (by omega)) ?_   -- t76 spec.go:588
              refine pu rfl (pv_eqlB (b := 62) rfl rfl) ?_   -- t77 spec.go:588
              refine LW.nil ?_
              refine SX.cond rfl (fun hc => ?_) (fun hc => ?_)   -- t77
              · skip
                have h6 : l.getD 0 0 = 62 := by simpa using hc
                refine SX.seq (SX.reg ?_)   -- region 16
                refine pu rfl pv_mv ?_   -- t78 spec.go:589
                refine pu rfl (pv_cutFrom (a := 1) rfl rfl (by omega) (by omega)) ?_   -- t79 spec.go:589
                refine evd rfl (ev_call cb84 rfl (f84_ok (l.drop 1) w1 (by simp; omega)) ?_)   -- t80 spec.go:589
                rintro _ _ ⟨rfl, rfl⟩
                refine pu rfl (pv_bd rfl (bd36c _ _)) ?_   -- t81 spec.go:589
                refine evn (ev_stB hb rfl rfl sz36 rfl (encT_one ⟨_, _, _⟩) fun w3 hb3 hg3 hz3 => ?_)   --  spec.go:589
                refine LW.nil ?_
                refine SX.ret ?_
                refine ⟨_, _, _, rfl, hb3, sz36, ?_, hx1.step hg3 (fun g e => by cases e; exact Nat.le_refl _)⟩
                rw [classify, if_neg h1, if_neg h2, if_neg h3, if_neg h4, if_neg h5, if_pos h6]
                rfl
              · skip
                have h6 : ¬ l.getD 0 0 = 62 := by simpa using hc
                refine SX.skip ?_
                refine SX.seq (SX.reg ?_)   -- region 17
                refine pu rfl pv_mv ?_   -- t82 spec.go:591
                refine pu rfl (pv_bd rfl (bd36c _ _)) ?_   -- t83 spec.go:591
                refine evn (ev_stB hb rfl rfl sz36 rfl (encT_one ⟨_, _, _⟩) fun w3 hb3 hg3 hz3 => ?_)   --  spec.go:591
                refine LW.nil ?_
                refine SX.ret ?_
                refine ⟨_, _, _, rfl, hb3, sz36, ?_, hx1.step hg3 (fun g e => by cases e; exact Nat.le_refl _)⟩
                rw [classify, if_neg h1, if_neg h2, if_neg h3, if_neg h4, if_neg h5, if_neg h6]
                rfl

theorem f56_ok (p : Tri) (w : World) : Fn 56 [(.agg (encT p).toArray)] w (fun v w' => v = (.agg (encT p).toArray) ∧ Ext w w') := by
  refine Fn.mkC (N := 10) Yabc.func56 rfl rfl rfl ag55 rfl ?_
  refine SX.seq (SX.reg ?_)   -- region 0
  refine evd rfl (ev_box (cs := encT p) rfl fun w1 hn1 => ?_)   -- t1(x) laws.go:698
  refine evd rfl (ev_al3 if55 fun w2 hn2 => ?_)   -- t2 laws.go:698
  have hb1 := hn1.blk.ext hn2.ext
  refine LW.nil ?_
  refine SX.seq (SX.reg ?_)   -- region 1
  refine pu rfl (pv_fa fb36_0 rfl) ?_   -- t3 laws.go:699
  refine pu rfl (pv_ld ag3 rfl (hb1.cell rfl)) ?_   -- t4 laws.go:699
  refine pu rfl (pv_fa fb36_1 rfl) ?_   -- t5 laws.go:699
  refine pu rfl (pv_ld ag3 rfl (hb1.cell rfl)) ?_   -- t6 laws.go:699
  refine pu rfl (pv_fa fb36_2 rfl) ?_   -- t7 laws.go:699
  refine pu rfl (pv_ld ag9 rfl (hb1.cell rfl)) ?_   -- t8 laws.go:699
  refine pu rfl (pv_bd rfl (bd55 _ _ _)) ?_   -- t9 laws.go:699
  refine evn (ev_stB hn2.blk rfl rfl sz55 rfl (encT_one ⟨_, _, _⟩) fun w3 hb3 hg3 hz3 => ?_)   --  laws.go:699
  refine LW.nil ?_
  refine SX.ret ?_
  exact ⟨_, _, _, rfl, hb3, sz55, rfl, (hn1.ext.trans hn2.ext).step hg3 (fun g e => by cases e; exact hn1.ext.size)⟩

theorem f57_ok (p : Tri) (w : World) : Fn 57 [(.agg (encT p).toArray), (.agg (encT p).toArray)] w (fun v w' => v = .bool true ∧ Ext w w') := by
  refine Fn.mk1 (N := 24) Yabc.func57 rfl rfl rfl rfl ?_
  refine SX.seq (SX.reg ?_)   -- region 0
  refine evd rfl (ev_box (cs := encT p) rfl fun w1 hn1 => ?_)   -- t2(a) laws.go:726
  refine evd rfl (ev_box (cs := encT p) rfl fun w2 hn2 => ?_)   -- t3(b) laws.go:726
  have hb1 := hn1.blk.ext hn2.ext
  have hb2 := hn2.blk
  refine pu rfl pv_as ?_   -- t4 laws.go:726
  refine LW.nil ?_
  refine SX.seq (SX.reg ?_)   -- region 1
  refine pu rfl (pv_fa fb55_0 rfl) ?_   -- t5 laws.go:727
  refine pu rfl (pv_ld ag3 rfl (hb1.cell rfl)) ?_   -- t6 laws.go:727
  refine pu rfl (pv_fa fb55_0 rfl) ?_   -- t7 laws.go:727
  refine pu rfl (pv_ld ag3 rfl (hb2.cell rfl)) ?_   -- t8 laws.go:727
  refine pu rfl (pv_eql rfl rfl) ?_   -- t9 laws.go:727
  refine pu rfl pv_mv ?_   -- t10 laws.go:727
  refine LW.sc true 5 5 10 11 16 (b := decide (p.b = p.b)) (fun w' => w2 = w') rfl rfl rfl rfl (fun _ => rfl) rfl (fun ht => ?_) rfl (fun J w' hw' => ?_)   -- t16 := pick ['t10', 't15', "c:['false']"]
  · skip
    refine pu rfl (pv_fa fb55_1 rfl) ?_   -- t11 laws.go:727
    refine pu rfl (pv_ld ag3 rfl (hb1.cell rfl)) ?_   -- t12 laws.go:727
    refine pu rfl (pv_fa fb55_1 rfl) ?_   -- t13 laws.go:727
    refine pu rfl (pv_ld ag3 rfl (hb2.cell rfl)) ?_   -- t14 laws.go:727
    refine pu rfl (pv_eql rfl rfl) ?_   -- t15 laws.go:727
    exact LW.nil ⟨rfl, rfl⟩
  subst hw'
  refine pu rfl pv_mv ?_   -- t17 laws.go:727
  refine LW.sc true 5 12 17 18 23 (b := decide (p.s = p.s)) (fun w' => w2 = w') rfl rfl rfl rfl (fun _ => rfl) rfl (fun ht => ?_) rfl (fun J w' hw' => ?_)   -- t23 := pick ['t17', 't22', "c:['false']"]
  · skip
    refine pu rfl (pv_fa fb55_2 rfl) ?_   -- t18 laws.go:727
    refine pu rfl (pv_ld ag9 rfl (hb1.cell rfl)) ?_   -- t19 laws.go:727
    refine pu rfl (pv_fa fb55_2 rfl) ?_   -- t20 laws.go:727
    refine pu rfl (pv_ld ag9 rfl (hb2.cell rfl)) ?_   -- t21 laws.go:727
    refine pu rfl (pv_eqlS rfl rfl) ?_   -- t22 laws.go:727
    exact LW.nil ⟨rfl, rfl⟩
  subst hw'
  refine pu rfl pv_as ?_   -- t4 laws.go:727
  refine LW.nil ?_
  refine SX.ret ?_
  exact ⟨by simp [ev, upd, scv], hn1.ext.trans hn2.ext⟩

end Go.Proofs.Ybuabw
