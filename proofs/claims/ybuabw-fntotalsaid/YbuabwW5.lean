/-
  WALKS. Unparse. Own work for the seat Ybuabw (the steps of each walk were typed by a program of ours off the printed code).
-/
import Derived.Test.YbuabwW1
namespace Go.Proofs.Ybuabw
open Go.RowKit
set_option linter.unusedVariables false
set_option linter.unusedSimpArgs false
set_option maxRecDepth 20000

theorem f32_ok (v0 : Value) (l : List Tri) (w : World) (hr : Rd w tI v0 l) (hs : l.length ≤ 1073741824) (ht : tl l ≤ 1073741824) : Fn 32 [v0] w (fun v' w' => v' = S (unparse l) ∧ Ext w w') := by
  refine Fn.mk1 (N := 101) Yabc.func32 rfl rfl rfl rfl ?_
  refine SX.seq (SX.reg ?_)   -- region 0
  refine pu rfl pv_as ?_   -- t2 impl.go:305
  refine LW.nil ?_
  refine SX.seq (SX.reg ?_)   -- region 1
  refine pu rfl pv_as ?_   -- t3 impl.go:306
  refine LW.nil ?_
  refine SX.seq (SX.reg ?_)   -- region 2
  refine pu rfl pv_as ?_   -- t4 impl.go:307
  refine LW.nil ?_
  refine SX.seq ?_
  refine SX.seq (SX.reg ?_)   -- region 3
  refine pu rfl pv_mv ?_   -- t11 impl.go:308
  refine pu rfl (pv_lenV (T := tI) Yabc.underlying23 hr rfl) ?_   -- t12 impl.go:308
  refine pu rfl pv_mv ?_   -- t13 impl.go:308
  refine LW.nil ?_
  refine SX.block ?_
  refine SX.loop2 (fun (k : Nat) v => [(3, v), (4, iv (unpN (l.take k)).2), (11, v0), (12, iv l.length), (13, iv k)]) (fun k v w' => k ≤ l.length ∧ Ext w w' ∧ Own w' w.heap.size tB v (unpN (l.take k)).1) (fun k _ => l.length - k) 0 (.slice none 0 0) ⟨rfl, rfl, rfl, rfl, rfl, trivial⟩ ⟨Nat.zero_le _, Ext.refl w, Own.nil _ _ _⟩ ?_
  rintro k v w2 ρ1 ⟨hk, hx, hown⟩
  have htk := tl_le l k
  have hul := unpN_len l k hk
  have hu01 := unpN_01 l k hk
  refine SX.seq (SX.reg ?_)   -- region 4
  refine pu rfl (pv_lss rfl rfl) ?_   -- t14 impl.go:308
  refine LW.nil ?_
  refine SX.seq ?_
  refine SX.cond rfl (fun hc => ?_) (fun hc => ?_)   -- t14
  · skip
    have hlt : k < l.length := by simpa using hc
    refine SX.skip ?_
    refine SX.seq ?_
    refine SX.block ?_
    refine SX.seq (SX.reg ?_)   -- region 5
    refine pu rfl (pv_ix (T := tI) (k := k) Yabc.underlying23 sz67 okI (hr.ext hx) rfl rfl (by omega) (by omega)) ?_   -- t15 impl.go:308
    refine pu rfl (pv_ldE ag67 okI sz67 (hr.ext hx) (by omega) rfl) ?_   -- t16 impl.go:308
    refine evd rfl (ev_al3 if67 fun w3 hn3 => ?_)   -- t6 impl.go:308
    refine evn (ev_stB hn3.blk rfl rfl sz67 rfl (encT_one _) fun w4 hb4 hg4 hz4 => ?_)   --  impl.go:308
    have hB : Bx w w4 tB v (unpN (l.take k)).1 w2.heap.size 67 (encT (l[k]'hlt)) := Bx.make hx hown hn3 hb4 hg4
    have hts := tl_take l k hlt
    have htk1 := tl_le l (k + 1)
    refine LW.nil ?_
    refine SX.seq (SX.reg ?_)   -- region 6
    refine pu rfl (pv_fa fb67_0 rfl) ?_   -- t17 impl.go:309
    refine pu rfl (pv_ld ag3 rfl (hB.blk.cell rfl)) ?_   -- t18 impl.go:309
    refine pu rfl (pv_eql rfl rfl) ?_   -- t19 impl.go:309
    refine LW.nil ?_
    refine SX.cond rfl (fun hc => ?_) (fun hc => ?_)   -- t19
    · skip
      have h1 : (l[k]'hlt).a = 1 := by simpa using hc
      refine SX.reg ?_
      refine pu rfl pv_mv ?_   -- t20 impl.go:310
      refine push (T := tB) 32 sl83 okB (by decide) hB.own hB.ext.size rfl (fun _ => rfl) rfl rfl (by omega) (by unfold maxLen; omega) fun J1 v5 w5 ho5 hg5 => ?_   -- t21 impl.go:310
      refine pu rfl pv_as ?_   -- t3 impl.go:310
      refine LW.nil ?_
      refine SX.reg ?_
      refine pu rfl (pv_add rfl rfl (by omega)) ?_   -- t93 impl.go:308
      refine pu rfl pv_mv ?_   -- t13 impl.go:308
      refine LW.nil ?_
      have hst : unpN (l.take (k + 1)) = ((unpN (l.take k)).1 ++ [32], (unpN (l.take k)).2) := by rw [unpN_step l k hlt, unp1, if_pos h1]
      exact ⟨k + 1, v5, ⟨rfl, by rw [hst]; rfl, rfl, rfl, rfl, trivial⟩, ⟨by omega, (hB.push hg5 ho5).ext, by rw [hst]; exact ho5⟩, by omega⟩
    · skip
      have h1 : ¬ (l[k]'hlt).a = 1 := by simpa using hc
      refine SX.seq (SX.reg ?_)   -- region 8
      refine pu rfl (pv_fa fb67_0 rfl) ?_   -- t23 impl.go:311
      refine pu rfl (pv_ld ag3 rfl (hB.blk.cell rfl)) ?_   -- t24 impl.go:311
      refine pu rfl (pv_eql rfl rfl) ?_   -- t25 impl.go:311
      refine LW.nil ?_
      refine SX.cond rfl (fun hc => ?_) (fun hc => ?_)   -- t25
      · skip
        have h2 : (l[k]'hlt).a = 2 := by simpa using hc
        refine SX.seq (SX.reg ?_)   -- region 9
        refine pu rfl pv_mv ?_   -- t26 impl.go:312
        refine push (T := tB) 96 sl83 okB (by decide) hB.own hB.ext.size rfl (fun _ => rfl) rfl rfl (by omega) (by unfold maxLen; omega) fun J1 v5 w5 ho5 hg5 => ?_   -- t27 impl.go:312
        have hB := hB.push hg5 ho5
        refine pu rfl pv_as ?_   -- t3 impl.go:312
        refine LW.nil ?_
        refine SX.seq ?_
        refine SX.seq (SX.reg ?_)   -- region 10
        refine pu rfl pv_as ?_   -- t7 impl.go:313
        refine LW.nil ?_
        refine SX.block ?_
        refine SX.loop2 (fun (m : Nat) v => [(3, v), (4, iv (unpN (l.take k)).2), (6, .pointer (some ⟨w2.heap.size, 0, none⟩)), (11, v0), (12, iv l.length), (13, iv k), (7, iv m)]) (fun m v w' => m ≤ (l[k]'hlt).s.length ∧ Bx w w' tB v ((unpN (l.take k)).1 ++ [96] ++ noTicks ((l[k]'hlt).s.take m)) w2.heap.size 67 (encT (l[k]'hlt))) (fun m _ => (l[k]'hlt).s.length - m) 0 v5 ⟨rfl, rfl, rfl, rfl, rfl, rfl, rfl, trivial⟩ ⟨Nat.zero_le _, by simpa [noTicks] using hB⟩ ?_
        rintro m v6 w6 ρ2 ⟨hm, hB6⟩
        have htl := tick_len (l[k]'hlt).s m
        have hlen6 : ((unpN (l.take k)).1 ++ [96] ++ noTicks ((l[k]'hlt).s.take m)).length = (unpN (l.take k)).1.length + 1 + (noTicks ((l[k]'hlt).s.take m)).length := by simp; omega
        refine SX.seq ?_
        refine SX.seq (SX.reg ?_)   -- region 11
        refine pu rfl pv_mv ?_   -- t29 impl.go:313
        refine pu rfl (pv_fa fb67_2 rfl) ?_   -- t30 impl.go:313
        refine pu rfl (pv_ld ag9 rfl (hB6.blk.cell rfl)) ?_   -- t31 impl.go:313
        refine pu rfl (pv_len_s rfl) ?_   -- t32 impl.go:313
        refine pu rfl (pv_lss rfl rfl) ?_   -- t33 impl.go:313
        refine LW.nil ?_
        refine SX.cond rfl (fun hc => ?_) (fun hc => ?_)   -- t33
        · skip
          have hml : m < (l[k]'hlt).s.length := by simpa using hc
          refine SX.skip ?_
          refine SX.seq ?_
          refine SX.block ?_
          refine SX.seq (SX.reg ?_)   -- region 13
          refine pu rfl (pv_fa fb67_2 rfl) ?_   -- t36 impl.go:314
          refine pu rfl (pv_ld ag9 rfl (hB6.blk.cell rfl)) ?_   -- t37 impl.go:314
          refine pu rfl pv_mv ?_   -- t38 impl.go:314
          refine pu rfl (pv_index (k := m) rfl rfl (by omega) (by omega)) ?_   -- t39 impl.go:314
          refine pu rfl (pv_neqB (b := 96) rfl rfl) ?_   -- t40 impl.go:314
          refine LW.nil ?_
          refine SX.cond rfl (fun hc => ?_) (fun hc => ?_)   -- t40
          · skip
            have hq : noTick ((l[k]'hlt).s.getD m 0) = true := by simpa [noTick] using hc
            refine SX.reg ?_
            refine pu rfl pv_mv ?_   -- t41 impl.go:315
            refine pu rfl (pv_fa fb67_2 rfl) ?_   -- t42 impl.go:315
            refine pu rfl (pv_ld ag9 rfl (hB6.blk.cell rfl)) ?_   -- t43 impl.go:315
            refine pu rfl pv_mv ?_   -- t44 impl.go:315
            refine pu rfl (pv_index (k := m) rfl rfl (by omega) (by omega)) ?_   -- t45 impl.go:315
            refine push (T := tB) ((l[k]'hlt).s.getD m 0) sl83 okB (by decide) hB6.own hB6.ext.size rfl (fun _ => rfl) rfl rfl (by omega) (by unfold maxLen; omega) fun J1 v7 w7 ho7 hg7 => ?_   -- t46 impl.go:315
            refine pu rfl pv_as ?_   -- t3 impl.go:315
            refine LW.nil ?_
            refine SX.reg ?_
            refine pu rfl pv_mv ?_   -- t34 impl.go:313
            refine pu rfl (pv_add rfl rfl (by omega)) ?_   -- t35 impl.go:313
            refine pu rfl pv_as ?_   -- t7 impl.go:313
            refine LW.nil ?_
            exact ⟨m + 1, v7, ⟨rfl, rfl, rfl, rfl, rfl, rfl, rfl, trivial⟩, ⟨by omega, by rw [tick_step _ _ hml, hq]; simpa using hB6.push hg7 ho7⟩, by omega⟩
          · skip
            have hq : noTick ((l[k]'hlt).s.getD m 0) = false := by simpa [noTick] using hc
            refine SX.skip ?_
            refine SX.reg ?_
            refine pu rfl pv_mv ?_   -- t34 impl.go:313
            refine pu rfl (pv_add rfl rfl (by omega)) ?_   -- t35 impl.go:313
            refine pu rfl pv_as ?_   -- t7 impl.go:313
            refine LW.nil ?_
            exact ⟨m + 1, v6, ⟨rfl, rfl, rfl, rfl, rfl, rfl, rfl, trivial⟩, ⟨by omega, by rw [tick_step _ _ hml, hq]; simpa using hB6⟩, by omega⟩
        · skip
          have hml : m = (l[k]'hlt).s.length := by simp at hc; omega
          refine SX.exit (xb_here ?_)
          refine SX.reg ?_
          refine pu rfl pv_mv ?_   -- t48 impl.go:318
          refine push (T := tB) 96 sl83 okB (by decide) hB6.own hB6.ext.size rfl (fun _ => rfl) rfl rfl (by omega) (by unfold maxLen; omega) fun J1 v7 w7 ho7 hg7 => ?_   -- t49 impl.go:318
          refine pu rfl pv_as ?_   -- t3 impl.go:318
          refine LW.nil ?_
          refine SX.reg ?_
          refine pu rfl (pv_add rfl rfl (by omega)) ?_   -- t93 impl.go:308
          refine pu rfl pv_mv ?_   -- t13 impl.go:308
          refine LW.nil ?_
          have hst : unpN (l.take (k + 1)) = ((unpN (l.take k)).1 ++ [96] ++ noTicks (l[k]'hlt).s ++ [96], (unpN (l.take k)).2) := by rw [unpN_step l k hlt, unp1, if_neg h1, if_pos h2]
          exact ⟨k + 1, v7, ⟨rfl, by rw [hst]; rfl, rfl, rfl, rfl, trivial⟩, ⟨by omega, (hB6.push hg7 ho7).ext, by rw [hst]; exact (by rw [hml, List.take_length] at ho7; exact ho7)⟩, by omega⟩
      · skip
        have h2 : ¬ (l[k]'hlt).a = 2 := by simpa using hc
        refine SX.seq (SX.reg ?_)   -- region 16
        refine pu rfl pv_as ?_   -- t8 impl.go:320
        refine LW.nil ?_
        refine SX.mid (G := Unit) (fun _ => [(3, v), (4, iv (unpN (l.take k)).2), (6, .pointer (some ⟨w2.heap.size, 0, none⟩)), (8, iv (ust (l[k]'hlt))), (11, v0), (12, iv l.length), (13, iv k)]) (fun _ w' => w4 = w') ?_ ?_
        · skip
          refine SX.seq (SX.reg ?_)   -- region 17
          refine pu rfl (pv_fa fb67_1 rfl) ?_   -- t51 impl.go:321
          refine pu rfl (pv_ld ag3 rfl (hB.blk.cell rfl)) ?_   -- t52 impl.go:321
          refine pu rfl (pv_neq rfl rfl) ?_   -- t53 impl.go:321
          refine LW.nil ?_
          refine SX.cond rfl (fun hc => ?_) (fun hc => ?_)   -- t53
          · skip
            have hu : ust (l[k]'hlt) = 1 := by simp at hc; simp [ust, hc]
            refine SX.reg ?_
            refine pu rfl pv_as ?_   -- t8 impl.go:322
            refine LW.nil ?_
            exact ⟨(), ⟨rfl, rfl, rfl, by rw [hu]; rfl, rfl, rfl, rfl, trivial⟩, rfl⟩
          · skip
            have hu : ust (l[k]'hlt) = 0 := by simp at hc; simp [ust, hc]
            refine SX.skip ?_
            exact ⟨(), ⟨rfl, rfl, rfl, by rw [hu]; rfl, rfl, rfl, rfl, trivial⟩, rfl⟩
        rintro _ w4' ρ3 hw
        subst hw
        refine SX.mid (G := Value) (fun v => [(3, v), (4, iv (ust (l[k]'hlt))), (6, .pointer (some ⟨w2.heap.size, 0, none⟩)), (11, v0), (12, iv l.length), (13, iv k)]) (fun v w' => Bx w w' tB v ((unpN (l.take k)).1 ++ (if ust (l[k]'hlt) ≠ (unpN (l.take k)).2 then [42] else [])) w2.heap.size 67 (encT (l[k]'hlt))) ?_ ?_
        · skip
          refine SX.seq (SX.reg ?_)   -- region 19
          refine pu rfl pv_mv ?_   -- t54 impl.go:324
          refine pu rfl pv_mv ?_   -- t55 impl.go:324
          refine pu rfl (pv_neq rfl rfl) ?_   -- t56 impl.go:324
          refine LW.nil ?_
          refine SX.cond rfl (fun hc => ?_) (fun hc => ?_)   -- t56
          · skip
            have hu : ust (l[k]'hlt) ≠ (unpN (l.take k)).2 := by simpa using hc
            refine SX.seq (SX.reg ?_)   -- region 20
            refine pu rfl pv_mv ?_   -- t57 impl.go:325
            refine push (T := tB) 42 sl83 okB (by decide) hB.own hB.ext.size rfl (fun _ => rfl) rfl rfl (by omega) (by unfold maxLen; omega) fun J1 v5 w5 ho5 hg5 => ?_   -- t58 impl.go:325
            refine pu rfl pv_as ?_   -- t3 impl.go:325
            refine LW.nil ?_
            refine SX.reg ?_
            refine pu rfl pv_mv ?_   -- t60 impl.go:326
            refine pu rfl pv_as ?_   -- t4 impl.go:326
            refine LW.nil ?_
            exact ⟨v5, ⟨rfl, rfl, rfl, rfl, rfl, rfl, trivial⟩, by rw [if_pos hu]; exact hB.push hg5 ho5⟩
          · skip
            have hu : ust (l[k]'hlt) = (unpN (l.take k)).2 := by simpa using hc
            refine SX.skip ?_
            exact ⟨v, ⟨rfl, by rw [hu]; rfl, rfl, rfl, rfl, rfl, trivial⟩, by rw [if_neg (by simp [hu])]; simpa using hB⟩
        rintro v5 w5 ρ4 hB5
        refine SX.seq (SX.reg ?_)   -- region 22
        refine pu rfl pv_as ?_   -- t9 impl.go:328
        refine LW.nil ?_
        refine SX.block ?_
        refine SX.loop2 (fun (m : Nat) v => [(3, v), (4, iv (ust (l[k]'hlt))), (6, .pointer (some ⟨w2.heap.size, 0, none⟩)), (11, v0), (12, iv l.length), (13, iv k), (9, iv m)]) (fun m v w' => m ≤ (l[k]'hlt).s.length ∧ Bx w w' tB v ((unpN (l.take k)).1 ++ (if ust (l[k]'hlt) ≠ (unpN (l.take k)).2 then [42] else []) ++ escText ((l[k]'hlt).s.take m)) w2.heap.size 67 (encT (l[k]'hlt))) (fun m _ => (l[k]'hlt).s.length - m) 0 v5 ⟨rfl, rfl, rfl, rfl, rfl, rfl, rfl, trivial⟩ ⟨Nat.zero_le _, by simpa [escText] using hB5⟩ ?_
        rintro m v6 w6 ρ2 ⟨hm, hB6⟩
        have htl := esc_len (l[k]'hlt).s m
        have hlen6 : ((unpN (l.take k)).1 ++ (if ust (l[k]'hlt) ≠ (unpN (l.take k)).2 then [42] else []) ++ escText ((l[k]'hlt).s.take m)).length ≤ (unpN (l.take k)).1.length + 1 + (escText ((l[k]'hlt).s.take m)).length := by simp only [List.length_append]; split <;> simp
        refine SX.seq ?_
        refine SX.seq (SX.reg ?_)   -- region 23
        refine pu rfl pv_mv ?_   -- t61 impl.go:328
        refine pu rfl (pv_fa fb67_2 rfl) ?_   -- t62 impl.go:328
        refine pu rfl (pv_ld ag9 rfl (hB6.blk.cell rfl)) ?_   -- t63 impl.go:328
        refine pu rfl (pv_len_s rfl) ?_   -- t64 impl.go:328
        refine pu rfl (pv_lss rfl rfl) ?_   -- t65 impl.go:328
        refine LW.nil ?_
        refine SX.cond rfl (fun hc => ?_) (fun hc => ?_)   -- t65
        · skip
          have hml : m < (l[k]'hlt).s.length := by simpa using hc
          refine SX.skip ?_
          refine SX.seq ?_
          refine SX.block ?_
          refine SX.seq (SX.reg ?_)   -- region 25
          refine pu rfl (pv_fa fb67_2 rfl) ?_   -- t68 impl.go:329
          refine pu rfl (pv_ld ag9 rfl (hB6.blk.cell rfl)) ?_   -- t69 impl.go:329
          refine pu rfl pv_mv ?_   -- t70 impl.go:329
          refine pu rfl (pv_index (k := m) rfl rfl (by omega) (by omega)) ?_   -- t71 impl.go:329
          refine pu rfl pv_as ?_   -- t10 impl.go:329
          refine LW.nil ?_
          refine SX.seq ?_
          refine SX.seq (SX.reg ?_)   -- region 26
          refine pu rfl pv_mv ?_   -- t72 impl.go:330
          refine pu rfl (pv_eqlB (b := 92) rfl rfl) ?_   -- t73 impl.go:330
          refine pu rfl pv_mv ?_   -- t74 impl.go:330
          refine LW.sc false 2 2 74 75 77 (b := decide ((l[k]'hlt).s.getD m 0 = 42)) (fun w' => w6 = w') rfl rfl rfl rfl (fun _ => rfl) rfl (fun ht => ?_) rfl (fun J w' hw' => ?_)   -- t77 := pick ['t74', "c:['true']", 't76']
          · skip
            refine pu rfl pv_mv ?_   -- t75 impl.go:330
            refine pu rfl (pv_eqlB (b := 42) rfl rfl) ?_   -- t76 impl.go:330
            exact LW.nil ⟨rfl, rfl⟩
          subst hw'
          refine pu rfl pv_mv ?_   -- t78 impl.go:330
          refine LW.sc false 2 6 78 79 81 (b := decide ((l[k]'hlt).s.getD m 0 = 96)) (fun w' => w6 = w') rfl rfl rfl rfl (fun _ => rfl) rfl (fun ht => ?_) rfl (fun J w' hw' => ?_)   -- t81 := pick ['t78', "c:['true']", 't80']
          · skip
            refine pu rfl pv_mv ?_   -- t79 impl.go:330
            refine pu rfl (pv_eqlB (b := 96) rfl rfl) ?_   -- t80 impl.go:330
            exact LW.nil ⟨rfl, rfl⟩
          subst hw'
          refine pu rfl pv_mv ?_   -- t82 impl.go:330
          refine LW.sc false 2 10 82 83 85 (b := isSp ((l[k]'hlt).s.getD m 0)) (fun w' => w6 = w') rfl rfl rfl rfl (fun _ => rfl) rfl (fun ht => ?_) rfl (fun J w' hw' => ?_)   -- t85 := pick ['t82', "c:['true']", 't84']
          · skip
            refine pu rfl pv_mv ?_   -- t83 impl.go:330
            refine evd rfl (ev_call cb83 rfl (f83_ok _ w6) ?_)   -- t84 impl.go:330
            rintro _ _ ⟨rfl, rfl⟩
            exact LW.nil ⟨rfl, rfl⟩
          subst hw'
          refine LW.nil ?_
          refine SX.cond rfl (fun hc => ?_) (fun hc => ?_)   -- t85
          · skip
            have hq : escB ((l[k]'hlt).s.getD m 0) = true := by rw [← hc]; rfl
            refine SX.reg ?_
            refine pu rfl pv_mv ?_   -- t86 impl.go:331
            refine push (T := tB) 92 sl83 okB (by decide) hB6.own hB6.ext.size rfl (fun _ => rfl) rfl rfl (by omega) (by unfold maxLen; omega) fun J1 v7 w7 ho7 hg7 => ?_   -- t87 impl.go:331
            have hB7 := hB6.push hg7 ho7
            refine pu rfl pv_as ?_   -- t3 impl.go:331
            refine LW.nil ?_
            refine SX.reg ?_
            refine pu rfl pv_mv ?_   -- t89 impl.go:333
            refine pu rfl pv_mv ?_   -- t90 impl.go:333
            refine push (T := tB) ((l[k]'hlt).s.getD m 0) sl83 okB (by decide) hB7.own hB7.ext.size rfl (fun _ => rfl) rfl rfl (by rw [List.length_append]; simp only [List.length_singleton]; omega) (by rw [List.length_append]; simp only [List.length_singleton]; unfold maxLen; omega) fun J1 v8 w8 ho8 hg8 => ?_   -- t91 impl.go:333
            refine pu rfl pv_as ?_   -- t3 impl.go:333
            refine LW.nil ?_
            refine SX.reg ?_
            refine pu rfl pv_mv ?_   -- t66 impl.go:328
            refine pu rfl (pv_add rfl rfl (by omega)) ?_   -- t67 impl.go:328
            refine pu rfl pv_as ?_   -- t9 impl.go:328
            refine LW.nil ?_
            exact ⟨m + 1, v8, ⟨rfl, rfl, rfl, rfl, rfl, rfl, rfl, trivial⟩, ⟨by omega, by rw [esc_step _ _ hml, hq]; simpa using hB7.push hg8 ho8⟩, by omega⟩
          · skip
            have hq : escB ((l[k]'hlt).s.getD m 0) = false := by rw [← hc]; rfl
            refine SX.skip ?_
            refine SX.reg ?_
            refine pu rfl pv_mv ?_   -- t89 impl.go:333
            refine pu rfl pv_mv ?_   -- t90 impl.go:333
            refine push (T := tB) ((l[k]'hlt).s.getD m 0) sl83 okB (by decide) hB6.own hB6.ext.size rfl (fun _ => rfl) rfl rfl (by omega) (by unfold maxLen; omega) fun J1 v8 w8 ho8 hg8 => ?_   -- t91 impl.go:333
            refine pu rfl pv_as ?_   -- t3 impl.go:333
            refine LW.nil ?_
            refine SX.reg ?_
            refine pu rfl pv_mv ?_   -- t66 impl.go:328
            refine pu rfl (pv_add rfl rfl (by omega)) ?_   -- t67 impl.go:328
            refine pu rfl pv_as ?_   -- t9 impl.go:328
            refine LW.nil ?_
            exact ⟨m + 1, v8, ⟨rfl, rfl, rfl, rfl, rfl, rfl, rfl, trivial⟩, ⟨by omega, by rw [esc_step _ _ hml, hq]; simpa using hB6.push hg8 ho8⟩, by omega⟩
        · skip
          have hml : m = (l[k]'hlt).s.length := by simp at hc; omega
          refine SX.exit (xb_here ?_)
          refine SX.reg ?_
          refine pu rfl (pv_add rfl rfl (by omega)) ?_   -- t93 impl.go:308
          refine pu rfl pv_mv ?_   -- t13 impl.go:308
          refine LW.nil ?_
          have hst : unpN (l.take (k + 1)) = ((unpN (l.take k)).1 ++ (if ust (l[k]'hlt) ≠ (unpN (l.take k)).2 then [42] else []) ++ escText (l[k]'hlt).s, ust (l[k]'hlt)) := by rw [unpN_step l k hlt, unp1, if_neg h1, if_neg h2]
          exact ⟨k + 1, v6, ⟨rfl, by rw [hst]; rfl, rfl, rfl, rfl, trivial⟩, ⟨by omega, hB6.ext, by rw [hst]; exact (by have h6 := hB6.own; rw [hml, List.take_length] at h6; exact h6)⟩, by omega⟩
  · skip
    have hge : k = l.length := by simp at hc; omega
    subst hge
    rw [List.take_length] at hown hul
    refine SX.exit (xb_here ?_)
    refine SX.seq ?_
    refine SX.seq (SX.reg ?_)   -- region 30
    refine pu rfl pv_mv ?_   -- t94 impl.go:337
    refine pu rfl (pv_eql rfl rfl) ?_   -- t95 impl.go:337
    refine LW.nil ?_
    refine SX.cond rfl (fun hc => ?_) (fun hc => ?_)   -- t95
    · skip
      have hf : (unpN l).2 = 1 := by rw [List.take_length] at hc; simpa using hc
      refine SX.reg ?_
      refine pu rfl pv_mv ?_   -- t96 impl.go:338
      refine push (T := tB) 42 sl83 okB (by decide) hown hx.size rfl (fun _ => rfl) rfl rfl (by omega) (by unfold maxLen; omega) fun J1 v5 w5 ho5 hg5 => ?_   -- t97 impl.go:338
      refine pu rfl pv_as ?_   -- t3 impl.go:338
      refine LW.nil ?_
      refine SX.seq (SX.reg ?_)   -- region 32
      refine pu rfl pv_mv ?_   -- t99 impl.go:340
      refine pu rfl (pv_str ho5.rd rfl) ?_   -- t100 impl.go:340
      refine pu rfl pv_as ?_   -- t2 impl.go:340
      refine LW.nil ?_
      refine SX.ret ?_
      exact ⟨by rw [unparse, if_pos hf]; rfl, hx.step hg5.grown (fun g e => (hown.lt g e).1)⟩
    · skip
      have hf : ¬ (unpN l).2 = 1 := by rw [List.take_length] at hc; simpa using hc
      refine SX.skip ?_
      refine SX.seq (SX.reg ?_)   -- region 32
      refine pu rfl pv_mv ?_   -- t99 impl.go:340
      refine pu rfl (pv_str hown.rd rfl) ?_   -- t100 impl.go:340
      refine pu rfl pv_as ?_   -- t2 impl.go:340
      refine LW.nil ?_
      refine SX.ret ?_
      exact ⟨by rw [unparse, if_neg hf]; rfl, hx⟩

theorem f34_ok (v0 : Value) (l : List Tri) (w : World) (hr : Rd w tI v0 l) (hs : l.length ≤ 1073741824) (ht : tl l ≤ 1073741824) : Fn 34 [v0] w (fun v' w' => v' = S (unparse l) ∧ Ext w w') := by
  refine Fn.mk1 (N := 104) Yabc.func34 rfl rfl rfl rfl ?_
  refine SX.seq (SX.reg ?_)   -- region 0
  refine pu rfl pv_as ?_   -- t2 spec.go:732
  refine LW.nil ?_
  refine SX.seq (SX.reg ?_)   -- region 1
  refine pu rfl pv_as ?_   -- t3 spec.go:733
  refine LW.nil ?_
  refine SX.seq (SX.reg ?_)   -- region 2
  refine pu rfl pv_as ?_   -- t4 spec.go:734
  refine LW.nil ?_
  refine SX.seq ?_
  refine SX.seq (SX.reg ?_)   -- region 3
  refine pu rfl pv_as ?_   -- t5 spec.go:735
  refine LW.nil ?_
  refine SX.block ?_
  refine SX.loop2 (fun (k : Nat) v => [(0, v0), (3, v), (4, iv (unpN (l.take k)).2), (5, iv k)]) (fun k v w' => k ≤ l.length ∧ Ext w w' ∧ Own w' w.heap.size tB v (unpN (l.take k)).1) (fun k _ => l.length - k) 0 (.slice none 0 0) ⟨rfl, rfl, rfl, rfl, trivial⟩ ⟨Nat.zero_le _, Ext.refl w, Own.nil _ _ _⟩ ?_
  rintro k v w2 ρ1 ⟨hk, hx, hown⟩
  have htk := tl_le l k
  have hul := unpN_len l k hk
  have hu01 := unpN_01 l k hk
  refine SX.seq ?_
  refine SX.seq (SX.reg ?_)   -- region 4
  refine pu rfl pv_mv ?_   -- t11 spec.go:735
  refine pu rfl pv_mv ?_   -- t12 spec.go:735
  refine pu rfl (pv_lenV (T := tI) Yabc.underlying23 (hr.ext hx) rfl) ?_   -- t13 spec.go:735
  refine pu rfl (pv_lss rfl rfl) ?_   -- t14 spec.go:735
  refine LW.nil ?_
  refine SX.cond rfl (fun hc => ?_) (fun hc => ?_)   -- t14
  · skip
    have hlt : k < l.length := by simpa using hc
    refine SX.skip ?_
    refine SX.seq ?_
    refine SX.block ?_
    refine SX.seq (SX.reg ?_)   -- region 6
    refine pu rfl pv_mv ?_   -- t17 spec.go:736
    refine pu rfl pv_mv ?_   -- t18 spec.go:736
    refine pu rfl (pv_ix (T := tI) (k := k) Yabc.underlying23 sz67 okI (hr.ext hx) rfl rfl (by omega) (by omega)) ?_   -- t19 spec.go:736
    refine pu rfl (pv_ldE ag67 okI sz67 (hr.ext hx) (by omega) rfl) ?_   -- t20 spec.go:736
    refine evd rfl (ev_al3 if67 fun w3 hn3 => ?_)   -- t6 spec.go:736
    refine evn (ev_stB hn3.blk rfl rfl sz67 rfl (encT_one _) fun w4 hb4 hg4 hz4 => ?_)   --  spec.go:736
    have hB : Bx w w4 tB v (unpN (l.take k)).1 w2.heap.size 67 (encT (l[k]'hlt)) := Bx.make hx hown hn3 hb4 hg4
    have hts := tl_take l k hlt
    have htk1 := tl_le l (k + 1)
    refine LW.nil ?_
    refine SX.seq ?_
    refine SX.seq (SX.reg ?_)   -- region 7
    refine pu rfl (pv_fa fb67_0 rfl) ?_   -- t21 spec.go:737
    refine pu rfl (pv_ld ag3 rfl (hB.blk.cell rfl)) ?_   -- t22 spec.go:737
    refine pu rfl (pv_eql rfl rfl) ?_   -- t23 spec.go:737
    refine LW.nil ?_
    refine SX.cond rfl (fun hc => ?_) (fun hc => ?_)   -- t23
    · skip
      have h1 : (l[k]'hlt).a = 1 := by simpa using hc
      refine SX.seq (SX.reg ?_)   -- region 8
      refine pu rfl pv_mv ?_   -- t24 spec.go:738
      refine push (T := tB) 32 sl83 okB (by decide) hB.own hB.ext.size rfl (fun _ => rfl) rfl rfl (by omega) (by unfold maxLen; omega) fun J1 v5 w5 ho5 hg5 => ?_   -- t25 spec.go:738
      refine pu rfl pv_as ?_   -- t3 spec.go:738
      refine LW.nil ?_
      refine SX.exit (xb_here ?_)
      refine SX.reg ?_
      refine pu rfl pv_mv ?_   -- t15 spec.go:735
      refine pu rfl (pv_add rfl rfl (by omega)) ?_   -- t16 spec.go:735
      refine pu rfl pv_as ?_   -- t5 spec.go:735
      refine LW.nil ?_
      have hst : unpN (l.take (k + 1)) = ((unpN (l.take k)).1 ++ [32], (unpN (l.take k)).2) := by rw [unpN_step l k hlt, unp1, if_pos h1]
      exact ⟨k + 1, v5, ⟨rfl, rfl, by rw [hst]; rfl, rfl, trivial⟩, ⟨by omega, (hB.push hg5 ho5).ext, by rw [hst]; exact ho5⟩, by omega⟩
    · skip
      have h1 : ¬ (l[k]'hlt).a = 1 := by simpa using hc
      refine SX.skip ?_
      refine SX.seq ?_
      refine SX.seq (SX.reg ?_)   -- region 9
      refine pu rfl (pv_fa fb67_0 rfl) ?_   -- t27 spec.go:741
      refine pu rfl (pv_ld ag3 rfl (hB.blk.cell rfl)) ?_   -- t28 spec.go:741
      refine pu rfl (pv_eql rfl rfl) ?_   -- t29 spec.go:741
      refine LW.nil ?_
      refine SX.cond rfl (fun hc => ?_) (fun hc => ?_)   -- t29
      · skip
        have h2 : (l[k]'hlt).a = 2 := by simpa using hc
        refine SX.seq (SX.reg ?_)   -- region 10
        refine pu rfl pv_mv ?_   -- t30 spec.go:742
        refine push (T := tB) 96 sl83 okB (by decide) hB.own hB.ext.size rfl (fun _ => rfl) rfl rfl (by omega) (by unfold maxLen; omega) fun J1 v5 w5 ho5 hg5 => ?_   -- t31 spec.go:742
        have hB := hB.push hg5 ho5
        refine pu rfl pv_as ?_   -- t3 spec.go:742
        refine LW.nil ?_
        refine SX.seq ?_
        refine SX.seq (SX.reg ?_)   -- region 11
        refine pu rfl pv_as ?_   -- t7 spec.go:743
        refine LW.nil ?_
        refine SX.block ?_
        refine SX.loop2 (fun (m : Nat) v => [(3, v), (4, iv (unpN (l.take k)).2), (6, .pointer (some ⟨w2.heap.size, 0, none⟩)), (0, v0), (5, iv k), (7, iv m)]) (fun m v w' => m ≤ (l[k]'hlt).s.length ∧ Bx w w' tB v ((unpN (l.take k)).1 ++ [96] ++ noTicks ((l[k]'hlt).s.take m)) w2.heap.size 67 (encT (l[k]'hlt))) (fun m _ => (l[k]'hlt).s.length - m) 0 v5 ⟨rfl, rfl, rfl, rfl, rfl, rfl, trivial⟩ ⟨Nat.zero_le _, by simpa [noTicks] using hB⟩ ?_
        rintro m v6 w6 ρ2 ⟨hm, hB6⟩
        have htl := tick_len (l[k]'hlt).s m
        have hlen6 : ((unpN (l.take k)).1 ++ [96] ++ noTicks ((l[k]'hlt).s.take m)).length = (unpN (l.take k)).1.length + 1 + (noTicks ((l[k]'hlt).s.take m)).length := by simp; omega
        refine SX.seq ?_
        refine SX.seq (SX.reg ?_)   -- region 12
        refine pu rfl pv_mv ?_   -- t33 spec.go:743
        refine pu rfl (pv_fa fb67_2 rfl) ?_   -- t34 spec.go:743
        refine pu rfl (pv_ld ag9 rfl (hB6.blk.cell rfl)) ?_   -- t35 spec.go:743
        refine pu rfl (pv_len_s rfl) ?_   -- t36 spec.go:743
        refine pu rfl (pv_lss rfl rfl) ?_   -- t37 spec.go:743
        refine LW.nil ?_
        refine SX.cond rfl (fun hc => ?_) (fun hc => ?_)   -- t37
        · skip
          have hml : m < (l[k]'hlt).s.length := by simpa using hc
          refine SX.skip ?_
          refine SX.seq ?_
          refine SX.block ?_
          refine SX.seq (SX.reg ?_)   -- region 14
          refine pu rfl (pv_fa fb67_2 rfl) ?_   -- t40 spec.go:744
          refine pu rfl (pv_ld ag9 rfl (hB6.blk.cell rfl)) ?_   -- t41 spec.go:744
          refine pu rfl pv_mv ?_   -- t42 spec.go:744
          refine pu rfl (pv_index (k := m) rfl rfl (by omega) (by omega)) ?_   -- t43 spec.go:744
          refine pu rfl (pv_neqB (b := 96) rfl rfl) ?_   -- t44 spec.go:744
          refine LW.nil ?_
          refine SX.cond rfl (fun hc => ?_) (fun hc => ?_)   -- t44
          · skip
            have hq : noTick ((l[k]'hlt).s.getD m 0) = true := by simpa [noTick] using hc
            refine SX.reg ?_
            refine pu rfl pv_mv ?_   -- t45 spec.go:745
            refine pu rfl (pv_fa fb67_2 rfl) ?_   -- t46 spec.go:745
            refine pu rfl (pv_ld ag9 rfl (hB6.blk.cell rfl)) ?_   -- t47 spec.go:745
            refine pu rfl pv_mv ?_   -- t48 spec.go:745
            refine pu rfl (pv_index (k := m) rfl rfl (by omega) (by omega)) ?_   -- t49 spec.go:745
            refine push (T := tB) ((l[k]'hlt).s.getD m 0) sl83 okB (by decide) hB6.own hB6.ext.size rfl (fun _ => rfl) rfl rfl (by omega) (by unfold maxLen; omega) fun J1 v7 w7 ho7 hg7 => ?_   -- t50 spec.go:745
            refine pu rfl pv_as ?_   -- t3 spec.go:745
            refine LW.nil ?_
            refine SX.reg ?_
            refine pu rfl pv_mv ?_   -- t38 spec.go:743
            refine pu rfl (pv_add rfl rfl (by omega)) ?_   -- t39 spec.go:743
            refine pu rfl pv_as ?_   -- t7 spec.go:743
            refine LW.nil ?_
            exact ⟨m + 1, v7, ⟨rfl, rfl, rfl, rfl, rfl, rfl, trivial⟩, ⟨by omega, by rw [tick_step _ _ hml, hq]; simpa using hB6.push hg7 ho7⟩, by omega⟩
          · skip
            have hq : noTick ((l[k]'hlt).s.getD m 0) = false := by simpa [noTick] using hc
            refine SX.skip ?_
            refine SX.reg ?_
            refine pu rfl pv_mv ?_   -- t38 spec.go:743
            refine pu rfl (pv_add rfl rfl (by omega)) ?_   -- t39 spec.go:743
            refine pu rfl pv_as ?_   -- t7 spec.go:743
            refine LW.nil ?_
            exact ⟨m + 1, v6, ⟨rfl, rfl, rfl, rfl, rfl, rfl, trivial⟩, ⟨by omega, by rw [tick_step _ _ hml, hq]; simpa using hB6⟩, by omega⟩
        · skip
          have hml : m = (l[k]'hlt).s.length := by simp at hc; omega
          refine SX.exit (xb_here ?_)
          refine SX.seq (SX.reg ?_)   -- region 16
          refine pu rfl pv_mv ?_   -- t52 spec.go:748
          refine push (T := tB) 96 sl83 okB (by decide) hB6.own hB6.ext.size rfl (fun _ => rfl) rfl rfl (by omega) (by unfold maxLen; omega) fun J1 v7 w7 ho7 hg7 => ?_   -- t53 spec.go:748
          refine pu rfl pv_as ?_   -- t3 spec.go:748
          refine LW.nil ?_
          refine SX.exit (xb_here ?_)
          refine SX.reg ?_
          refine pu rfl pv_mv ?_   -- t15 spec.go:735
          refine pu rfl (pv_add rfl rfl (by omega)) ?_   -- t16 spec.go:735
          refine pu rfl pv_as ?_   -- t5 spec.go:735
          refine LW.nil ?_
          have hst : unpN (l.take (k + 1)) = ((unpN (l.take k)).1 ++ [96] ++ noTicks (l[k]'hlt).s ++ [96], (unpN (l.take k)).2) := by rw [unpN_step l k hlt, unp1, if_neg h1, if_pos h2]
          exact ⟨k + 1, v7, ⟨rfl, rfl, by rw [hst]; rfl, rfl, trivial⟩, ⟨by omega, (hB6.push hg7 ho7).ext, by rw [hst]; exact (by rw [hml, List.take_length] at ho7; exact ho7)⟩, by omega⟩
      · skip
        have h2 : ¬ (l[k]'hlt).a = 2 := by simpa using hc
        refine SX.skip ?_
        refine SX.seq (SX.reg ?_)   -- region 17
        refine pu rfl pv_as ?_   -- t8 spec.go:751
        refine LW.nil ?_
        refine SX.mid (G := Unit) (fun _ => [(3, v), (4, iv (unpN (l.take k)).2), (6, .pointer (some ⟨w2.heap.size, 0, none⟩)), (8, iv (ust (l[k]'hlt))), (0, v0), (5, iv k)]) (fun _ w' => w4 = w') ?_ ?_
        · skip
          refine SX.seq (SX.reg ?_)   -- region 18
          refine pu rfl (pv_fa fb67_1 rfl) ?_   -- t55 spec.go:752
          refine pu rfl (pv_ld ag3 rfl (hB.blk.cell rfl)) ?_   -- t56 spec.go:752
          refine pu rfl (pv_neq rfl rfl) ?_   -- t57 spec.go:752
          refine LW.nil ?_
          refine SX.cond rfl (fun hc => ?_) (fun hc => ?_)   -- t57
          · skip
            have hu : ust (l[k]'hlt) = 1 := by simp at hc; simp [ust, hc]
            refine SX.reg ?_
            refine pu rfl pv_as ?_   -- t8 spec.go:753
            refine LW.nil ?_
            exact ⟨(), ⟨rfl, rfl, rfl, by rw [hu]; rfl, rfl, rfl, trivial⟩, rfl⟩
          · skip
            have hu : ust (l[k]'hlt) = 0 := by simp at hc; simp [ust, hc]
            refine SX.skip ?_
            exact ⟨(), ⟨rfl, rfl, rfl, by rw [hu]; rfl, rfl, rfl, trivial⟩, rfl⟩
        rintro _ w4' ρ3 hw
        subst hw
        refine SX.mid (G := Value) (fun v => [(3, v), (4, iv (ust (l[k]'hlt))), (6, .pointer (some ⟨w2.heap.size, 0, none⟩)), (0, v0), (5, iv k)]) (fun v w' => Bx w w' tB v ((unpN (l.take k)).1 ++ (if ust (l[k]'hlt) ≠ (unpN (l.take k)).2 then [42] else [])) w2.heap.size 67 (encT (l[k]'hlt))) ?_ ?_
        · skip
          refine SX.seq (SX.reg ?_)   -- region 20
          refine pu rfl pv_mv ?_   -- t58 spec.go:755
          refine pu rfl pv_mv ?_   -- t59 spec.go:755
          refine pu rfl (pv_neq rfl rfl) ?_   -- t60 spec.go:755
          refine LW.nil ?_
          refine SX.cond rfl (fun hc => ?_) (fun hc => ?_)   -- t60
          · skip
            have hu : ust (l[k]'hlt) ≠ (unpN (l.take k)).2 := by simpa using hc
            refine SX.seq (SX.reg ?_)   -- region 21
            refine pu rfl pv_mv ?_   -- t61 spec.go:756
            refine push (T := tB) 42 sl83 okB (by decide) hB.own hB.ext.size rfl (fun _ => rfl) rfl rfl (by omega) (by unfold maxLen; omega) fun J1 v5 w5 ho5 hg5 => ?_   -- t62 spec.go:756
            refine pu rfl pv_as ?_   -- t3 spec.go:756
            refine LW.nil ?_
            refine SX.reg ?_
            refine pu rfl pv_mv ?_   -- t64 spec.go:757
            refine pu rfl pv_as ?_   -- t4 spec.go:757
            refine LW.nil ?_
            exact ⟨v5, ⟨rfl, rfl, rfl, rfl, rfl, trivial⟩, by rw [if_pos hu]; exact hB.push hg5 ho5⟩
          · skip
            have hu : ust (l[k]'hlt) = (unpN (l.take k)).2 := by simpa using hc
            refine SX.skip ?_
            exact ⟨v, ⟨rfl, by rw [hu]; rfl, rfl, rfl, rfl, trivial⟩, by rw [if_neg (by simp [hu])]; simpa using hB⟩
        rintro v5 w5 ρ4 hB5
        refine SX.seq (SX.reg ?_)   -- region 23
        refine pu rfl pv_as ?_   -- t9 spec.go:759
        refine LW.nil ?_
        refine SX.block ?_
        refine SX.loop2 (fun (m : Nat) v => [(3, v), (4, iv (ust (l[k]'hlt))), (6, .pointer (some ⟨w2.heap.size, 0, none⟩)), (0, v0), (5, iv k), (9, iv m)]) (fun m v w' => m ≤ (l[k]'hlt).s.length ∧ Bx w w' tB v ((unpN (l.take k)).1 ++ (if ust (l[k]'hlt) ≠ (unpN (l.take k)).2 then [42] else []) ++ escText ((l[k]'hlt).s.take m)) w2.heap.size 67 (encT (l[k]'hlt))) (fun m _ => (l[k]'hlt).s.length - m) 0 v5 ⟨rfl, rfl, rfl, rfl, rfl, rfl, trivial⟩ ⟨Nat.zero_le _, by simpa [escText] using hB5⟩ ?_
        rintro m v6 w6 ρ2 ⟨hm, hB6⟩
        have htl := esc_len (l[k]'hlt).s m
        have hlen6 : ((unpN (l.take k)).1 ++ (if ust (l[k]'hlt) ≠ (unpN (l.take k)).2 then [42] else []) ++ escText ((l[k]'hlt).s.take m)).length ≤ (unpN (l.take k)).1.length + 1 + (escText ((l[k]'hlt).s.take m)).length := by simp only [List.length_append]; split <;> simp
        refine SX.seq ?_
        refine SX.seq (SX.reg ?_)   -- region 24
        refine pu rfl pv_mv ?_   -- t65 spec.go:759
        refine pu rfl (pv_fa fb67_2 rfl) ?_   -- t66 spec.go:759
        refine pu rfl (pv_ld ag9 rfl (hB6.blk.cell rfl)) ?_   -- t67 spec.go:759
        refine pu rfl (pv_len_s rfl) ?_   -- t68 spec.go:759
        refine pu rfl (pv_lss rfl rfl) ?_   -- t69 spec.go:759
        refine LW.nil ?_
        refine SX.cond rfl (fun hc => ?_) (fun hc => ?_)   -- t69
        · skip
          have hml : m < (l[k]'hlt).s.length := by simpa using hc
          refine SX.skip ?_
          refine SX.seq ?_
          refine SX.block ?_
          refine SX.seq (SX.reg ?_)   -- region 26
          refine pu rfl (pv_fa fb67_2 rfl) ?_   -- t72 spec.go:760
          refine pu rfl (pv_ld ag9 rfl (hB6.blk.cell rfl)) ?_   -- t73 spec.go:760
          refine pu rfl pv_mv ?_   -- t74 spec.go:760
          refine pu rfl (pv_index (k := m) rfl rfl (by omega) (by omega)) ?_   -- t75 spec.go:760
          refine pu rfl pv_as ?_   -- t10 spec.go:760
          refine LW.nil ?_
          refine SX.seq ?_
          refine SX.seq (SX.reg ?_)   -- region 27
          refine pu rfl pv_mv ?_   -- t76 spec.go:761
          refine pu rfl (pv_eqlB (b := 92) rfl rfl) ?_   -- t77 spec.go:761
          refine pu rfl pv_mv ?_   -- t78 spec.go:761
          refine LW.sc false 2 2 78 79 81 (b := decide ((l[k]'hlt).s.getD m 0 = 42)) (fun w' => w6 = w') rfl rfl rfl rfl (fun _ => rfl) rfl (fun ht => ?_) rfl (fun J w' hw' => ?_)   -- t81 := pick ['t78', "c:['true']", 't80']
          · skip
            refine pu rfl pv_mv ?_   -- t79 spec.go:761
            refine pu rfl (pv_eqlB (b := 42) rfl rfl) ?_   -- t80 spec.go:761
            exact LW.nil ⟨rfl, rfl⟩
          subst hw'
          refine pu rfl pv_mv ?_   -- t82 spec.go:761
          refine LW.sc false 2 6 82 83 85 (b := decide ((l[k]'hlt).s.getD m 0 = 96)) (fun w' => w6 = w') rfl rfl rfl rfl (fun _ => rfl) rfl (fun ht => ?_) rfl (fun J w' hw' => ?_)   -- t85 := pick ['t82', "c:['true']", 't84']
          · skip
            refine pu rfl pv_mv ?_   -- t83 spec.go:761
            refine pu rfl (pv_eqlB (b := 96) rfl rfl) ?_   -- t84 spec.go:761
            exact LW.nil ⟨rfl, rfl⟩
          subst hw'
          refine pu rfl pv_mv ?_   -- t86 spec.go:761
          refine LW.sc false 2 10 86 87 89 (b := isSp ((l[k]'hlt).s.getD m 0)) (fun w' => w6 = w') rfl rfl rfl rfl (fun _ => rfl) rfl (fun ht => ?_) rfl (fun J w' hw' => ?_)   -- t89 := pick ['t86', "c:['true']", 't88']
          · skip
            refine pu rfl pv_mv ?_   -- t87 spec.go:761
            refine evd rfl (ev_call cb86 rfl (f86_ok _ w6) ?_)   -- t88 spec.go:761
            rintro _ _ ⟨rfl, rfl⟩
            exact LW.nil ⟨rfl, rfl⟩
          subst hw'
          refine LW.nil ?_
          refine SX.cond rfl (fun hc => ?_) (fun hc => ?_)   -- t89
          · skip
            have hq : escB ((l[k]'hlt).s.getD m 0) = true := by rw [← hc]; rfl
            refine SX.reg ?_
            refine pu rfl pv_mv ?_   -- t90 spec.go:762
            refine push (T := tB) 92 sl83 okB (by decide) hB6.own hB6.ext.size rfl (fun _ => rfl) rfl rfl (by omega) (by unfold maxLen; omega) fun J1 v7 w7 ho7 hg7 => ?_   -- t91 spec.go:762
            have hB7 := hB6.push hg7 ho7
            refine pu rfl pv_as ?_   -- t3 spec.go:762
            refine LW.nil ?_
            refine SX.reg ?_
            refine pu rfl pv_mv ?_   -- t93 spec.go:764
            refine pu rfl pv_mv ?_   -- t94 spec.go:764
            refine push (T := tB) ((l[k]'hlt).s.getD m 0) sl83 okB (by decide) hB7.own hB7.ext.size rfl (fun _ => rfl) rfl rfl (by rw [List.length_append]; simp only [List.length_singleton]; omega) (by rw [List.length_append]; simp only [List.length_singleton]; unfold maxLen; omega) fun J1 v8 w8 ho8 hg8 => ?_   -- t95 spec.go:764
            refine pu rfl pv_as ?_   -- t3 spec.go:764
            refine LW.nil ?_
            refine SX.reg ?_
            refine pu rfl pv_mv ?_   -- t70 spec.go:759
            refine pu rfl (pv_add rfl rfl (by omega)) ?_   -- t71 spec.go:759
            refine pu rfl pv_as ?_   -- t9 spec.go:759
            refine LW.nil ?_
            exact ⟨m + 1, v8, ⟨rfl, rfl, rfl, rfl, rfl, rfl, trivial⟩, ⟨by omega, by rw [esc_step _ _ hml, hq]; simpa using hB7.push hg8 ho8⟩, by omega⟩
          · skip
            have hq : escB ((l[k]'hlt).s.getD m 0) = false := by rw [← hc]; rfl
            refine SX.skip ?_
            refine SX.reg ?_
            refine pu rfl pv_mv ?_   -- t93 spec.go:764
            refine pu rfl pv_mv ?_   -- t94 spec.go:764
            refine push (T := tB) ((l[k]'hlt).s.getD m 0) sl83 okB (by decide) hB6.own hB6.ext.size rfl (fun _ => rfl) rfl rfl (by omega) (by unfold maxLen; omega) fun J1 v8 w8 ho8 hg8 => ?_   -- t95 spec.go:764
            refine pu rfl pv_as ?_   -- t3 spec.go:764
            refine LW.nil ?_
            refine SX.reg ?_
            refine pu rfl pv_mv ?_   -- t70 spec.go:759
            refine pu rfl (pv_add rfl rfl (by omega)) ?_   -- t71 spec.go:759
            refine pu rfl pv_as ?_   -- t9 spec.go:759
            refine LW.nil ?_
            exact ⟨m + 1, v8, ⟨rfl, rfl, rfl, rfl, rfl, rfl, trivial⟩, ⟨by omega, by rw [esc_step _ _ hml, hq]; simpa using hB6.push hg8 ho8⟩, by omega⟩
        · skip
          have hml : m = (l[k]'hlt).s.length := by simp at hc; omega
          refine SX.exit (xb_here ?_)
          refine SX.reg ?_
          refine pu rfl pv_mv ?_   -- t15 spec.go:735
          refine pu rfl (pv_add rfl rfl (by omega)) ?_   -- t16 spec.go:735
          refine pu rfl pv_as ?_   -- t5 spec.go:735
          refine LW.nil ?_
          have hst : unpN (l.take (k + 1)) = ((unpN (l.take k)).1 ++ (if ust (l[k]'hlt) ≠ (unpN (l.take k)).2 then [42] else []) ++ escText (l[k]'hlt).s, ust (l[k]'hlt)) := by rw [unpN_step l k hlt, unp1, if_neg h1, if_neg h2]
          exact ⟨k + 1, v6, ⟨rfl, rfl, by rw [hst]; rfl, rfl, trivial⟩, ⟨by omega, hB6.ext, by rw [hst]; exact (by have h6 := hB6.own; rw [hml, List.take_length] at h6; exact h6)⟩, by omega⟩
  · skip
    have hge : k = l.length := by simp at hc; omega
    subst hge
    rw [List.take_length] at hown hul
    refine SX.exit (xb_here ?_)
    refine SX.seq ?_
    refine SX.seq (SX.reg ?_)   -- region 30
    refine pu rfl pv_mv ?_   -- t97 spec.go:767
    refine pu rfl (pv_eql rfl rfl) ?_   -- t98 spec.go:767
    refine LW.nil ?_
    refine SX.cond rfl (fun hc => ?_) (fun hc => ?_)   -- t98
    · skip
      have hf : (unpN l).2 = 1 := by rw [List.take_length] at hc; simpa using hc
      refine SX.reg ?_
      refine pu rfl pv_mv ?_   -- t99 spec.go:768
      refine push (T := tB) 42 sl83 okB (by decide) hown hx.size rfl (fun _ => rfl) rfl rfl (by omega) (by unfold maxLen; omega) fun J1 v5 w5 ho5 hg5 => ?_   -- t100 spec.go:768
      refine pu rfl pv_as ?_   -- t3 spec.go:768
      refine LW.nil ?_
      refine SX.seq (SX.reg ?_)   -- region 32
      refine pu rfl pv_mv ?_   -- t102 spec.go:770
      refine pu rfl (pv_str ho5.rd rfl) ?_   -- t103 spec.go:770
      refine pu rfl pv_as ?_   -- t2 spec.go:770
      refine LW.nil ?_
      refine SX.ret ?_
      exact ⟨by rw [unparse, if_pos hf]; rfl, hx.step hg5.grown (fun g e => (hown.lt g e).1)⟩
    · skip
      have hf : ¬ (unpN l).2 = 1 := by rw [List.take_length] at hc; simpa using hc
      refine SX.skip ?_
      refine SX.seq (SX.reg ?_)   -- region 32
      refine pu rfl pv_mv ?_   -- t102 spec.go:770
      refine pu rfl (pv_str hown.rd rfl) ?_   -- t103 spec.go:770
      refine pu rfl pv_as ?_   -- t2 spec.go:770
      refine LW.nil ?_
      refine SX.ret ?_
      exact ⟨by rw [unparse, if_neg hf]; rfl, hx⟩

theorem f64_ok (v : Value) (l : List Tri) (w : World) (hr : Rd w tI v l) (hs : l.length ≤ 4294967296) (ht : tl l ≤ 1048576) : Fn 64 [v] w (fun v' w' => v' = iv (tl l) ∧ w = w') := by
  refine Fn.mk1 (N := 24) Yabc.func64 rfl rfl rfl rfl ?_
  refine SX.seq (SX.reg ?_)   -- region 0
  refine pu rfl pv_as ?_   -- t2 laws.go:804
  refine LW.nil ?_
  refine SX.seq (SX.reg ?_)   -- region 1
  refine pu rfl pv_as ?_   -- t3(n) laws.go:805
  refine LW.nil ?_
  refine SX.seq ?_
  refine SX.seq (SX.reg ?_)   -- region 2
  refine pu rfl pv_as ?_   -- t4(i) laws.go:806
  refine LW.nil ?_
  refine SX.block ?_
  refine SX.loop (G := Nat) (fun k => [(0, v), (3, iv (tl (l.take k))), (4, iv k)]) (fun k w' => w = w' ∧ k ≤ l.length) (fun k => l.length - k) 0 ⟨rfl, rfl, rfl, trivial⟩ ⟨rfl, Nat.zero_le _⟩ ?_
  rintro k w2 ρ1 ⟨hw, hk⟩
  subst hw
  have htk := tl_le l k
  refine SX.seq ?_
  refine SX.seq (SX.reg ?_)   -- region 3
  refine pu rfl pv_mv ?_   -- t5 laws.go:806
  refine pu rfl pv_mv ?_   -- t6 laws.go:806
  refine pu rfl (pv_lenV (T := tI) Yabc.underlying23 hr rfl) ?_   -- t7 laws.go:806
  refine pu rfl (pv_lss rfl rfl) ?_   -- t8 laws.go:806
  refine pu rfl pv_mv ?_   -- t9 laws.go:806
  refine LW.sc true 2 4 9 10 12 (b := decide ((tl (l.take k) : Int) ≤ 1048576)) (fun w' => w = w') rfl rfl rfl rfl (fun _ => rfl) rfl (fun ht => ?_) rfl (fun J w' hw' => ?_)   -- t12 := pick ['t9', 't11', "c:['false']"]
  · skip
    refine pu rfl pv_mv ?_   -- t10 laws.go:806
    refine pu rfl (pv_leq rfl rfl) ?_   -- t11 laws.go:806
    exact LW.nil ⟨rfl, rfl⟩
  subst hw'
  refine LW.nil ?_
  refine SX.cond rfl (fun hc => ?_) (fun hc => ?_)   -- t12
  · skip
    have hlt : k < l.length := by simp only [scv, Bool.and_eq_true, decide_eq_true_eq] at hc; have := hc.1; omega
    have hts := tl_take l k hlt
    have htk1 := tl_le l (k + 1)
    refine SX.skip ?_
    refine SX.seq ?_
    refine SX.block ?_
    refine SX.reg ?_
    refine pu rfl pv_mv ?_   -- t15 laws.go:807
    refine pu rfl pv_mv ?_   -- t16 laws.go:807
    refine pu rfl pv_mv ?_   -- t17 laws.go:807
    refine pu rfl (pv_ix (T := tI) (k := k) Yabc.underlying23 sz67 okI hr rfl rfl (by omega) (by omega)) ?_   -- t18 laws.go:807
    refine pu rfl (pv_fa fb67_2 rfl) ?_   -- t19 laws.go:807
    refine pu rfl (pv_ld ag9 rfl (hr.cellAt okI (by omega) rfl)) ?_   -- t20 laws.go:807
    refine pu rfl (pv_len_s rfl) ?_   -- t21 laws.go:807
    refine pu rfl (pv_add rfl rfl (by omega)) ?_   -- t22 laws.go:807
    refine pu rfl pv_as ?_   -- t3(n) laws.go:807
    refine LW.nil ?_
    refine SX.reg ?_
    refine pu rfl pv_mv ?_   -- t13 laws.go:806
    refine pu rfl (pv_add rfl rfl (by omega)) ?_   -- t14 laws.go:806
    refine pu rfl pv_as ?_   -- t4(i) laws.go:806
    refine LW.nil ?_
    exact ⟨k + 1, ⟨rfl, congrArg iv (by rw [hts]; push_cast; rfl), rfl, trivial⟩, ⟨rfl, by omega⟩, by omega⟩
  · skip
    have hge : k = l.length := by
      have h2 : decide ((tl (l.take k) : Int) ≤ 1048576) = true := by simp; omega
      simp only [scv, h2, Bool.and_true, decide_eq_false_iff_not] at hc
      omega
    subst hge
    refine SX.exit (xb_here ?_)
    refine SX.seq (SX.reg ?_)   -- region 6
    refine pu rfl pv_mv ?_   -- t23 laws.go:809
    refine pu rfl pv_as ?_   -- t2 laws.go:809
    refine LW.nil ?_
    refine SX.ret ?_
    exact ⟨by rw [List.take_length]; rfl, rfl⟩

theorem f69_ok (v : Value) (l : List Tri) (w : World) (hr : Rd w tK v l) (hs : l.length ≤ 4294967296) (ht : tl l ≤ 1048576) : Fn 69 [v] w (fun v' w' => v' = iv (tl l) ∧ w = w') := by
  refine Fn.mk1 (N := 24) Yabc.func69 rfl rfl rfl rfl ?_
  refine SX.seq (SX.reg ?_)   -- region 0
  refine pu rfl pv_as ?_   -- t2 laws.go:820
  refine LW.nil ?_
  refine SX.seq (SX.reg ?_)   -- region 1
  refine pu rfl pv_as ?_   -- t3(n) laws.go:821
  refine LW.nil ?_
  refine SX.seq ?_
  refine SX.seq (SX.reg ?_)   -- region 2
  refine pu rfl pv_as ?_   -- t4(i) laws.go:822
  refine LW.nil ?_
  refine SX.block ?_
  refine SX.loop (G := Nat) (fun k => [(0, v), (3, iv (tl (l.take k))), (4, iv k)]) (fun k w' => w = w' ∧ k ≤ l.length) (fun k => l.length - k) 0 ⟨rfl, rfl, rfl, trivial⟩ ⟨rfl, Nat.zero_le _⟩ ?_
  rintro k w2 ρ1 ⟨hw, hk⟩
  subst hw
  have htk := tl_le l k
  refine SX.seq ?_
  refine SX.seq (SX.reg ?_)   -- region 3
  refine pu rfl pv_mv ?_   -- t5 laws.go:822
  refine pu rfl pv_mv ?_   -- t6 laws.go:822
  refine pu rfl (pv_lenV (T := tK) Yabc.underlying27 hr rfl) ?_   -- t7 laws.go:822
  refine pu rfl (pv_lss rfl rfl) ?_   -- t8 laws.go:822
  refine pu rfl pv_mv ?_   -- t9 laws.go:822
  refine LW.sc true 2 4 9 10 12 (b := decide ((tl (l.take k) : Int) ≤ 1048576)) (fun w' => w = w') rfl rfl rfl rfl (fun _ => rfl) rfl (fun ht => ?_) rfl (fun J w' hw' => ?_)   -- t12 := pick ['t9', 't11', "c:['false']"]
  · skip
    refine pu rfl pv_mv ?_   -- t10 laws.go:822
    refine pu rfl (pv_leq rfl rfl) ?_   -- t11 laws.go:822
    exact LW.nil ⟨rfl, rfl⟩
  subst hw'
  refine LW.nil ?_
  refine SX.cond rfl (fun hc => ?_) (fun hc => ?_)   -- t12
  · skip
    have hlt : k < l.length := by simp only [scv, Bool.and_eq_true, decide_eq_true_eq] at hc; have := hc.1; omega
    have hts := tl_take l k hlt
    have htk1 := tl_le l (k + 1)
    refine SX.skip ?_
    refine SX.seq ?_
    refine SX.block ?_
    refine SX.reg ?_
    refine pu rfl pv_mv ?_   -- t15 laws.go:823
    refine pu rfl pv_mv ?_   -- t16 laws.go:823
    refine pu rfl pv_mv ?_   -- t17 laws.go:823
    refine pu rfl (pv_ix (T := tK) (k := k) Yabc.underlying27 sz30 okK hr rfl rfl (by omega) (by omega)) ?_   -- t18 laws.go:823
    refine pu rfl (pv_fa fb30_2 rfl) ?_   -- t19 laws.go:823
    refine pu rfl (pv_ld ag9 rfl (hr.cellAt okK (by omega) rfl)) ?_   -- t20 laws.go:823
    refine pu rfl (pv_len_s rfl) ?_   -- t21 laws.go:823
    refine pu rfl (pv_add rfl rfl (by omega)) ?_   -- t22 laws.go:823
    refine pu rfl pv_as ?_   -- t3(n) laws.go:823
    refine LW.nil ?_
    refine SX.reg ?_
    refine pu rfl pv_mv ?_   -- t13 laws.go:822
    refine pu rfl (pv_add rfl rfl (by omega)) ?_   -- t14 laws.go:822
    refine pu rfl pv_as ?_   -- t4(i) laws.go:822
    refine LW.nil ?_
    exact ⟨k + 1, ⟨rfl, congrArg iv (by rw [hts]; push_cast; rfl), rfl, trivial⟩, ⟨rfl, by omega⟩, by omega⟩
  · skip
    have hge : k = l.length := by
      have h2 : decide ((tl (l.take k) : Int) ≤ 1048576) = true := by simp; omega
      simp only [scv, h2, Bool.and_true, decide_eq_false_iff_not] at hc
      omega
    subst hge
    refine SX.exit (xb_here ?_)
    refine SX.seq (SX.reg ?_)   -- region 6
    refine pu rfl pv_mv ?_   -- t23 laws.go:825
    refine pu rfl pv_as ?_   -- t2 laws.go:825
    refine LW.nil ?_
    refine SX.ret ?_
    exact ⟨by rw [List.take_length]; rfl, rfl⟩

end Go.Proofs.Ybuabw
