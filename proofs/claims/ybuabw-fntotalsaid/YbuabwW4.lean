/-
  WALKS. Inline pieces. Own work for the seat Ybuabw (the steps of each walk were typed by a program of ours off the printed code).
-/
import Derived.Test.YbuabwW1
namespace Go.Proofs.Ybuabw
open Go.RowKit
set_option linter.unusedVariables false
set_option linter.unusedSimpArgs false
set_option maxRecDepth 20000

theorem f91_ok (vo vb : Value) (out : List Tri) (s : Int) (b : List UInt8) (B : Nat) (w : World) (ho : Own w B tI vo out) (hB : B ≤ w.heap.size) (hb : Rd w tB vb b) (hs : out.length ≤ 4294967296) : Fn 91 [vo, iv s, vb] w (fun v w' => Own w' B tI v (flushP out s b) ∧ Gw w w' vo v) := by
  refine Fn.mk1 (N := 18) Yabc.func91 rfl rfl rfl rfl ?_
  refine SX.seq (SX.reg ?_)   -- region 0
  refine pu rfl pv_as ?_   -- t6 spec.go:674
  refine LW.nil ?_
  refine SX.seq ?_
  refine SX.seq (SX.reg ?_)   -- region 1
  refine pu rfl pv_mv ?_   -- t7 spec.go:675
  refine pu rfl (pv_lenV (T := tB) Yabc.underlying83 hb rfl) ?_   -- t8 spec.go:675
  refine pu rfl (pv_eql rfl rfl) ?_   -- t9 spec.go:675
  refine LW.nil ?_
  refine SX.cond rfl (fun hc => ?_) (fun hc => ?_)   -- t9
  · skip
    have hb0 : b = [] := by simpa using hc
    refine SX.seq (SX.reg ?_)   -- region 2
    refine pu rfl pv_mv ?_   -- t10 spec.go:676
    refine pu rfl pv_as ?_   -- t6 spec.go:676
    refine LW.nil ?_
    refine SX.ret ?_
    exact ⟨by rw [flushP, if_pos hb0]; exact ho, Gw.refl w vo⟩
  · skip
    have hb0 : ¬ b = [] := by simpa using hc
    refine SX.skip ?_
    refine SX.seq (SX.reg ?_)   -- region 3
    refine pu rfl pv_mv ?_   -- t11 spec.go:678
    refine pu rfl pv_mv ?_   -- t12 spec.go:678
    refine pu rfl pv_mv ?_   -- t13 spec.go:678
    refine pu rfl (pv_str hb rfl) ?_   -- t14 spec.go:678
    refine pu rfl (pv_bd rfl (bd67 _ _ _)) ?_   -- t15 spec.go:678
    refine push (T := tI) ⟨0, s, b⟩ sl23 okI (by decide) ho hB rfl (fun _ => rfl) rfl rfl (by omega) (by unfold maxLen; omega) fun J1 v1 w3 ho3 hg3 => ?_   -- t16 spec.go:678
    refine pu rfl pv_as ?_   -- t6 spec.go:678
    refine LW.nil ?_
    refine SX.ret ?_
    exact ⟨by rw [flushP, if_neg hb0]; exact ho3, hg3⟩

theorem f30_ok (t : List UInt8) (w : World) (hs : t.length ≤ 1073741824) : Fn 30 [S t] w (fun v w' => Own w' w.heap.size tI v (parseInline t) ∧ Ext w w' ∧ (parseInline t).length ≤ 2 * t.length + 1) := by
  refine Fn.mk1 (N := 143) Yabc.func30 rfl rfl rfl rfl ?_
  refine SX.seq (SX.reg ?_)   -- region 0
  refine pu rfl pv_as ?_   -- t2 impl.go:245
  refine LW.nil ?_
  refine SX.seq (SX.reg ?_)   -- region 1
  refine pu rfl pv_as ?_   -- t3 impl.go:246
  refine LW.nil ?_
  refine SX.seq (SX.reg ?_)   -- region 2
  refine pu rfl pv_as ?_   -- t4 impl.go:247
  refine LW.nil ?_
  refine SX.seq (SX.reg ?_)   -- region 3
  refine pu rfl pv_as ?_   -- t5 impl.go:248
  refine LW.nil ?_
  refine SX.seq (SX.reg ?_)   -- region 4
  refine pu rfl pv_as ?_   -- t6 impl.go:249
  refine LW.nil ?_
  refine SX.seq (SX.reg ?_)   -- region 5
  refine pu rfl pv_mv ?_   -- t10 impl.go:250
  refine pu rfl (pv_len_s rfl) ?_   -- t11 impl.go:250
  refine pu rfl pv_as ?_   -- t7 impl.go:250
  refine LW.nil ?_
  refine SX.seq ?_
  refine SX.block ?_
  refine SX.loop7 (fun (f i : Nat) (s : Int) (b : List UInt8) (out : List Tri) vo vb => [(0, S t), (3, vo), (4, iv s), (5, vb), (6, iv i), (7, iv t.length)]) (fun f i s b out vo vb w' => Two w w' tI vo out tB vb b ∧ pinl t f i s b out = parseInline t ∧ t.length - i ≤ f ∧ i ≤ t.length ∧ b.length ≤ i ∧ out.length ≤ 2 * i ∧ 0 ≤ s ∧ s ≤ 1) (fun f _ _ _ _ _ _ => f) t.length 0 0 [] [] (.slice none 0 0) (.slice none 0 0) ⟨rfl, rfl, rfl, rfl, rfl, rfl, trivial⟩ ⟨Two.start w tI tB, rfl, by omega, Nat.zero_le _, by simp, by simp, by omega, by omega⟩ ?_
  rintro f i s b out vo vb w2 ρ1 ⟨hT, hp, hf, hi, hbl, hol, hs0, hs1⟩
  refine SX.seq ?_
  refine SX.seq (SX.reg ?_)   -- region 6
  refine pu rfl pv_mv ?_   -- t12 impl.go:251
  refine pu rfl pv_mv ?_   -- t13 impl.go:251
  refine pu rfl (pv_lss rfl rfl) ?_   -- t14 impl.go:251
  refine LW.nil ?_
  refine SX.cond rfl (fun hc => ?_) (fun hc => ?_)   -- t14
  · skip
    have hlt : i < t.length := by simpa using hc
    obtain ⟨f, rfl⟩ : ∃ f', f = f' + 1 := ⟨f - 1, by omega⟩
    rw [pinl, if_pos hlt] at hp
    refine SX.skip ?_
    refine SX.block ?_
    refine SX.seq (SX.reg ?_)   -- region 7
    refine pu rfl pv_mv ?_   -- t15 impl.go:252
    refine pu rfl pv_mv ?_   -- t16 impl.go:252
    refine pu rfl (pv_index (k := i) rfl rfl (by omega) (by omega)) ?_   -- t17 impl.go:252
    refine pu rfl pv_as ?_   -- t8 impl.go:252
    refine LW.nil ?_
    refine SX.seq (SX.reg ?_)   -- region 8
    refine pu rfl pv_mv ?_   -- t18 impl.go:253
    refine pu rfl (pv_eqlB (b := 92) rfl rfl) ?_   -- t19 impl.go:253
    refine LW.nil ?_
    refine SX.cond rfl (fun hc => ?_) (fun hc => ?_)   -- t19
    · skip
      have h92 : t.getD i 0 = 92 := by simpa using hc
      rw [if_pos h92] at hp
      refine SX.seq (SX.reg ?_)   -- region 9
      refine pu rfl pv_mv ?_   -- t20 impl.go:254
      refine pu rfl (pv_add rfl rfl (by omega)) ?_   -- t21 impl.go:254
      refine pu rfl pv_mv ?_   -- t22 impl.go:254
      refine pu rfl (pv_lss rfl rfl) ?_   -- t23 impl.go:254
      refine LW.nil ?_
      refine SX.cond rfl (fun hc => ?_) (fun hc => ?_)   -- t23
      · skip
        have hlt2 : i + 1 < t.length := by simp at hc; omega
        rw [if_pos hlt2] at hp
        refine SX.seq (SX.reg ?_)   -- region 10
        refine pu rfl pv_mv ?_   -- t24 impl.go:255
        refine pu rfl pv_mv ?_   -- t25 impl.go:255
        refine pu rfl pv_mv ?_   -- t26 impl.go:255
        refine pu rfl (pv_add rfl rfl (by omega)) ?_   -- t27 impl.go:255
        refine pu rfl (pv_index (k := (i + 1)) rfl rfl (by omega) (by omega)) ?_   -- t28 impl.go:255
        refine push (T := tB) (t.getD (i + 1) 0) sl83 okB (by decide) hT.o2 hT.ext.size rfl (fun _ => rfl) rfl rfl (by omega) (by unfold maxLen; omega) fun J1 v1 w3 ho3 hg3 => ?_   -- t29 impl.go:255
        refine pu rfl pv_as ?_   -- t5 impl.go:255
        refine LW.nil ?_
        refine SX.reg ?_
        refine pu rfl pv_mv ?_   -- t31 impl.go:256
        refine pu rfl (pv_add rfl rfl (by omega)) ?_   -- t32 impl.go:256
        refine pu rfl pv_as ?_   -- t6 impl.go:256
        refine LW.nil ?_
        exact ⟨f, i + 2, s, b ++ [t.getD (i + 1) 0], out, vo, v1, ⟨rfl, rfl, rfl, rfl, rfl, rfl, trivial⟩, ⟨hT.push2 hg3 ho3, hp, by omega, by omega, by first | omega | (simp only [List.length_append, List.length_singleton, List.length_nil]; omega), by first | omega | (simp only [List.length_append, List.length_singleton, List.length_nil]; omega), by omega, by omega⟩, by omega⟩
      · skip
        have hlt2 : ¬ i + 1 < t.length := by simp at hc; omega
        rw [if_neg hlt2] at hp
        refine SX.seq (SX.reg ?_)   -- region 12
        refine pu rfl pv_mv ?_   -- t33 impl.go:258
        refine push (T := tB) 92 sl83 okB (by decide) hT.o2 hT.ext.size rfl (fun _ => rfl) rfl rfl (by omega) (by unfold maxLen; omega) fun J1 v1 w3 ho3 hg3 => ?_   -- t34 impl.go:258
        refine pu rfl pv_as ?_   -- t5 impl.go:258
        refine LW.nil ?_
        refine SX.reg ?_
        refine pu rfl pv_mv ?_   -- t36 impl.go:259
        refine pu rfl (pv_add rfl rfl (by omega)) ?_   -- t37 impl.go:259
        refine pu rfl pv_as ?_   -- t6 impl.go:259
        refine LW.nil ?_
        exact ⟨f, i + 1, s, b ++ [92], out, vo, v1, ⟨rfl, rfl, rfl, rfl, rfl, rfl, trivial⟩, ⟨hT.push2 hg3 ho3, hp, by omega, by omega, by first | omega | (simp only [List.length_append, List.length_singleton, List.length_nil]; omega), by first | omega | (simp only [List.length_append, List.length_singleton, List.length_nil]; omega), by omega, by omega⟩, by omega⟩
    · skip
      have h92 : ¬ t.getD i 0 = 92 := by simpa using hc
      rw [if_neg h92] at hp
      refine SX.seq (SX.reg ?_)   -- region 14
      refine pu rfl pv_mv ?_   -- t38 impl.go:261
      refine pu rfl (pv_eqlB (b := 42) rfl rfl) ?_   -- t39 impl.go:261
      refine LW.nil ?_
      refine SX.cond rfl (fun hc => ?_) (fun hc => ?_)   -- t39
      · skip
        have h42 : t.getD i 0 = 42 := by simpa using hc
        rw [if_pos h42] at hp
        have hfl := flushP_len out s b
        refine SX.mid2 (fun vo vb => [(0, S t), (3, vo), (4, iv s), (5, vb), (6, iv i), (7, iv t.length)]) (fun vo vb w' => Two w w' tI vo (flushP out s b) tB vb []) ?_ ?_
        · skip
          refine SX.seq (SX.reg ?_)   -- region 15
          refine pu rfl pv_mv ?_   -- t40 impl.go:262
          refine pu rfl (pv_lenV (T := tB) Yabc.underlying83 hT.o2.rd rfl) ?_   -- t41 impl.go:262
          refine pu rfl (pv_gtr rfl rfl) ?_   -- t42 impl.go:262
          refine LW.nil ?_
          refine SX.cond rfl (fun hc => ?_) (fun hc => ?_)   -- t42
          · skip
            have hb0 : ¬ b = [] := by intro e; simp [e] at hc
            refine SX.seq (SX.reg ?_)   -- region 16
            refine pu rfl pv_mv ?_   -- t43 impl.go:263
            refine pu rfl pv_mv ?_   -- t44 impl.go:263
            refine pu rfl pv_mv ?_   -- t45 impl.go:263
            refine pu rfl (pv_str hT.o2.rd rfl) ?_   -- t46 impl.go:263
            refine pu rfl (pv_bd rfl (bd67 _ _ _)) ?_   -- t47 impl.go:263
            refine push (T := tI) ⟨0, s, b⟩ sl23 okI (by decide) hT.o1 hT.ext.size rfl (fun _ => rfl) rfl rfl (by omega) (by unfold maxLen; omega) fun J1 v1 w3 ho3 hg3 => ?_   -- t48 impl.go:263
            refine pu rfl pv_as ?_   -- t3 impl.go:263
            refine LW.nil ?_
            refine SX.reg ?_
            refine pu rfl pv_as ?_   -- t5 impl.go:264
            refine LW.nil ?_
            exact ⟨v1, .slice none 0 0, ⟨rfl, rfl, rfl, rfl, rfl, rfl, trivial⟩, by rw [flushP, if_neg hb0]; exact (hT.push1 hg3 ho3).nil2⟩
          · skip
            have hb0 : b = [] := by simpa using hc
            refine SX.skip ?_
            exact ⟨vo, vb, ⟨rfl, rfl, rfl, rfl, rfl, rfl, trivial⟩, by rw [flushP, if_pos hb0, ← hb0]; exact hT⟩
        rintro vo1 vb1 w3 ρ3 h3
        refine SX.seq (SX.reg ?_)   -- region 18
        refine pu rfl pv_mv ?_   -- t50 impl.go:266
        refine pu rfl (pv_sub rfl rfl (by omega)) ?_   -- t51 impl.go:266
        refine pu rfl pv_as ?_   -- t4 impl.go:266
        refine LW.nil ?_
        refine SX.reg ?_
        refine pu rfl pv_mv ?_   -- t52 impl.go:267
        refine pu rfl (pv_add rfl rfl (by omega)) ?_   -- t53 impl.go:267
        refine pu rfl pv_as ?_   -- t6 impl.go:267
        refine LW.nil ?_
        exact ⟨f, i + 1, 1 - s, [], flushP out s b, vo1, vb1, ⟨rfl, rfl, rfl, rfl, rfl, rfl, trivial⟩, ⟨h3, hp, by omega, by omega, by first | omega | (simp only [List.length_append, List.length_singleton, List.length_nil]; omega), by first | omega | (simp only [List.length_append, List.length_singleton, List.length_nil]; omega), by omega, by omega⟩, by omega⟩
      · skip
        have h42 : ¬ t.getD i 0 = 42 := by simpa using hc
        rw [if_neg h42] at hp
        refine SX.seq (SX.reg ?_)   -- region 20
        refine pu rfl pv_mv ?_   -- t54 impl.go:268
        refine pu rfl (pv_eqlB (b := 96) rfl rfl) ?_   -- t55 impl.go:268
        refine LW.nil ?_
        refine SX.cond rfl (fun hc => ?_) (fun hc => ?_)   -- t55
        · skip
          have h96 : t.getD i 0 = 96 := by simpa using hc
          rw [if_pos h96] at hp
          refine SX.seq (SX.reg ?_)   -- region 21
          refine pu rfl pv_mv ?_   -- t56 impl.go:269
          refine pu rfl (pv_add rfl rfl (by omega)) ?_   -- t57 impl.go:269
          refine pu rfl pv_as ?_   -- t9 impl.go:269
          refine LW.nil ?_
          refine SX.seq ?_
          refine SX.block ?_
          have hle := lead_le noTick (t.drop (i + 1))
          simp only [List.length_drop] at hle
          refine SX.loop (G := Nat) (fun m => [(0, S t), (3, vo), (4, iv s), (5, vb), (6, iv i), (7, iv t.length), (9, iv (i + 1 + m : Nat))]) (fun m w' => w2 = w' ∧ m ≤ lead noTick (t.drop (i + 1))) (fun m => t.length - (i + 1 + m)) 0 ⟨rfl, rfl, rfl, rfl, rfl, rfl, rfl, trivial⟩ ⟨rfl, Nat.zero_le _⟩ ?_
          rintro m w2' ρ2 ⟨hw, hm⟩
          subst hw
          refine SX.seq ?_
          refine SX.seq (SX.reg ?_)   -- region 22
          refine pu rfl pv_mv ?_   -- t58 impl.go:270
          refine pu rfl pv_mv ?_   -- t59 impl.go:270
          refine pu rfl (pv_lss rfl rfl) ?_   -- t60 impl.go:270
          refine pu rfl pv_mv ?_   -- t61 impl.go:270
          refine LW.sc true 4 3 61 62 66 (b := decide (t.getD (i + 1 + m) 0 ≠ 96)) (fun w' => w2 = w') rfl rfl rfl rfl (fun _ => rfl) rfl (fun ht => ?_) rfl (fun J w' hw' => ?_)   -- t66 := pick ['t61', 't65', "c:['false']"]
          · skip
            have hj : i + 1 + m < t.length := by simp at ht; omega
            refine pu rfl pv_mv ?_   -- t62 impl.go:270
            refine pu rfl pv_mv ?_   -- t63 impl.go:270
            refine pu rfl (pv_index (k := i + 1 + m) rfl rfl (by omega) (by omega)) ?_   -- t64 impl.go:270
            refine pu rfl (pv_neqB (b := 96) rfl rfl) ?_   -- t65 impl.go:270
            exact LW.nil ⟨rfl, rfl⟩
          subst hw'
          refine LW.nil ?_
          refine SX.cond rfl (fun hc => ?_) (fun hc => ?_)   -- t66
          · skip
            simp only [scv, Bool.and_eq_true, decide_eq_true_eq] at hc
            have hj : i + 1 + m < t.length := by have := hc.1; omega
            have hq : noTick ((t.drop (i + 1)).getD m 0) = true := by rw [drop_at]; simpa [noTick] using hc.2
            refine SX.skip ?_
            refine SX.block ?_
            refine SX.reg ?_
            refine pu rfl pv_mv ?_   -- t67 impl.go:271
            refine pu rfl (pv_add rfl rfl (by omega)) ?_   -- t68 impl.go:271
            refine pu rfl pv_as ?_   -- t9 impl.go:271
            refine LW.nil ?_
            exact ⟨m + 1, ⟨rfl, rfl, rfl, rfl, rfl, rfl, rfl, trivial⟩, ⟨rfl, lead_step _ _ _ hm (by simp; omega) hq⟩, by omega⟩
          · skip
            have hd : lead noTick (t.drop (i + 1)) = m := lead_done _ _ _ hm (fun hl => by
              rw [drop_at]
              simp only [List.length_drop] at hl
              have hl2 : ((i + 1 + m : Nat) : Int) < (t.length : Int) := by omega
              simp only [scv, hl2, decide_true, Bool.true_and] at hc
              simpa [noTick] using hc)
            rw [hd] at hp
            refine SX.exit (xb_here ?_)
            refine SX.seq (SX.reg ?_)   -- region 24
            refine pu rfl pv_mv ?_   -- t69 impl.go:273
            refine pu rfl pv_mv ?_   -- t70 impl.go:273
            refine pu rfl (pv_lss rfl rfl) ?_   -- t71 impl.go:273
            refine LW.nil ?_
            refine SX.cond rfl (fun hc => ?_) (fun hc => ?_)   -- t71
            · skip
              have hj : i + 1 + m < t.length := by simp at hc; omega
              rw [if_pos hj] at hp
              have hfl := flushP_len out s b
              refine SX.mid2 (fun vo vb => [(0, S t), (3, vo), (4, iv s), (5, vb), (6, iv i), (7, iv t.length), (9, iv (i + 1 + m : Nat))]) (fun vo vb w' => Two w w' tI vo (flushP out s b) tB vb []) ?_ ?_
              · skip
                refine SX.seq (SX.reg ?_)   -- region 25
                refine pu rfl pv_mv ?_   -- t72 impl.go:274
                refine pu rfl (pv_lenV (T := tB) Yabc.underlying83 hT.o2.rd rfl) ?_   -- t73 impl.go:274
                refine pu rfl (pv_gtr rfl rfl) ?_   -- t74 impl.go:274
                refine LW.nil ?_
                refine SX.cond rfl (fun hc => ?_) (fun hc => ?_)   -- t74
                · skip
                  have hb0 : ¬ b = [] := by intro e; simp [e] at hc
                  refine SX.seq (SX.reg ?_)   -- region 26
                  refine pu rfl pv_mv ?_   -- t75 impl.go:275
                  refine pu rfl pv_mv ?_   -- t76 impl.go:275
                  refine pu rfl pv_mv ?_   -- t77 impl.go:275
                  refine pu rfl (pv_str hT.o2.rd rfl) ?_   -- t78 impl.go:275
                  refine pu rfl (pv_bd rfl (bd67 _ _ _)) ?_   -- t79 impl.go:275
                  refine push (T := tI) ⟨0, s, b⟩ sl23 okI (by decide) hT.o1 hT.ext.size rfl (fun _ => rfl) rfl rfl (by omega) (by unfold maxLen; omega) fun J1 v1 w3 ho3 hg3 => ?_   -- t80 impl.go:275
                  refine pu rfl pv_as ?_   -- t3 impl.go:275
                  refine LW.nil ?_
                  refine SX.reg ?_
                  refine pu rfl pv_as ?_   -- t5 impl.go:276
                  refine LW.nil ?_
                  exact ⟨v1, .slice none 0 0, ⟨rfl, rfl, rfl, rfl, rfl, rfl, rfl, trivial⟩, by rw [flushP, if_neg hb0]; exact (hT.push1 hg3 ho3).nil2⟩
                · skip
                  have hb0 : b = [] := by simpa using hc
                  refine SX.skip ?_
                  exact ⟨vo, vb, ⟨rfl, rfl, rfl, rfl, rfl, rfl, rfl, trivial⟩, by rw [flushP, if_pos hb0, ← hb0]; exact hT⟩
              rintro vo1 vb1 w3 ρ3 h3
              refine SX.seq (SX.reg ?_)   -- region 28
              refine pu rfl pv_mv ?_   -- t82 impl.go:278
              refine pu rfl pv_mv ?_   -- t83 impl.go:278
              refine pu rfl pv_mv ?_   -- t84 impl.go:278
              refine pu rfl pv_mv ?_   -- t85 impl.go:278
              refine pu rfl (pv_add rfl rfl (by omega)) ?_   -- t86 impl.go:278
              refine pu rfl pv_mv ?_   -- t87 impl.go:278
              refine pu rfl (pv_cut (a := i + 1) (b := i + 1 + m) rfl rfl rfl (by omega) (by omega) (by omega) (by omega)) ?_   -- t88 impl.go:278
              refine pu rfl (pv_bd rfl (bd67 _ _ _)) ?_   -- t89 impl.go:278
              refine push (T := tI) ⟨2, s, (t.drop (i + 1)).take (i + 1 + m - (i + 1))⟩ sl23 okI (by decide) h3.o1 h3.ext.size rfl (fun _ => rfl) rfl rfl (by omega) (by unfold maxLen; omega) fun J1 v1 w4 ho3 hg3 => ?_   -- t90 impl.go:278
              refine pu rfl pv_as ?_   -- t3 impl.go:278
              refine LW.nil ?_
              refine SX.reg ?_
              refine pu rfl pv_mv ?_   -- t92 impl.go:279
              refine pu rfl (pv_add rfl rfl (by omega)) ?_   -- t93 impl.go:279
              refine pu rfl pv_as ?_   -- t6 impl.go:279
              refine LW.nil ?_
              exact ⟨f, i + 1 + m + 1, s, [], flushP out s b ++ [⟨2, s, (t.drop (i + 1)).take (i + 1 + m - (i + 1))⟩], v1, vb1, ⟨rfl, rfl, rfl, rfl, rfl, rfl, trivial⟩, ⟨h3.push1 hg3 ho3, hp, by omega, by omega, by first | omega | (simp only [List.length_append, List.length_singleton, List.length_nil]; omega), by first | omega | (simp only [List.length_append, List.length_singleton, List.length_nil]; omega), by omega, by omega⟩, by omega⟩
            · skip
              have hj : ¬ i + 1 + m < t.length := by simp at hc; omega
              rw [if_neg hj] at hp
              refine SX.seq (SX.reg ?_)   -- region 30
              refine pu rfl pv_mv ?_   -- t94 impl.go:281
              refine push (T := tB) 96 sl83 okB (by decide) hT.o2 hT.ext.size rfl (fun _ => rfl) rfl rfl (by omega) (by unfold maxLen; omega) fun J1 v1 w3 ho3 hg3 => ?_   -- t95 impl.go:281
              refine pu rfl pv_as ?_   -- t5 impl.go:281
              refine LW.nil ?_
              refine SX.reg ?_
              refine pu rfl pv_mv ?_   -- t97 impl.go:282
              refine pu rfl (pv_add rfl rfl (by omega)) ?_   -- t98 impl.go:282
              refine pu rfl pv_as ?_   -- t6 impl.go:282
              refine LW.nil ?_
              exact ⟨f, i + 1, s, b ++ [96], out, vo, v1, ⟨rfl, rfl, rfl, rfl, rfl, rfl, trivial⟩, ⟨hT.push2 hg3 ho3, hp, by omega, by omega, by first | omega | (simp only [List.length_append, List.length_singleton, List.length_nil]; omega), by first | omega | (simp only [List.length_append, List.length_singleton, List.length_nil]; omega), by omega, by omega⟩, by omega⟩
        · skip
          have h96 : ¬ t.getD i 0 = 96 := by simpa using hc
          rw [if_neg h96] at hp
          refine SX.seq (SX.reg ?_)   -- region 32
          refine pu rfl pv_mv ?_   -- t99 impl.go:284
          refine evd rfl (ev_call cb83 rfl (f83_ok _ w2) ?_)   -- t100 impl.go:284
          rintro _ _ ⟨rfl, rfl⟩
          refine LW.nil ?_
          refine SX.cond rfl (fun hc => ?_) (fun hc => ?_)   -- t100
          · skip
            have hsp : isSp (t.getD i 0) = true := hc
            rw [if_pos hsp] at hp
            have hlp := lead_pos isSp t i hlt hsp
            have hfl := flushP_len out s b
            refine SX.mid2 (fun vo vb => [(0, S t), (3, vo), (4, iv s), (5, vb), (6, iv i), (7, iv t.length)]) (fun vo vb w' => Two w w' tI vo (flushP out s b) tB vb []) ?_ ?_
            · skip
              refine SX.seq (SX.reg ?_)   -- region 33
              refine pu rfl pv_mv ?_   -- t101 impl.go:285
              refine pu rfl (pv_lenV (T := tB) Yabc.underlying83 hT.o2.rd rfl) ?_   -- t102 impl.go:285
              refine pu rfl (pv_gtr rfl rfl) ?_   -- t103 impl.go:285
              refine LW.nil ?_
              refine SX.cond rfl (fun hc => ?_) (fun hc => ?_)   -- t103
              · skip
                have hb0 : ¬ b = [] := by intro e; simp [e] at hc
                refine SX.seq (SX.reg ?_)   -- region 34
                refine pu rfl pv_mv ?_   -- t104 impl.go:286
                refine pu rfl pv_mv ?_   -- t105 impl.go:286
                refine pu rfl pv_mv ?_   -- t106 impl.go:286
                refine pu rfl (pv_str hT.o2.rd rfl) ?_   -- t107 impl.go:286
                refine pu rfl (pv_bd rfl (bd67 _ _ _)) ?_   -- t108 impl.go:286
                refine push (T := tI) ⟨0, s, b⟩ sl23 okI (by decide) hT.o1 hT.ext.size rfl (fun _ => rfl) rfl rfl (by omega) (by unfold maxLen; omega) fun J1 v1 w3 ho3 hg3 => ?_   -- t109 impl.go:286
                refine pu rfl pv_as ?_   -- t3 impl.go:286
                refine LW.nil ?_
                refine SX.reg ?_
                refine pu rfl pv_as ?_   -- t5 impl.go:287
                refine LW.nil ?_
                exact ⟨v1, .slice none 0 0, ⟨rfl, rfl, rfl, rfl, rfl, rfl, trivial⟩, by rw [flushP, if_neg hb0]; exact (hT.push1 hg3 ho3).nil2⟩
              · skip
                have hb0 : b = [] := by simpa using hc
                refine SX.skip ?_
                exact ⟨vo, vb, ⟨rfl, rfl, rfl, rfl, rfl, rfl, trivial⟩, by rw [flushP, if_pos hb0, ← hb0]; exact hT⟩
            rintro vo1 vb1 w3 ρ3 h3
            refine SX.seq ?_
            refine SX.block ?_
            have hle := lead_le isSp (t.drop i)
            simp only [List.length_drop] at hle
            refine SX.loop (G := Nat) (fun m => [(0, S t), (3, vo1), (4, iv s), (5, vb1), (6, iv (i + m : Nat)), (7, iv t.length)]) (fun m w' => w3 = w' ∧ m ≤ lead isSp (t.drop i)) (fun m => t.length - (i + m)) 0 ⟨rfl, rfl, rfl, rfl, rfl, rfl, trivial⟩ ⟨rfl, Nat.zero_le _⟩ ?_
            rintro m w3' ρ4 ⟨hw, hm⟩
            subst hw
            refine SX.seq ?_
            refine SX.seq (SX.reg ?_)   -- region 36
            refine pu rfl pv_mv ?_   -- t111 impl.go:289
            refine pu rfl pv_mv ?_   -- t112 impl.go:289
            refine pu rfl (pv_lss rfl rfl) ?_   -- t113 impl.go:289
            refine pu rfl pv_mv ?_   -- t114 impl.go:289
            refine LW.sc true 4 3 114 115 119 (b := isSp (t.getD (i + m) 0)) (fun w' => w3 = w') rfl rfl rfl rfl (fun _ => rfl) rfl (fun ht => ?_) rfl (fun J w' hw' => ?_)   -- t119 := pick ['t114', 't118', "c:['false']"]
            · skip
              have hj : i + m < t.length := by simp at ht; omega
              refine pu rfl pv_mv ?_   -- t115 impl.go:289
              refine pu rfl pv_mv ?_   -- t116 impl.go:289
              refine pu rfl (pv_index (k := i + m) rfl rfl (by omega) (by omega)) ?_   -- t117 impl.go:289
              refine evd rfl (ev_call cb83 rfl (f83_ok _ w3) ?_)   -- t118 impl.go:289
              rintro _ _ ⟨rfl, rfl⟩
              exact LW.nil ⟨rfl, rfl⟩
            subst hw'
            refine LW.nil ?_
            refine SX.cond rfl (fun hc => ?_) (fun hc => ?_)   -- t119
            · skip
              simp only [scv, Bool.and_eq_true, decide_eq_true_eq] at hc
              have hj : i + m < t.length := by have := hc.1; omega
              refine SX.skip ?_
              refine SX.block ?_
              refine SX.reg ?_
              refine pu rfl pv_mv ?_   -- t120 impl.go:290
              refine pu rfl (pv_add rfl rfl (by omega)) ?_   -- t121 impl.go:290
              refine pu rfl pv_as ?_   -- t6 impl.go:290
              refine LW.nil ?_
              exact ⟨m + 1, ⟨rfl, rfl, rfl, rfl, rfl, rfl, trivial⟩, ⟨rfl, lead_step _ _ _ hm (by simp; omega) (by rw [drop_at]; exact hc.2)⟩, by omega⟩
            · skip
              have hd : lead isSp (t.drop i) = m := lead_done _ _ _ hm (fun hl => by
                rw [drop_at]
                simp only [List.length_drop] at hl
                have hl2 : ((i + m : Nat) : Int) < (t.length : Int) := by omega
                simpa only [scv, hl2, decide_true, Bool.true_and] using hc)
              rw [hd] at hp hlp
              refine SX.exit (xb_here ?_)
              refine SX.reg ?_
              refine pu rfl pv_mv ?_   -- t122 impl.go:292
              refine pu rfl (pv_bd rfl (bd67 _ _ _)) ?_   -- t123 impl.go:292
              refine push (T := tI) ⟨1, 0, [32]⟩ sl23 okI (by decide) h3.o1 h3.ext.size rfl (fun _ => rfl) rfl rfl (by omega) (by unfold maxLen; omega) fun J1 v1 w5 ho5 hg5 => ?_   -- t124 impl.go:292
              refine pu rfl pv_as ?_   -- t3 impl.go:292
              refine LW.nil ?_
              exact ⟨f, i + m, s, [], flushP out s b ++ [⟨1, 0, [32]⟩], v1, vb1, ⟨rfl, rfl, rfl, rfl, rfl, rfl, trivial⟩, ⟨h3.push1 hg5 ho5, hp, by omega, by omega, by first | omega | (simp only [List.length_append, List.length_singleton, List.length_nil]; omega), by first | omega | (simp only [List.length_append, List.length_singleton, List.length_nil]; omega), by omega, by omega⟩, by omega⟩
          · skip
            have hsp : ¬ isSp (t.getD i 0) = true := by rw [hc]; decide
            rw [if_neg hsp] at hp
            refine SX.seq (SX.reg ?_)   -- region 39
            refine pu rfl pv_mv ?_   -- t126 impl.go:294
            refine pu rfl pv_mv ?_   -- t127 impl.go:294
            refine push (T := tB) (t.getD i 0) sl83 okB (by decide) hT.o2 hT.ext.size rfl (fun _ => rfl) rfl rfl (by omega) (by unfold maxLen; omega) fun J1 v1 w3 ho3 hg3 => ?_   -- t128 impl.go:294
            refine pu rfl pv_as ?_   -- t5 impl.go:294
            refine LW.nil ?_
            refine SX.reg ?_
            refine pu rfl pv_mv ?_   -- t130 impl.go:295
            refine pu rfl (pv_add rfl rfl (by omega)) ?_   -- t131 impl.go:295
            refine pu rfl pv_as ?_   -- t6 impl.go:295
            refine LW.nil ?_
            exact ⟨f, i + 1, s, b ++ [t.getD i 0], out, vo, v1, ⟨rfl, rfl, rfl, rfl, rfl, rfl, trivial⟩, ⟨hT.push2 hg3 ho3, hp, by omega, by omega, by first | omega | (simp only [List.length_append, List.length_singleton, List.length_nil]; omega), by first | omega | (simp only [List.length_append, List.length_singleton, List.length_nil]; omega), by omega, by omega⟩, by omega⟩
  · skip
    have hge : t.length ≤ i := by simpa using hc
    rw [pinl_end _ _ _ _ _ _ hge] at hp
    refine SX.exit (xb_here ?_)
    refine SX.seq ?_
    refine SX.seq (SX.reg ?_)   -- region 41
    refine pu rfl pv_mv ?_   -- t132 impl.go:298
    refine pu rfl (pv_lenV (T := tB) Yabc.underlying83 hT.o2.rd rfl) ?_   -- t133 impl.go:298
    refine pu rfl (pv_gtr rfl rfl) ?_   -- t134 impl.go:298
    refine LW.nil ?_
    refine SX.cond rfl (fun hc => ?_) (fun hc => ?_)   -- t134
    · skip
      have hb0 : ¬ b = [] := by intro e; simp [e] at hc
      refine SX.reg ?_
      refine pu rfl pv_mv ?_   -- t135 impl.go:299
      refine pu rfl pv_mv ?_   -- t136 impl.go:299
      refine pu rfl pv_mv ?_   -- t137 impl.go:299
      refine pu rfl (pv_str hT.o2.rd rfl) ?_   -- t138 impl.go:299
      refine pu rfl (pv_bd rfl (bd67 _ _ _)) ?_   -- t139 impl.go:299
      refine push (T := tI) ⟨0, s, b⟩ sl23 okI (by decide) hT.o1 hT.ext.size rfl (fun _ => rfl) rfl rfl (by omega) (by unfold maxLen; omega) fun J1 v1 w3 ho3 hg3 => ?_   -- t140 impl.go:299
      refine pu rfl pv_as ?_   -- t3 impl.go:299
      refine LW.nil ?_
      refine SX.seq (SX.reg ?_)   -- region 43
      refine pu rfl pv_mv ?_   -- t142 impl.go:301
      refine pu rfl pv_as ?_   -- t2 impl.go:301
      refine LW.nil ?_
      refine SX.ret ?_
      exact ⟨by rw [← hp, flushP, if_neg hb0]; exact ho3, (hT.push1 hg3 ho3).ext, by rw [← hp]; have := flushP_len out s b; omega⟩
    · skip
      have hb0 : b = [] := by simpa using hc
      refine SX.skip ?_
      refine SX.seq (SX.reg ?_)   -- region 43
      refine pu rfl pv_mv ?_   -- t142 impl.go:301
      refine pu rfl pv_as ?_   -- t2 impl.go:301
      refine LW.nil ?_
      refine SX.ret ?_
      exact ⟨by rw [← hp, flushP, if_pos hb0]; exact hT.o1, hT.ext, by rw [← hp]; have := flushP_len out s b; omega⟩

theorem f31_ok (t : List UInt8) (w : World) (hs : t.length ≤ 1073741824) : Fn 31 [S t] w (fun v w' => Own w' w.heap.size tI v (parseInline t) ∧ Ext w w' ∧ (parseInline t).length ≤ 2 * t.length + 1) := by
  refine Fn.mk1 (N := 120) Yabc.func31 rfl rfl rfl rfl ?_
  refine SX.seq (SX.reg ?_)   -- region 0
  refine pu rfl pv_as ?_   -- t2 spec.go:682
  refine LW.nil ?_
  refine SX.seq (SX.reg ?_)   -- region 1
  refine pu rfl pv_as ?_   -- t3 spec.go:683
  refine LW.nil ?_
  refine SX.seq (SX.reg ?_)   -- region 2
  refine pu rfl pv_as ?_   -- t4 spec.go:684
  refine LW.nil ?_
  refine SX.seq (SX.reg ?_)   -- region 3
  refine pu rfl pv_as ?_   -- t5 spec.go:685
  refine LW.nil ?_
  refine SX.seq (SX.reg ?_)   -- region 4
  refine pu rfl pv_as ?_   -- t6 spec.go:686
  refine LW.nil ?_
  refine SX.seq ?_
  refine SX.block ?_
  refine SX.loop7 (fun (f i : Nat) (s : Int) (b : List UInt8) (out : List Tri) vo vb => [(0, S t), (3, vo), (4, iv s), (5, vb), (6, iv i)]) (fun f i s b out vo vb w' => Two w w' tI vo out tB vb b ∧ pinl t f i s b out = parseInline t ∧ t.length - i ≤ f ∧ i ≤ t.length ∧ b.length ≤ i ∧ out.length ≤ 2 * i ∧ 0 ≤ s ∧ s ≤ 1) (fun f _ _ _ _ _ _ => f) t.length 0 0 [] [] (.slice none 0 0) (.slice none 0 0) ⟨rfl, rfl, rfl, rfl, rfl, trivial⟩ ⟨Two.start w tI tB, rfl, by omega, Nat.zero_le _, by simp, by simp, by omega, by omega⟩ ?_
  rintro f i s b out vo vb w2 ρ1 ⟨hT, hp, hf, hi, hbl, hol, hs0, hs1⟩
  refine SX.seq ?_
  refine SX.seq (SX.reg ?_)   -- region 5
  refine pu rfl pv_mv ?_   -- t9 spec.go:687
  refine pu rfl pv_mv ?_   -- t10 spec.go:687
  refine pu rfl (pv_len_s rfl) ?_   -- t11 spec.go:687
  refine pu rfl (pv_lss rfl rfl) ?_   -- t12 spec.go:687
  refine LW.nil ?_
  refine SX.cond rfl (fun hc => ?_) (fun hc => ?_)   -- t12
  · skip
    have hlt : i < t.length := by simpa using hc
    obtain ⟨f, rfl⟩ : ∃ f', f = f' + 1 := ⟨f - 1, by omega⟩
    rw [pinl, if_pos hlt] at hp
    refine SX.skip ?_
    refine SX.block ?_
    refine SX.seq (SX.reg ?_)   -- region 6
    refine pu rfl pv_mv ?_   -- t13 spec.go:688
    refine pu rfl pv_mv ?_   -- t14 spec.go:688
    refine pu rfl (pv_index (k := i) rfl rfl (by omega) (by omega)) ?_   -- t15 spec.go:688
    refine pu rfl pv_as ?_   -- t7 spec.go:688
    refine LW.nil ?_
    refine SX.seq (SX.reg ?_)   -- region 7
    refine pu rfl pv_mv ?_   -- t16 spec.go:689
    refine pu rfl (pv_eqlB (b := 92) rfl rfl) ?_   -- t17 spec.go:689
    refine LW.nil ?_
    refine SX.cond rfl (fun hc => ?_) (fun hc => ?_)   -- t17
    · skip
      have h92 : t.getD i 0 = 92 := by simpa using hc
      rw [if_pos h92] at hp
      refine SX.seq (SX.reg ?_)   -- region 8
      refine pu rfl pv_mv ?_   -- t18 spec.go:690
      refine pu rfl (pv_add rfl rfl (by omega)) ?_   -- t19 spec.go:690
      refine pu rfl pv_mv ?_   -- t20 spec.go:690
      refine pu rfl (pv_len_s rfl) ?_   -- t21 spec.go:690
      refine pu rfl (pv_lss rfl rfl) ?_   -- t22 spec.go:690
      refine LW.nil ?_
      refine SX.cond rfl (fun hc => ?_) (fun hc => ?_)   -- t22
      · skip
        have hlt2 : i + 1 < t.length := by simp at hc; omega
        rw [if_pos hlt2] at hp
        refine SX.seq (SX.reg ?_)   -- region 9
        refine pu rfl pv_mv ?_   -- t23 spec.go:691
        refine pu rfl pv_mv ?_   -- t24 spec.go:691
        refine pu rfl pv_mv ?_   -- t25 spec.go:691
        refine pu rfl (pv_add rfl rfl (by omega)) ?_   -- t26 spec.go:691
        refine pu rfl (pv_index (k := (i + 1)) rfl rfl (by omega) (by omega)) ?_   -- t27 spec.go:691
        refine push (T := tB) (t.getD (i + 1) 0) sl83 okB (by decide) hT.o2 hT.ext.size rfl (fun _ => rfl) rfl rfl (by omega) (by unfold maxLen; omega) fun J1 v1 w3 ho3 hg3 => ?_   -- t28 spec.go:691
        refine pu rfl pv_as ?_   -- t5 spec.go:691
        refine LW.nil ?_
        refine SX.reg ?_
        refine pu rfl pv_mv ?_   -- t30 spec.go:692
        refine pu rfl (pv_add rfl rfl (by omega)) ?_   -- t31 spec.go:692
        refine pu rfl pv_as ?_   -- t6 spec.go:692
        refine LW.nil ?_
        exact ⟨f, i + 2, s, b ++ [t.getD (i + 1) 0], out, vo, v1, ⟨rfl, rfl, rfl, rfl, rfl, trivial⟩, ⟨hT.push2 hg3 ho3, hp, by omega, by omega, by first | omega | (simp only [List.length_append, List.length_singleton, List.length_nil]; omega), by first | omega | (simp only [List.length_append, List.length_singleton, List.length_nil]; omega), by omega, by omega⟩, by omega⟩
      · skip
        have hlt2 : ¬ i + 1 < t.length := by simp at hc; omega
        rw [if_neg hlt2] at hp
        refine SX.seq (SX.reg ?_)   -- region 11
        refine pu rfl pv_mv ?_   -- t32 spec.go:694
        refine push (T := tB) 92 sl83 okB (by decide) hT.o2 hT.ext.size rfl (fun _ => rfl) rfl rfl (by omega) (by unfold maxLen; omega) fun J1 v1 w3 ho3 hg3 => ?_   -- t33 spec.go:694
        refine pu rfl pv_as ?_   -- t5 spec.go:694
        refine LW.nil ?_
        refine SX.reg ?_
        refine pu rfl pv_mv ?_   -- t35 spec.go:695
        refine pu rfl (pv_add rfl rfl (by omega)) ?_   -- t36 spec.go:695
        refine pu rfl pv_as ?_   -- t6 spec.go:695
        refine LW.nil ?_
        exact ⟨f, i + 1, s, b ++ [92], out, vo, v1, ⟨rfl, rfl, rfl, rfl, rfl, trivial⟩, ⟨hT.push2 hg3 ho3, hp, by omega, by omega, by first | omega | (simp only [List.length_append, List.length_singleton, List.length_nil]; omega), by first | omega | (simp only [List.length_append, List.length_singleton, List.length_nil]; omega), by omega, by omega⟩, by omega⟩
    · skip
      have h92 : ¬ t.getD i 0 = 92 := by simpa using hc
      rw [if_neg h92] at hp
      refine SX.seq (SX.reg ?_)   -- region 13
      refine pu rfl pv_mv ?_   -- t37 spec.go:697
      refine pu rfl (pv_eqlB (b := 42) rfl rfl) ?_   -- t38 spec.go:697
      refine LW.nil ?_
      refine SX.cond rfl (fun hc => ?_) (fun hc => ?_)   -- t38
      · skip
        have h42 : t.getD i 0 = 42 := by simpa using hc
        rw [if_pos h42] at hp
        have hfl := flushP_len out s b
        refine SX.seq (SX.reg ?_)   -- region 14
        refine pu rfl pv_mv ?_   -- t39 spec.go:698
        refine pu rfl pv_mv ?_   -- t40 spec.go:698
        refine pu rfl pv_mv ?_   -- t41 spec.go:698
        refine evd rfl (ev_call cb91 rfl (f91_ok vo vb out s b _ w2 hT.o1 hT.ext.size hT.o2.rd (by omega)) ?_)   -- t42 spec.go:698
        rintro vo1 w3 ⟨ho4, hg4⟩
        have h3 := (hT.push1 hg4 ho4).nil2
        refine pu rfl pv_as ?_   -- t3 spec.go:698
        refine LW.nil ?_
        refine SX.seq (SX.reg ?_)   -- region 15
        refine pu rfl pv_as ?_   -- t5 spec.go:699
        refine LW.nil ?_
        refine SX.seq (SX.reg ?_)   -- region 16
        refine pu rfl pv_mv ?_   -- t43 spec.go:700
        refine pu rfl (pv_sub rfl rfl (by omega)) ?_   -- t44 spec.go:700
        refine pu rfl pv_as ?_   -- t4 spec.go:700
        refine LW.nil ?_
        refine SX.reg ?_
        refine pu rfl pv_mv ?_   -- t45 spec.go:701
        refine pu rfl (pv_add rfl rfl (by omega)) ?_   -- t46 spec.go:701
        refine pu rfl pv_as ?_   -- t6 spec.go:701
        refine LW.nil ?_
        exact ⟨f, i + 1, 1 - s, [], flushP out s b, vo1, .slice none 0 0, ⟨rfl, rfl, rfl, rfl, rfl, trivial⟩, ⟨h3, hp, by omega, by omega, by first | omega | (simp only [List.length_append, List.length_singleton, List.length_nil]; omega), by first | omega | (simp only [List.length_append, List.length_singleton, List.length_nil]; omega), by omega, by omega⟩, by omega⟩
      · skip
        have h42 : ¬ t.getD i 0 = 42 := by simpa using hc
        rw [if_neg h42] at hp
        refine SX.seq (SX.reg ?_)   -- region 18
        refine pu rfl pv_mv ?_   -- t47 spec.go:702
        refine pu rfl (pv_eqlB (b := 96) rfl rfl) ?_   -- t48 spec.go:702
        refine LW.nil ?_
        refine SX.cond rfl (fun hc => ?_) (fun hc => ?_)   -- t48
        · skip
          have h96 : t.getD i 0 = 96 := by simpa using hc
          rw [if_pos h96] at hp
          refine SX.seq (SX.reg ?_)   -- region 19
          refine pu rfl pv_mv ?_   -- t49 spec.go:703
          refine pu rfl (pv_add rfl rfl (by omega)) ?_   -- t50 spec.go:703
          refine pu rfl pv_as ?_   -- t8 spec.go:703
          refine LW.nil ?_
          refine SX.seq ?_
          refine SX.block ?_
          have hle := lead_le noTick (t.drop (i + 1))
          simp only [List.length_drop] at hle
          refine SX.loop (G := Nat) (fun m => [(0, S t), (3, vo), (4, iv s), (5, vb), (6, iv i), (8, iv (i + 1 + m : Nat))]) (fun m w' => w2 = w' ∧ m ≤ lead noTick (t.drop (i + 1))) (fun m => t.length - (i + 1 + m)) 0 ⟨rfl, rfl, rfl, rfl, rfl, rfl, trivial⟩ ⟨rfl, Nat.zero_le _⟩ ?_
          rintro m w2' ρ2 ⟨hw, hm⟩
          subst hw
          refine SX.seq ?_
          refine SX.seq (SX.reg ?_)   -- region 20
          refine pu rfl pv_mv ?_   -- t51 spec.go:704
          refine pu rfl pv_mv ?_   -- t52 spec.go:704
          refine pu rfl (pv_len_s rfl) ?_   -- t53 spec.go:704
          refine pu rfl (pv_lss rfl rfl) ?_   -- t54 spec.go:704
          refine pu rfl pv_mv ?_   -- t55 spec.go:704
          refine LW.sc true 4 4 55 56 60 (b := decide (t.getD (i + 1 + m) 0 ≠ 96)) (fun w' => w2 = w') rfl rfl rfl rfl (fun _ => rfl) rfl (fun ht => ?_) rfl (fun J w' hw' => ?_)   -- t60 := pick ['t55', 't59', "c:['false']"]
          · skip
            have hj : i + 1 + m < t.length := by simp at ht; omega
            refine pu rfl pv_mv ?_   -- t56 spec.go:704
            refine pu rfl pv_mv ?_   -- t57 spec.go:704
            refine pu rfl (pv_index (k := i + 1 + m) rfl rfl (by omega) (by omega)) ?_   -- t58 spec.go:704
            refine pu rfl (pv_neqB (b := 96) rfl rfl) ?_   -- t59 spec.go:704
            exact LW.nil ⟨rfl, rfl⟩
          subst hw'
          refine LW.nil ?_
          refine SX.cond rfl (fun hc => ?_) (fun hc => ?_)   -- t60
          · skip
            simp only [scv, Bool.and_eq_true, decide_eq_true_eq] at hc
            have hj : i + 1 + m < t.length := by have := hc.1; omega
            have hq : noTick ((t.drop (i + 1)).getD m 0) = true := by rw [drop_at]; simpa [noTick] using hc.2
            refine SX.skip ?_
            refine SX.block ?_
            refine SX.reg ?_
            refine pu rfl pv_mv ?_   -- t61 spec.go:705
            refine pu rfl (pv_add rfl rfl (by omega)) ?_   -- t62 spec.go:705
            refine pu rfl pv_as ?_   -- t8 spec.go:705
            refine LW.nil ?_
            exact ⟨m + 1, ⟨rfl, rfl, rfl, rfl, rfl, rfl, trivial⟩, ⟨rfl, lead_step _ _ _ hm (by simp; omega) hq⟩, by omega⟩
          · skip
            have hd : lead noTick (t.drop (i + 1)) = m := lead_done _ _ _ hm (fun hl => by
              rw [drop_at]
              simp only [List.length_drop] at hl
              have hl2 : ((i + 1 + m : Nat) : Int) < (t.length : Int) := by omega
              simp only [scv, hl2, decide_true, Bool.true_and] at hc
              simpa [noTick] using hc)
            rw [hd] at hp
            refine SX.exit (xb_here ?_)
            refine SX.seq (SX.reg ?_)   -- region 22
            refine pu rfl pv_mv ?_   -- t63 spec.go:707
            refine pu rfl pv_mv ?_   -- t64 spec.go:707
            refine pu rfl (pv_len_s rfl) ?_   -- t65 spec.go:707
            refine pu rfl (pv_lss rfl rfl) ?_   -- t66 spec.go:707
            refine LW.nil ?_
            refine SX.cond rfl (fun hc => ?_) (fun hc => ?_)   -- t66
            · skip
              have hj : i + 1 + m < t.length := by simp at hc; omega
              rw [if_pos hj] at hp
              have hfl := flushP_len out s b
              refine SX.seq (SX.reg ?_)   -- region 23
              refine pu rfl pv_mv ?_   -- t67 spec.go:708
              refine pu rfl pv_mv ?_   -- t68 spec.go:708
              refine pu rfl pv_mv ?_   -- t69 spec.go:708
              refine evd rfl (ev_call cb91 rfl (f91_ok vo vb out s b _ w2 hT.o1 hT.ext.size hT.o2.rd (by omega)) ?_)   -- t70 spec.go:708
              rintro vo1 w3 ⟨ho4, hg4⟩
              have h3 := (hT.push1 hg4 ho4).nil2
              refine pu rfl pv_as ?_   -- t3 spec.go:708
              refine LW.nil ?_
              refine SX.seq (SX.reg ?_)   -- region 24
              refine pu rfl pv_as ?_   -- t5 spec.go:709
              refine LW.nil ?_
              refine SX.seq (SX.reg ?_)   -- region 25
              refine pu rfl pv_mv ?_   -- t71 spec.go:710
              refine pu rfl pv_mv ?_   -- t72 spec.go:710
              refine pu rfl pv_mv ?_   -- t73 spec.go:710
              refine pu rfl pv_mv ?_   -- t74 spec.go:710
              refine pu rfl (pv_add rfl rfl (by omega)) ?_   -- t75 spec.go:710
              refine pu rfl pv_mv ?_   -- t76 spec.go:710
              refine pu rfl (pv_cut (a := i + 1) (b := i + 1 + m) rfl rfl rfl (by omega) (by omega) (by omega) (by omega)) ?_   -- t77 spec.go:710
              refine pu rfl (pv_bd rfl (bd67 _ _ _)) ?_   -- t78 spec.go:710
              refine push (T := tI) ⟨2, s, (t.drop (i + 1)).take (i + 1 + m - (i + 1))⟩ sl23 okI (by decide) h3.o1 h3.ext.size rfl (fun _ => rfl) rfl rfl (by omega) (by unfold maxLen; omega) fun J1 v1 w4 ho3 hg3 => ?_   -- t79 spec.go:710
              refine pu rfl pv_as ?_   -- t3 spec.go:710
              refine LW.nil ?_
              refine SX.reg ?_
              refine pu rfl pv_mv ?_   -- t81 spec.go:711
              refine pu rfl (pv_add rfl rfl (by omega)) ?_   -- t82 spec.go:711
              refine pu rfl pv_as ?_   -- t6 spec.go:711
              refine LW.nil ?_
              exact ⟨f, i + 1 + m + 1, s, [], flushP out s b ++ [⟨2, s, (t.drop (i + 1)).take (i + 1 + m - (i + 1))⟩], v1, .slice none 0 0, ⟨rfl, rfl, rfl, rfl, rfl, trivial⟩, ⟨h3.push1 hg3 ho3, hp, by omega, by omega, by first | omega | (simp only [List.length_append, List.length_singleton, List.length_nil]; omega), by first | omega | (simp only [List.length_append, List.length_singleton, List.length_nil]; omega), by omega, by omega⟩, by omega⟩
            · skip
              have hj : ¬ i + 1 + m < t.length := by simp at hc; omega
              rw [if_neg hj] at hp
              refine SX.seq (SX.reg ?_)   -- region 27
              refine pu rfl pv_mv ?_   -- t83 spec.go:713
              refine push (T := tB) 96 sl83 okB (by decide) hT.o2 hT.ext.size rfl (fun _ => rfl) rfl rfl (by omega) (by unfold maxLen; omega) fun J1 v1 w3 ho3 hg3 => ?_   -- t84 spec.go:713
              refine pu rfl pv_as ?_   -- t5 spec.go:713
              refine LW.nil ?_
              refine SX.reg ?_
              refine pu rfl pv_mv ?_   -- t86 spec.go:714
              refine pu rfl (pv_add rfl rfl (by omega)) ?_   -- t87 spec.go:714
              refine pu rfl pv_as ?_   -- t6 spec.go:714
              refine LW.nil ?_
              exact ⟨f, i + 1, s, b ++ [96], out, vo, v1, ⟨rfl, rfl, rfl, rfl, rfl, trivial⟩, ⟨hT.push2 hg3 ho3, hp, by omega, by omega, by first | omega | (simp only [List.length_append, List.length_singleton, List.length_nil]; omega), by first | omega | (simp only [List.length_append, List.length_singleton, List.length_nil]; omega), by omega, by omega⟩, by omega⟩
        · skip
          have h96 : ¬ t.getD i 0 = 96 := by simpa using hc
          rw [if_neg h96] at hp
          refine SX.seq (SX.reg ?_)   -- region 29
          refine pu rfl pv_mv ?_   -- t88 spec.go:716
          refine evd rfl (ev_call cb86 rfl (f86_ok _ w2) ?_)   -- t89 spec.go:716
          rintro _ _ ⟨rfl, rfl⟩
          refine LW.nil ?_
          refine SX.cond rfl (fun hc => ?_) (fun hc => ?_)   -- t89
          · skip
            have hsp : isSp (t.getD i 0) = true := hc
            rw [if_pos hsp] at hp
            have hlp := lead_pos isSp t i hlt hsp
            have hfl := flushP_len out s b
            refine SX.seq (SX.reg ?_)   -- region 30
            refine pu rfl pv_mv ?_   -- t90 spec.go:717
            refine pu rfl pv_mv ?_   -- t91 spec.go:717
            refine pu rfl pv_mv ?_   -- t92 spec.go:717
            refine evd rfl (ev_call cb91 rfl (f91_ok vo vb out s b _ w2 hT.o1 hT.ext.size hT.o2.rd (by omega)) ?_)   -- t93 spec.go:717
            rintro vo1 w3 ⟨ho4, hg4⟩
            have h3 := (hT.push1 hg4 ho4).nil2
            refine pu rfl pv_as ?_   -- t3 spec.go:717
            refine LW.nil ?_
            refine SX.seq (SX.reg ?_)   -- region 31
            refine pu rfl pv_as ?_   -- t5 spec.go:718
            refine LW.nil ?_
            refine SX.seq ?_
            refine SX.block ?_
            have hle := lead_le isSp (t.drop i)
            simp only [List.length_drop] at hle
            refine SX.loop (G := Nat) (fun m => [(0, S t), (3, vo1), (4, iv s), (5, .slice none 0 0), (6, iv (i + m : Nat))]) (fun m w' => w3 = w' ∧ m ≤ lead isSp (t.drop i)) (fun m => t.length - (i + m)) 0 ⟨rfl, rfl, rfl, rfl, rfl, trivial⟩ ⟨rfl, Nat.zero_le _⟩ ?_
            rintro m w3' ρ4 ⟨hw, hm⟩
            subst hw
            refine SX.seq ?_
            refine SX.seq (SX.reg ?_)   -- region 32
            refine pu rfl pv_mv ?_   -- t94 spec.go:719
            refine pu rfl pv_mv ?_   -- t95 spec.go:719
            refine pu rfl (pv_len_s rfl) ?_   -- t96 spec.go:719
            refine pu rfl (pv_lss rfl rfl) ?_   -- t97 spec.go:719
            refine pu rfl pv_mv ?_   -- t98 spec.go:719
            refine LW.sc true 4 4 98 99 103 (b := isSp (t.getD (i + m) 0)) (fun w' => w3 = w') rfl rfl rfl rfl (fun _ => rfl) rfl (fun ht => ?_) rfl (fun J w' hw' => ?_)   -- t103 := pick ['t98', 't102', "c:['false']"]
            · skip
              have hj : i + m < t.length := by simp at ht; omega
              refine pu rfl pv_mv ?_   -- t99 spec.go:719
              refine pu rfl pv_mv ?_   -- t100 spec.go:719
              refine pu rfl (pv_index (k := i + m) rfl rfl (by omega) (by omega)) ?_   -- t101 spec.go:719
              refine evd rfl (ev_call cb86 rfl (f86_ok _ w3) ?_)   -- t102 spec.go:719
              rintro _ _ ⟨rfl, rfl⟩
              exact LW.nil ⟨rfl, rfl⟩
            subst hw'
            refine LW.nil ?_
            refine SX.cond rfl (fun hc => ?_) (fun hc => ?_)   -- t103
            · skip
              simp only [scv, Bool.and_eq_true, decide_eq_true_eq] at hc
              have hj : i + m < t.length := by have := hc.1; omega
              refine SX.skip ?_
              refine SX.block ?_
              refine SX.reg ?_
              refine pu rfl pv_mv ?_   -- t104 spec.go:720
              refine pu rfl (pv_add rfl rfl (by omega)) ?_   -- t105 spec.go:720
              refine pu rfl pv_as ?_   -- t6 spec.go:720
              refine LW.nil ?_
              exact ⟨m + 1, ⟨rfl, rfl, rfl, rfl, rfl, trivial⟩, ⟨rfl, lead_step _ _ _ hm (by simp; omega) (by rw [drop_at]; exact hc.2)⟩, by omega⟩
            · skip
              have hd : lead isSp (t.drop i) = m := lead_done _ _ _ hm (fun hl => by
                rw [drop_at]
                simp only [List.length_drop] at hl
                have hl2 : ((i + m : Nat) : Int) < (t.length : Int) := by omega
                simpa only [scv, hl2, decide_true, Bool.true_and] using hc)
              rw [hd] at hp hlp
              refine SX.exit (xb_here ?_)
              refine SX.reg ?_
              refine pu rfl pv_mv ?_   -- t106 spec.go:722
              refine pu rfl (pv_bd rfl (bd67 _ _ _)) ?_   -- t107 spec.go:722
              refine push (T := tI) ⟨1, 0, [32]⟩ sl23 okI (by decide) h3.o1 h3.ext.size rfl (fun _ => rfl) rfl rfl (by omega) (by unfold maxLen; omega) fun J1 v1 w5 ho5 hg5 => ?_   -- t108 spec.go:722
              refine pu rfl pv_as ?_   -- t3 spec.go:722
              refine LW.nil ?_
              exact ⟨f, i + m, s, [], flushP out s b ++ [⟨1, 0, [32]⟩], v1, .slice none 0 0, ⟨rfl, rfl, rfl, rfl, rfl, trivial⟩, ⟨h3.push1 hg5 ho5, hp, by omega, by omega, by first | omega | (simp only [List.length_append, List.length_singleton, List.length_nil]; omega), by first | omega | (simp only [List.length_append, List.length_singleton, List.length_nil]; omega), by omega, by omega⟩, by omega⟩
          · skip
            have hsp : ¬ isSp (t.getD i 0) = true := by rw [hc]; decide
            rw [if_neg hsp] at hp
            refine SX.seq (SX.reg ?_)   -- region 35
            refine pu rfl pv_mv ?_   -- t110 spec.go:724
            refine pu rfl pv_mv ?_   -- t111 spec.go:724
            refine push (T := tB) (t.getD i 0) sl83 okB (by decide) hT.o2 hT.ext.size rfl (fun _ => rfl) rfl rfl (by omega) (by unfold maxLen; omega) fun J1 v1 w3 ho3 hg3 => ?_   -- t112 spec.go:724
            refine pu rfl pv_as ?_   -- t5 spec.go:724
            refine LW.nil ?_
            refine SX.reg ?_
            refine pu rfl pv_mv ?_   -- t114 spec.go:725
            refine pu rfl (pv_add rfl rfl (by omega)) ?_   -- t115 spec.go:725
            refine pu rfl pv_as ?_   -- t6 spec.go:725
            refine LW.nil ?_
            exact ⟨f, i + 1, s, b ++ [t.getD i 0], out, vo, v1, ⟨rfl, rfl, rfl, rfl, rfl, trivial⟩, ⟨hT.push2 hg3 ho3, hp, by omega, by omega, by first | omega | (simp only [List.length_append, List.length_singleton, List.length_nil]; omega), by first | omega | (simp only [List.length_append, List.length_singleton, List.length_nil]; omega), by omega, by omega⟩, by omega⟩
  · skip
    have hge : t.length ≤ i := by simpa using hc
    rw [pinl_end _ _ _ _ _ _ hge] at hp
    refine SX.exit (xb_here ?_)
    refine SX.seq (SX.reg ?_)   -- region 37
    refine pu rfl pv_mv ?_   -- t116 spec.go:728
    refine pu rfl pv_mv ?_   -- t117 spec.go:728
    refine pu rfl pv_mv ?_   -- t118 spec.go:728
    refine evd rfl (ev_call cb91 rfl (f91_ok vo vb out s b _ w2 hT.o1 hT.ext.size hT.o2.rd (by omega)) ?_)   -- t119 spec.go:728
    rintro vo1 w3 ⟨ho4, hg4⟩
    have h3 := (hT.push1 hg4 ho4).nil2
    refine pu rfl pv_as ?_   -- t2 spec.go:728
    refine LW.nil ?_
    refine SX.ret ?_
    exact ⟨by rw [← hp]; exact ho4, h3.ext, by rw [← hp]; have := flushP_len out s b; omega⟩

end Go.Proofs.Ybuabw
