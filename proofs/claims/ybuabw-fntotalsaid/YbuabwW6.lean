/-
  WALKS. Normalize. Own work for the seat Ybuabw (the steps of each walk were typed by a program of ours off the printed code).
-/
import Derived.Test.YbuabwW1
import Derived.Test.YbuabwMem4
import Derived.Test.YbuabwPlain2
namespace Go.Proofs.Ybuabw
open Go.RowKit
set_option linter.unusedVariables false
set_option linter.unusedSimpArgs false
set_option maxRecDepth 20000

theorem f35_ok (v0 : Value) (l : List Tri) (w : World) (hr : Rd w tI v0 l) (hs : l.length ≤ 1073741824) (ht : tl l ≤ 1073741824) : Fn 35 [v0] w (fun v' w' => OwnR w' w.heap.size tI v' (normalize l) ∧ Ext w w') := by
  refine Fn.mk1 (N := 136) Yabc.func35 rfl rfl rfl rfl ?_
  refine SX.seq (SX.reg ?_)   -- region 0
  refine pu rfl pv_as ?_   -- t2 impl.go:345
  refine LW.nil ?_
  refine SX.seq (SX.reg ?_)   -- region 1
  refine pu rfl pv_as ?_   -- t3 impl.go:346
  refine LW.nil ?_
  refine SX.seq (SX.reg ?_)   -- region 2
  refine pu rfl pv_as ?_   -- t4 impl.go:347
  refine LW.nil ?_
  refine SX.seq (SX.reg ?_)   -- region 3
  refine pu rfl pv_as ?_   -- t5 impl.go:348
  refine LW.nil ?_
  refine SX.seq (SX.reg ?_)   -- region 4
  refine pu rfl pv_as ?_   -- t6 impl.go:349
  refine LW.nil ?_
  refine SX.seq ?_
  refine SX.seq (SX.reg ?_)   -- region 5
  refine pu rfl pv_mv ?_   -- t10 impl.go:350
  refine pu rfl (pv_lenV (T := tI) Yabc.underlying23 hr rfl) ?_   -- t11 impl.go:350
  refine pu rfl pv_mv ?_   -- t12 impl.go:350
  refine LW.nil ?_
  refine SX.block ?_
  refine SX.loop7 (fun (k : Nat) (res : List Tri) vr (buf : List UInt8) vb (it : Bool) (bs : Int) => [(3, vr), (4, vb), (5, .bool it), (6, iv bs), (10, v0), (11, iv l.length), (12, iv k)]) (fun k res vr buf vb it bs w' => k ≤ l.length ∧ Two w w' tI vr res tB vb buf ∧ NInv l k res it bs buf) (fun k _ _ _ _ _ _ => l.length - k) 0 [] (.slice none 0 0) [] (.slice none 0 0) false 0 ⟨rfl, rfl, rfl, rfl, rfl, rfl, rfl, trivial⟩ ⟨Nat.zero_le _, Two.start w tI tB, NInv.start l⟩ ?_
  rintro k res vr buf vb it bs w2 ρ1 ⟨hk, hT, hN⟩
  have hrl := hN.rlen hk
  have hbl := hN.blen
  have htk := tl_le l k
  refine SX.seq (SX.reg ?_)   -- region 6
  refine pu rfl (pv_lss rfl rfl) ?_   -- t13 impl.go:350
  refine LW.nil ?_
  refine SX.seq ?_
  refine SX.cond rfl (fun hc => ?_) (fun hc => ?_)   -- t13
  · skip
    have hlt : k < l.length := by simpa using hc
    refine SX.skip ?_
    refine SX.seq ?_
    refine SX.block ?_
    refine SX.seq (SX.reg ?_)   -- region 7
    refine pu rfl (pv_ix (T := tI) (k := k) Yabc.underlying23 sz67 okI (hr.ext hT.ext) rfl rfl (by omega) (by omega)) ?_   -- t14 impl.go:350
    refine pu rfl (pv_ldE ag67 okI sz67 (hr.ext hT.ext) (by omega) rfl) ?_   -- t15 impl.go:350
    refine evd rfl (ev_al3 if67 fun w3 hn3 => ?_)   -- t8 impl.go:350
    refine evn (ev_stB hn3.blk rfl rfl sz67 rfl (encT_one _) fun w4 hb4 hg4 hz4 => ?_)   --  impl.go:350
    have hX : Tx w w4 tI vr res tB vb buf w2.heap.size 67 (encT (l[k]'hlt)) := Tx.make hT hn3 hb4 hg4
    have hts := tl_take l k hlt
    have htk1 := tl_le l (k + 1)
    refine LW.nil ?_
    refine SX.seq ?_
    refine SX.seq (SX.reg ?_)   -- region 8
    refine pu rfl (pv_fa fb67_0 rfl) ?_   -- t16 impl.go:351
    refine pu rfl (pv_ld ag3 rfl (hX.blk.cell rfl)) ?_   -- t17 impl.go:351
    refine pu rfl (pv_neq rfl rfl) ?_   -- t18 impl.go:351
    refine pu rfl pv_mv ?_   -- t19 impl.go:351
    refine LW.sc true 4 3 19 20 24 (b := decide (((l[k]'hlt).s.length : Int) = 0)) (fun w' => w4 = w') rfl rfl rfl rfl (fun _ => rfl) rfl (fun ht => ?_) rfl (fun J w' hw' => ?_)   -- t24 := pick ['t19', 't23', "c:['false']"]
    · skip
      refine pu rfl (pv_fa fb67_2 rfl) ?_   -- t20 impl.go:351
      refine pu rfl (pv_ld ag9 rfl (hX.blk.cell rfl)) ?_   -- t21 impl.go:351
      refine pu rfl (pv_len_s rfl) ?_   -- t22 impl.go:351
      refine pu rfl (pv_eql rfl rfl) ?_   -- t23 impl.go:351
      exact LW.nil ⟨rfl, rfl⟩
    subst hw'
    refine LW.nil ?_
    refine SX.cond rfl (fun hc => ?_) (fun hc => ?_)   -- t24
    · skip
      simp only [scv, Bool.and_eq_true, decide_eq_true_eq] at hc
      have hsk1 : (l[k]'hlt).a ≠ 1 := hc.1
      have hsk2 : (l[k]'hlt).s = [] := by have := hc.2; exact List.eq_nil_of_length_eq_zero (by omega)
      refine SX.exit (xb_here ?_)
      refine SX.reg ?_
      refine pu rfl (pv_add rfl rfl (by omega)) ?_   -- t96 impl.go:350
      refine pu rfl pv_mv ?_   -- t12 impl.go:350
      refine LW.nil ?_
      exact ⟨k + 1, res, vr, buf, vb, it, bs, ⟨rfl, rfl, rfl, rfl, rfl, rfl, rfl, trivial⟩, ⟨by omega, hX.two, hN.skip hlt hsk1 hsk2⟩, by omega⟩
    · skip
      have hkp : (l[k]'hlt).a ≠ 1 → (l[k]'hlt).s ≠ [] := by
        intro h1 h2
        simp [scv, h1, h2] at hc
      refine SX.skip ?_
      refine SX.seq ?_
      refine SX.seq (SX.reg ?_)   -- region 9
      refine pu rfl (pv_fa fb67_0 rfl) ?_   -- t25 impl.go:354
      refine pu rfl (pv_ld ag3 rfl (hX.blk.cell rfl)) ?_   -- t26 impl.go:354
      refine pu rfl (pv_eql rfl rfl) ?_   -- t27 impl.go:354
      refine LW.nil ?_
      refine SX.cond rfl (fun hc => ?_) (fun hc => ?_)   -- t27
      · skip
        have h1 : (l[k]'hlt).a = 1 := by simpa using hc
        refine SX.mid (G := Value) (fun vr => [(3, vr), (4, vb), (5, .bool false), (6, iv bs), (10, v0), (11, iv l.length), (12, iv k), (8, .pointer (some ⟨w2.heap.size, 0, none⟩))]) (fun vr w' => Tx w w' tI vr (if it then res ++ [⟨0, bs, buf⟩] else res) tB vb buf w2.heap.size 67 (encT (l[k]'hlt))) ?_ ?_
        · skip
          refine SX.seq (SX.reg ?_)   -- region 10
          refine pu rfl pv_mv ?_   -- t28 impl.go:355
          refine LW.nil ?_
          refine SX.cond rfl (fun hc => ?_) (fun hc => ?_)   -- t28
          · skip
            have hc : it = true := hc
            subst hc
            refine SX.seq (SX.reg ?_)   -- region 11
            refine pu rfl pv_mv ?_   -- t29 impl.go:356
            refine pu rfl pv_mv ?_   -- t30 impl.go:356
            refine pu rfl pv_mv ?_   -- t31 impl.go:356
            refine pu rfl (pv_str hX.two.o2.rd rfl) ?_   -- t32 impl.go:356
            refine pu rfl (pv_bd rfl (bd67 _ _ _)) ?_   -- t33 impl.go:356
            refine push (T := tI) ⟨0, bs, buf⟩ sl23 okI (by decide) hX.two.o1 hX.two.ext.size rfl (fun _ => rfl) rfl rfl (by omega) (by unfold maxLen; omega) fun J1 v5 w5 ho5 hg5 => ?_   -- t34 impl.go:356
            refine pu rfl pv_as ?_   -- t3 impl.go:356
            refine LW.nil ?_
            refine SX.reg ?_
            refine pu rfl pv_as ?_   -- t5 impl.go:357
            refine LW.nil ?_
            exact ⟨v5, ⟨rfl, rfl, rfl, rfl, rfl, rfl, rfl, rfl, trivial⟩, by simpa using hX.push1 hg5 ho5⟩
          · skip
            have hc : it = false := hc
            subst hc
            refine SX.skip ?_
            exact ⟨vr, ⟨rfl, rfl, rfl, rfl, rfl, rfl, rfl, rfl, trivial⟩, by simpa using hX⟩
        rintro vr1 w6 ρ6 hX6
        have hRl : (if it then res ++ [⟨0, bs, buf⟩] else res).length ≤ k + 1 := by cases it <;> simp <;> omega
        generalize hR : (if it then res ++ [⟨0, bs, buf⟩] else res) = R at hX6 hRl
        refine SX.seq ?_
        refine SX.seq (SX.reg ?_)   -- region 13
        refine pu rfl pv_mv ?_   -- t36 impl.go:359
        refine pu rfl (pv_lenV (T := tI) Yabc.underlying23 hX6.two.o1.rd rfl) ?_   -- t37 impl.go:359
        refine pu rfl (pv_gtr rfl rfl) ?_   -- t38 impl.go:359
        refine pu rfl pv_mv ?_   -- t39 impl.go:359
        refine LW.sc true 8 3 39 40 48 (b := decide ((R.getD (R.length - 1) ⟨0, 0, []⟩).a = 1)) (fun w' => w6 = w') rfl rfl rfl rfl (fun _ => rfl) rfl (fun ht => ?_) rfl (fun J w' hw' => ?_)   -- t48 := pick ['t39', 't47', "c:['false']"]
        · skip
          have h0 : 0 < R.length := by simpa using ht
          refine pu rfl pv_mv ?_   -- t40 impl.go:359
          refine pu rfl pv_mv ?_   -- t41 impl.go:359
          refine pu rfl (pv_lenV (T := tI) Yabc.underlying23 hX6.two.o1.rd rfl) ?_   -- t42 impl.go:359
          refine pu rfl (pv_sub rfl rfl (by omega)) ?_   -- t43 impl.go:359
          refine pu rfl (pv_ix (T := tI) (k := (R.length - 1)) Yabc.underlying23 sz67 okI hX6.two.o1.rd rfl rfl (by omega) (by omega)) ?_   -- t44 impl.go:359
          refine pu rfl (pv_fa fb67_0 rfl) ?_   -- t45 impl.go:359
          refine pu rfl (pv_ld ag3 rfl (hX6.two.o1.rd.cellAt okI (by omega) rfl)) ?_   -- t46 impl.go:359
          refine pu rfl (pv_eql rfl rfl) ?_   -- t47 impl.go:359
          exact LW.nil ⟨congrArg Value.bool (by rw [getD_lt _ _ _ (by omega)]), rfl⟩
        subst hw'
        refine LW.nil ?_
        refine SX.cond rfl (fun hc => ?_) (fun hc => ?_)   -- t48
        · skip
          simp only [scv, Bool.and_eq_true, decide_eq_true_eq] at hc
          have h0 : 0 < R.length := by have := hc.1; omega
          have hl1 : (R[R.length - 1]'(by omega)).a = 1 := by have := hc.2; rwa [getD_lt _ _ _ (by omega)] at this
          have hli : lastIs R (fun p => p.a = 1) := (lastIs_get h0).2 hl1
          refine SX.exit (xb_here ?_)
          refine SX.reg ?_
          refine pu rfl (pv_add rfl rfl (by omega)) ?_   -- t96 impl.go:350
          refine pu rfl pv_mv ?_   -- t12 impl.go:350
          refine LW.nil ?_
          exact ⟨k + 1, R, vr1, buf, vb, false, bs, ⟨rfl, rfl, rfl, rfl, rfl, rfl, rfl, trivial⟩, ⟨by omega, hX6.two, hN.spSame hR.symm hlt h1 hli⟩, by omega⟩
        · skip
          have hl1 : ∀ h : 0 < R.length, (R[R.length - 1]'(by omega)).a ≠ 1 := by
            intro h
            have h' : (0 : Int) < (R.length : Int) := by omega
            simp only [scv, h', decide_true, Bool.true_and, decide_eq_false_iff_not] at hc
            rwa [getD_lt _ _ _ (by omega)] at hc
          have hli : ¬ lastIs R (fun p => p.a = 1) := by
            intro hli
            have h0 : 0 < R.length := by obtain ⟨o, p, e, _⟩ := hli; rw [e]; simp
            exact hl1 h0 ((lastIs_get h0).1 hli)
          refine SX.skip ?_
          refine SX.seq (SX.reg ?_)   -- region 14
          refine pu rfl pv_mv ?_   -- t49 impl.go:362
          refine pu rfl (pv_bd rfl (bd67 _ _ _)) ?_   -- t50 impl.go:362
          refine push (T := tI) ⟨1, 0, [32]⟩ sl23 okI (by decide) hX6.two.o1 hX6.two.ext.size rfl (fun _ => rfl) rfl rfl (by omega) (by unfold maxLen; omega) fun J1 v7 w7 ho7 hg7 => ?_   -- t51 impl.go:362
          refine pu rfl pv_as ?_   -- t3 impl.go:362
          refine LW.nil ?_
          refine SX.exit (xb_here ?_)
          refine SX.reg ?_
          refine pu rfl (pv_add rfl rfl (by omega)) ?_   -- t96 impl.go:350
          refine pu rfl pv_mv ?_   -- t12 impl.go:350
          refine LW.nil ?_
          exact ⟨k + 1, _, v7, buf, vb, false, bs, ⟨rfl, rfl, rfl, rfl, rfl, rfl, rfl, trivial⟩, ⟨by omega, (hX6.push1 hg7 ho7).two, hN.spNew hR.symm hlt h1 hli⟩, by omega⟩
      · skip
        have h1 : ¬ (l[k]'hlt).a = 1 := by simpa using hc
        refine SX.skip ?_
        refine SX.seq ?_
        refine SX.seq (SX.reg ?_)   -- region 15
        refine pu rfl (pv_fa fb67_0 rfl) ?_   -- t53 impl.go:365
        refine pu rfl (pv_ld ag3 rfl (hX.blk.cell rfl)) ?_   -- t54 impl.go:365
        refine pu rfl (pv_eql rfl rfl) ?_   -- t55 impl.go:365
        refine LW.nil ?_
        refine SX.cond rfl (fun hc => ?_) (fun hc => ?_)   -- t55
        · skip
          have h2 : (l[k]'hlt).a = 2 := by simpa using hc
          refine SX.mid (G := Value) (fun vr => [(3, vr), (4, vb), (5, .bool false), (6, iv bs), (10, v0), (11, iv l.length), (12, iv k), (8, .pointer (some ⟨w2.heap.size, 0, none⟩))]) (fun vr w' => Tx w w' tI vr (if it then res ++ [⟨0, bs, buf⟩] else res) tB vb buf w2.heap.size 67 (encT (l[k]'hlt))) ?_ ?_
          · skip
            refine SX.seq (SX.reg ?_)   -- region 16
            refine pu rfl pv_mv ?_   -- t56 impl.go:366
            refine LW.nil ?_
            refine SX.cond rfl (fun hc => ?_) (fun hc => ?_)   -- t56
            · skip
              have hc : it = true := hc
              subst hc
              refine SX.seq (SX.reg ?_)   -- region 17
              refine pu rfl pv_mv ?_   -- t57 impl.go:367
              refine pu rfl pv_mv ?_   -- t58 impl.go:367
              refine pu rfl pv_mv ?_   -- t59 impl.go:367
              refine pu rfl (pv_str hX.two.o2.rd rfl) ?_   -- t60 impl.go:367
              refine pu rfl (pv_bd rfl (bd67 _ _ _)) ?_   -- t61 impl.go:367
              refine push (T := tI) ⟨0, bs, buf⟩ sl23 okI (by decide) hX.two.o1 hX.two.ext.size rfl (fun _ => rfl) rfl rfl (by omega) (by unfold maxLen; omega) fun J1 v5 w5 ho5 hg5 => ?_   -- t62 impl.go:367
              refine pu rfl pv_as ?_   -- t3 impl.go:367
              refine LW.nil ?_
              refine SX.reg ?_
              refine pu rfl pv_as ?_   -- t5 impl.go:368
              refine LW.nil ?_
              exact ⟨v5, ⟨rfl, rfl, rfl, rfl, rfl, rfl, rfl, rfl, trivial⟩, by simpa using hX.push1 hg5 ho5⟩
            · skip
              have hc : it = false := hc
              subst hc
              refine SX.skip ?_
              exact ⟨vr, ⟨rfl, rfl, rfl, rfl, rfl, rfl, rfl, rfl, trivial⟩, by simpa using hX⟩
          rintro vr1 w6 ρ6 hX6
          have hRl : (if it then res ++ [⟨0, bs, buf⟩] else res).length ≤ k + 1 := by cases it <;> simp <;> omega
          generalize hR : (if it then res ++ [⟨0, bs, buf⟩] else res) = R at hX6 hRl
          refine SX.seq (SX.reg ?_)   -- region 19
          refine pu rfl pv_mv ?_   -- t64 impl.go:370
          refine pu rfl (pv_fa fb67_2 rfl) ?_   -- t65 impl.go:370
          refine pu rfl (pv_ld ag9 rfl (hX6.blk.cell rfl)) ?_   -- t66 impl.go:370
          refine pu rfl (pv_bd rfl (bd67 _ _ _)) ?_   -- t67 impl.go:370
          refine push (T := tI) ⟨2, 0, (l[k]'hlt).s⟩ sl23 okI (by decide) hX6.two.o1 hX6.two.ext.size rfl (fun _ => rfl) rfl rfl (by omega) (by unfold maxLen; omega) fun J1 v7 w7 ho7 hg7 => ?_   -- t68 impl.go:370
          refine pu rfl pv_as ?_   -- t3 impl.go:370
          refine LW.nil ?_
          refine SX.exit (xb_here ?_)
          refine SX.reg ?_
          refine pu rfl (pv_add rfl rfl (by omega)) ?_   -- t96 impl.go:350
          refine pu rfl pv_mv ?_   -- t12 impl.go:350
          refine LW.nil ?_
          exact ⟨k + 1, _, v7, buf, vb, false, bs, ⟨rfl, rfl, rfl, rfl, rfl, rfl, rfl, trivial⟩, ⟨by omega, (hX6.push1 hg7 ho7).two, hN.code hR.symm hlt h2 (hkp h1)⟩, by omega⟩
        · skip
          have h2 : ¬ (l[k]'hlt).a = 2 := by simpa using hc
          refine SX.skip ?_
          refine SX.seq (SX.reg ?_)   -- region 20
          refine pu rfl pv_as ?_   -- t9 impl.go:373
          refine LW.nil ?_
          refine SX.mid (G := Unit) (fun _ => [(3, vr), (4, vb), (5, .bool it), (6, iv bs), (10, v0), (11, iv l.length), (12, iv k), (8, .pointer (some ⟨w2.heap.size, 0, none⟩)), (9, iv (ust (l[k]'hlt)))]) (fun _ w' => w4 = w') ?_ ?_
          · skip
            refine SX.seq (SX.reg ?_)   -- region 21
            refine pu rfl (pv_fa fb67_1 rfl) ?_   -- t70 impl.go:374
            refine pu rfl (pv_ld ag3 rfl (hX.blk.cell rfl)) ?_   -- t71 impl.go:374
            refine pu rfl (pv_neq rfl rfl) ?_   -- t72 impl.go:374
            refine LW.nil ?_
            refine SX.cond rfl (fun hc => ?_) (fun hc => ?_)   -- t72
            · skip
              have hu : ust (l[k]'hlt) = 1 := by simp at hc; simp [ust, hc]
              refine SX.reg ?_
              refine pu rfl pv_as ?_   -- t9 impl.go:375
              refine LW.nil ?_
              exact ⟨(), ⟨rfl, rfl, rfl, rfl, rfl, rfl, rfl, rfl, by rw [hu]; rfl, trivial⟩, rfl⟩
            · skip
              have hu : ust (l[k]'hlt) = 0 := by simp at hc; simp [ust, hc]
              refine SX.skip ?_
              exact ⟨(), ⟨rfl, rfl, rfl, rfl, rfl, rfl, rfl, rfl, by rw [hu]; rfl, trivial⟩, rfl⟩
          rintro _ w4' ρ5 hw
          subst hw
          refine SX.seq ?_
          refine SX.seq (SX.reg ?_)   -- region 23
          refine pu rfl pv_mv ?_   -- t73 impl.go:377
          refine pu rfl pv_mv ?_   -- t74 impl.go:377
          refine LW.sc true 3 1 74 75 78 (b := decide (ust (l[k]'hlt) = bs)) (fun w' => w4 = w') rfl rfl rfl rfl (fun _ => rfl) rfl (fun ht => ?_) rfl (fun J w' hw' => ?_)   -- t78 := pick ['t74', 't77', "c:['false']"]
          · skip
            refine pu rfl pv_mv ?_   -- t75 impl.go:377
            refine pu rfl pv_mv ?_   -- t76 impl.go:377
            refine pu rfl (pv_eql rfl rfl) ?_   -- t77 impl.go:377
            exact LW.nil ⟨rfl, rfl⟩
          subst hw'
          refine LW.nil ?_
          refine SX.cond rfl (fun hc => ?_) (fun hc => ?_)   -- t78
          · skip
            simp only [scv, Bool.and_eq_true, decide_eq_true_eq] at hc
            obtain ⟨hit, hbs⟩ := hc
            have hit : it = true := hit
            subst hit
            refine SX.seq (SX.reg ?_)   -- region 24
            refine pu rfl pv_mv ?_   -- t79 impl.go:378
            refine pu rfl (pv_fa fb67_2 rfl) ?_   -- t80 impl.go:378
            refine pu rfl (pv_ld ag9 rfl (hX.blk.cell rfl)) ?_   -- t81 impl.go:378
            refine evd rfl (ev_appS (c := (l[k]'hlt).s) hX.two.o2 hX.two.ext.size rfl rfl (by omega) fun v7 w7 ho7 hg7 => ?_)   -- t82 impl.go:378
            refine pu rfl pv_as ?_   -- t4 impl.go:378
            refine LW.nil ?_
            refine SX.exit (xb_here ?_)
            refine SX.reg ?_
            refine pu rfl (pv_add rfl rfl (by omega)) ?_   -- t96 impl.go:350
            refine pu rfl pv_mv ?_   -- t12 impl.go:350
            refine LW.nil ?_
            exact ⟨k + 1, res, vr, _, v7, true, bs, ⟨rfl, rfl, rfl, rfl, rfl, rfl, rfl, trivial⟩, ⟨by omega, (hX.push2 hg7 ho7).two, hN.more hlt h1 h2 (hkp h1) hbs⟩, by omega⟩
          · skip
            have hnb : ¬ (it = true ∧ ust (l[k]'hlt) = bs) := by
              rintro ⟨h3, h4⟩
              subst h3
              simp [scv, h4] at hc
            refine SX.skip ?_
            refine SX.mid (G := Value) (fun vr => [(3, vr), (4, vb), (6, iv bs), (10, v0), (11, iv l.length), (12, iv k), (8, .pointer (some ⟨w2.heap.size, 0, none⟩)), (9, iv (ust (l[k]'hlt)))]) (fun vr w' => Tx w w' tI vr (if it then res ++ [⟨0, bs, buf⟩] else res) tB vb buf w2.heap.size 67 (encT (l[k]'hlt))) ?_ ?_
            · skip
              refine SX.seq (SX.reg ?_)   -- region 25
              refine pu rfl pv_mv ?_   -- t83 impl.go:381
              refine LW.nil ?_
              refine SX.cond rfl (fun hc => ?_) (fun hc => ?_)   -- t83
              · skip
                have hc : it = true := hc
                subst hc
                refine SX.reg ?_
                refine pu rfl pv_mv ?_   -- t84 impl.go:382
                refine pu rfl pv_mv ?_   -- t85 impl.go:382
                refine pu rfl pv_mv ?_   -- t86 impl.go:382
                refine pu rfl (pv_str hX.two.o2.rd rfl) ?_   -- t87 impl.go:382
                refine pu rfl (pv_bd rfl (bd67 _ _ _)) ?_   -- t88 impl.go:382
                refine push (T := tI) ⟨0, bs, buf⟩ sl23 okI (by decide) hX.two.o1 hX.two.ext.size rfl (fun _ => rfl) rfl rfl (by omega) (by unfold maxLen; omega) fun J1 v5 w5 ho5 hg5 => ?_   -- t89 impl.go:382
                refine pu rfl pv_as ?_   -- t3 impl.go:382
                refine LW.nil ?_
                exact ⟨v5, ⟨rfl, rfl, rfl, rfl, rfl, rfl, rfl, rfl, trivial⟩, by simpa using hX.push1 hg5 ho5⟩
              · skip
                have hc : it = false := hc
                subst hc
                refine SX.skip ?_
                exact ⟨vr, ⟨rfl, rfl, rfl, rfl, rfl, rfl, rfl, rfl, trivial⟩, by simpa using hX⟩
            rintro vr1 w6 ρ6 hX6
            generalize hR : (if it then res ++ [⟨0, bs, buf⟩] else res) = R at hX6
            refine SX.seq (SX.reg ?_)   -- region 27
            refine pu rfl pv_as ?_   -- t4 impl.go:384
            refine LW.nil ?_
            refine SX.seq (SX.reg ?_)   -- region 28
            refine pu rfl pv_mv ?_   -- t91 impl.go:385
            refine pu rfl (pv_fa fb67_2 rfl) ?_   -- t92 impl.go:385
            refine pu rfl (pv_ld ag9 rfl (hX6.blk.cell rfl)) ?_   -- t93 impl.go:385
            have hX7 := hX6.nil2   -- t94 impl.go:385
            refine evd rfl (ev_appS (c := (l[k]'hlt).s) hX7.two.o2 hX7.two.ext.size rfl rfl (by simp only [List.length_nil]; omega) fun v7 w7 ho7 hg7 => ?_)
            refine pu rfl pv_as ?_   -- t4 impl.go:385
            refine LW.nil ?_
            refine SX.seq (SX.reg ?_)   -- region 29
            refine pu rfl pv_mv ?_   -- t95 impl.go:386
            refine pu rfl pv_as ?_   -- t6 impl.go:386
            refine LW.nil ?_
            refine SX.reg ?_
            refine pu rfl pv_as ?_   -- t5 impl.go:387
            refine LW.nil ?_
            refine SX.reg ?_
            refine pu rfl (pv_add rfl rfl (by omega)) ?_   -- t96 impl.go:350
            refine pu rfl pv_mv ?_   -- t12 impl.go:350
            refine LW.nil ?_
            exact ⟨k + 1, R, vr1, _, v7, true, _, ⟨rfl, rfl, rfl, rfl, rfl, rfl, rfl, trivial⟩, ⟨by omega, (hX7.push2 hg7 ho7).two, hN.fresh hR.symm hlt h1 h2 (hkp h1) hnb⟩, by omega⟩
  · skip
    have hge : k = l.length := by simp at hc; omega
    subst hge
    refine SX.exit (xb_here ?_)
    refine SX.mid (G := Value) (fun vr => [(3, vr)]) (fun vr w' => Ext w w' ∧ Own w' w.heap.size tI vr (if it then res ++ [⟨0, bs, buf⟩] else res)) ?_ ?_
    · skip
      refine SX.seq (SX.reg ?_)   -- region 32
      refine pu rfl pv_mv ?_   -- t97 impl.go:389
      refine LW.nil ?_
      refine SX.cond rfl (fun hc => ?_) (fun hc => ?_)   -- t97
      · skip
        have hc : it = true := hc
        subst hc
        refine SX.reg ?_
        refine pu rfl pv_mv ?_   -- t98 impl.go:390
        refine pu rfl pv_mv ?_   -- t99 impl.go:390
        refine pu rfl pv_mv ?_   -- t100 impl.go:390
        refine pu rfl (pv_str hT.o2.rd rfl) ?_   -- t101 impl.go:390
        refine pu rfl (pv_bd rfl (bd67 _ _ _)) ?_   -- t102 impl.go:390
        refine push (T := tI) ⟨0, bs, buf⟩ sl23 okI (by decide) hT.o1 hT.ext.size rfl (fun _ => rfl) rfl rfl (by omega) (by unfold maxLen; omega) fun J1 v5 w5 ho5 hg5 => ?_   -- t103 impl.go:390
        refine pu rfl pv_as ?_   -- t3 impl.go:390
        refine LW.nil ?_
        exact ⟨v5, ⟨rfl, trivial⟩, (hT.push1 hg5 ho5).ext, by simpa using ho5⟩
      · skip
        have hc : it = false := hc
        subst hc
        refine SX.skip ?_
        exact ⟨vr, ⟨rfl, trivial⟩, hT.ext, by simpa using hT.o1⟩
    rintro vr1 w6 ρ6 ⟨hX6, ho6⟩
    have hM := hN.eq
    rw [List.take_length] at hM
    rw [hM] at ho6
    have hml := mergeA_len l l.length (Nat.le_refl _)
    rw [List.take_length] at hml
    have ho6 := ho6.own
    generalize hMg : mergeL (stepA l) = M at *
    obtain ⟨ao, cc, rfl, hcc⟩ := ho6.form
    refine SX.mid (G := Value) (fun v => [(3, v)]) (fun v w' => w6 = w' ∧ OwnR w6 w.heap.size tI v (cut1 M)) ?_ ?_
    · skip
      refine SX.seq (SX.reg ?_)   -- region 34
      refine pu rfl pv_mv ?_   -- t105 impl.go:392
      refine pu rfl (pv_lenV (T := tI) Yabc.underlying23 ho6.rd rfl) ?_   -- t106 impl.go:392
      refine pu rfl (pv_gtr rfl rfl) ?_   -- t107 impl.go:392
      refine pu rfl pv_mv ?_   -- t108 impl.go:392
      refine LW.sc true 5 3 108 109 114 (b := decide ((M.getD 0 ⟨0, 0, []⟩).a = 1)) (fun w' => w6 = w') rfl rfl rfl rfl (fun _ => rfl) rfl (fun ht => ?_) rfl (fun J w' hw' => ?_)   -- t114 := pick ['t108', 't113', "c:['false']"]
      · skip
        have h0 : 0 < M.length := by simpa using ht
        refine pu rfl pv_mv ?_   -- t109 impl.go:392
        refine pu rfl (pv_ix (T := tI) (k := 0) Yabc.underlying23 sz67 okI ho6.rd rfl rfl rfl (by omega)) ?_   -- t110 impl.go:392
        refine pu rfl (pv_fa fb67_0 rfl) ?_   -- t111 impl.go:392
        refine pu rfl (pv_ld ag3 rfl (ho6.rd.cellAt okI (by omega) rfl)) ?_   -- t112 impl.go:392
        refine pu rfl (pv_eql rfl rfl) ?_   -- t113 impl.go:392
        exact LW.nil ⟨congrArg Value.bool (by rw [getD_lt _ _ _ (by omega)]), rfl⟩
      subst hw'
      refine LW.nil ?_
      refine SX.cond rfl (fun hc => ?_) (fun hc => ?_)   -- t114
      · skip
        simp only [scv, Bool.and_eq_true, decide_eq_true_eq] at hc
        have h0 : 0 < M.length := by have := hc.1; omega
        have hf1 : (M[0]'h0).a = 1 := by have := hc.2; rwa [getD_lt _ _ _ (by omega)] at this
        refine SX.reg ?_
        refine pu rfl pv_mv ?_   -- t115 impl.go:393
        refine pu rfl (pv_from (n := 1) Yabc.underlying23 sz67 rfl rfl rfl (by omega)) ?_   -- t116 impl.go:393
        refine pu rfl pv_as ?_   -- t3 impl.go:393
        refine LW.nil ?_
        exact ⟨_, ⟨rfl, trivial⟩, rfl, by rw [cut1_yes h0 hf1]; exact OwnR.from okI ho6 1 (by omega)⟩
      · skip
        have hf1 : ∀ h : 0 < M.length, (M[0]'h).a ≠ 1 := by
          intro h
          have h' : (0 : Int) < (M.length : Int) := by omega
          simp only [scv, h', decide_true, Bool.true_and, decide_eq_false_iff_not] at hc
          rwa [getD_lt _ _ _ (by omega)] at hc
        refine SX.skip ?_
        exact ⟨_, ⟨rfl, trivial⟩, rfl, by rw [cut1_no hf1]; exact ho6⟩
    rintro v8 w8 ρ8 ⟨hw8, ho8⟩
    subst hw8
    have hcl := cut1_len M
    obtain ⟨ao2, cc2, rfl, hcc2⟩ := ho8.form
    refine SX.seq ?_
    refine SX.seq (SX.reg ?_)   -- region 36
    refine pu rfl pv_mv ?_   -- t117 impl.go:395
    refine pu rfl (pv_lenV (T := tI) Yabc.underlying23 ho8.rd rfl) ?_   -- t118 impl.go:395
    refine pu rfl (pv_gtr rfl rfl) ?_   -- t119 impl.go:395
    refine pu rfl pv_mv ?_   -- t120 impl.go:395
    refine LW.sc true 8 3 120 121 129 (b := decide (((cut1 M).getD ((cut1 M).length - 1) ⟨0, 0, []⟩).a = 1)) (fun w' => w6 = w') rfl rfl rfl rfl (fun _ => rfl) rfl (fun ht => ?_) rfl (fun J w' hw' => ?_)   -- t129 := pick ['t120', 't128', "c:['false']"]
    · skip
      have h0 : 0 < (cut1 M).length := by simpa using ht
      refine pu rfl pv_mv ?_   -- t121 impl.go:395
      refine pu rfl pv_mv ?_   -- t122 impl.go:395
      refine pu rfl (pv_lenV (T := tI) Yabc.underlying23 ho8.rd rfl) ?_   -- t123 impl.go:395
      refine pu rfl (pv_sub rfl rfl (by omega)) ?_   -- t124 impl.go:395
      refine pu rfl (pv_ix (T := tI) (k := (cut1 M).length - 1) Yabc.underlying23 sz67 okI ho8.rd rfl rfl (by omega) (by omega)) ?_   -- t125 impl.go:395
      refine pu rfl (pv_fa fb67_0 rfl) ?_   -- t126 impl.go:395
      refine pu rfl (pv_ld ag3 rfl (ho8.rd.cellAt okI (by omega) rfl)) ?_   -- t127 impl.go:395
      refine pu rfl (pv_eql rfl rfl) ?_   -- t128 impl.go:395
      exact LW.nil ⟨congrArg Value.bool (by rw [getD_lt _ _ _ (by omega)]), rfl⟩
    subst hw'
    refine LW.nil ?_
    refine SX.cond rfl (fun hc => ?_) (fun hc => ?_)   -- t129
    · skip
      simp only [scv, Bool.and_eq_true, decide_eq_true_eq] at hc
      have h0 : 0 < (cut1 M).length := by have := hc.1; omega
      have hl1 : ((cut1 M)[(cut1 M).length - 1]'(by omega)).a = 1 := by have := hc.2; rwa [getD_lt _ _ _ (by omega)] at this
      refine SX.reg ?_
      refine pu rfl pv_mv ?_   -- t130 impl.go:396
      refine pu rfl pv_mv ?_   -- t131 impl.go:396
      refine pu rfl (pv_lenV (T := tI) Yabc.underlying23 ho8.rd rfl) ?_   -- t132 impl.go:396
      refine pu rfl (pv_sub rfl rfl (by omega)) ?_   -- t133 impl.go:396
      refine pu rfl (pv_to (n := (cut1 M).length - 1) (T := tI) Yabc.underlying23 sz67 rfl rfl (by omega) (by omega) (by omega)) ?_   -- t134 impl.go:396
      refine pu rfl pv_as ?_   -- t3 impl.go:396
      refine LW.nil ?_
      refine SX.seq (SX.reg ?_)   -- region 38
      refine pu rfl pv_mv ?_   -- t135 impl.go:398
      refine pu rfl pv_as ?_   -- t2 impl.go:398
      refine LW.nil ?_
      refine SX.ret ?_
      exact ⟨by rw [normalize, hMg, cut2_yes h0 hl1]; exact OwnR.to okI ho8 _ (by omega), hX6⟩
    · skip
      have hl1 : ∀ h : 0 < (cut1 M).length, ((cut1 M)[(cut1 M).length - 1]'(by omega)).a ≠ 1 := by
        intro h
        have h' : (0 : Int) < ((cut1 M).length : Int) := by omega
        simp only [scv, h', decide_true, Bool.true_and, decide_eq_false_iff_not] at hc
        rwa [getD_lt _ _ _ (by omega)] at hc
      refine SX.skip ?_
      refine SX.seq (SX.reg ?_)   -- region 38
      refine pu rfl pv_mv ?_   -- t135 impl.go:398
      refine pu rfl pv_as ?_   -- t2 impl.go:398
      refine LW.nil ?_
      refine SX.ret ?_
      exact ⟨by rw [normalize, hMg, cut2_no hl1]; exact ho8, hX6⟩

theorem f36_ok (v0 : Value) (l : List Tri) (w : World) (hr : Rd w tI v0 l) (hs : l.length ≤ 1073741824) (ht : tl l ≤ 1073741824) : Fn 36 [v0] w (fun v' w' => OwnR w' w.heap.size tI v' (normalize l) ∧ Ext w w') := by
  refine Fn.mk1 (N := 174) Yabc.func36 rfl rfl rfl rfl ?_
  refine SX.seq (SX.reg ?_)   -- region 0
  refine pu rfl pv_as ?_   -- t2 spec.go:777
  refine LW.nil ?_
  refine SX.seq (SX.reg ?_)   -- region 1
  refine pu rfl pv_as ?_   -- t3 spec.go:778
  refine LW.nil ?_
  refine SX.seq ?_
  refine SX.seq (SX.reg ?_)   -- region 2
  refine pu rfl pv_as ?_   -- t4 spec.go:779
  refine LW.nil ?_
  refine SX.block ?_
  refine SX.loop2 (fun (k : Nat) va => [(0, v0), (3, va), (4, iv k)]) (fun k va w' => k ≤ l.length ∧ Ext w w' ∧ Own w' w.heap.size tI va (stepA (l.take k))) (fun k _ => l.length - k) 0 (.slice none 0 0) ⟨rfl, rfl, rfl, trivial⟩ ⟨Nat.zero_le _, Ext.refl w, Own.nil _ _ _⟩ ?_
  rintro k va w2 ρ1 ⟨hk, hx, hown⟩
  have hal := stepA_len (l.take k)
  have htl := List.length_take_le k l
  refine SX.seq ?_
  refine SX.seq (SX.reg ?_)   -- region 3
  refine pu rfl pv_mv ?_   -- t15 spec.go:779
  refine pu rfl pv_mv ?_   -- t16 spec.go:779
  refine pu rfl (pv_lenV (T := tI) Yabc.underlying23 (hr.ext hx) rfl) ?_   -- t17 spec.go:779
  refine pu rfl (pv_lss rfl rfl) ?_   -- t18 spec.go:779
  refine LW.nil ?_
  refine SX.cond rfl (fun hc => ?_) (fun hc => ?_)   -- t18
  · skip
    have hlt : k < l.length := by simpa using hc
    refine SX.skip ?_
    refine SX.seq ?_
    refine SX.block ?_
    refine SX.seq (SX.reg ?_)   -- region 5
    refine pu rfl pv_mv ?_   -- t21 spec.go:780
    refine pu rfl pv_mv ?_   -- t22 spec.go:780
    refine pu rfl (pv_ix (T := tI) (k := k) Yabc.underlying23 sz67 okI (hr.ext hx) rfl rfl (by omega) (by omega)) ?_   -- t23 spec.go:780
    refine pu rfl (pv_ldE ag67 okI sz67 (hr.ext hx) (by omega) rfl) ?_   -- t24 spec.go:780
    refine evd rfl (ev_al3 if67 fun w3 hn3 => ?_)   -- t5 spec.go:780
    refine evn (ev_stB hn3.blk rfl rfl sz67 rfl (encT_one _) fun w4 hb4 hg4 hz4 => ?_)   --  spec.go:780
    have hB : Bx w w4 tI va (stepA (l.take k)) w2.heap.size 67 (encT (l[k]'hlt)) := Bx.make hx hown hn3 hb4 hg4
    refine LW.nil ?_
    refine SX.seq (SX.reg ?_)   -- region 6
    refine evd rfl (ev_al3 if67 fun w5 hn5 => ?_)   -- t6 spec.go:781
    refine LW.nil ?_
    refine SX.mid (G := Unit) (fun _ => [(0, v0), (3, va), (4, iv k), (6, .pointer (some ⟨w4.heap.size, 0, none⟩))]) (fun _ w' => Bx w w' tI va (stepA (l.take k)) w4.heap.size 67 (encT (nrm1 (l[k]'hlt)))) ?_ ?_
    · skip
      refine SX.seq (SX.reg ?_)   -- region 7
      refine pu rfl (pv_fa fb67_0 rfl) ?_   -- t25 spec.go:782
      refine pu rfl (pv_ld ag3 rfl ((hB.blk.ext hn5.ext).cell rfl)) ?_   -- t26 spec.go:782
      refine pu rfl (pv_eql rfl rfl) ?_   -- t27 spec.go:782
      refine LW.nil ?_
      refine SX.cond rfl (fun hc => ?_) (fun hc => ?_)   -- t27
      · skip
        have h1 : (l[k]'hlt).a = 1 := by simpa using hc
        refine SX.reg ?_
        refine pu rfl (pv_bd rfl (bd67 _ _ _)) ?_   -- t28 spec.go:783
        refine evn (ev_stB (nw := encT ⟨1, 0, [32]⟩) hn5.blk rfl rfl sz67 rfl (encT_one _) fun w6 hb6 hg6 hz6 => ?_)   --  spec.go:783
        refine LW.nil ?_
        exact ⟨(), ⟨rfl, rfl, rfl, rfl, trivial⟩, by rw [nrm_sp h1]; exact Bx.make hB.ext hB.own hn5 hb6 hg6⟩
      · skip
        have h1 : ¬ (l[k]'hlt).a = 1 := by simpa using hc
        refine SX.seq (SX.reg ?_)   -- region 9
        refine pu rfl (pv_fa fb67_0 rfl) ?_   -- t29 spec.go:784
        refine pu rfl (pv_ld ag3 rfl ((hB.blk.ext hn5.ext).cell rfl)) ?_   -- t30 spec.go:784
        refine pu rfl (pv_eql rfl rfl) ?_   -- t31 spec.go:784
        refine LW.nil ?_
        refine SX.cond rfl (fun hc => ?_) (fun hc => ?_)   -- t31
        · skip
          have h2 : (l[k]'hlt).a = 2 := by simpa using hc
          refine SX.reg ?_
          refine pu rfl (pv_fa fb67_2 rfl) ?_   -- t32 spec.go:785
          refine pu rfl (pv_ld ag9 rfl ((hB.blk.ext hn5.ext).cell rfl)) ?_   -- t33 spec.go:785
          refine pu rfl (pv_bd rfl (bd67 _ _ _)) ?_   -- t34 spec.go:785
          refine evn (ev_stB (nw := encT ⟨2, 0, (l[k]'hlt).s⟩) hn5.blk rfl rfl sz67 rfl (encT_one _) fun w6 hb6 hg6 hz6 => ?_)   --  spec.go:785
          refine LW.nil ?_
          exact ⟨(), ⟨rfl, rfl, rfl, rfl, trivial⟩, by rw [nrm_code h2]; exact Bx.make hB.ext hB.own hn5 hb6 hg6⟩
        · skip
          have h2 : ¬ (l[k]'hlt).a = 2 := by simpa using hc
          refine SX.seq (SX.reg ?_)   -- region 11
          refine pu rfl pv_as ?_   -- t7 spec.go:787
          refine LW.nil ?_
          refine SX.mid (G := Unit) (fun _ => [(0, v0), (3, va), (4, iv k), (5, .pointer (some ⟨w2.heap.size, 0, none⟩)), (6, .pointer (some ⟨w4.heap.size, 0, none⟩)), (7, iv (ust (l[k]'hlt)))]) (fun _ w' => w5 = w') ?_ ?_
          · skip
            refine SX.seq (SX.reg ?_)   -- region 12
            refine pu rfl (pv_fa fb67_1 rfl) ?_   -- t35 spec.go:788
            refine pu rfl (pv_ld ag3 rfl ((hB.blk.ext hn5.ext).cell rfl)) ?_   -- t36 spec.go:788
            refine pu rfl (pv_neq rfl rfl) ?_   -- t37 spec.go:788
            refine LW.nil ?_
            refine SX.cond rfl (fun hc => ?_) (fun hc => ?_)   -- t37
            · skip
              have hu : ust (l[k]'hlt) = 1 := by simp at hc; simp [ust, hc]
              refine SX.reg ?_
              refine pu rfl pv_as ?_   -- t7 spec.go:789
              refine LW.nil ?_
              exact ⟨(), ⟨rfl, rfl, rfl, rfl, rfl, by rw [hu]; rfl, trivial⟩, rfl⟩
            · skip
              have hu : ust (l[k]'hlt) = 0 := by simp at hc; simp [ust, hc]
              refine SX.skip ?_
              exact ⟨(), ⟨rfl, rfl, rfl, rfl, rfl, by rw [hu]; rfl, trivial⟩, rfl⟩
          rintro _ w5' ρ5 hw
          subst hw
          refine SX.reg ?_
          refine pu rfl pv_mv ?_   -- t38 spec.go:791
          refine pu rfl (pv_fa fb67_2 rfl) ?_   -- t39 spec.go:791
          refine pu rfl (pv_ld ag9 rfl ((hB.blk.ext hn5.ext).cell rfl)) ?_   -- t40 spec.go:791
          refine pu rfl (pv_bd rfl (bd67 _ _ _)) ?_   -- t41 spec.go:791
          refine evn (ev_stB (nw := encT ⟨0, ust (l[k]'hlt), (l[k]'hlt).s⟩) hn5.blk rfl rfl sz67 rfl (encT_one _) fun w6 hb6 hg6 hz6 => ?_)   --  spec.go:791
          refine LW.nil ?_
          exact ⟨(), ⟨rfl, rfl, rfl, rfl, trivial⟩, by rw [nrm_text h1 h2]; exact Bx.make hB.ext hB.own hn5 hb6 hg6⟩
    rintro _ w6 ρ6 hQ
    have hkn := keep_nrm (l[k]'hlt)
    refine SX.seq ?_
    refine SX.seq (SX.reg ?_)   -- region 15
    refine pu rfl (pv_fa fb67_0 rfl) ?_   -- t42 spec.go:793
    refine pu rfl (pv_ld ag3 rfl (hQ.blk.cell rfl)) ?_   -- t43 spec.go:793
    refine pu rfl (pv_neq rfl rfl) ?_   -- t44 spec.go:793
    refine pu rfl pv_mv ?_   -- t45 spec.go:793
    refine LW.sc true 3 3 45 46 49 (b := decide ((nrm1 (l[k]'hlt)).s = [])) (fun w' => w6 = w') rfl rfl rfl rfl (fun _ => rfl) rfl (fun ht => ?_) rfl (fun J w' hw' => ?_)   -- t49 := pick ['t45', 't48', "c:['false']"]
    · skip
      refine pu rfl (pv_fa fb67_2 rfl) ?_   -- t46 spec.go:793
      refine pu rfl (pv_ld ag9 rfl (hQ.blk.cell rfl)) ?_   -- t47 spec.go:793
      refine pu rfl (pv_eqlS rfl rfl) ?_   -- t48 spec.go:793
      exact LW.nil ⟨rfl, rfl⟩
    subst hw'
    refine LW.nil ?_
    refine SX.cond rfl (fun hc => ?_) (fun hc => ?_)   -- t49
    · skip
      have hkb : keepB (l[k]'hlt) = false := by
        rw [hkn]
        simp only [scv, Bool.and_eq_true, decide_eq_true_eq] at hc
        simp [hc.1, hc.2]
      refine SX.exit (xb_here ?_)
      refine SX.reg ?_
      refine pu rfl pv_mv ?_   -- t19 spec.go:779
      refine pu rfl (pv_add rfl rfl (by omega)) ?_   -- t20 spec.go:779
      refine pu rfl pv_as ?_   -- t4 spec.go:779
      refine LW.nil ?_
      exact ⟨k + 1, va, ⟨rfl, rfl, rfl, trivial⟩, ⟨by omega, hQ.ext, by rw [stepA_skip l k hlt hkb]; exact hQ.own⟩, by omega⟩
    · skip
      have hkb : keepB (l[k]'hlt) = true := by
        rw [hkn]
        by_cases e : (nrm1 (l[k]'hlt)).a = 1
        · simp [e]
        · have e2 : (nrm1 (l[k]'hlt)).s ≠ [] := by intro e2; simp [scv, e, e2] at hc
          simp [e2]
      refine SX.skip ?_
      refine SX.reg ?_
      refine pu rfl pv_mv ?_   -- t50 spec.go:796
      refine pu rfl (pv_ldB ag67 hQ.blk sz67 rfl) ?_   -- t51 spec.go:796
      refine push (T := tI) (nrm1 (l[k]'hlt)) sl23 okI (by decide) hQ.own hQ.ext.size rfl (fun _ => rfl) rfl rfl (by omega) (by unfold maxLen; omega) fun J1 v7 w7 ho7 hg7 => ?_   -- t52 spec.go:796
      refine pu rfl pv_as ?_   -- t3 spec.go:796
      refine LW.nil ?_
      refine SX.reg ?_
      refine pu rfl pv_mv ?_   -- t19 spec.go:779
      refine pu rfl (pv_add rfl rfl (by omega)) ?_   -- t20 spec.go:779
      refine pu rfl pv_as ?_   -- t4 spec.go:779
      refine LW.nil ?_
      exact ⟨k + 1, v7, ⟨rfl, rfl, rfl, trivial⟩, ⟨by omega, (hQ.push hg7 ho7).ext, by rw [stepA_keep l k hlt hkb]; exact ho7⟩, by omega⟩
  · skip
    have hge : k = l.length := by simp at hc; omega
    subst hge
    rw [List.take_length] at hown hal
    refine SX.exit (xb_here ?_)
    refine SX.seq (SX.reg ?_)   -- region 17
    refine pu rfl pv_as ?_   -- t8 spec.go:798
    refine LW.nil ?_
    refine SX.seq (SX.reg ?_)   -- region 18
    refine pu rfl pv_as ?_   -- t9 spec.go:799
    refine LW.nil ?_
    refine SX.seq ?_
    refine SX.block ?_
    have hal := stepA_len l
    have hta := tl_stepA l
    generalize hAg : stepA l = A at *
    refine SX.loop3 (fun (i : Nat) (b : List Tri) vb => [(3, va), (8, vb), (9, iv i)]) (fun i b vb w' => i ≤ A.length ∧ Two w w' tI va A tI vb b ∧ SInv A i b) (fun i _ _ => A.length - i) 0 [] (.slice none 0 0) ⟨rfl, rfl, rfl, trivial⟩ ⟨Nat.zero_le _, ⟨hx, hown, Own.nil _ _ _, Sep.nil_right _, Sep.nil_left _⟩, SInv.start A⟩ ?_
    rintro i b vb w7 ρ7 ⟨hi, hT7, hS7⟩
    have hbl := hS7.len hi
    refine SX.seq ?_
    refine SX.seq (SX.reg ?_)   -- region 19
    refine pu rfl pv_mv ?_   -- t54 spec.go:800
    refine pu rfl pv_mv ?_   -- t55 spec.go:800
    refine pu rfl (pv_lenV (T := tI) Yabc.underlying23 hT7.o1.rd rfl) ?_   -- t56 spec.go:800
    refine pu rfl (pv_lss rfl rfl) ?_   -- t57 spec.go:800
    refine LW.nil ?_
    refine SX.cond rfl (fun hc => ?_) (fun hc => ?_)   -- t57
    · skip
      have hia : i < A.length := by simpa using hc
      refine SX.skip ?_
      refine SX.block ?_
      refine SX.seq (SX.reg ?_)   -- region 20
      refine pu rfl pv_mv ?_   -- t58 spec.go:801
      refine pu rfl pv_mv ?_   -- t59 spec.go:801
      refine pu rfl (pv_ix (T := tI) (k := i) Yabc.underlying23 sz67 okI hT7.o1.rd rfl rfl (by omega) (by omega)) ?_   -- t60 spec.go:801
      refine pu rfl (pv_ldE ag67 okI sz67 hT7.o1.rd (by omega) rfl) ?_   -- t61 spec.go:801
      refine evd rfl (ev_al3 if67 fun w8 hn8 => ?_)   -- t10 spec.go:801
      refine evn (ev_stB hn8.blk rfl rfl sz67 rfl (encT_one _) fun w9 hb9 hg9 hz9 => ?_)   --  spec.go:801
      have hX9 : Tx w w9 tI va A tI vb b w7.heap.size 67 (encT (A[i]'hia)) := Tx.make hT7 hn8 hb9 hg9
      refine LW.nil ?_
      refine SX.seq (SX.reg ?_)   -- region 21
      refine pu rfl (pv_fa fb67_0 rfl) ?_   -- t62 spec.go:802
      refine pu rfl (pv_ld ag3 rfl (hX9.blk.cell rfl)) ?_   -- t63 spec.go:802
      refine pu rfl (pv_eql rfl rfl) ?_   -- t64 spec.go:802
      refine LW.nil ?_
      refine SX.cond rfl (fun hc => ?_) (fun hc => ?_)   -- t64
      · skip
        have h0 : (A[i]'hia).a = 0 := by simpa using hc
        refine SX.seq (SX.reg ?_)   -- region 22
        refine pu rfl pv_mv ?_   -- t65 spec.go:803
        refine pu rfl (pv_add rfl rfl (by omega)) ?_   -- t66 spec.go:803
        refine pu rfl pv_as ?_   -- t11 spec.go:803
        refine LW.nil ?_
        refine SX.seq ?_
        refine SX.block ?_
        refine SX.loop (G := Nat) (fun m => [(3, va), (8, vb), (9, iv i), (10, .pointer (some ⟨w7.heap.size, 0, none⟩)), (11, iv (i + 1 + m : Nat))]) (fun m w' => Tx w w' tI va A tI vb b w7.heap.size 67 (encT (A[i]'hia)) ∧ i + 1 + m ≤ A.length ∧ mergeL (A.take (i + 1 + m)) = b ++ [⟨0, (A[i]'hia).b, cat ((A.drop i).take (m + 1))⟩]) (fun m => A.length - m) 0 ⟨rfl, rfl, rfl, rfl, rfl, trivial⟩ ⟨hX9, by omega, hS7.text1 hia h0⟩ ?_
        rintro m w9 ρ9 ⟨hX9, hmA, hmL⟩
        refine SX.seq ?_
        refine SX.mid (G := Unit) (fun _ => [(3, va), (8, vb), (9, iv i), (10, .pointer (some ⟨w7.heap.size, 0, none⟩)), (11, iv (i + 1 + m : Nat)), (88, .bool (decide (i + 1 + m < A.length) && (decide ((A.getD (i + 1 + m) ⟨0, 0, []⟩).a = 0) && decide ((A.getD (i + 1 + m) ⟨0, 0, []⟩).b = (A[i]'hia).b))))]) (fun _ w' => Tx w w' tI va A tI vb b w7.heap.size 67 (encT (A[i]'hia))) ?_ ?_
        · skip
          have hcase : ¬ i + 1 + m < A.length ∨ (∃ hj1 : i + 1 + m < A.length, ¬ (A[i + 1 + m]'hj1).a = 0) ∨ (∃ hj1 : i + 1 + m < A.length, (A[i + 1 + m]'hj1).a = 0) := by
            by_cases h1 : i + 1 + m < A.length
            · by_cases h2 : (A[i + 1 + m]'h1).a = 0
              · exact .inr (.inr ⟨h1, h2⟩)
              · exact .inr (.inl ⟨h1, h2⟩)
            · exact .inl h1
          rcases hcase with hj1 | ⟨hj1, hj2⟩ | ⟨hj1, hj2⟩
          · skip
            skip
            refine SX.draw [(0, true), (1, true), (2, true), (3, true), (4, true), (5, true), (6, true), (7, true), (8, true), (9, true), (10, true), (11, true), (12, true), (13, true), (14, true), (15, true), (16, true), (17, true), (18, true), (19, true), (20, true), (21, true)] (fun w' => Tx w w' tI va A tI vb b w7.heap.size 67 (encT (A[i]'hia))) (by kernel_rfl) (hX9.more (Ext.drew w9)) ?_   -- region 23
            refine du rfl rfl (fun w' hw' => pv_mv) ?_   -- 0: t67 spec.go:804 
            refine du rfl rfl (fun w' hw' => pv_mv) ?_   -- 1: t68 spec.go:804 
            refine du rfl rfl (fun w' hw' => pv_lenV (T := tI) Yabc.underlying23 hw'.two.o1.rd rfl) ?_   -- 2: t69 spec.go:804 
            refine du rfl rfl (fun w' hw' => pv_lssF rfl rfl (by omega)) ?_   -- 3: t70 spec.go:804 
            refine du rfl rfl (fun w' hw' => pv_mv) ?_   -- 4: t71 spec.go:804 
            refine dgs rfl rfl rfl rfl ?_   -- 5: t72 spec.go:804 [guard (4, True)]
            refine dgs rfl rfl rfl rfl ?_   -- 6: t73 spec.go:804 [guard (4, True)]
            refine dgs rfl rfl rfl rfl ?_   -- 7: t74 spec.go:804 [guard (4, True)]
            refine dgs rfl rfl rfl rfl ?_   -- 8: t75 spec.go:804 [guard (4, True)]
            refine dgs rfl rfl rfl rfl ?_   -- 9: t76 spec.go:804 [guard (4, True)]
            refine dgs rfl rfl rfl rfl ?_   -- 10: t77 spec.go:804 [guard (4, True)]
            refine du rfl rfl (fun w' hw' => pv_pkF rfl) ?_   -- 11: t78 spec.go:804 
            refine du rfl rfl (fun w' hw' => pv_mv) ?_   -- 12: t79 spec.go:804 
            refine dgs rfl rfl rfl rfl ?_   -- 13: t80 spec.go:804 [guard (12, True)]
            refine dgs rfl rfl rfl rfl ?_   -- 14: t81 spec.go:804 [guard (12, True)]
            refine dgs rfl rfl rfl rfl ?_   -- 15: t82 spec.go:804 [guard (12, True)]
            refine dgs rfl rfl rfl rfl ?_   -- 16: t83 spec.go:804 [guard (12, True)]
            refine dgs rfl rfl rfl rfl ?_   -- 17: t84 spec.go:804 [guard (12, True)]
            refine dgs rfl rfl rfl rfl ?_   -- 18: t85 spec.go:804 [guard (12, True)]
            refine dgs rfl rfl rfl rfl ?_   -- 19: t86 spec.go:804 [guard (12, True)]
            refine dgs rfl rfl rfl rfl ?_   -- 20: t87 spec.go:804 [guard (12, True)]
            refine du rfl rfl (fun w' hw' => pv_pkF rfl) ?_   -- 21: t88 spec.go:804 
            refine DW.nil ?_
            exact ⟨(), ⟨rfl, rfl, rfl, rfl, rfl, congrArg Value.bool (by simp [hj1]), trivial⟩, hX9.more (Ext.drew w9)⟩
          · skip
            have hgj := getD_lt A (i + 1 + m) ⟨0, 0, []⟩ hj1
            skip
            refine SX.draw [(0, true), (1, true), (2, true), (3, true), (4, true), (5, true), (6, true), (7, true), (8, true), (9, true), (10, true), (11, true), (12, true), (13, true), (14, true), (15, true), (16, true), (17, true), (18, true), (19, true), (20, true), (21, true)] (fun w' => Tx w w' tI va A tI vb b w7.heap.size 67 (encT (A[i]'hia))) (by kernel_rfl) (hX9.more (Ext.drew w9)) ?_   -- region 23
            have hgj := getD_lt A (i + 1 + m) ⟨0, 0, []⟩ hj1
            refine du rfl rfl (fun w' hw' => pv_mv) ?_   -- 0: t67 spec.go:804 
            refine du rfl rfl (fun w' hw' => pv_mv) ?_   -- 1: t68 spec.go:804 
            refine du rfl rfl (fun w' hw' => pv_lenV (T := tI) Yabc.underlying23 hw'.two.o1.rd rfl) ?_   -- 2: t69 spec.go:804 
            refine du rfl rfl (fun w' hw' => pv_lssT rfl rfl (by omega)) ?_   -- 3: t70 spec.go:804 
            refine du rfl rfl (fun w' hw' => pv_mv) ?_   -- 4: t71 spec.go:804 
            refine dgr rfl rfl rfl rfl (fun w' hw' => pv_mv) ?_   -- 5: t72 spec.go:804 [guard (4, True)]
            refine dgr rfl rfl rfl rfl (fun w' hw' => pv_mv) ?_   -- 6: t73 spec.go:804 [guard (4, True)]
            refine dgr rfl rfl rfl rfl (fun w' hw' => pv_ix (T := tI) (k := (i + 1 + m)) Yabc.underlying23 sz67 okI hw'.two.o1.rd rfl rfl (by omega) (by omega)) ?_   -- 7: t74 spec.go:804 [guard (4, True)]
            refine dgr rfl rfl rfl rfl (fun w' hw' => pv_fa fb67_0 rfl) ?_   -- 8: t75 spec.go:804 [guard (4, True)]
            refine dgr rfl rfl rfl rfl (fun w' hw' => pv_ld ag3 rfl (hw'.two.o1.rd.cellAt okI (by omega) rfl)) ?_   -- 9: t76 spec.go:804 [guard (4, True)]
            refine dgr rfl rfl rfl rfl (fun w' hw' => pv_eqlF rfl rfl hj2) ?_   -- 10: t77 spec.go:804 [guard (4, True)]
            refine du rfl rfl (fun w' hw' => pv_pkT rfl) ?_   -- 11: t78 spec.go:804 
            refine du rfl rfl (fun w' hw' => pv_mv) ?_   -- 12: t79 spec.go:804 
            refine dgs rfl rfl rfl rfl ?_   -- 13: t80 spec.go:804 [guard (12, True)]
            refine dgs rfl rfl rfl rfl ?_   -- 14: t81 spec.go:804 [guard (12, True)]
            refine dgs rfl rfl rfl rfl ?_   -- 15: t82 spec.go:804 [guard (12, True)]
            refine dgs rfl rfl rfl rfl ?_   -- 16: t83 spec.go:804 [guard (12, True)]
            refine dgs rfl rfl rfl rfl ?_   -- 17: t84 spec.go:804 [guard (12, True)]
            refine dgs rfl rfl rfl rfl ?_   -- 18: t85 spec.go:804 [guard (12, True)]
            refine dgs rfl rfl rfl rfl ?_   -- 19: t86 spec.go:804 [guard (12, True)]
            refine dgs rfl rfl rfl rfl ?_   -- 20: t87 spec.go:804 [guard (12, True)]
            refine du rfl rfl (fun w' hw' => pv_pkF rfl) ?_   -- 21: t88 spec.go:804 
            refine DW.nil ?_
            exact ⟨(), ⟨rfl, rfl, rfl, rfl, rfl, congrArg Value.bool (by rw [hgj]; simp [hj1, hj2]), trivial⟩, hX9.more (Ext.drew w9)⟩
          · skip
            have hgj := getD_lt A (i + 1 + m) ⟨0, 0, []⟩ hj1
            skip
            refine SX.draw [(0, true), (1, true), (2, true), (3, true), (4, true), (5, true), (6, true), (7, true), (8, true), (9, true), (10, true), (11, true), (12, true), (13, true), (14, true), (15, true), (16, true), (17, true), (18, true), (19, true), (20, true), (21, true)] (fun w' => Tx w w' tI va A tI vb b w7.heap.size 67 (encT (A[i]'hia))) (by kernel_rfl) (hX9.more (Ext.drew w9)) ?_   -- region 23
            have hgj := getD_lt A (i + 1 + m) ⟨0, 0, []⟩ hj1
            refine du rfl rfl (fun w' hw' => pv_mv) ?_   -- 0: t67 spec.go:804 
            refine du rfl rfl (fun w' hw' => pv_mv) ?_   -- 1: t68 spec.go:804 
            refine du rfl rfl (fun w' hw' => pv_lenV (T := tI) Yabc.underlying23 hw'.two.o1.rd rfl) ?_   -- 2: t69 spec.go:804 
            refine du rfl rfl (fun w' hw' => pv_lssT rfl rfl (by omega)) ?_   -- 3: t70 spec.go:804 
            refine du rfl rfl (fun w' hw' => pv_mv) ?_   -- 4: t71 spec.go:804 
            refine dgr rfl rfl rfl rfl (fun w' hw' => pv_mv) ?_   -- 5: t72 spec.go:804 [guard (4, True)]
            refine dgr rfl rfl rfl rfl (fun w' hw' => pv_mv) ?_   -- 6: t73 spec.go:804 [guard (4, True)]
            refine dgr rfl rfl rfl rfl (fun w' hw' => pv_ix (T := tI) (k := (i + 1 + m)) Yabc.underlying23 sz67 okI hw'.two.o1.rd rfl rfl (by omega) (by omega)) ?_   -- 7: t74 spec.go:804 [guard (4, True)]
            refine dgr rfl rfl rfl rfl (fun w' hw' => pv_fa fb67_0 rfl) ?_   -- 8: t75 spec.go:804 [guard (4, True)]
            refine dgr rfl rfl rfl rfl (fun w' hw' => pv_ld ag3 rfl (hw'.two.o1.rd.cellAt okI (by omega) rfl)) ?_   -- 9: t76 spec.go:804 [guard (4, True)]
            refine dgr rfl rfl rfl rfl (fun w' hw' => pv_eqlT rfl rfl hj2) ?_   -- 10: t77 spec.go:804 [guard (4, True)]
            refine du rfl rfl (fun w' hw' => pv_pkT rfl) ?_   -- 11: t78 spec.go:804 
            refine du rfl rfl (fun w' hw' => pv_mv) ?_   -- 12: t79 spec.go:804 
            refine dgr rfl rfl rfl rfl (fun w' hw' => pv_mv) ?_   -- 13: t80 spec.go:804 [guard (12, True)]
            refine dgr rfl rfl rfl rfl (fun w' hw' => pv_mv) ?_   -- 14: t81 spec.go:804 [guard (12, True)]
            refine dgr rfl rfl rfl rfl (fun w' hw' => pv_ix (T := tI) (k := (i + 1 + m)) Yabc.underlying23 sz67 okI hw'.two.o1.rd rfl rfl (by omega) (by omega)) ?_   -- 15: t82 spec.go:804 [guard (12, True)]
            refine dgr rfl rfl rfl rfl (fun w' hw' => pv_fa fb67_1 rfl) ?_   -- 16: t83 spec.go:804 [guard (12, True)]
            refine dgr rfl rfl rfl rfl (fun w' hw' => pv_ld ag3 rfl (hw'.two.o1.rd.cellAt okI (by omega) rfl)) ?_   -- 17: t84 spec.go:804 [guard (12, True)]
            refine dgr rfl rfl rfl rfl (fun w' hw' => pv_fa fb67_1 rfl) ?_   -- 18: t85 spec.go:804 [guard (12, True)]
            refine dgr rfl rfl rfl rfl (fun w' hw' => pv_ld ag3 rfl (hw'.blk.cell rfl)) ?_   -- 19: t86 spec.go:804 [guard (12, True)]
            refine dgr rfl rfl rfl rfl (fun w' hw' => pv_eql rfl rfl) ?_   -- 20: t87 spec.go:804 [guard (12, True)]
            refine du rfl rfl (fun w' hw' => pv_pkT rfl) ?_   -- 21: t88 spec.go:804 
            refine DW.nil ?_
            exact ⟨(), ⟨rfl, rfl, rfl, rfl, rfl, congrArg Value.bool (by rw [hgj]; simp [hj1, hj2]), trivial⟩, hX9.more (Ext.drew w9)⟩
        rintro _ w10 ρ10 hX10
        refine SX.cond rfl (fun hc => ?_) (fun hc => ?_)   -- t88
        · skip
          have hc : (decide (i + 1 + m < A.length) && (decide ((A.getD (i + 1 + m) ⟨0, 0, []⟩).a = 0) && decide ((A.getD (i + 1 + m) ⟨0, 0, []⟩).b = (A[i]'hia).b))) = true := hc
          simp only [Bool.and_eq_true, decide_eq_true_eq] at hc
          obtain ⟨hj1, hj2, hj3⟩ := hc
          rw [getD_lt _ _ _ hj1] at hj2 hj3
          refine SX.skip ?_
          refine SX.block ?_
          refine SX.reg ?_
          refine pu rfl pv_mv ?_   -- t89 spec.go:805
          refine pu rfl (pv_add rfl rfl (by omega)) ?_   -- t90 spec.go:805
          refine pu rfl pv_as ?_   -- t11 spec.go:805
          refine LW.nil ?_
          exact ⟨m + 1, ⟨rfl, rfl, rfl, rfl, rfl, trivial⟩, ⟨hX10, by omega, text_step hj1 hmL hj2 hj3⟩, by omega⟩
        · skip
          have hc : (decide (i + 1 + m < A.length) && (decide ((A.getD (i + 1 + m) ⟨0, 0, []⟩).a = 0) && decide ((A.getD (i + 1 + m) ⟨0, 0, []⟩).b = (A[i]'hia).b))) = false := hc
          have hend : ∀ h : i + 1 + m < A.length, ¬ ((A[i + 1 + m]'h).a = 0 ∧ (A[i + 1 + m]'h).b = (A[i]'hia).b) := by
            rintro h ⟨e1, e2⟩
            rw [getD_lt _ _ _ h] at hc
            simp [h, e1, e2] at hc
          refine SX.exit (xb_here ?_)
          refine SX.seq (SX.reg ?_)   -- region 25
          refine pu rfl pv_as ?_   -- t12 spec.go:807
          refine LW.nil ?_
          refine SX.seq ?_
          refine SX.seq (SX.reg ?_)   -- region 26
          refine pu rfl pv_mv ?_   -- t91 spec.go:808
          refine pu rfl pv_as ?_   -- t13 spec.go:808
          refine LW.nil ?_
          refine SX.block ?_
          refine SX.loop2 (fun (n : Nat) vbuf => [(3, va), (8, vb), (9, iv i), (10, .pointer (some ⟨w7.heap.size, 0, none⟩)), (11, iv (i + 1 + m : Nat)), (12, vbuf), (13, iv (i + n : Nat))]) (fun n vbuf w' => n ≤ m + 1 ∧ Ext w10 w' ∧ Own w' w10.heap.size tB vbuf (cat ((A.drop i).take n))) (fun n _ => m + 1 - n) 0 (.slice none 0 0) ⟨rfl, rfl, rfl, rfl, rfl, rfl, rfl, trivial⟩ ⟨Nat.zero_le _, Ext.refl w10, by simpa [cat] using Own.nil w10 w10.heap.size tB⟩ ?_
          rintro n vbuf w11 ρ11 ⟨hn, hx11, ho11⟩
          have hX11 := hX10.more hx11
          have hcl : (cat ((A.drop i).take n)).length ≤ tl A := by rw [cat_len]; exact tl_sub A i n
          refine SX.seq ?_
          refine SX.seq (SX.reg ?_)   -- region 27
          refine pu rfl pv_mv ?_   -- t92 spec.go:808
          refine pu rfl pv_mv ?_   -- t93 spec.go:808
          refine pu rfl (pv_lss rfl rfl) ?_   -- t94 spec.go:808
          refine LW.nil ?_
          refine SX.cond rfl (fun hc => ?_) (fun hc => ?_)   -- t94
          · skip
            have hnm : n < m + 1 := by simp at hc; omega
            have hcs := cat_step A i n (by omega)
            have htm := tl_mem A _ (List.getElem_mem (show i + n < A.length by omega))
            refine SX.skip ?_
            refine SX.seq ?_
            refine SX.block ?_
            refine SX.reg ?_
            refine pu rfl pv_mv ?_   -- t97 spec.go:809
            refine pu rfl pv_mv ?_   -- t98 spec.go:809
            refine pu rfl pv_mv ?_   -- t99 spec.go:809
            refine pu rfl (pv_ix (T := tI) (k := (i + n)) Yabc.underlying23 sz67 okI hX11.two.o1.rd rfl rfl (by omega) (by omega)) ?_   -- t100 spec.go:809
            refine pu rfl (pv_fa fb67_2 rfl) ?_   -- t101 spec.go:809
            refine pu rfl (pv_ld ag9 rfl (hX11.two.o1.rd.cellAt okI (by omega) rfl)) ?_   -- t102 spec.go:809
            refine evd rfl (ev_appS (c := (A[i + n]'(by omega)).s) ho11 hx11.size rfl rfl (by omega) fun v12 w12 ho12 hg12 => ?_)   -- t103 spec.go:809
            refine pu rfl pv_as ?_   -- t12 spec.go:809
            refine LW.nil ?_
            refine SX.reg ?_
            refine pu rfl pv_mv ?_   -- t95 spec.go:808
            refine pu rfl (pv_add rfl rfl (by omega)) ?_   -- t96 spec.go:808
            refine pu rfl pv_as ?_   -- t13 spec.go:808
            refine LW.nil ?_
            exact ⟨n + 1, v12, ⟨rfl, rfl, rfl, rfl, rfl, rfl, rfl, trivial⟩, ⟨by omega, hx11.step hg12.grown (fun g e => (ho11.lt g e).1), by rw [hcs]; exact ho12⟩, by omega⟩
          · skip
            have hnm : n = m + 1 := by simp at hc; omega
            subst hnm
            refine SX.exit (xb_here ?_)
            refine SX.seq (SX.reg ?_)   -- region 30
            refine pu rfl pv_mv ?_   -- t104 spec.go:811
            refine pu rfl (pv_fa fb67_1 rfl) ?_   -- t105 spec.go:811
            refine pu rfl (pv_ld ag3 rfl (hX11.blk.cell rfl)) ?_   -- t106 spec.go:811
            refine pu rfl pv_mv ?_   -- t107 spec.go:811
            refine pu rfl (pv_str ho11.rd rfl) ?_   -- t108 spec.go:811
            refine pu rfl (pv_bd rfl (bd67 _ _ _)) ?_   -- t109 spec.go:811
            refine push (T := tI) ⟨0, (A[i]'hia).b, cat ((A.drop i).take (m + 1))⟩ sl23 okI (by decide) hX11.two.o2 hX11.two.ext.size rfl (fun _ => rfl) rfl rfl (by omega) (by unfold maxLen; omega) fun J1 v12 w12 ho12 hg12 => ?_   -- t110 spec.go:811
            refine pu rfl pv_as ?_   -- t8 spec.go:811
            refine LW.nil ?_
            refine SX.reg ?_
            refine pu rfl pv_mv ?_   -- t112 spec.go:812
            refine pu rfl pv_as ?_   -- t9 spec.go:812
            refine LW.nil ?_
            exact ⟨i + 1 + m, _, v12, ⟨rfl, rfl, rfl, trivial⟩, ⟨hmA, (hX11.push2 hg12 ho12).two, SInv.textEnd hmL hend⟩, by omega⟩
      · skip
        have h0 : ¬ (A[i]'hia).a = 0 := by simpa using hc
        refine SX.seq (SX.reg ?_)   -- region 32
        refine pu rfl (pv_fa fb67_0 rfl) ?_   -- t113 spec.go:813
        refine pu rfl (pv_ld ag3 rfl (hX9.blk.cell rfl)) ?_   -- t114 spec.go:813
        refine pu rfl (pv_eql rfl rfl) ?_   -- t115 spec.go:813
        refine LW.nil ?_
        refine SX.cond rfl (fun hc => ?_) (fun hc => ?_)   -- t115
        · skip
          have h1 : (A[i]'hia).a = 1 := by simpa using hc
          refine SX.seq (SX.reg ?_)   -- region 33
          refine pu rfl pv_mv ?_   -- t116 spec.go:814
          refine pu rfl (pv_add rfl rfl (by omega)) ?_   -- t117 spec.go:814
          refine pu rfl pv_as ?_   -- t14 spec.go:814
          refine LW.nil ?_
          refine SX.seq ?_
          refine SX.block ?_
          refine SX.loop (G := Nat) (fun m => [(3, va), (8, vb), (9, iv i), (10, .pointer (some ⟨w7.heap.size, 0, none⟩)), (14, iv (i + 1 + m : Nat))]) (fun m w' => w9 = w' ∧ i + 1 + m ≤ A.length ∧ mergeL (A.take (i + 1 + m)) = b ++ [⟨1, 0, [32]⟩]) (fun m => A.length - m) 0 ⟨rfl, rfl, rfl, rfl, rfl, trivial⟩ ⟨rfl, by omega, hS7.sp1 hia h1⟩ ?_
          rintro m w9' ρ9 ⟨hw, hmA, hmL⟩
          subst hw
          refine SX.seq ?_
          refine SX.seq (SX.reg ?_)   -- region 34
          refine pu rfl pv_mv ?_   -- t118 spec.go:815
          refine pu rfl pv_mv ?_   -- t119 spec.go:815
          refine pu rfl (pv_lenV (T := tI) Yabc.underlying23 hX9.two.o1.rd rfl) ?_   -- t120 spec.go:815
          refine pu rfl (pv_lss rfl rfl) ?_   -- t121 spec.go:815
          refine pu rfl pv_mv ?_   -- t122 spec.go:815
          refine LW.sc true 6 4 122 123 129 (b := decide ((A.getD (i + 1 + m) ⟨0, 0, []⟩).a = 1)) (fun w' => w9 = w') rfl rfl rfl rfl (fun _ => rfl) rfl (fun ht => ?_) rfl (fun J w' hw' => ?_)   -- t129 := pick ['t122', 't128', "c:['false']"]
          · skip
            have hj1 : i + 1 + m < A.length := by simp at ht; omega
            refine pu rfl pv_mv ?_   -- t123 spec.go:815
            refine pu rfl pv_mv ?_   -- t124 spec.go:815
            refine pu rfl (pv_ix (T := tI) (k := (i + 1 + m)) Yabc.underlying23 sz67 okI hX9.two.o1.rd rfl rfl (by omega) (by omega)) ?_   -- t125 spec.go:815
            refine pu rfl (pv_fa fb67_0 rfl) ?_   -- t126 spec.go:815
            refine pu rfl (pv_ld ag3 rfl (hX9.two.o1.rd.cellAt okI (by omega) rfl)) ?_   -- t127 spec.go:815
            refine pu rfl (pv_eql rfl rfl) ?_   -- t128 spec.go:815
            exact LW.nil ⟨congrArg Value.bool (by rw [getD_lt _ _ _ hj1]), rfl⟩
          subst hw'
          refine LW.nil ?_
          refine SX.cond rfl (fun hc => ?_) (fun hc => ?_)   -- t129
          · skip
            simp only [scv, Bool.and_eq_true, decide_eq_true_eq] at hc
            have hj1 : i + 1 + m < A.length := by have := hc.1; omega
            have hj2 := hc.2
            rw [getD_lt _ _ _ hj1] at hj2
            refine SX.skip ?_
            refine SX.block ?_
            refine SX.reg ?_
            refine pu rfl pv_mv ?_   -- t130 spec.go:816
            refine pu rfl (pv_add rfl rfl (by omega)) ?_   -- t131 spec.go:816
            refine pu rfl pv_as ?_   -- t14 spec.go:816
            refine LW.nil ?_
            exact ⟨m + 1, ⟨rfl, rfl, rfl, rfl, rfl, trivial⟩, ⟨rfl, by omega, sp_step hj1 hmL hj2⟩, by omega⟩
          · skip
            have hend : ∀ h : i + 1 + m < A.length, ¬ (A[i + 1 + m]'h).a = 1 := by
              intro h e1
              have h' : ((i + 1 + m : Nat) : Int) < (A.length : Int) := by omega
              rw [getD_lt _ _ _ h] at hc
              simp only [scv, h', decide_true, Bool.true_and, e1, decide_true] at hc
              cases hc
            refine SX.exit (xb_here ?_)
            refine SX.seq (SX.reg ?_)   -- region 36
            refine pu rfl pv_mv ?_   -- t132 spec.go:818
            refine pu rfl (pv_bd rfl (bd67 _ _ _)) ?_   -- t133 spec.go:818
            refine push (T := tI) ⟨1, 0, [32]⟩ sl23 okI (by decide) hX9.two.o2 hX9.two.ext.size rfl (fun _ => rfl) rfl rfl (by omega) (by unfold maxLen; omega) fun J1 v12 w12 ho12 hg12 => ?_   -- t134 spec.go:818
            refine pu rfl pv_as ?_   -- t8 spec.go:818
            refine LW.nil ?_
            refine SX.reg ?_
            refine pu rfl pv_mv ?_   -- t136 spec.go:819
            refine pu rfl pv_as ?_   -- t9 spec.go:819
            refine LW.nil ?_
            exact ⟨i + 1 + m, _, v12, ⟨rfl, rfl, rfl, trivial⟩, ⟨hmA, (hX9.push2 hg12 ho12).two, SInv.spEnd hmL hend⟩, by omega⟩
        · skip
          have h1 : ¬ (A[i]'hia).a = 1 := by simpa using hc
          refine SX.seq (SX.reg ?_)   -- region 38
          refine pu rfl pv_mv ?_   -- t137 spec.go:821
          refine pu rfl (pv_ldB ag67 hX9.blk sz67 rfl) ?_   -- t138 spec.go:821
          refine push (T := tI) (A[i]'hia) sl23 okI (by decide) hX9.two.o2 hX9.two.ext.size rfl (fun _ => rfl) rfl rfl (by omega) (by unfold maxLen; omega) fun J1 v12 w12 ho12 hg12 => ?_   -- t139 spec.go:821
          refine pu rfl pv_as ?_   -- t8 spec.go:821
          refine LW.nil ?_
          refine SX.reg ?_
          refine pu rfl pv_mv ?_   -- t141 spec.go:822
          refine pu rfl (pv_add rfl rfl (by omega)) ?_   -- t142 spec.go:822
          refine pu rfl pv_as ?_   -- t9 spec.go:822
          refine LW.nil ?_
          exact ⟨i + 1, _, v12, ⟨rfl, rfl, rfl, trivial⟩, ⟨by omega, (hX9.push2 hg12 ho12).two, hS7.else hia h0 h1⟩, by omega⟩
    · skip
      have hge : i = A.length := by simp at hc; omega
      subst hge
      have hM := hS7.eq
      rw [List.take_length] at hM
      have hml := mergeL_len A _ (Nat.le_refl _)
      rw [List.take_length, ← hM] at hml
      have hMg : mergeL A = b := hM.symm
      have ho6 := hT7.o2.own
      have hX6 := hT7.ext
      refine SX.exit (xb_here ?_)
      obtain ⟨ao, cc, rfl, hcc⟩ := ho6.form
      refine SX.mid (G := Value) (fun v => [(8, v)]) (fun v w' => w7 = w' ∧ OwnR w7 w.heap.size tI v (cut1 b)) ?_ ?_
      · skip
        refine SX.seq (SX.reg ?_)   -- region 40
        refine pu rfl pv_mv ?_   -- t143 spec.go:825
        refine pu rfl (pv_lenV (T := tI) Yabc.underlying23 ho6.rd rfl) ?_   -- t144 spec.go:825
        refine pu rfl (pv_gtr rfl rfl) ?_   -- t145 spec.go:825
        refine pu rfl pv_mv ?_   -- t146 spec.go:825
        refine LW.sc true 5 3 146 147 152 (b := decide ((b.getD 0 ⟨0, 0, []⟩).a = 1)) (fun w' => w7 = w') rfl rfl rfl rfl (fun _ => rfl) rfl (fun ht => ?_) rfl (fun J w' hw' => ?_)   -- t152 := pick ['t146', 't151', "c:['false']"]
        · skip
          have h0 : 0 < b.length := by simpa using ht
          refine pu rfl pv_mv ?_   -- t147 spec.go:825
          refine pu rfl (pv_ix (T := tI) (k := 0) Yabc.underlying23 sz67 okI ho6.rd rfl rfl rfl (by omega)) ?_   -- t148 spec.go:825
          refine pu rfl (pv_fa fb67_0 rfl) ?_   -- t149 spec.go:825
          refine pu rfl (pv_ld ag3 rfl (ho6.rd.cellAt okI (by omega) rfl)) ?_   -- t150 spec.go:825
          refine pu rfl (pv_eql rfl rfl) ?_   -- t151 spec.go:825
          exact LW.nil ⟨congrArg Value.bool (by rw [getD_lt _ _ _ (by omega)]), rfl⟩
        subst hw'
        refine LW.nil ?_
        refine SX.cond rfl (fun hc => ?_) (fun hc => ?_)   -- t152
        · skip
          simp only [scv, Bool.and_eq_true, decide_eq_true_eq] at hc
          have h0 : 0 < b.length := by have := hc.1; omega
          have hf1 : (b[0]'h0).a = 1 := by have := hc.2; rwa [getD_lt _ _ _ (by omega)] at this
          refine SX.reg ?_
          refine pu rfl pv_mv ?_   -- t153 spec.go:826
          refine pu rfl (pv_from (n := 1) Yabc.underlying23 sz67 rfl rfl rfl (by omega)) ?_   -- t154 spec.go:826
          refine pu rfl pv_as ?_   -- t8 spec.go:826
          refine LW.nil ?_
          exact ⟨_, ⟨rfl, trivial⟩, rfl, by rw [cut1_yes h0 hf1]; exact OwnR.from okI ho6 1 (by omega)⟩
        · skip
          have hf1 : ∀ h : 0 < b.length, (b[0]'h).a ≠ 1 := by
            intro h
            have h' : (0 : Int) < (b.length : Int) := by omega
            simp only [scv, h', decide_true, Bool.true_and, decide_eq_false_iff_not] at hc
            rwa [getD_lt _ _ _ (by omega)] at hc
          refine SX.skip ?_
          exact ⟨_, ⟨rfl, trivial⟩, rfl, by rw [cut1_no hf1]; exact ho6⟩
      rintro v8 w8 ρ8 ⟨hw8, ho8⟩
      subst hw8
      have hcl := cut1_len b
      obtain ⟨ao2, cc2, rfl, hcc2⟩ := ho8.form
      refine SX.seq ?_
      refine SX.seq (SX.reg ?_)   -- region 42
      refine pu rfl pv_mv ?_   -- t155 spec.go:828
      refine pu rfl (pv_lenV (T := tI) Yabc.underlying23 ho8.rd rfl) ?_   -- t156 spec.go:828
      refine pu rfl (pv_gtr rfl rfl) ?_   -- t157 spec.go:828
      refine pu rfl pv_mv ?_   -- t158 spec.go:828
      refine LW.sc true 8 3 158 159 167 (b := decide (((cut1 b).getD ((cut1 b).length - 1) ⟨0, 0, []⟩).a = 1)) (fun w' => w7 = w') rfl rfl rfl rfl (fun _ => rfl) rfl (fun ht => ?_) rfl (fun J w' hw' => ?_)   -- t167 := pick ['t158', 't166', "c:['false']"]
      · skip
        have h0 : 0 < (cut1 b).length := by simpa using ht
        refine pu rfl pv_mv ?_   -- t159 spec.go:828
        refine pu rfl pv_mv ?_   -- t160 spec.go:828
        refine pu rfl (pv_lenV (T := tI) Yabc.underlying23 ho8.rd rfl) ?_   -- t161 spec.go:828
        refine pu rfl (pv_sub rfl rfl (by omega)) ?_   -- t162 spec.go:828
        refine pu rfl (pv_ix (T := tI) (k := (cut1 b).length - 1) Yabc.underlying23 sz67 okI ho8.rd rfl rfl (by omega) (by omega)) ?_   -- t163 spec.go:828
        refine pu rfl (pv_fa fb67_0 rfl) ?_   -- t164 spec.go:828
        refine pu rfl (pv_ld ag3 rfl (ho8.rd.cellAt okI (by omega) rfl)) ?_   -- t165 spec.go:828
        refine pu rfl (pv_eql rfl rfl) ?_   -- t166 spec.go:828
        exact LW.nil ⟨congrArg Value.bool (by rw [getD_lt _ _ _ (by omega)]), rfl⟩
      subst hw'
      refine LW.nil ?_
      refine SX.cond rfl (fun hc => ?_) (fun hc => ?_)   -- t167
      · skip
        simp only [scv, Bool.and_eq_true, decide_eq_true_eq] at hc
        have h0 : 0 < (cut1 b).length := by have := hc.1; omega
        have hl1 : ((cut1 b)[(cut1 b).length - 1]'(by omega)).a = 1 := by have := hc.2; rwa [getD_lt _ _ _ (by omega)] at this
        refine SX.reg ?_
        refine pu rfl pv_mv ?_   -- t168 spec.go:829
        refine pu rfl pv_mv ?_   -- t169 spec.go:829
        refine pu rfl (pv_lenV (T := tI) Yabc.underlying23 ho8.rd rfl) ?_   -- t170 spec.go:829
        refine pu rfl (pv_sub rfl rfl (by omega)) ?_   -- t171 spec.go:829
        refine pu rfl (pv_to (n := (cut1 b).length - 1) (T := tI) Yabc.underlying23 sz67 rfl rfl (by omega) (by omega) (by omega)) ?_   -- t172 spec.go:829
        refine pu rfl pv_as ?_   -- t8 spec.go:829
        refine LW.nil ?_
        refine SX.seq (SX.reg ?_)   -- region 44
        refine pu rfl pv_mv ?_   -- t173 spec.go:831
        refine pu rfl pv_as ?_   -- t2 spec.go:831
        refine LW.nil ?_
        refine SX.ret ?_
        exact ⟨by rw [normalize, hAg, hMg, cut2_yes h0 hl1]; exact OwnR.to okI ho8 _ (by omega), hX6⟩
      · skip
        have hl1 : ∀ h : 0 < (cut1 b).length, ((cut1 b)[(cut1 b).length - 1]'(by omega)).a ≠ 1 := by
          intro h
          have h' : (0 : Int) < ((cut1 b).length : Int) := by omega
          simp only [scv, h', decide_true, Bool.true_and, decide_eq_false_iff_not] at hc
          rwa [getD_lt _ _ _ (by omega)] at hc
        refine SX.skip ?_
        refine SX.seq (SX.reg ?_)   -- region 44
        refine pu rfl pv_mv ?_   -- t173 spec.go:831
        refine pu rfl pv_as ?_   -- t2 spec.go:831
        refine LW.nil ?_
        refine SX.ret ?_
        exact ⟨by rw [normalize, hAg, hMg, cut2_no hl1]; exact ho8, hX6⟩

end Go.Proofs.Ybuabw
