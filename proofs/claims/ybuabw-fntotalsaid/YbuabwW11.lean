/-
  WALKS. Joins; a block is closed. Own work for the seat Ybuabw (the steps of each walk were typed by a program of ours off the printed code).
-/
import Derived.Test.YbuabwW1
import Derived.Test.YbuabwMem7
import Derived.Test.YbuabwPlain5
namespace Go.Proofs.Ybuabw
open Go.RowKit
set_option linter.unusedVariables false
set_option linter.unusedSimpArgs false
set_option maxRecDepth 20000

theorem f90_ok (v : Value) (ps : List Str) (sep : Str) (w : World) (hr : Rd w tS v ps) (h1 : sep.length = 1) (hs : ps.length ≤ 1099511627776) (ht : ttl ps ≤ 1099511627776) : Fn 90 [v, S sep] w (fun v' w' => v' = S (joinS sep ps) ∧ Ext w w') := by
  refine Fn.mk1 (N := 26) Yabc.func90 rfl rfl rfl rfl ?_
  refine SX.seq (SX.reg ?_)   -- region 0
  refine pu rfl pv_as ?_   -- t4 spec.go:77
  refine LW.nil ?_
  refine SX.seq (SX.reg ?_)   -- region 1
  refine pu rfl pv_as ?_   -- t5(out) spec.go:78
  refine LW.nil ?_
  refine SX.seq ?_
  refine SX.seq (SX.reg ?_)   -- region 2
  refine pu rfl pv_as ?_   -- t6(i) spec.go:79
  refine LW.nil ?_
  refine SX.block ?_
  refine SX.loop2 (fun (k : Nat) vb => [(0, v), (1, S sep), (5, vb), (6, iv k)]) (fun k vb w' => k ≤ ps.length ∧ Ext w w' ∧ Own w' w.heap.size tB vb (jnN sep ps k)) (fun k _ => ps.length - k) 0 (.slice none 0 0) ⟨rfl, rfl, rfl, rfl, trivial⟩ ⟨Nat.zero_le _, Ext.refl w, Own.nil _ _ _⟩ ?_
  rintro k vb w2 ρ1 ⟨hk, hx2, ho2⟩
  have hjl := jnN_len sep ps h1 k hk
  have htk := ttl_le ps k
  refine SX.seq ?_
  refine SX.seq (SX.reg ?_)   -- region 3
  refine pu rfl pv_mv ?_   -- t7 spec.go:79
  refine pu rfl pv_mv ?_   -- t8 spec.go:79
  refine pu rfl (pv_lenV (T := tS) Yabc.underlying32 (hr.ext hx2) rfl) ?_   -- t9 spec.go:79
  refine pu rfl (pv_lss rfl rfl) ?_   -- t10 spec.go:79
  refine LW.nil ?_
  refine SX.cond rfl (fun hc => ?_) (fun hc => ?_)   -- t10
  · skip
    have hlt : k < ps.length := by simpa using hc
    have hts := ttl_take ps k hlt
    have htk1 := ttl_le ps (k + 1)
    refine SX.skip ?_
    refine SX.seq ?_
    refine SX.block ?_
    refine SX.mid (G := Value) (fun vb => [(0, v), (1, S sep), (5, vb), (6, iv k)]) (fun vb w' => Ext w w' ∧ Own w' w.heap.size tB vb (jnN sep ps k ++ (if k = 0 then [] else sep))) ?_ ?_
    · skip
      refine SX.seq (SX.reg ?_)   -- region 5
      refine pu rfl pv_mv ?_   -- t13 spec.go:80
      refine pu rfl (pv_gtr rfl rfl) ?_   -- t14 spec.go:80
      refine LW.nil ?_
      refine SX.cond rfl (fun hc => ?_) (fun hc => ?_)   -- t14
      · skip
        have hk0 : ¬ k = 0 := by simp at hc; omega
        refine SX.reg ?_
        refine pu rfl pv_mv ?_   -- t15 spec.go:81
        refine pu rfl pv_mv ?_   -- t16 spec.go:81
        refine evd rfl (ev_appS (c := sep) ho2 hx2.size rfl rfl (by omega) fun v4 w4 ho4 hg4 => ?_)   -- t17 spec.go:81
        refine pu rfl pv_as ?_   -- t5(out) spec.go:81
        refine LW.nil ?_
        exact ⟨v4, ⟨rfl, rfl, rfl, rfl, trivial⟩, hx2.step hg4.grown (fun g e => (ho2.lt g e).1), by rw [if_neg hk0]; exact ho4⟩
      · skip
        have hk0 : k = 0 := by simp at hc; omega
        refine SX.skip ?_
        exact ⟨vb, ⟨rfl, rfl, rfl, rfl, trivial⟩, hx2, by rw [if_pos hk0]; simpa using ho2⟩
    rintro vb5 w5 ρ5 ⟨hx5, ho5⟩
    have hl5 : (jnN sep ps k ++ (if k = 0 then [] else sep)).length ≤ (jnN sep ps k).length + 1 := by rw [List.length_append]; split <;> simp <;> omega
    refine SX.reg ?_
    refine pu rfl pv_mv ?_   -- t18 spec.go:83
    refine pu rfl pv_mv ?_   -- t19 spec.go:83
    refine pu rfl pv_mv ?_   -- t20 spec.go:83
    refine pu rfl (pv_ix (T := tS) (k := k) Yabc.underlying32 sz9 okS (hr.ext hx5) rfl rfl rfl (by omega)) ?_   -- t21 spec.go:83
    refine pu rfl (pv_ld ag9 rfl ((hr.ext hx5).cell0 okS (by omega) rfl)) ?_   -- t22 spec.go:83
    refine evd rfl (ev_appS (c := (ps[k]'hlt)) ho5 hx5.size rfl rfl (by omega) fun v6 w6 ho6 hg6 => ?_)   -- t23 spec.go:83
    refine pu rfl pv_as ?_   -- t5(out) spec.go:83
    refine LW.nil ?_
    refine SX.reg ?_
    refine pu rfl pv_mv ?_   -- t11 spec.go:79
    refine pu rfl (pv_add rfl rfl (by omega)) ?_   -- t12 spec.go:79
    refine pu rfl pv_as ?_   -- t6(i) spec.go:79
    refine LW.nil ?_
    exact ⟨k + 1, v6, ⟨rfl, rfl, rfl, rfl, trivial⟩, ⟨by omega, hx5.step hg6.grown (fun g e => (ho5.lt g e).1), by rw [jnN, getD_lt _ _ _ hlt]; exact ho6⟩, by omega⟩
  · skip
    have hge : k = ps.length := by simp at hc; omega
    subst hge
    refine SX.exit (xb_here ?_)
    refine SX.seq (SX.reg ?_)   -- region 8
    refine pu rfl pv_mv ?_   -- t24 spec.go:85
    refine pu rfl (pv_str ho2.rd rfl) ?_   -- t25 spec.go:85
    refine pu rfl pv_as ?_   -- t4 spec.go:85
    refine LW.nil ?_
    refine SX.ret ?_
    exact ⟨rfl, hx2⟩

theorem f88_ok (vb vc : Value) (out : List Tri) (k : Int) (cs : List Str) (B : Nat) (w : World) (ho : Own w B tK vb out) (hB : B ≤ w.heap.size) (hc0 : Rd w tS vc cs) (hs : out.length ≤ 1073741824) (ht : k ≠ 0 → ttl cs ≤ 1073741824 ∧ cs.length ≤ 1073741824) : Fn 88 [vb, iv k, vc] w (fun v w' => Own w' B tK v (closeB out k cs) ∧ Gw w w' vb v) := by
  refine Fn.mk1 (N := 39) Yabc.func88 rfl rfl rfl rfl ?_
  refine SX.seq (SX.reg ?_)   -- region 0
  refine pu rfl pv_as ?_   -- t6 impl.go:157
  refine LW.nil ?_
  refine SX.seq ?_
  refine SX.seq (SX.reg ?_)   -- region 1
  refine pu rfl pv_mv ?_   -- t10 impl.go:158
  refine pu rfl (pv_eql rfl rfl) ?_   -- t11 impl.go:158
  refine LW.nil ?_
  refine SX.cond rfl (fun hc => ?_) (fun hc => ?_)   -- t11
  · skip
    have hk0 : k = 0 := by simpa using hc
    refine SX.seq (SX.reg ?_)   -- region 2
    refine pu rfl pv_mv ?_   -- t12 impl.go:159
    refine pu rfl pv_as ?_   -- t6 impl.go:159
    refine LW.nil ?_
    refine SX.ret ?_
    exact ⟨by rw [closeB, if_pos hk0]; exact ho, Gw.refl w vb⟩
  · skip
    have hk0 : ¬ k = 0 := by simpa using hc
    obtain ⟨ht1, ht2⟩ := ht hk0
    refine SX.skip ?_
    refine SX.seq (SX.reg ?_)   -- region 3
    refine pu rfl pv_as ?_   -- t7(text) impl.go:161
    refine LW.nil ?_
    refine SX.seq ?_
    refine SX.seq (SX.reg ?_)   -- region 4
    refine pu rfl pv_mv ?_   -- t13 impl.go:162
    refine pu rfl (pv_lenV (T := tS) Yabc.underlying32 hc0 rfl) ?_   -- t14 impl.go:162
    refine pu rfl pv_mv ?_   -- t15 impl.go:162
    refine LW.nil ?_
    refine SX.block ?_
    refine SX.loop2 (fun (i : Nat) vt => [(0, vb), (1, iv k), (7, vt), (13, vc), (14, iv cs.length), (15, iv i)]) (fun i vt w' => i ≤ cs.length ∧ Ext w w' ∧ Own w' w.heap.size tB vt (clText (cs.take i))) (fun i _ => cs.length - i) 0 (.slice none 0 0) ⟨rfl, rfl, rfl, rfl, rfl, rfl, trivial⟩ ⟨Nat.zero_le _, Ext.refl w, Own.nil _ _ _⟩ ?_
    rintro i vt w2 ρ1 ⟨hi, hx2, ho2⟩
    have htl := clText_len (cs.take i)
    have htk := ttl_le cs i
    have hlk := List.length_take_le i cs
    refine SX.seq (SX.reg ?_)   -- region 5
    refine pu rfl (pv_lss rfl rfl) ?_   -- t16 impl.go:162
    refine LW.nil ?_
    refine SX.seq ?_
    refine SX.cond rfl (fun hc => ?_) (fun hc => ?_)   -- t16
    · skip
      have hlt : i < cs.length := by simpa using hc
      have hts := ttl_take cs i hlt
      have htk1 := ttl_le cs (i + 1)
      refine SX.skip ?_
      refine SX.seq ?_
      refine SX.block ?_
      refine SX.seq (SX.reg ?_)   -- region 6
      refine pu rfl (pv_ix (T := tS) (k := i) Yabc.underlying32 sz9 okS (hc0.ext hx2) rfl rfl (by omega) (by omega)) ?_   -- t17 impl.go:162
      refine pu rfl (pv_ld ag9 rfl ((hc0.ext hx2).cell0 okS (by omega) rfl)) ?_   -- t18 impl.go:162
      refine pu rfl pv_as ?_   -- t9(c) impl.go:162
      refine LW.nil ?_
      refine SX.seq ?_
      refine SX.seq (SX.reg ?_)   -- region 7
      refine pu rfl pv_mv ?_   -- t19 impl.go:163
      refine pu rfl (pv_len_s rfl) ?_   -- t20 impl.go:163
      refine pu rfl (pv_eql rfl rfl) ?_   -- t21 impl.go:163
      refine LW.nil ?_
      refine SX.cond rfl (fun hc => ?_) (fun hc => ?_)   -- t21
      · skip
        have he : cs[i]'hlt = [] := by simpa using hc
        refine SX.exit (xb_here ?_)
        refine SX.reg ?_
        refine pu rfl (pv_add rfl rfl (by omega)) ?_   -- t31 impl.go:162
        refine pu rfl pv_mv ?_   -- t15 impl.go:162
        refine LW.nil ?_
        exact ⟨i + 1, vt, ⟨rfl, rfl, rfl, rfl, rfl, rfl, trivial⟩, ⟨by omega, hx2, by rw [clText_skip cs i hlt he]; exact ho2⟩, by omega⟩
      · skip
        have he : ¬ cs[i]'hlt = [] := by simpa using hc
        refine SX.skip ?_
        refine SX.mid (G := Value) (fun vt => [(0, vb), (1, iv k), (7, vt), (9, S (cs[i]'hlt)), (13, vc), (14, iv cs.length), (15, iv i)]) (fun vt w' => Ext w w' ∧ Own w' w.heap.size tB vt (clText (cs.take i) ++ (if clText (cs.take i) = [] then [] else [32]))) ?_ ?_
        · skip
          refine SX.seq (SX.reg ?_)   -- region 8
          refine pu rfl pv_mv ?_   -- t22 impl.go:166
          refine pu rfl (pv_lenV (T := tB) Yabc.underlying83 ho2.rd rfl) ?_   -- t23 impl.go:166
          refine pu rfl (pv_gtr rfl rfl) ?_   -- t24 impl.go:166
          refine LW.nil ?_
          refine SX.cond rfl (fun hc => ?_) (fun hc => ?_)   -- t24
          · skip
            have hte : ¬ clText (cs.take i) = [] := by intro e; simp [e] at hc
            refine SX.reg ?_
            refine pu rfl pv_mv ?_   -- t25 impl.go:167
            refine push (T := tB) 32 sl83 okB (by decide) ho2 hx2.size rfl (fun _ => rfl) rfl rfl (by omega) (by unfold maxLen; omega) fun J1 v4 w4 ho4 hg4 => ?_   -- t26 impl.go:167
            refine pu rfl pv_as ?_   -- t7(text) impl.go:167
            refine LW.nil ?_
            exact ⟨v4, ⟨rfl, rfl, rfl, rfl, rfl, rfl, rfl, trivial⟩, hx2.step hg4.grown (fun g e => (ho2.lt g e).1), by rw [if_neg hte]; exact ho4⟩
          · skip
            have hte : clText (cs.take i) = [] := by simpa using hc
            refine SX.skip ?_
            exact ⟨vt, ⟨rfl, rfl, rfl, rfl, rfl, rfl, rfl, trivial⟩, hx2, by rw [if_pos hte]; simpa using ho2⟩
        rintro vt5 w5 ρ5 ⟨hx5, ho5⟩
        have hl5 : (clText (cs.take i) ++ (if clText (cs.take i) = [] then [] else [32])).length ≤ (clText (cs.take i)).length + 1 := by rw [List.length_append]; split <;> simp
        refine SX.reg ?_
        refine pu rfl pv_mv ?_   -- t28 impl.go:169
        refine pu rfl pv_mv ?_   -- t29 impl.go:169
        refine evd rfl (ev_appS (c := (cs[i]'hlt)) ho5 hx5.size rfl rfl (by omega) fun v6 w6 ho6 hg6 => ?_)   -- t30 impl.go:169
        refine pu rfl pv_as ?_   -- t7(text) impl.go:169
        refine LW.nil ?_
        refine SX.reg ?_
        refine pu rfl (pv_add rfl rfl (by omega)) ?_   -- t31 impl.go:162
        refine pu rfl pv_mv ?_   -- t15 impl.go:162
        refine LW.nil ?_
        exact ⟨i + 1, v6, ⟨rfl, rfl, rfl, rfl, rfl, rfl, trivial⟩, ⟨by omega, hx5.step hg6.grown (fun g e => (ho5.lt g e).1), by rw [clText_more cs i hlt he]; exact ho6⟩, by omega⟩
    · skip
      have hge : i = cs.length := by simp at hc; omega
      subst hge
      rw [List.take_length] at ho2 htl
      refine SX.exit (xb_here ?_)
      refine SX.seq (SX.reg ?_)   -- region 12
      refine pu rfl pv_mv ?_   -- t32 impl.go:171
      refine pu rfl pv_mv ?_   -- t33 impl.go:171
      refine pu rfl pv_mv ?_   -- t34 impl.go:171
      refine pu rfl (pv_str ho2.rd rfl) ?_   -- t35 impl.go:171
      refine pu rfl (pv_bd rfl (bd30 _ _ _)) ?_   -- t36 impl.go:171
      have hoK := ho.ext hx2   -- t37 impl.go:171
      refine push (T := tK) ⟨k, 0, clText cs⟩ sl27 okK (by decide) hoK (Nat.le_trans hB hx2.size) rfl (fun _ => rfl) rfl rfl (by omega) (by unfold maxLen; omega) fun J1 v7 w7 ho7 hg7 => ?_
      refine pu rfl pv_as ?_   -- t6 impl.go:171
      refine LW.nil ?_
      refine SX.ret ?_
      exact ⟨by rw [closeB, if_neg hk0]; exact ho7, gw_pre hx2 hg7⟩

theorem f89_ok (vb vc : Value) (out : List Tri) (k : Int) (cs : List Str) (B : Nat) (w : World) (ho : Own w B tK vb out) (hB : B ≤ w.heap.size) (hc0 : Rd w tS vc cs) (hs : out.length ≤ 1073741824) (ht : k ≠ 0 → ttl cs ≤ 1073741824 ∧ cs.length ≤ 1073741824) : Fn 89 [vb, iv k, vc] w (fun v w' => Own w' B tK v (closeB out k cs) ∧ Gw w w' vb v) := by
  refine Fn.mk1 (N := 37) Yabc.func89 rfl rfl rfl rfl ?_
  refine SX.seq (SX.reg ?_)   -- region 0
  refine pu rfl pv_as ?_   -- t6 spec.go:594
  refine LW.nil ?_
  refine SX.seq ?_
  refine SX.seq (SX.reg ?_)   -- region 1
  refine pu rfl pv_mv ?_   -- t9 spec.go:595
  refine pu rfl (pv_eql rfl rfl) ?_   -- t10 spec.go:595
  refine LW.nil ?_
  refine SX.cond rfl (fun hc => ?_) (fun hc => ?_)   -- t10
  · skip
    have hk0 : k = 0 := by simpa using hc
    refine SX.seq (SX.reg ?_)   -- region 2
    refine pu rfl pv_mv ?_   -- t11 spec.go:596
    refine pu rfl pv_as ?_   -- t6 spec.go:596
    refine LW.nil ?_
    refine SX.ret ?_
    exact ⟨by rw [closeB, if_pos hk0]; exact ho, Gw.refl w vb⟩
  · skip
    have hk0 : ¬ k = 0 := by simpa using hc
    obtain ⟨ht1, ht2⟩ := ht hk0
    refine SX.skip ?_
    refine SX.seq (SX.reg ?_)   -- region 3
    refine pu rfl pv_as ?_   -- t7(parts) spec.go:598
    refine LW.nil ?_
    refine SX.seq ?_
    refine SX.seq (SX.reg ?_)   -- region 4
    refine pu rfl pv_as ?_   -- t8(i) spec.go:599
    refine LW.nil ?_
    refine SX.block ?_
    refine SX.loop2 (fun (i : Nat) vt => [(0, vb), (1, iv k), (2, vc), (7, vt), (8, iv i)]) (fun i vt w' => i ≤ cs.length ∧ Ext w w' ∧ Own w' w.heap.size tS vt ((cs.take i).filter neB)) (fun i _ => cs.length - i) 0 (.slice none 0 0) ⟨rfl, rfl, rfl, rfl, rfl, trivial⟩ ⟨Nat.zero_le _, Ext.refl w, Own.nil _ _ _⟩ ?_
    rintro i vt w2 ρ1 ⟨hi, hx2, ho2⟩
    have htf := ttl_filter neB (cs.take i)
    have htk := ttl_le cs i
    have hlk := List.length_take_le i cs
    refine SX.seq ?_
    refine SX.seq (SX.reg ?_)   -- region 5
    refine pu rfl pv_mv ?_   -- t12 spec.go:599
    refine pu rfl pv_mv ?_   -- t13 spec.go:599
    refine pu rfl (pv_lenV (T := tS) Yabc.underlying32 (hc0.ext hx2) rfl) ?_   -- t14 spec.go:599
    refine pu rfl (pv_lss rfl rfl) ?_   -- t15 spec.go:599
    refine LW.nil ?_
    refine SX.cond rfl (fun hc => ?_) (fun hc => ?_)   -- t15
    · skip
      have hlt : i < cs.length := by simpa using hc
      have hfs := filter_step cs i hlt
      refine SX.skip ?_
      refine SX.seq ?_
      refine SX.block ?_
      refine SX.seq (SX.reg ?_)   -- region 7
      refine pu rfl pv_mv ?_   -- t18 spec.go:600
      refine pu rfl pv_mv ?_   -- t19 spec.go:600
      refine pu rfl (pv_ix (T := tS) (k := i) Yabc.underlying32 sz9 okS (hc0.ext hx2) rfl rfl (by omega) (by omega)) ?_   -- t20 spec.go:600
      refine pu rfl (pv_ld ag9 rfl ((hc0.ext hx2).cell0 okS (by omega) rfl)) ?_   -- t21 spec.go:600
      refine pu rfl (pv_neqS rfl rfl) ?_   -- t22 spec.go:600
      refine LW.nil ?_
      refine SX.cond rfl (fun hc => ?_) (fun hc => ?_)   -- t22
      · skip
        have he : neB (cs[i]'hlt) = true := by simpa [neB] using hc
        refine SX.reg ?_
        refine pu rfl pv_mv ?_   -- t23 spec.go:601
        refine pu rfl pv_mv ?_   -- t24 spec.go:601
        refine pu rfl pv_mv ?_   -- t25 spec.go:601
        refine pu rfl (pv_ix (T := tS) (k := i) Yabc.underlying32 sz9 okS (hc0.ext hx2) rfl rfl (by omega) (by omega)) ?_   -- t26 spec.go:601
        refine pu rfl (pv_ld ag9 rfl ((hc0.ext hx2).cell0 okS (by omega) rfl)) ?_   -- t27 spec.go:601
        refine push (T := tS) (cs[i]'hlt) sl32 okS (by decide) ho2 hx2.size rfl (fun _ => rfl) rfl rfl (by omega) (by unfold maxLen; omega) fun J1 v4 w4 ho4 hg4 => ?_   -- t28 spec.go:601
        refine pu rfl pv_as ?_   -- t7(parts) spec.go:601
        refine LW.nil ?_
        refine SX.reg ?_
        refine pu rfl pv_mv ?_   -- t16 spec.go:599
        refine pu rfl (pv_add rfl rfl (by omega)) ?_   -- t17 spec.go:599
        refine pu rfl pv_as ?_   -- t8(i) spec.go:599
        refine LW.nil ?_
        exact ⟨i + 1, v4, ⟨rfl, rfl, rfl, rfl, rfl, trivial⟩, ⟨by omega, hx2.step hg4.grown (fun g e => (ho2.lt g e).1), by rw [hfs, if_pos he]; exact ho4⟩, by omega⟩
      · skip
        have he : neB (cs[i]'hlt) = false := by simpa [neB] using hc
        refine SX.skip ?_
        refine SX.reg ?_
        refine pu rfl pv_mv ?_   -- t16 spec.go:599
        refine pu rfl (pv_add rfl rfl (by omega)) ?_   -- t17 spec.go:599
        refine pu rfl pv_as ?_   -- t8(i) spec.go:599
        refine LW.nil ?_
        exact ⟨i + 1, vt, ⟨rfl, rfl, rfl, rfl, rfl, trivial⟩, ⟨by omega, hx2, by rw [hfs, if_neg (by simp [he]), List.append_nil]; exact ho2⟩, by omega⟩
    · skip
      have hge : i = cs.length := by simp at hc; omega
      subst hge
      rw [List.take_length] at ho2 htf
      refine SX.exit (xb_here ?_)
      refine SX.seq (SX.reg ?_)   -- region 9
      refine pu rfl pv_mv ?_   -- t30 spec.go:604
      refine pu rfl pv_mv ?_   -- t31 spec.go:604
      refine pu rfl pv_mv ?_   -- t32 spec.go:604
      refine evd rfl (ev_call cb90 rfl (f90_ok vt (cs.filter neB) [32] w2 ho2.rd rfl (by omega) (by omega)) ?_)   -- t33 spec.go:604
      rintro _ w5 ⟨rfl, hx5⟩
      have hx25 := hx2.trans hx5
      refine pu rfl (pv_bd rfl (bd30 _ _ _)) ?_   -- t34 spec.go:604
      have hoK := ho.ext hx25   -- t35 spec.go:604
      refine push (T := tK) ⟨k, 0, clText cs⟩ sl27 okK (by decide) hoK (Nat.le_trans hB hx25.size) rfl (fun _ => rfl) rfl rfl (by omega) (by unfold maxLen; omega) fun J1 v7 w7 ho7 hg7 => ?_
      refine pu rfl pv_as ?_   -- t6 spec.go:604
      refine LW.nil ?_
      refine SX.ret ?_
      exact ⟨by rw [closeB, if_neg hk0]; exact ho7, gw_pre hx25 hg7⟩

end Go.Proofs.Ybuabw
