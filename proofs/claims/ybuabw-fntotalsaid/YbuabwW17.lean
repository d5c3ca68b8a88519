/-
  WALKS. Tokens of the decoders. Own work for the seat Ybuabw (the steps of each walk were typed by a program of ours off the printed code).
-/
import Derived.Test.YbuabwW16
import Derived.Test.YbuabwMem11
namespace Go.Proofs.Ybuabw
open Go.RowKit
set_option linter.unusedVariables false
set_option linter.unusedSimpArgs false
set_option maxRecDepth 20000

theorem f70_ok (d : Str) (w : World) : Fn 70 [S d] w (fun v w' => v = S (d.take 65536) ∧ w = w') := by
  refine Fn.mk1 (N := 9) Yabc.func70 rfl rfl rfl rfl ?_
  refine SX.seq (SX.reg ?_)   -- region 0
  refine pu rfl pv_as ?_   -- t2 spec.go:162
  refine LW.nil ?_
  refine SX.seq ?_
  refine SX.seq (SX.reg ?_)   -- region 1
  refine pu rfl pv_mv ?_   -- t3 spec.go:163
  refine pu rfl (pv_len_s rfl) ?_   -- t4 spec.go:163
  refine pu rfl (pv_gtr rfl rfl) ?_   -- t5 spec.go:163
  refine LW.nil ?_
  refine SX.cond rfl (fun hc => ?_) (fun hc => ?_)   -- t5
  · skip
    have hg : 65536 < d.length := by simp at hc; omega
    refine SX.seq (SX.reg ?_)   -- region 2
    refine pu rfl pv_mv ?_   -- t6 spec.go:164
    refine pu rfl (pv_cutTo (b := 65536) rfl rfl rfl (by omega)) ?_   -- t7 spec.go:164
    refine pu rfl pv_as ?_   -- t2 spec.go:164
    refine LW.nil ?_
    refine SX.ret ?_
    exact ⟨rfl, rfl⟩
  · skip
    have hg : d.length ≤ 65536 := by simp at hc; omega
    refine SX.skip ?_
    refine SX.seq (SX.reg ?_)   -- region 3
    refine pu rfl pv_mv ?_   -- t8 spec.go:166
    refine pu rfl pv_as ?_   -- t2 spec.go:166
    refine LW.nil ?_
    refine SX.ret ?_
    exact ⟨by rw [List.take_of_length_le hg]; rfl, rfl⟩

theorem f71_ok (x : UInt8) (w : World) : Fn 71 [bt x] w (fun v w' => (∃ t : Str, v = S t ∧ t.length ≤ 10) ∧ w = w') := by
  refine Fn.mk1 (N := 73) Yabc.func71 rfl rfl rfl rfl ?_
  have hm := rem_toNat x 40
  have hm2 : (x % 40).toNat < 40 := by rw [hm]; exact Nat.mod_lt _ (by decide)
  refine SX.seq (SX.reg ?_)   -- region 0
  refine pu rfl pv_as ?_   -- t2 spec.go:169
  refine LW.nil ?_
  refine SX.seq ?_
  refine SX.seq (SX.reg ?_)   -- region 1
  refine pu rfl pv_mv ?_   -- t4 spec.go:170
  refine pu rfl (pv_remB (b := 40) rfl rfl (by decide)) ?_   -- t5 spec.go:170
  refine LW.nil ?_
  refine SX.block ?_
  refine SX.mid (G := Bool) (fun g => [(0, bt x), (5, bt (x % 40)), (6, .bool g)]) (fun g w' => w = w' ∧ (g = false → (x % 40).toNat ≠ 0 ∧ (x % 40).toNat ≠ 1 ∧ (x % 40).toNat ≠ 2)) ?_ ?_
  · skip
    refine SX.seq (SX.reg ?_)
    refine pu rfl (pv_eqlBN (b := 0) (n := 0) rfl rfl rfl) ?_   -- t7 spec.go:171
    refine pu rfl pv_as ?_   -- t6 spec.go:171
    refine LW.nil ?_
    refine SX.cond rfl (fun hc => ?_) (fun hc => ?_)
    · skip
      refine SX.skip ?_
      exact ⟨true, ⟨rfl, rfl, congrArg Value.bool hc, trivial⟩, rfl, fun h => by cases h⟩
    · skip
      have hf0 := of_decide_eq_false hc
      refine SX.seq (SX.reg ?_)
      refine pu rfl (pv_eqlBN (b := 1) (n := 1) rfl rfl rfl) ?_   -- t8 spec.go:171
      refine pu rfl pv_as ?_   -- t6 spec.go:171
      refine LW.nil ?_
      refine SX.cond rfl (fun hc => ?_) (fun hc => ?_)
      · skip
        refine SX.skip ?_
        exact ⟨true, ⟨rfl, rfl, congrArg Value.bool hc, trivial⟩, rfl, fun h => by cases h⟩
      · skip
        have hf1 := of_decide_eq_false hc
        refine SX.reg ?_
        refine pu rfl (pv_eqlBN (b := 2) (n := 2) rfl rfl rfl) ?_   -- t9 spec.go:171
        refine pu rfl pv_as ?_   -- t6 spec.go:171
        refine LW.nil ?_
        exact ⟨_, ⟨rfl, rfl, rfl, trivial⟩, rfl, fun h => ⟨hf0, hf1, of_decide_eq_false h⟩⟩
  rintro g w1 ρ1 ⟨hw, hg⟩
  subst hw
  refine SX.cond rfl (fun hc => ?_) (fun hc => ?_)   -- t6
  · skip
    refine SX.seq (SX.reg ?_)   -- region 5
    refine pu rfl pv_as ?_   -- t2 spec.go:172
    refine LW.nil ?_
    refine SX.ret ?_
    exact ⟨⟨_, rfl, by first | decide | (simp only [List.length_take, List.length_drop, List.length_cons, List.length_nil]; omega)⟩, rfl⟩
  · skip
    first | (have hn := of_decide_eq_false hc) | (have hn := hg hc) | skip
    refine SX.seq (SX.reg ?_)   -- region 6
    refine pu rfl (pv_eqlBN (b := 3) (n := 3) rfl rfl rfl) ?_   -- t11 spec.go:173
    refine pu rfl pv_as ?_   -- t10 spec.go:173
    refine LW.nil ?_
    refine SX.cond rfl (fun hc => ?_) (fun hc => ?_)   -- t10
    · skip
      refine SX.seq (SX.reg ?_)   -- region 7
      refine pu rfl pv_as ?_   -- t2 spec.go:174
      refine LW.nil ?_
      refine SX.ret ?_
      exact ⟨⟨_, rfl, by first | decide | (simp only [List.length_take, List.length_drop, List.length_cons, List.length_nil]; omega)⟩, rfl⟩
    · skip
      first | (have hn := of_decide_eq_false hc) | (have hn := hg hc) | skip
      refine SX.mid (G := Bool) (fun g => [(0, bt x), (5, bt (x % 40)), (12, .bool g)]) (fun g w' => w = w' ∧ (g = false → (x % 40).toNat ≠ 4 ∧ (x % 40).toNat ≠ 5 ∧ (x % 40).toNat ≠ 6 ∧ (x % 40).toNat ≠ 7)) ?_ ?_
      · skip
        refine SX.seq (SX.reg ?_)
        refine pu rfl (pv_eqlBN (b := 4) (n := 4) rfl rfl rfl) ?_   -- t13 spec.go:175
        refine pu rfl pv_as ?_   -- t12 spec.go:175
        refine LW.nil ?_
        refine SX.cond rfl (fun hc => ?_) (fun hc => ?_)
        · skip
          refine SX.skip ?_
          exact ⟨true, ⟨rfl, rfl, congrArg Value.bool hc, trivial⟩, rfl, fun h => by cases h⟩
        · skip
          have hf0 := of_decide_eq_false hc
          refine SX.seq (SX.reg ?_)
          refine pu rfl (pv_eqlBN (b := 5) (n := 5) rfl rfl rfl) ?_   -- t14 spec.go:175
          refine pu rfl pv_as ?_   -- t12 spec.go:175
          refine LW.nil ?_
          refine SX.cond rfl (fun hc => ?_) (fun hc => ?_)
          · skip
            refine SX.skip ?_
            exact ⟨true, ⟨rfl, rfl, congrArg Value.bool hc, trivial⟩, rfl, fun h => by cases h⟩
          · skip
            have hf1 := of_decide_eq_false hc
            refine SX.seq (SX.reg ?_)
            refine pu rfl (pv_eqlBN (b := 6) (n := 6) rfl rfl rfl) ?_   -- t15 spec.go:175
            refine pu rfl pv_as ?_   -- t12 spec.go:175
            refine LW.nil ?_
            refine SX.cond rfl (fun hc => ?_) (fun hc => ?_)
            · skip
              refine SX.skip ?_
              exact ⟨true, ⟨rfl, rfl, congrArg Value.bool hc, trivial⟩, rfl, fun h => by cases h⟩
            · skip
              have hf2 := of_decide_eq_false hc
              refine SX.reg ?_
              refine pu rfl (pv_eqlBN (b := 7) (n := 7) rfl rfl rfl) ?_   -- t16 spec.go:175
              refine pu rfl pv_as ?_   -- t12 spec.go:175
              refine LW.nil ?_
              exact ⟨_, ⟨rfl, rfl, rfl, trivial⟩, rfl, fun h => ⟨hf0, hf1, hf2, of_decide_eq_false h⟩⟩
      rintro g w1 ρ1 ⟨hw, hg⟩
      subst hw
      refine SX.cond rfl (fun hc => ?_) (fun hc => ?_)   -- t12
      · skip
        refine SX.seq (SX.reg ?_)   -- region 12
        refine pu rfl pv_as ?_   -- t2 spec.go:176
        refine LW.nil ?_
        refine SX.ret ?_
        exact ⟨⟨_, rfl, by first | decide | (simp only [List.length_take, List.length_drop, List.length_cons, List.length_nil]; omega)⟩, rfl⟩
      · skip
        first | (have hn := of_decide_eq_false hc) | (have hn := hg hc) | skip
        refine SX.seq (SX.reg ?_)   -- region 13
        refine pu rfl (pv_eqlBN (b := 8) (n := 8) rfl rfl rfl) ?_   -- t18 spec.go:177
        refine pu rfl pv_as ?_   -- t17 spec.go:177
        refine LW.nil ?_
        refine SX.cond rfl (fun hc => ?_) (fun hc => ?_)   -- t17
        · skip
          refine SX.seq (SX.reg ?_)   -- region 14
          refine pu rfl pv_as ?_   -- t2 spec.go:178
          refine LW.nil ?_
          refine SX.ret ?_
          exact ⟨⟨_, rfl, by first | decide | (simp only [List.length_take, List.length_drop, List.length_cons, List.length_nil]; omega)⟩, rfl⟩
        · skip
          first | (have hn := of_decide_eq_false hc) | (have hn := hg hc) | skip
          refine SX.seq (SX.reg ?_)   -- region 15
          refine pu rfl (pv_eqlBN (b := 9) (n := 9) rfl rfl rfl) ?_   -- t20 spec.go:179
          refine pu rfl pv_as ?_   -- t19 spec.go:179
          refine LW.nil ?_
          refine SX.cond rfl (fun hc => ?_) (fun hc => ?_)   -- t19
          · skip
            refine SX.seq (SX.reg ?_)   -- region 16
            refine pu rfl pv_as ?_   -- t2 spec.go:180
            refine LW.nil ?_
            refine SX.ret ?_
            exact ⟨⟨_, rfl, by first | decide | (simp only [List.length_take, List.length_drop, List.length_cons, List.length_nil]; omega)⟩, rfl⟩
          · skip
            first | (have hn := of_decide_eq_false hc) | (have hn := hg hc) | skip
            refine SX.seq (SX.reg ?_)   -- region 17
            refine pu rfl (pv_eqlBN (b := 10) (n := 10) rfl rfl rfl) ?_   -- t22 spec.go:181
            refine pu rfl pv_as ?_   -- t21 spec.go:181
            refine LW.nil ?_
            refine SX.cond rfl (fun hc => ?_) (fun hc => ?_)   -- t21
            · skip
              refine SX.seq (SX.reg ?_)   -- region 18
              refine pu rfl pv_as ?_   -- t2 spec.go:182
              refine LW.nil ?_
              refine SX.ret ?_
              exact ⟨⟨_, rfl, by first | decide | (simp only [List.length_take, List.length_drop, List.length_cons, List.length_nil]; omega)⟩, rfl⟩
            · skip
              first | (have hn := of_decide_eq_false hc) | (have hn := hg hc) | skip
              refine SX.seq (SX.reg ?_)   -- region 19
              refine pu rfl (pv_eqlBN (b := 11) (n := 11) rfl rfl rfl) ?_   -- t24 spec.go:183
              refine pu rfl pv_as ?_   -- t23 spec.go:183
              refine LW.nil ?_
              refine SX.cond rfl (fun hc => ?_) (fun hc => ?_)   -- t23
              · skip
                refine SX.seq (SX.reg ?_)   -- region 20
                refine pu rfl pv_as ?_   -- t2 spec.go:184
                refine LW.nil ?_
                refine SX.ret ?_
                exact ⟨⟨_, rfl, by first | decide | (simp only [List.length_take, List.length_drop, List.length_cons, List.length_nil]; omega)⟩, rfl⟩
              · skip
                first | (have hn := of_decide_eq_false hc) | (have hn := hg hc) | skip
                refine SX.seq (SX.reg ?_)   -- region 21
                refine pu rfl (pv_eqlBN (b := 12) (n := 12) rfl rfl rfl) ?_   -- t26 spec.go:185
                refine pu rfl pv_as ?_   -- t25 spec.go:185
                refine LW.nil ?_
                refine SX.cond rfl (fun hc => ?_) (fun hc => ?_)   -- t25
                · skip
                  refine SX.seq (SX.reg ?_)   -- region 22
                  refine pu rfl pv_as ?_   -- t2 spec.go:186
                  refine LW.nil ?_
                  refine SX.ret ?_
                  exact ⟨⟨_, rfl, by first | decide | (simp only [List.length_take, List.length_drop, List.length_cons, List.length_nil]; omega)⟩, rfl⟩
                · skip
                  first | (have hn := of_decide_eq_false hc) | (have hn := hg hc) | skip
                  refine SX.seq (SX.reg ?_)   -- region 23
                  refine pu rfl (pv_eqlBN (b := 13) (n := 13) rfl rfl rfl) ?_   -- t28 spec.go:187
                  refine pu rfl pv_as ?_   -- t27 spec.go:187
                  refine LW.nil ?_
                  refine SX.cond rfl (fun hc => ?_) (fun hc => ?_)   -- t27
                  · skip
                    refine SX.seq (SX.reg ?_)   -- region 24
                    refine pu rfl pv_as ?_   -- t2 spec.go:188
                    refine LW.nil ?_
                    refine SX.ret ?_
                    exact ⟨⟨_, rfl, by first | decide | (simp only [List.length_take, List.length_drop, List.length_cons, List.length_nil]; omega)⟩, rfl⟩
                  · skip
                    first | (have hn := of_decide_eq_false hc) | (have hn := hg hc) | skip
                    refine SX.seq (SX.reg ?_)   -- region 25
                    refine pu rfl (pv_eqlBN (b := 14) (n := 14) rfl rfl rfl) ?_   -- t30 spec.go:189
                    refine pu rfl pv_as ?_   -- t29 spec.go:189
                    refine LW.nil ?_
                    refine SX.cond rfl (fun hc => ?_) (fun hc => ?_)   -- t29
                    · skip
                      refine SX.seq (SX.reg ?_)   -- region 26
                      refine pu rfl pv_as ?_   -- t2 spec.go:190
                      refine LW.nil ?_
                      refine SX.ret ?_
                      exact ⟨⟨_, rfl, by first | decide | (simp only [List.length_take, List.length_drop, List.length_cons, List.length_nil]; omega)⟩, rfl⟩
                    · skip
                      first | (have hn := of_decide_eq_false hc) | (have hn := hg hc) | skip
                      refine SX.seq (SX.reg ?_)   -- region 27
                      refine pu rfl (pv_eqlBN (b := 15) (n := 15) rfl rfl rfl) ?_   -- t32 spec.go:191
                      refine pu rfl pv_as ?_   -- t31 spec.go:191
                      refine LW.nil ?_
                      refine SX.cond rfl (fun hc => ?_) (fun hc => ?_)   -- t31
                      · skip
                        refine SX.seq (SX.reg ?_)   -- region 28
                        refine pu rfl pv_as ?_   -- t2 spec.go:192
                        refine LW.nil ?_
                        refine SX.ret ?_
                        exact ⟨⟨_, rfl, by first | decide | (simp only [List.length_take, List.length_drop, List.length_cons, List.length_nil]; omega)⟩, rfl⟩
                      · skip
                        first | (have hn := of_decide_eq_false hc) | (have hn := hg hc) | skip
                        refine SX.seq (SX.reg ?_)   -- region 29
                        refine pu rfl (pv_eqlBN (b := 16) (n := 16) rfl rfl rfl) ?_   -- t34 spec.go:193
                        refine pu rfl pv_as ?_   -- t33 spec.go:193
                        refine LW.nil ?_
                        refine SX.cond rfl (fun hc => ?_) (fun hc => ?_)   -- t33
                        · skip
                          refine SX.seq (SX.reg ?_)   -- region 30
                          refine pu rfl pv_as ?_   -- t2 spec.go:194
                          refine LW.nil ?_
                          refine SX.ret ?_
                          exact ⟨⟨_, rfl, by first | decide | (simp only [List.length_take, List.length_drop, List.length_cons, List.length_nil]; omega)⟩, rfl⟩
                        · skip
                          first | (have hn := of_decide_eq_false hc) | (have hn := hg hc) | skip
                          refine SX.seq (SX.reg ?_)   -- region 31
                          refine pu rfl (pv_eqlBN (b := 17) (n := 17) rfl rfl rfl) ?_   -- t36 spec.go:195
                          refine pu rfl pv_as ?_   -- t35 spec.go:195
                          refine LW.nil ?_
                          refine SX.cond rfl (fun hc => ?_) (fun hc => ?_)   -- t35
                          · skip
                            refine SX.seq (SX.reg ?_)   -- region 32
                            refine pu rfl pv_as ?_   -- t2 spec.go:196
                            refine LW.nil ?_
                            refine SX.ret ?_
                            exact ⟨⟨_, rfl, by first | decide | (simp only [List.length_take, List.length_drop, List.length_cons, List.length_nil]; omega)⟩, rfl⟩
                          · skip
                            first | (have hn := of_decide_eq_false hc) | (have hn := hg hc) | skip
                            refine SX.seq (SX.reg ?_)   -- region 33
                            refine pu rfl (pv_eqlBN (b := 18) (n := 18) rfl rfl rfl) ?_   -- t38 spec.go:197
                            refine pu rfl pv_as ?_   -- t37 spec.go:197
                            refine LW.nil ?_
                            refine SX.cond rfl (fun hc => ?_) (fun hc => ?_)   -- t37
                            · skip
                              refine SX.seq (SX.reg ?_)   -- region 34
                              refine pu rfl pv_as ?_   -- t2 spec.go:198
                              refine LW.nil ?_
                              refine SX.ret ?_
                              exact ⟨⟨_, rfl, by first | decide | (simp only [List.length_take, List.length_drop, List.length_cons, List.length_nil]; omega)⟩, rfl⟩
                            · skip
                              first | (have hn := of_decide_eq_false hc) | (have hn := hg hc) | skip
                              refine SX.seq (SX.reg ?_)   -- region 35
                              refine pu rfl (pv_eqlBN (b := 19) (n := 19) rfl rfl rfl) ?_   -- t40 spec.go:199
                              refine pu rfl pv_as ?_   -- t39 spec.go:199
                              refine LW.nil ?_
                              refine SX.cond rfl (fun hc => ?_) (fun hc => ?_)   -- t39
                              · skip
                                refine SX.seq (SX.reg ?_)   -- region 36
                                refine pu rfl pv_as ?_   -- t2 spec.go:200
                                refine LW.nil ?_
                                refine SX.ret ?_
                                exact ⟨⟨_, rfl, by first | decide | (simp only [List.length_take, List.length_drop, List.length_cons, List.length_nil]; omega)⟩, rfl⟩
                              · skip
                                first | (have hn := of_decide_eq_false hc) | (have hn := hg hc) | skip
                                refine SX.seq (SX.reg ?_)   -- region 37
                                refine pu rfl (pv_eqlBN (b := 20) (n := 20) rfl rfl rfl) ?_   -- t42 spec.go:201
                                refine pu rfl pv_as ?_   -- t41 spec.go:201
                                refine LW.nil ?_
                                refine SX.cond rfl (fun hc => ?_) (fun hc => ?_)   -- t41
                                · skip
                                  refine SX.seq (SX.reg ?_)   -- region 38
                                  refine pu rfl pv_as ?_   -- t2 spec.go:202
                                  refine LW.nil ?_
                                  refine SX.ret ?_
                                  exact ⟨⟨_, rfl, by first | decide | (simp only [List.length_take, List.length_drop, List.length_cons, List.length_nil]; omega)⟩, rfl⟩
                                · skip
                                  first | (have hn := of_decide_eq_false hc) | (have hn := hg hc) | skip
                                  refine SX.seq (SX.reg ?_)   -- region 39
                                  refine pu rfl (pv_eqlBN (b := 21) (n := 21) rfl rfl rfl) ?_   -- t44 spec.go:203
                                  refine pu rfl pv_as ?_   -- t43 spec.go:203
                                  refine LW.nil ?_
                                  refine SX.cond rfl (fun hc => ?_) (fun hc => ?_)   -- t43
                                  · skip
                                    refine SX.seq (SX.reg ?_)   -- region 40
                                    refine pu rfl pv_as ?_   -- t2 spec.go:204
                                    refine LW.nil ?_
                                    refine SX.ret ?_
                                    exact ⟨⟨_, rfl, by first | decide | (simp only [List.length_take, List.length_drop, List.length_cons, List.length_nil]; omega)⟩, rfl⟩
                                  · skip
                                    first | (have hn := of_decide_eq_false hc) | (have hn := hg hc) | skip
                                    refine SX.seq (SX.reg ?_)   -- region 41
                                    refine pu rfl (pv_eqlBN (b := 22) (n := 22) rfl rfl rfl) ?_   -- t46 spec.go:205
                                    refine pu rfl pv_as ?_   -- t45 spec.go:205
                                    refine LW.nil ?_
                                    refine SX.cond rfl (fun hc => ?_) (fun hc => ?_)   -- t45
                                    · skip
                                      refine SX.seq (SX.reg ?_)   -- region 42
                                      refine pu rfl pv_as ?_   -- t2 spec.go:206
                                      refine LW.nil ?_
                                      refine SX.ret ?_
                                      exact ⟨⟨_, rfl, by first | decide | (simp only [List.length_take, List.length_drop, List.length_cons, List.length_nil]; omega)⟩, rfl⟩
                                    · skip
                                      first | (have hn := of_decide_eq_false hc) | (have hn := hg hc) | skip
                                      refine SX.seq (SX.reg ?_)   -- region 43
                                      refine pu rfl (pv_eqlBN (b := 23) (n := 23) rfl rfl rfl) ?_   -- t48 spec.go:207
                                      refine pu rfl pv_as ?_   -- t47 spec.go:207
                                      refine LW.nil ?_
                                      refine SX.cond rfl (fun hc => ?_) (fun hc => ?_)   -- t47
                                      · skip
                                        refine SX.seq (SX.reg ?_)   -- region 44
                                        refine pu rfl pv_as ?_   -- t2 spec.go:208
                                        refine LW.nil ?_
                                        refine SX.ret ?_
                                        exact ⟨⟨_, rfl, by first | decide | (simp only [List.length_take, List.length_drop, List.length_cons, List.length_nil]; omega)⟩, rfl⟩
                                      · skip
                                        first | (have hn := of_decide_eq_false hc) | (have hn := hg hc) | skip
                                        refine SX.seq (SX.reg ?_)   -- region 45
                                        refine pu rfl (pv_eqlBN (b := 24) (n := 24) rfl rfl rfl) ?_   -- t50 spec.go:209
                                        refine pu rfl pv_as ?_   -- t49 spec.go:209
                                        refine LW.nil ?_
                                        refine SX.cond rfl (fun hc => ?_) (fun hc => ?_)   -- t49
                                        · skip
                                          refine SX.seq (SX.reg ?_)   -- region 46
                                          refine pu rfl pv_as ?_   -- t2 spec.go:210
                                          refine LW.nil ?_
                                          refine SX.ret ?_
                                          exact ⟨⟨_, rfl, by first | decide | (simp only [List.length_take, List.length_drop, List.length_cons, List.length_nil]; omega)⟩, rfl⟩
                                        · skip
                                          first | (have hn := of_decide_eq_false hc) | (have hn := hg hc) | skip
                                          refine SX.seq (SX.reg ?_)   -- region 47
                                          refine pu rfl (pv_eqlBN (b := 25) (n := 25) rfl rfl rfl) ?_   -- t52 spec.go:211
                                          refine pu rfl pv_as ?_   -- t51 spec.go:211
                                          refine LW.nil ?_
                                          refine SX.cond rfl (fun hc => ?_) (fun hc => ?_)   -- t51
                                          · skip
                                            refine SX.seq (SX.reg ?_)   -- region 48
                                            refine pu rfl pv_as ?_   -- t2 spec.go:212
                                            refine LW.nil ?_
                                            refine SX.ret ?_
                                            exact ⟨⟨_, rfl, by first | decide | (simp only [List.length_take, List.length_drop, List.length_cons, List.length_nil]; omega)⟩, rfl⟩
                                          · skip
                                            first | (have hn := of_decide_eq_false hc) | (have hn := hg hc) | skip
                                            refine SX.seq (SX.reg ?_)   -- region 49
                                            refine pu rfl (pv_eqlBN (b := 26) (n := 26) rfl rfl rfl) ?_   -- t54 spec.go:213
                                            refine pu rfl pv_as ?_   -- t53 spec.go:213
                                            refine LW.nil ?_
                                            refine SX.cond rfl (fun hc => ?_) (fun hc => ?_)   -- t53
                                            · skip
                                              refine SX.seq (SX.reg ?_)   -- region 50
                                              refine pu rfl pv_as ?_   -- t2 spec.go:214
                                              refine LW.nil ?_
                                              refine SX.ret ?_
                                              exact ⟨⟨_, rfl, by first | decide | (simp only [List.length_take, List.length_drop, List.length_cons, List.length_nil]; omega)⟩, rfl⟩
                                            · skip
                                              first | (have hn := of_decide_eq_false hc) | (have hn := hg hc) | skip
                                              refine SX.seq (SX.reg ?_)   -- region 51
                                              refine pu rfl (pv_eqlBN (b := 27) (n := 27) rfl rfl rfl) ?_   -- t56 spec.go:215
                                              refine pu rfl pv_as ?_   -- t55 spec.go:215
                                              refine LW.nil ?_
                                              refine SX.cond rfl (fun hc => ?_) (fun hc => ?_)   -- t55
                                              · skip
                                                refine SX.seq (SX.reg ?_)   -- region 52
                                                refine pu rfl pv_as ?_   -- t2 spec.go:216
                                                refine LW.nil ?_
                                                refine SX.ret ?_
                                                exact ⟨⟨_, rfl, by first | decide | (simp only [List.length_take, List.length_drop, List.length_cons, List.length_nil]; omega)⟩, rfl⟩
                                              · skip
                                                first | (have hn := of_decide_eq_false hc) | (have hn := hg hc) | skip
                                                refine SX.seq (SX.reg ?_)   -- region 53
                                                refine pu rfl (pv_eqlBN (b := 28) (n := 28) rfl rfl rfl) ?_   -- t58 spec.go:217
                                                refine pu rfl pv_as ?_   -- t57 spec.go:217
                                                refine LW.nil ?_
                                                refine SX.cond rfl (fun hc => ?_) (fun hc => ?_)   -- t57
                                                · skip
                                                  refine SX.seq (SX.reg ?_)   -- region 54
                                                  refine pu rfl pv_as ?_   -- t2 spec.go:218
                                                  refine LW.nil ?_
                                                  refine SX.ret ?_
                                                  exact ⟨⟨_, rfl, by first | decide | (simp only [List.length_take, List.length_drop, List.length_cons, List.length_nil]; omega)⟩, rfl⟩
                                                · skip
                                                  first | (have hn := of_decide_eq_false hc) | (have hn := hg hc) | skip
                                                  refine SX.seq (SX.reg ?_)   -- region 55
                                                  refine pu rfl (pv_eqlBN (b := 29) (n := 29) rfl rfl rfl) ?_   -- t60 spec.go:219
                                                  refine pu rfl pv_as ?_   -- t59 spec.go:219
                                                  refine LW.nil ?_
                                                  refine SX.cond rfl (fun hc => ?_) (fun hc => ?_)   -- t59
                                                  · skip
                                                    refine SX.seq (SX.reg ?_)   -- region 56
                                                    refine pu rfl pv_as ?_   -- t2 spec.go:220
                                                    refine LW.nil ?_
                                                    refine SX.ret ?_
                                                    exact ⟨⟨_, rfl, by first | decide | (simp only [List.length_take, List.length_drop, List.length_cons, List.length_nil]; omega)⟩, rfl⟩
                                                  · skip
                                                    first | (have hn := of_decide_eq_false hc) | (have hn := hg hc) | skip
                                                    refine SX.seq (SX.reg ?_)   -- region 57
                                                    refine pu rfl (pv_eqlBN (b := 30) (n := 30) rfl rfl rfl) ?_   -- t62 spec.go:221
                                                    refine pu rfl pv_as ?_   -- t61 spec.go:221
                                                    refine LW.nil ?_
                                                    refine SX.cond rfl (fun hc => ?_) (fun hc => ?_)   -- t61
                                                    · skip
                                                      refine SX.seq (SX.reg ?_)   -- region 58
                                                      refine pu rfl pv_as ?_   -- t2 spec.go:222
                                                      refine LW.nil ?_
                                                      refine SX.ret ?_
                                                      exact ⟨⟨_, rfl, by first | decide | (simp only [List.length_take, List.length_drop, List.length_cons, List.length_nil]; omega)⟩, rfl⟩
                                                    · skip
                                                      first | (have hn := of_decide_eq_false hc) | (have hn := hg hc) | skip
                                                      refine SX.seq (SX.reg ?_)   -- region 59
                                                      refine pu rfl (pv_eqlBN (b := 31) (n := 31) rfl rfl rfl) ?_   -- t64 spec.go:223
                                                      refine pu rfl pv_as ?_   -- t63 spec.go:223
                                                      refine LW.nil ?_
                                                      refine SX.cond rfl (fun hc => ?_) (fun hc => ?_)   -- t63
                                                      · skip
                                                        refine SX.seq (SX.reg ?_)   -- region 60
                                                        refine pu rfl pv_as ?_   -- t2 spec.go:224
                                                        refine LW.nil ?_
                                                        refine SX.ret ?_
                                                        exact ⟨⟨_, rfl, by first | decide | (simp only [List.length_take, List.length_drop, List.length_cons, List.length_nil]; omega)⟩, rfl⟩
                                                      · skip
                                                        first | (have hn := of_decide_eq_false hc) | (have hn := hg hc) | skip
                                                        refine SX.skip ?_
                                                        refine SX.seq (SX.reg ?_)   -- region 61
                                                        refine pu rfl pv_mv ?_   -- t65 spec.go:226
                                                        refine pu rfl (pv_remB (b := 40) rfl rfl (by decide)) ?_   -- t66 spec.go:226
                                                        refine pu rfl (pv_int rfl) ?_   -- t67 spec.go:226
                                                        refine pu rfl (pv_sub rfl rfl (by omega)) ?_   -- t68 spec.go:226
                                                        refine pu rfl pv_as ?_   -- t3 spec.go:226
                                                        refine LW.nil ?_
                                                        refine SX.seq (SX.reg ?_)   -- region 62
                                                        refine pu rfl pv_mv ?_   -- t69 spec.go:227
                                                        refine pu rfl pv_mv ?_   -- t70 spec.go:227
                                                        refine pu rfl (pv_add rfl rfl (by omega)) ?_   -- t71 spec.go:227
                                                        refine pu rfl (pv_cut (l := [97, 98, 99, 100, 101, 102, 103, 104]) (a := (x % 40).toNat - 32) (b := (x % 40).toNat - 32 + 1) rfl rfl rfl (by omega) (by omega) (by omega) (by simp only [List.length_cons, List.length_nil]; omega)) ?_   -- t72 spec.go:227
                                                        refine pu rfl pv_as ?_   -- t2 spec.go:227
                                                        refine LW.nil ?_
                                                        refine SX.ret ?_
                                                        exact ⟨⟨_, rfl, by first | decide | (simp only [List.length_take, List.length_drop, List.length_cons, List.length_nil]; omega)⟩, rfl⟩

theorem f72_ok (x : UInt8) (w : World) : Fn 72 [bt x] w (fun v w' => (∃ t : Str, v = S t ∧ t.length ≤ 10) ∧ w = w') := by
  refine Fn.mk1 (N := 46) Yabc.func72 rfl rfl rfl rfl ?_
  have hm := rem_toNat x 24
  have hm2 : (x % 24).toNat < 24 := by rw [hm]; exact Nat.mod_lt _ (by decide)
  refine SX.seq (SX.reg ?_)   -- region 0
  refine pu rfl pv_as ?_   -- t2 spec.go:251
  refine LW.nil ?_
  refine SX.seq ?_
  refine SX.seq (SX.reg ?_)   -- region 1
  refine pu rfl pv_mv ?_   -- t4 spec.go:252
  refine pu rfl (pv_remB (b := 24) rfl rfl (by decide)) ?_   -- t5 spec.go:252
  refine LW.nil ?_
  refine SX.block ?_
  refine SX.mid (G := Bool) (fun g => [(0, bt x), (5, bt (x % 24)), (6, .bool g)]) (fun g w' => w = w' ∧ (g = false → (x % 24).toNat ≠ 0 ∧ (x % 24).toNat ≠ 1 ∧ (x % 24).toNat ≠ 2)) ?_ ?_
  · skip
    refine SX.seq (SX.reg ?_)
    refine pu rfl (pv_eqlBN (b := 0) (n := 0) rfl rfl rfl) ?_   -- t7 spec.go:253
    refine pu rfl pv_as ?_   -- t6 spec.go:253
    refine LW.nil ?_
    refine SX.cond rfl (fun hc => ?_) (fun hc => ?_)
    · skip
      refine SX.skip ?_
      exact ⟨true, ⟨rfl, rfl, congrArg Value.bool hc, trivial⟩, rfl, fun h => by cases h⟩
    · skip
      have hf0 := of_decide_eq_false hc
      refine SX.seq (SX.reg ?_)
      refine pu rfl (pv_eqlBN (b := 1) (n := 1) rfl rfl rfl) ?_   -- t8 spec.go:253
      refine pu rfl pv_as ?_   -- t6 spec.go:253
      refine LW.nil ?_
      refine SX.cond rfl (fun hc => ?_) (fun hc => ?_)
      · skip
        refine SX.skip ?_
        exact ⟨true, ⟨rfl, rfl, congrArg Value.bool hc, trivial⟩, rfl, fun h => by cases h⟩
      · skip
        have hf1 := of_decide_eq_false hc
        refine SX.reg ?_
        refine pu rfl (pv_eqlBN (b := 2) (n := 2) rfl rfl rfl) ?_   -- t9 spec.go:253
        refine pu rfl pv_as ?_   -- t6 spec.go:253
        refine LW.nil ?_
        exact ⟨_, ⟨rfl, rfl, rfl, trivial⟩, rfl, fun h => ⟨hf0, hf1, of_decide_eq_false h⟩⟩
  rintro g w1 ρ1 ⟨hw, hg⟩
  subst hw
  refine SX.cond rfl (fun hc => ?_) (fun hc => ?_)   -- t6
  · skip
    refine SX.seq (SX.reg ?_)   -- region 5
    refine pu rfl pv_as ?_   -- t2 spec.go:254
    refine LW.nil ?_
    refine SX.ret ?_
    exact ⟨⟨_, rfl, by first | decide | (simp only [List.length_take, List.length_drop, List.length_cons, List.length_nil]; omega)⟩, rfl⟩
  · skip
    first | (have hn := of_decide_eq_false hc) | (have hn := hg hc) | skip
    refine SX.seq (SX.reg ?_)   -- region 6
    refine pu rfl (pv_eqlBN (b := 3) (n := 3) rfl rfl rfl) ?_   -- t11 spec.go:255
    refine pu rfl pv_as ?_   -- t10 spec.go:255
    refine LW.nil ?_
    refine SX.cond rfl (fun hc => ?_) (fun hc => ?_)   -- t10
    · skip
      refine SX.seq (SX.reg ?_)   -- region 7
      refine pu rfl pv_as ?_   -- t2 spec.go:256
      refine LW.nil ?_
      refine SX.ret ?_
      exact ⟨⟨_, rfl, by first | decide | (simp only [List.length_take, List.length_drop, List.length_cons, List.length_nil]; omega)⟩, rfl⟩
    · skip
      first | (have hn := of_decide_eq_false hc) | (have hn := hg hc) | skip
      refine SX.seq (SX.reg ?_)   -- region 8
      refine pu rfl (pv_eqlBN (b := 4) (n := 4) rfl rfl rfl) ?_   -- t13 spec.go:257
      refine pu rfl pv_as ?_   -- t12 spec.go:257
      refine LW.nil ?_
      refine SX.cond rfl (fun hc => ?_) (fun hc => ?_)   -- t12
      · skip
        refine SX.seq (SX.reg ?_)   -- region 9
        refine pu rfl pv_as ?_   -- t2 spec.go:258
        refine LW.nil ?_
        refine SX.ret ?_
        exact ⟨⟨_, rfl, by first | decide | (simp only [List.length_take, List.length_drop, List.length_cons, List.length_nil]; omega)⟩, rfl⟩
      · skip
        first | (have hn := of_decide_eq_false hc) | (have hn := hg hc) | skip
        refine SX.seq (SX.reg ?_)   -- region 10
        refine pu rfl (pv_eqlBN (b := 5) (n := 5) rfl rfl rfl) ?_   -- t15 spec.go:259
        refine pu rfl pv_as ?_   -- t14 spec.go:259
        refine LW.nil ?_
        refine SX.cond rfl (fun hc => ?_) (fun hc => ?_)   -- t14
        · skip
          refine SX.seq (SX.reg ?_)   -- region 11
          refine pu rfl pv_as ?_   -- t2 spec.go:260
          refine LW.nil ?_
          refine SX.ret ?_
          exact ⟨⟨_, rfl, by first | decide | (simp only [List.length_take, List.length_drop, List.length_cons, List.length_nil]; omega)⟩, rfl⟩
        · skip
          first | (have hn := of_decide_eq_false hc) | (have hn := hg hc) | skip
          refine SX.seq (SX.reg ?_)   -- region 12
          refine pu rfl (pv_eqlBN (b := 6) (n := 6) rfl rfl rfl) ?_   -- t17 spec.go:261
          refine pu rfl pv_as ?_   -- t16 spec.go:261
          refine LW.nil ?_
          refine SX.cond rfl (fun hc => ?_) (fun hc => ?_)   -- t16
          · skip
            refine SX.seq (SX.reg ?_)   -- region 13
            refine pu rfl pv_as ?_   -- t2 spec.go:262
            refine LW.nil ?_
            refine SX.ret ?_
            exact ⟨⟨_, rfl, by first | decide | (simp only [List.length_take, List.length_drop, List.length_cons, List.length_nil]; omega)⟩, rfl⟩
          · skip
            first | (have hn := of_decide_eq_false hc) | (have hn := hg hc) | skip
            refine SX.seq (SX.reg ?_)   -- region 14
            refine pu rfl (pv_eqlBN (b := 7) (n := 7) rfl rfl rfl) ?_   -- t19 spec.go:263
            refine pu rfl pv_as ?_   -- t18 spec.go:263
            refine LW.nil ?_
            refine SX.cond rfl (fun hc => ?_) (fun hc => ?_)   -- t18
            · skip
              refine SX.seq (SX.reg ?_)   -- region 15
              refine pu rfl pv_as ?_   -- t2 spec.go:264
              refine LW.nil ?_
              refine SX.ret ?_
              exact ⟨⟨_, rfl, by first | decide | (simp only [List.length_take, List.length_drop, List.length_cons, List.length_nil]; omega)⟩, rfl⟩
            · skip
              first | (have hn := of_decide_eq_false hc) | (have hn := hg hc) | skip
              refine SX.seq (SX.reg ?_)   -- region 16
              refine pu rfl (pv_eqlBN (b := 8) (n := 8) rfl rfl rfl) ?_   -- t21 spec.go:265
              refine pu rfl pv_as ?_   -- t20 spec.go:265
              refine LW.nil ?_
              refine SX.cond rfl (fun hc => ?_) (fun hc => ?_)   -- t20
              · skip
                refine SX.seq (SX.reg ?_)   -- region 17
                refine pu rfl pv_as ?_   -- t2 spec.go:266
                refine LW.nil ?_
                refine SX.ret ?_
                exact ⟨⟨_, rfl, by first | decide | (simp only [List.length_take, List.length_drop, List.length_cons, List.length_nil]; omega)⟩, rfl⟩
              · skip
                first | (have hn := of_decide_eq_false hc) | (have hn := hg hc) | skip
                refine SX.seq (SX.reg ?_)   -- region 18
                refine pu rfl (pv_eqlBN (b := 9) (n := 9) rfl rfl rfl) ?_   -- t23 spec.go:267
                refine pu rfl pv_as ?_   -- t22 spec.go:267
                refine LW.nil ?_
                refine SX.cond rfl (fun hc => ?_) (fun hc => ?_)   -- t22
                · skip
                  refine SX.seq (SX.reg ?_)   -- region 19
                  refine pu rfl pv_as ?_   -- t2 spec.go:268
                  refine LW.nil ?_
                  refine SX.ret ?_
                  exact ⟨⟨_, rfl, by first | decide | (simp only [List.length_take, List.length_drop, List.length_cons, List.length_nil]; omega)⟩, rfl⟩
                · skip
                  first | (have hn := of_decide_eq_false hc) | (have hn := hg hc) | skip
                  refine SX.seq (SX.reg ?_)   -- region 20
                  refine pu rfl (pv_eqlBN (b := 10) (n := 10) rfl rfl rfl) ?_   -- t25 spec.go:269
                  refine pu rfl pv_as ?_   -- t24 spec.go:269
                  refine LW.nil ?_
                  refine SX.cond rfl (fun hc => ?_) (fun hc => ?_)   -- t24
                  · skip
                    refine SX.seq (SX.reg ?_)   -- region 21
                    refine pu rfl pv_as ?_   -- t2 spec.go:270
                    refine LW.nil ?_
                    refine SX.ret ?_
                    exact ⟨⟨_, rfl, by first | decide | (simp only [List.length_take, List.length_drop, List.length_cons, List.length_nil]; omega)⟩, rfl⟩
                  · skip
                    first | (have hn := of_decide_eq_false hc) | (have hn := hg hc) | skip
                    refine SX.seq (SX.reg ?_)   -- region 22
                    refine pu rfl (pv_eqlBN (b := 11) (n := 11) rfl rfl rfl) ?_   -- t27 spec.go:271
                    refine pu rfl pv_as ?_   -- t26 spec.go:271
                    refine LW.nil ?_
                    refine SX.cond rfl (fun hc => ?_) (fun hc => ?_)   -- t26
                    · skip
                      refine SX.seq (SX.reg ?_)   -- region 23
                      refine pu rfl pv_as ?_   -- t2 spec.go:272
                      refine LW.nil ?_
                      refine SX.ret ?_
                      exact ⟨⟨_, rfl, by first | decide | (simp only [List.length_take, List.length_drop, List.length_cons, List.length_nil]; omega)⟩, rfl⟩
                    · skip
                      first | (have hn := of_decide_eq_false hc) | (have hn := hg hc) | skip
                      refine SX.seq (SX.reg ?_)   -- region 24
                      refine pu rfl (pv_eqlBN (b := 12) (n := 12) rfl rfl rfl) ?_   -- t29 spec.go:273
                      refine pu rfl pv_as ?_   -- t28 spec.go:273
                      refine LW.nil ?_
                      refine SX.cond rfl (fun hc => ?_) (fun hc => ?_)   -- t28
                      · skip
                        refine SX.seq (SX.reg ?_)   -- region 25
                        refine pu rfl pv_as ?_   -- t2 spec.go:274
                        refine LW.nil ?_
                        refine SX.ret ?_
                        exact ⟨⟨_, rfl, by first | decide | (simp only [List.length_take, List.length_drop, List.length_cons, List.length_nil]; omega)⟩, rfl⟩
                      · skip
                        first | (have hn := of_decide_eq_false hc) | (have hn := hg hc) | skip
                        refine SX.seq (SX.reg ?_)   -- region 26
                        refine pu rfl (pv_eqlBN (b := 13) (n := 13) rfl rfl rfl) ?_   -- t31 spec.go:275
                        refine pu rfl pv_as ?_   -- t30 spec.go:275
                        refine LW.nil ?_
                        refine SX.cond rfl (fun hc => ?_) (fun hc => ?_)   -- t30
                        · skip
                          refine SX.seq (SX.reg ?_)   -- region 27
                          refine pu rfl pv_as ?_   -- t2 spec.go:276
                          refine LW.nil ?_
                          refine SX.ret ?_
                          exact ⟨⟨_, rfl, by first | decide | (simp only [List.length_take, List.length_drop, List.length_cons, List.length_nil]; omega)⟩, rfl⟩
                        · skip
                          first | (have hn := of_decide_eq_false hc) | (have hn := hg hc) | skip
                          refine SX.seq (SX.reg ?_)   -- region 28
                          refine pu rfl (pv_eqlBN (b := 14) (n := 14) rfl rfl rfl) ?_   -- t33 spec.go:277
                          refine pu rfl pv_as ?_   -- t32 spec.go:277
                          refine LW.nil ?_
                          refine SX.cond rfl (fun hc => ?_) (fun hc => ?_)   -- t32
                          · skip
                            refine SX.seq (SX.reg ?_)   -- region 29
                            refine pu rfl pv_as ?_   -- t2 spec.go:278
                            refine LW.nil ?_
                            refine SX.ret ?_
                            exact ⟨⟨_, rfl, by first | decide | (simp only [List.length_take, List.length_drop, List.length_cons, List.length_nil]; omega)⟩, rfl⟩
                          · skip
                            first | (have hn := of_decide_eq_false hc) | (have hn := hg hc) | skip
                            refine SX.seq (SX.reg ?_)   -- region 30
                            refine pu rfl (pv_eqlBN (b := 15) (n := 15) rfl rfl rfl) ?_   -- t35 spec.go:279
                            refine pu rfl pv_as ?_   -- t34 spec.go:279
                            refine LW.nil ?_
                            refine SX.cond rfl (fun hc => ?_) (fun hc => ?_)   -- t34
                            · skip
                              refine SX.seq (SX.reg ?_)   -- region 31
                              refine pu rfl pv_as ?_   -- t2 spec.go:280
                              refine LW.nil ?_
                              refine SX.ret ?_
                              exact ⟨⟨_, rfl, by first | decide | (simp only [List.length_take, List.length_drop, List.length_cons, List.length_nil]; omega)⟩, rfl⟩
                            · skip
                              first | (have hn := of_decide_eq_false hc) | (have hn := hg hc) | skip
                              refine SX.seq (SX.reg ?_)   -- region 32
                              refine pu rfl (pv_eqlBN (b := 16) (n := 16) rfl rfl rfl) ?_   -- t37 spec.go:281
                              refine pu rfl pv_as ?_   -- t36 spec.go:281
                              refine LW.nil ?_
                              refine SX.cond rfl (fun hc => ?_) (fun hc => ?_)   -- t36
                              · skip
                                refine SX.seq (SX.reg ?_)   -- region 33
                                refine pu rfl pv_as ?_   -- t2 spec.go:282
                                refine LW.nil ?_
                                refine SX.ret ?_
                                exact ⟨⟨_, rfl, by first | decide | (simp only [List.length_take, List.length_drop, List.length_cons, List.length_nil]; omega)⟩, rfl⟩
                              · skip
                                first | (have hn := of_decide_eq_false hc) | (have hn := hg hc) | skip
                                refine SX.skip ?_
                                refine SX.seq (SX.reg ?_)   -- region 34
                                refine pu rfl pv_mv ?_   -- t38 spec.go:284
                                refine pu rfl (pv_remB (b := 24) rfl rfl (by decide)) ?_   -- t39 spec.go:284
                                refine pu rfl (pv_int rfl) ?_   -- t40 spec.go:284
                                refine pu rfl (pv_sub rfl rfl (by omega)) ?_   -- t41 spec.go:284
                                refine pu rfl pv_as ?_   -- t3(k) spec.go:284
                                refine LW.nil ?_
                                refine SX.seq (SX.reg ?_)   -- region 35
                                refine pu rfl pv_mv ?_   -- t42 spec.go:285
                                refine pu rfl pv_mv ?_   -- t43 spec.go:285
                                refine pu rfl (pv_add rfl rfl (by omega)) ?_   -- t44 spec.go:285
                                refine pu rfl (pv_cut (l := [97, 98, 99, 100, 101, 102, 103]) (a := (x % 24).toNat - 17) (b := (x % 24).toNat - 17 + 1) rfl rfl rfl (by omega) (by omega) (by omega) (by simp only [List.length_cons, List.length_nil]; omega)) ?_   -- t45 spec.go:285
                                refine pu rfl pv_as ?_   -- t2 spec.go:285
                                refine LW.nil ?_
                                refine SX.ret ?_
                                exact ⟨⟨_, rfl, by first | decide | (simp only [List.length_take, List.length_drop, List.length_cons, List.length_nil]; omega)⟩, rfl⟩

theorem f73_ok (x : UInt8) (w : World) : Fn 73 [bt x] w (fun v w' => (∃ c : UInt8, v = bt c) ∧ w = w') := by
  refine Fn.mk1 (N := 28) Yabc.func73 rfl rfl rfl rfl ?_
  have hm := rem_toNat x 16
  have hm2 : (x % 16).toNat < 16 := by rw [hm]; exact Nat.mod_lt _ (by decide)
  refine SX.seq (SX.reg ?_)   -- region 0
  refine pu rfl pv_as ?_   -- t2 spec.go:303
  refine LW.nil ?_
  refine SX.seq ?_
  refine SX.seq (SX.reg ?_)   -- region 1
  refine pu rfl pv_mv ?_   -- t3 spec.go:304
  refine pu rfl (pv_geqB (b := 240) rfl rfl) ?_   -- t4 spec.go:304
  refine LW.nil ?_
  refine SX.cond rfl (fun hc => ?_) (fun hc => ?_)   -- t4
  · skip
    refine SX.seq (SX.reg ?_)   -- region 2
    refine pu rfl pv_mv ?_   -- t5 spec.go:305
    refine pu rfl pv_as ?_   -- t2 spec.go:305
    refine LW.nil ?_
    refine SX.ret ?_
    exact ⟨⟨x, rfl⟩, rfl⟩
  · skip
    first | (have hn := of_decide_eq_false hc) | (have hn := hg hc) | skip
    refine SX.skip ?_
    refine SX.seq ?_
    refine SX.seq (SX.reg ?_)   -- region 3
    refine pu rfl pv_mv ?_   -- t6 spec.go:307
    refine pu rfl (pv_remB (b := 16) rfl rfl (by decide)) ?_   -- t7 spec.go:307
    refine LW.nil ?_
    refine SX.block ?_
    refine SX.seq (SX.reg ?_)   -- region 4
    refine pu rfl (pv_eqlBN (b := 0) (n := 0) rfl rfl rfl) ?_   -- t9 spec.go:308
    refine pu rfl pv_as ?_   -- t8 spec.go:308
    refine LW.nil ?_
    refine SX.cond rfl (fun hc => ?_) (fun hc => ?_)   -- t8
    · skip
      refine SX.seq (SX.reg ?_)   -- region 5
      refine pu rfl pv_as ?_   -- t2 spec.go:309
      refine LW.nil ?_
      refine SX.ret ?_
      exact ⟨⟨32, rfl⟩, rfl⟩
    · skip
      first | (have hn := of_decide_eq_false hc) | (have hn := hg hc) | skip
      refine SX.seq (SX.reg ?_)   -- region 6
      refine pu rfl (pv_eqlBN (b := 1) (n := 1) rfl rfl rfl) ?_   -- t11 spec.go:310
      refine pu rfl pv_as ?_   -- t10 spec.go:310
      refine LW.nil ?_
      refine SX.cond rfl (fun hc => ?_) (fun hc => ?_)   -- t10
      · skip
        refine SX.seq (SX.reg ?_)   -- region 7
        refine pu rfl pv_as ?_   -- t2 spec.go:311
        refine LW.nil ?_
        refine SX.ret ?_
        exact ⟨⟨42, rfl⟩, rfl⟩
      · skip
        first | (have hn := of_decide_eq_false hc) | (have hn := hg hc) | skip
        refine SX.seq (SX.reg ?_)   -- region 8
        refine pu rfl (pv_eqlBN (b := 2) (n := 2) rfl rfl rfl) ?_   -- t13 spec.go:312
        refine pu rfl pv_as ?_   -- t12 spec.go:312
        refine LW.nil ?_
        refine SX.cond rfl (fun hc => ?_) (fun hc => ?_)   -- t12
        · skip
          refine SX.seq (SX.reg ?_)   -- region 9
          refine pu rfl pv_as ?_   -- t2 spec.go:313
          refine LW.nil ?_
          refine SX.ret ?_
          exact ⟨⟨96, rfl⟩, rfl⟩
        · skip
          first | (have hn := of_decide_eq_false hc) | (have hn := hg hc) | skip
          refine SX.seq (SX.reg ?_)   -- region 10
          refine pu rfl (pv_eqlBN (b := 3) (n := 3) rfl rfl rfl) ?_   -- t15 spec.go:314
          refine pu rfl pv_as ?_   -- t14 spec.go:314
          refine LW.nil ?_
          refine SX.cond rfl (fun hc => ?_) (fun hc => ?_)   -- t14
          · skip
            refine SX.seq (SX.reg ?_)   -- region 11
            refine pu rfl pv_as ?_   -- t2 spec.go:315
            refine LW.nil ?_
            refine SX.ret ?_
            exact ⟨⟨92, rfl⟩, rfl⟩
          · skip
            first | (have hn := of_decide_eq_false hc) | (have hn := hg hc) | skip
            refine SX.seq (SX.reg ?_)   -- region 12
            refine pu rfl (pv_eqlBN (b := 4) (n := 4) rfl rfl rfl) ?_   -- t17 spec.go:316
            refine pu rfl pv_as ?_   -- t16 spec.go:316
            refine LW.nil ?_
            refine SX.cond rfl (fun hc => ?_) (fun hc => ?_)   -- t16
            · skip
              refine SX.seq (SX.reg ?_)   -- region 13
              refine pu rfl pv_as ?_   -- t2 spec.go:317
              refine LW.nil ?_
              refine SX.ret ?_
              exact ⟨⟨9, rfl⟩, rfl⟩
            · skip
              first | (have hn := of_decide_eq_false hc) | (have hn := hg hc) | skip
              refine SX.seq (SX.reg ?_)   -- region 14
              refine pu rfl (pv_eqlBN (b := 5) (n := 5) rfl rfl rfl) ?_   -- t19 spec.go:318
              refine pu rfl pv_as ?_   -- t18 spec.go:318
              refine LW.nil ?_
              refine SX.cond rfl (fun hc => ?_) (fun hc => ?_)   -- t18
              · skip
                refine SX.seq (SX.reg ?_)   -- region 15
                refine pu rfl pv_as ?_   -- t2 spec.go:319
                refine LW.nil ?_
                refine SX.ret ?_
                exact ⟨⟨65, rfl⟩, rfl⟩
              · skip
                first | (have hn := of_decide_eq_false hc) | (have hn := hg hc) | skip
                refine SX.seq (SX.reg ?_)   -- region 16
                refine pu rfl (pv_eqlBN (b := 6) (n := 6) rfl rfl rfl) ?_   -- t21 spec.go:320
                refine pu rfl pv_as ?_   -- t20 spec.go:320
                refine LW.nil ?_
                refine SX.cond rfl (fun hc => ?_) (fun hc => ?_)   -- t20
                · skip
                  refine SX.seq (SX.reg ?_)   -- region 17
                  refine pu rfl pv_as ?_   -- t2 spec.go:321
                  refine LW.nil ?_
                  refine SX.ret ?_
                  exact ⟨⟨90, rfl⟩, rfl⟩
                · skip
                  first | (have hn := of_decide_eq_false hc) | (have hn := hg hc) | skip
                  refine SX.seq (SX.reg ?_)   -- region 18
                  refine pu rfl (pv_eqlBN (b := 7) (n := 7) rfl rfl rfl) ?_   -- t23 spec.go:322
                  refine pu rfl pv_as ?_   -- t22 spec.go:322
                  refine LW.nil ?_
                  refine SX.cond rfl (fun hc => ?_) (fun hc => ?_)   -- t22
                  · skip
                    refine SX.seq (SX.reg ?_)   -- region 19
                    refine pu rfl pv_as ?_   -- t2 spec.go:323
                    refine LW.nil ?_
                    refine SX.ret ?_
                    exact ⟨⟨10, rfl⟩, rfl⟩
                  · skip
                    first | (have hn := of_decide_eq_false hc) | (have hn := hg hc) | skip
                    refine SX.skip ?_
                    refine SX.seq (SX.reg ?_)   -- region 20
                    refine pu rfl pv_mv ?_   -- t24 spec.go:325
                    refine pu rfl (pv_remB (b := 16) rfl rfl (by decide)) ?_   -- t25 spec.go:325
                    refine pu rfl (pv_addB (a := 97) rfl rfl (by show 97 + (x % 16).toNat ≤ 255; omega)) ?_   -- t26 spec.go:325
                    refine pu rfl (pv_subB (b := 8) rfl rfl (by rw [UInt8.le_iff_toNat_le, UInt8.toNat_add]; show 8 ≤ (97 + (x % 16).toNat) % 256; omega)) ?_   -- t27 spec.go:325
                    refine pu rfl pv_as ?_   -- t2 spec.go:325
                    refine LW.nil ?_
                    refine SX.ret ?_
                    exact ⟨⟨_, rfl⟩, rfl⟩

theorem f74_ok (x : UInt8) (w : World) : Fn 74 [bt x] w (fun v w' => (∃ n : Int, v = iv n) ∧ w = w') := by
  refine Fn.mk1 (N := 20) Yabc.func74 rfl rfl rfl rfl ?_
  have hx := u8_lt x
  refine SX.seq (SX.reg ?_)   -- region 0
  refine pu rfl pv_as ?_   -- t2 spec.go:328
  refine LW.nil ?_
  refine SX.seq ?_
  refine SX.seq (SX.reg ?_)   -- region 1
  refine pu rfl pv_mv ?_   -- t3 spec.go:329
  refine pu rfl (pv_remB (b := 10) rfl rfl (by decide)) ?_   -- t4 spec.go:329
  refine LW.nil ?_
  refine SX.block ?_
  refine SX.mid (G := Bool) (fun g => [(0, bt x), (4, bt (x % 10)), (5, .bool g)]) (fun g w' => w = w' ∧ (g = false → (x % 10).toNat ≠ 0 ∧ (x % 10).toNat ≠ 1 ∧ (x % 10).toNat ≠ 2 ∧ (x % 10).toNat ≠ 3 ∧ (x % 10).toNat ≠ 4)) ?_ ?_
  · skip
    refine SX.seq (SX.reg ?_)
    refine pu rfl (pv_eqlBN (b := 0) (n := 0) rfl rfl rfl) ?_   -- t6 spec.go:330
    refine pu rfl pv_as ?_   -- t5 spec.go:330
    refine LW.nil ?_
    refine SX.cond rfl (fun hc => ?_) (fun hc => ?_)
    · skip
      refine SX.skip ?_
      exact ⟨true, ⟨rfl, rfl, congrArg Value.bool hc, trivial⟩, rfl, fun h => by cases h⟩
    · skip
      have hf0 := of_decide_eq_false hc
      refine SX.seq (SX.reg ?_)
      refine pu rfl (pv_eqlBN (b := 1) (n := 1) rfl rfl rfl) ?_   -- t7 spec.go:330
      refine pu rfl pv_as ?_   -- t5 spec.go:330
      refine LW.nil ?_
      refine SX.cond rfl (fun hc => ?_) (fun hc => ?_)
      · skip
        refine SX.skip ?_
        exact ⟨true, ⟨rfl, rfl, congrArg Value.bool hc, trivial⟩, rfl, fun h => by cases h⟩
      · skip
        have hf1 := of_decide_eq_false hc
        refine SX.seq (SX.reg ?_)
        refine pu rfl (pv_eqlBN (b := 2) (n := 2) rfl rfl rfl) ?_   -- t8 spec.go:330
        refine pu rfl pv_as ?_   -- t5 spec.go:330
        refine LW.nil ?_
        refine SX.cond rfl (fun hc => ?_) (fun hc => ?_)
        · skip
          refine SX.skip ?_
          exact ⟨true, ⟨rfl, rfl, congrArg Value.bool hc, trivial⟩, rfl, fun h => by cases h⟩
        · skip
          have hf2 := of_decide_eq_false hc
          refine SX.seq (SX.reg ?_)
          refine pu rfl (pv_eqlBN (b := 3) (n := 3) rfl rfl rfl) ?_   -- t9 spec.go:330
          refine pu rfl pv_as ?_   -- t5 spec.go:330
          refine LW.nil ?_
          refine SX.cond rfl (fun hc => ?_) (fun hc => ?_)
          · skip
            refine SX.skip ?_
            exact ⟨true, ⟨rfl, rfl, congrArg Value.bool hc, trivial⟩, rfl, fun h => by cases h⟩
          · skip
            have hf3 := of_decide_eq_false hc
            refine SX.reg ?_
            refine pu rfl (pv_eqlBN (b := 4) (n := 4) rfl rfl rfl) ?_   -- t10 spec.go:330
            refine pu rfl pv_as ?_   -- t5 spec.go:330
            refine LW.nil ?_
            exact ⟨_, ⟨rfl, rfl, rfl, trivial⟩, rfl, fun h => ⟨hf0, hf1, hf2, hf3, of_decide_eq_false h⟩⟩
  rintro g w1 ρ1 ⟨hw, hg⟩
  subst hw
  refine SX.cond rfl (fun hc => ?_) (fun hc => ?_)   -- t5
  · skip
    refine SX.seq (SX.reg ?_)   -- region 7
    refine pu rfl pv_as ?_   -- t2 spec.go:331
    refine LW.nil ?_
    refine SX.ret ?_
    exact ⟨⟨_, rfl⟩, rfl⟩
  · skip
    first | (have hn := of_decide_eq_false hc) | (have hn := hg hc) | skip
    refine SX.mid (G := Bool) (fun g => [(0, bt x), (4, bt (x % 10)), (11, .bool g)]) (fun g w' => w = w' ∧ (g = false → (x % 10).toNat ≠ 5 ∧ (x % 10).toNat ≠ 6)) ?_ ?_
    · skip
      refine SX.seq (SX.reg ?_)
      refine pu rfl (pv_eqlBN (b := 5) (n := 5) rfl rfl rfl) ?_   -- t12 spec.go:332
      refine pu rfl pv_as ?_   -- t11 spec.go:332
      refine LW.nil ?_
      refine SX.cond rfl (fun hc => ?_) (fun hc => ?_)
      · skip
        refine SX.skip ?_
        exact ⟨true, ⟨rfl, rfl, congrArg Value.bool hc, trivial⟩, rfl, fun h => by cases h⟩
      · skip
        have hf0 := of_decide_eq_false hc
        refine SX.reg ?_
        refine pu rfl (pv_eqlBN (b := 6) (n := 6) rfl rfl rfl) ?_   -- t13 spec.go:332
        refine pu rfl pv_as ?_   -- t11 spec.go:332
        refine LW.nil ?_
        exact ⟨_, ⟨rfl, rfl, rfl, trivial⟩, rfl, fun h => ⟨hf0, of_decide_eq_false h⟩⟩
    rintro g w1 ρ1 ⟨hw, hg⟩
    subst hw
    refine SX.cond rfl (fun hc => ?_) (fun hc => ?_)   -- t11
    · skip
      refine SX.seq (SX.reg ?_)   -- region 10
      refine pu rfl pv_as ?_   -- t2 spec.go:333
      refine LW.nil ?_
      refine SX.ret ?_
      exact ⟨⟨_, rfl⟩, rfl⟩
    · skip
      first | (have hn := of_decide_eq_false hc) | (have hn := hg hc) | skip
      refine SX.mid (G := Bool) (fun g => [(0, bt x), (4, bt (x % 10)), (14, .bool g)]) (fun g w' => w = w' ∧ (g = false → (x % 10).toNat ≠ 7 ∧ (x % 10).toNat ≠ 8)) ?_ ?_
      · skip
        refine SX.seq (SX.reg ?_)
        refine pu rfl (pv_eqlBN (b := 7) (n := 7) rfl rfl rfl) ?_   -- t15 spec.go:334
        refine pu rfl pv_as ?_   -- t14 spec.go:334
        refine LW.nil ?_
        refine SX.cond rfl (fun hc => ?_) (fun hc => ?_)
        · skip
          refine SX.skip ?_
          exact ⟨true, ⟨rfl, rfl, congrArg Value.bool hc, trivial⟩, rfl, fun h => by cases h⟩
        · skip
          have hf0 := of_decide_eq_false hc
          refine SX.reg ?_
          refine pu rfl (pv_eqlBN (b := 8) (n := 8) rfl rfl rfl) ?_   -- t16 spec.go:334
          refine pu rfl pv_as ?_   -- t14 spec.go:334
          refine LW.nil ?_
          exact ⟨_, ⟨rfl, rfl, rfl, trivial⟩, rfl, fun h => ⟨hf0, of_decide_eq_false h⟩⟩
      rintro g w1 ρ1 ⟨hw, hg⟩
      subst hw
      refine SX.cond rfl (fun hc => ?_) (fun hc => ?_)   -- t14
      · skip
        refine SX.seq (SX.reg ?_)   -- region 13
        refine pu rfl pv_as ?_   -- t2 spec.go:335
        refine LW.nil ?_
        refine SX.ret ?_
        exact ⟨⟨_, rfl⟩, rfl⟩
      · skip
        first | (have hn := of_decide_eq_false hc) | (have hn := hg hc) | skip
        refine SX.skip ?_
        refine SX.seq ?_
        refine SX.seq (SX.reg ?_)   -- region 14
        refine pu rfl pv_mv ?_   -- t17 spec.go:337
        refine pu rfl (pv_remB (b := 20) rfl rfl (by decide)) ?_   -- t18 spec.go:337
        refine pu rfl (pv_eqlBN (b := 9) (n := 9) rfl rfl rfl) ?_   -- t19 spec.go:337
        refine LW.nil ?_
        refine SX.cond rfl (fun hc => ?_) (fun hc => ?_)   -- t19
        · skip
          refine SX.seq (SX.reg ?_)   -- region 15
          refine pu rfl pv_as ?_   -- t2 spec.go:338
          refine LW.nil ?_
          refine SX.ret ?_
          exact ⟨⟨_, rfl⟩, rfl⟩
        · skip
          first | (have hn := of_decide_eq_false hc) | (have hn := hg hc) | skip
          refine SX.skip ?_
          refine SX.seq (SX.reg ?_)   -- region 16
          refine pu rfl pv_as ?_   -- t2 spec.go:340
          refine LW.nil ?_
          refine SX.ret ?_
          exact ⟨⟨_, rfl⟩, rfl⟩

theorem f75_ok (x : UInt8) (w : World) : Fn 75 [bt x] w (fun v w' => (∃ n : Int, v = iv n) ∧ w = w') := by
  refine Fn.mk1 (N := 15) Yabc.func75 rfl rfl rfl rfl ?_
  have hx := u8_lt x
  refine SX.seq (SX.reg ?_)   -- region 0
  refine pu rfl pv_as ?_   -- t2 spec.go:343
  refine LW.nil ?_
  refine SX.seq ?_
  refine SX.seq (SX.reg ?_)   -- region 1
  refine pu rfl pv_mv ?_   -- t3 spec.go:344
  refine pu rfl (pv_quoB (b := 10) rfl rfl (by decide)) ?_   -- t4 spec.go:344
  refine pu rfl (pv_remB (b := 4) rfl rfl (by decide)) ?_   -- t5 spec.go:344
  refine LW.nil ?_
  refine SX.block ?_
  refine SX.seq (SX.reg ?_)   -- region 2
  refine pu rfl (pv_eqlBN (b := 0) (n := 0) rfl rfl rfl) ?_   -- t7 spec.go:345
  refine pu rfl pv_as ?_   -- t6 spec.go:345
  refine LW.nil ?_
  refine SX.cond rfl (fun hc => ?_) (fun hc => ?_)   -- t6
  · skip
    refine SX.seq (SX.reg ?_)   -- region 3
    refine pu rfl pv_as ?_   -- t2 spec.go:346
    refine LW.nil ?_
    refine SX.ret ?_
    exact ⟨⟨_, rfl⟩, rfl⟩
  · skip
    first | (have hn := of_decide_eq_false hc) | (have hn := hg hc) | skip
    refine SX.seq (SX.reg ?_)   -- region 4
    refine pu rfl (pv_eqlBN (b := 1) (n := 1) rfl rfl rfl) ?_   -- t9 spec.go:347
    refine pu rfl pv_as ?_   -- t8 spec.go:347
    refine LW.nil ?_
    refine SX.cond rfl (fun hc => ?_) (fun hc => ?_)   -- t8
    · skip
      refine SX.seq (SX.reg ?_)   -- region 5
      refine pu rfl pv_as ?_   -- t2 spec.go:348
      refine LW.nil ?_
      refine SX.ret ?_
      exact ⟨⟨_, rfl⟩, rfl⟩
    · skip
      first | (have hn := of_decide_eq_false hc) | (have hn := hg hc) | skip
      refine SX.seq (SX.reg ?_)   -- region 6
      refine pu rfl (pv_eqlBN (b := 2) (n := 2) rfl rfl rfl) ?_   -- t11 spec.go:349
      refine pu rfl pv_as ?_   -- t10 spec.go:349
      refine LW.nil ?_
      refine SX.cond rfl (fun hc => ?_) (fun hc => ?_)   -- t10
      · skip
        refine SX.seq (SX.reg ?_)   -- region 7
        refine pu rfl pv_as ?_   -- t2 spec.go:350
        refine LW.nil ?_
        refine SX.ret ?_
        exact ⟨⟨_, rfl⟩, rfl⟩
      · skip
        first | (have hn := of_decide_eq_false hc) | (have hn := hg hc) | skip
        refine SX.skip ?_
        refine SX.seq (SX.reg ?_)   -- region 8
        refine pu rfl pv_mv ?_   -- t12 spec.go:352
        refine pu rfl (pv_int rfl) ?_   -- t13 spec.go:352
        refine pu rfl (pv_sub rfl rfl (by omega)) ?_   -- t14 spec.go:352
        refine pu rfl pv_as ?_   -- t2 spec.go:352
        refine LW.nil ?_
        refine SX.ret ?_
        exact ⟨⟨_, rfl⟩, rfl⟩

theorem f76_ok (x : UInt8) (w : World) : Fn 76 [bt x] w (fun v w' => (∃ n : Int, v = iv n) ∧ w = w') := by
  refine Fn.mk1 (N := 15) Yabc.func76 rfl rfl rfl rfl ?_
  have hx := u8_lt x
  refine SX.seq (SX.reg ?_)   -- region 0
  refine pu rfl pv_as ?_   -- t2 spec.go:380
  refine LW.nil ?_
  refine SX.seq ?_
  refine SX.seq (SX.reg ?_)   -- region 1
  refine pu rfl pv_mv ?_   -- t3 spec.go:381
  refine pu rfl (pv_remB (b := 7) rfl rfl (by decide)) ?_   -- t4 spec.go:381
  refine LW.nil ?_
  refine SX.block ?_
  refine SX.mid (G := Bool) (fun g => [(0, bt x), (4, bt (x % 7)), (5, .bool g)]) (fun g w' => w = w' ∧ (g = false → (x % 7).toNat ≠ 0 ∧ (x % 7).toNat ≠ 1)) ?_ ?_
  · skip
    refine SX.seq (SX.reg ?_)
    refine pu rfl (pv_eqlBN (b := 0) (n := 0) rfl rfl rfl) ?_   -- t6 spec.go:382
    refine pu rfl pv_as ?_   -- t5 spec.go:382
    refine LW.nil ?_
    refine SX.cond rfl (fun hc => ?_) (fun hc => ?_)
    · skip
      refine SX.skip ?_
      exact ⟨true, ⟨rfl, rfl, congrArg Value.bool hc, trivial⟩, rfl, fun h => by cases h⟩
    · skip
      have hf0 := of_decide_eq_false hc
      refine SX.reg ?_
      refine pu rfl (pv_eqlBN (b := 1) (n := 1) rfl rfl rfl) ?_   -- t7 spec.go:382
      refine pu rfl pv_as ?_   -- t5 spec.go:382
      refine LW.nil ?_
      exact ⟨_, ⟨rfl, rfl, rfl, trivial⟩, rfl, fun h => ⟨hf0, of_decide_eq_false h⟩⟩
  rintro g w1 ρ1 ⟨hw, hg⟩
  subst hw
  refine SX.cond rfl (fun hc => ?_) (fun hc => ?_)   -- t5
  · skip
    refine SX.seq (SX.reg ?_)   -- region 4
    refine pu rfl pv_as ?_   -- t2 spec.go:383
    refine LW.nil ?_
    refine SX.ret ?_
    exact ⟨⟨_, rfl⟩, rfl⟩
  · skip
    first | (have hn := of_decide_eq_false hc) | (have hn := hg hc) | skip
    refine SX.seq (SX.reg ?_)   -- region 5
    refine pu rfl (pv_eqlBN (b := 2) (n := 2) rfl rfl rfl) ?_   -- t9 spec.go:384
    refine pu rfl pv_as ?_   -- t8 spec.go:384
    refine LW.nil ?_
    refine SX.cond rfl (fun hc => ?_) (fun hc => ?_)   -- t8
    · skip
      refine SX.seq (SX.reg ?_)   -- region 6
      refine pu rfl pv_as ?_   -- t2 spec.go:385
      refine LW.nil ?_
      refine SX.ret ?_
      exact ⟨⟨_, rfl⟩, rfl⟩
    · skip
      first | (have hn := of_decide_eq_false hc) | (have hn := hg hc) | skip
      refine SX.mid (G := Bool) (fun g => [(0, bt x), (4, bt (x % 7)), (10, .bool g)]) (fun g w' => w = w' ∧ (g = false → (x % 7).toNat ≠ 3 ∧ (x % 7).toNat ≠ 4)) ?_ ?_
      · skip
        refine SX.seq (SX.reg ?_)
        refine pu rfl (pv_eqlBN (b := 3) (n := 3) rfl rfl rfl) ?_   -- t11 spec.go:386
        refine pu rfl pv_as ?_   -- t10 spec.go:386
        refine LW.nil ?_
        refine SX.cond rfl (fun hc => ?_) (fun hc => ?_)
        · skip
          refine SX.skip ?_
          exact ⟨true, ⟨rfl, rfl, congrArg Value.bool hc, trivial⟩, rfl, fun h => by cases h⟩
        · skip
          have hf0 := of_decide_eq_false hc
          refine SX.reg ?_
          refine pu rfl (pv_eqlBN (b := 4) (n := 4) rfl rfl rfl) ?_   -- t12 spec.go:386
          refine pu rfl pv_as ?_   -- t10 spec.go:386
          refine LW.nil ?_
          exact ⟨_, ⟨rfl, rfl, rfl, trivial⟩, rfl, fun h => ⟨hf0, of_decide_eq_false h⟩⟩
      rintro g w1 ρ1 ⟨hw, hg⟩
      subst hw
      refine SX.cond rfl (fun hc => ?_) (fun hc => ?_)   -- t10
      · skip
        refine SX.seq (SX.reg ?_)   -- region 9
        refine pu rfl pv_as ?_   -- t2 spec.go:387
        refine LW.nil ?_
        refine SX.ret ?_
        exact ⟨⟨_, rfl⟩, rfl⟩
      · skip
        first | (have hn := of_decide_eq_false hc) | (have hn := hg hc) | skip
        refine SX.seq (SX.reg ?_)   -- region 10
        refine pu rfl (pv_eqlBN (b := 5) (n := 5) rfl rfl rfl) ?_   -- t14 spec.go:388
        refine pu rfl pv_as ?_   -- t13 spec.go:388
        refine LW.nil ?_
        refine SX.cond rfl (fun hc => ?_) (fun hc => ?_)   -- t13
        · skip
          refine SX.seq (SX.reg ?_)   -- region 11
          refine pu rfl pv_as ?_   -- t2 spec.go:389
          refine LW.nil ?_
          refine SX.ret ?_
          exact ⟨⟨_, rfl⟩, rfl⟩
        · skip
          first | (have hn := of_decide_eq_false hc) | (have hn := hg hc) | skip
          refine SX.skip ?_
          refine SX.seq (SX.reg ?_)   -- region 12
          refine pu rfl pv_as ?_   -- t2 spec.go:391
          refine LW.nil ?_
          refine SX.ret ?_
          exact ⟨⟨_, rfl⟩, rfl⟩

theorem f77_ok (x : UInt8) (w : World) : Fn 77 [bt x] w (fun v w' => (∃ n : Int, v = iv n) ∧ w = w') := by
  refine Fn.mk1 (N := 12) Yabc.func77 rfl rfl rfl rfl ?_
  have hx := u8_lt x
  refine SX.seq (SX.reg ?_)   -- region 0
  refine pu rfl pv_as ?_   -- t2 spec.go:394
  refine LW.nil ?_
  refine SX.seq ?_
  refine SX.seq (SX.reg ?_)   -- region 1
  refine pu rfl pv_mv ?_   -- t3 spec.go:395
  refine pu rfl (pv_quoB (b := 7) rfl rfl (by decide)) ?_   -- t4 spec.go:395
  refine pu rfl (pv_remB (b := 4) rfl rfl (by decide)) ?_   -- t5 spec.go:395
  refine LW.nil ?_
  refine SX.block ?_
  refine SX.seq (SX.reg ?_)   -- region 2
  refine pu rfl (pv_eqlBN (b := 0) (n := 0) rfl rfl rfl) ?_   -- t7 spec.go:396
  refine pu rfl pv_as ?_   -- t6 spec.go:396
  refine LW.nil ?_
  refine SX.cond rfl (fun hc => ?_) (fun hc => ?_)   -- t6
  · skip
    refine SX.seq (SX.reg ?_)   -- region 3
    refine pu rfl pv_as ?_   -- t2 spec.go:397
    refine LW.nil ?_
    refine SX.ret ?_
    exact ⟨⟨_, rfl⟩, rfl⟩
  · skip
    first | (have hn := of_decide_eq_false hc) | (have hn := hg hc) | skip
    refine SX.seq (SX.reg ?_)   -- region 4
    refine pu rfl (pv_eqlBN (b := 1) (n := 1) rfl rfl rfl) ?_   -- t9 spec.go:398
    refine pu rfl pv_as ?_   -- t8 spec.go:398
    refine LW.nil ?_
    refine SX.cond rfl (fun hc => ?_) (fun hc => ?_)   -- t8
    · skip
      refine SX.seq (SX.reg ?_)   -- region 5
      refine pu rfl pv_as ?_   -- t2 spec.go:399
      refine LW.nil ?_
      refine SX.ret ?_
      exact ⟨⟨_, rfl⟩, rfl⟩
    · skip
      first | (have hn := of_decide_eq_false hc) | (have hn := hg hc) | skip
      refine SX.seq (SX.reg ?_)   -- region 6
      refine pu rfl (pv_eqlBN (b := 2) (n := 2) rfl rfl rfl) ?_   -- t11 spec.go:400
      refine pu rfl pv_as ?_   -- t10 spec.go:400
      refine LW.nil ?_
      refine SX.cond rfl (fun hc => ?_) (fun hc => ?_)   -- t10
      · skip
        refine SX.seq (SX.reg ?_)   -- region 7
        refine pu rfl pv_as ?_   -- t2 spec.go:401
        refine LW.nil ?_
        refine SX.ret ?_
        exact ⟨⟨_, rfl⟩, rfl⟩
      · skip
        first | (have hn := of_decide_eq_false hc) | (have hn := hg hc) | skip
        refine SX.skip ?_
        refine SX.seq (SX.reg ?_)   -- region 8
        refine pu rfl pv_as ?_   -- t2 spec.go:403
        refine LW.nil ?_
        refine SX.ret ?_
        exact ⟨⟨_, rfl⟩, rfl⟩

theorem f78_ok (x : UInt8) (w : World) : Fn 78 [bt x] w (fun v w' => (∃ n : Int, v = iv n) ∧ w = w') := by
  refine Fn.mk1 (N := 10) Yabc.func78 rfl rfl rfl rfl ?_
  have hx := u8_lt x
  refine SX.seq (SX.reg ?_)   -- region 0
  refine pu rfl pv_as ?_   -- t2 spec.go:406
  refine LW.nil ?_
  refine SX.seq ?_
  refine SX.seq (SX.reg ?_)   -- region 1
  refine pu rfl pv_mv ?_   -- t3 spec.go:407
  refine pu rfl (pv_quoB (b := 28) rfl rfl (by decide)) ?_   -- t4 spec.go:407
  refine pu rfl (pv_remB (b := 3) rfl rfl (by decide)) ?_   -- t5 spec.go:407
  refine LW.nil ?_
  refine SX.block ?_
  refine SX.seq (SX.reg ?_)   -- region 2
  refine pu rfl (pv_eqlBN (b := 0) (n := 0) rfl rfl rfl) ?_   -- t7 spec.go:408
  refine pu rfl pv_as ?_   -- t6 spec.go:408
  refine LW.nil ?_
  refine SX.cond rfl (fun hc => ?_) (fun hc => ?_)   -- t6
  · skip
    refine SX.seq (SX.reg ?_)   -- region 3
    refine pu rfl pv_as ?_   -- t2 spec.go:409
    refine LW.nil ?_
    refine SX.ret ?_
    exact ⟨⟨_, rfl⟩, rfl⟩
  · skip
    first | (have hn := of_decide_eq_false hc) | (have hn := hg hc) | skip
    refine SX.seq (SX.reg ?_)   -- region 4
    refine pu rfl (pv_eqlBN (b := 1) (n := 1) rfl rfl rfl) ?_   -- t9 spec.go:410
    refine pu rfl pv_as ?_   -- t8 spec.go:410
    refine LW.nil ?_
    refine SX.cond rfl (fun hc => ?_) (fun hc => ?_)   -- t8
    · skip
      refine SX.seq (SX.reg ?_)   -- region 5
      refine pu rfl pv_as ?_   -- t2 spec.go:411
      refine LW.nil ?_
      refine SX.ret ?_
      exact ⟨⟨_, rfl⟩, rfl⟩
    · skip
      first | (have hn := of_decide_eq_false hc) | (have hn := hg hc) | skip
      refine SX.skip ?_
      refine SX.seq (SX.reg ?_)   -- region 6
      refine pu rfl pv_as ?_   -- t2 spec.go:413
      refine LW.nil ?_
      refine SX.ret ?_
      exact ⟨⟨_, rfl⟩, rfl⟩

end Go.Proofs.Ybuabw
