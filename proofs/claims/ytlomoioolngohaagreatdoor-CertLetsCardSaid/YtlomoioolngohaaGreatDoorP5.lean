/- Texts Upoint, Uscalar, Usha, Usign, Hcert, Hlib, Hcert2, Hcert3, Hcert4, Hcert5, Plaw14, Hback, Hlets, Clib, Cder of this proof; printed names are shortened. -/
import Derived.Test.YtlomoioolngohaaGreatDoorP4
import Derived.Test.YtlomoioolngohaaGreatDoorP3
import Derived.KernelRfl
import Derived.Test.YtlomoioolngohaaGreatDoorP2
set_option linter.unusedVariables false
set_option linter.unusedSimpArgs false
set_option maxRecDepth 100000
set_option maxHeartbeats 2000000
namespace Go.Ev
theorem Z81 : T_1 (fun R k0 => Z5z R  k0) (fun z0 => ((z0).length = 5)) := by
  refine T_1.of ?_
  delta Z5z Z115
  refine Tot.lett (fun v1 e_v1 => ?_)
  refine T_1.bind (Z4r 1) (fun r2 q1 => ?_)
  replace q1 : (r2).length = 5 := q1
  exact Tot.ret _
theorem Zmy : T_1 (fun R k0 => Z1f R  k0) (fun z0 => ((z0).length = 5)) := by
  refine T_1.of ?_
  delta Z1f Zu8
  refine Tot.lett (fun v1 e_v1 => ?_)
  refine T_1.bind (Z4r (-121665)) (fun r2 q1 => ?_)
  replace q1 : (r2).length = 5 := q1
  refine T_1.bind (Z4r 121666) (fun r3 q2 => ?_)
  replace q2 : (r3).length = 5 := q2
  refine T_1.bind (Zf2 r3) (fun r4 q3 => ?_)
  replace q3 : (r4).length = 5 := q3
  refine T_1.bind (Z5 r2 r4) (fun r5 q4 => ?_)
  replace q4 : (r5).length = 5 := q4
  exact Tot.ret _
theorem Zrt (a1 a2 a3 a4 : List Int) (h_ : autoParam (((a1).length = 5) ∧ ((a2).length = 5) ∧ ((a3).length = 5) ∧ ((a4).length = 5)) sA._auto_1) : T_4 (fun R k0 => Z72 R a1 a2 a3 a4 k0) (fun z0 z1 z2 z3 => ((z0).length = 5) ∧ ((z1).length = 5) ∧ ((z2).length = 5) ∧ ((z3).length = 5)) := by
  obtain ⟨h_0, h_1, h_2, h_3⟩ := h_
  refine T_4.of ?_
  delta Z72 Zzs
  refine Tot.lett (fun v5 e_v5 => ?_)
  refine Tot.lett (fun v6 e_v6 => ?_)
  refine Tot.lett (fun v7 e_v7 => ?_)
  refine Tot.lett (fun v8 e_v8 => ?_)
  refine T_1.bind (Z81) (fun r9 q1 => ?_)
  replace q1 : (r9).length = 5 := q1
  refine T_1.bind (Z1y a2 r9) (fun r10 q2 => ?_)
  replace q2 : (r10).length = 5 := q2
  refine T_1.bind (Z81) (fun r11 q3 => ?_)
  replace q3 : (r11).length = 5 := q3
  refine T_1.bind (Z1y a3 r11) (fun r12 q4 => ?_)
  replace q4 : (r12).length = 5 := q4
  exact Tot.ret _
theorem Z15j (x44 : Bool) (x45 x46 x47 x48 x49 x50 : List Int) (i_ : ((x45).length = 5) ∧ ((x46).length = 5) ∧ ((x47).length = 5) ∧ ((x48).length = 5) ∧ ((x49).length = 5) ∧ ((x50).length = 5)) : T_6 (fun R k0 => Zrj Zep Z21 Z4 Z5z Zw Z1f Z30 Z23 Z57 Z72 R x44 x45 x46 x47 x48 x49 x50 k0) (fun z0 z1 z2 z3 z4 z5 => ((z0).length = 5) ∧ ((z1).length = 5) ∧ ((z2).length = 5) ∧ ((z3).length = 5) ∧ ((z4).length = 5) ∧ ((z5).length = 5)) := by
  obtain ⟨i_0, i_1, i_2, i_3, i_4, i_5⟩ := i_
  refine T_6.of ?_
  delta Zrj
  refine Tot.br (fun h1 => ?_) (fun h1 => ?_)
  · first | simp (disch := omega) only [ts, *] at h1 | skip
    all_goals
      refine T_1.bind (Z1y (List.replicate 5 (0 : Int)) x50) (fun r51 q2 => ?_)
      replace q2 : (r51).length = 5 := q2
      exact Tot.ret _
  · first | simp (disch := omega) only [ts, *] at h1 | skip
    all_goals
      exact Tot.ret _
theorem Z10o (x44 : Bool) (x45 x46 x47 x48 x49 x50 : List Int) (i_ : autoParam (((x45).length = 5) ∧ ((x46).length = 5) ∧ ((x47).length = 5) ∧ ((x48).length = 5) ∧ ((x49).length = 5) ∧ ((x50).length = 5)) sA._auto_1) : T_6 (fun R k0 => Z112 Zep Z21 Z4 Z5z Zw Z1f Z30 Z23 Z57 Z72 R x44 x45 x46 x47 x48 x49 x50 k0) (fun z0 z1 z2 z3 z4 z5 => ((z0).length = 5) ∧ ((z1).length = 5) ∧ ((z2).length = 5) ∧ ((z3).length = 5) ∧ ((z4).length = 5) ∧ ((z5).length = 5)) := by
  exact T_6.congr (fun R k0 => by kernel_rfl) (Z15j x44 x45 x46 x47 x48 x49 x50 i_)
theorem Z14u (a1 : Str) : T_5 (fun R k0 => Zle R a1 k0) (fun z0 z1 z2 z3 z4 => ((z0).length = 5) ∧ ((z1).length = 5) ∧ ((z2).length = 5) ∧ ((z3).length = 5) ∧ ((z4) = 0 → ((a1)).length = 32)) := by
  refine T_5.of ?_
  delta Zle Z145
  refine Tot.lett (fun v2 e_v2 => ?_)
  refine Tot.lett (fun v3 e_v3 => ?_)
  refine Tot.lett (fun v4 e_v4 => ?_)
  refine Tot.lett (fun v5 e_v5 => ?_)
  refine Tot.lett (fun v6 e_v6 => ?_)
  refine Tot.br (fun h1 => ?_) (fun h1 => ?_)
  · first | simp (disch := omega) only [ts, *] at h1 | skip
    all_goals
      refine Tot.lett (fun v7 e_v7 => ?_)
      refine Tot.lett (fun v8 e_v8 => ?_)
      refine Tot.lett (fun v9 e_v9 => ?_)
      refine Tot.lett (fun v10 e_v10 => ?_)
      exact Tot.ret _
  · first | simp (disch := omega) only [ts, *] at h1 | skip
    all_goals
      refine Tot.gd ?_
      refine Tot.lett (fun v11 e_v11 => ?_)
      refine Tot.gd ?_
      refine Tot.lett (fun v12 e_v12 => ?_)
      refine Tot.gd ?_
      refine Tot.lett (fun v13 e_v13 => ?_)
      refine T_2.bind (Z1b9 v13) (fun r14 r15 q2 => ?_)
      replace q2 : (r14).length = 5 := q2
      refine Tot.lett (fun v16 e_v16 => ?_)
      refine T_1.bind (Zcq r14) (fun r17 q3 => ?_)
      replace q3 : ((r17)).length = 32 := q3
      refine Tot.br (fun h4 => ?_) (fun h4 => ?_)
      · first | simp (disch := omega) only [ts, *] at h4 | skip
        all_goals
          refine Tot.lett (fun v18 e_v18 => ?_)
          refine Tot.lett (fun v19 e_v19 => ?_)
          refine Tot.lett (fun v20 e_v20 => ?_)
          refine Tot.lett (fun v21 e_v21 => ?_)
          exact Tot.ret _
      · first | simp (disch := omega) only [ts, *] at h4 | skip
        all_goals
          refine T_1.bind (Z5 r14 r14) (fun r22 q5 => ?_)
          replace q5 : (r22).length = 5 := q5
          refine Tot.lett (fun v23 e_v23 => ?_)
          refine Tot.lett (fun v24 e_v24 => ?_)
          refine T_1.bind (Z81) (fun r25 q6 => ?_)
          replace q6 : (r25).length = 5 := q6
          refine T_1.bind (Z1y r22 r25) (fun r26 q7 => ?_)
          replace q7 : (r26).length = 5 := q7
          refine T_1.bind (Zmy) (fun r27 q8 => ?_)
          replace q8 : (r27).length = 5 := q8
          refine T_1.bind (Z5 r27 r22) (fun r28 q9 => ?_)
          replace q9 : (r28).length = 5 := q9
          refine T_1.bind (Z81) (fun r29 q10 => ?_)
          replace q10 : (r29).length = 5 := q10
          refine T_1.bind (Z4e r28 r29) (fun r30 q11 => ?_)
          replace q11 : (r30).length = 5 := q11
          refine T_1.bind (Zf2 r30) (fun r31 q12 => ?_)
          replace q12 : (r31).length = 5 := q12
          refine T_1.bind (Z5 r26 r31) (fun r32 q13 => ?_)
          replace q13 : (r32).length = 5 := q13
          refine T_2.bind (Z153 r32) (fun r33 r34 q14 => ?_)
          replace q14 : (r33).length = 5 := q14
          refine Tot.br (fun h15 => ?_) (fun h15 => ?_)
          · first | simp (disch := omega) only [ts, *] at h15 | skip
            all_goals
              refine Tot.lett (fun v35 e_v35 => ?_)
              refine Tot.lett (fun v36 e_v36 => ?_)
              refine Tot.lett (fun v37 e_v37 => ?_)
              refine Tot.lett (fun v38 e_v38 => ?_)
              exact Tot.ret _
          · first | simp (disch := omega) only [ts, *] at h15 | skip
            all_goals
              refine Tot.br (fun h16 => ?_) (fun h16 => ?_)
              · first | simp (disch := omega) only [ts, *] at h16 | skip
                all_goals
                  refine Tot.lett (fun v39 e_v39 => ?_)
                  refine Tot.br (fun h17 => ?_) (fun h17 => ?_)
                  · first | simp (disch := omega) only [ts, *] at h17 | skip
                    all_goals
                      refine Tot.lett (fun v40 e_v40 => ?_)
                      refine Tot.lett (fun v41 e_v41 => ?_)
                      refine Tot.lett (fun v42 e_v42 => ?_)
                      refine Tot.lett (fun v43 e_v43 => ?_)
                      exact Tot.ret _
                  · first | simp (disch := omega) only [ts, *] at h17 | skip
                    all_goals
                      refine T_6.bind (Z10o (eqI (shrI .u8 v11 7) 1) v2 v3 v4 v5 r14 r33) (fun y52 y53 y54 y55 y56 y57 q18 => ?_)
                      obtain ⟨q18_0, q18_1, q18_2, q18_3, q18_4, q18_5⟩ := q18
                      refine T_1.bind (Z81) (fun r58 q19 => ?_)
                      replace q19 : (r58).length = 5 := q19
                      refine T_1.bind (Z5 y57 y56) (fun r59 q20 => ?_)
                      replace q20 : (r59).length = 5 := q20
                      refine T_4.bind (Zrt y57 y56 r58 r59) (fun r60 r61 r62 r63 q21 => ?_)
                      obtain ⟨q21_0, q21_1, q21_2, q21_3⟩ := q21
                      exact Tot.ret _
              · first | simp (disch := omega) only [ts, *] at h16 | skip
                all_goals
                  refine T_6.bind (Z10o (eqI (shrI .u8 v11 7) 1) v2 v3 v4 v5 r14 r33) (fun y64 y65 y66 y67 y68 y69 q22 => ?_)
                  obtain ⟨q22_0, q22_1, q22_2, q22_3, q22_4, q22_5⟩ := q22
                  refine T_1.bind (Z81) (fun r70 q23 => ?_)
                  replace q23 : (r70).length = 5 := q23
                  refine T_1.bind (Z5 y69 y68) (fun r71 q24 => ?_)
                  replace q24 : (r71).length = 5 := q24
                  refine T_4.bind (Zrt y69 y68 r70 r71) (fun r72 r73 r74 r75 q25 => ?_)
                  obtain ⟨q25_0, q25_1, q25_2, q25_3⟩ := q25
                  exact Tot.ret _
theorem Z10k : T_4 (fun R k0 => Zfx R  k0) (fun z0 z1 z2 z3 => ((z0).length = 5) ∧ ((z1).length = 5) ∧ ((z2).length = 5) ∧ ((z3).length = 5)) := by
  refine T_4.of ?_
  delta Zfx Zyq
  refine Tot.lett (fun v1 e_v1 => ?_)
  refine Tot.lett (fun v2 e_v2 => ?_)
  refine Tot.lett (fun v3 e_v3 => ?_)
  refine Tot.lett (fun v4 e_v4 => ?_)
  refine T_1.bind (Z4r 4) (fun r5 q1 => ?_)
  replace q1 : (r5).length = 5 := q1
  refine T_1.bind (Z4r 5) (fun r6 q2 => ?_)
  replace q2 : (r6).length = 5 := q2
  refine T_1.bind (Zf2 r6) (fun r7 q3 => ?_)
  replace q3 : (r7).length = 5 := q3
  refine T_1.bind (Z5 r5 r7) (fun r8 q4 => ?_)
  replace q4 : (r8).length = 5 := q4
  refine T_1.bind (Zcq r8) (fun r9 q5 => ?_)
  replace q5 : ((r9)).length = 32 := q5
  refine T_5.bind (Z14u r9) (fun r10 r11 r12 r13 r14 q6 => ?_)
  obtain ⟨q6_0, q6_1, q6_2, q6_3, q6_4⟩ := q6
  refine Tot.lett (fun v15 e_v15 => ?_)
  refine Tot.lett (fun v16 e_v16 => ?_)
  refine Tot.lett (fun v17 e_v17 => ?_)
  refine Tot.lett (fun v18 e_v18 => ?_)
  exact Tot.ret _
theorem Zgy (a1 a2 a3 a4 : List Int) (h_ : autoParam (((a1).length = 5) ∧ ((a2).length = 5) ∧ ((a3).length = 5) ∧ ((a4).length = 5)) sA._auto_1) : T_4 (fun R k0 => Z6o R a1 a2 a3 a4 k0) (fun z0 z1 z2 z3 => ((z0).length = 5) ∧ ((z1).length = 5) ∧ ((z2).length = 5) ∧ ((z3).length = 5)) := by
  obtain ⟨h_0, h_1, h_2, h_3⟩ := h_
  refine T_4.of ?_
  delta Z6o Zl0
  refine Tot.lett (fun v5 e_v5 => ?_)
  refine Tot.lett (fun v6 e_v6 => ?_)
  refine Tot.lett (fun v7 e_v7 => ?_)
  refine Tot.lett (fun v8 e_v8 => ?_)
  refine T_1.bind (Z81) (fun r9 q1 => ?_)
  replace q1 : (r9).length = 5 := q1
  refine T_1.bind (Z4e a2 r9) (fun r10 q2 => ?_)
  replace q2 : (r10).length = 5 := q2
  refine T_1.bind (Z81) (fun r11 q3 => ?_)
  replace q3 : (r11).length = 5 := q3
  refine T_1.bind (Z4e a3 r11) (fun r12 q4 => ?_)
  replace q4 : (r12).length = 5 := q4
  exact Tot.ret _
theorem Zif (a1 a2 a3 a4 a5 a6 a7 a8 a9 : List Int) (h_ : autoParam (((a1).length = 5) ∧ ((a2).length = 5) ∧ ((a3).length = 5) ∧ ((a4).length = 5) ∧ ((a5).length = 5) ∧ ((a6).length = 5) ∧ ((a7).length = 5) ∧ ((a8).length = 5) ∧ ((a9).length = 5)) sA._auto_1) : T_4 (fun R k0 => Z1i R a1 a2 a3 a4 a5 a6 a7 a8 a9 k0) (fun z0 z1 z2 z3 => ((z0).length = 5) ∧ ((z1).length = 5) ∧ ((z2).length = 5) ∧ ((z3).length = 5)) := by
  obtain ⟨h_0, h_1, h_2, h_3, h_4, h_5, h_6, h_7, h_8⟩ := h_
  refine T_4.of ?_
  delta Z1i Zme
  refine Tot.lett (fun v10 e_v10 => ?_)
  refine Tot.lett (fun v11 e_v11 => ?_)
  refine Tot.lett (fun v12 e_v12 => ?_)
  refine Tot.lett (fun v13 e_v13 => ?_)
  refine T_4.bind (Zgy a1 a2 a3 a4) (fun r14 r15 r16 r17 q1 => ?_)
  obtain ⟨q1_0, q1_1, q1_2, q1_3⟩ := q1
  refine Tot.lett (fun v18 e_v18 => ?_)
  refine Tot.lett (fun v19 e_v19 => ?_)
  refine Tot.lett (fun v20 e_v20 => ?_)
  refine Tot.lett (fun v21 e_v21 => ?_)
  refine T_4.bind (Zgy a5 a6 a7 a8) (fun r22 r23 r24 r25 q2 => ?_)
  obtain ⟨q2_0, q2_1, q2_2, q2_3⟩ := q2
  refine Tot.lett (fun v26 e_v26 => ?_)
  refine Tot.lett (fun v27 e_v27 => ?_)
  refine Tot.lett (fun v28 e_v28 => ?_)
  refine Tot.lett (fun v29 e_v29 => ?_)
  refine Tot.lett (fun v30 e_v30 => ?_)
  refine T_1.bind (Z1y r15 r14) (fun r31 q3 => ?_)
  replace q3 : (r31).length = 5 := q3
  refine T_1.bind (Z1y r23 r22) (fun r32 q4 => ?_)
  replace q4 : (r32).length = 5 := q4
  refine T_1.bind (Z5 r31 r32) (fun r33 q5 => ?_)
  replace q5 : (r33).length = 5 := q5
  refine Tot.lett (fun v34 e_v34 => ?_)
  refine T_1.bind (Z4e r15 r14) (fun r35 q6 => ?_)
  replace q6 : (r35).length = 5 := q6
  refine T_1.bind (Z4e r23 r22) (fun r36 q7 => ?_)
  replace q7 : (r36).length = 5 := q7
  refine T_1.bind (Z5 r35 r36) (fun r37 q8 => ?_)
  replace q8 : (r37).length = 5 := q8
  refine Tot.lett (fun v38 e_v38 => ?_)
  refine T_1.bind (Z5 r17 a9) (fun r39 q9 => ?_)
  replace q9 : (r39).length = 5 := q9
  refine T_1.bind (Z5 r39 r25) (fun r40 q10 => ?_)
  replace q10 : (r40).length = 5 := q10
  refine Tot.lett (fun v41 e_v41 => ?_)
  refine T_1.bind (Z4e r16 r16) (fun r42 q11 => ?_)
  replace q11 : (r42).length = 5 := q11
  refine T_1.bind (Z5 r42 r24) (fun r43 q12 => ?_)
  replace q12 : (r43).length = 5 := q12
  refine Tot.lett (fun v44 e_v44 => ?_)
  refine Tot.lett (fun v45 e_v45 => ?_)
  refine Tot.lett (fun v46 e_v46 => ?_)
  refine Tot.lett (fun v47 e_v47 => ?_)
  refine T_1.bind (Z1y r37 r33) (fun r48 q13 => ?_)
  replace q13 : (r48).length = 5 := q13
  refine T_1.bind (Z1y r43 r40) (fun r49 q14 => ?_)
  replace q14 : (r49).length = 5 := q14
  refine T_1.bind (Z4e r43 r40) (fun r50 q15 => ?_)
  replace q15 : (r50).length = 5 := q15
  refine T_1.bind (Z4e r37 r33) (fun r51 q16 => ?_)
  replace q16 : (r51).length = 5 := q16
  refine T_1.bind (Z5 r48 r49) (fun r52 q17 => ?_)
  replace q17 : (r52).length = 5 := q17
  refine T_1.bind (Z5 r50 r51) (fun r53 q18 => ?_)
  replace q18 : (r53).length = 5 := q18
  refine T_1.bind (Z5 r49 r50) (fun r54 q19 => ?_)
  replace q19 : (r54).length = 5 := q19
  refine T_1.bind (Z5 r48 r51) (fun r55 q20 => ?_)
  replace q20 : (r55).length = 5 := q20
  refine T_4.bind (Zrt r52 r53 r54 r55) (fun r56 r57 r58 r59 q21 => ?_)
  obtain ⟨q21_0, q21_1, q21_2, q21_3⟩ := q21
  exact Tot.ret _
theorem Zwr (x38 : Str) (x39 : Int) (x40 x41 x42 x43 x44 x45 x46 x47 x48 x49 x50 x51 x52 : List Int) (i_ : ((x40).length = 5) ∧ ((x41).length = 5) ∧ ((x42).length = 5) ∧ ((x43).length = 5) ∧ ((x44).length = 5) ∧ ((x45).length = 5) ∧ ((x46).length = 5) ∧ ((x47).length = 5) ∧ ((x48).length = 5) ∧ ((x49).length = 5) ∧ ((x50).length = 5) ∧ ((x51).length = 5) ∧ ((x52).length = 5) ∧ (((x38)).length = 32) ∧ (0 ≤ (x39)) ∧ ((x39) < 256)) : T_15 (fun R k0 => Zft Z1f Zv Z4 Z1i R x38 x39 x40 x41 x42 x43 x44 x45 x46 x47 x48 x49 x50 x51 x52 k0) (fun z0 z1 z2 z3 z4 z5 z6 z7 z8 z9 z10 z11 z12 z13 z14 => ((z2).length = 5) ∧ ((z3).length = 5) ∧ ((z4).length = 5) ∧ ((z5).length = 5) ∧ ((z6).length = 5) ∧ ((z7).length = 5) ∧ ((z8).length = 5) ∧ ((z9).length = 5) ∧ ((z10).length = 5) ∧ ((z11).length = 5) ∧ ((z12).length = 5) ∧ ((z13).length = 5) ∧ ((z14).length = 5) ∧ ((z0) = (x38)) ∧ ((z1) = (x39))) := by
  obtain ⟨i_0, i_1, i_2, i_3, i_4, i_5, i_6, i_7, i_8, i_9, i_10, i_11, i_12, i_13, i_14, i_15⟩ := i_
  refine T_15.of ?_
  delta Zft
  refine T_4.bind (Zif x49 x50 x51 x52 x49 x50 x51 x52 x48) (fun r53 r54 r55 r56 q1 => ?_)
  obtain ⟨q1_0, q1_1, q1_2, q1_3⟩ := q1
  refine Tot.gd ?_
  refine Tot.lett (fun v57 e_v57 => ?_)
  refine Tot.gd ?_
  refine Tot.lett (fun v58 e_v58 => ?_)
  refine Tot.br (fun h2 => ?_) (fun h2 => ?_)
  · first | simp (disch := omega) only [ts, *] at h2 | skip
    all_goals
      refine T_4.bind (Zif r53 r54 r55 r56 x40 x41 x42 x43 x48) (fun r59 r60 r61 r62 q3 => ?_)
      obtain ⟨q3_0, q3_1, q3_2, q3_3⟩ := q3
      exact Tot.ret _
  · first | simp (disch := omega) only [ts, *] at h2 | skip
    all_goals
      exact Tot.ret _
theorem Z11e (x38 : Str) (x39 : Int) (x40 x41 x42 x43 x44 x45 x46 x47 x48 x49 x50 x51 x52 : List Int) (i_ : autoParam (((x40).length = 5) ∧ ((x41).length = 5) ∧ ((x42).length = 5) ∧ ((x43).length = 5) ∧ ((x44).length = 5) ∧ ((x45).length = 5) ∧ ((x46).length = 5) ∧ ((x47).length = 5) ∧ ((x48).length = 5) ∧ ((x49).length = 5) ∧ ((x50).length = 5) ∧ ((x51).length = 5) ∧ ((x52).length = 5) ∧ (((x38)).length = 32) ∧ (0 ≤ (x39)) ∧ ((x39) < 256)) sA._auto_1) : T_15 (fun R k0 => Zuv Z1f Zv Z4 Z1i R x38 x39 x40 x41 x42 x43 x44 x45 x46 x47 x48 x49 x50 x51 x52 k0) (fun z0 z1 z2 z3 z4 z5 z6 z7 z8 z9 z10 z11 z12 z13 z14 => ((z2).length = 5) ∧ ((z3).length = 5) ∧ ((z4).length = 5) ∧ ((z5).length = 5) ∧ ((z6).length = 5) ∧ ((z7).length = 5) ∧ ((z8).length = 5) ∧ ((z9).length = 5) ∧ ((z10).length = 5) ∧ ((z11).length = 5) ∧ ((z12).length = 5) ∧ ((z13).length = 5) ∧ ((z14).length = 5) ∧ ((z0) = (x38)) ∧ ((z1) = (x39))) := by
  exact T_15.congr (fun R k0 => by kernel_rfl) (Zwr x38 x39 x40 x41 x42 x43 x44 x45 x46 x47 x48 x49 x50 x51 x52 i_)
abbrev Zec (x23 : Str) (x24 : Int) (x25 x26 x27 x28 x29 x30 x31 x32 x33 x34 x35 x36 x37 : List Int) : Prop := ((x25).length = 5) ∧ ((x26).length = 5) ∧ ((x27).length = 5) ∧ ((x28).length = 5) ∧ ((x29).length = 5) ∧ ((x30).length = 5) ∧ ((x31).length = 5) ∧ ((x32).length = 5) ∧ ((x33).length = 5) ∧ ((x34).length = 5) ∧ ((x35).length = 5) ∧ ((x36).length = 5) ∧ ((x37).length = 5) ∧ (-1 ≤ (x24)) ∧ (((x23)).length = 32) ∧ ((x24) < 256)
theorem Zvx (x23 : Str) (x24 : Int) (x25 x26 x27 x28 x29 x30 x31 x32 x33 x34 x35 x36 x37 : List Int) (i_ : Zec x23 x24 x25 x26 x27 x28 x29 x30 x31 x32 x33 x34 x35 x36 x37) : Z15v (fun R next k0 => Zfm Z1f Zv Z4 Z1i R x23 x24 x25 x26 x27 x28 x29 x30 x31 x32 x33 x34 x35 x36 x37 next k0) (fun nx23 nx24 nx25 nx26 nx27 nx28 nx29 nx30 nx31 nx32 nx33 nx34 nx35 nx36 nx37 => Zec nx23 nx24 nx25 nx26 nx27 nx28 nx29 nx30 nx31 nx32 nx33 nx34 nx35 nx36 nx37 ∧ ((nx24) + 1).toNat < ((x24) + 1).toNat) (fun z0 z1 z2 z3 z4 z5 z6 z7 => ((z0).length = 5) ∧ ((z1).length = 5) ∧ ((z2).length = 5) ∧ ((z3).length = 5) ∧ ((z4).length = 5) ∧ ((z5).length = 5) ∧ ((z6).length = 5) ∧ ((z7).length = 5)) := by
  obtain ⟨i_0, i_1, i_2, i_3, i_4, i_5, i_6, i_7, i_8, i_9, i_10, i_11, i_12, i_13, i_14, i_15⟩ := i_
  refine Z15v.of ?_
  delta Zfm
  refine Tot.br (fun h1 => ?_) (fun h1 => ?_)
  · first | simp (disch := omega) only [ts, *] at h1 | skip
    all_goals
      refine T_15.bind (Z11e x23 x24 x25 x26 x27 x28 x29 x30 x31 x32 x33 x34 x35 x36 x37) (fun y63 y64 y65 y66 y67 y68 y69 y70 y71 y72 y73 y74 y75 y76 y77 q2 => ?_)
      obtain ⟨q2_0, q2_1, q2_2, q2_3, q2_4, q2_5, q2_6, q2_7, q2_8, q2_9, q2_10, q2_11, q2_12, q2_13, q2_14⟩ := q2
      exact Tot.ret _
  · first | simp (disch := omega) only [ts, *] at h1 | skip
    all_goals
      exact Tot.ret _
theorem Z11n (x23 : Str) (x24 : Int) (x25 x26 x27 x28 x29 x30 x31 x32 x33 x34 x35 x36 x37 : List Int) (i_ : autoParam (Zec x23 x24 x25 x26 x27 x28 x29 x30 x31 x32 x33 x34 x35 x36 x37) sA._auto_1) : T_8 (fun R k0 => Zus Z1f Zv Z4 Z1i R x23 x24 x25 x26 x27 x28 x29 x30 x31 x32 x33 x34 x35 x36 x37 k0) (fun z0 z1 z2 z3 z4 z5 z6 z7 => ((z0).length = 5) ∧ ((z1).length = 5) ∧ ((z2).length = 5) ∧ ((z3).length = 5) ∧ ((z4).length = 5) ∧ ((z5).length = 5) ∧ ((z6).length = 5) ∧ ((z7).length = 5)) :=
 Z1d8 (r := fun R n x23 x24 x25 x26 x27 x28 x29 x30 x31 x32 x33 x34 x35 x36 x37 k0 => runP Zjn Zje (Zb7 Z1f Zv Z4 Z1i).step R n ((x23, (), (), (), (), x24, ()), ((x25, x26, x27, x28, ()), (x29, x30, x31, x32, ()), (x33, ()), (x34, x35, x36, x37, ()), ())) (fun r => k0 (r.1) (r.2.1) (r.2.2.1) (r.2.2.2.1) (r.2.2.2.2.1) (r.2.2.2.2.2.1) (r.2.2.2.2.2.2.1) (r.2.2.2.2.2.2.2), ())) (fun _ _ _ _ _ _ _ _ _ _ _ _ _ _ _ _ _ _ => rfl) Zec (fun x23 x24 x25 x26 x27 x28 x29 x30 x31 x32 x33 x34 x35 x36 x37 => ((x24) + 1).toNat) Zvx (Zaw x23 x24 x25 x26 x27 x28 x29 x30 x31 x32 x33 x34 x35 x36 x37) x23 x24 x25 x26 x27 x28 x29 x30 x31 x32 x33 x34 x35 x36 x37 i_ (by obtain ⟨i_0, i_1, i_2, i_3, i_4, i_5, i_6, i_7, i_8, i_9, i_10, i_11, i_12, i_13, i_14, i_15⟩ := i_; unfold Zaw; first | omega | (simp only [ts] <;> omega))
theorem Zib (a1 a2 a3 a4 : List Int) (a5 : Str) (h_ : autoParam (((a1).length = 5) ∧ ((a2).length = 5) ∧ ((a3).length = 5) ∧ ((a4).length = 5)) sA._auto_1) : T_5 (fun R k0 => Z7x R a1 a2 a3 a4 a5 k0) (fun z0 z1 z2 z3 z4 => ((z0).length = 5) ∧ ((z1).length = 5) ∧ ((z2).length = 5) ∧ ((z3).length = 5)) := by
  obtain ⟨h_0, h_1, h_2, h_3⟩ := h_
  refine T_5.of ?_
  delta Z7x Zm8
  refine Tot.lett (fun v6 e_v6 => ?_)
  refine Tot.lett (fun v7 e_v7 => ?_)
  refine Tot.lett (fun v8 e_v8 => ?_)
  refine Tot.lett (fun v9 e_v9 => ?_)
  refine Tot.lett (fun v10 e_v10 => ?_)
  refine Tot.br (fun h1 => ?_) (fun h1 => ?_)
  · first | simp (disch := omega) only [ts, *] at h1 | skip
    all_goals
      refine Tot.lett (fun v11 e_v11 => ?_)
      refine Tot.lett (fun v12 e_v12 => ?_)
      refine Tot.lett (fun v13 e_v13 => ?_)
      refine Tot.lett (fun v14 e_v14 => ?_)
      exact Tot.ret _
  · first | simp (disch := omega) only [ts, *] at h1 | skip
    all_goals
      refine T_1.bind (Zmy) (fun r15 q2 => ?_)
      replace q2 : (r15).length = 5 := q2
      refine T_1.bind (Z4r 2) (fun r16 q3 => ?_)
      replace q3 : (r16).length = 5 := q3
      refine T_1.bind (Z5 r15 r16) (fun r17 q4 => ?_)
      replace q4 : (r17).length = 5 := q4
      refine Tot.lett (fun v18 e_v18 => ?_)
      refine Tot.lett (fun v19 e_v19 => ?_)
      refine Tot.lett (fun v20 e_v20 => ?_)
      refine Tot.lett (fun v21 e_v21 => ?_)
      refine Tot.lett (fun v22 e_v22 => ?_)
      refine T_8.bind (Z11n a5 255 a1 a2 a3 a4 v6 v7 v8 v9 r17 v19 v20 v21 v22) (fun y78 y79 y80 y81 y82 y83 y84 y85 q5 => ?_)
      obtain ⟨q5_0, q5_1, q5_2, q5_3, q5_4, q5_5, q5_6, q5_7⟩ := q5
      exact Tot.ret _
theorem Z144 (a1 a2 a3 a4 : List Int) (h_ : autoParam (((a1).length = 5) ∧ ((a2).length = 5) ∧ ((a3).length = 5) ∧ ((a4).length = 5)) sA._auto_1) : T_4 (fun R k0 => Zdi R a1 a2 a3 a4 k0) (fun z0 z1 z2 z3 => ((z0).length = 5) ∧ ((z1).length = 5) ∧ ((z2).length = 5) ∧ ((z3).length = 5)) := by
  obtain ⟨h_0, h_1, h_2, h_3⟩ := h_
  refine T_4.of ?_
  delta Zdi Zmw
  refine Tot.lett (fun v5 e_v5 => ?_)
  refine Tot.lett (fun v6 e_v6 => ?_)
  refine Tot.lett (fun v7 e_v7 => ?_)
  refine Tot.lett (fun v8 e_v8 => ?_)
  refine Tot.lett (fun v9 e_v9 => ?_)
  refine T_1.bind (Z1y v9 a1) (fun r10 q1 => ?_)
  replace q1 : (r10).length = 5 := q1
  refine T_1.bind (Z1y v9 a4) (fun r11 q2 => ?_)
  replace q2 : (r11).length = 5 := q2
  exact Tot.ret _
theorem Z13s (a1 a2 a3 a4 a5 a6 a7 a8 : List Int) (h_ : autoParam (((a1).length = 5) ∧ ((a2).length = 5) ∧ ((a3).length = 5) ∧ ((a4).length = 5) ∧ ((a5).length = 5) ∧ ((a6).length = 5) ∧ ((a7).length = 5) ∧ ((a8).length = 5)) sA._auto_1) : T_4 (fun R k0 => Zdx R a1 a2 a3 a4 a5 a6 a7 a8 k0) (fun z0 z1 z2 z3 => ((z0).length = 5) ∧ ((z1).length = 5) ∧ ((z2).length = 5) ∧ ((z3).length = 5)) := by
  obtain ⟨h_0, h_1, h_2, h_3, h_4, h_5, h_6, h_7⟩ := h_
  refine T_4.of ?_
  delta Zdx Zmu
  refine Tot.lett (fun v9 e_v9 => ?_)
  refine Tot.lett (fun v10 e_v10 => ?_)
  refine Tot.lett (fun v11 e_v11 => ?_)
  refine Tot.lett (fun v12 e_v12 => ?_)
  refine T_1.bind (Zmy) (fun r13 q1 => ?_)
  replace q1 : (r13).length = 5 := q1
  refine T_1.bind (Z4r 2) (fun r14 q2 => ?_)
  replace q2 : (r14).length = 5 := q2
  refine T_1.bind (Z5 r13 r14) (fun r15 q3 => ?_)
  replace q3 : (r15).length = 5 := q3
  refine T_4.bind (Zif a1 a2 a3 a4 a5 a6 a7 a8 r15) (fun r16 r17 r18 r19 q4 => ?_)
  obtain ⟨q4_0, q4_1, q4_2, q4_3⟩ := q4
  exact Tot.ret _
theorem Zna (a1 a2 a3 a4 : List Int) (h_ : autoParam (((a1).length = 5) ∧ ((a2).length = 5) ∧ ((a3).length = 5) ∧ ((a4).length = 5)) sA._auto_1) : T_1 (fun R k0 => Z5q R a1 a2 a3 a4 k0) (fun z0 => (((z0)).length = 32)) := by
  obtain ⟨h_0, h_1, h_2, h_3⟩ := h_
  refine T_1.of ?_
  delta Z5q Zjl
  refine T_4.bind (Zgy a1 a2 a3 a4) (fun r5 r6 r7 r8 q1 => ?_)
  obtain ⟨q1_0, q1_1, q1_2, q1_3⟩ := q1
  refine Tot.lett (fun v9 e_v9 => ?_)
  refine Tot.lett (fun v10 e_v10 => ?_)
  refine Tot.lett (fun v11 e_v11 => ?_)
  refine Tot.lett (fun v12 e_v12 => ?_)
  refine T_1.bind (Zf2 r7) (fun r13 q2 => ?_)
  replace q2 : (r13).length = 5 := q2
  refine Tot.lett (fun v14 e_v14 => ?_)
  refine T_1.bind (Z5 r6 r13) (fun r15 q3 => ?_)
  replace q3 : (r15).length = 5 := q3
  refine T_1.bind (Zcq r15) (fun r16 q4 => ?_)
  replace q4 : ((r16)).length = 32 := q4
  refine Tot.gd ?_
  refine Tot.lett (fun v17 e_v17 => ?_)
  refine T_1.bind (Z5 r5 r13) (fun r18 q5 => ?_)
  replace q5 : (r18).length = 5 := q5
  refine T_1.bind (Zcq r18) (fun r19 q6 => ?_)
  replace q6 : ((r19)).length = 32 := q6
  refine Tot.gd ?_
  refine Tot.lett (fun v20 e_v20 => ?_)
  refine Tot.lett (fun v21 e_v21 => ?_)
  refine Tot.gd ?_
  refine Tot.lett (fun v22 e_v22 => ?_)
  exact Tot.ret _
abbrev Zi2 (gx5 : Str) (gx6 gx7 : Int) (gx8 : List Int) (x5 : Str) (x6 x7 : Int) (x8 : List Int) : Prop := (((x5)).length = ((gx5)).length) ∧ ((x6) = (((x5)).length : Int)) ∧ (0 ≤ (x7)) ∧ ((x7) ≤ (x6)) ∧ (((x8)).length = ((x5)).length / 8) ∧ (((x5)).length % 8 = 0) ∧ (((x5)).length ≤ 1000)
theorem Z101 (gx5 : Str) (gx6 gx7 : Int) (gx8 : List Int) (x5 : Str) (x6 x7 : Int) (x8 : List Int) (i_ : Zi2 gx5 gx6 gx7 gx8 x5 x6 x7 x8) : Z19t (fun R next k0 => Zji R x5 x6 x7 x8 next k0) (fun nx5 nx6 nx7 nx8 => Zi2 gx5 gx6 gx7 gx8 nx5 nx6 nx7 nx8 ∧ ((nx6) - (nx7)).toNat < ((x6) - (x7)).toNat) (fun z0 => (((z0)).length = ((gx5)).length / 8)) := by
  obtain ⟨i_0, i_1, i_2, i_3, i_4, i_5, i_6⟩ := i_
  refine Z19t.of ?_
  delta Zji
  refine Tot.br (fun h1 => ?_) (fun h1 => ?_)
  · first | simp (disch := omega) only [ts, *] at h1 | skip
    all_goals
      refine Tot.gd ?_
      refine Tot.lett (fun v9 e_v9 => ?_)
      refine Tot.gd ?_
      refine Tot.lett (fun v10 e_v10 => ?_)
      refine Tot.gd ?_
      refine Tot.lett (fun v11 e_v11 => ?_)
      refine Tot.gd ?_
      refine Tot.lett (fun v12 e_v12 => ?_)
      exact Tot.ret _
  · first | simp (disch := omega) only [ts, *] at h1 | skip
    all_goals
      exact Tot.ret _
theorem Z159 (x5 : Str) (x6 x7 : Int) (x8 : List Int) (i_ : autoParam (Zi2 x5 x6 x7 x8 x5 x6 x7 x8) sA._auto_1) : T_1 (fun R k0 => Z110 R x5 x6 x7 x8 k0) (fun z0 => (((z0)).length = ((x5)).length / 8)) :=
 Z1du (r := fun R n x5 x6 x7 x8 k0 => runP Zol Zpc (Zez).step R n ((x5, (), x6, x7, ()), ((x8, ()), ())) (fun r => k0 (r), ())) (fun _ _ _ _ _ _ _ => rfl) (Zi2 x5 x6 x7 x8) (fun x5 x6 x7 x8 => ((x6) - (x7)).toNat) (Z101 x5 x6 x7 x8) (Ze6 x5 x6 x7 x8) x5 x6 x7 x8 i_ (by obtain ⟨i_0, i_1, i_2, i_3, i_4, i_5, i_6⟩ := i_; unfold Ze6; first | omega | (simp only [ts] <;> omega))
theorem Zc4 (a1 : Str) (h_ : autoParam ((((a1)).length % 8 = 0) ∧ (((a1)).length ≤ 1000)) sA._auto_1) : T_1 (fun R k0 => Z17 R a1 k0) (fun z0 => (((z0)).length = ((a1)).length / 8)) := by
  obtain ⟨h_0, h_1⟩ := h_
  refine T_1.of ?_
  delta Z17 Ztx
  refine Tot.lett (fun v2 e_v2 => ?_)
  refine Tot.gd ?_
  refine Tot.gd ?_
  refine Tot.lett (fun v3 e_v3 => ?_)
  refine Tot.lett (fun v4 e_v4 => ?_)
  refine T_1.bind (Z159 a1 v4 0 v3) (fun y13 q1 => ?_)
  replace q1 : ((y13)).length = ((a1)).length / 8 := q1
  exact Tot.ret _
theorem Zx0 : T_1 (fun R k0 => Z3x R  k0) (fun z0 => ((z0).length = 4)) := by
  refine T_1.of ?_
  delta Z3x Zt5
  refine Tot.lett (fun v1 e_v1 => ?_)
  refine Tot.lett (fun v2 e_v2 => ?_)
  exact Tot.ret _
abbrev Zav (x4 x5 : Int) (x6 x7 x8 : List Int) : Prop := ((x6).length = 4) ∧ ((x7).length = 4) ∧ ((x8).length = 4) ∧ (0 ≤ (x5)) ∧ ((x5) ≤ 4) ∧ (0 ≤ (x4)) ∧ ((x4) ≤ 1)
theorem Zs0 (x4 x5 : Int) (x6 x7 x8 : List Int) (i_ : Zav x4 x5 x6 x7 x8) : Zxn (fun R next k0 => Zcf Zb2 R x4 x5 x6 x7 x8 next k0) (fun nx4 nx5 nx6 nx7 nx8 => Zav nx4 nx5 nx6 nx7 nx8 ∧ (4 - (nx5)).toNat < (4 - (x5)).toNat) (fun z0 z1 z2 => ((z1).length = 4) ∧ ((z2).length = 4)) := by
  obtain ⟨i_0, i_1, i_2, i_3, i_4, i_5, i_6⟩ := i_
  refine Zxn.of ?_
  delta Zcf
  refine Tot.br (fun h1 => ?_) (fun h1 => ?_)
  · first | simp (disch := omega) only [ts, *] at h1 | skip
    all_goals
      refine Tot.gd ?_
      refine Tot.gd ?_
      refine T_2.bind (Z19b (x6.getD x5.toNat 0) (x7.getD x5.toNat 0) x4) (fun r9 r10 q2 => ?_)
      obtain ⟨q2_0, q2_1, q2_2, q2_3⟩ := q2
      refine Tot.gd ?_
      exact Tot.ret _
  · first | simp (disch := omega) only [ts, *] at h1 | skip
    all_goals
      exact Tot.ret _
theorem Zxq (x4 x5 : Int) (x6 x7 x8 : List Int) (i_ : autoParam (Zav x4 x5 x6 x7 x8) sA._auto_1) : T_3 (fun R k0 => Zpe Zb2 R x4 x5 x6 x7 x8 k0) (fun z0 z1 z2 => ((z1).length = 4) ∧ ((z2).length = 4)) :=
 Z1bg (r := fun R n x4 x5 x6 x7 x8 k0 => runP Zfn Zfo (Z85 Zb2).step R n (((), (), (), x4, x5, ()), ((x6, ()), (x7, ()), (x8, ()), ())) (fun r => k0 (r.1) (r.2.1) (r.2.2), ())) (fun _ _ _ _ _ _ _ _ => rfl) Zav (fun x4 x5 x6 x7 x8 => (4 - (x5)).toNat) Zs0 (Z8h x4 x5 x6 x7 x8) x4 x5 x6 x7 x8 i_ (by obtain ⟨i_0, i_1, i_2, i_3, i_4, i_5, i_6⟩ := i_; unfold Z8h; first | omega | (simp only [ts] <;> omega))
theorem Zm1 (a1 a2 : List Int) (h_ : autoParam (((a1).length = 4) ∧ ((a2).length = 4)) sA._auto_1) : T_2 (fun R k0 => Z1o R a1 a2 k0) (fun z0 z1 => ((z0).length = 4)) := by
  obtain ⟨h_0, h_1⟩ := h_
  refine T_2.of ?_
  delta Z1o Zhx
  refine Tot.lett (fun v3 e_v3 => ?_)
  refine T_3.bind (Zxq 0 0 a1 a2 v3) (fun y11 y12 y13 q1 => ?_)
  obtain ⟨q1_0, q1_1⟩ := q1
  exact Tot.ret _
theorem Z17b (a1 : Str) : T_1 (fun R k0 => Zj0 R a1 k0) (fun z0 => True) := by
  refine T_1.of ?_
  delta Zj0 Ztz
  refine Tot.lett (fun v2 e_v2 => ?_)
  refine Tot.br (fun h1 => ?_) (fun h1 => ?_)
  · first | simp (disch := omega) only [ts, *] at h1 | skip
    all_goals
      exact Tot.ret _
  · first | simp (disch := omega) only [ts, *] at h1 | skip
    all_goals
      refine Tot.lett (fun v3 e_v3 => ?_)
      refine T_1.bind (Zc4 a1) (fun r4 q2 => ?_)
      replace q2 : ((r4)).length = ((a1)).length / 8 := q2
      refine Tot.gd ?_
      refine Tot.gd ?_
      refine T_1.bind (Zx0) (fun r5 q3 => ?_)
      replace q3 : (r5).length = 4 := q3
      refine T_2.bind (Zm1 ((r4.drop 0).take 4) r5) (fun r6 r7 q4 => ?_)
      replace q4 : (r6).length = 4 := q4
      exact Tot.ret _
abbrev Zb4 (x4 x5 : Int) (x6 x7 : List Int) : Prop := ((x6).length = 4) ∧ ((x7).length = 4) ∧ (0 ≤ (x5)) ∧ ((x5) ≤ 4)
theorem Zs8 (x4 x5 : Int) (x6 x7 : List Int) (i_ : Zb4 x4 x5 x6 x7) : Zr0 (fun R next k0 => Zd5 Z3x Z1o R x4 x5 x6 x7 next k0) (fun nx4 nx5 nx6 nx7 => Zb4 nx4 nx5 nx6 nx7 ∧ (4 - (nx5)).toNat < (4 - (x5)).toNat) (fun z0 z1 => ((z0).length = 4) ∧ ((z1).length = 4)) := by
  obtain ⟨i_0, i_1, i_2, i_3⟩ := i_
  refine Zr0.of ?_
  delta Zd5
  refine Tot.br (fun h1 => ?_) (fun h1 => ?_)
  · first | simp (disch := omega) only [ts, *] at h1 | skip
    all_goals
      refine Tot.gd ?_
      refine Tot.lett (fun v8 e_v8 => ?_)
      refine Tot.gd ?_
      refine Tot.lett (fun v9 e_v9 => ?_)
      refine Tot.gd ?_
      refine Tot.lett (fun v10 e_v10 => ?_)
      exact Tot.ret _
  · first | simp (disch := omega) only [ts, *] at h1 | skip
    all_goals
      exact Tot.ret _
theorem Zxj (x4 x5 : Int) (x6 x7 : List Int) (i_ : autoParam (Zb4 x4 x5 x6 x7) sA._auto_1) : T_2 (fun R k0 => Zpf Z3x Z1o R x4 x5 x6 x7 k0) (fun z0 z1 => ((z0).length = 4) ∧ ((z1).length = 4)) :=
 Z1a3 (r := fun R n x4 x5 x6 x7 k0 => runP Zfk Zfq (Z83 Z3x Z1o).step R n ((x4, (), (), x5, ()), ((x6, ()), (x7, ()), ())) (fun r => k0 (r.1) (r.2), ())) (fun _ _ _ _ _ _ _ => rfl) Zb4 (fun x4 x5 x6 x7 => (4 - (x5)).toNat) Zs8 (Z8d x4 x5 x6 x7) x4 x5 x6 x7 i_ (by obtain ⟨i_0, i_1, i_2, i_3⟩ := i_; unfold Z8d; first | omega | (simp only [ts] <;> omega))
theorem Z10g (a1 : List Int) (a2 : Int) (h_ : autoParam (((a1).length = 4)) sA._auto_1) : T_1 (fun R k0 => Z1c R a1 a2 k0) (fun z0 => ((z0).length = 4)) := by
  refine T_1.of ?_
  delta Z1c Zi5
  refine Tot.lett (fun v3 e_v3 => ?_)
  refine T_2.bind (Zxj a2 0 a1 v3) (fun y11 y12 q1 => ?_)
  obtain ⟨q1_0, q1_1⟩ := q1
  refine Tot.lett (fun v13 e_v13 => ?_)
  refine T_1.bind (Zx0) (fun r14 q2 => ?_)
  replace q2 : (r14).length = 4 := q2
  refine T_2.bind (Zm1 y11 r14) (fun r15 r16 q3 => ?_)
  replace q3 : (r15).length = 4 := q3
  refine Tot.br (fun h4 => ?_) (fun h4 => ?_)
  · first | simp (disch := omega) only [ts, *] at h4 | skip
    all_goals
      exact Tot.ret _
  · first | simp (disch := omega) only [ts, *] at h4 | skip
    all_goals
      exact Tot.ret _
abbrev Zeb (gx9 gx10 : Int) (gx11 gx12 gx13 : List Int) (x9 x10 : Int) (x11 x12 x13 : List Int) : Prop := ((x12).length = 4) ∧ ((x13).length = 4) ∧ (-1 ≤ (x10)) ∧ (0 ≤ (x9)) ∧ ((x9) < (((x11)).length : Int)) ∧ ((x10) ≤ 63) ∧ ((x9) = (gx9)) ∧ (((x11)).length = ((gx11)).length)
theorem Zvs (gx9 gx10 : Int) (gx11 gx12 gx13 : List Int) (x9 x10 : Int) (x11 x12 x13 : List Int) (i_ : Zeb gx9 gx10 gx11 gx12 gx13 x9 x10 x11 x12 x13) : Z19c (fun R next k0 => Zfj Z1c R x9 x10 x11 x12 x13 next k0) (fun nx9 nx10 nx11 nx12 nx13 => Zeb gx9 gx10 gx11 gx12 gx13 nx9 nx10 nx11 nx12 nx13 ∧ ((nx10) + 1).toNat < ((x10) + 1).toNat) (fun z0 z1 z2 z3 => ((z2).length = 4) ∧ ((z3).length = 4) ∧ ((z0) = (gx9)) ∧ (((z1)).length = ((gx11)).length)) := by
  obtain ⟨i_0, i_1, i_2, i_3, i_4, i_5, i_6, i_7⟩ := i_
  refine Z19c.of ?_
  delta Zfj
  refine Tot.br (fun h1 => ?_) (fun h1 => ?_)
  · first | simp (disch := omega) only [ts, *] at h1 | skip
    all_goals
      refine Tot.gd ?_
      refine Tot.gd ?_
      refine Tot.lett (fun v14 e_v14 => ?_)
      refine T_1.bind (Z10g x13 (andI .u64 v14 1)) (fun r15 q2 => ?_)
      replace q2 : (r15).length = 4 := q2
      exact Tot.ret _
  · first | simp (disch := omega) only [ts, *] at h1 | skip
    all_goals
      exact Tot.ret _
theorem Z11s (x9 x10 : Int) (x11 x12 x13 : List Int) (i_ : autoParam (Zeb x9 x10 x11 x12 x13 x9 x10 x11 x12 x13) sA._auto_1) : T_4 (fun R k0 => Zuz Z1c R x9 x10 x11 x12 x13 k0) (fun z0 z1 z2 z3 => ((z2).length = 4) ∧ ((z3).length = 4) ∧ ((z0) = (x9)) ∧ (((z1)).length = ((x11)).length)) :=
 Z1dr (r := fun R n x9 x10 x11 x12 x13 k0 => runP Zjf Zjp (Zb6 Z1c).step R n (((), (), (), x9, x10, ()), ((x11, ()), (x12, ()), (x13, ()), ())) (fun r => k0 (r.1) (r.2.1) (r.2.2.1) (r.2.2.2), ())) (fun _ _ _ _ _ _ _ _ => rfl) (Zeb x9 x10 x11 x12 x13) (fun x9 x10 x11 x12 x13 => ((x10) + 1).toNat) (Zvs x9 x10 x11 x12 x13) (Zb3 x9 x10 x11 x12 x13) x9 x10 x11 x12 x13 i_ (by obtain ⟨i_0, i_1, i_2, i_3, i_4, i_5, i_6, i_7⟩ := i_; unfold Zb3; first | omega | (simp only [ts] <;> omega))
abbrev Ze8 (x5 : Int) (x6 x7 x8 : List Int) : Prop := ((x7).length = 4) ∧ ((x8).length = 4) ∧ (-1 ≤ (x5)) ∧ ((x5) < (((x6)).length : Int)) ∧ (((x6)).length ≤ 1000)
theorem Zvr (x5 : Int) (x6 x7 x8 : List Int) (i_ : Ze8 x5 x6 x7 x8) : Zxh (fun R next k0 => Zfe Z1c R x5 x6 x7 x8 next k0) (fun nx5 nx6 nx7 nx8 => Ze8 nx5 nx6 nx7 nx8 ∧ ((nx5) + 1).toNat < ((x5) + 1).toNat) (fun z0 z1 z2 => ((z1).length = 4) ∧ ((z2).length = 4)) := by
  obtain ⟨i_0, i_1, i_2, i_3, i_4⟩ := i_
  refine Zxh.of ?_
  delta Zfe
  refine Tot.br (fun h1 => ?_) (fun h1 => ?_)
  · first | simp (disch := omega) only [ts, *] at h1 | skip
    all_goals
      refine T_4.bind (Z11s x5 63 x6 x7 x8) (fun y16 y17 y18 y19 q2 => ?_)
      obtain ⟨q2_0, q2_1, q2_2, q2_3⟩ := q2
      exact Tot.ret _
  · first | simp (disch := omega) only [ts, *] at h1 | skip
    all_goals
      exact Tot.ret _
theorem Z119 (x5 : Int) (x6 x7 x8 : List Int) (i_ : autoParam (Ze8 x5 x6 x7 x8) sA._auto_1) : T_3 (fun R k0 => Zut Z1c R x5 x6 x7 x8 k0) (fun z0 z1 z2 => ((z1).length = 4) ∧ ((z2).length = 4)) :=
 Z1bh (r := fun R n x5 x6 x7 x8 k0 => runP Zjq Zjo (Zbe Z1c).step R n (((), (), (), x5, ()), ((x6, ()), (x7, ()), (x8, ()), ())) (fun r => k0 (r.1) (r.2.1) (r.2.2), ())) (fun _ _ _ _ _ _ _ => rfl) Ze8 (fun x5 x6 x7 x8 => ((x5) + 1).toNat) Zvr (Zb1 x5 x6 x7 x8) x5 x6 x7 x8 i_ (by obtain ⟨i_0, i_1, i_2, i_3, i_4⟩ := i_; unfold Zb1; first | omega | (simp only [ts] <;> omega))
theorem Zrv (a1 : List Int) (h_ : autoParam ((((a1)).length ≤ 1000)) sA._auto_1) : T_2 (fun R k0 => Z10 R a1 k0) (fun z0 z1 => ((z0).length = 4)) := by
  refine T_2.of ?_
  delta Z10 Zn4
  refine Tot.lett (fun v2 e_v2 => ?_)
  refine Tot.lett (fun v3 e_v3 => ?_)
  refine Tot.lett (fun v4 e_v4 => ?_)
  refine T_3.bind (Z119 (subI .i64 v4 1) a1 v2 v3) (fun y20 y21 y22 q1 => ?_)
  obtain ⟨q1_0, q1_1⟩ := q1
  exact Tot.ret _
abbrev Z9z (x3 : Int) (x4 : List Int) (x5 : Str) : Prop := ((x4).length = 4) ∧ ((x5).length = 32) ∧ (0 ≤ (x3)) ∧ ((x3) ≤ 32)
theorem Zqd (x3 : Int) (x4 : List Int) (x5 : Str) (i_ : Z9z x3 x4 x5) : Zxb (fun R next k0 => Zc3 R x3 x4 x5 next k0) (fun nx3 nx4 nx5 => Z9z nx3 nx4 nx5 ∧ (32 - (nx3)).toNat < (32 - (x3)).toNat) (fun z0 => ((z0).length = 32)) := by
  obtain ⟨i_0, i_1, i_2, i_3⟩ := i_
  refine Zxb.of ?_
  delta Zc3
  refine Tot.br (fun h1 => ?_) (fun h1 => ?_)
  · first | simp (disch := omega) only [ts, *] at h1 | skip
    all_goals
      refine Tot.gd ?_
      refine Tot.lett (fun v6 e_v6 => ?_)
      refine Tot.gd ?_
      refine Tot.lett (fun v7 e_v7 => ?_)
      refine Tot.gd ?_
      refine Tot.lett (fun v8 e_v8 => ?_)
      exact Tot.ret _
  · first | simp (disch := omega) only [ts, *] at h1 | skip
    all_goals
      exact Tot.ret _
theorem Zwq (x3 : Int) (x4 : List Int) (x5 : Str) (i_ : autoParam (Z9z x3 x4 x5) sA._auto_1) : T_1 (fun R k0 => Zo4 R x3 x4 x5 k0) (fun z0 => ((z0).length = 32)) :=
 Z1bi (r := fun R n x3 x4 x5 k0 => runP Zel Zej (Z75).step R n (((), (), x3, ()), ((x4, ()), (x5, ()), ())) (fun r => k0 (r), ())) (fun _ _ _ _ _ _ => rfl) Z9z (fun x3 x4 x5 => (32 - (x3)).toNat) Zqd (Z7a x3 x4 x5) x3 x4 x5 i_ (by obtain ⟨i_0, i_1, i_2, i_3⟩ := i_; unfold Z7a; first | omega | (simp only [ts] <;> omega))
theorem Zkb (a1 : List Int) (h_ : autoParam (((a1).length = 4)) sA._auto_1) : T_1 (fun R k0 => Zk R a1 k0) (fun z0 => (((z0)).length = 32)) := by
  refine T_1.of ?_
  delta Zk Zhg
  refine Tot.lett (fun v2 e_v2 => ?_)
  refine T_1.bind (Zwq 0 a1 v2) (fun y9 q1 => ?_)
  replace q1 : (y9).length = 32 := q1
  exact Tot.ret _
theorem Z17x (a1 : Str) (h_ : autoParam ((((a1)).length = 64)) sA._auto_1) : T_2 (fun R k0 => Z76 R a1 k0) (fun z0 z1 => (((z0)).length = 32)) := by
  refine T_2.of ?_
  delta Z76 Zvq
  refine Tot.lett (fun v2 e_v2 => ?_)
  refine Tot.br (fun h1 => ?_) (fun h1 => ?_)
  · first | simp (disch := omega) only [ts, *] at h1 | skip
    all_goals
      exact Tot.ret _
  · first | simp (disch := omega) only [ts, *] at h1 | skip
    all_goals
      refine T_1.bind (Zc4 a1) (fun r3 q2 => ?_)
      replace q2 : ((r3)).length = ((a1)).length / 8 := q2
      refine T_2.bind (Zrv r3) (fun r4 r5 q3 => ?_)
      replace q3 : (r4).length = 4 := q3
      refine T_1.bind (Zkb r4) (fun r6 q4 => ?_)
      replace q4 : ((r6)).length = 32 := q4
      exact Tot.ret _
abbrev Zgl (gx17 : Str) (gx18 gx19 gx20 gx21 gx22 gx23 gx24 : Int) (gx25 gx26 gx27 : List Int) (x17 : Str) (x18 x19 x20 x21 x22 x23 x24 : Int) (x25 x26 x27 : List Int) : Prop := (0 ≤ (x18)) ∧ ((x18) < 4) ∧ ((x23) = 4) ∧ (((x27)).length = 4) ∧ (((x25)).length = 8) ∧ (0 ≤ (x24)) ∧ ((x24) ≤ 4) ∧ ((x17) = (gx17)) ∧ ((x21) = (gx21)) ∧ ((x22) = (gx22)) ∧ ((x26) = (gx26)) ∧ ((x18) = (gx18))
theorem Zze (gx17 : Str) (gx18 gx19 gx20 gx21 gx22 gx23 gx24 : Int) (gx25 gx26 gx27 : List Int) (x17 : Str) (x18 x19 x20 x21 x22 x23 x24 : Int) (x25 x26 x27 : List Int) (i_ : Zgl gx17 gx18 gx19 gx20 gx21 gx22 gx23 gx24 gx25 gx26 gx27 x17 x18 x19 x20 x21 x22 x23 x24 x25 x26 x27) : Z15z (fun R next k0 => Zie Z17 Z1m Zj Z10 Zk R x17 x18 x19 x20 x21 x22 x23 x24 x25 x26 x27 next k0) (fun nx17 nx18 nx19 nx20 nx21 nx22 nx23 nx24 nx25 nx26 nx27 => Zgl gx17 gx18 gx19 gx20 gx21 gx22 gx23 gx24 gx25 gx26 gx27 nx17 nx18 nx19 nx20 nx21 nx22 nx23 nx24 nx25 nx26 nx27 ∧ (4 - (nx24)).toNat < (4 - (x24)).toNat) (fun z0 z1 z2 z3 z4 z5 z6 => ((z0) = (gx17)) ∧ ((z1) = (gx18)) ∧ ((z3) = (gx21)) ∧ ((z4) = (gx22)) ∧ (((z5)).length = 8) ∧ ((z6) = (gx26))) := by
  obtain ⟨i_0, i_1, i_2, i_3, i_4, i_5, i_6, i_7, i_8, i_9, i_10, i_11⟩ := i_
  refine Z15z.of ?_
  delta Zie
  refine Tot.br (fun h1 => ?_) (fun h1 => ?_)
  · first | simp (disch := omega) only [ts, *] at h1 | skip
    all_goals
      refine Tot.gd ?_
      refine T_2.bind (Z10x x19 (x27.getD x24.toNat 0)) (fun r28 r29 q2 => ?_)
      refine T_2.bind (Zes r29 x20 0) (fun r30 r31 q3 => ?_)
      obtain ⟨q3_0, q3_1, q3_2, q3_3⟩ := q3
      refine Tot.gd ?_
      refine Tot.lett (fun v32 e_v32 => ?_)
      refine T_2.bind (Zes v32 r30 0) (fun r33 r34 q4 => ?_)
      obtain ⟨q4_0, q4_1, q4_2, q4_3⟩ := q4
      refine Tot.gd ?_
      refine Tot.lett (fun v35 e_v35 => ?_)
      refine Tot.lett (fun v36 e_v36 => ?_)
      exact Tot.ret _
  · first | simp (disch := omega) only [ts, *] at h1 | skip
    all_goals
      exact Tot.ret _
theorem Z13t (x17 : Str) (x18 x19 x20 x21 x22 x23 x24 : Int) (x25 x26 x27 : List Int) (i_ : autoParam (Zgl x17 x18 x19 x20 x21 x22 x23 x24 x25 x26 x27 x17 x18 x19 x20 x21 x22 x23 x24 x25 x26 x27) sA._auto_1) : T_7 (fun R k0 => Zya Z17 Z1m Zj Z10 Zk R x17 x18 x19 x20 x21 x22 x23 x24 x25 x26 x27 k0) (fun z0 z1 z2 z3 z4 z5 z6 => ((z0) = (x17)) ∧ ((z1) = (x18)) ∧ ((z3) = (x21)) ∧ ((z4) = (x22)) ∧ (((z5)).length = 8) ∧ ((z6) = (x26))) :=
 Z1df (r := fun R n x17 x18 x19 x20 x21 x22 x23 x24 x25 x26 x27 k0 => runP Zn5 Zmr (Ze0 Z17 Z1m Zj Z10 Zk).step R n ((x17, (), x18, x19, x20, (), x21, x22, (), x23, x24, ()), ((x25, ()), (x26, ()), (x27, ()), ())) (fun r => k0 (r.1) (r.2.1) (r.2.2.1) (r.2.2.2.1) (r.2.2.2.2.1) (r.2.2.2.2.2.1) (r.2.2.2.2.2.2), ())) (fun _ _ _ _ _ _ _ _ _ _ _ _ _ _ => rfl) (Zgl x17 x18 x19 x20 x21 x22 x23 x24 x25 x26 x27) (fun x17 x18 x19 x20 x21 x22 x23 x24 x25 x26 x27 => (4 - (x24)).toNat) (Zze x17 x18 x19 x20 x21 x22 x23 x24 x25 x26 x27) (Zcu x17 x18 x19 x20 x21 x22 x23 x24 x25 x26 x27) x17 x18 x19 x20 x21 x22 x23 x24 x25 x26 x27 i_ (by obtain ⟨i_0, i_1, i_2, i_3, i_4, i_5, i_6, i_7, i_8, i_9, i_10, i_11⟩ := i_; unfold Zcu; first | omega | (simp only [ts] <;> omega))
abbrev Zgk (gx44 : Str) (gx45 gx46 gx47 gx48 : Int) (gx49 gx50 : List Int) (x44 : Str) (x45 x46 x47 x48 : Int) (x49 x50 : List Int) : Prop := (((x49)).length = 8) ∧ (0 ≤ (x46)) ∧ ((x46) ≤ 8) ∧ ((x44) = (gx44)) ∧ ((x47) = (gx47)) ∧ ((x48) = (gx48)) ∧ ((x50) = (gx50))
theorem Zzn (gx44 : Str) (gx45 gx46 gx47 gx48 : Int) (gx49 gx50 : List Int) (x44 : Str) (x45 x46 x47 x48 : Int) (x49 x50 : List Int) (i_ : Zgk gx44 gx45 gx46 gx47 gx48 gx49 gx50 x44 x45 x46 x47 x48 x49 x50) : Z14k (fun R next k0 => Zi3 Z17 Z1m Zj Z10 Zk R x44 x45 x46 x47 x48 x49 x50 next k0) (fun nx44 nx45 nx46 nx47 nx48 nx49 nx50 => Zgk gx44 gx45 gx46 gx47 gx48 gx49 gx50 nx44 nx45 nx46 nx47 nx48 nx49 nx50 ∧ (8 - (nx46)).toNat < (8 - (x46)).toNat) (fun z0 z1 z2 z3 z4 => ((z0) = (gx44)) ∧ ((z1) = (gx47)) ∧ ((z2) = (gx48)) ∧ (((z3)).length = 8) ∧ ((z4) = (gx50))) := by
  obtain ⟨i_0, i_1, i_2, i_3, i_4, i_5, i_6⟩ := i_
  refine Z14k.of ?_
  delta Zi3
  refine Tot.lett (fun v51 e_v51 => ?_)
  refine Tot.br (fun h1 => ?_) (fun h1 => ?_)
  · first | simp (disch := omega) only [ts, *] at h1 | skip
    all_goals
      refine Tot.gd ?_
      refine T_2.bind (Zes (x49.getD x46.toNat 0) x45 0) (fun r52 r53 q2 => ?_)
      obtain ⟨q2_0, q2_1, q2_2, q2_3⟩ := q2
      refine Tot.gd ?_
      exact Tot.ret _
  · first | simp (disch := omega) only [ts, *] at h1 | skip
    all_goals
      exact Tot.ret _
theorem Z14i (x44 : Str) (x45 x46 x47 x48 : Int) (x49 x50 : List Int) (i_ : autoParam (Zgk x44 x45 x46 x47 x48 x49 x50 x44 x45 x46 x47 x48 x49 x50) sA._auto_1) : T_5 (fun R k0 => Zz0 Z17 Z1m Zj Z10 Zk R x44 x45 x46 x47 x48 x49 x50 k0) (fun z0 z1 z2 z3 z4 => ((z0) = (x44)) ∧ ((z1) = (x47)) ∧ ((z2) = (x48)) ∧ (((z3)).length = 8) ∧ ((z4) = (x50))) :=
 Z1cw (r := fun R n x44 x45 x46 x47 x48 x49 x50 k0 => runP Zmh Zn9 (Zdz Z17 Z1m Zj Z10 Zk).step R n ((x44, (), x45, x46, (), x47, x48, ()), ((x49, ()), (x50, ()), ())) (fun r => k0 (r.1) (r.2.1) (r.2.2.1) (r.2.2.2.1) (r.2.2.2.2), ())) (fun _ _ _ _ _ _ _ _ _ _ => rfl) (Zgk x44 x45 x46 x47 x48 x49 x50) (fun x44 x45 x46 x47 x48 x49 x50 => (8 - (x46)).toNat) (Zzn x44 x45 x46 x47 x48 x49 x50) (Zc8 x44 x45 x46 x47 x48 x49 x50) x44 x45 x46 x47 x48 x49 x50 i_ (by obtain ⟨i_0, i_1, i_2, i_3, i_4, i_5, i_6⟩ := i_; unfold Zc8; first | omega | (simp only [ts] <;> omega))
abbrev Zgi (x10 : Str) (x11 x12 : Int) (x13 x14 : List Int) : Prop := (((x10)).length = 32) ∧ ((x11) = 4) ∧ (0 ≤ (x12)) ∧ ((x12) ≤ 4) ∧ (((x13)).length = 8) ∧ (((x14)).length = 4)
theorem Zyb (x10 : Str) (x11 x12 : Int) (x13 x14 : List Int) (i_ : Zgi x10 x11 x12 x13 x14) : Z19z (fun R next k0 => Zig Z17 Z1m Zj Z10 Zk R x10 x11 x12 x13 x14 next k0) (fun nx10 nx11 nx12 nx13 nx14 => Zgi nx10 nx11 nx12 nx13 nx14 ∧ (4 - (nx12)).toNat < (4 - (x12)).toNat) (fun z0 => (((z0)).length = 8)) := by
  obtain ⟨i_0, i_1, i_2, i_3, i_4, i_5⟩ := i_
  refine Z19z.of ?_
  delta Zig
  refine Tot.br (fun h1 => ?_) (fun h1 => ?_)
  · first | simp (disch := omega) only [ts, *] at h1 | skip
    all_goals
      refine Tot.gd ?_
      refine T_1.bind (Zc4 x10) (fun r15 q2 => ?_)
      replace q2 : ((r15)).length = ((x10)).length / 8 := q2
      refine Tot.lett (fun v16 e_v16 => ?_)
      refine T_7.bind (Z13t x10 x12 (x14.getD x12.toNat 0) 0 x11 x12 v16 0 x13 x14 r15) (fun y37 y38 y39 y40 y41 y42 y43 q3 => ?_)
      obtain ⟨q3_0, q3_1, q3_2, q3_3, q3_4, q3_5⟩ := q3
      refine T_5.bind (Z14i y37 y39 (addI .i64 y38 4) y40 y41 y42 y43) (fun y54 y55 y56 y57 y58 q4 => ?_)
      obtain ⟨q4_0, q4_1, q4_2, q4_3, q4_4⟩ := q4
      exact Tot.ret _
  · first | simp (disch := omega) only [ts, *] at h1 | skip
    all_goals
      exact Tot.ret _
theorem Z14j (x10 : Str) (x11 x12 : Int) (x13 x14 : List Int) (i_ : autoParam (Zgi x10 x11 x12 x13 x14) sA._auto_1) : T_1 (fun R k0 => Zyi Z17 Z1m Zj Z10 Zk R x10 x11 x12 x13 x14 k0) (fun z0 => (((z0)).length = 8)) :=
 Z1dm (r := fun R n x10 x11 x12 x13 x14 k0 => runP Zm2 Zmv (Zdy Z17 Z1m Zj Z10 Zk).step R n ((x10, (), (), x11, x12, ()), ((x13, ()), (x14, ()), ())) (fun r => k0 (r), ())) (fun _ _ _ _ _ _ _ _ => rfl) Zgi (fun x10 x11 x12 x13 x14 => (4 - (x12)).toNat) Zyb (Zcs x10 x11 x12 x13 x14) x10 x11 x12 x13 x14 i_ (by obtain ⟨i_0, i_1, i_2, i_3, i_4, i_5⟩ := i_; unfold Zcs; first | omega | (simp only [ts] <;> omega))
theorem Z15x (a1 a2 a3 : Str) (h_ : autoParam ((((a1)).length = 32) ∧ (((a2)).length = 32) ∧ (((a3)).length = 32)) sA._auto_1) : T_2 (fun R k0 => Zh8 R a1 a2 a3 k0) (fun z0 z1 => (((z0)).length = 32) ∧ ((z1) = 0)) := by
  obtain ⟨h_0, h_1, h_2⟩ := h_
  refine T_2.of ?_
  delta Zh8 Zrr
  refine Tot.lett (fun v4 e_v4 => ?_)
  refine Tot.br (fun h1 => ?_) (fun h1 => ?_)
  · first | simp (disch := omega) only [ts, *] at h1 | skip
    all_goals
      exact Tot.ret _
  · first | simp (disch := omega) only [ts, *] at h1 | skip
    all_goals
      refine Tot.lett (fun v5 e_v5 => ?_)
      refine Tot.br (fun h2 => ?_) (fun h2 => ?_)
      · first | simp (disch := omega) only [ts, *] at h2 | skip
        all_goals
          exact Tot.ret _
      · first | simp (disch := omega) only [ts, *] at h2 | skip
        all_goals
          refine Tot.lett (fun v6 e_v6 => ?_)
          refine Tot.br (fun h3 => ?_) (fun h3 => ?_)
          · first | simp (disch := omega) only [ts, *] at h3 | skip
            all_goals
              exact Tot.ret _
          · first | simp (disch := omega) only [ts, *] at h3 | skip
            all_goals
              refine T_1.bind (Zc4 a3) (fun r7 q4 => ?_)
              replace q4 : ((r7)).length = ((a3)).length / 8 := q4
              refine Tot.gd ?_
              refine T_1.bind (Zc4 a1) (fun r8 q5 => ?_)
              replace q5 : ((r8)).length = ((a1)).length / 8 := q5
              refine Tot.lett (fun v9 e_v9 => ?_)
              refine T_1.bind (Z14j a2 v9 0 (r7 ++ [0, 0, 0, 0]) r8) (fun y59 q6 => ?_)
              replace q6 : ((y59)).length = 8 := q6
              refine T_2.bind (Zrv y59) (fun r60 r61 q7 => ?_)
              replace q7 : (r60).length = 4 := q7
              refine T_1.bind (Zkb r60) (fun r62 q8 => ?_)
              replace q8 : ((r62)).length = 32 := q8
              exact Tot.ret _
theorem Z185 : T_2 (fun R k0 => Z6z R  k0) (fun z0 z1 => ((z0) = 0) ∧ ((z1) = 64)) := by
  refine T_2.of ?_
  delta Z6z Zwi
  exact Tot.ret _
theorem Z10b (a1 : Str) (a2 : Int) (a3 : Str) (h_ : autoParam ((((a1)).length ≤ 1000000) ∧ (((a3)).length ≤ 1000000)) sA._auto_1) : T_3 (fun R k0 => Z2g R a1 a2 a3 k0) (fun z0 z1 z2 => ((z1) = (a2)) ∧ (((z2)).length = ((a3)).length + ((a1)).length)) := by
  obtain ⟨h_0, h_1⟩ := h_
  refine T_3.of ?_
  delta Z2g Zi1
  refine Tot.gd ?_
  exact Tot.ret _
theorem Zv8 : T_1 (fun R k0 => Z3b R  k0) (fun z0 => ((z0).length = 80)) := by
  refine T_1.of ?_
  delta Z3b Zqu
  refine Tot.lett (fun v1 e_v1 => ?_)
  exact Tot.ret _
theorem Z10z : T_1 (fun R k0 => Z5w R  k0) (fun z0 => ((z0).length = 8)) := by
  refine T_1.of ?_
  delta Z5w Zzo
  refine Tot.lett (fun v1 e_v1 => ?_)
  refine Tot.lett (fun v2 e_v2 => ?_)
  exact Tot.ret _
abbrev Zlx (x8 : List Int) (x9 x10 x11 : Int) (x12 x13 x14 x15 x16 x17 : List Int) : Prop := ((x8).length = 8) ∧ ((x12).length = 3) ∧ ((x13).length = 3) ∧ ((x14).length = 3) ∧ ((x15).length = 3) ∧ ((x16).length = 8) ∧ ((x17).length = 80) ∧ (0 ≤ (x9)) ∧ ((x9) ≤ 8) ∧ ((x10) = 32) ∧ ((x11) = 64) ∧ (Rot 32 (x12)) ∧ (Rot 32 (x13)) ∧ (Rot 32 (x14)) ∧ (Rot 32 (x15))
theorem Z13a (x8 : List Int) (x9 x10 x11 : Int) (x12 x13 x14 x15 x16 x17 : List Int) (i_ : Zlx x8 x9 x10 x11 x12 x13 x14 x15 x16 x17) : Z164 (fun R next k0 => Zmx Z3b Z5w R x8 x9 x10 x11 x12 x13 x14 x15 x16 x17 next k0) (fun nx8 nx9 nx10 nx11 nx12 nx13 nx14 nx15 nx16 nx17 => Zlx nx8 nx9 nx10 nx11 nx12 nx13 nx14 nx15 nx16 nx17 ∧ (8 - (nx9)).toNat < (8 - (x9)).toNat) (fun z0 z1 z2 z3 z4 z5 z6 z7 => ((z2).length = 3) ∧ ((z3).length = 3) ∧ ((z4).length = 3) ∧ ((z5).length = 3) ∧ ((z6).length = 8) ∧ ((z7).length = 80) ∧ ((z0) = 32) ∧ ((z1) = 64) ∧ (Rot 32 (z2)) ∧ (Rot 32 (z3)) ∧ (Rot 32 (z4)) ∧ (Rot 32 (z5))) := by
  obtain ⟨i_0, i_1, i_2, i_3, i_4, i_5, i_6, i_7, i_8, i_9, i_10, i_11, i_12, i_13, i_14⟩ := i_
  refine Z164.of ?_
  delta Zmx
  refine Tot.br (fun h1 => ?_) (fun h1 => ?_)
  · first | simp (disch := omega) only [ts, *] at h1 | skip
    all_goals
      refine Tot.gd ?_
      refine Tot.lett (fun v18 e_v18 => ?_)
      refine Tot.gd ?_
      refine Tot.gd ?_
      refine Tot.lett (fun v19 e_v19 => ?_)
      exact Tot.ret _
  · first | simp (disch := omega) only [ts, *] at h1 | skip
    all_goals
      exact Tot.ret _
theorem Z16x (x8 : List Int) (x9 x10 x11 : Int) (x12 x13 x14 x15 x16 x17 : List Int) (i_ : autoParam (Zlx x8 x9 x10 x11 x12 x13 x14 x15 x16 x17) sA._auto_1) : T_8 (fun R k0 => Z14p Z3b Z5w R x8 x9 x10 x11 x12 x13 x14 x15 x16 x17 k0) (fun z0 z1 z2 z3 z4 z5 z6 z7 => ((z2).length = 3) ∧ ((z3).length = 3) ∧ ((z4).length = 3) ∧ ((z5).length = 3) ∧ ((z6).length = 8) ∧ ((z7).length = 80) ∧ ((z0) = 32) ∧ ((z1) = 64) ∧ (Rot 32 (z2)) ∧ (Rot 32 (z3)) ∧ (Rot 32 (z4)) ∧ (Rot 32 (z5))) :=
 Z1db (r := fun R n x8 x9 x10 x11 x12 x13 x14 x15 x16 x17 k0 => runP Zu3 Zto (Ziu Z3b Z5w).step R n (((), (x8, ()), x9, ()), ((x10, x11, x12, x13, x14, x15, (), x16, ()), ((), ()), (x17, ()), ())) (fun r => k0 (r.1) (r.2.1) (r.2.2.1) (r.2.2.2.1) (r.2.2.2.2.1) (r.2.2.2.2.2.1) (r.2.2.2.2.2.2.1) (r.2.2.2.2.2.2.2), ())) (fun _ _ _ _ _ _ _ _ _ _ _ _ _ => rfl) Zlx (fun x8 x9 x10 x11 x12 x13 x14 x15 x16 x17 => (8 - (x9)).toNat) Z13a (Zgr x8 x9 x10 x11 x12 x13 x14 x15 x16 x17) x8 x9 x10 x11 x12 x13 x14 x15 x16 x17 i_ (by obtain ⟨i_0, i_1, i_2, i_3, i_4, i_5, i_6, i_7, i_8, i_9, i_10, i_11, i_12, i_13, i_14⟩ := i_; unfold Zgr; first | omega | (simp only [ts] <;> omega))
theorem Z19u : T_8 (fun R k0 => Zng R  k0) (fun z0 z1 z2 z3 z4 z5 z6 z7 => ((z2).length = 3) ∧ ((z3).length = 3) ∧ ((z4).length = 3) ∧ ((z5).length = 3) ∧ ((z6).length = 8) ∧ ((z7).length = 80) ∧ ((z0) = 32) ∧ ((z1) = 64) ∧ (Rot 32 (z2)) ∧ (Rot 32 (z3)) ∧ (Rot 32 (z4)) ∧ (Rot 32 (z5))) := by
  refine T_8.of ?_
  delta Zng Zy9
  refine T_1.bind (Zv8) (fun r1 q1 => ?_)
  replace q1 : (r1).length = 80 := q1
  refine Tot.lett (fun v2 e_v2 => ?_)
  refine Tot.lett (fun v3 e_v3 => ?_)
  refine Tot.lett (fun v4 e_v4 => ?_)
  refine Tot.lett (fun v5 e_v5 => ?_)
  refine Tot.lett (fun v6 e_v6 => ?_)
  refine T_1.bind (Z10z) (fun r7 q2 => ?_)
  replace q2 : (r7).length = 8 := q2
  refine T_8.bind (Z16x r7 0 32 64 v2 v3 v4 v5 v6 r1) (fun y20 y21 y22 y23 y24 y25 y26 y27 q3 => ?_)
  obtain ⟨q3_0, q3_1, q3_2, q3_3, q3_4, q3_5, q3_6, q3_7, q3_8, q3_9, q3_10, q3_11⟩ := q3
  exact Tot.ret _
theorem Z8z (a1 a2 : Int) (a3 a4 a5 a6 a7 a8 : List Int) (h_ : autoParam (((a3).length = 3) ∧ ((a4).length = 3) ∧ ((a5).length = 3) ∧ ((a6).length = 3) ∧ ((a7).length = 8) ∧ ((a8).length = 80) ∧ ((a1) = 32) ∧ ((a2) = 64) ∧ (Rot 32 (a3)) ∧ (Rot 32 (a4)) ∧ (Rot 32 (a5)) ∧ (Rot 32 (a6))) sA._auto_1) : T_9 (fun R k0 => Z1 R a1 a2 a3 a4 a5 a6 a7 a8 k0) (fun z0 z1 z2 z3 z4 z5 z6 z7 z8 => ((z3).length = 3) ∧ ((z4).length = 3) ∧ ((z5).length = 3) ∧ ((z6).length = 3) ∧ ((z7).length = 8) ∧ ((z8).length = 80) ∧ ((z0) = 64) ∧ ((z1) = 32) ∧ ((z2) = 64) ∧ (Rot 32 (z3)) ∧ (Rot 32 (z4)) ∧ (Rot 32 (z5)) ∧ (Rot 32 (z6))) := by
  obtain ⟨h_0, h_1, h_2, h_3, h_4, h_5, h_6, h_7, h_8, h_9, h_10, h_11⟩ := h_
  refine T_9.of ?_
  delta Z1 Zbc
  exact Tot.ret _
theorem Z3l (a1 a2 a3 a4 : Int) (a5 a6 a7 a8 a9 a10 : List Int) (h_ : autoParam (((a5).length = 3) ∧ ((a6).length = 3) ∧ ((a7).length = 3) ∧ ((a8).length = 3) ∧ ((a9).length = 8) ∧ ((a10).length = 80) ∧ (0 ≤ (a2)) ∧ ((a2) ≤ (a3)) ∧ ((a3) = 32) ∧ ((a4) = 64) ∧ (Rot 32 (a5)) ∧ (Rot 32 (a6)) ∧ (Rot 32 (a7)) ∧ (Rot 32 (a8))) sA._auto_1) : T_9 (fun R k0 => Z2s R a1 a2 a3 a4 a5 a6 a7 a8 a9 a10 k0) (fun z0 z1 z2 z3 z4 z5 z6 z7 z8 => ((z3).length = 3) ∧ ((z4).length = 3) ∧ ((z5).length = 3) ∧ ((z6).length = 3) ∧ ((z7).length = 8) ∧ ((z8).length = 80) ∧ ((z1) = 32) ∧ ((z2) = 64) ∧ (Rot 32 (z3)) ∧ (Rot 32 (z4)) ∧ (Rot 32 (z5)) ∧ (Rot 32 (z6))) := by
  obtain ⟨h_0, h_1, h_2, h_3, h_4, h_5, h_6, h_7, h_8, h_9, h_10, h_11, h_12, h_13⟩ := h_
  refine T_9.of ?_
  delta Z2s Zc0
  refine Tot.gd ?_
  refine Tot.gd ?_
  refine Tot.lett (fun v11 e_v11 => ?_)
  refine Tot.lett (fun v12 e_v12 => ?_)
  exact Tot.ret _
theorem Zh7 (a1 : Int) (a2 : List Int) (a3 a4 : Int) (a5 a6 a7 a8 a9 a10 : List Int) (h_ : autoParam (((a2).length = 3) ∧ ((a5).length = 3) ∧ ((a6).length = 3) ∧ ((a7).length = 3) ∧ ((a8).length = 3) ∧ ((a9).length = 8) ∧ ((a10).length = 80) ∧ (Rot 32 (a2)) ∧ ((a3) = 32) ∧ ((a4) = 64) ∧ (Rot 32 (a5)) ∧ (Rot 32 (a6)) ∧ (Rot 32 (a7)) ∧ (Rot 32 (a8))) sA._auto_1) : T_9 (fun R k0 => Zi R a1 a2 a3 a4 a5 a6 a7 a8 a9 a10 k0) (fun z0 z1 z2 z3 z4 z5 z6 z7 z8 => ((z3).length = 3) ∧ ((z4).length = 3) ∧ ((z5).length = 3) ∧ ((z6).length = 3) ∧ ((z7).length = 8) ∧ ((z8).length = 80) ∧ ((z1) = 32) ∧ ((z2) = 64) ∧ (Rot 32 (z3)) ∧ (Rot 32 (z4)) ∧ (Rot 32 (z5)) ∧ (Rot 32 (z6))) := by
  obtain ⟨h_0, h_1, h_2, h_3, h_4, h_5, h_6, h_7, h_8, h_9, h_10, h_11, h_12, h_13⟩ := h_
  refine T_9.of ?_
  delta Zi Zcr
  obtain ⟨⟨r0, r0x⟩, ⟨r1, r1x⟩, ⟨r2, r2x⟩⟩ := (show Rot 32 (a2) by assumption)
  refine Tot.gd ?_
  refine Tot.lett (fun v11 e_v11 => ?_)
  refine T_9.bind (Z3l a1 (a2.getD 0 0) a3 a4 a5 a6 a7 a8 a9 a10) (fun r12 r13 r14 r15 r16 r17 r18 r19 r20 q1 => ?_)
  obtain ⟨q1_0, q1_1, q1_2, q1_3, q1_4, q1_5, q1_6, q1_7, q1_8, q1_9, q1_10, q1_11⟩ := q1
  refine T_9.bind (Z3l a1 (a2.getD 1 0) a3 a4 a5 a6 a7 a8 a9 a10) (fun r21 r22 r23 r24 r25 r26 r27 r28 r29 q2 => ?_)
  obtain ⟨q2_0, q2_1, q2_2, q2_3, q2_4, q2_5, q2_6, q2_7, q2_8, q2_9, q2_10, q2_11⟩ := q2
  refine Tot.lett (fun v30 e_v30 => ?_)
  exact Tot.ret _
abbrev Z5d (gx38 : Str) (gx39 gx40 gx41 gx42 gx43 gx44 gx45 gx46 : Int) (gx47 gx48 gx49 gx50 gx51 gx52 gx53 : List Int) (x38 : Str) (x39 x40 x41 x42 x43 x44 x45 x46 : Int) (x47 x48 x49 x50 x51 x52 x53 : List Int) : Prop := ((x47).length = 3) ∧ ((x48).length = 3) ∧ ((x49).length = 3) ∧ ((x50).length = 3) ∧ ((x51).length = 8) ∧ ((x52).length = 80) ∧ ((x41) = (gx41)) ∧ ((x42) = (gx42)) ∧ ((x39) = 4) ∧ ((x43) = 4) ∧ (0 ≤ (x40)) ∧ ((x40) < 16) ∧ (0 ≤ (x44)) ∧ ((x44) ≤ 4) ∧ (((x38)).length = 64) ∧ (((x53)).length = 64) ∧ ((x45) = 32) ∧ ((x46) = 64) ∧ (Rot 32 (x47)) ∧ (Rot 32 (x48)) ∧ (Rot 32 (x49)) ∧ (Rot 32 (x50))
theorem Zkt (gx38 : Str) (gx39 gx40 gx41 gx42 gx43 gx44 gx45 gx46 : Int) (gx47 gx48 gx49 gx50 gx51 gx52 gx53 : List Int) (x38 : Str) (x39 x40 x41 x42 x43 x44 x45 x46 : Int) (x47 x48 x49 x50 x51 x52 x53 : List Int) (i_ : Z5d gx38 gx39 gx40 gx41 gx42 gx43 gx44 gx45 gx46 gx47 gx48 gx49 gx50 gx51 gx52 gx53 x38 x39 x40 x41 x42 x43 x44 x45 x46 x47 x48 x49 x50 x51 x52 x53) : Ztq (fun R next k0 => Z7p Zi R x38 x39 x40 x41 x42 x43 x44 x45 x46 x47 x48 x49 x50 x51 x52 x53 next k0) (fun nx38 nx39 nx40 nx41 nx42 nx43 nx44 nx45 nx46 nx47 nx48 nx49 nx50 nx51 nx52 nx53 => Z5d gx38 gx39 gx40 gx41 gx42 gx43 gx44 gx45 gx46 gx47 gx48 gx49 gx50 gx51 gx52 gx53 nx38 nx39 nx40 nx41 nx42 nx43 nx44 nx45 nx46 nx47 nx48 nx49 nx50 nx51 nx52 nx53 ∧ (4 - (nx44)).toNat < (4 - (x44)).toNat) (fun z0 z1 z2 z3 z4 z5 z6 z7 z8 z9 z10 z11 z12 => ((z6).length = 3) ∧ ((z7).length = 3) ∧ ((z8).length = 3) ∧ ((z9).length = 3) ∧ ((z10).length = 8) ∧ ((z11).length = 80) ∧ (((z0)).length = 64) ∧ ((z1) = 4) ∧ ((z2) = (gx41)) ∧ ((z3) = (gx42)) ∧ (((z12)).length = 64) ∧ ((z4) = 32) ∧ ((z5) = 64) ∧ (Rot 32 (z6)) ∧ (Rot 32 (z7)) ∧ (Rot 32 (z8)) ∧ (Rot 32 (z9))) := by
  obtain ⟨i_0, i_1, i_2, i_3, i_4, i_5, i_6, i_7, i_8, i_9, i_10, i_11, i_12, i_13, i_14, i_15, i_16, i_17, i_18, i_19, i_20, i_21⟩ := i_
  refine Ztq.of ?_
  delta Z7p
  refine Tot.br (fun h1 => ?_) (fun h1 => ?_)
  · first | simp (disch := omega) only [ts, *] at h1 | skip
    all_goals
      refine Tot.gd ?_
      refine Tot.lett (fun v54 e_v54 => ?_)
      refine Tot.lett (fun v55 e_v55 => ?_)
      refine Tot.gd ?_
      refine Tot.lett (fun v56 e_v56 => ?_)
      refine Tot.lett (fun v57 e_v57 => ?_)
      refine Tot.gd ?_
      exact Tot.ret _
  · first | simp (disch := omega) only [ts, *] at h1 | skip
    all_goals
      exact Tot.ret _
theorem Zok (x38 : Str) (x39 x40 x41 x42 x43 x44 x45 x46 : Int) (x47 x48 x49 x50 x51 x52 x53 : List Int) (i_ : autoParam (Z5d x38 x39 x40 x41 x42 x43 x44 x45 x46 x47 x48 x49 x50 x51 x52 x53 x38 x39 x40 x41 x42 x43 x44 x45 x46 x47 x48 x49 x50 x51 x52 x53) sA._auto_1) : T_13 (fun R k0 => Zho Zi R x38 x39 x40 x41 x42 x43 x44 x45 x46 x47 x48 x49 x50 x51 x52 x53 k0) (fun z0 z1 z2 z3 z4 z5 z6 z7 z8 z9 z10 z11 z12 => ((z6).length = 3) ∧ ((z7).length = 3) ∧ ((z8).length = 3) ∧ ((z9).length = 3) ∧ ((z10).length = 8) ∧ ((z11).length = 80) ∧ (((z0)).length = 64) ∧ ((z1) = 4) ∧ ((z2) = (x41)) ∧ ((z3) = (x42)) ∧ (((z12)).length = 64) ∧ ((z4) = 32) ∧ ((z5) = 64) ∧ (Rot 32 (z6)) ∧ (Rot 32 (z7)) ∧ (Rot 32 (z8)) ∧ (Rot 32 (z9))) :=
 Z1av (r := fun R n x38 x39 x40 x41 x42 x43 x44 x45 x46 x47 x48 x49 x50 x51 x52 x53 k0 => runP Z9r Z9d (Z45 Zi).step R n (((), x38, (), x39, x40, x41, x42, x43, x44, ()), ((x45, x46, x47, x48, x49, x50, (), x51, ()), ((), ()), (x52, ()), (x53, ()), ())) (fun r => k0 (r.1) (r.2.1) (r.2.2.1) (r.2.2.2.1) (r.2.2.2.2.1) (r.2.2.2.2.2.1) (r.2.2.2.2.2.2.1) (r.2.2.2.2.2.2.2.1) (r.2.2.2.2.2.2.2.2.1) (r.2.2.2.2.2.2.2.2.2.1) (r.2.2.2.2.2.2.2.2.2.2.1) (r.2.2.2.2.2.2.2.2.2.2.2.1) (r.2.2.2.2.2.2.2.2.2.2.2.2), ())) (fun _ _ _ _ _ _ _ _ _ _ _ _ _ _ _ _ _ _ _ => rfl) (Z5d x38 x39 x40 x41 x42 x43 x44 x45 x46 x47 x48 x49 x50 x51 x52 x53) (fun x38 x39 x40 x41 x42 x43 x44 x45 x46 x47 x48 x49 x50 x51 x52 x53 => (4 - (x44)).toNat) (Zkt x38 x39 x40 x41 x42 x43 x44 x45 x46 x47 x48 x49 x50 x51 x52 x53) (Z4m x38 x39 x40 x41 x42 x43 x44 x45 x46 x47 x48 x49 x50 x51 x52 x53) x38 x39 x40 x41 x42 x43 x44 x45 x46 x47 x48 x49 x50 x51 x52 x53 i_ (by obtain ⟨i_0, i_1, i_2, i_3, i_4, i_5, i_6, i_7, i_8, i_9, i_10, i_11, i_12, i_13, i_14, i_15, i_16, i_17, i_18, i_19, i_20, i_21⟩ := i_; unfold Z4m; first | omega | (simp only [ts] <;> omega))
theorem Zla (x25 : Str) (x26 x27 x28 x29 x30 : Int) (x31 x32 x33 x34 x35 x36 x37 : List Int) (i_ : ((x31).length = 3) ∧ ((x32).length = 3) ∧ ((x33).length = 3) ∧ ((x34).length = 3) ∧ ((x35).length = 8) ∧ ((x36).length = 80) ∧ (((x25)).length = 64) ∧ ((x26) = 4) ∧ (0 ≤ (x28)) ∧ ((x28) < 64) ∧ (((x37)).length = 64) ∧ ((x29) = 32) ∧ ((x30) = 64) ∧ (Rot 32 (x31)) ∧ (Rot 32 (x32)) ∧ (Rot 32 (x33)) ∧ (Rot 32 (x34))) : Z86 (fun R k0 k1 => Z7j Zi R x25 x26 x27 x28 x29 x30 x31 x32 x33 x34 x35 x36 x37 k0 k1) (fun z0 z1 z2 z3 z4 z5 z6 z7 z8 z9 z10 z11 z12 => ((z6).length = 3) ∧ ((z7).length = 3) ∧ ((z8).length = 3) ∧ ((z9).length = 3) ∧ ((z10).length = 8) ∧ ((z11).length = 80) ∧ (((z0)).length = 64) ∧ ((z1) = 4) ∧ ((z2) = (x27)) ∧ ((z3) = (x28)) ∧ (((z12)).length = 64) ∧ ((z4) = 32) ∧ ((z5) = 64) ∧ (Rot 32 (z6)) ∧ (Rot 32 (z7)) ∧ (Rot 32 (z8)) ∧ (Rot 32 (z9))) (fun z0 z1 z2 z3 z4 z5 z6 z7 z8 z9 z10 z11 z12 z13 => ((z6).length = 3) ∧ ((z7).length = 3) ∧ ((z8).length = 3) ∧ ((z9).length = 3) ∧ ((z10).length = 8) ∧ ((z11).length = 80) ∧ (((z0)).length = 64) ∧ ((z1) = 4) ∧ ((z2) = (x27)) ∧ ((z3) = (x28)) ∧ (((z12)).length = 64) ∧ ((z4) = 32) ∧ ((z5) = 64) ∧ (Rot 32 (z6)) ∧ (Rot 32 (z7)) ∧ (Rot 32 (z8)) ∧ (Rot 32 (z9))) := by
  obtain ⟨i_0, i_1, i_2, i_3, i_4, i_5, i_6, i_7, i_8, i_9, i_10, i_11, i_12, i_13, i_14, i_15, i_16⟩ := i_
  refine Z86.of ?_
  delta Z7j
  refine Tot.br (fun h1 => ?_) (fun h1 => ?_)
  · first | simp (disch := omega) only [ts, *] at h1 | skip
    all_goals
      refine T_13.bind (Zok x25 x26 x28 x27 x28 x26 0 x29 x30 x31 x32 x33 x34 x35 x36 x37) (fun y58 y59 y60 y61 y62 y63 y64 y65 y66 y67 y68 y69 y70 q2 => ?_)
      obtain ⟨q2_0, q2_1, q2_2, q2_3, q2_4, q2_5, q2_6, q2_7, q2_8, q2_9, q2_10, q2_11, q2_12, q2_13, q2_14, q2_15, q2_16⟩ := q2
      exact Tot.ret _
  · first | simp (disch := omega) only [ts, *] at h1 | skip
    all_goals
      refine Tot.gd ?_
      refine Tot.lett (fun v71 e_v71 => ?_)
      refine Tot.gd ?_
      refine Tot.lett (fun v72 e_v72 => ?_)
      refine Tot.gd ?_
      refine Tot.lett (fun v73 e_v73 => ?_)
      refine Tot.gd ?_
      refine Tot.lett (fun v74 e_v74 => ?_)
      refine T_9.bind (Zh7 v73 x31 x29 x30 x31 x32 x33 x34 x35 x36) (fun r75 r76 r77 r78 r79 r80 r81 r82 r83 q3 => ?_)
      obtain ⟨q3_0, q3_1, q3_2, q3_3, q3_4, q3_5, q3_6, q3_7, q3_8, q3_9, q3_10, q3_11⟩ := q3
      refine Tot.lett (fun v84 e_v84 => ?_)
      refine T_9.bind (Zh7 v74 x32 x29 x30 x31 x32 x33 x34 x35 x36) (fun r85 r86 r87 r88 r89 r90 r91 r92 r93 q4 => ?_)
      obtain ⟨q4_0, q4_1, q4_2, q4_3, q4_4, q4_5, q4_6, q4_7, q4_8, q4_9, q4_10, q4_11⟩ := q4
      refine Tot.gd ?_
      refine Tot.lett (fun v94 e_v94 => ?_)
      exact Tot.ret _
theorem Zoz (x25 : Str) (x26 x27 x28 x29 x30 : Int) (x31 x32 x33 x34 x35 x36 x37 : List Int) (i_ : autoParam (((x31).length = 3) ∧ ((x32).length = 3) ∧ ((x33).length = 3) ∧ ((x34).length = 3) ∧ ((x35).length = 8) ∧ ((x36).length = 80) ∧ (((x25)).length = 64) ∧ ((x26) = 4) ∧ (0 ≤ (x28)) ∧ ((x28) < 64) ∧ (((x37)).length = 64) ∧ ((x29) = 32) ∧ ((x30) = 64) ∧ (Rot 32 (x31)) ∧ (Rot 32 (x32)) ∧ (Rot 32 (x33)) ∧ (Rot 32 (x34))) sA._auto_1) : Z86 (fun R k0 k1 => Zh5 Zi R x25 x26 x27 x28 x29 x30 x31 x32 x33 x34 x35 x36 x37 k0 k1) (fun z0 z1 z2 z3 z4 z5 z6 z7 z8 z9 z10 z11 z12 => ((z6).length = 3) ∧ ((z7).length = 3) ∧ ((z8).length = 3) ∧ ((z9).length = 3) ∧ ((z10).length = 8) ∧ ((z11).length = 80) ∧ (((z0)).length = 64) ∧ ((z1) = 4) ∧ ((z2) = (x27)) ∧ ((z3) = (x28)) ∧ (((z12)).length = 64) ∧ ((z4) = 32) ∧ ((z5) = 64) ∧ (Rot 32 (z6)) ∧ (Rot 32 (z7)) ∧ (Rot 32 (z8)) ∧ (Rot 32 (z9))) (fun z0 z1 z2 z3 z4 z5 z6 z7 z8 z9 z10 z11 z12 z13 => ((z6).length = 3) ∧ ((z7).length = 3) ∧ ((z8).length = 3) ∧ ((z9).length = 3) ∧ ((z10).length = 8) ∧ ((z11).length = 80) ∧ (((z0)).length = 64) ∧ ((z1) = 4) ∧ ((z2) = (x27)) ∧ ((z3) = (x28)) ∧ (((z12)).length = 64) ∧ ((z4) = 32) ∧ ((z5) = 64) ∧ (Rot 32 (z6)) ∧ (Rot 32 (z7)) ∧ (Rot 32 (z8)) ∧ (Rot 32 (z9))) := by
  exact Z86.congr (fun R k0 k1 => by kernel_rfl) (Zla x25 x26 x27 x28 x29 x30 x31 x32 x33 x34 x35 x36 x37 i_)
abbrev Z5b (x12 : Str) (x13 x14 x15 x16 x17 : Int) (x18 x19 x20 x21 x22 x23 x24 : List Int) : Prop := ((x18).length = 3) ∧ ((x19).length = 3) ∧ ((x20).length = 3) ∧ ((x21).length = 3) ∧ ((x22).length = 8) ∧ ((x23).length = 80) ∧ (((x12)).length = 64) ∧ ((x13) = 4) ∧ ((x14) = 64) ∧ (0 ≤ (x15)) ∧ ((x15) ≤ 64) ∧ (((x24)).length = 64) ∧ ((x16) = 32) ∧ ((x17) = 64) ∧ (Rot 32 (x18)) ∧ (Rot 32 (x19)) ∧ (Rot 32 (x20)) ∧ (Rot 32 (x21))
theorem Zkz (x12 : Str) (x13 x14 x15 x16 x17 : Int) (x18 x19 x20 x21 x22 x23 x24 : List Int) (i_ : Z5b x12 x13 x14 x15 x16 x17 x18 x19 x20 x21 x22 x23 x24) : Zyw (fun R next k0 => Z7n Zi R x12 x13 x14 x15 x16 x17 x18 x19 x20 x21 x22 x23 x24 next k0) (fun nx12 nx13 nx14 nx15 nx16 nx17 nx18 nx19 nx20 nx21 nx22 nx23 nx24 => Z5b nx12 nx13 nx14 nx15 nx16 nx17 nx18 nx19 nx20 nx21 nx22 nx23 nx24 ∧ (64 - (nx15)).toNat < (64 - (x15)).toNat) (fun z0 z1 z2 z3 z4 z5 z6 z7 z8 => ((z2).length = 3) ∧ ((z3).length = 3) ∧ ((z4).length = 3) ∧ ((z5).length = 3) ∧ ((z6).length = 8) ∧ ((z7).length = 80) ∧ ((z0) = 32) ∧ ((z1) = 64) ∧ (Rot 32 (z2)) ∧ (Rot 32 (z3)) ∧ (Rot 32 (z4)) ∧ (Rot 32 (z5)) ∧ (((z8)).length = 64)) := by
  obtain ⟨i_0, i_1, i_2, i_3, i_4, i_5, i_6, i_7, i_8, i_9, i_10, i_11, i_12, i_13, i_14, i_15, i_16, i_17⟩ := i_
  refine Zyw.of ?_
  delta Z7n
  refine Tot.br (fun h1 => ?_) (fun h1 => ?_)
  · first | simp (disch := omega) only [ts, *] at h1 | skip
    all_goals
      refine Z86.bind (Zoz x12 x13 x14 x15 x16 x17 x18 x19 x20 x21 x22 x23 x24) (fun y95 y96 y97 y98 y99 y100 y101 y102 y103 y104 y105 y106 y107 q2 => ?_) (fun y108 y109 y110 y111 y112 y113 y114 y115 y116 y117 y118 y119 y120 y121 q2 => ?_)
      · obtain ⟨q2_0, q2_1, q2_2, q2_3, q2_4, q2_5, q2_6, q2_7, q2_8, q2_9, q2_10, q2_11, q2_12, q2_13, q2_14, q2_15, q2_16⟩ := q2
        exact Tot.ret _
      · obtain ⟨q2_0, q2_1, q2_2, q2_3, q2_4, q2_5, q2_6, q2_7, q2_8, q2_9, q2_10, q2_11, q2_12, q2_13, q2_14, q2_15, q2_16⟩ := q2
        exact Tot.ret _
  · first | simp (disch := omega) only [ts, *] at h1 | skip
    all_goals
      exact Tot.ret _
theorem Zoo (x12 : Str) (x13 x14 x15 x16 x17 : Int) (x18 x19 x20 x21 x22 x23 x24 : List Int) (i_ : autoParam (Z5b x12 x13 x14 x15 x16 x17 x18 x19 x20 x21 x22 x23 x24) sA._auto_1) : T_9 (fun R k0 => Zhl Zi R x12 x13 x14 x15 x16 x17 x18 x19 x20 x21 x22 x23 x24 k0) (fun z0 z1 z2 z3 z4 z5 z6 z7 z8 => ((z2).length = 3) ∧ ((z3).length = 3) ∧ ((z4).length = 3) ∧ ((z5).length = 3) ∧ ((z6).length = 8) ∧ ((z7).length = 80) ∧ ((z0) = 32) ∧ ((z1) = 64) ∧ (Rot 32 (z2)) ∧ (Rot 32 (z3)) ∧ (Rot 32 (z4)) ∧ (Rot 32 (z5)) ∧ (((z8)).length = 64)) :=
 Z1bx (r := fun R n x12 x13 x14 x15 x16 x17 x18 x19 x20 x21 x22 x23 x24 k0 => runP Z9l Z9k (Z41 Zi).step R n (((), x12, (), x13, x14, x15, ()), ((x16, x17, x18, x19, x20, x21, (), x22, ()), ((), ()), (x23, ()), (x24, ()), ())) (fun r => k0 (r.1) (r.2.1) (r.2.2.1) (r.2.2.2.1) (r.2.2.2.2.1) (r.2.2.2.2.2.1) (r.2.2.2.2.2.2.1) (r.2.2.2.2.2.2.2.1) (r.2.2.2.2.2.2.2.2), ())) (fun _ _ _ _ _ _ _ _ _ _ _ _ _ _ _ _ => rfl) Z5b (fun x12 x13 x14 x15 x16 x17 x18 x19 x20 x21 x22 x23 x24 => (64 - (x15)).toNat) Zkz (Z4j x12 x13 x14 x15 x16 x17 x18 x19 x20 x21 x22 x23 x24) x12 x13 x14 x15 x16 x17 x18 x19 x20 x21 x22 x23 x24 i_ (by obtain ⟨i_0, i_1, i_2, i_3, i_4, i_5, i_6, i_7, i_8, i_9, i_10, i_11, i_12, i_13, i_14, i_15, i_16, i_17⟩ := i_; unfold Z4j; first | omega | (simp only [ts] <;> omega))
theorem Zrp (a1 : Str) (a2 a3 : Int) (a4 a5 a6 a7 a8 a9 : List Int) (h_ : autoParam (((a4).length = 3) ∧ ((a5).length = 3) ∧ ((a6).length = 3) ∧ ((a7).length = 3) ∧ ((a8).length = 8) ∧ ((a9).length = 80) ∧ (((a1)).length = 64) ∧ ((a2) = 32) ∧ ((a3) = 64) ∧ (Rot 32 (a4)) ∧ (Rot 32 (a5)) ∧ (Rot 32 (a6)) ∧ (Rot 32 (a7))) sA._auto_1) : T_9 (fun R k0 => Zo R a1 a2 a3 a4 a5 a6 a7 a8 a9 k0) (fun z0 z1 z2 z3 z4 z5 z6 z7 z8 => ((z2).length = 3) ∧ ((z3).length = 3) ∧ ((z4).length = 3) ∧ ((z5).length = 3) ∧ ((z6).length = 8) ∧ ((z7).length = 80) ∧ ((z0) = 32) ∧ ((z1) = 64) ∧ (Rot 32 (z2)) ∧ (Rot 32 (z3)) ∧ (Rot 32 (z4)) ∧ (Rot 32 (z5)) ∧ (((z8)).length = 64)) := by
  obtain ⟨h_0, h_1, h_2, h_3, h_4, h_5, h_6, h_7, h_8, h_9, h_10, h_11, h_12⟩ := h_
  refine T_9.of ?_
  delta Zo Zbm
  refine Tot.gd ?_
  refine Tot.gd ?_
  refine Tot.lett (fun v10 e_v10 => ?_)
  refine Tot.lett (fun v11 e_v11 => ?_)
  refine T_9.bind (Zoo a1 (quoI .i64 a2 8) v11 0 a2 a3 a4 a5 a6 a7 a8 a9 v10) (fun y122 y123 y124 y125 y126 y127 y128 y129 y130 q1 => ?_)
  obtain ⟨q1_0, q1_1, q1_2, q1_3, q1_4, q1_5, q1_6, q1_7, q1_8, q1_9, q1_10, q1_11, q1_12⟩ := q1
  exact Tot.ret _
theorem Zex (a1 : Int) (a2 : List Int) (a3 a4 : Int) (a5 a6 a7 a8 a9 a10 : List Int) (h_ : autoParam (((a2).length = 3) ∧ ((a5).length = 3) ∧ ((a6).length = 3) ∧ ((a7).length = 3) ∧ ((a8).length = 3) ∧ ((a9).length = 8) ∧ ((a10).length = 80) ∧ (Rot 32 (a2)) ∧ ((a3) = 32) ∧ ((a4) = 64) ∧ (Rot 32 (a5)) ∧ (Rot 32 (a6)) ∧ (Rot 32 (a7)) ∧ (Rot 32 (a8))) sA._auto_1) : T_9 (fun R k0 => Zp R a1 a2 a3 a4 a5 a6 a7 a8 a9 a10 k0) (fun z0 z1 z2 z3 z4 z5 z6 z7 z8 => ((z3).length = 3) ∧ ((z4).length = 3) ∧ ((z5).length = 3) ∧ ((z6).length = 3) ∧ ((z7).length = 8) ∧ ((z8).length = 80) ∧ ((z1) = 32) ∧ ((z2) = 64) ∧ (Rot 32 (z3)) ∧ (Rot 32 (z4)) ∧ (Rot 32 (z5)) ∧ (Rot 32 (z6))) := by
  obtain ⟨h_0, h_1, h_2, h_3, h_4, h_5, h_6, h_7, h_8, h_9, h_10, h_11, h_12, h_13⟩ := h_
  refine T_9.of ?_
  delta Zp Zbh
  obtain ⟨⟨r0, r0x⟩, ⟨r1, r1x⟩, ⟨r2, r2x⟩⟩ := (show Rot 32 (a2) by assumption)
  refine T_9.bind (Z3l a1 (a2.getD 0 0) a3 a4 a5 a6 a7 a8 a9 a10) (fun r11 r12 r13 r14 r15 r16 r17 r18 r19 q1 => ?_)
  obtain ⟨q1_0, q1_1, q1_2, q1_3, q1_4, q1_5, q1_6, q1_7, q1_8, q1_9, q1_10, q1_11⟩ := q1
  refine T_9.bind (Z3l a1 (a2.getD 1 0) a3 a4 a5 a6 a7 a8 a9 a10) (fun r20 r21 r22 r23 r24 r25 r26 r27 r28 q2 => ?_)
  obtain ⟨q2_0, q2_1, q2_2, q2_3, q2_4, q2_5, q2_6, q2_7, q2_8, q2_9, q2_10, q2_11⟩ := q2
  refine T_9.bind (Z3l a1 (a2.getD 2 0) a3 a4 a5 a6 a7 a8 a9 a10) (fun r29 r30 r31 r32 r33 r34 r35 r36 r37 q3 => ?_)
  obtain ⟨q3_0, q3_1, q3_2, q3_3, q3_4, q3_5, q3_6, q3_7, q3_8, q3_9, q3_10, q3_11⟩ := q3
  refine Tot.lett (fun v38 e_v38 => ?_)
  exact Tot.ret _
theorem Z13k (a1 : Int) (a2 : List Int) (h_ : autoParam (((a2).length = 80) ∧ (0 ≤ (a1)) ∧ ((a1) < 64)) sA._auto_1) : T_2 (fun R k0 => Z1j R a1 a2 k0) (fun z0 z1 => ((z1).length = 80)) := by
  obtain ⟨h_0, h_1, h_2⟩ := h_
  refine T_2.of ?_
  delta Z1j Zk9
  refine Tot.gd ?_
  refine Tot.lett (fun v3 e_v3 => ?_)
  exact Tot.ret _
abbrev Z5e (x23 x24 x25 x26 : Int) (x27 x28 x29 x30 x31 x32 x33 x34 x35 x36 : List Int) : Prop := ((x27).length = 3) ∧ ((x28).length = 3) ∧ ((x29).length = 3) ∧ ((x30).length = 3) ∧ ((x31).length = 8) ∧ ((x32).length = 80) ∧ ((x33).length = 8) ∧ ((x34).length = 8) ∧ ((x35).length = 8) ∧ ((x23) = 64) ∧ (0 ≤ (x24)) ∧ ((x24) ≤ 64) ∧ (((x36)).length = 64) ∧ ((x25) = 32) ∧ ((x26) = 64) ∧ (Rot 32 (x27)) ∧ (Rot 32 (x28)) ∧ (Rot 32 (x29)) ∧ (Rot 32 (x30))
theorem Zk7 (x23 x24 x25 x26 : Int) (x27 x28 x29 x30 x31 x32 x33 x34 x35 x36 : List Int) (i_ : Z5e x23 x24 x25 x26 x27 x28 x29 x30 x31 x32 x33 x34 x35 x36) : Zt6 (fun R next k0 => Z7r Zo Zp Z1j R x23 x24 x25 x26 x27 x28 x29 x30 x31 x32 x33 x34 x35 x36 next k0) (fun nx23 nx24 nx25 nx26 nx27 nx28 nx29 nx30 nx31 nx32 nx33 nx34 nx35 nx36 => Z5e nx23 nx24 nx25 nx26 nx27 nx28 nx29 nx30 nx31 nx32 nx33 nx34 nx35 nx36 ∧ (64 - (nx24)).toNat < (64 - (x24)).toNat) (fun z0 z1 z2 z3 z4 z5 z6 z7 z8 z9 z10 => ((z2).length = 3) ∧ ((z3).length = 3) ∧ ((z4).length = 3) ∧ ((z5).length = 3) ∧ ((z6).length = 8) ∧ ((z7).length = 80) ∧ ((z8).length = 8) ∧ ((z9).length = 8) ∧ ((z10).length = 8) ∧ ((z0) = 32) ∧ ((z1) = 64) ∧ (Rot 32 (z2)) ∧ (Rot 32 (z3)) ∧ (Rot 32 (z4)) ∧ (Rot 32 (z5))) := by
  obtain ⟨i_0, i_1, i_2, i_3, i_4, i_5, i_6, i_7, i_8, i_9, i_10, i_11, i_12, i_13, i_14, i_15, i_16, i_17, i_18⟩ := i_
  refine Zt6.of ?_
  delta Z7r
  refine Tot.br (fun h1 => ?_) (fun h1 => ?_)
  · first | simp (disch := omega) only [ts, *] at h1 | skip
    all_goals
      refine Tot.gd ?_
      refine Tot.lett (fun v37 e_v37 => ?_)
      refine Tot.lett (fun v38 e_v38 => ?_)
      refine T_9.bind (Zex (x35.getD 4 0) x29 x25 x26 x27 x28 x29 x30 x31 x32) (fun r39 r40 r41 r42 r43 r44 r45 r46 r47 q2 => ?_)
      obtain ⟨q2_0, q2_1, q2_2, q2_3, q2_4, q2_5, q2_6, q2_7, q2_8, q2_9, q2_10, q2_11⟩ := q2
      refine Tot.lett (fun v48 e_v48 => ?_)
      refine Tot.lett (fun v49 e_v49 => ?_)
      refine T_2.bind (Z13k x24 x32) (fun r50 r51 q3 => ?_)
      replace q3 : (r51).length = 80 := q3
      refine Tot.lett (fun v52 e_v52 => ?_)
      refine Tot.lett (fun v53 e_v53 => ?_)
      refine Tot.lett (fun v54 e_v54 => ?_)
      refine Tot.lett (fun v55 e_v55 => ?_)
      refine Tot.lett (fun v56 e_v56 => ?_)
      refine T_9.bind (Zex (x35.getD 0 0) x30 x25 x26 x27 x28 x29 x30 x31 x32) (fun r57 r58 r59 r60 r61 r62 r63 r64 r65 q4 => ?_)
      obtain ⟨q4_0, q4_1, q4_2, q4_3, q4_4, q4_5, q4_6, q4_7, q4_8, q4_9, q4_10, q4_11⟩ := q4
      refine Tot.lett (fun v66 e_v66 => ?_)
      refine Tot.lett (fun v67 e_v67 => ?_)
      refine Tot.lett (fun v68 e_v68 => ?_)
      exact Tot.ret _
  · first | simp (disch := omega) only [ts, *] at h1 | skip
    all_goals
      exact Tot.ret _
theorem Zog (x23 x24 x25 x26 : Int) (x27 x28 x29 x30 x31 x32 x33 x34 x35 x36 : List Int) (i_ : autoParam (Z5e x23 x24 x25 x26 x27 x28 x29 x30 x31 x32 x33 x34 x35 x36) sA._auto_1) : T_11 (fun R k0 => Zhd Zo Zp Z1j R x23 x24 x25 x26 x27 x28 x29 x30 x31 x32 x33 x34 x35 x36 k0) (fun z0 z1 z2 z3 z4 z5 z6 z7 z8 z9 z10 => ((z2).length = 3) ∧ ((z3).length = 3) ∧ ((z4).length = 3) ∧ ((z5).length = 3) ∧ ((z6).length = 8) ∧ ((z7).length = 80) ∧ ((z8).length = 8) ∧ ((z9).length = 8) ∧ ((z10).length = 8) ∧ ((z0) = 32) ∧ ((z1) = 64) ∧ (Rot 32 (z2)) ∧ (Rot 32 (z3)) ∧ (Rot 32 (z4)) ∧ (Rot 32 (z5))) :=
 Z1a7 (r := fun R n x23 x24 x25 x26 x27 x28 x29 x30 x31 x32 x33 x34 x35 x36 k0 => runP Z9e Z9m (Z42 Zo Zp Z1j).step R n (((), (), (), (), (), x23, x24, ()), ((x25, x26, x27, x28, x29, x30, (), x31, ()), ((), ()), (x32, ()), (x33, ()), (x34, ()), (x35, ()), (x36, ()), ())) (fun r => k0 (r.1) (r.2.1) (r.2.2.1) (r.2.2.2.1) (r.2.2.2.2.1) (r.2.2.2.2.2.1) (r.2.2.2.2.2.2.1) (r.2.2.2.2.2.2.2.1) (r.2.2.2.2.2.2.2.2.1) (r.2.2.2.2.2.2.2.2.2.1) (r.2.2.2.2.2.2.2.2.2.2), ())) (fun _ _ _ _ _ _ _ _ _ _ _ _ _ _ _ _ _ => rfl) Z5e (fun x23 x24 x25 x26 x27 x28 x29 x30 x31 x32 x33 x34 x35 x36 => (64 - (x24)).toNat) Zk7 (Z4n x23 x24 x25 x26 x27 x28 x29 x30 x31 x32 x33 x34 x35 x36) x23 x24 x25 x26 x27 x28 x29 x30 x31 x32 x33 x34 x35 x36 i_ (by obtain ⟨i_0, i_1, i_2, i_3, i_4, i_5, i_6, i_7, i_8, i_9, i_10, i_11, i_12, i_13, i_14, i_15, i_16, i_17, i_18⟩ := i_; unfold Z4n; first | omega | (simp only [ts] <;> omega))
abbrev Z5a (x80 x81 x82 : Int) (x83 x84 x85 x86 x87 x88 x89 x90 x91 : List Int) : Prop := ((x83).length = 3) ∧ ((x84).length = 3) ∧ ((x85).length = 3) ∧ ((x86).length = 3) ∧ ((x87).length = 8) ∧ ((x88).length = 80) ∧ ((x89).length = 8) ∧ ((x90).length = 8) ∧ ((x91).length = 8) ∧ (0 ≤ (x80)) ∧ ((x80) ≤ 8) ∧ ((x81) = 32) ∧ ((x82) = 64) ∧ (Rot 32 (x83)) ∧ (Rot 32 (x84)) ∧ (Rot 32 (x85)) ∧ (Rot 32 (x86))
theorem Zkv (x80 x81 x82 : Int) (x83 x84 x85 x86 x87 x88 x89 x90 x91 : List Int) (i_ : Z5a x80 x81 x82 x83 x84 x85 x86 x87 x88 x89 x90 x91) : Ztb (fun R next k0 => Z7l Zo Zp Z1j R x80 x81 x82 x83 x84 x85 x86 x87 x88 x89 x90 x91 next k0) (fun nx80 nx81 nx82 nx83 nx84 nx85 nx86 nx87 nx88 nx89 nx90 nx91 => Z5a nx80 nx81 nx82 nx83 nx84 nx85 nx86 nx87 nx88 nx89 nx90 nx91 ∧ (8 - (nx80)).toNat < (8 - (x80)).toNat) (fun z0 z1 z2 z3 z4 z5 z6 z7 z8 z9 => ((z2).length = 3) ∧ ((z3).length = 3) ∧ ((z4).length = 3) ∧ ((z5).length = 3) ∧ ((z6).length = 8) ∧ ((z7).length = 80) ∧ ((z8).length = 8) ∧ ((z9).length = 8) ∧ ((z0) = 32) ∧ ((z1) = 64) ∧ (Rot 32 (z2)) ∧ (Rot 32 (z3)) ∧ (Rot 32 (z4)) ∧ (Rot 32 (z5))) := by
  obtain ⟨i_0, i_1, i_2, i_3, i_4, i_5, i_6, i_7, i_8, i_9, i_10, i_11, i_12, i_13, i_14, i_15, i_16⟩ := i_
  refine Ztb.of ?_
  delta Z7l
  refine Tot.br (fun h1 => ?_) (fun h1 => ?_)
  · first | simp (disch := omega) only [ts, *] at h1 | skip
    all_goals
      refine Tot.gd ?_
      refine Tot.gd ?_
      refine Tot.lett (fun v92 e_v92 => ?_)
      refine Tot.gd ?_
      exact Tot.ret _
  · first | simp (disch := omega) only [ts, *] at h1 | skip
    all_goals
      exact Tot.ret _
theorem Zop (x80 x81 x82 : Int) (x83 x84 x85 x86 x87 x88 x89 x90 x91 : List Int) (i_ : autoParam (Z5a x80 x81 x82 x83 x84 x85 x86 x87 x88 x89 x90 x91) sA._auto_1) : T_10 (fun R k0 => Zhc Zo Zp Z1j R x80 x81 x82 x83 x84 x85 x86 x87 x88 x89 x90 x91 k0) (fun z0 z1 z2 z3 z4 z5 z6 z7 z8 z9 => ((z2).length = 3) ∧ ((z3).length = 3) ∧ ((z4).length = 3) ∧ ((z5).length = 3) ∧ ((z6).length = 8) ∧ ((z7).length = 80) ∧ ((z8).length = 8) ∧ ((z9).length = 8) ∧ ((z0) = 32) ∧ ((z1) = 64) ∧ (Rot 32 (z2)) ∧ (Rot 32 (z3)) ∧ (Rot 32 (z4)) ∧ (Rot 32 (z5))) :=
 Z1ag (r := fun R n x80 x81 x82 x83 x84 x85 x86 x87 x88 x89 x90 x91 k0 => runP Z9o Z9v (Z40 Zo Zp Z1j).step R n (((), (), (), x80, ()), ((x81, x82, x83, x84, x85, x86, (), x87, ()), ((), ()), (x88, ()), (x89, ()), (x90, ()), (x91, ()), ())) (fun r => k0 (r.1) (r.2.1) (r.2.2.1) (r.2.2.2.1) (r.2.2.2.2.1) (r.2.2.2.2.2.1) (r.2.2.2.2.2.2.1) (r.2.2.2.2.2.2.2.1) (r.2.2.2.2.2.2.2.2.1) (r.2.2.2.2.2.2.2.2.2), ())) (fun _ _ _ _ _ _ _ _ _ _ _ _ _ _ _ => rfl) Z5a (fun x80 x81 x82 x83 x84 x85 x86 x87 x88 x89 x90 x91 => (8 - (x80)).toNat) Zkv (Z4l x80 x81 x82 x83 x84 x85 x86 x87 x88 x89 x90 x91) x80 x81 x82 x83 x84 x85 x86 x87 x88 x89 x90 x91 i_ (by obtain ⟨i_0, i_1, i_2, i_3, i_4, i_5, i_6, i_7, i_8, i_9, i_10, i_11, i_12, i_13, i_14, i_15, i_16⟩ := i_; unfold Z4l; first | omega | (simp only [ts] <;> omega))
theorem Zqk (a1 : List Int) (a2 : Str) (a3 a4 : Int) (a5 a6 a7 a8 a9 a10 : List Int) (h_ : autoParam (((a1).length = 8) ∧ ((a5).length = 3) ∧ ((a6).length = 3) ∧ ((a7).length = 3) ∧ ((a8).length = 3) ∧ ((a9).length = 8) ∧ ((a10).length = 80) ∧ (((a2)).length = 64) ∧ ((a3) = 32) ∧ ((a4) = 64) ∧ (Rot 32 (a5)) ∧ (Rot 32 (a6)) ∧ (Rot 32 (a7)) ∧ (Rot 32 (a8))) sA._auto_1) : T_9 (fun R k0 => Z0 R a1 a2 a3 a4 a5 a6 a7 a8 a9 a10 k0) (fun z0 z1 z2 z3 z4 z5 z6 z7 z8 => ((z0).length = 8) ∧ ((z3).length = 3) ∧ ((z4).length = 3) ∧ ((z5).length = 3) ∧ ((z6).length = 3) ∧ ((z7).length = 8) ∧ ((z8).length = 80) ∧ ((z1) = 32) ∧ ((z2) = 64) ∧ (Rot 32 (z3)) ∧ (Rot 32 (z4)) ∧ (Rot 32 (z5)) ∧ (Rot 32 (z6))) := by
  obtain ⟨h_0, h_1, h_2, h_3, h_4, h_5, h_6, h_7, h_8, h_9, h_10, h_11, h_12, h_13⟩ := h_
  refine T_9.of ?_
  delta Z0 Zbk
  refine Tot.lett (fun v11 e_v11 => ?_)
  refine Tot.lett (fun v12 e_v12 => ?_)
  refine T_9.bind (Zrp a2 a3 a4 a5 a6 a7 a8 a9 a10) (fun r13 r14 r15 r16 r17 r18 r19 r20 r21 q1 => ?_)
  obtain ⟨q1_0, q1_1, q1_2, q1_3, q1_4, q1_5, q1_6, q1_7, q1_8, q1_9, q1_10, q1_11, q1_12⟩ := q1
  refine Tot.lett (fun v22 e_v22 => ?_)
  refine T_11.bind (Zog v22 0 r13 r14 r15 r16 r17 r18 r19 r20 a1 v11 a1 r21) (fun y69 y70 y71 y72 y73 y74 y75 y76 y77 y78 y79 q2 => ?_)
  obtain ⟨q2_0, q2_1, q2_2, q2_3, q2_4, q2_5, q2_6, q2_7, q2_8, q2_9, q2_10, q2_11, q2_12, q2_13, q2_14⟩ := q2
  refine T_10.bind (Zop 0 y69 y70 y71 y72 y73 y74 y75 y76 y77 y78 y79) (fun y93 y94 y95 y96 y97 y98 y99 y100 y101 y102 q3 => ?_)
  obtain ⟨q3_0, q3_1, q3_2, q3_3, q3_4, q3_5, q3_6, q3_7, q3_8, q3_9, q3_10, q3_11, q3_12, q3_13⟩ := q3
  exact Tot.ret _
abbrev Z8e (x10 : Str) (x11 x12 : Int) (x13 x14 x15 x16 x17 x18 : List Int) (x19 : Str) : Prop := ((x13).length = 3) ∧ ((x14).length = 3) ∧ ((x15).length = 3) ∧ ((x16).length = 3) ∧ ((x17).length = 8) ∧ ((x18).length = 80) ∧ (((x10)).length ≤ 1000000) ∧ (((x19)).length + ((64 - (((x19)).length + 8) % 64) % 64) ≤ 1000300) ∧ ((x11) = 32) ∧ ((x12) = 64) ∧ (Rot 32 (x13)) ∧ (Rot 32 (x14)) ∧ (Rot 32 (x15)) ∧ (Rot 32 (x16))
theorem Zp1 (x10 : Str) (x11 x12 : Int) (x13 x14 x15 x16 x17 x18 : List Int) (x19 : Str) (i_ : Z8e x10 x11 x12 x13 x14 x15 x16 x17 x18 x19) : Zta (fun R next k0 => Zaf Z1 Z0 R x10 x11 x12 x13 x14 x15 x16 x17 x18 x19 next k0) (fun nx10 nx11 nx12 nx13 nx14 nx15 nx16 nx17 nx18 nx19 => Z8e nx10 nx11 nx12 nx13 nx14 nx15 nx16 nx17 nx18 nx19 ∧ (64 - (((nx19)).length + 8) % 64) % 64 < (64 - (((x19)).length + 8) % 64) % 64) (fun z0 z1 z2 z3 z4 z5 z6 z7 z8 z9 => ((z3).length = 3) ∧ ((z4).length = 3) ∧ ((z5).length = 3) ∧ ((z6).length = 3) ∧ ((z7).length = 8) ∧ ((z8).length = 80) ∧ (((z0)).length ≤ 1000000) ∧ (((z9)).length ≤ 1000300) ∧ ((((z9)).length + 8) % 64 = 0) ∧ ((z1) = 32) ∧ ((z2) = 64) ∧ (Rot 32 (z3)) ∧ (Rot 32 (z4)) ∧ (Rot 32 (z5)) ∧ (Rot 32 (z6))) := by
  obtain ⟨i_0, i_1, i_2, i_3, i_4, i_5, i_6, i_7, i_8, i_9, i_10, i_11, i_12, i_13⟩ := i_
  refine Zta.of ?_
  delta Zaf
  refine Tot.lett (fun v20 e_v20 => ?_)
  refine Tot.lett (fun v21 e_v21 => ?_)
  refine T_9.bind (Z8z x11 x12 x13 x14 x15 x16 x17 x18) (fun r22 r23 r24 r25 r26 r27 r28 r29 r30 q1 => ?_)
  obtain ⟨q1_0, q1_1, q1_2, q1_3, q1_4, q1_5, q1_6, q1_7, q1_8, q1_9, q1_10, q1_11, q1_12⟩ := q1
  refine Tot.gd ?_
  refine Tot.br (fun h2 => ?_) (fun h2 => ?_)
  · first | simp (disch := omega) only [ts, *] at h2 | skip
    all_goals
      refine Tot.gd ?_
      exact Tot.ret _
  · first | simp (disch := omega) only [ts, *] at h2 | skip
    all_goals
      exact Tot.ret _
theorem Zu6 (x10 : Str) (x11 x12 : Int) (x13 x14 x15 x16 x17 x18 : List Int) (x19 : Str) (i_ : autoParam (Z8e x10 x11 x12 x13 x14 x15 x16 x17 x18 x19) sA._auto_1) : T_10 (fun R k0 => Zl5 Z1 Z0 R x10 x11 x12 x13 x14 x15 x16 x17 x18 x19 k0) (fun z0 z1 z2 z3 z4 z5 z6 z7 z8 z9 => ((z3).length = 3) ∧ ((z4).length = 3) ∧ ((z5).length = 3) ∧ ((z6).length = 3) ∧ ((z7).length = 8) ∧ ((z8).length = 80) ∧ (((z0)).length ≤ 1000000) ∧ (((z9)).length ≤ 1000300) ∧ ((((z9)).length + 8) % 64 = 0) ∧ ((z1) = 32) ∧ ((z2) = 64) ∧ (Rot 32 (z3)) ∧ (Rot 32 (z4)) ∧ (Rot 32 (z5)) ∧ (Rot 32 (z6))) :=
 Z1am (r := fun R n x10 x11 x12 x13 x14 x15 x16 x17 x18 x19 k0 => runP Zck Zcb (Z5k Z1 Z0).step R n (((), x10, (), ()), ((x11, x12, x13, x14, x15, x16, (), x17, ()), ((), ()), (x18, ()), (x19, ()), ())) (fun r => k0 (r.1) (r.2.1) (r.2.2.1) (r.2.2.2.1) (r.2.2.2.2.1) (r.2.2.2.2.2.1) (r.2.2.2.2.2.2.1) (r.2.2.2.2.2.2.2.1) (r.2.2.2.2.2.2.2.2.1) (r.2.2.2.2.2.2.2.2.2), ())) (fun _ _ _ _ _ _ _ _ _ _ _ _ _ => rfl) Z8e (fun x10 x11 x12 x13 x14 x15 x16 x17 x18 x19 => (64 - (((x19)).length + 8) % 64) % 64) Zp1 (Z64 x10 x11 x12 x13 x14 x15 x16 x17 x18 x19) x10 x11 x12 x13 x14 x15 x16 x17 x18 x19 i_ (by obtain ⟨i_0, i_1, i_2, i_3, i_4, i_5, i_6, i_7, i_8, i_9, i_10, i_11, i_12, i_13⟩ := i_; unfold Z64; first | omega | (simp only [ts] <;> omega))
abbrev Z8m (x42 : Str) (x43 x44 x45 : Int) (x46 x47 x48 x49 x50 x51 : List Int) (x52 : Str) : Prop := ((x46).length = 3) ∧ ((x47).length = 3) ∧ ((x48).length = 3) ∧ ((x49).length = 3) ∧ ((x50).length = 8) ∧ ((x51).length = 80) ∧ (((x42)).length ≤ 1000000) ∧ (-1 ≤ (x43)) ∧ ((x43) ≤ 7) ∧ ((((x52)).length + ((x43) + 1).toNat) % 64 = 0) ∧ (((x52)).length + ((x43) + 1).toNat ≤ 1000400) ∧ ((x44) = 32) ∧ ((x45) = 64) ∧ (Rot 32 (x46)) ∧ (Rot 32 (x47)) ∧ (Rot 32 (x48)) ∧ (Rot 32 (x49))
theorem Zon (x42 : Str) (x43 x44 x45 : Int) (x46 x47 x48 x49 x50 x51 : List Int) (x52 : Str) (i_ : Z8m x42 x43 x44 x45 x46 x47 x48 x49 x50 x51 x52) : Zdv (fun R next k0 => Zam Z1 Z0 R x42 x43 x44 x45 x46 x47 x48 x49 x50 x51 x52 next k0) (fun nx42 nx43 nx44 nx45 nx46 nx47 nx48 nx49 nx50 nx51 nx52 => Z8m nx42 nx43 nx44 nx45 nx46 nx47 nx48 nx49 nx50 nx51 nx52 ∧ ((nx43) + 1).toNat < ((x43) + 1).toNat) (fun z0 z1 z2 z3 z4 z5 z6 z7 z8 => ((z2).length = 3) ∧ ((z3).length = 3) ∧ ((z4).length = 3) ∧ ((z5).length = 3) ∧ ((z6).length = 8) ∧ ((z7).length = 80) ∧ (((z8)).length % 64 = 0) ∧ (((z8)).length ≤ 1000400) ∧ ((z0) = 32) ∧ ((z1) = 64) ∧ (Rot 32 (z2)) ∧ (Rot 32 (z3)) ∧ (Rot 32 (z4)) ∧ (Rot 32 (z5))) := by
  obtain ⟨i_0, i_1, i_2, i_3, i_4, i_5, i_6, i_7, i_8, i_9, i_10, i_11, i_12, i_13, i_14, i_15, i_16⟩ := i_
  refine Zdv.of ?_
  delta Zam
  refine Tot.br (fun h1 => ?_) (fun h1 => ?_)
  · first | simp (disch := omega) only [ts, *] at h1 | skip
    all_goals
      refine Tot.lett (fun v53 e_v53 => ?_)
      refine Tot.lett (fun v54 e_v54 => ?_)
      refine Tot.gd ?_
      refine Tot.lett (fun v55 e_v55 => ?_)
      refine Tot.lett (fun v56 e_v56 => ?_)
      refine Tot.gd ?_
      exact Tot.ret _
  · first | simp (disch := omega) only [ts, *] at h1 | skip
    all_goals
      exact Tot.ret _
theorem Zt0 (x42 : Str) (x43 x44 x45 : Int) (x46 x47 x48 x49 x50 x51 : List Int) (x52 : Str) (i_ : autoParam (Z8m x42 x43 x44 x45 x46 x47 x48 x49 x50 x51 x52) sA._auto_1) : T_9 (fun R k0 => Zks Z1 Z0 R x42 x43 x44 x45 x46 x47 x48 x49 x50 x51 x52 k0) (fun z0 z1 z2 z3 z4 z5 z6 z7 z8 => ((z2).length = 3) ∧ ((z3).length = 3) ∧ ((z4).length = 3) ∧ ((z5).length = 3) ∧ ((z6).length = 8) ∧ ((z7).length = 80) ∧ (((z8)).length % 64 = 0) ∧ (((z8)).length ≤ 1000400) ∧ ((z0) = 32) ∧ ((z1) = 64) ∧ (Rot 32 (z2)) ∧ (Rot 32 (z3)) ∧ (Rot 32 (z4)) ∧ (Rot 32 (z5))) :=
 Zy5 (r := fun R n x42 x43 x44 x45 x46 x47 x48 x49 x50 x51 x52 k0 => runP Zcm Zcn (Z5r Z1 Z0).step R n (((), x42, (), x43, ()), ((x44, x45, x46, x47, x48, x49, (), x50, ()), ((), ()), (x51, ()), (x52, ()), ())) (fun r => k0 (r.1) (r.2.1) (r.2.2.1) (r.2.2.2.1) (r.2.2.2.2.1) (r.2.2.2.2.2.1) (r.2.2.2.2.2.2.1) (r.2.2.2.2.2.2.2.1) (r.2.2.2.2.2.2.2.2), ())) (fun _ _ _ _ _ _ _ _ _ _ _ _ _ _ => rfl) Z8m (fun x42 x43 x44 x45 x46 x47 x48 x49 x50 x51 x52 => ((x43) + 1).toNat) Zon (Z6d x42 x43 x44 x45 x46 x47 x48 x49 x50 x51 x52) x42 x43 x44 x45 x46 x47 x48 x49 x50 x51 x52 i_ (by obtain ⟨i_0, i_1, i_2, i_3, i_4, i_5, i_6, i_7, i_8, i_9, i_10, i_11, i_12, i_13, i_14, i_15, i_16⟩ := i_; unfold Z6d; first | omega | (simp only [ts] <;> omega))
abbrev Z8o (x67 x68 x69 : Int) (x70 x71 x72 x73 x74 x75 : List Int) (x76 : Str) (x77 : List Int) : Prop := ((x70).length = 3) ∧ ((x71).length = 3) ∧ ((x72).length = 3) ∧ ((x73).length = 3) ∧ ((x74).length = 8) ∧ ((x75).length = 80) ∧ ((x77).length = 8) ∧ (0 ≤ (x67)) ∧ ((x67) % 64 = 0) ∧ ((x67) ≤ (((x76)).length : Int)) ∧ (((x76)).length % 64 = 0) ∧ (((x76)).length ≤ 1000400) ∧ ((x68) = 32) ∧ ((x69) = 64) ∧ (Rot 32 (x70)) ∧ (Rot 32 (x71)) ∧ (Rot 32 (x72)) ∧ (Rot 32 (x73))
theorem Zp2 (x67 x68 x69 : Int) (x70 x71 x72 x73 x74 x75 : List Int) (x76 : Str) (x77 : List Int) (i_ : Z8o x67 x68 x69 x70 x71 x72 x73 x74 x75 x76 x77) : Zdv (fun R next k0 => Zad Z1 Z0 R x67 x68 x69 x70 x71 x72 x73 x74 x75 x76 x77 next k0) (fun nx67 nx68 nx69 nx70 nx71 nx72 nx73 nx74 nx75 nx76 nx77 => Z8o nx67 nx68 nx69 nx70 nx71 nx72 nx73 nx74 nx75 nx76 nx77 ∧ ((((nx76)).length : Int) - (nx67)).toNat < ((((x76)).length : Int) - (x67)).toNat) (fun z0 z1 z2 z3 z4 z5 z6 z7 z8 => ((z2).length = 3) ∧ ((z3).length = 3) ∧ ((z4).length = 3) ∧ ((z5).length = 3) ∧ ((z6).length = 8) ∧ ((z7).length = 80) ∧ ((z8).length = 8) ∧ ((z0) = 32) ∧ ((z1) = 64) ∧ (Rot 32 (z2)) ∧ (Rot 32 (z3)) ∧ (Rot 32 (z4)) ∧ (Rot 32 (z5))) := by
  obtain ⟨i_0, i_1, i_2, i_3, i_4, i_5, i_6, i_7, i_8, i_9, i_10, i_11, i_12, i_13, i_14, i_15, i_16, i_17⟩ := i_
  refine Zdv.of ?_
  delta Zad
  refine Tot.lett (fun v78 e_v78 => ?_)
  refine Tot.br (fun h1 => ?_) (fun h1 => ?_)
  · first | simp (disch := omega) only [ts, *] at h1 | skip
    all_goals
      refine T_9.bind (Z8z x68 x69 x70 x71 x72 x73 x74 x75) (fun r79 r80 r81 r82 r83 r84 r85 r86 r87 q2 => ?_)
      obtain ⟨q2_0, q2_1, q2_2, q2_3, q2_4, q2_5, q2_6, q2_7, q2_8, q2_9, q2_10, q2_11, q2_12⟩ := q2
      refine Tot.gd ?_
      refine Tot.gd ?_
      refine Tot.lett (fun v88 e_v88 => ?_)
      refine T_9.bind (Zqk x77 v88 x68 x69 x70 x71 x72 x73 x74 x75) (fun r89 r90 r91 r92 r93 r94 r95 r96 r97 q3 => ?_)
      obtain ⟨q3_0, q3_1, q3_2, q3_3, q3_4, q3_5, q3_6, q3_7, q3_8, q3_9, q3_10, q3_11, q3_12⟩ := q3
      refine T_9.bind (Z8z r90 r91 r92 r93 r94 r95 r96 r97) (fun r98 r99 r100 r101 r102 r103 r104 r105 r106 q4 => ?_)
      obtain ⟨q4_0, q4_1, q4_2, q4_3, q4_4, q4_5, q4_6, q4_7, q4_8, q4_9, q4_10, q4_11, q4_12⟩ := q4
      exact Tot.ret _
  · first | simp (disch := omega) only [ts, *] at h1 | skip
    all_goals
      exact Tot.ret _
theorem Ztg (x67 x68 x69 : Int) (x70 x71 x72 x73 x74 x75 : List Int) (x76 : Str) (x77 : List Int) (i_ : autoParam (Z8o x67 x68 x69 x70 x71 x72 x73 x74 x75 x76 x77) sA._auto_1) : T_9 (fun R k0 => Zl7 Z1 Z0 R x67 x68 x69 x70 x71 x72 x73 x74 x75 x76 x77 k0) (fun z0 z1 z2 z3 z4 z5 z6 z7 z8 => ((z2).length = 3) ∧ ((z3).length = 3) ∧ ((z4).length = 3) ∧ ((z5).length = 3) ∧ ((z6).length = 8) ∧ ((z7).length = 80) ∧ ((z8).length = 8) ∧ ((z0) = 32) ∧ ((z1) = 64) ∧ (Rot 32 (z2)) ∧ (Rot 32 (z3)) ∧ (Rot 32 (z4)) ∧ (Rot 32 (z5))) :=
 Zy5 (r := fun R n x67 x68 x69 x70 x71 x72 x73 x74 x75 x76 x77 k0 => runP Zcv Zca (Z5j Z1 Z0).step R n (((), (), (), x67, ()), ((x68, x69, x70, x71, x72, x73, (), x74, ()), ((), ()), (x75, ()), (x76, ()), (x77, ()), ())) (fun r => k0 (r.1) (r.2.1) (r.2.2.1) (r.2.2.2.1) (r.2.2.2.2.1) (r.2.2.2.2.2.1) (r.2.2.2.2.2.2.1) (r.2.2.2.2.2.2.2.1) (r.2.2.2.2.2.2.2.2), ())) (fun _ _ _ _ _ _ _ _ _ _ _ _ _ _ => rfl) Z8o (fun x67 x68 x69 x70 x71 x72 x73 x74 x75 x76 x77 => ((((x76)).length : Int) - (x67)).toNat) Zp2 (Z69 x67 x68 x69 x70 x71 x72 x73 x74 x75 x76 x77) x67 x68 x69 x70 x71 x72 x73 x74 x75 x76 x77 i_ (by obtain ⟨i_0, i_1, i_2, i_3, i_4, i_5, i_6, i_7, i_8, i_9, i_10, i_11, i_12, i_13, i_14, i_15, i_16, i_17⟩ := i_; unfold Z69; first | omega | (simp only [ts] <;> omega))
abbrev Z8i (gx177 gx178 : Int) (gx179 : List Int) (gx180 gx181 gx182 : Int) (gx183 gx184 gx185 gx186 gx187 gx188 : List Int) (gx189 : Str) (x177 x178 : Int) (x179 : List Int) (x180 x181 x182 : Int) (x183 x184 x185 x186 x187 x188 : List Int) (x189 : Str) : Prop := ((x179).length = 8) ∧ ((x183).length = 3) ∧ ((x184).length = 3) ∧ ((x185).length = 3) ∧ ((x186).length = 3) ∧ ((x187).length = 8) ∧ ((x188).length = 80) ∧ ((x180) = (gx180)) ∧ (-8 ≤ (x178)) ∧ ((x178) ≤ 24) ∧ ((x178) % 8 = 0) ∧ (0 ≤ (x180)) ∧ ((x180) < 8) ∧ ((((x189)).length : Int) = 4 * (x180) + 3 - (x178) / 8) ∧ ((x181) = 32) ∧ ((x182) = 64) ∧ (Rot 32 (x183)) ∧ (Rot 32 (x184)) ∧ (Rot 32 (x185)) ∧ (Rot 32 (x186))
theorem Zow (gx177 gx178 : Int) (gx179 : List Int) (gx180 gx181 gx182 : Int) (gx183 gx184 gx185 gx186 gx187 gx188 : List Int) (gx189 : Str) (x177 x178 : Int) (x179 : List Int) (x180 x181 x182 : Int) (x183 x184 x185 x186 x187 x188 : List Int) (x189 : Str) (i_ : Z8i gx177 gx178 gx179 gx180 gx181 gx182 gx183 gx184 gx185 gx186 gx187 gx188 gx189 x177 x178 x179 x180 x181 x182 x183 x184 x185 x186 x187 x188 x189) : Ztd (fun R next k0 => Za9 Z1 Z0 R x177 x178 x179 x180 x181 x182 x183 x184 x185 x186 x187 x188 x189 next k0) (fun nx177 nx178 nx179 nx180 nx181 nx182 nx183 nx184 nx185 nx186 nx187 nx188 nx189 => Z8i gx177 gx178 gx179 gx180 gx181 gx182 gx183 gx184 gx185 gx186 gx187 gx188 gx189 nx177 nx178 nx179 nx180 nx181 nx182 nx183 nx184 nx185 nx186 nx187 nx188 nx189 ∧ ((nx178) + 8).toNat < ((x178) + 8).toNat) (fun z0 z1 z2 z3 z4 z5 z6 z7 z8 z9 z10 => ((z0).length = 8) ∧ ((z4).length = 3) ∧ ((z5).length = 3) ∧ ((z6).length = 3) ∧ ((z7).length = 3) ∧ ((z8).length = 8) ∧ ((z9).length = 80) ∧ ((z1) = (gx180)) ∧ ((((z10)).length : Int) = 4 * (gx180) + 4) ∧ ((z2) = 32) ∧ ((z3) = 64) ∧ (Rot 32 (z4)) ∧ (Rot 32 (z5)) ∧ (Rot 32 (z6)) ∧ (Rot 32 (z7))) := by
  obtain ⟨i_0, i_1, i_2, i_3, i_4, i_5, i_6, i_7, i_8, i_9, i_10, i_11, i_12, i_13, i_14, i_15, i_16, i_17, i_18, i_19⟩ := i_
  refine Ztd.of ?_
  delta Za9
  refine Tot.br (fun h1 => ?_) (fun h1 => ?_)
  · first | simp (disch := omega) only [ts, *] at h1 | skip
    all_goals
      refine Tot.gd ?_
      refine Tot.lett (fun v190 e_v190 => ?_)
      refine Tot.gd ?_
      refine Tot.lett (fun v191 e_v191 => ?_)
      exact Tot.ret _
  · first | simp (disch := omega) only [ts, *] at h1 | skip
    all_goals
      exact Tot.ret _
theorem Zt8 (x177 x178 : Int) (x179 : List Int) (x180 x181 x182 : Int) (x183 x184 x185 x186 x187 x188 : List Int) (x189 : Str) (i_ : autoParam (Z8i x177 x178 x179 x180 x181 x182 x183 x184 x185 x186 x187 x188 x189 x177 x178 x179 x180 x181 x182 x183 x184 x185 x186 x187 x188 x189) sA._auto_1) : T_11 (fun R k0 => Zki Z1 Z0 R x177 x178 x179 x180 x181 x182 x183 x184 x185 x186 x187 x188 x189 k0) (fun z0 z1 z2 z3 z4 z5 z6 z7 z8 z9 z10 => ((z0).length = 8) ∧ ((z4).length = 3) ∧ ((z5).length = 3) ∧ ((z6).length = 3) ∧ ((z7).length = 3) ∧ ((z8).length = 8) ∧ ((z9).length = 80) ∧ ((z1) = (x180)) ∧ ((((z10)).length : Int) = 4 * (x180) + 4) ∧ ((z2) = 32) ∧ ((z3) = 64) ∧ (Rot 32 (z4)) ∧ (Rot 32 (z5)) ∧ (Rot 32 (z6)) ∧ (Rot 32 (z7))) :=
 Z1ai (r := fun R n x177 x178 x179 x180 x181 x182 x183 x184 x185 x186 x187 x188 x189 k0 => runP Zcy Zch (Z5l Z1 Z0).step R n (((), (), x177, x178, (x179, ()), x180, ()), ((x181, x182, x183, x184, x185, x186, (), x187, ()), ((), ()), (x188, ()), (x189, ()), ())) (fun r => k0 (r.1) (r.2.1) (r.2.2.1) (r.2.2.2.1) (r.2.2.2.2.1) (r.2.2.2.2.2.1) (r.2.2.2.2.2.2.1) (r.2.2.2.2.2.2.2.1) (r.2.2.2.2.2.2.2.2.1) (r.2.2.2.2.2.2.2.2.2.1) (r.2.2.2.2.2.2.2.2.2.2), ())) (fun _ _ _ _ _ _ _ _ _ _ _ _ _ _ _ _ => rfl) (Z8i x177 x178 x179 x180 x181 x182 x183 x184 x185 x186 x187 x188 x189) (fun x177 x178 x179 x180 x181 x182 x183 x184 x185 x186 x187 x188 x189 => ((x178) + 8).toNat) (Zow x177 x178 x179 x180 x181 x182 x183 x184 x185 x186 x187 x188 x189) (Z6a x177 x178 x179 x180 x181 x182 x183 x184 x185 x186 x187 x188 x189) x177 x178 x179 x180 x181 x182 x183 x184 x185 x186 x187 x188 x189 i_ (by obtain ⟨i_0, i_1, i_2, i_3, i_4, i_5, i_6, i_7, i_8, i_9, i_10, i_11, i_12, i_13, i_14, i_15, i_16, i_17, i_18, i_19⟩ := i_; unfold Z6a; first | omega | (simp only [ts] <;> omega))
abbrev Z8c (x166 : List Int) (x167 x168 x169 : Int) (x170 x171 x172 x173 x174 x175 : List Int) (x176 : Str) : Prop := ((x166).length = 8) ∧ ((x170).length = 3) ∧ ((x171).length = 3) ∧ ((x172).length = 3) ∧ ((x173).length = 3) ∧ ((x174).length = 8) ∧ ((x175).length = 80) ∧ (0 ≤ (x167)) ∧ ((x167) ≤ 8) ∧ ((((x176)).length : Int) = 4 * (x167)) ∧ ((x168) = 32) ∧ ((x169) = 64) ∧ (Rot 32 (x170)) ∧ (Rot 32 (x171)) ∧ (Rot 32 (x172)) ∧ (Rot 32 (x173))
theorem Zp5 (x166 : List Int) (x167 x168 x169 : Int) (x170 x171 x172 x173 x174 x175 : List Int) (x176 : Str) (i_ : Z8c x166 x167 x168 x169 x170 x171 x172 x173 x174 x175 x176) : Zdv (fun R next k0 => Za6 Z1 Z0 R x166 x167 x168 x169 x170 x171 x172 x173 x174 x175 x176 next k0) (fun nx166 nx167 nx168 nx169 nx170 nx171 nx172 nx173 nx174 nx175 nx176 => Z8c nx166 nx167 nx168 nx169 nx170 nx171 nx172 nx173 nx174 nx175 nx176 ∧ (8 - (nx167)).toNat < (8 - (x167)).toNat) (fun z0 z1 z2 z3 z4 z5 z6 z7 z8 => ((z2).length = 3) ∧ ((z3).length = 3) ∧ ((z4).length = 3) ∧ ((z5).length = 3) ∧ ((z6).length = 8) ∧ ((z7).length = 80) ∧ (((z8)).length = 32) ∧ ((z0) = 32) ∧ ((z1) = 64) ∧ (Rot 32 (z2)) ∧ (Rot 32 (z3)) ∧ (Rot 32 (z4)) ∧ (Rot 32 (z5))) := by
  obtain ⟨i_0, i_1, i_2, i_3, i_4, i_5, i_6, i_7, i_8, i_9, i_10, i_11, i_12, i_13, i_14, i_15⟩ := i_
  refine Zdv.of ?_
  delta Za6
  refine Tot.br (fun h1 => ?_) (fun h1 => ?_)
  · first | simp (disch := omega) only [ts, *] at h1 | skip
    all_goals
      refine Tot.gd ?_
      refine T_11.bind (Zt8 (x166.getD x167.toNat 0) (subI .i64 x168 8) x166 x167 x168 x169 x170 x171 x172 x173 x174 x175 x176) (fun y192 y193 y194 y195 y196 y197 y198 y199 y200 y201 y202 q2 => ?_)
      obtain ⟨q2_0, q2_1, q2_2, q2_3, q2_4, q2_5, q2_6, q2_7, q2_8, q2_9, q2_10, q2_11, q2_12, q2_13, q2_14⟩ := q2
      exact Tot.ret _
  · first | simp (disch := omega) only [ts, *] at h1 | skip
    all_goals
      exact Tot.ret _
theorem Ztl (x166 : List Int) (x167 x168 x169 : Int) (x170 x171 x172 x173 x174 x175 : List Int) (x176 : Str) (i_ : autoParam (Z8c x166 x167 x168 x169 x170 x171 x172 x173 x174 x175 x176) sA._auto_1) : T_9 (fun R k0 => Zkw Z1 Z0 R x166 x167 x168 x169 x170 x171 x172 x173 x174 x175 x176 k0) (fun z0 z1 z2 z3 z4 z5 z6 z7 z8 => ((z2).length = 3) ∧ ((z3).length = 3) ∧ ((z4).length = 3) ∧ ((z5).length = 3) ∧ ((z6).length = 8) ∧ ((z7).length = 80) ∧ (((z8)).length = 32) ∧ ((z0) = 32) ∧ ((z1) = 64) ∧ (Rot 32 (z2)) ∧ (Rot 32 (z3)) ∧ (Rot 32 (z4)) ∧ (Rot 32 (z5))) :=
 Zy5 (r := fun R n x166 x167 x168 x169 x170 x171 x172 x173 x174 x175 x176 k0 => runP Zco Zcc (Z5m Z1 Z0).step R n (((), (), (x166, ()), x167, ()), ((x168, x169, x170, x171, x172, x173, (), x174, ()), ((), ()), (x175, ()), (x176, ()), ())) (fun r => k0 (r.1) (r.2.1) (r.2.2.1) (r.2.2.2.1) (r.2.2.2.2.1) (r.2.2.2.2.2.1) (r.2.2.2.2.2.2.1) (r.2.2.2.2.2.2.2.1) (r.2.2.2.2.2.2.2.2), ())) (fun _ _ _ _ _ _ _ _ _ _ _ _ _ _ => rfl) Z8c (fun x166 x167 x168 x169 x170 x171 x172 x173 x174 x175 x176 => (8 - (x167)).toNat) Zp5 (Z6e x166 x167 x168 x169 x170 x171 x172 x173 x174 x175 x176) x166 x167 x168 x169 x170 x171 x172 x173 x174 x175 x176 i_ (by obtain ⟨i_0, i_1, i_2, i_3, i_4, i_5, i_6, i_7, i_8, i_9, i_10, i_11, i_12, i_13, i_14, i_15⟩ := i_; unfold Z6e; first | omega | (simp only [ts] <;> omega))
theorem Zvo (a1 : Str) (a2 a3 : Int) (a4 a5 a6 a7 a8 a9 : List Int) (h_ : autoParam (((a4).length = 3) ∧ ((a5).length = 3) ∧ ((a6).length = 3) ∧ ((a7).length = 3) ∧ ((a8).length = 8) ∧ ((a9).length = 80) ∧ (((a1)).length ≤ 1000000) ∧ ((a2) = 32) ∧ ((a3) = 64) ∧ (Rot 32 (a4)) ∧ (Rot 32 (a5)) ∧ (Rot 32 (a6)) ∧ (Rot 32 (a7))) sA._auto_1) : T_9 (fun R k0 => Z71 R a1 a2 a3 a4 a5 a6 a7 a8 a9 k0) (fun z0 z1 z2 z3 z4 z5 z6 z7 z8 => ((z3).length = 3) ∧ ((z4).length = 3) ∧ ((z5).length = 3) ∧ ((z6).length = 3) ∧ ((z7).length = 8) ∧ ((z8).length = 80) ∧ (((z0)).length = 32) ∧ ((z1) = 32) ∧ ((z2) = 64) ∧ (Rot 32 (z3)) ∧ (Rot 32 (z4)) ∧ (Rot 32 (z5)) ∧ (Rot 32 (z6))) := by
  obtain ⟨h_0, h_1, h_2, h_3, h_4, h_5, h_6, h_7, h_8, h_9, h_10, h_11, h_12⟩ := h_
  refine T_9.of ?_
  delta Z71 Zef
  refine Tot.gd ?_
  refine T_10.bind (Zu6 a1 a2 a3 a4 a5 a6 a7 a8 a9 (a1 ++ ([128] : Str))) (fun y31 y32 y33 y34 y35 y36 y37 y38 y39 y40 q1 => ?_)
  obtain ⟨q1_0, q1_1, q1_2, q1_3, q1_4, q1_5, q1_6, q1_7, q1_8, q1_9, q1_10, q1_11, q1_12, q1_13, q1_14⟩ := q1
  refine Tot.lett (fun v41 e_v41 => ?_)
  refine T_9.bind (Zt0 y31 v41 y32 y33 y34 y35 y36 y37 y38 y39 y40) (fun y57 y58 y59 y60 y61 y62 y63 y64 y65 q2 => ?_)
  obtain ⟨q2_0, q2_1, q2_2, q2_3, q2_4, q2_5, q2_6, q2_7, q2_8, q2_9, q2_10, q2_11, q2_12, q2_13⟩ := q2
  refine Tot.lett (fun v66 e_v66 => ?_)
  refine T_9.bind (Ztg 0 y57 y58 y59 y60 y61 y62 y63 y64 y65 y63) (fun y107 y108 y109 y110 y111 y112 y113 y114 y115 q3 => ?_)
  obtain ⟨q3_0, q3_1, q3_2, q3_3, q3_4, q3_5, q3_6, q3_7, q3_8, q3_9, q3_10, q3_11, q3_12⟩ := q3
  refine T_9.bind (Ztl y115 0 y107 y108 y109 y110 y111 y112 y113 y114 ([] : Str)) (fun y203 y204 y205 y206 y207 y208 y209 y210 y211 q4 => ?_)
  obtain ⟨q4_0, q4_1, q4_2, q4_3, q4_4, q4_5, q4_6, q4_7, q4_8, q4_9, q4_10, q4_11, q4_12⟩ := q4
  exact Tot.ret _
theorem Z191 (a1 : Str) (h_ : autoParam ((((a1)).length ≤ 1000000)) sA._auto_1) : T_1 (fun R k0 => Zfy R a1 k0) (fun z0 => (((z0)).length = 32)) := by
  refine T_1.of ?_
  delta Zfy Zz6
  refine T_8.bind (Z19u) (fun r2 r3 r4 r5 r6 r7 r8 r9 q1 => ?_)
  obtain ⟨q1_0, q1_1, q1_2, q1_3, q1_4, q1_5, q1_6, q1_7, q1_8, q1_9, q1_10, q1_11⟩ := q1
  refine T_9.bind (Zvo a1 r2 r3 r4 r5 r6 r7 r8 r9) (fun r10 r11 r12 r13 r14 r15 r16 r17 r18 q2 => ?_)
  obtain ⟨q2_0, q2_1, q2_2, q2_3, q2_4, q2_5, q2_6, q2_7, q2_8, q2_9, q2_10, q2_11, q2_12⟩ := q2
  exact Tot.ret _
theorem Z19f : T_8 (fun R k0 => Znx R  k0) (fun z0 z1 z2 z3 z4 z5 z6 z7 => ((z2).length = 3) ∧ ((z3).length = 3) ∧ ((z4).length = 3) ∧ ((z5).length = 3) ∧ ((z6).length = 8) ∧ ((z7).length = 80) ∧ ((z0) = 64) ∧ ((z1) = 80) ∧ (Rot 64 (z2)) ∧ (Rot 64 (z3)) ∧ (Rot 64 (z4)) ∧ (Rot 64 (z5))) := by
  refine T_8.of ?_
  delta Znx Zyf
  refine T_1.bind (Zv8) (fun r1 q1 => ?_)
  replace q1 : (r1).length = 80 := q1
  refine T_1.bind (Z10z) (fun r2 q2 => ?_)
  replace q2 : (r2).length = 8 := q2
  refine Tot.lett (fun v3 e_v3 => ?_)
  refine Tot.lett (fun v4 e_v4 => ?_)
  refine Tot.lett (fun v5 e_v5 => ?_)
  refine Tot.lett (fun v6 e_v6 => ?_)
  exact Tot.ret _
theorem Z92 (a1 a2 : Int) (a3 a4 a5 a6 a7 a8 : List Int) (h_ : autoParam (((a3).length = 3) ∧ ((a4).length = 3) ∧ ((a5).length = 3) ∧ ((a6).length = 3) ∧ ((a7).length = 8) ∧ ((a8).length = 80) ∧ ((a1) = 64) ∧ ((a2) = 80) ∧ (Rot 64 (a3)) ∧ (Rot 64 (a4)) ∧ (Rot 64 (a5)) ∧ (Rot 64 (a6))) sA._auto_1) : T_9 (fun R k0 => Z2 R a1 a2 a3 a4 a5 a6 a7 a8 k0) (fun z0 z1 z2 z3 z4 z5 z6 z7 z8 => ((z3).length = 3) ∧ ((z4).length = 3) ∧ ((z5).length = 3) ∧ ((z6).length = 3) ∧ ((z7).length = 8) ∧ ((z8).length = 80) ∧ ((z0) = 128) ∧ ((z1) = 64) ∧ ((z2) = 80) ∧ (Rot 64 (z3)) ∧ (Rot 64 (z4)) ∧ (Rot 64 (z5)) ∧ (Rot 64 (z6))) := by
  obtain ⟨h_0, h_1, h_2, h_3, h_4, h_5, h_6, h_7, h_8, h_9, h_10, h_11⟩ := h_
  refine T_9.of ?_
  delta Z2 Zbn
  exact Tot.ret _
theorem Z3k (a1 a2 a3 a4 : Int) (a5 a6 a7 a8 a9 a10 : List Int) (h_ : autoParam (((a5).length = 3) ∧ ((a6).length = 3) ∧ ((a7).length = 3) ∧ ((a8).length = 3) ∧ ((a9).length = 8) ∧ ((a10).length = 80) ∧ (0 ≤ (a2)) ∧ ((a2) ≤ (a3)) ∧ ((a3) = 64) ∧ ((a4) = 80) ∧ (Rot 64 (a5)) ∧ (Rot 64 (a6)) ∧ (Rot 64 (a7)) ∧ (Rot 64 (a8))) sA._auto_1) : T_9 (fun R k0 => Z2t R a1 a2 a3 a4 a5 a6 a7 a8 a9 a10 k0) (fun z0 z1 z2 z3 z4 z5 z6 z7 z8 => ((z3).length = 3) ∧ ((z4).length = 3) ∧ ((z5).length = 3) ∧ ((z6).length = 3) ∧ ((z7).length = 8) ∧ ((z8).length = 80) ∧ ((z1) = 64) ∧ ((z2) = 80) ∧ (Rot 64 (z3)) ∧ (Rot 64 (z4)) ∧ (Rot 64 (z5)) ∧ (Rot 64 (z6))) := by
  obtain ⟨h_0, h_1, h_2, h_3, h_4, h_5, h_6, h_7, h_8, h_9, h_10, h_11, h_12, h_13⟩ := h_
  refine T_9.of ?_
  delta Z2t Zc2
  refine Tot.gd ?_
  refine Tot.gd ?_
  refine Tot.lett (fun v11 e_v11 => ?_)
  refine Tot.lett (fun v12 e_v12 => ?_)
  exact Tot.ret _
theorem Zh2 (a1 : Int) (a2 : List Int) (a3 a4 : Int) (a5 a6 a7 a8 a9 a10 : List Int) (h_ : autoParam (((a2).length = 3) ∧ ((a5).length = 3) ∧ ((a6).length = 3) ∧ ((a7).length = 3) ∧ ((a8).length = 3) ∧ ((a9).length = 8) ∧ ((a10).length = 80) ∧ (Rot 64 (a2)) ∧ ((a3) = 64) ∧ ((a4) = 80) ∧ (Rot 64 (a5)) ∧ (Rot 64 (a6)) ∧ (Rot 64 (a7)) ∧ (Rot 64 (a8))) sA._auto_1) : T_9 (fun R k0 => Zh R a1 a2 a3 a4 a5 a6 a7 a8 a9 a10 k0) (fun z0 z1 z2 z3 z4 z5 z6 z7 z8 => ((z3).length = 3) ∧ ((z4).length = 3) ∧ ((z5).length = 3) ∧ ((z6).length = 3) ∧ ((z7).length = 8) ∧ ((z8).length = 80) ∧ ((z1) = 64) ∧ ((z2) = 80) ∧ (Rot 64 (z3)) ∧ (Rot 64 (z4)) ∧ (Rot 64 (z5)) ∧ (Rot 64 (z6))) := by
  obtain ⟨h_0, h_1, h_2, h_3, h_4, h_5, h_6, h_7, h_8, h_9, h_10, h_11, h_12, h_13⟩ := h_
  refine T_9.of ?_
  delta Zh Zce
  obtain ⟨⟨r0, r0x⟩, ⟨r1, r1x⟩, ⟨r2, r2x⟩⟩ := (show Rot 64 (a2) by assumption)
  refine Tot.gd ?_
  refine Tot.lett (fun v11 e_v11 => ?_)
  refine T_9.bind (Z3k a1 (a2.getD 0 0) a3 a4 a5 a6 a7 a8 a9 a10) (fun r12 r13 r14 r15 r16 r17 r18 r19 r20 q1 => ?_)
  obtain ⟨q1_0, q1_1, q1_2, q1_3, q1_4, q1_5, q1_6, q1_7, q1_8, q1_9, q1_10, q1_11⟩ := q1
  refine T_9.bind (Z3k a1 (a2.getD 1 0) a3 a4 a5 a6 a7 a8 a9 a10) (fun r21 r22 r23 r24 r25 r26 r27 r28 r29 q2 => ?_)
  obtain ⟨q2_0, q2_1, q2_2, q2_3, q2_4, q2_5, q2_6, q2_7, q2_8, q2_9, q2_10, q2_11⟩ := q2
  refine Tot.lett (fun v30 e_v30 => ?_)
  exact Tot.ret _
abbrev Z5g (gx38 : Str) (gx39 gx40 gx41 gx42 gx43 gx44 gx45 gx46 : Int) (gx47 gx48 gx49 gx50 gx51 gx52 gx53 : List Int) (x38 : Str) (x39 x40 x41 x42 x43 x44 x45 x46 : Int) (x47 x48 x49 x50 x51 x52 x53 : List Int) : Prop := ((x47).length = 3) ∧ ((x48).length = 3) ∧ ((x49).length = 3) ∧ ((x50).length = 3) ∧ ((x51).length = 8) ∧ ((x52).length = 80) ∧ ((x41) = (gx41)) ∧ ((x42) = (gx42)) ∧ ((x39) = 8) ∧ ((x43) = 8) ∧ (0 ≤ (x40)) ∧ ((x40) < 16) ∧ (0 ≤ (x44)) ∧ ((x44) ≤ 8) ∧ (((x38)).length = 128) ∧ (((x53)).length = 80) ∧ ((x45) = 64) ∧ ((x46) = 80) ∧ (Rot 64 (x47)) ∧ (Rot 64 (x48)) ∧ (Rot 64 (x49)) ∧ (Rot 64 (x50))
theorem Zka (gx38 : Str) (gx39 gx40 gx41 gx42 gx43 gx44 gx45 gx46 : Int) (gx47 gx48 gx49 gx50 gx51 gx52 gx53 : List Int) (x38 : Str) (x39 x40 x41 x42 x43 x44 x45 x46 : Int) (x47 x48 x49 x50 x51 x52 x53 : List Int) (i_ : Z5g gx38 gx39 gx40 gx41 gx42 gx43 gx44 gx45 gx46 gx47 gx48 gx49 gx50 gx51 gx52 gx53 x38 x39 x40 x41 x42 x43 x44 x45 x46 x47 x48 x49 x50 x51 x52 x53) : Ztq (fun R next k0 => Z7t Zh R x38 x39 x40 x41 x42 x43 x44 x45 x46 x47 x48 x49 x50 x51 x52 x53 next k0) (fun nx38 nx39 nx40 nx41 nx42 nx43 nx44 nx45 nx46 nx47 nx48 nx49 nx50 nx51 nx52 nx53 => Z5g gx38 gx39 gx40 gx41 gx42 gx43 gx44 gx45 gx46 gx47 gx48 gx49 gx50 gx51 gx52 gx53 nx38 nx39 nx40 nx41 nx42 nx43 nx44 nx45 nx46 nx47 nx48 nx49 nx50 nx51 nx52 nx53 ∧ (8 - (nx44)).toNat < (8 - (x44)).toNat) (fun z0 z1 z2 z3 z4 z5 z6 z7 z8 z9 z10 z11 z12 => ((z6).length = 3) ∧ ((z7).length = 3) ∧ ((z8).length = 3) ∧ ((z9).length = 3) ∧ ((z10).length = 8) ∧ ((z11).length = 80) ∧ (((z0)).length = 128) ∧ ((z1) = 8) ∧ ((z2) = (gx41)) ∧ ((z3) = (gx42)) ∧ (((z12)).length = 80) ∧ ((z4) = 64) ∧ ((z5) = 80) ∧ (Rot 64 (z6)) ∧ (Rot 64 (z7)) ∧ (Rot 64 (z8)) ∧ (Rot 64 (z9))) := by
  obtain ⟨i_0, i_1, i_2, i_3, i_4, i_5, i_6, i_7, i_8, i_9, i_10, i_11, i_12, i_13, i_14, i_15, i_16, i_17, i_18, i_19, i_20, i_21⟩ := i_
  refine Ztq.of ?_
  delta Z7t
  refine Tot.br (fun h1 => ?_) (fun h1 => ?_)
  · first | simp (disch := omega) only [ts, *] at h1 | skip
    all_goals
      refine Tot.gd ?_
      refine Tot.lett (fun v54 e_v54 => ?_)
      refine Tot.lett (fun v55 e_v55 => ?_)
      refine Tot.gd ?_
      refine Tot.lett (fun v56 e_v56 => ?_)
      refine Tot.lett (fun v57 e_v57 => ?_)
      refine Tot.gd ?_
      exact Tot.ret _
  · first | simp (disch := omega) only [ts, *] at h1 | skip
    all_goals
      exact Tot.ret _
theorem Zp6 (x38 : Str) (x39 x40 x41 x42 x43 x44 x45 x46 : Int) (x47 x48 x49 x50 x51 x52 x53 : List Int) (i_ : autoParam (Z5g x38 x39 x40 x41 x42 x43 x44 x45 x46 x47 x48 x49 x50 x51 x52 x53 x38 x39 x40 x41 x42 x43 x44 x45 x46 x47 x48 x49 x50 x51 x52 x53) sA._auto_1) : T_13 (fun R k0 => Zgv Zh R x38 x39 x40 x41 x42 x43 x44 x45 x46 x47 x48 x49 x50 x51 x52 x53 k0) (fun z0 z1 z2 z3 z4 z5 z6 z7 z8 z9 z10 z11 z12 => ((z6).length = 3) ∧ ((z7).length = 3) ∧ ((z8).length = 3) ∧ ((z9).length = 3) ∧ ((z10).length = 8) ∧ ((z11).length = 80) ∧ (((z0)).length = 128) ∧ ((z1) = 8) ∧ ((z2) = (x41)) ∧ ((z3) = (x42)) ∧ (((z12)).length = 80) ∧ ((z4) = 64) ∧ ((z5) = 80) ∧ (Rot 64 (z6)) ∧ (Rot 64 (z7)) ∧ (Rot 64 (z8)) ∧ (Rot 64 (z9))) :=
 Z1av (r := fun R n x38 x39 x40 x41 x42 x43 x44 x45 x46 x47 x48 x49 x50 x51 x52 x53 k0 => runP Z9f Z9n (Z48 Zh).step R n (((), x38, (), x39, x40, x41, x42, x43, x44, ()), ((x45, x46, x47, x48, x49, x50, (), x51, ()), ((), ()), (x52, ()), (x53, ()), ())) (fun r => k0 (r.1) (r.2.1) (r.2.2.1) (r.2.2.2.1) (r.2.2.2.2.1) (r.2.2.2.2.2.1) (r.2.2.2.2.2.2.1) (r.2.2.2.2.2.2.2.1) (r.2.2.2.2.2.2.2.2.1) (r.2.2.2.2.2.2.2.2.2.1) (r.2.2.2.2.2.2.2.2.2.2.1) (r.2.2.2.2.2.2.2.2.2.2.2.1) (r.2.2.2.2.2.2.2.2.2.2.2.2), ())) (fun _ _ _ _ _ _ _ _ _ _ _ _ _ _ _ _ _ _ _ => rfl) (Z5g x38 x39 x40 x41 x42 x43 x44 x45 x46 x47 x48 x49 x50 x51 x52 x53) (fun x38 x39 x40 x41 x42 x43 x44 x45 x46 x47 x48 x49 x50 x51 x52 x53 => (8 - (x44)).toNat) (Zka x38 x39 x40 x41 x42 x43 x44 x45 x46 x47 x48 x49 x50 x51 x52 x53) (Z4k x38 x39 x40 x41 x42 x43 x44 x45 x46 x47 x48 x49 x50 x51 x52 x53) x38 x39 x40 x41 x42 x43 x44 x45 x46 x47 x48 x49 x50 x51 x52 x53 i_ (by obtain ⟨i_0, i_1, i_2, i_3, i_4, i_5, i_6, i_7, i_8, i_9, i_10, i_11, i_12, i_13, i_14, i_15, i_16, i_17, i_18, i_19, i_20, i_21⟩ := i_; unfold Z4k; first | omega | (simp only [ts] <;> omega))
theorem Zlc (x25 : Str) (x26 x27 x28 x29 x30 : Int) (x31 x32 x33 x34 x35 x36 x37 : List Int) (i_ : ((x31).length = 3) ∧ ((x32).length = 3) ∧ ((x33).length = 3) ∧ ((x34).length = 3) ∧ ((x35).length = 8) ∧ ((x36).length = 80) ∧ (((x25)).length = 128) ∧ ((x26) = 8) ∧ (0 ≤ (x28)) ∧ ((x28) < 80) ∧ (((x37)).length = 80) ∧ ((x29) = 64) ∧ ((x30) = 80) ∧ (Rot 64 (x31)) ∧ (Rot 64 (x32)) ∧ (Rot 64 (x33)) ∧ (Rot 64 (x34))) : Z86 (fun R k0 k1 => Z7y Zh R x25 x26 x27 x28 x29 x30 x31 x32 x33 x34 x35 x36 x37 k0 k1) (fun z0 z1 z2 z3 z4 z5 z6 z7 z8 z9 z10 z11 z12 => ((z6).length = 3) ∧ ((z7).length = 3) ∧ ((z8).length = 3) ∧ ((z9).length = 3) ∧ ((z10).length = 8) ∧ ((z11).length = 80) ∧ (((z0)).length = 128) ∧ ((z1) = 8) ∧ ((z2) = (x27)) ∧ ((z3) = (x28)) ∧ (((z12)).length = 80) ∧ ((z4) = 64) ∧ ((z5) = 80) ∧ (Rot 64 (z6)) ∧ (Rot 64 (z7)) ∧ (Rot 64 (z8)) ∧ (Rot 64 (z9))) (fun z0 z1 z2 z3 z4 z5 z6 z7 z8 z9 z10 z11 z12 z13 => ((z6).length = 3) ∧ ((z7).length = 3) ∧ ((z8).length = 3) ∧ ((z9).length = 3) ∧ ((z10).length = 8) ∧ ((z11).length = 80) ∧ (((z0)).length = 128) ∧ ((z1) = 8) ∧ ((z2) = (x27)) ∧ ((z3) = (x28)) ∧ (((z12)).length = 80) ∧ ((z4) = 64) ∧ ((z5) = 80) ∧ (Rot 64 (z6)) ∧ (Rot 64 (z7)) ∧ (Rot 64 (z8)) ∧ (Rot 64 (z9))) := by
  obtain ⟨i_0, i_1, i_2, i_3, i_4, i_5, i_6, i_7, i_8, i_9, i_10, i_11, i_12, i_13, i_14, i_15, i_16⟩ := i_
  refine Z86.of ?_
  delta Z7y
  refine Tot.br (fun h1 => ?_) (fun h1 => ?_)
  · first | simp (disch := omega) only [ts, *] at h1 | skip
    all_goals
      refine T_13.bind (Zp6 x25 x26 x28 x27 x28 x26 0 x29 x30 x31 x32 x33 x34 x35 x36 x37) (fun y58 y59 y60 y61 y62 y63 y64 y65 y66 y67 y68 y69 y70 q2 => ?_)
      obtain ⟨q2_0, q2_1, q2_2, q2_3, q2_4, q2_5, q2_6, q2_7, q2_8, q2_9, q2_10, q2_11, q2_12, q2_13, q2_14, q2_15, q2_16⟩ := q2
      exact Tot.ret _
  · first | simp (disch := omega) only [ts, *] at h1 | skip
    all_goals
      refine Tot.gd ?_
      refine Tot.lett (fun v71 e_v71 => ?_)
      refine Tot.gd ?_
      refine Tot.lett (fun v72 e_v72 => ?_)
      refine Tot.gd ?_
      refine Tot.lett (fun v73 e_v73 => ?_)
      refine Tot.gd ?_
      refine Tot.lett (fun v74 e_v74 => ?_)
      refine T_9.bind (Zh2 v73 x31 x29 x30 x31 x32 x33 x34 x35 x36) (fun r75 r76 r77 r78 r79 r80 r81 r82 r83 q3 => ?_)
      obtain ⟨q3_0, q3_1, q3_2, q3_3, q3_4, q3_5, q3_6, q3_7, q3_8, q3_9, q3_10, q3_11⟩ := q3
      refine Tot.lett (fun v84 e_v84 => ?_)
      refine T_9.bind (Zh2 v74 x32 x29 x30 x31 x32 x33 x34 x35 x36) (fun r85 r86 r87 r88 r89 r90 r91 r92 r93 q4 => ?_)
      obtain ⟨q4_0, q4_1, q4_2, q4_3, q4_4, q4_5, q4_6, q4_7, q4_8, q4_9, q4_10, q4_11⟩ := q4
      refine Tot.gd ?_
      refine Tot.lett (fun v94 e_v94 => ?_)
      exact Tot.ret _
theorem Zp7 (x25 : Str) (x26 x27 x28 x29 x30 : Int) (x31 x32 x33 x34 x35 x36 x37 : List Int) (i_ : autoParam (((x31).length = 3) ∧ ((x32).length = 3) ∧ ((x33).length = 3) ∧ ((x34).length = 3) ∧ ((x35).length = 8) ∧ ((x36).length = 80) ∧ (((x25)).length = 128) ∧ ((x26) = 8) ∧ (0 ≤ (x28)) ∧ ((x28) < 80) ∧ (((x37)).length = 80) ∧ ((x29) = 64) ∧ ((x30) = 80) ∧ (Rot 64 (x31)) ∧ (Rot 64 (x32)) ∧ (Rot 64 (x33)) ∧ (Rot 64 (x34))) sA._auto_1) : Z86 (fun R k0 k1 => Zgz Zh R x25 x26 x27 x28 x29 x30 x31 x32 x33 x34 x35 x36 x37 k0 k1) (fun z0 z1 z2 z3 z4 z5 z6 z7 z8 z9 z10 z11 z12 => ((z6).length = 3) ∧ ((z7).length = 3) ∧ ((z8).length = 3) ∧ ((z9).length = 3) ∧ ((z10).length = 8) ∧ ((z11).length = 80) ∧ (((z0)).length = 128) ∧ ((z1) = 8) ∧ ((z2) = (x27)) ∧ ((z3) = (x28)) ∧ (((z12)).length = 80) ∧ ((z4) = 64) ∧ ((z5) = 80) ∧ (Rot 64 (z6)) ∧ (Rot 64 (z7)) ∧ (Rot 64 (z8)) ∧ (Rot 64 (z9))) (fun z0 z1 z2 z3 z4 z5 z6 z7 z8 z9 z10 z11 z12 z13 => ((z6).length = 3) ∧ ((z7).length = 3) ∧ ((z8).length = 3) ∧ ((z9).length = 3) ∧ ((z10).length = 8) ∧ ((z11).length = 80) ∧ (((z0)).length = 128) ∧ ((z1) = 8) ∧ ((z2) = (x27)) ∧ ((z3) = (x28)) ∧ (((z12)).length = 80) ∧ ((z4) = 64) ∧ ((z5) = 80) ∧ (Rot 64 (z6)) ∧ (Rot 64 (z7)) ∧ (Rot 64 (z8)) ∧ (Rot 64 (z9))) := by
  exact Z86.congr (fun R k0 k1 => by kernel_rfl) (Zlc x25 x26 x27 x28 x29 x30 x31 x32 x33 x34 x35 x36 x37 i_)
abbrev Z5c (x12 : Str) (x13 x14 x15 x16 x17 : Int) (x18 x19 x20 x21 x22 x23 x24 : List Int) : Prop := ((x18).length = 3) ∧ ((x19).length = 3) ∧ ((x20).length = 3) ∧ ((x21).length = 3) ∧ ((x22).length = 8) ∧ ((x23).length = 80) ∧ (((x12)).length = 128) ∧ ((x13) = 8) ∧ ((x14) = 80) ∧ (0 ≤ (x15)) ∧ ((x15) ≤ 80) ∧ (((x24)).length = 80) ∧ ((x16) = 64) ∧ ((x17) = 80) ∧ (Rot 64 (x18)) ∧ (Rot 64 (x19)) ∧ (Rot 64 (x20)) ∧ (Rot 64 (x21))
theorem Zkx (x12 : Str) (x13 x14 x15 x16 x17 : Int) (x18 x19 x20 x21 x22 x23 x24 : List Int) (i_ : Z5c x12 x13 x14 x15 x16 x17 x18 x19 x20 x21 x22 x23 x24) : Zyw (fun R next k0 => Z7i Zh R x12 x13 x14 x15 x16 x17 x18 x19 x20 x21 x22 x23 x24 next k0) (fun nx12 nx13 nx14 nx15 nx16 nx17 nx18 nx19 nx20 nx21 nx22 nx23 nx24 => Z5c nx12 nx13 nx14 nx15 nx16 nx17 nx18 nx19 nx20 nx21 nx22 nx23 nx24 ∧ (80 - (nx15)).toNat < (80 - (x15)).toNat) (fun z0 z1 z2 z3 z4 z5 z6 z7 z8 => ((z2).length = 3) ∧ ((z3).length = 3) ∧ ((z4).length = 3) ∧ ((z5).length = 3) ∧ ((z6).length = 8) ∧ ((z7).length = 80) ∧ ((z0) = 64) ∧ ((z1) = 80) ∧ (Rot 64 (z2)) ∧ (Rot 64 (z3)) ∧ (Rot 64 (z4)) ∧ (Rot 64 (z5)) ∧ (((z8)).length = 80)) := by
  obtain ⟨i_0, i_1, i_2, i_3, i_4, i_5, i_6, i_7, i_8, i_9, i_10, i_11, i_12, i_13, i_14, i_15, i_16, i_17⟩ := i_
  refine Zyw.of ?_
  delta Z7i
  refine Tot.br (fun h1 => ?_) (fun h1 => ?_)
  · first | simp (disch := omega) only [ts, *] at h1 | skip
    all_goals
      refine Z86.bind (Zp7 x12 x13 x14 x15 x16 x17 x18 x19 x20 x21 x22 x23 x24) (fun y95 y96 y97 y98 y99 y100 y101 y102 y103 y104 y105 y106 y107 q2 => ?_) (fun y108 y109 y110 y111 y112 y113 y114 y115 y116 y117 y118 y119 y120 y121 q2 => ?_)
      · obtain ⟨q2_0, q2_1, q2_2, q2_3, q2_4, q2_5, q2_6, q2_7, q2_8, q2_9, q2_10, q2_11, q2_12, q2_13, q2_14, q2_15, q2_16⟩ := q2
        exact Tot.ret _
      · obtain ⟨q2_0, q2_1, q2_2, q2_3, q2_4, q2_5, q2_6, q2_7, q2_8, q2_9, q2_10, q2_11, q2_12, q2_13, q2_14, q2_15, q2_16⟩ := q2
        exact Tot.ret _
  · first | simp (disch := omega) only [ts, *] at h1 | skip
    all_goals
      exact Tot.ret _
theorem Zp0 (x12 : Str) (x13 x14 x15 x16 x17 : Int) (x18 x19 x20 x21 x22 x23 x24 : List Int) (i_ : autoParam (Z5c x12 x13 x14 x15 x16 x17 x18 x19 x20 x21 x22 x23 x24) sA._auto_1) : T_9 (fun R k0 => Zhb Zh R x12 x13 x14 x15 x16 x17 x18 x19 x20 x21 x22 x23 x24 k0) (fun z0 z1 z2 z3 z4 z5 z6 z7 z8 => ((z2).length = 3) ∧ ((z3).length = 3) ∧ ((z4).length = 3) ∧ ((z5).length = 3) ∧ ((z6).length = 8) ∧ ((z7).length = 80) ∧ ((z0) = 64) ∧ ((z1) = 80) ∧ (Rot 64 (z2)) ∧ (Rot 64 (z3)) ∧ (Rot 64 (z4)) ∧ (Rot 64 (z5)) ∧ (((z8)).length = 80)) :=
 Z1bx (r := fun R n x12 x13 x14 x15 x16 x17 x18 x19 x20 x21 x22 x23 x24 k0 => runP Z9q Z9h (Z46 Zh).step R n (((), x12, (), x13, x14, x15, ()), ((x16, x17, x18, x19, x20, x21, (), x22, ()), ((), ()), (x23, ()), (x24, ()), ())) (fun r => k0 (r.1) (r.2.1) (r.2.2.1) (r.2.2.2.1) (r.2.2.2.2.1) (r.2.2.2.2.2.1) (r.2.2.2.2.2.2.1) (r.2.2.2.2.2.2.2.1) (r.2.2.2.2.2.2.2.2), ())) (fun _ _ _ _ _ _ _ _ _ _ _ _ _ _ _ _ => rfl) Z5c (fun x12 x13 x14 x15 x16 x17 x18 x19 x20 x21 x22 x23 x24 => (80 - (x15)).toNat) Zkx (Z4q x12 x13 x14 x15 x16 x17 x18 x19 x20 x21 x22 x23 x24) x12 x13 x14 x15 x16 x17 x18 x19 x20 x21 x22 x23 x24 i_ (by obtain ⟨i_0, i_1, i_2, i_3, i_4, i_5, i_6, i_7, i_8, i_9, i_10, i_11, i_12, i_13, i_14, i_15, i_16, i_17⟩ := i_; unfold Z4q; first | omega | (simp only [ts] <;> omega))
theorem Zq9 (a1 : Str) (a2 a3 : Int) (a4 a5 a6 a7 a8 a9 : List Int) (h_ : autoParam (((a4).length = 3) ∧ ((a5).length = 3) ∧ ((a6).length = 3) ∧ ((a7).length = 3) ∧ ((a8).length = 8) ∧ ((a9).length = 80) ∧ (((a1)).length = 128) ∧ ((a2) = 64) ∧ ((a3) = 80) ∧ (Rot 64 (a4)) ∧ (Rot 64 (a5)) ∧ (Rot 64 (a6)) ∧ (Rot 64 (a7))) sA._auto_1) : T_9 (fun R k0 => Zm R a1 a2 a3 a4 a5 a6 a7 a8 a9 k0) (fun z0 z1 z2 z3 z4 z5 z6 z7 z8 => ((z2).length = 3) ∧ ((z3).length = 3) ∧ ((z4).length = 3) ∧ ((z5).length = 3) ∧ ((z6).length = 8) ∧ ((z7).length = 80) ∧ ((z0) = 64) ∧ ((z1) = 80) ∧ (Rot 64 (z2)) ∧ (Rot 64 (z3)) ∧ (Rot 64 (z4)) ∧ (Rot 64 (z5)) ∧ (((z8)).length = 80)) := by
  obtain ⟨h_0, h_1, h_2, h_3, h_4, h_5, h_6, h_7, h_8, h_9, h_10, h_11, h_12⟩ := h_
  refine T_9.of ?_
  delta Zm Zbj
  refine Tot.gd ?_
  refine Tot.gd ?_
  refine Tot.lett (fun v10 e_v10 => ?_)
  refine Tot.lett (fun v11 e_v11 => ?_)
  refine T_9.bind (Zp0 a1 (quoI .i64 a2 8) v11 0 a2 a3 a4 a5 a6 a7 a8 a9 v10) (fun y122 y123 y124 y125 y126 y127 y128 y129 y130 q1 => ?_)
  obtain ⟨q1_0, q1_1, q1_2, q1_3, q1_4, q1_5, q1_6, q1_7, q1_8, q1_9, q1_10, q1_11, q1_12⟩ := q1
  exact Tot.ret _
theorem Zeq (a1 : Int) (a2 : List Int) (a3 a4 : Int) (a5 a6 a7 a8 a9 a10 : List Int) (h_ : autoParam (((a2).length = 3) ∧ ((a5).length = 3) ∧ ((a6).length = 3) ∧ ((a7).length = 3) ∧ ((a8).length = 3) ∧ ((a9).length = 8) ∧ ((a10).length = 80) ∧ (Rot 64 (a2)) ∧ ((a3) = 64) ∧ ((a4) = 80) ∧ (Rot 64 (a5)) ∧ (Rot 64 (a6)) ∧ (Rot 64 (a7)) ∧ (Rot 64 (a8))) sA._auto_1) : T_9 (fun R k0 => Zn R a1 a2 a3 a4 a5 a6 a7 a8 a9 a10 k0) (fun z0 z1 z2 z3 z4 z5 z6 z7 z8 => ((z3).length = 3) ∧ ((z4).length = 3) ∧ ((z5).length = 3) ∧ ((z6).length = 3) ∧ ((z7).length = 8) ∧ ((z8).length = 80) ∧ ((z1) = 64) ∧ ((z2) = 80) ∧ (Rot 64 (z3)) ∧ (Rot 64 (z4)) ∧ (Rot 64 (z5)) ∧ (Rot 64 (z6))) := by
  obtain ⟨h_0, h_1, h_2, h_3, h_4, h_5, h_6, h_7, h_8, h_9, h_10, h_11, h_12, h_13⟩ := h_
  refine T_9.of ?_
  delta Zn Zbb
  obtain ⟨⟨r0, r0x⟩, ⟨r1, r1x⟩, ⟨r2, r2x⟩⟩ := (show Rot 64 (a2) by assumption)
  refine T_9.bind (Z3k a1 (a2.getD 0 0) a3 a4 a5 a6 a7 a8 a9 a10) (fun r11 r12 r13 r14 r15 r16 r17 r18 r19 q1 => ?_)
  obtain ⟨q1_0, q1_1, q1_2, q1_3, q1_4, q1_5, q1_6, q1_7, q1_8, q1_9, q1_10, q1_11⟩ := q1
  refine T_9.bind (Z3k a1 (a2.getD 1 0) a3 a4 a5 a6 a7 a8 a9 a10) (fun r20 r21 r22 r23 r24 r25 r26 r27 r28 q2 => ?_)
  obtain ⟨q2_0, q2_1, q2_2, q2_3, q2_4, q2_5, q2_6, q2_7, q2_8, q2_9, q2_10, q2_11⟩ := q2
  refine T_9.bind (Z3k a1 (a2.getD 2 0) a3 a4 a5 a6 a7 a8 a9 a10) (fun r29 r30 r31 r32 r33 r34 r35 r36 r37 q3 => ?_)
  obtain ⟨q3_0, q3_1, q3_2, q3_3, q3_4, q3_5, q3_6, q3_7, q3_8, q3_9, q3_10, q3_11⟩ := q3
  refine Tot.lett (fun v38 e_v38 => ?_)
  exact Tot.ret _
theorem Z136 (a1 : Int) (a2 : List Int) (h_ : autoParam (((a2).length = 80) ∧ (0 ≤ (a1)) ∧ ((a1) < 80)) sA._auto_1) : T_2 (fun R k0 => Z1k R a1 a2 k0) (fun z0 z1 => ((z1).length = 80)) := by
  obtain ⟨h_0, h_1, h_2⟩ := h_
  refine T_2.of ?_
  delta Z1k Zkn
  refine Tot.gd ?_
  exact Tot.ret _
abbrev Z5f (x23 x24 x25 x26 : Int) (x27 x28 x29 x30 x31 x32 x33 x34 x35 x36 : List Int) : Prop := ((x27).length = 3) ∧ ((x28).length = 3) ∧ ((x29).length = 3) ∧ ((x30).length = 3) ∧ ((x31).length = 8) ∧ ((x32).length = 80) ∧ ((x33).length = 8) ∧ ((x34).length = 8) ∧ ((x35).length = 8) ∧ ((x23) = 80) ∧ (0 ≤ (x24)) ∧ ((x24) ≤ 80) ∧ (((x36)).length = 80) ∧ ((x25) = 64) ∧ ((x26) = 80) ∧ (Rot 64 (x27)) ∧ (Rot 64 (x28)) ∧ (Rot 64 (x29)) ∧ (Rot 64 (x30))
theorem Zl1 (x23 x24 x25 x26 : Int) (x27 x28 x29 x30 x31 x32 x33 x34 x35 x36 : List Int) (i_ : Z5f x23 x24 x25 x26 x27 x28 x29 x30 x31 x32 x33 x34 x35 x36) : Zt6 (fun R next k0 => Z7v Zm Zn Z1k R x23 x24 x25 x26 x27 x28 x29 x30 x31 x32 x33 x34 x35 x36 next k0) (fun nx23 nx24 nx25 nx26 nx27 nx28 nx29 nx30 nx31 nx32 nx33 nx34 nx35 nx36 => Z5f nx23 nx24 nx25 nx26 nx27 nx28 nx29 nx30 nx31 nx32 nx33 nx34 nx35 nx36 ∧ (80 - (nx24)).toNat < (80 - (x24)).toNat) (fun z0 z1 z2 z3 z4 z5 z6 z7 z8 z9 z10 => ((z2).length = 3) ∧ ((z3).length = 3) ∧ ((z4).length = 3) ∧ ((z5).length = 3) ∧ ((z6).length = 8) ∧ ((z7).length = 80) ∧ ((z8).length = 8) ∧ ((z9).length = 8) ∧ ((z10).length = 8) ∧ ((z0) = 64) ∧ ((z1) = 80) ∧ (Rot 64 (z2)) ∧ (Rot 64 (z3)) ∧ (Rot 64 (z4)) ∧ (Rot 64 (z5))) := by
  obtain ⟨i_0, i_1, i_2, i_3, i_4, i_5, i_6, i_7, i_8, i_9, i_10, i_11, i_12, i_13, i_14, i_15, i_16, i_17, i_18⟩ := i_
  refine Zt6.of ?_
  delta Z7v
  refine Tot.br (fun h1 => ?_) (fun h1 => ?_)
  · first | simp (disch := omega) only [ts, *] at h1 | skip
    all_goals
      refine Tot.gd ?_
      refine Tot.lett (fun v37 e_v37 => ?_)
      refine Tot.lett (fun v38 e_v38 => ?_)
      refine T_9.bind (Zeq (x35.getD 4 0) x29 x25 x26 x27 x28 x29 x30 x31 x32) (fun r39 r40 r41 r42 r43 r44 r45 r46 r47 q2 => ?_)
      obtain ⟨q2_0, q2_1, q2_2, q2_3, q2_4, q2_5, q2_6, q2_7, q2_8, q2_9, q2_10, q2_11⟩ := q2
      refine Tot.lett (fun v48 e_v48 => ?_)
      refine Tot.lett (fun v49 e_v49 => ?_)
      refine T_2.bind (Z136 x24 x32) (fun r50 r51 q3 => ?_)
      replace q3 : (r51).length = 80 := q3
      refine Tot.lett (fun v52 e_v52 => ?_)
      refine Tot.lett (fun v53 e_v53 => ?_)
      refine Tot.lett (fun v54 e_v54 => ?_)
      refine Tot.lett (fun v55 e_v55 => ?_)
      refine Tot.lett (fun v56 e_v56 => ?_)
      refine T_9.bind (Zeq (x35.getD 0 0) x30 x25 x26 x27 x28 x29 x30 x31 x32) (fun r57 r58 r59 r60 r61 r62 r63 r64 r65 q4 => ?_)
      obtain ⟨q4_0, q4_1, q4_2, q4_3, q4_4, q4_5, q4_6, q4_7, q4_8, q4_9, q4_10, q4_11⟩ := q4
      refine Tot.lett (fun v66 e_v66 => ?_)
      refine Tot.lett (fun v67 e_v67 => ?_)
      refine Tot.lett (fun v68 e_v68 => ?_)
      exact Tot.ret _
  · first | simp (disch := omega) only [ts, *] at h1 | skip
    all_goals
      exact Tot.ret _
theorem Zom (x23 x24 x25 x26 : Int) (x27 x28 x29 x30 x31 x32 x33 x34 x35 x36 : List Int) (i_ : autoParam (Z5f x23 x24 x25 x26 x27 x28 x29 x30 x31 x32 x33 x34 x35 x36) sA._auto_1) : T_11 (fun R k0 => Zh6 Zm Zn Z1k R x23 x24 x25 x26 x27 x28 x29 x30 x31 x32 x33 x34 x35 x36 k0) (fun z0 z1 z2 z3 z4 z5 z6 z7 z8 z9 z10 => ((z2).length = 3) ∧ ((z3).length = 3) ∧ ((z4).length = 3) ∧ ((z5).length = 3) ∧ ((z6).length = 8) ∧ ((z7).length = 80) ∧ ((z8).length = 8) ∧ ((z9).length = 8) ∧ ((z10).length = 8) ∧ ((z0) = 64) ∧ ((z1) = 80) ∧ (Rot 64 (z2)) ∧ (Rot 64 (z3)) ∧ (Rot 64 (z4)) ∧ (Rot 64 (z5))) :=
 Z1a7 (r := fun R n x23 x24 x25 x26 x27 x28 x29 x30 x31 x32 x33 x34 x35 x36 k0 => runP Z9y Z9u (Z47 Zm Zn Z1k).step R n (((), (), (), (), (), x23, x24, ()), ((x25, x26, x27, x28, x29, x30, (), x31, ()), ((), ()), (x32, ()), (x33, ()), (x34, ()), (x35, ()), (x36, ()), ())) (fun r => k0 (r.1) (r.2.1) (r.2.2.1) (r.2.2.2.1) (r.2.2.2.2.1) (r.2.2.2.2.2.1) (r.2.2.2.2.2.2.1) (r.2.2.2.2.2.2.2.1) (r.2.2.2.2.2.2.2.2.1) (r.2.2.2.2.2.2.2.2.2.1) (r.2.2.2.2.2.2.2.2.2.2), ())) (fun _ _ _ _ _ _ _ _ _ _ _ _ _ _ _ _ _ => rfl) Z5f (fun x23 x24 x25 x26 x27 x28 x29 x30 x31 x32 x33 x34 x35 x36 => (80 - (x24)).toNat) Zl1 (Z4o x23 x24 x25 x26 x27 x28 x29 x30 x31 x32 x33 x34 x35 x36) x23 x24 x25 x26 x27 x28 x29 x30 x31 x32 x33 x34 x35 x36 i_ (by obtain ⟨i_0, i_1, i_2, i_3, i_4, i_5, i_6, i_7, i_8, i_9, i_10, i_11, i_12, i_13, i_14, i_15, i_16, i_17, i_18⟩ := i_; unfold Z4o; first | omega | (simp only [ts] <;> omega))
abbrev Z5h (x80 x81 x82 : Int) (x83 x84 x85 x86 x87 x88 x89 x90 x91 : List Int) : Prop := ((x83).length = 3) ∧ ((x84).length = 3) ∧ ((x85).length = 3) ∧ ((x86).length = 3) ∧ ((x87).length = 8) ∧ ((x88).length = 80) ∧ ((x89).length = 8) ∧ ((x90).length = 8) ∧ ((x91).length = 8) ∧ (0 ≤ (x80)) ∧ ((x80) ≤ 8) ∧ ((x81) = 64) ∧ ((x82) = 80) ∧ (Rot 64 (x83)) ∧ (Rot 64 (x84)) ∧ (Rot 64 (x85)) ∧ (Rot 64 (x86))
theorem Zkp (x80 x81 x82 : Int) (x83 x84 x85 x86 x87 x88 x89 x90 x91 : List Int) (i_ : Z5h x80 x81 x82 x83 x84 x85 x86 x87 x88 x89 x90 x91) : Ztb (fun R next k0 => Z7s Zm Zn Z1k R x80 x81 x82 x83 x84 x85 x86 x87 x88 x89 x90 x91 next k0) (fun nx80 nx81 nx82 nx83 nx84 nx85 nx86 nx87 nx88 nx89 nx90 nx91 => Z5h nx80 nx81 nx82 nx83 nx84 nx85 nx86 nx87 nx88 nx89 nx90 nx91 ∧ (8 - (nx80)).toNat < (8 - (x80)).toNat) (fun z0 z1 z2 z3 z4 z5 z6 z7 z8 z9 => ((z2).length = 3) ∧ ((z3).length = 3) ∧ ((z4).length = 3) ∧ ((z5).length = 3) ∧ ((z6).length = 8) ∧ ((z7).length = 80) ∧ ((z8).length = 8) ∧ ((z9).length = 8) ∧ ((z0) = 64) ∧ ((z1) = 80) ∧ (Rot 64 (z2)) ∧ (Rot 64 (z3)) ∧ (Rot 64 (z4)) ∧ (Rot 64 (z5))) := by
  obtain ⟨i_0, i_1, i_2, i_3, i_4, i_5, i_6, i_7, i_8, i_9, i_10, i_11, i_12, i_13, i_14, i_15, i_16⟩ := i_
  refine Ztb.of ?_
  delta Z7s
  refine Tot.br (fun h1 => ?_) (fun h1 => ?_)
  · first | simp (disch := omega) only [ts, *] at h1 | skip
    all_goals
      refine Tot.gd ?_
      refine Tot.gd ?_
      refine Tot.lett (fun v92 e_v92 => ?_)
      refine Tot.gd ?_
      exact Tot.ret _
  · first | simp (disch := omega) only [ts, *] at h1 | skip
    all_goals
      exact Tot.ret _
theorem Zof (x80 x81 x82 : Int) (x83 x84 x85 x86 x87 x88 x89 x90 x91 : List Int) (i_ : autoParam (Z5h x80 x81 x82 x83 x84 x85 x86 x87 x88 x89 x90 x91) sA._auto_1) : T_10 (fun R k0 => Zh1 Zm Zn Z1k R x80 x81 x82 x83 x84 x85 x86 x87 x88 x89 x90 x91 k0) (fun z0 z1 z2 z3 z4 z5 z6 z7 z8 z9 => ((z2).length = 3) ∧ ((z3).length = 3) ∧ ((z4).length = 3) ∧ ((z5).length = 3) ∧ ((z6).length = 8) ∧ ((z7).length = 80) ∧ ((z8).length = 8) ∧ ((z9).length = 8) ∧ ((z0) = 64) ∧ ((z1) = 80) ∧ (Rot 64 (z2)) ∧ (Rot 64 (z3)) ∧ (Rot 64 (z4)) ∧ (Rot 64 (z5))) :=
 Z1ag (r := fun R n x80 x81 x82 x83 x84 x85 x86 x87 x88 x89 x90 x91 k0 => runP Z9g Z9j (Z44 Zm Zn Z1k).step R n (((), (), (), x80, ()), ((x81, x82, x83, x84, x85, x86, (), x87, ()), ((), ()), (x88, ()), (x89, ()), (x90, ()), (x91, ()), ())) (fun r => k0 (r.1) (r.2.1) (r.2.2.1) (r.2.2.2.1) (r.2.2.2.2.1) (r.2.2.2.2.2.1) (r.2.2.2.2.2.2.1) (r.2.2.2.2.2.2.2.1) (r.2.2.2.2.2.2.2.2.1) (r.2.2.2.2.2.2.2.2.2), ())) (fun _ _ _ _ _ _ _ _ _ _ _ _ _ _ _ => rfl) Z5h (fun x80 x81 x82 x83 x84 x85 x86 x87 x88 x89 x90 x91 => (8 - (x80)).toNat) Zkp (Z4p x80 x81 x82 x83 x84 x85 x86 x87 x88 x89 x90 x91) x80 x81 x82 x83 x84 x85 x86 x87 x88 x89 x90 x91 i_ (by obtain ⟨i_0, i_1, i_2, i_3, i_4, i_5, i_6, i_7, i_8, i_9, i_10, i_11, i_12, i_13, i_14, i_15, i_16⟩ := i_; unfold Z4p; first | omega | (simp only [ts] <;> omega))
theorem Zrd (a1 : List Int) (a2 : Str) (a3 a4 : Int) (a5 a6 a7 a8 a9 a10 : List Int) (h_ : autoParam (((a1).length = 8) ∧ ((a5).length = 3) ∧ ((a6).length = 3) ∧ ((a7).length = 3) ∧ ((a8).length = 3) ∧ ((a9).length = 8) ∧ ((a10).length = 80) ∧ (((a2)).length = 128) ∧ ((a3) = 64) ∧ ((a4) = 80) ∧ (Rot 64 (a5)) ∧ (Rot 64 (a6)) ∧ (Rot 64 (a7)) ∧ (Rot 64 (a8))) sA._auto_1) : T_9 (fun R k0 => Z3 R a1 a2 a3 a4 a5 a6 a7 a8 a9 a10 k0) (fun z0 z1 z2 z3 z4 z5 z6 z7 z8 => ((z0).length = 8) ∧ ((z3).length = 3) ∧ ((z4).length = 3) ∧ ((z5).length = 3) ∧ ((z6).length = 3) ∧ ((z7).length = 8) ∧ ((z8).length = 80) ∧ ((z1) = 64) ∧ ((z2) = 80) ∧ (Rot 64 (z3)) ∧ (Rot 64 (z4)) ∧ (Rot 64 (z5)) ∧ (Rot 64 (z6))) := by
  obtain ⟨h_0, h_1, h_2, h_3, h_4, h_5, h_6, h_7, h_8, h_9, h_10, h_11, h_12, h_13⟩ := h_
  refine T_9.of ?_
  delta Z3 Zb5
  refine Tot.lett (fun v11 e_v11 => ?_)
  refine Tot.lett (fun v12 e_v12 => ?_)
  refine T_9.bind (Zq9 a2 a3 a4 a5 a6 a7 a8 a9 a10) (fun r13 r14 r15 r16 r17 r18 r19 r20 r21 q1 => ?_)
  obtain ⟨q1_0, q1_1, q1_2, q1_3, q1_4, q1_5, q1_6, q1_7, q1_8, q1_9, q1_10, q1_11, q1_12⟩ := q1
  refine Tot.lett (fun v22 e_v22 => ?_)
  refine T_11.bind (Zom v22 0 r13 r14 r15 r16 r17 r18 r19 r20 a1 v11 a1 r21) (fun y69 y70 y71 y72 y73 y74 y75 y76 y77 y78 y79 q2 => ?_)
  obtain ⟨q2_0, q2_1, q2_2, q2_3, q2_4, q2_5, q2_6, q2_7, q2_8, q2_9, q2_10, q2_11, q2_12, q2_13, q2_14⟩ := q2
  refine T_10.bind (Zof 0 y69 y70 y71 y72 y73 y74 y75 y76 y77 y78 y79) (fun y93 y94 y95 y96 y97 y98 y99 y100 y101 y102 q3 => ?_)
  obtain ⟨q3_0, q3_1, q3_2, q3_3, q3_4, q3_5, q3_6, q3_7, q3_8, q3_9, q3_10, q3_11, q3_12, q3_13⟩ := q3
  exact Tot.ret _
abbrev Z8k (x10 : Str) (x11 x12 : Int) (x13 x14 x15 x16 x17 x18 : List Int) (x19 : Str) : Prop := ((x13).length = 3) ∧ ((x14).length = 3) ∧ ((x15).length = 3) ∧ ((x16).length = 3) ∧ ((x17).length = 8) ∧ ((x18).length = 80) ∧ (((x10)).length ≤ 1000000) ∧ (((x19)).length + ((128 - (((x19)).length + 16) % 128) % 128) ≤ 1000300) ∧ ((x11) = 64) ∧ ((x12) = 80) ∧ (Rot 64 (x13)) ∧ (Rot 64 (x14)) ∧ (Rot 64 (x15)) ∧ (Rot 64 (x16))
theorem Zoi (x10 : Str) (x11 x12 : Int) (x13 x14 x15 x16 x17 x18 : List Int) (x19 : Str) (i_ : Z8k x10 x11 x12 x13 x14 x15 x16 x17 x18 x19) : Zta (fun R next k0 => Zac Z2 Z3 R x10 x11 x12 x13 x14 x15 x16 x17 x18 x19 next k0) (fun nx10 nx11 nx12 nx13 nx14 nx15 nx16 nx17 nx18 nx19 => Z8k nx10 nx11 nx12 nx13 nx14 nx15 nx16 nx17 nx18 nx19 ∧ (128 - (((nx19)).length + 16) % 128) % 128 < (128 - (((x19)).length + 16) % 128) % 128) (fun z0 z1 z2 z3 z4 z5 z6 z7 z8 z9 => ((z3).length = 3) ∧ ((z4).length = 3) ∧ ((z5).length = 3) ∧ ((z6).length = 3) ∧ ((z7).length = 8) ∧ ((z8).length = 80) ∧ (((z0)).length ≤ 1000000) ∧ (((z9)).length ≤ 1000300) ∧ ((((z9)).length + 16) % 128 = 0) ∧ ((z1) = 64) ∧ ((z2) = 80) ∧ (Rot 64 (z3)) ∧ (Rot 64 (z4)) ∧ (Rot 64 (z5)) ∧ (Rot 64 (z6))) := by
  obtain ⟨i_0, i_1, i_2, i_3, i_4, i_5, i_6, i_7, i_8, i_9, i_10, i_11, i_12, i_13⟩ := i_
  refine Zta.of ?_
  delta Zac
  refine Tot.lett (fun v20 e_v20 => ?_)
  refine Tot.lett (fun v21 e_v21 => ?_)
  refine T_9.bind (Z92 x11 x12 x13 x14 x15 x16 x17 x18) (fun r22 r23 r24 r25 r26 r27 r28 r29 r30 q1 => ?_)
  obtain ⟨q1_0, q1_1, q1_2, q1_3, q1_4, q1_5, q1_6, q1_7, q1_8, q1_9, q1_10, q1_11, q1_12⟩ := q1
  refine Tot.gd ?_
  refine Tot.br (fun h2 => ?_) (fun h2 => ?_)
  · first | simp (disch := omega) only [ts, *] at h2 | skip
    all_goals
      refine Tot.gd ?_
      exact Tot.ret _
  · first | simp (disch := omega) only [ts, *] at h2 | skip
    all_goals
      exact Tot.ret _
theorem Ztm (x10 : Str) (x11 x12 : Int) (x13 x14 x15 x16 x17 x18 : List Int) (x19 : Str) (i_ : autoParam (Z8k x10 x11 x12 x13 x14 x15 x16 x17 x18 x19) sA._auto_1) : T_10 (fun R k0 => Zl4 Z2 Z3 R x10 x11 x12 x13 x14 x15 x16 x17 x18 x19 k0) (fun z0 z1 z2 z3 z4 z5 z6 z7 z8 z9 => ((z3).length = 3) ∧ ((z4).length = 3) ∧ ((z5).length = 3) ∧ ((z6).length = 3) ∧ ((z7).length = 8) ∧ ((z8).length = 80) ∧ (((z0)).length ≤ 1000000) ∧ (((z9)).length ≤ 1000300) ∧ ((((z9)).length + 16) % 128 = 0) ∧ ((z1) = 64) ∧ ((z2) = 80) ∧ (Rot 64 (z3)) ∧ (Rot 64 (z4)) ∧ (Rot 64 (z5)) ∧ (Rot 64 (z6))) :=
 Z1am (r := fun R n x10 x11 x12 x13 x14 x15 x16 x17 x18 x19 k0 => runP Zd4 Zd1 (Z5i Z2 Z3).step R n (((), x10, (), ()), ((x11, x12, x13, x14, x15, x16, (), x17, ()), ((), ()), (x18, ()), (x19, ()), ())) (fun r => k0 (r.1) (r.2.1) (r.2.2.1) (r.2.2.2.1) (r.2.2.2.2.1) (r.2.2.2.2.2.1) (r.2.2.2.2.2.2.1) (r.2.2.2.2.2.2.2.1) (r.2.2.2.2.2.2.2.2.1) (r.2.2.2.2.2.2.2.2.2), ())) (fun _ _ _ _ _ _ _ _ _ _ _ _ _ => rfl) Z8k (fun x10 x11 x12 x13 x14 x15 x16 x17 x18 x19 => (128 - (((x19)).length + 16) % 128) % 128) Zoi (Z6f x10 x11 x12 x13 x14 x15 x16 x17 x18 x19) x10 x11 x12 x13 x14 x15 x16 x17 x18 x19 i_ (by obtain ⟨i_0, i_1, i_2, i_3, i_4, i_5, i_6, i_7, i_8, i_9, i_10, i_11, i_12, i_13⟩ := i_; unfold Z6f; first | omega | (simp only [ts] <;> omega))
abbrev Z8g (x42 : Str) (x43 x44 x45 : Int) (x46 x47 x48 x49 x50 x51 : List Int) (x52 : Str) : Prop := ((x46).length = 3) ∧ ((x47).length = 3) ∧ ((x48).length = 3) ∧ ((x49).length = 3) ∧ ((x50).length = 8) ∧ ((x51).length = 80) ∧ (((x42)).length ≤ 1000000) ∧ (-1 ≤ (x43)) ∧ ((x43) ≤ 15) ∧ ((((x52)).length + ((x43) + 1).toNat) % 128 = 0) ∧ (((x52)).length + ((x43) + 1).toNat ≤ 1000400) ∧ ((x44) = 64) ∧ ((x45) = 80) ∧ (Rot 64 (x46)) ∧ (Rot 64 (x47)) ∧ (Rot 64 (x48)) ∧ (Rot 64 (x49))
theorem Zp3 (x42 : Str) (x43 x44 x45 : Int) (x46 x47 x48 x49 x50 x51 : List Int) (x52 : Str) (i_ : Z8g x42 x43 x44 x45 x46 x47 x48 x49 x50 x51 x52) : Zdv (fun R next k0 => Zal Z2 Z3 R x42 x43 x44 x45 x46 x47 x48 x49 x50 x51 x52 next k0) (fun nx42 nx43 nx44 nx45 nx46 nx47 nx48 nx49 nx50 nx51 nx52 => Z8g nx42 nx43 nx44 nx45 nx46 nx47 nx48 nx49 nx50 nx51 nx52 ∧ ((nx43) + 1).toNat < ((x43) + 1).toNat) (fun z0 z1 z2 z3 z4 z5 z6 z7 z8 => ((z2).length = 3) ∧ ((z3).length = 3) ∧ ((z4).length = 3) ∧ ((z5).length = 3) ∧ ((z6).length = 8) ∧ ((z7).length = 80) ∧ (((z8)).length % 128 = 0) ∧ (((z8)).length ≤ 1000400) ∧ ((z0) = 64) ∧ ((z1) = 80) ∧ (Rot 64 (z2)) ∧ (Rot 64 (z3)) ∧ (Rot 64 (z4)) ∧ (Rot 64 (z5))) := by
  obtain ⟨i_0, i_1, i_2, i_3, i_4, i_5, i_6, i_7, i_8, i_9, i_10, i_11, i_12, i_13, i_14, i_15, i_16⟩ := i_
  refine Zdv.of ?_
  delta Zal
  refine Tot.br (fun h1 => ?_) (fun h1 => ?_)
  · first | simp (disch := omega) only [ts, *] at h1 | skip
    all_goals
      refine Tot.lett (fun v53 e_v53 => ?_)
      refine Tot.lett (fun v54 e_v54 => ?_)
      refine Tot.gd ?_
      refine Tot.lett (fun v55 e_v55 => ?_)
      refine Tot.lett (fun v56 e_v56 => ?_)
      refine Tot.gd ?_
      exact Tot.ret _
  · first | simp (disch := omega) only [ts, *] at h1 | skip
    all_goals
      exact Tot.ret _
theorem Zu5 (x42 : Str) (x43 x44 x45 : Int) (x46 x47 x48 x49 x50 x51 : List Int) (x52 : Str) (i_ : autoParam (Z8g x42 x43 x44 x45 x46 x47 x48 x49 x50 x51 x52) sA._auto_1) : T_9 (fun R k0 => Zl3 Z2 Z3 R x42 x43 x44 x45 x46 x47 x48 x49 x50 x51 x52 k0) (fun z0 z1 z2 z3 z4 z5 z6 z7 z8 => ((z2).length = 3) ∧ ((z3).length = 3) ∧ ((z4).length = 3) ∧ ((z5).length = 3) ∧ ((z6).length = 8) ∧ ((z7).length = 80) ∧ (((z8)).length % 128 = 0) ∧ (((z8)).length ≤ 1000400) ∧ ((z0) = 64) ∧ ((z1) = 80) ∧ (Rot 64 (z2)) ∧ (Rot 64 (z3)) ∧ (Rot 64 (z4)) ∧ (Rot 64 (z5))) :=
 Zy5 (r := fun R n x42 x43 x44 x45 x46 x47 x48 x49 x50 x51 x52 k0 => runP Zc7 Zcw (Z5n Z2 Z3).step R n (((), x42, (), x43, ()), ((x44, x45, x46, x47, x48, x49, (), x50, ()), ((), ()), (x51, ()), (x52, ()), ())) (fun r => k0 (r.1) (r.2.1) (r.2.2.1) (r.2.2.2.1) (r.2.2.2.2.1) (r.2.2.2.2.2.1) (r.2.2.2.2.2.2.1) (r.2.2.2.2.2.2.2.1) (r.2.2.2.2.2.2.2.2), ())) (fun _ _ _ _ _ _ _ _ _ _ _ _ _ _ => rfl) Z8g (fun x42 x43 x44 x45 x46 x47 x48 x49 x50 x51 x52 => ((x43) + 1).toNat) Zp3 (Z61 x42 x43 x44 x45 x46 x47 x48 x49 x50 x51 x52) x42 x43 x44 x45 x46 x47 x48 x49 x50 x51 x52 i_ (by obtain ⟨i_0, i_1, i_2, i_3, i_4, i_5, i_6, i_7, i_8, i_9, i_10, i_11, i_12, i_13, i_14, i_15, i_16⟩ := i_; unfold Z61; first | omega | (simp only [ts] <;> omega))
abbrev Z8p (x67 x68 x69 : Int) (x70 x71 x72 x73 x74 x75 : List Int) (x76 : Str) (x77 : List Int) : Prop := ((x70).length = 3) ∧ ((x71).length = 3) ∧ ((x72).length = 3) ∧ ((x73).length = 3) ∧ ((x74).length = 8) ∧ ((x75).length = 80) ∧ ((x77).length = 8) ∧ (0 ≤ (x67)) ∧ ((x67) % 128 = 0) ∧ ((x67) ≤ (((x76)).length : Int)) ∧ (((x76)).length % 128 = 0) ∧ (((x76)).length ≤ 1000400) ∧ ((x68) = 64) ∧ ((x69) = 80) ∧ (Rot 64 (x70)) ∧ (Rot 64 (x71)) ∧ (Rot 64 (x72)) ∧ (Rot 64 (x73))
theorem Zot (x67 x68 x69 : Int) (x70 x71 x72 x73 x74 x75 : List Int) (x76 : Str) (x77 : List Int) (i_ : Z8p x67 x68 x69 x70 x71 x72 x73 x74 x75 x76 x77) : Zdv (fun R next k0 => Zan Z2 Z3 R x67 x68 x69 x70 x71 x72 x73 x74 x75 x76 x77 next k0) (fun nx67 nx68 nx69 nx70 nx71 nx72 nx73 nx74 nx75 nx76 nx77 => Z8p nx67 nx68 nx69 nx70 nx71 nx72 nx73 nx74 nx75 nx76 nx77 ∧ ((((nx76)).length : Int) - (nx67)).toNat < ((((x76)).length : Int) - (x67)).toNat) (fun z0 z1 z2 z3 z4 z5 z6 z7 z8 => ((z2).length = 3) ∧ ((z3).length = 3) ∧ ((z4).length = 3) ∧ ((z5).length = 3) ∧ ((z6).length = 8) ∧ ((z7).length = 80) ∧ ((z8).length = 8) ∧ ((z0) = 64) ∧ ((z1) = 80) ∧ (Rot 64 (z2)) ∧ (Rot 64 (z3)) ∧ (Rot 64 (z4)) ∧ (Rot 64 (z5))) := by
  obtain ⟨i_0, i_1, i_2, i_3, i_4, i_5, i_6, i_7, i_8, i_9, i_10, i_11, i_12, i_13, i_14, i_15, i_16, i_17⟩ := i_
  refine Zdv.of ?_
  delta Zan
  refine Tot.lett (fun v78 e_v78 => ?_)
  refine Tot.br (fun h1 => ?_) (fun h1 => ?_)
  · first | simp (disch := omega) only [ts, *] at h1 | skip
    all_goals
      refine T_9.bind (Z92 x68 x69 x70 x71 x72 x73 x74 x75) (fun r79 r80 r81 r82 r83 r84 r85 r86 r87 q2 => ?_)
      obtain ⟨q2_0, q2_1, q2_2, q2_3, q2_4, q2_5, q2_6, q2_7, q2_8, q2_9, q2_10, q2_11, q2_12⟩ := q2
      refine Tot.gd ?_
      refine Tot.gd ?_
      refine Tot.lett (fun v88 e_v88 => ?_)
      refine T_9.bind (Zrd x77 v88 x68 x69 x70 x71 x72 x73 x74 x75) (fun r89 r90 r91 r92 r93 r94 r95 r96 r97 q3 => ?_)
      obtain ⟨q3_0, q3_1, q3_2, q3_3, q3_4, q3_5, q3_6, q3_7, q3_8, q3_9, q3_10, q3_11, q3_12⟩ := q3
      refine T_9.bind (Z92 r90 r91 r92 r93 r94 r95 r96 r97) (fun r98 r99 r100 r101 r102 r103 r104 r105 r106 q4 => ?_)
      obtain ⟨q4_0, q4_1, q4_2, q4_3, q4_4, q4_5, q4_6, q4_7, q4_8, q4_9, q4_10, q4_11, q4_12⟩ := q4
      exact Tot.ret _
  · first | simp (disch := omega) only [ts, *] at h1 | skip
    all_goals
      exact Tot.ret _
theorem Zte (x67 x68 x69 : Int) (x70 x71 x72 x73 x74 x75 : List Int) (x76 : Str) (x77 : List Int) (i_ : autoParam (Z8p x67 x68 x69 x70 x71 x72 x73 x74 x75 x76 x77) sA._auto_1) : T_9 (fun R k0 => Zkf Z2 Z3 R x67 x68 x69 x70 x71 x72 x73 x74 x75 x76 x77 k0) (fun z0 z1 z2 z3 z4 z5 z6 z7 z8 => ((z2).length = 3) ∧ ((z3).length = 3) ∧ ((z4).length = 3) ∧ ((z5).length = 3) ∧ ((z6).length = 8) ∧ ((z7).length = 80) ∧ ((z8).length = 8) ∧ ((z0) = 64) ∧ ((z1) = 80) ∧ (Rot 64 (z2)) ∧ (Rot 64 (z3)) ∧ (Rot 64 (z4)) ∧ (Rot 64 (z5))) :=
 Zy5 (r := fun R n x67 x68 x69 x70 x71 x72 x73 x74 x75 x76 x77 k0 => runP Zd3 Zct (Z5v Z2 Z3).step R n (((), (), (), x67, ()), ((x68, x69, x70, x71, x72, x73, (), x74, ()), ((), ()), (x75, ()), (x76, ()), (x77, ()), ())) (fun r => k0 (r.1) (r.2.1) (r.2.2.1) (r.2.2.2.1) (r.2.2.2.2.1) (r.2.2.2.2.2.1) (r.2.2.2.2.2.2.1) (r.2.2.2.2.2.2.2.1) (r.2.2.2.2.2.2.2.2), ())) (fun _ _ _ _ _ _ _ _ _ _ _ _ _ _ => rfl) Z8p (fun x67 x68 x69 x70 x71 x72 x73 x74 x75 x76 x77 => ((((x76)).length : Int) - (x67)).toNat) Zot (Z6b x67 x68 x69 x70 x71 x72 x73 x74 x75 x76 x77) x67 x68 x69 x70 x71 x72 x73 x74 x75 x76 x77 i_ (by obtain ⟨i_0, i_1, i_2, i_3, i_4, i_5, i_6, i_7, i_8, i_9, i_10, i_11, i_12, i_13, i_14, i_15, i_16, i_17⟩ := i_; unfold Z6b; first | omega | (simp only [ts] <;> omega))
abbrev Z8l (gx177 gx178 : Int) (gx179 : List Int) (gx180 gx181 gx182 : Int) (gx183 gx184 gx185 gx186 gx187 gx188 : List Int) (gx189 : Str) (x177 x178 : Int) (x179 : List Int) (x180 x181 x182 : Int) (x183 x184 x185 x186 x187 x188 : List Int) (x189 : Str) : Prop := ((x179).length = 8) ∧ ((x183).length = 3) ∧ ((x184).length = 3) ∧ ((x185).length = 3) ∧ ((x186).length = 3) ∧ ((x187).length = 8) ∧ ((x188).length = 80) ∧ ((x180) = (gx180)) ∧ (-8 ≤ (x178)) ∧ ((x178) ≤ 56) ∧ ((x178) % 8 = 0) ∧ (0 ≤ (x180)) ∧ ((x180) < 8) ∧ ((((x189)).length : Int) = 8 * (x180) + 7 - (x178) / 8) ∧ ((x181) = 64) ∧ ((x182) = 80) ∧ (Rot 64 (x183)) ∧ (Rot 64 (x184)) ∧ (Rot 64 (x185)) ∧ (Rot 64 (x186))
theorem Zpd (gx177 gx178 : Int) (gx179 : List Int) (gx180 gx181 gx182 : Int) (gx183 gx184 gx185 gx186 gx187 gx188 : List Int) (gx189 : Str) (x177 x178 : Int) (x179 : List Int) (x180 x181 x182 : Int) (x183 x184 x185 x186 x187 x188 : List Int) (x189 : Str) (i_ : Z8l gx177 gx178 gx179 gx180 gx181 gx182 gx183 gx184 gx185 gx186 gx187 gx188 gx189 x177 x178 x179 x180 x181 x182 x183 x184 x185 x186 x187 x188 x189) : Ztd (fun R next k0 => Zag Z2 Z3 R x177 x178 x179 x180 x181 x182 x183 x184 x185 x186 x187 x188 x189 next k0) (fun nx177 nx178 nx179 nx180 nx181 nx182 nx183 nx184 nx185 nx186 nx187 nx188 nx189 => Z8l gx177 gx178 gx179 gx180 gx181 gx182 gx183 gx184 gx185 gx186 gx187 gx188 gx189 nx177 nx178 nx179 nx180 nx181 nx182 nx183 nx184 nx185 nx186 nx187 nx188 nx189 ∧ ((nx178) + 8).toNat < ((x178) + 8).toNat) (fun z0 z1 z2 z3 z4 z5 z6 z7 z8 z9 z10 => ((z0).length = 8) ∧ ((z4).length = 3) ∧ ((z5).length = 3) ∧ ((z6).length = 3) ∧ ((z7).length = 3) ∧ ((z8).length = 8) ∧ ((z9).length = 80) ∧ ((z1) = (gx180)) ∧ ((((z10)).length : Int) = 8 * (gx180) + 8) ∧ ((z2) = 64) ∧ ((z3) = 80) ∧ (Rot 64 (z4)) ∧ (Rot 64 (z5)) ∧ (Rot 64 (z6)) ∧ (Rot 64 (z7))) := by
  obtain ⟨i_0, i_1, i_2, i_3, i_4, i_5, i_6, i_7, i_8, i_9, i_10, i_11, i_12, i_13, i_14, i_15, i_16, i_17, i_18, i_19⟩ := i_
  refine Ztd.of ?_
  delta Zag
  refine Tot.br (fun h1 => ?_) (fun h1 => ?_)
  · first | simp (disch := omega) only [ts, *] at h1 | skip
    all_goals
      refine Tot.gd ?_
      refine Tot.lett (fun v190 e_v190 => ?_)
      refine Tot.gd ?_
      refine Tot.lett (fun v191 e_v191 => ?_)
      exact Tot.ret _
  · first | simp (disch := omega) only [ts, *] at h1 | skip
    all_goals
      exact Tot.ret _
theorem Ztc (x177 x178 : Int) (x179 : List Int) (x180 x181 x182 : Int) (x183 x184 x185 x186 x187 x188 : List Int) (x189 : Str) (i_ : autoParam (Z8l x177 x178 x179 x180 x181 x182 x183 x184 x185 x186 x187 x188 x189 x177 x178 x179 x180 x181 x182 x183 x184 x185 x186 x187 x188 x189) sA._auto_1) : T_11 (fun R k0 => Zke Z2 Z3 R x177 x178 x179 x180 x181 x182 x183 x184 x185 x186 x187 x188 x189 k0) (fun z0 z1 z2 z3 z4 z5 z6 z7 z8 z9 z10 => ((z0).length = 8) ∧ ((z4).length = 3) ∧ ((z5).length = 3) ∧ ((z6).length = 3) ∧ ((z7).length = 3) ∧ ((z8).length = 8) ∧ ((z9).length = 80) ∧ ((z1) = (x180)) ∧ ((((z10)).length : Int) = 8 * (x180) + 8) ∧ ((z2) = 64) ∧ ((z3) = 80) ∧ (Rot 64 (z4)) ∧ (Rot 64 (z5)) ∧ (Rot 64 (z6)) ∧ (Rot 64 (z7))) :=
 Z1ai (r := fun R n x177 x178 x179 x180 x181 x182 x183 x184 x185 x186 x187 x188 x189 k0 => runP Zcl Zd0 (Z5s Z2 Z3).step R n (((), (), x177, x178, (x179, ()), x180, ()), ((x181, x182, x183, x184, x185, x186, (), x187, ()), ((), ()), (x188, ()), (x189, ()), ())) (fun r => k0 (r.1) (r.2.1) (r.2.2.1) (r.2.2.2.1) (r.2.2.2.2.1) (r.2.2.2.2.2.1) (r.2.2.2.2.2.2.1) (r.2.2.2.2.2.2.2.1) (r.2.2.2.2.2.2.2.2.1) (r.2.2.2.2.2.2.2.2.2.1) (r.2.2.2.2.2.2.2.2.2.2), ())) (fun _ _ _ _ _ _ _ _ _ _ _ _ _ _ _ _ => rfl) (Z8l x177 x178 x179 x180 x181 x182 x183 x184 x185 x186 x187 x188 x189) (fun x177 x178 x179 x180 x181 x182 x183 x184 x185 x186 x187 x188 x189 => ((x178) + 8).toNat) (Zpd x177 x178 x179 x180 x181 x182 x183 x184 x185 x186 x187 x188 x189) (Z66 x177 x178 x179 x180 x181 x182 x183 x184 x185 x186 x187 x188 x189) x177 x178 x179 x180 x181 x182 x183 x184 x185 x186 x187 x188 x189 i_ (by obtain ⟨i_0, i_1, i_2, i_3, i_4, i_5, i_6, i_7, i_8, i_9, i_10, i_11, i_12, i_13, i_14, i_15, i_16, i_17, i_18, i_19⟩ := i_; unfold Z66; first | omega | (simp only [ts] <;> omega))
abbrev Z8f (x166 : List Int) (x167 x168 x169 : Int) (x170 x171 x172 x173 x174 x175 : List Int) (x176 : Str) : Prop := ((x166).length = 8) ∧ ((x170).length = 3) ∧ ((x171).length = 3) ∧ ((x172).length = 3) ∧ ((x173).length = 3) ∧ ((x174).length = 8) ∧ ((x175).length = 80) ∧ (0 ≤ (x167)) ∧ ((x167) ≤ 8) ∧ ((((x176)).length : Int) = 8 * (x167)) ∧ ((x168) = 64) ∧ ((x169) = 80) ∧ (Rot 64 (x170)) ∧ (Rot 64 (x171)) ∧ (Rot 64 (x172)) ∧ (Rot 64 (x173))
theorem Zp8 (x166 : List Int) (x167 x168 x169 : Int) (x170 x171 x172 x173 x174 x175 : List Int) (x176 : Str) (i_ : Z8f x166 x167 x168 x169 x170 x171 x172 x173 x174 x175 x176) : Zdv (fun R next k0 => Zaa Z2 Z3 R x166 x167 x168 x169 x170 x171 x172 x173 x174 x175 x176 next k0) (fun nx166 nx167 nx168 nx169 nx170 nx171 nx172 nx173 nx174 nx175 nx176 => Z8f nx166 nx167 nx168 nx169 nx170 nx171 nx172 nx173 nx174 nx175 nx176 ∧ (8 - (nx167)).toNat < (8 - (x167)).toNat) (fun z0 z1 z2 z3 z4 z5 z6 z7 z8 => ((z2).length = 3) ∧ ((z3).length = 3) ∧ ((z4).length = 3) ∧ ((z5).length = 3) ∧ ((z6).length = 8) ∧ ((z7).length = 80) ∧ (((z8)).length = 64) ∧ ((z0) = 64) ∧ ((z1) = 80) ∧ (Rot 64 (z2)) ∧ (Rot 64 (z3)) ∧ (Rot 64 (z4)) ∧ (Rot 64 (z5))) := by
  obtain ⟨i_0, i_1, i_2, i_3, i_4, i_5, i_6, i_7, i_8, i_9, i_10, i_11, i_12, i_13, i_14, i_15⟩ := i_
  refine Zdv.of ?_
  delta Zaa
  refine Tot.br (fun h1 => ?_) (fun h1 => ?_)
  · first | simp (disch := omega) only [ts, *] at h1 | skip
    all_goals
      refine Tot.gd ?_
      refine T_11.bind (Ztc (x166.getD x167.toNat 0) (subI .i64 x168 8) x166 x167 x168 x169 x170 x171 x172 x173 x174 x175 x176) (fun y192 y193 y194 y195 y196 y197 y198 y199 y200 y201 y202 q2 => ?_)
      obtain ⟨q2_0, q2_1, q2_2, q2_3, q2_4, q2_5, q2_6, q2_7, q2_8, q2_9, q2_10, q2_11, q2_12, q2_13, q2_14⟩ := q2
      exact Tot.ret _
  · first | simp (disch := omega) only [ts, *] at h1 | skip
    all_goals
      exact Tot.ret _
theorem Zu2 (x166 : List Int) (x167 x168 x169 : Int) (x170 x171 x172 x173 x174 x175 : List Int) (x176 : Str) (i_ : autoParam (Z8f x166 x167 x168 x169 x170 x171 x172 x173 x174 x175 x176) sA._auto_1) : T_9 (fun R k0 => Zkm Z2 Z3 R x166 x167 x168 x169 x170 x171 x172 x173 x174 x175 x176 k0) (fun z0 z1 z2 z3 z4 z5 z6 z7 z8 => ((z2).length = 3) ∧ ((z3).length = 3) ∧ ((z4).length = 3) ∧ ((z5).length = 3) ∧ ((z6).length = 8) ∧ ((z7).length = 80) ∧ (((z8)).length = 64) ∧ ((z0) = 64) ∧ ((z1) = 80) ∧ (Rot 64 (z2)) ∧ (Rot 64 (z3)) ∧ (Rot 64 (z4)) ∧ (Rot 64 (z5))) :=
 Zy5 (r := fun R n x166 x167 x168 x169 x170 x171 x172 x173 x174 x175 x176 k0 => runP Zcp Zd2 (Z5p Z2 Z3).step R n (((), (), (x166, ()), x167, ()), ((x168, x169, x170, x171, x172, x173, (), x174, ()), ((), ()), (x175, ()), (x176, ()), ())) (fun r => k0 (r.1) (r.2.1) (r.2.2.1) (r.2.2.2.1) (r.2.2.2.2.1) (r.2.2.2.2.2.1) (r.2.2.2.2.2.2.1) (r.2.2.2.2.2.2.2.1) (r.2.2.2.2.2.2.2.2), ())) (fun _ _ _ _ _ _ _ _ _ _ _ _ _ _ => rfl) Z8f (fun x166 x167 x168 x169 x170 x171 x172 x173 x174 x175 x176 => (8 - (x167)).toNat) Zp8 (Z67 x166 x167 x168 x169 x170 x171 x172 x173 x174 x175 x176) x166 x167 x168 x169 x170 x171 x172 x173 x174 x175 x176 i_ (by obtain ⟨i_0, i_1, i_2, i_3, i_4, i_5, i_6, i_7, i_8, i_9, i_10, i_11, i_12, i_13, i_14, i_15⟩ := i_; unfold Z67; first | omega | (simp only [ts] <;> omega))
theorem Zw3 (a1 : Str) (a2 a3 : Int) (a4 a5 a6 a7 a8 a9 : List Int) (h_ : autoParam (((a4).length = 3) ∧ ((a5).length = 3) ∧ ((a6).length = 3) ∧ ((a7).length = 3) ∧ ((a8).length = 8) ∧ ((a9).length = 80) ∧ (((a1)).length ≤ 1000000) ∧ ((a2) = 64) ∧ ((a3) = 80) ∧ (Rot 64 (a4)) ∧ (Rot 64 (a5)) ∧ (Rot 64 (a6)) ∧ (Rot 64 (a7))) sA._auto_1) : T_9 (fun R k0 => Z70 R a1 a2 a3 a4 a5 a6 a7 a8 a9 k0) (fun z0 z1 z2 z3 z4 z5 z6 z7 z8 => ((z3).length = 3) ∧ ((z4).length = 3) ∧ ((z5).length = 3) ∧ ((z6).length = 3) ∧ ((z7).length = 8) ∧ ((z8).length = 80) ∧ (((z0)).length = 64) ∧ ((z1) = 64) ∧ ((z2) = 80) ∧ (Rot 64 (z3)) ∧ (Rot 64 (z4)) ∧ (Rot 64 (z5)) ∧ (Rot 64 (z6))) := by
  obtain ⟨h_0, h_1, h_2, h_3, h_4, h_5, h_6, h_7, h_8, h_9, h_10, h_11, h_12⟩ := h_
  refine T_9.of ?_
  delta Z70 Zed
  refine Tot.gd ?_
  refine T_10.bind (Ztm a1 a2 a3 a4 a5 a6 a7 a8 a9 (a1 ++ ([128] : Str))) (fun y31 y32 y33 y34 y35 y36 y37 y38 y39 y40 q1 => ?_)
  obtain ⟨q1_0, q1_1, q1_2, q1_3, q1_4, q1_5, q1_6, q1_7, q1_8, q1_9, q1_10, q1_11, q1_12, q1_13, q1_14⟩ := q1
  refine Tot.lett (fun v41 e_v41 => ?_)
  refine T_9.bind (Zu5 y31 v41 y32 y33 y34 y35 y36 y37 y38 y39 y40) (fun y57 y58 y59 y60 y61 y62 y63 y64 y65 q2 => ?_)
  obtain ⟨q2_0, q2_1, q2_2, q2_3, q2_4, q2_5, q2_6, q2_7, q2_8, q2_9, q2_10, q2_11, q2_12, q2_13⟩ := q2
  refine Tot.lett (fun v66 e_v66 => ?_)
  refine T_9.bind (Zte 0 y57 y58 y59 y60 y61 y62 y63 y64 y65 y63) (fun y107 y108 y109 y110 y111 y112 y113 y114 y115 q3 => ?_)
  obtain ⟨q3_0, q3_1, q3_2, q3_3, q3_4, q3_5, q3_6, q3_7, q3_8, q3_9, q3_10, q3_11, q3_12⟩ := q3
  refine T_9.bind (Zu2 y115 0 y107 y108 y109 y110 y111 y112 y113 y114 ([] : Str)) (fun y203 y204 y205 y206 y207 y208 y209 y210 y211 q4 => ?_)
  obtain ⟨q4_0, q4_1, q4_2, q4_3, q4_4, q4_5, q4_6, q4_7, q4_8, q4_9, q4_10, q4_11, q4_12⟩ := q4
  exact Tot.ret _
theorem Z10r (a1 : Str) (h_ : autoParam ((((a1)).length ≤ 1000000)) sA._auto_1) : T_1 (fun R k0 => Zfw R a1 k0) (fun z0 => (((z0)).length = 64)) := by
  refine T_1.of ?_
  delta Zfw Zz9
  refine T_8.bind (Z19f) (fun r2 r3 r4 r5 r6 r7 r8 r9 q1 => ?_)
  obtain ⟨q1_0, q1_1, q1_2, q1_3, q1_4, q1_5, q1_6, q1_7, q1_8, q1_9, q1_10, q1_11⟩ := q1
  refine T_9.bind (Zw3 a1 r2 r3 r4 r5 r6 r7 r8 r9) (fun r10 r11 r12 r13 r14 r15 r16 r17 r18 q2 => ?_)
  obtain ⟨q2_0, q2_1, q2_2, q2_3, q2_4, q2_5, q2_6, q2_7, q2_8, q2_9, q2_10, q2_11, q2_12⟩ := q2
  exact Tot.ret _
theorem Z130 (a1 : Int) (a2 : Str) (h_ : autoParam ((((a2)).length ≤ 1000000) ∧ ((a1) = 64)) sA._auto_1) : T_3 (fun R k0 => Z38 R a1 a2 k0) (fun z0 z1 z2 => (((z0)).length = 64)) := by
  obtain ⟨h_0, h_1⟩ := h_
  refine T_3.of ?_
  delta Z38 Zlb
  refine Tot.br (fun h1 => ?_) (fun h1 => ?_)
  · exfalso; simp (disch := omega) only [ts] at h1; omega
  · first | simp (disch := omega) only [ts, *] at h1 | skip
    all_goals
      refine T_1.bind (Z10r a2) (fun r4 q2 => ?_)
      replace q2 : ((r4)).length = 64 := q2
      exact Tot.ret _
abbrev Zea (x12 x13 : Int) (x14 : List Str) (x15 : Int) (x16 : Str) : Prop := ((x12) = (((x14)).length : Int)) ∧ (0 ≤ (x13)) ∧ ((x13) ≤ (x12)) ∧ ((x15) = 64) ∧ (∀ t ∈ (x14), t.length ≤ 10000) ∧ (((x16)).length ≤ 10000 * (x13).toNat) ∧ (((x14)).length ≤ 4)
theorem Zvk (x12 x13 : Int) (x14 : List Str) (x15 : Int) (x16 : Str) (i_ : Zea x12 x13 x14 x15 x16) : Zxn (fun R next k0 => Zfb Z6z Z3p Z2g Z38 Z76 R x12 x13 x14 x15 x16 next k0) (fun nx12 nx13 nx14 nx15 nx16 => Zea nx12 nx13 nx14 nx15 nx16 ∧ ((nx12) - (nx13)).toNat < ((x12) - (x13)).toNat) (fun z0 z1 z2 => ((z1) = 64) ∧ (((z2)).length ≤ 40000)) := by
  obtain ⟨i_0, i_1, i_2, i_3, i_4, i_5, i_6⟩ := i_
  refine Zxn.of ?_
  delta Zfb
  have hg := getD_len (B := 10000) (l := (x14)) (by assumption) ((x13)).toNat
  refine Tot.br (fun h1 => ?_) (fun h1 => ?_)
  · first | simp (disch := omega) only [ts, *] at h1 | skip
    all_goals
      refine Tot.gd ?_
      refine T_3.bind (Z10b (x14.getD x13.toNat []) x15 x16) (fun r17 r18 r19 q2 => ?_)
      obtain ⟨q2_0, q2_1⟩ := q2
      exact Tot.ret _
  · first | simp (disch := omega) only [ts, *] at h1 | skip
    all_goals
      exact Tot.ret _
theorem Z11f (x12 x13 : Int) (x14 : List Str) (x15 : Int) (x16 : Str) (i_ : autoParam (Zea x12 x13 x14 x15 x16) sA._auto_1) : T_3 (fun R k0 => Zv7 Z6z Z3p Z2g Z38 Z76 R x12 x13 x14 x15 x16 k0) (fun z0 z1 z2 => ((z1) = 64) ∧ (((z2)).length ≤ 40000)) :=
 Z1bg (r := fun R n x12 x13 x14 x15 x16 k0 => runP Zju Zjr (Zbd Z6z Z3p Z2g Z38 Z76).step R n (((), (), x12, x13, ()), ((x14, ()), (x15, (), ()), (x16, ()), ())) (fun r => k0 (r.1) (r.2.1) (r.2.2), ())) (fun _ _ _ _ _ _ _ _ => rfl) Zea (fun x12 x13 x14 x15 x16 => ((x12) - (x13)).toNat) Zvk (Zb0 x12 x13 x14 x15 x16) x12 x13 x14 x15 x16 i_ (by obtain ⟨i_0, i_1, i_2, i_3, i_4, i_5, i_6⟩ := i_; unfold Zb0; first | omega | (simp only [ts] <;> omega))
theorem Zhw (a1 : List Str) (h_ : autoParam ((∀ t ∈ (a1), t.length ≤ 10000) ∧ (((a1)).length ≤ 4)) sA._auto_1) : T_2 (fun R k0 => Z7w R a1 k0) (fun z0 z1 => (((z0)).length = 32)) := by
  obtain ⟨h_0, h_1⟩ := h_
  refine T_2.of ?_
  delta Z7w Zn7
  refine T_2.bind (Z185) (fun r2 r3 q1 => ?_)
  obtain ⟨q1_0, q1_1⟩ := q1
  refine Tot.lett (fun v4 e_v4 => ?_)
  refine T_3.bind (Z11f v4 0 a1 r3 ([] : Str)) (fun y20 y21 y22 q2 => ?_)
  obtain ⟨q2_0, q2_1⟩ := q2
  refine T_3.bind (Z130 y21 y22) (fun r23 r24 r25 q3 => ?_)
  replace q3 : ((r23)).length = 64 := q3
  refine T_2.bind (Z17x r23) (fun r26 r27 q4 => ?_)
  replace q4 : ((r26)).length = 32 := q4
  exact Tot.ret _
theorem Z18a (a1 a2 a3 : Str) (h_ : autoParam ((((a2)).length ≤ 10000)) sA._auto_1) : T_1 (fun R k0 => Zhe R a1 a2 a3 k0) (fun z0 => True) := by
  refine T_1.of ?_
  delta Zhe Zwn
  refine T_5.bind (Z14u a1) (fun r4 r5 r6 r7 r8 q1 => ?_)
  obtain ⟨q1_0, q1_1, q1_2, q1_3, q1_4⟩ := q1
  refine Tot.lett (fun v9 e_v9 => ?_)
  refine Tot.lett (fun v10 e_v10 => ?_)
  refine Tot.lett (fun v11 e_v11 => ?_)
  refine Tot.lett (fun v12 e_v12 => ?_)
  refine Tot.br (fun h2 => ?_) (fun h2 => ?_)
  · first | simp (disch := omega) only [ts, *] at h2 | skip
    all_goals
      exact Tot.ret _
  · first | simp (disch := omega) only [ts, *] at h2 | skip
    all_goals
      refine Tot.lett (fun v13 e_v13 => ?_)
      refine Tot.br (fun h3 => ?_) (fun h3 => ?_)
      · first | simp (disch := omega) only [ts, *] at h3 | skip
        all_goals
          exact Tot.ret _
      · first | simp (disch := omega) only [ts, *] at h3 | skip
        all_goals
          refine Tot.gd ?_
          refine T_1.bind (Z17b (a3.drop 32)) (fun r14 q4 => ?_)
          refine Tot.br (fun h5 => ?_) (fun h5 => ?_)
          · first | simp (disch := omega) only [ts, *] at h5 | skip
            all_goals
              exact Tot.ret _
          · first | simp (disch := omega) only [ts, *] at h5 | skip
            all_goals
              refine Tot.gd ?_
              refine Tot.gd ?_
              refine Tot.lett (fun v15 e_v15 => ?_)
              refine Tot.lett (fun v16 e_v16 => ?_)
              refine Tot.lett (fun v17 e_v17 => ?_)
              refine Tot.lett (fun v18 e_v18 => ?_)
              refine T_4.bind (Z10k) (fun r19 r20 r21 r22 q6 => ?_)
              obtain ⟨q6_0, q6_1, q6_2, q6_3⟩ := q6
              refine T_5.bind (Zib r19 r20 r21 r22 (a3.drop 32)) (fun r23 r24 r25 r26 r27 q7 => ?_)
              obtain ⟨q7_0, q7_1, q7_2, q7_3⟩ := q7
              refine Tot.lett (fun v28 e_v28 => ?_)
              refine Tot.lett (fun v29 e_v29 => ?_)
              refine Tot.lett (fun v30 e_v30 => ?_)
              refine Tot.lett (fun v31 e_v31 => ?_)
              refine T_2.bind (Zhw ([a3.take 32, a1, a2] : List Str) ⟨(by simp (disch := omega) only [ts, List.forall_mem_cons, List.not_mem_nil, false_imp_iff, implies_true, and_true] <;> omega), (by first | trivial | assumption | omega | (simp (disch := omega) only [ts] <;> omega) | (simp (disch := omega) only [ts, *] <;> omega) | (subst_vars; decide))⟩) (fun r32 r33 q8 => ?_)
              replace q8 : ((r32)).length = 32 := q8
              refine T_5.bind (Zib r4 r5 r6 r7 r32) (fun r34 r35 r36 r37 r38 q9 => ?_)
              obtain ⟨q9_0, q9_1, q9_2, q9_3⟩ := q9
              refine T_4.bind (Z144 r34 r35 r36 r37) (fun r39 r40 r41 r42 q10 => ?_)
              obtain ⟨q10_0, q10_1, q10_2, q10_3⟩ := q10
              refine T_4.bind (Z13s r23 r24 r25 r26 r39 r40 r41 r42) (fun r43 r44 r45 r46 q11 => ?_)
              obtain ⟨q11_0, q11_1, q11_2, q11_3⟩ := q11
              refine T_1.bind (Zna r43 r44 r45 r46) (fun r47 q12 => ?_)
              replace q12 : ((r47)).length = 32 := q12
              refine Tot.br (fun h13 => ?_) (fun h13 => ?_)
              · first | simp (disch := omega) only [ts, *] at h13 | skip
                all_goals
                  exact Tot.ret _
              · first | simp (disch := omega) only [ts, *] at h13 | skip
                all_goals
                  exact Tot.ret _
theorem Z10j (a1 : Str) : T_1 (fun R k0 => Zfv R a1 k0) (fun z0 => (((z0)).length = 32)) := by
  refine T_1.of ?_
  delta Zfv Zza
  refine T_4.bind (Z10k) (fun r2 r3 r4 r5 q1 => ?_)
  obtain ⟨q1_0, q1_1, q1_2, q1_3⟩ := q1
  refine T_5.bind (Zib r2 r3 r4 r5 a1) (fun r6 r7 r8 r9 r10 q2 => ?_)
  obtain ⟨q2_0, q2_1, q2_2, q2_3⟩ := q2
  refine Tot.lett (fun v11 e_v11 => ?_)
  refine Tot.lett (fun v12 e_v12 => ?_)
  refine Tot.lett (fun v13 e_v13 => ?_)
  refine Tot.lett (fun v14 e_v14 => ?_)
  refine T_1.bind (Zna r6 r7 r8 r9) (fun r15 q3 => ?_)
  replace q3 : ((r15)).length = 32 := q3
  exact Tot.ret _
theorem Z10u (a1 : Str) : T_4 (fun R k0 => Zfs R a1 k0) (fun z0 z1 z2 z3 => ((z3) = 0 → ((z0)).length = 32) ∧ ((z3) = 0 → ((z1)).length = 32) ∧ ((z3) = 0 → ((z2)).length = 32) ∧ (((a1)).length = 32 → (z3) = 0) ∧ (((a1)).length ≠ 32 → (z3) = 21)) := by
  refine T_4.of ?_
  delta Zfs Zy2
  refine Tot.lett (fun v2 e_v2 => ?_)
  refine Tot.br (fun h1 => ?_) (fun h1 => ?_)
  · first | simp (disch := omega) only [ts, *] at h1 | skip
    all_goals
      exact Tot.ret _
  · first | simp (disch := omega) only [ts, *] at h1 | skip
    all_goals
      refine T_1.bind (Z10r a1) (fun r3 q2 => ?_)
      replace q2 : ((r3)).length = 64 := q2
      refine Tot.gd ?_
      refine Tot.lett (fun v4 e_v4 => ?_)
      refine Tot.gd ?_
      refine Tot.lett (fun v5 e_v5 => ?_)
      refine Tot.gd ?_
      refine Tot.lett (fun v6 e_v6 => ?_)
      refine Tot.lett (fun v7 e_v7 => ?_)
      refine Tot.gd ?_
      refine Tot.lett (fun v8 e_v8 => ?_)
      refine Tot.gd ?_
      refine Tot.gd ?_
      refine Tot.lett (fun v9 e_v9 => ?_)
      refine T_1.bind (Z10j ((v8.drop 0).take 32)) (fun r10 q3 => ?_)
      replace q3 : ((r10)).length = 32 := q3
      exact Tot.ret _
theorem Z18d (a1 : Str) : T_2 (fun R k0 => Zgw R a1 k0) (fun z0 z1 => ((z1) = 0 → ((z0)).length = 32) ∧ (((a1)).length = 32 → (z1) = 0) ∧ (((a1)).length ≠ 32 → (z1) = 21)) := by
  refine T_2.of ?_
  delta Zgw Zwo
  refine T_4.bind (Z10u a1) (fun r2 r3 r4 r5 q1 => ?_)
  obtain ⟨q1_0, q1_1, q1_2, q1_3, q1_4⟩ := q1
  exact Tot.ret _
theorem Z1ao (a1 a2 : Str) (h_ : autoParam ((((a2)).length ≤ 10000)) sA._auto_1) : T_2 (fun R k0 => Zll R a1 a2 k0) (fun z0 z1 => (((a1)).length = 32 → (z1) = 0) ∧ (((a1)).length ≠ 32 → (z1) ≠ 0) ∧ ((z1) = 0 → ((z0)).length = 64)) := by
  refine T_2.of ?_
  delta Zll Z11j
  refine T_4.bind (Z10u a1) (fun r3 r4 r5 r6 q1 => ?_)
  obtain ⟨q1_0, q1_1, q1_2, q1_3, q1_4⟩ := q1
  refine Tot.br (fun h2 => ?_) (fun h2 => ?_)
  · first | simp (disch := omega) only [ts, *] at h2 | skip
    all_goals
      exact Tot.ret _
  · first | simp (disch := omega) only [ts, *] at h2 | skip
    all_goals
      refine T_2.bind (Zhw ([r4, a2] : List Str) ⟨(by simp (disch := omega) only [ts, List.forall_mem_cons, List.not_mem_nil, false_imp_iff, implies_true, and_true] <;> omega), (by first | trivial | assumption | omega | (simp (disch := omega) only [ts] <;> omega) | (simp (disch := omega) only [ts, *] <;> omega) | (subst_vars; decide))⟩) (fun r7 r8 q3 => ?_)
      replace q3 : ((r7)).length = 32 := q3
      refine T_1.bind (Z10j r7) (fun r9 q4 => ?_)
      replace q4 : ((r9)).length = 32 := q4
      refine T_2.bind (Zhw ([r9, r5, a2] : List Str) ⟨(by simp (disch := omega) only [ts, List.forall_mem_cons, List.not_mem_nil, false_imp_iff, implies_true, and_true] <;> omega), (by first | trivial | assumption | omega | (simp (disch := omega) only [ts] <;> omega) | (simp (disch := omega) only [ts, *] <;> omega) | (subst_vars; decide))⟩) (fun r10 r11 q5 => ?_)
      replace q5 : ((r10)).length = 32 := q5
      refine T_2.bind (Z15x r10 r3 r7) (fun r12 r13 q6 => ?_)
      obtain ⟨q6_0, q6_1⟩ := q6
      refine Tot.br (fun h7 => ?_) (fun h7 => ?_)
      · first | simp (disch := omega) only [ts, *] at h7 | skip
        all_goals
          exact Tot.ret _
      · first | simp (disch := omega) only [ts, *] at h7 | skip
        all_goals
          refine Tot.gd ?_
          exact Tot.ret _
theorem oid_alg (R : Type) (k : Str → List Int → Option R) : Zc1 R [1, 3, 101, 112] k = k [6, 3, 43, 101, 112] [1, 3, 101, 112] := by kernel_rfl
theorem oid_name (R : Type) (k : Str → List Int → Option R) : Zc1 R [2, 5, 4, 3] k = k [6, 3, 85, 4, 3] [2, 5, 4, 3] := by kernel_rfl
theorem joinNil : ∀ (xs : List Str), Lib.join xs [] = xs.flatten
  | [] => rfl
  | a :: r => by rw [Lib.join_cons]; simp [Lib.joinTail]
theorem thing_ok (t : Int) (xs : List Str) (ht : tagB t = true) (hl : xs.length ≤ 100) (hx : xs.flatten.length ≤ 65535) (R : Type) (k : Str → List Str → Option R) :
    Z3e R t xs k = k (wr (UInt8.ofNat t.toNat) xs.flatten) xs := by
  unfold Z3e Zor Zo6
  rw [gdT _ (by unfold joinB; rw [joinNil, Bool.and_eq_true, decide_eq_true_eq, decide_eq_true_eq]; omega), joinNil]
  exact write_ok t _ ht hx R _
def algS : Str := wr 48 [6, 3, 43, 101, 112]
theorem alg_eq (R : Type) (k : Str → Option R) : Z93 R k = k algS := by
  unfold Z93 Zoh
  rw [oid_alg, thing_ok 48 _ (by decide) (by simp) (by simp)]
  rfl
def namS (n : Str) : Str := wr 48 (wr 49 (wr 48 ([6, 3, 85, 4, 3] ++ wr 12 n)))
theorem named_eq (n : Str) (h : n.length ≤ 1000) (R : Type) (k : Str → Option R) : Znl R n k = k (namS n) := by
  have l1 := wr_length 12 n
  have l2 := wr_length 48 ([6, 3, 85, 4, 3] ++ wr 12 n)
  have l3 := wr_length 49 (wr 48 ([6, 3, 85, 4, 3] ++ wr 12 n))
  simp only [List.length_append, List.length_cons, List.length_nil] at l1 l2 l3
  unfold Znl Zyp namS
  rw [oid_name, thing_ok 12 _ (by decide) (by simp) (by simp only [List.flatten_cons, List.flatten_nil, List.append_nil, List.length_append, List.length_cons, List.length_nil]; omega)]
  try dsimp only
  rw [show [n].flatten = n by simp, show UInt8.ofNat (Int.toNat 12) = 12 from rfl]
  rw [thing_ok 48 _ (by decide) (by simp) (by simp only [List.flatten_cons, List.flatten_nil, List.append_nil, List.length_append, List.length_cons, List.length_nil]; omega)]
  try dsimp only
  rw [show UInt8.ofNat (Int.toNat 48) = 48 from rfl, show [[6, 3, 85, 4, 3], wr 12 n].flatten = [6, 3, 85, 4, 3] ++ wr 12 n by simp]
  rw [thing_ok 49 _ (by decide) (by simp) (by simp only [List.flatten_cons, List.flatten_nil, List.append_nil, List.length_append, List.length_cons, List.length_nil]; omega)]
  try dsimp only
  rw [show UInt8.ofNat (Int.toNat 49) = 49 from rfl, show [wr 48 ([6, 3, 85, 4, 3] ++ wr 12 n)].flatten = wr 48 ([6, 3, 85, 4, 3] ++ wr 12 n) by simp]
  rw [thing_ok 48 _ (by decide) (by simp) (by simp only [List.flatten_cons, List.flatten_nil, List.append_nil, List.length_append, List.length_cons, List.length_nil]; omega)]
  try dsimp only
  rw [show UInt8.ofNat (Int.toNat 48) = 48 from rfl, show [wr 49 (wr 48 ([6, 3, 85, 4, 3] ++ wr 12 n))].flatten = wr 49 (wr 48 ([6, 3, 85, 4, 3] ++ wr 12 n)) by simp]
def TimeS (n : Int) (t : Str) (e : Int) : Prop := (0 ≤ n ∧ n ≤ 253402300799 ∧ e = 0 ∧ ∃ y m d, IsDate (n / 86400) y m d ∧ t = stamp y m d (n % 86400)) ∨ ((n < 0 ∨ 253402300799 < n) ∧ t = [] ∧ e = 1)
theorem stamp_length (y m d s : Int) : (stamp y m d s).length = 15 := by unfold stamp; simp [dig_length]
theorem fcert_Time_tot (n : Int) : T_2 (fun R k0 => Z1n R n k0) (fun t e => TimeS n t e) := by
  by_cases h : 0 ≤ n ∧ n ≤ 253402300799
  · obtain ⟨y, m, d, hd, he⟩ := fcert_Time_eq n h.1 h.2
    exact ⟨_, 0, .inl ⟨h.1, h.2, rfl, y, m, d, hd, rfl⟩, he⟩
  · exact ⟨[], 1, .inr ⟨by omega, rfl, rfl⟩, fun R k => fcert_Time_bad n (by omega) R k⟩
theorem TimeS.length {n : Int} {t : Str} {e : Int} (h : TimeS n t e) : t.length ≤ 15 := by
  rcases h with ⟨_, _, _, y, m, d, _, rfl⟩ | ⟨_, rfl, _⟩
  · rw [stamp_length]; exact Nat.le_refl _
  · simp
def innS (n : Int) (name ft tt key : Str) : Str :=
  wr 48 (wr 2 (intS n) ++ (algS ++ (namS name ++ (wr 48 (wr 24 ft ++ wr 24 tt) ++ (namS name ++ wr 48 (algS ++ wr 3 (0 :: key)))))))
theorem intS_length (n : Int) : (intS n).length ≤ 8 := (strip_spec (b8 n) (by simp [b8])).2.2.2
theorem algS_length : algS.length ≤ 9 := by decide
theorem namS_length (n : Str) : (namS n).length ≤ n.length + 21 := by
  have l1 := wr_length 12 n
  have l2 := wr_length 48 ([6, 3, 85, 4, 3] ++ wr 12 n)
  have l3 := wr_length 49 (wr 48 ([6, 3, 85, 4, 3] ++ wr 12 n))
  have l4 := wr_length 48 (wr 49 (wr 48 ([6, 3, 85, 4, 3] ++ wr 12 n)))
  simp only [List.length_append, List.length_cons, List.length_nil] at l1 l2 l3 l4
  unfold namS
  omega
theorem innS_length {n : Int} {name ft tt key : Str} (hf : ft.length ≤ 15) (ht : tt.length ≤ 15) : (innS n name ft tt key).length ≤ 2 * name.length + key.length + 150 := by
  have l1 := wr_length 2 (intS n)
  have l2 := intS_length n
  have l3 := algS_length
  have l4 := namS_length name
  have l5 := wr_length 24 ft
  have l6 := wr_length 24 tt
  have l7 := wr_length 48 (wr 24 ft ++ wr 24 tt)
  have l8 := wr_length 3 (0 :: key)
  have l9 := wr_length 48 (algS ++ wr 3 (0 :: key))
  have l10 := wr_length 48 (wr 2 (intS n) ++ (algS ++ (namS name ++ (wr 48 (wr 24 ft ++ wr 24 tt) ++ (namS name ++ wr 48 (algS ++ wr 3 (0 :: key)))))))
  simp only [List.length_append, List.length_cons, List.length_nil] at *
  unfold innS
  omega
theorem fcert_inner_tot (n : Int) (name : Str) (f t : Int) (key : Str) (hn : name.length ≤ 1000) (hk : key.length ≤ 1000) :
    T_1 (fun R k0 => Z78 R n name f t key k0) (fun z => ∃ ft fe tt te, TimeS f ft fe ∧ TimeS t tt te ∧ z = innS n name ft tt key) := by
  obtain ⟨ft, fe, h1, e1⟩ := fcert_Time_tot f
  obtain ⟨tt, te, h2, e2⟩ := fcert_Time_tot t
  refine ⟨_, ⟨ft, fe, tt, te, h1, h2, rfl⟩, fun R k => ?_⟩
  have lf := h1.length
  have lt := h2.length
  have l1 := wr_length 2 (intS n)
  have l2 := intS_length n
  have l3 := algS_length
  have l4 := namS_length name
  have l5 := wr_length 24 ft
  have l6 := wr_length 24 tt
  have l7 := wr_length 48 (wr 24 ft ++ wr 24 tt)
  have l8 := wr_length 3 (0 :: key)
  have l9 := wr_length 48 (algS ++ wr 3 (0 :: key))
  have l10 := wr_length 48 (wr 2 (intS n) ++ (algS ++ (namS name ++ (wr 48 (wr 24 ft ++ wr 24 tt) ++ (namS name ++ wr 48 (algS ++ wr 3 (0 :: key)))))))
  simp only [List.length_append, List.length_cons, List.length_nil] at l5 l6 l7 l8 l9 l10
  show Z78 R n name f t key k = _
  unfold Z78 Zzf
  refine (e1 R _).trans ((e2 R _).trans ?_)
  rw [named_eq _ hn, gdT _ (catB_of (by simp; omega)), int_eq, alg_eq]
  rw [thing_ok 24 _ (by decide) (by simp) (by simp only [List.flatten_cons, List.flatten_nil, List.append_nil, List.length_append, List.length_cons, List.length_nil]; omega)]; try dsimp only
  rw [thing_ok 24 _ (by decide) (by simp) (by simp only [List.flatten_cons, List.flatten_nil, List.append_nil, List.length_append, List.length_cons, List.length_nil]; omega)]; try dsimp only
  rw [show UInt8.ofNat (Int.toNat 24) = 24 from rfl, show [ft].flatten = ft by simp, show [tt].flatten = tt by simp]
  rw [thing_ok 48 _ (by decide) (by simp) (by simp only [List.flatten_cons, List.flatten_nil, List.append_nil, List.length_append, List.length_cons, List.length_nil]; omega)]; try dsimp only
  rw [show UInt8.ofNat (Int.toNat 48) = 48 from rfl, show [wr 24 ft, wr 24 tt].flatten = wr 24 ft ++ wr 24 tt by simp, alg_eq]
  rw [thing_ok 3 _ (by decide) (by simp) (by simp only [List.flatten_cons, List.flatten_nil, List.append_nil, List.length_append, List.length_cons, List.length_nil]; omega)]; try dsimp only
  rw [show UInt8.ofNat (Int.toNat 3) = 3 from rfl, show [[0] ++ key].flatten = 0 :: key by simp]
  rw [thing_ok 48 _ (by decide) (by simp) (by simp only [List.flatten_cons, List.flatten_nil, List.append_nil, List.length_append, List.length_cons, List.length_nil]; omega)]; try dsimp only
  rw [show UInt8.ofNat (Int.toNat 48) = 48 from rfl, show [algS, wr 3 (0 :: key)].flatten = algS ++ wr 3 (0 :: key) by simp]
  rw [thing_ok 48 _ (by decide) (by simp) (by simp only [List.flatten_cons, List.flatten_nil, List.append_nil, List.length_append, List.length_cons, List.length_nil]; omega)]; try dsimp only
  rw [show UInt8.ofNat (Int.toNat 48) = 48 from rfl]
  unfold innS
  congr 2
  simp
def whoS (inn sig : Str) : Str := wr 48 (inn ++ (algS ++ wr 3 (0 :: sig)))
theorem whoS_length (inn sig : Str) : (whoS inn sig).length ≤ inn.length + sig.length + 18 := by
  have l3 := algS_length
  have l8 := wr_length 3 (0 :: sig)
  have l9 := wr_length 48 (inn ++ (algS ++ wr 3 (0 :: sig)))
  simp only [List.length_append, List.length_cons, List.length_nil] at l8 l9
  unfold whoS
  omega
theorem whole_eq (inn sig : Str) (hi : inn.length ≤ 10000) (hs : sig.length ≤ 10000) (R : Type) (k : Str → Option R) : Zat R inn sig k = k (whoS inn sig) := by
  have l3 := algS_length
  have l8 := wr_length 3 (0 :: sig)
  simp only [List.length_cons] at l8
  unfold Zat Zyv
  rw [alg_eq, gdT _ (catB_of (by simp; omega)), thing_ok 3 _ (by decide) (by simp) (by simp only [List.flatten_cons, List.flatten_nil, List.append_nil, List.length_append, List.length_cons, List.length_nil]; omega)]; try dsimp only
  rw [show UInt8.ofNat (Int.toNat 3) = 3 from rfl, show [[0] ++ sig].flatten = 0 :: sig by simp]
  rw [thing_ok 48 _ (by decide) (by simp) (by simp only [List.flatten_cons, List.flatten_nil, List.append_nil, List.length_append, List.length_cons, List.length_nil]; omega)]; try dsimp only
  rw [show UInt8.ofNat (Int.toNat 48) = 48 from rfl]
  unfold whoS
  congr 2
  simp
theorem indexByte_lt : ∀ (l : List UInt8) (c : UInt8), Lib.indexByte l c < l.length ∧ -1 ≤ Lib.indexByte l c
  | [], c => by simp [Lib.indexByte]
  | b :: l, c => by
    have := indexByte_lt l c
    unfold Lib.indexByte
    simp only [List.length_cons]
    split
    · omega
    · split <;> omega
theorem Index_eq (s : Str) (R : Type) (k : Int → Option R) : Z6h R s k = k (Lib.indexByte s 0) := by
  unfold Z6h Zdo
  by_cases h : s = [0]
  · subst h; rfl
  · rw [brF _ _ (by unfold eqS; rw [decide_eq_false_iff_not]; exact fun e => h e.symm)]
    rfl
def behind0 (s : Str) : Str := if 0 ≤ Lib.indexByte s 0 then s.drop ((Lib.indexByte s 0).toNat + 1) else []
theorem Cut_eq (s : Str) (hs : s.length ≤ 1000000000) : ∃ a b, ∀ (R : Type) (k : Str → Str → Bool → Option R), Zah R s k = k a (behind0 s) b := by
  have hi := indexByte_lt s 0
  by_cases h : 0 ≤ Lib.indexByte s 0
  · refine ⟨s.take (Lib.indexByte s 0).toNat, true, fun R k => ?_⟩
    unfold Zah Zgt Z88 Zar lett behind0; try dsimp only
    rw [Index_eq, brT _ _ (by simp only [ts]; exact h), gdT _ (by simp only [ts]; omega), tadd (by omega) (by omega), gdT _ (by simp only [ts]; omega), if_pos h]
    rw [show (Lib.indexByte s 0 + 1).toNat = (Lib.indexByte s 0).toNat + 1 by omega]
  · refine ⟨s, false, fun R k => ?_⟩
    unfold Zah Zgt Z88 Zar lett behind0; try dsimp only
    rw [Index_eq, brF _ _ (by simp only [ts]; omega), if_neg h]
theorem behind0_cons (s : Str) : behind0 (0 :: s) = s := rfl
theorem behind0_length (s : Str) : (behind0 s).length ≤ s.length := by
  unfold behind0
  split
  · rw [List.length_drop]; omega
  · simp
def isDig (b : UInt8) : Prop := 48 ≤ b.toNat ∧ b.toNat ≤ 57
instance (b : UInt8) : Decidable (isDig b) := by unfold isDig; infer_instance
def tens : Str := [48, 49, 50, 51, 52, 53, 54, 55, 56, 57]
def tensT : List (Tup [.bool]) := (((((((((((List.replicate 256 (tupD [.bool])).set 48 (true, ())).set 49 (true, ())).set 50 (true, ())).set 51 (true, ())).set 52 (true, ())).set 53 (true, ())).set 54 (true, ())).set 55 (true, ())).set 56 (true, ())).set 57 (true, ()))
theorem makeASCIISet_tens (R : Type) (k : List (Tup [.bool]) → Bool → Option R) : Zbu R tens k = k tensT true := by kernel_rfl
theorem tensT_at (b : UInt8) : (tensT.getD b.toNat (tupD [.bool])).1 = decide (isDig b) := by
  have h : ∀ n : Nat, n < 256 → (tensT.getD n (tupD [.bool])).1 = decide (48 ≤ n ∧ n ≤ 57) := by decide
  exact h _ (u8_lt b)
theorem contains_tens (b : UInt8) (R : Type) (k : Bool → List (Tup [.bool]) → Option R) : Ze R (b.toNat : Int) tensT k = k (decide (isDig b)) tensT := by
  have := u8_lt b
  unfold Ze Z8r lett; try dsimp only
  rw [gdT _ (by simp only [ts]; omega), Int.toNat_natCast, tensT_at]
theorem last_split (s : Str) (h : 0 < s.length) : s = s.take (s.length - 1) ++ [s.getD (s.length - 1) 0] := by
  conv => lhs; rw [← List.take_append_drop (s.length - 1) s]
  congr 1
  rw [List.drop_eq_getElem_cons (by omega), List.drop_eq_nil_of_le (by omega), List.getD_eq_getElem?_getD, List.getElem?_eq_getElem (by omega)]
  rfl
theorem trimRight_tens : ∀ (n : Nat) (s : Str), s.length < n → s.length ≤ 1000000000 → ∃ z : Str, ((z = [] ↔ ∀ b ∈ s, isDig b) ∧ (z ≠ [] → ∃ b ∈ z, ¬ isDig b) ∧ z.length ≤ s.length) ∧
    ∀ (R : Type) (k : Str → List (Tup [.bool]) → Option R), Z2n R n s tensT k = k z tensT
  | 0, s, h, _ => absurd h (Nat.not_lt_zero _)
  | n + 1, s, h, hl => by
    by_cases h0 : s.length = 0
    · have : s = [] := List.length_eq_zero_iff.mp h0
      subst this
      exact ⟨[], ⟨⟨fun _ => by simp, fun _ => rfl⟩, fun h => absurd rfl h, Nat.le_refl _⟩, fun R k => rfl⟩
    · have hs := last_split s (by omega)
      have e : ((s.length - 1 : Nat) : Int) = (s.length : Int) - 1 := by omega
      have go : ∀ (R : Type) (k : Str → List (Tup [.bool]) → Option R), Z2n R (n + 1) s tensT k = br (!(decide (isDig (s.getD (s.length - 1) 0)))) (k s tensT) (Z2n R n (s.take (s.length - 1)) tensT k) := by
        intro R k
        rw [Zm9]
        unfold Z74 lett; try dsimp only
        rw [brT _ _ (by simp only [ts]; omega), tsub (by omega) (by omega), ← e, gdT _ (by simp only [ts]; omega), Int.toNat_natCast, contains_tens, gdT _ (by simp only [ts]; omega)]
      by_cases hd : isDig (s.getD (s.length - 1) 0)
      · obtain ⟨z, ⟨z1, z2, z3⟩, hz⟩ := trimRight_tens n (s.take (s.length - 1)) (by rw [List.length_take]; omega) (by rw [List.length_take]; omega)
        refine ⟨z, ⟨z1.trans ⟨fun h b hb => ?_, fun h b hb => h b (List.mem_of_mem_take hb)⟩, z2, Nat.le_trans z3 (by rw [List.length_take]; omega)⟩, fun R k => ?_⟩
        · rw [hs, List.mem_append, List.mem_singleton] at hb
          rcases hb with hb | rfl
          · exact h b hb
          · exact hd
        · rw [go, brF _ _ (by rw [decide_eq_true hd]; rfl), hz]
      · refine ⟨s, ⟨⟨fun h => ?_, fun h => ?_⟩, fun _ => ⟨_, ?_, hd⟩, Nat.le_refl _⟩, fun R k => ?_⟩
        · subst h; exact absurd rfl h0
        · exact absurd (h _ (by rw [hs]; simp)) hd
        · rw [hs]; simp
        · rw [go, brT _ _ (by rw [decide_eq_false hd]; rfl)]
theorem trimLeft_tens : ∀ (s : Str) (n : Nat), s.length < n → s.length ≤ 1000000000 → ∃ z : Str, (z = [] ↔ ∀ b ∈ s, isDig b) ∧
    ∀ (R : Type) (k : Str → List (Tup [.bool]) → Option R), Z31 R n s tensT k = k z tensT
  | s, 0, h, _ => absurd h (Nat.not_lt_zero _)
  | [], n + 1, _, _ => ⟨[], ⟨fun _ => by simp, fun _ => rfl⟩, fun R k => rfl⟩
  | b :: s, n + 1, h, hl => by
    simp only [List.length_cons] at h hl
    have go : ∀ (R : Type) (k : Str → List (Tup [.bool]) → Option R), Z31 R (n + 1) (b :: s) tensT k = br (!(decide (isDig b))) (k (b :: s) tensT) (Z31 R n s tensT k) := by
      intro R k
      rw [Znr]
      unfold Z7u lett; try dsimp only
      rw [brT _ _ (by simp only [ts, List.length_cons]; omega), gdT _ (by simp only [ts, List.length_cons]; omega), show (b :: s).getD 0 0 = b from rfl, contains_tens, gdT _ (by simp only [ts, List.length_cons]; omega)]
      rfl
    by_cases hd : isDig b
    · obtain ⟨z, z1, hz⟩ := trimLeft_tens s n (by omega) (by omega)
      refine ⟨z, z1.trans ⟨fun h c hc => ?_, fun h c hc => h c (List.mem_cons_of_mem _ hc)⟩, fun R k => ?_⟩
      · rcases List.mem_cons.mp hc with rfl | hc
        · exact hd
        · exact h c hc
      · rw [go, brF _ _ (by rw [decide_eq_true hd]; rfl), hz]
    · refine ⟨b :: s, ⟨fun h => absurd h (by simp), fun h => absurd (h b (by simp)) hd⟩, fun R k => ?_⟩
      rw [go, brT _ _ (by rw [decide_eq_false hd]; rfl)]
theorem Trim_tens (s : Str) (hs : s.length ≤ 1000000000) : ∃ z : Str, (z = [] ↔ ∀ b ∈ s, isDig b) ∧ ∀ (R : Type) (k : Str → Option R), Z33 R s tens k = k z := by
  by_cases h : s = []
  · subst h; exact ⟨[], ⟨fun _ => by simp, fun _ => rfl⟩, fun R k => rfl⟩
  · obtain ⟨z, ⟨z1, z2, z3⟩, hz⟩ := trimRight_tens (Z2v s tensT) s (by unfold Z2v; omega) hs
    obtain ⟨w, w1, hw⟩ := trimLeft_tens z (Z34 z tensT) (by unfold Z34; omega) (by omega)
    refine ⟨w, w1.trans ⟨fun h => z1.mp (Classical.byContradiction fun hn => ?_), fun h => ?_⟩, fun R k => ?_⟩
    · obtain ⟨b, hb, hd⟩ := z2 hn
      exact hd (h b hb)
    · have := z1.mpr h
      subst this
      simp
    · unfold Z33 Zth lett; try dsimp only
      rw [brF _ _ (by simp only [ts]; exact h), show eqS tens [] = false from rfl, br_false, show eqI (tens.length : Int) 1 = false from rfl, br_false, makeASCIISet_tens, br_true]
      unfold Z6x Zai Z7d Zbf
      rw [Zpz, hz]; dsimp only
      rw [Zr9, hw]
def okByte (b : UInt8) : Bool := decide (32 ≤ b.toNat) && decide (b.toNat ≤ 126)
def nameB (s : Str) : Bool := !decide (s = []) && decide (s.length ≤ 32) && s.all okByte
theorem isName1_eq (b : UInt8) (R : Type) (k : Bool → Option R) : Z4z R (b.toNat : Int) k = k (!okByte b) := by
  unfold Z4z Zr1 okByte
  by_cases h : b.toNat < 32
  · rw [brT _ _ (by simp only [ts]; omega)]
    rw [decide_eq_false (by omega)]; rfl
  · rw [brF _ _ (by simp only [ts]; omega), decide_eq_true (p := 32 ≤ b.toNat) (by omega), Bool.true_and]
    congr 1
    unfold ltI
    by_cases h2 : b.toNat ≤ 126
    · rw [decide_eq_true h2, decide_eq_false (by omega)]; rfl
    · rw [decide_eq_false h2, decide_eq_true (by omega)]; rfl
theorem index_loop {R : Type} (k0 : Int → Str → Option R) (k1 : Str → Option R) (s : Str) (hs : s.length ≤ 1000000000) : ∀ (m n i : Nat), i + m = s.length → m < n →
    ∃ j : Nat, Z4c R n (s.length : Int) (i : Int) s k0 k1 = if (s.drop i).all okByte then k1 s else k0 (j : Int) s
  | _, 0, _, _, h => absurd h (Nat.not_lt_zero _)
  | 0, n + 1, i, hi, _ => by
    refine ⟨0, ?_⟩
    rw [Za5]
    unfold Z3a
    rw [brF _ _ (by simp only [ts]; omega), List.drop_eq_nil_of_le (by omega)]
    rfl
  | m + 1, n + 1, i, hi, hn => by
    have hd : s.drop i = s.getD i 0 :: s.drop (i + 1) := by
      rw [List.drop_eq_getElem_cons (by omega), List.getD_eq_getElem?_getD, List.getElem?_eq_getElem (by omega)]
      rfl
    obtain ⟨j, hj⟩ := index_loop k0 k1 s hs m n (i + 1) (by omega) (by omega)
    rw [Za5]
    unfold Z3a lett; try dsimp only
    rw [hd, List.all_cons]
    cases hb : okByte (s.getD i 0) with
    | false =>
      refine ⟨i, ?_⟩
      rw [brT _ _ (by simp only [ts]; omega), gdT _ (by simp only [ts]; omega), Int.toNat_natCast, isName1_eq, hb]
      rfl
    | true =>
      refine ⟨j, ?_⟩
      rw [brT _ _ (by simp only [ts]; omega), gdT _ (by simp only [ts]; omega), Int.toNat_natCast, isName1_eq, hb]
      rw [Bool.true_and, tadd (by omega) (by omega), ← hj]
      rfl
theorem isName_eq (s : Str) (hs : s.length ≤ 1000000000) (R : Type) (k : Bool → Option R) : Zkd R s k = k (nameB s) := by
  unfold Zkd Zvl lett nameB; try dsimp only
  by_cases h : s = []
  · subst h; rfl
  · rw [brT _ _ (by simp only [ts]; exact h)]
    by_cases h2 : s.length ≤ 32
    · rw [brT _ _ (by simp only [ts]; omega)]
      unfold Z3v Z60 Z4w Z7m lett; try dsimp only
      rw [Zlk]
      obtain ⟨j, hj⟩ := index_loop (R := R) (fun y8 y9 => k !(leI 0 y8)) (fun y10 => k !(leI 0 (-1))) s hs s.length (Z27 s.length 0 s) 0 (by omega) (by unfold Z27; omega)
      refine hj.trans ?_
      rw [List.drop_zero, decide_eq_false h, decide_eq_true h2]
      cases s.all okByte with
      | true => rfl
      | false =>
        rw [if_neg (by decide), show leI 0 (j : Int) = true by simp only [ts]; omega]
        rfl
    · rw [brF _ _ (by simp only [ts]; omega), decide_eq_false h2, Bool.and_false, Bool.false_and]
def rightB (n : Int) (name : Str) (f t : Int) : Bool := decide (1 ≤ n) && nameB name && decide (0 ≤ f) && decide (f ≤ t) && decide (t ≤ 253402300799)
theorem right_eq (n : Int) (name : Str) (f t : Int) (key : Str) (hs : name.length ≤ 1000000000) (R : Type) (k : Bool → Option R) : Zfa R n name f t key k = k (rightB n name f t) := by
  unfold Zfa Zzv rightB
  by_cases h1 : 1 ≤ n
  · rw [brT _ _ (by simp only [ts]; exact h1), isName_eq _ hs, decide_eq_true h1, Bool.true_and]
    cases nameB name with
    | false => rfl
    | true =>
      rw [br_true, Bool.true_and]
      by_cases h2 : 0 ≤ f
      · rw [brT _ _ (by simp only [ts]; exact h2), decide_eq_true h2, Bool.true_and]
        by_cases h3 : f ≤ t
        · rw [brT _ _ (by simp only [ts]; exact h3), decide_eq_true h3, Bool.true_and]; rfl
        · rw [brF _ _ (by simp only [ts]; omega), decide_eq_false h3]; rfl
      · rw [brF _ _ (by simp only [ts]; omega), decide_eq_false h2]; rfl
  · rw [brF _ _ (by simp only [ts]; omega), decide_eq_false h1]; rfl
theorem rightB_spec {n : Int} {name : Str} {f t : Int} (h : rightB n name f t = true) : 1 ≤ n ∧ name.length ≤ 32 ∧ 0 ≤ f ∧ f ≤ t ∧ t ≤ 253402300799 := by
  unfold rightB nameB at h
  simp only [Bool.and_eq_true, decide_eq_true_eq] at h
  omega
theorem days_num {y m d : Int} (h1 : 1 ≤ m) (h2 : m ≤ 12) : (if m ≤ 2 then 365 * (y - 1) + (y - 1) / 4 - (y - 1) / 100 + (y - 1) / 400 + (153 * (m + 12 - 3) + 2) / 5 + d - 1 - 719468 else 365 * y + y / 4 - y / 100 + y / 400 + (153 * (m - 3) + 2) / 5 + d - 1 - 719468) = dayOf y + monthAt y m + d - 1 := by
  have hl := dayOf_leap y
  by_cases hm : m ≤ 2
  · rw [if_pos hm]
    have : m = 1 ∨ m = 2 := by omega
    rcases this with rfl | rfl
    · unfold dayOf monthAt cum; simp; omega
    · unfold dayOf monthAt cum; simp; omega
  · rw [if_neg hm]
    have e : monthAt y m = cum m + if leapP y then 1 else 0 := by
      unfold monthAt
      by_cases h : leapP y
      · rw [if_pos ⟨by omega, h⟩, if_pos h]
      · rw [if_neg (fun hh => h hh.2), if_neg h]
    rw [e]
    have : m = 3 ∨ m = 4 ∨ m = 5 ∨ m = 6 ∨ m = 7 ∨ m = 8 ∨ m = 9 ∨ m = 10 ∨ m = 11 ∨ m = 12 := by omega
    rcases this with rfl | rfl | rfl | rfl | rfl | rfl | rfl | rfl | rfl | rfl <;> (unfold cum; simp; omega)
theorem days_eq (y m d : Int) (y0 : 0 ≤ y) (y1 : y ≤ 9999) (m0 : 0 ≤ m) (m1 : m ≤ 99) (d0 : 0 ≤ d) (d1 : d ≤ 99) : ∃ z : Int, (-1000000 ≤ z ∧ z ≤ 10000000 ∧ (1 ≤ y → 1 ≤ m → m ≤ 12 → z = dayOf y + monthAt y m + d - 1)) ∧
    ∀ (R : Type) (k : Int → Option R), Z3d R y m d k = k z := by
  have q : ∀ (c : Int) (h : 0 < c) (a : Int), 0 ≤ a → a ≤ 100000 → quoI .i64 a c = a / c := fun c h a h0 h1 => tquo h0 (by omega) h
  by_cases hm : m ≤ 2
  · by_cases hy : 1 ≤ y
    · refine ⟨365 * (y - 1) + (y - 1) / 4 - (y - 1) / 100 + (y - 1) / 400 + (153 * (m + 12 - 3) + 2) / 5 + d - 1 - 719468, ⟨by omega, by omega, fun _ h1 h2 => ?_⟩, fun R k => ?_⟩
      · have := days_num (y := y) (d := d) h1 h2
        rwa [if_pos hm] at this
      · unfold Z3d Znm lett; try dsimp only
        rw [show leI m 2 = true by simp only [ts]; exact hm]
        rw [Ztu]
        unfold Zdw
        rw [br_true, tsub (by omega) (by omega), tadd (a := m) (b := 12) (by omega) (by omega)]; dsimp only
        rw [q 4 (by decide) _ (by omega) (by omega), q 100 (by decide) _ (by omega) (by omega), q 400 (by decide) _ (by omega) (by omega)]
        rw [tmul (a := 365) (by omega) (by omega), tsub (a := m + 12) (by omega) (by omega), tmul (a := 153) (by omega) (by omega)]
        rw [tadd (a := 365 * (y - 1)) (by omega) (by omega), tadd (a := 153 * (m + 12 - 3)) (by omega) (by omega), q 5 (by decide) _ (by omega) (by omega)]
        rw [tsub (b := (y - 1) / 100) (by omega) (by omega), tadd (b := (y - 1) / 400) (by omega) (by omega), tadd (b := (153 * (m + 12 - 3) + 2) / 5) (by omega) (by omega), tadd (b := d) (by omega) (by omega), tsub (b := 1) (by omega) (by omega), tsub (b := 719468) (by omega) (by omega)]
    · have hy : y = 0 := by omega
      subst hy
      refine ⟨-365 + (153 * (m + 12 - 3) + 2) / 5 + d - 1 - 719468, ⟨by omega, by omega, fun h => absurd h (by decide)⟩, fun R k => ?_⟩
      unfold Z3d Znm lett; try dsimp only
      rw [show leI m 2 = true by simp only [ts]; exact hm]
      rw [Ztu]
      unfold Zdw
      rw [br_true, show subI .i64 0 1 = -1 from rfl]; dsimp only
      rw [show mulI .i64 365 (-1) = -365 from rfl, show quoI .i64 (-1) 4 = 0 from rfl, show quoI .i64 (-1) 100 = 0 from rfl, show quoI .i64 (-1) 400 = 0 from rfl]
      rw [show addI .i64 (-365) 0 = -365 from rfl, show subI .i64 (-365) 0 = -365 from rfl, show addI .i64 (-365) 0 = -365 from rfl]
      rw [tadd (a := m) (b := 12) (by omega) (by omega), tsub (a := m + 12) (by omega) (by omega), tmul (a := 153) (by omega) (by omega), tadd (a := 153 * (m + 12 - 3)) (by omega) (by omega), q 5 (by decide) _ (by omega) (by omega)]
      rw [tadd (b := (153 * (m + 12 - 3) + 2) / 5) (by omega) (by omega), tadd (b := d) (by omega) (by omega), tsub (b := 1) (by omega) (by omega), tsub (b := 719468) (by omega) (by omega)]
  · refine ⟨365 * y + y / 4 - y / 100 + y / 400 + (153 * (m - 3) + 2) / 5 + d - 1 - 719468, ⟨by omega, by omega, fun _ h1 h2 => ?_⟩, fun R k => ?_⟩
    · have := days_num (y := y) (d := d) h1 h2
      rwa [if_neg hm] at this
    · unfold Z3d Znm lett; try dsimp only
      rw [show leI m 2 = false by simp only [ts]; omega]
      rw [Ztu]
      unfold Zdw
      rw [br_false]; dsimp only
      rw [q 4 (by decide) _ (by omega) (by omega), q 100 (by decide) _ (by omega) (by omega), q 400 (by decide) _ (by omega) (by omega)]
      rw [tmul (a := 365) (by omega) (by omega), tsub (a := m) (by omega) (by omega), tmul (a := 153) (by omega) (by omega)]
      rw [tadd (a := 365 * y) (by omega) (by omega), tadd (a := 153 * (m - 3)) (by omega) (by omega), q 5 (by decide) _ (by omega) (by omega)]
      rw [tsub (b := y / 100) (by omega) (by omega), tadd (b := y / 400) (by omega) (by omega), tadd (b := (153 * (m - 3) + 2) / 5) (by omega) (by omega), tadd (b := d) (by omega) (by omega), tsub (b := 1) (by omega) (by omega), tsub (b := 719468) (by omega) (by omega)]
theorem decFrom_append : ∀ (l r : Str) (acc : Nat), Lib.decFrom acc (l ++ r) = (Lib.decFrom acc l).bind fun m => Lib.decFrom m r
  | [], r, acc => rfl
  | b :: l, r, acc => by
    rw [List.cons_append, Lib.decFrom, Lib.decFrom]
    cases Lib.digitVal b with
    | none => rfl
    | some d => exact decFrom_append l r _
theorem digitVal_dig {b : UInt8} (h : isDig b) : Lib.digitVal b = some (b.toNat - 48) := by
  unfold Lib.digitVal
  exact if_pos h
theorem decFrom_digs : ∀ (l : Str) (acc : Nat), (∀ b ∈ l, isDig b) → ∃ m, Lib.decFrom acc l = some m
  | [], acc, _ => ⟨acc, rfl⟩
  | b :: l, acc, h => by
    rw [Lib.decFrom, digitVal_dig (h b (by simp))]
    exact decFrom_digs l _ fun c hc => h c (List.mem_cons_of_mem _ hc)
theorem atoi_digs {l : Str} (h0 : l ≠ []) (h : ∀ b ∈ l, isDig b) {m : Nat} (hm : Lib.decFrom 0 l = some m) : Lib.atoi l = some (m : Int) := by
  cases l with
  | nil => exact absurd rfl h0
  | cons b l =>
    have hb := h b (by simp)
    unfold isDig at hb
    unfold Lib.atoi
    have e1 : (b == 45) = false := by
      rw [beq_eq_false_iff_ne]; rintro rfl; exact absurd hb.1 (by decide)
    have e2 : (b == 43) = false := by
      rw [beq_eq_false_iff_ne]; rintro rfl; exact absurd hb.1 (by decide)
    dsimp only
    rw [e1, e2]
    simp only [Bool.false_eq_true, if_false]
    unfold Lib.decNat
    rw [hm]
    rfl
theorem atoiB_digs {l : Str} (h0 : l ≠ []) (h : ∀ b ∈ l, isDig b) (hl : l.length ≤ 4) : atoiB l = true ∧ 0 ≤ atoiV l ∧ atoiV l < 10 ^ l.length := by
  obtain ⟨m, hm⟩ := decFrom_digs l 0 h
  have ha := atoi_digs h0 h hm
  have hlt := Lib.decFrom_lt l 0 m hm
  rw [show (0 + 1) * 10 ^ l.length = 10 ^ l.length by omega] at hlt
  have h4 : 10 ^ l.length ≤ 10 ^ 4 := Nat.pow_le_pow_right (by decide) hl
  refine ⟨?_, ?_, ?_⟩
  · unfold atoiB; rw [ha]; simp; omega
  · unfold atoiV; rw [ha]; simp
  · unfold atoiV; rw [ha]
    have e : (((10 ^ l.length : Nat)) : Int) = (10 : Int) ^ l.length := by simp
    rw [← e]
    simp only [Option.getD_some]
    omega
theorem dig_isDig : ∀ (k n : Nat), ∀ b ∈ dig k n, isDig b
  | 0, n, b, h => by simp [dig] at h
  | k + 1, n, b, h => by
    rw [dig, List.mem_append, List.mem_singleton] at h
    rcases h with h | rfl
    · exact dig_isDig k _ b h
    · unfold isDig; rw [toNat_ofNat (by omega)]; omega
theorem decFrom_dig : ∀ (k n : Nat), n < 10 ^ k → Lib.decFrom 0 (dig k n) = some n
  | 0, n, h => by
    have : n = 0 := by simpa using h
    subst this; rfl
  | k + 1, n, h => by
    rw [dig, decFrom_append, decFrom_dig k (n / 10) (by rw [Nat.div_lt_iff_lt_mul (by omega)]; rw [Nat.pow_succ] at h; exact h)]
    show Lib.decFrom (n / 10) [UInt8.ofNat (48 + n % 10)] = _
    have hd : isDig (UInt8.ofNat (48 + n % 10)) := by unfold isDig; rw [toNat_ofNat (by omega)]; omega
    rw [Lib.decFrom, digitVal_dig hd, toNat_ofNat (by omega)]
    show some _ = _
    congr 1
    omega
theorem atoiV_dig (k n : Nat) (h : n < 10 ^ (k + 1)) : atoiV (dig (k + 1) n) = (n : Int) := by
  have h0 : dig (k + 1) n ≠ [] := by
    intro e
    have := congrArg List.length e
    rw [dig_length] at this
    exact absurd this (by simp)
  unfold atoiV
  rw [atoi_digs h0 (dig_isDig _ _) (decFrom_dig _ _ h)]
  rfl
def atL : List Int := [4, 6, 8, 10, 12, 14]
def cutS (s : Str) (lo w : Nat) : Str := (s.take w).drop lo
theorem at_step (s : Str) (hs : s.length = 15) (i w lo : Nat) (hi : i < 6) (hw : atL.getD i 0 = (w : Int)) (h2 : 2 ≤ w) (h14 : w ≤ 14) (hlo : lo = if i = 0 then 0 else w - 2) (ha : atoiB (cutS s lo w) = true)
    (v : List Int) (R : Type) (n : Nat) (k : Str → List Int → Option R) : Zi8 R (n + 1) s atL (i : Int) v k = Zi8 R n s atL ((i + 1 : Nat) : Int) (v.set i (atoiV (cutS s lo w))) k := by
  unfold cutS at ha
  rw [Z10y]
  unfold Zls lett; dsimp only
  rw [brT _ _ (by simp only [ts]; omega), gdT _ (by simp only [ts]; omega), Int.toNat_natCast, hw, tsub (by omega) (by omega), Z1bj]
  unfold Zty
  by_cases h0 : i = 0
  · rw [if_pos h0] at hlo
    subst hlo
    rw [brT _ _ (by simp only [ts]; omega)]; dsimp only
    rw [gdT _ (by simp only [ts]; omega), gdT _ (by simp only [ts]; omega), Int.toNat_natCast, show Int.toNat 0 = 0 from rfl]
    unfold Z32
    rw [gdT _ ha]; dsimp only
    rw [gdT _ (by simp only [ts]; omega), Int.toNat_natCast, tadd (by omega) (by omega)]
    rfl
  · rw [if_neg h0] at hlo
    subst hlo
    rw [brF _ _ (by simp only [ts]; omega)]; dsimp only
    rw [gdT _ (by simp only [ts]; omega), gdT _ (by simp only [ts]; omega), Int.toNat_natCast, show ((w : Int) - 2).toNat = w - 2 by omega]
    unfold Z32
    rw [gdT _ ha]; dsimp only
    rw [gdT _ (by simp only [ts]; omega), Int.toNat_natCast, tadd (by omega) (by omega)]
    rfl
theorem at_end (s : Str) (v : List Int) (R : Type) (n : Nat) (k : Str → List Int → Option R) : Zi8 R (n + 1) s atL ((6 : Nat) : Int) v k = k s v := by
  rw [Z10y]
  unfold Zls
  rw [brF _ _ (by decide)]
theorem cutS_mid (p q r : Str) (lo w : Nat) (hp : p.length = lo) (hq : lo + q.length = w) : cutS (p ++ (q ++ r)) lo w = q := by
  subst hp; subst hq
  unfold cutS
  rw [List.take_length_add_append, List.take_left, List.drop_left]
theorem fcert_at_tot (s : Str) (hl : s.length ≤ 1000000000) : T_2 (fun R k0 => Zff R s k0) (fun t ok => ∀ (n y m d : Int), 0 ≤ n → n ≤ 253402300799 → IsDate (n / 86400) y m d → s = stamp y m d (n % 86400) → t = n) := by
  by_cases hs : s.length = 15
  · obtain ⟨z, z1, hz⟩ := Trim_tens (s.take 14) (by rw [List.length_take]; omega)
    have start : ∀ (R : Type) (k : Int → Bool → Option R), Zff R s k = br (!(eqS z [])) (k 0 false)
        (Zi8 R (Zde s atL 0 (List.replicate 6 0)) s atL 0 (List.replicate 6 (0 : Int)) fun y27 y28 =>
          Z3d R (y28.getD 0 0) (y28.getD 1 0) (y28.getD 2 0) fun r31 =>
          Z1n R (addI .i64 (addI .i64 (addI .i64 (mulI .i64 86400 r31) (mulI .i64 3600 (y28.getD 3 0))) (mulI .i64 60 (y28.getD 4 0))) (y28.getD 5 0)) fun r34 r35 =>
          br (eqI r35 0) (k (addI .i64 (addI .i64 (addI .i64 (mulI .i64 86400 r31) (mulI .i64 3600 (y28.getD 3 0))) (mulI .i64 60 (y28.getD 4 0))) (y28.getD 5 0)) (eqS r34 y27))
            (k (addI .i64 (addI .i64 (addI .i64 (mulI .i64 86400 r31) (mulI .i64 3600 (y28.getD 3 0))) (mulI .i64 60 (y28.getD 4 0))) (y28.getD 5 0)) false)) := by
      intro R k
      unfold Zff Z10w lett; dsimp only
      rw [hs, brF _ _ (by decide), gdT _ (by decide)]
      refine (hz R _).trans ?_
      rw [Z1bm]
      rfl
    by_cases hd : ∀ b ∈ s.take 14, isDig b
    · have zz := z1.mpr hd
      subst zz
      have dg : ∀ lo w, w ≤ 14 → ∀ b ∈ cutS s lo w, isDig b := by
        intro lo w hw b hb
        refine hd b ?_
        unfold cutS at hb
        have h1 := List.mem_of_mem_drop hb
        rw [show w = min w 14 by omega, ← List.take_take] at h1
        exact List.mem_of_mem_take h1
      have ln : ∀ lo w, w ≤ 14 → (cutS s lo w).length = w - lo := by
        intro lo w hw
        unfold cutS
        rw [List.length_drop, List.length_take]
        omega
      have ne : ∀ lo w, w ≤ 14 → lo < w → cutS s lo w ≠ [] := by
        intro lo w hw hlw e
        have := ln lo w hw
        rw [e] at this
        simp at this
        omega
      have av := fun lo w (hw : w ≤ 14) (hlw : lo < w) (h4 : w - lo ≤ 4) => atoiB_digs (ne lo w hw hlw) (dg lo w hw) (by rw [ln lo w hw]; exact h4)
      have a0 := av 0 4 (by decide) (by decide) (by decide)
      have a1 := av 4 6 (by decide) (by decide) (by decide)
      have a2 := av 6 8 (by decide) (by decide) (by decide)
      have a3 := av 8 10 (by decide) (by decide) (by decide)
      have a4 := av 10 12 (by decide) (by decide) (by decide)
      have a5 := av 12 14 (by decide) (by decide) (by decide)
      rw [ln _ _ (by decide)] at a0 a1 a2 a3 a4 a5
      simp only [Nat.reduceSub, Int.reducePow] at a0 a1 a2 a3 a4 a5
      obtain ⟨dz, ⟨d1, d2, d3⟩, hdz⟩ := days_eq (atoiV (cutS s 0 4)) (atoiV (cutS s 4 6)) (atoiV (cutS s 6 8)) a0.2.1 (by omega) a1.2.1 (by omega) a2.2.1 (by omega)
      obtain ⟨tt, te, _, ht⟩ := fcert_Time_tot (86400 * dz + 3600 * atoiV (cutS s 8 10) + 60 * atoiV (cutS s 10 12) + atoiV (cutS s 12 14))
      refine ⟨86400 * dz + 3600 * atoiV (cutS s 8 10) + 60 * atoiV (cutS s 10 12) + atoiV (cutS s 12 14), if te = 0 then eqS tt s else false, ?_, fun R k => ?_⟩
      · intro n y m d n0 n1 hdt hst
        have hy := hdt.year (by omega) (by omega)
        have hm1 := hdt.m1; have hm2 := hdt.m2; have hd1 := hdt.d1; have hd31 := hdt.day
        have he := hdt.eq
        have e0 : cutS s 0 4 = dig 4 y.toNat := by
          rw [hst, show stamp y m d (n % 86400) = [] ++ (dig 4 y.toNat ++ (dig 2 m.toNat ++ (dig 2 d.toNat ++ (dig 2 (n % 86400 / 3600).toNat ++ (dig 2 (n % 86400 / 60 % 60).toNat ++ (dig 2 (n % 86400 % 60).toNat ++ [90])))))) by unfold stamp; simp only [List.append_assoc, List.nil_append]]
          exact cutS_mid _ _ _ _ _ rfl (by rw [dig_length])
        have e1 : cutS s 4 6 = dig 2 m.toNat := by
          rw [hst, show stamp y m d (n % 86400) = dig 4 y.toNat ++ (dig 2 m.toNat ++ (dig 2 d.toNat ++ (dig 2 (n % 86400 / 3600).toNat ++ (dig 2 (n % 86400 / 60 % 60).toNat ++ (dig 2 (n % 86400 % 60).toNat ++ [90]))))) by unfold stamp; simp only [List.append_assoc]]
          exact cutS_mid _ _ _ _ _ (by rw [dig_length]) (by rw [dig_length])
        have e2 : cutS s 6 8 = dig 2 d.toNat := by
          rw [hst, show stamp y m d (n % 86400) = (dig 4 y.toNat ++ dig 2 m.toNat) ++ (dig 2 d.toNat ++ (dig 2 (n % 86400 / 3600).toNat ++ (dig 2 (n % 86400 / 60 % 60).toNat ++ (dig 2 (n % 86400 % 60).toNat ++ [90])))) by unfold stamp; simp only [List.append_assoc]]
          exact cutS_mid _ _ _ _ _ (by simp only [List.length_append, dig_length]) (by rw [dig_length])
        have e3 : cutS s 8 10 = dig 2 (n % 86400 / 3600).toNat := by
          rw [hst, show stamp y m d (n % 86400) = (dig 4 y.toNat ++ (dig 2 m.toNat ++ dig 2 d.toNat)) ++ (dig 2 (n % 86400 / 3600).toNat ++ (dig 2 (n % 86400 / 60 % 60).toNat ++ (dig 2 (n % 86400 % 60).toNat ++ [90]))) by unfold stamp; simp only [List.append_assoc]]
          exact cutS_mid _ _ _ _ _ (by simp only [List.length_append, dig_length]) (by rw [dig_length])
        have e4 : cutS s 10 12 = dig 2 (n % 86400 / 60 % 60).toNat := by
          rw [hst, show stamp y m d (n % 86400) = (dig 4 y.toNat ++ (dig 2 m.toNat ++ (dig 2 d.toNat ++ dig 2 (n % 86400 / 3600).toNat))) ++ (dig 2 (n % 86400 / 60 % 60).toNat ++ (dig 2 (n % 86400 % 60).toNat ++ [90])) by unfold stamp; simp only [List.append_assoc]]
          exact cutS_mid _ _ _ _ _ (by simp only [List.length_append, dig_length]) (by rw [dig_length])
        have e5 : cutS s 12 14 = dig 2 (n % 86400 % 60).toNat := by
          rw [hst, show stamp y m d (n % 86400) = (dig 4 y.toNat ++ (dig 2 m.toNat ++ (dig 2 d.toNat ++ (dig 2 (n % 86400 / 3600).toNat ++ dig 2 (n % 86400 / 60 % 60).toNat)))) ++ (dig 2 (n % 86400 % 60).toNat ++ [90]) by unfold stamp; simp only [List.append_assoc]]
          exact cutS_mid _ _ _ _ _ (by simp only [List.length_append, dig_length]) (by rw [dig_length])
        have v0 : atoiV (cutS s 0 4) = y := by rw [e0, atoiV_dig 3 _ (by omega)]; omega
        have v1 : atoiV (cutS s 4 6) = m := by rw [e1, atoiV_dig 1 _ (by omega)]; omega
        have v2 : atoiV (cutS s 6 8) = d := by rw [e2, atoiV_dig 1 _ (by omega)]; omega
        have v3 : atoiV (cutS s 8 10) = n % 86400 / 3600 := by rw [e3, atoiV_dig 1 _ (by omega)]; omega
        have v4 : atoiV (cutS s 10 12) = n % 86400 / 60 % 60 := by rw [e4, atoiV_dig 1 _ (by omega)]; omega
        have v5 : atoiV (cutS s 12 14) = n % 86400 % 60 := by rw [e5, atoiV_dig 1 _ (by omega)]; omega
        have dd := d3 (by omega) (by omega) (by omega)
        rw [v0, v1, v2] at dd
        rw [v3, v4, v5]
        omega
      · show Zff R s k = _
        rw [start, show (!(eqS [] [])) = false from rfl, br_false]
        rw [show Zde s atL 0 (List.replicate 6 0) = (100020 + 0) + 6 + 1 by unfold Zde; rw [hs]; rfl]
        rw [show (0 : Int) = ((0 : Nat) : Int) from rfl]
        rw [at_step s hs 0 4 0 (by decide) rfl (by decide) (by decide) rfl a0.1, at_step s hs 1 6 4 (by decide) rfl (by decide) (by decide) rfl a1.1, at_step s hs 2 8 6 (by decide) rfl (by decide) (by decide) rfl a2.1,
          at_step s hs 3 10 8 (by decide) rfl (by decide) (by decide) rfl a3.1, at_step s hs 4 12 10 (by decide) rfl (by decide) (by decide) rfl a4.1, at_step s hs 5 14 12 (by decide) rfl (by decide) (by decide) rfl a5.1, at_end]
        have t1 : mulI .i64 86400 dz = 86400 * dz := tmul (by omega) (by omega)
        have t2 : mulI .i64 3600 (atoiV (cutS s 8 10)) = 3600 * atoiV (cutS s 8 10) := tmul (by omega) (by omega)
        have t3 : mulI .i64 60 (atoiV (cutS s 10 12)) = 60 * atoiV (cutS s 10 12) := tmul (by omega) (by omega)
        have t4 : addI .i64 (86400 * dz) (3600 * atoiV (cutS s 8 10)) = 86400 * dz + 3600 * atoiV (cutS s 8 10) := tadd (by omega) (by omega)
        have t5 : addI .i64 (86400 * dz + 3600 * atoiV (cutS s 8 10)) (60 * atoiV (cutS s 10 12)) = 86400 * dz + 3600 * atoiV (cutS s 8 10) + 60 * atoiV (cutS s 10 12) := tadd (by omega) (by omega)
        have t6 : addI .i64 (86400 * dz + 3600 * atoiV (cutS s 8 10) + 60 * atoiV (cutS s 10 12)) (atoiV (cutS s 12 14)) = 86400 * dz + 3600 * atoiV (cutS s 8 10) + 60 * atoiV (cutS s 10 12) + atoiV (cutS s 12 14) := tadd (by omega) (by omega)
        refine (hdz R _).trans ?_
        show Z1n R (addI .i64 (addI .i64 (addI .i64 (mulI .i64 86400 dz) (mulI .i64 3600 (atoiV (cutS s 8 10)))) (mulI .i64 60 (atoiV (cutS s 10 12)))) (atoiV (cutS s 12 14))) (fun r34 r35 => 
          br (eqI r35 0) (k (addI .i64 (addI .i64 (addI .i64 (mulI .i64 86400 dz) (mulI .i64 3600 (atoiV (cutS s 8 10)))) (mulI .i64 60 (atoiV (cutS s 10 12)))) (atoiV (cutS s 12 14))) (eqS r34 s))
            (k (addI .i64 (addI .i64 (addI .i64 (mulI .i64 86400 dz) (mulI .i64 3600 (atoiV (cutS s 8 10)))) (mulI .i64 60 (atoiV (cutS s 10 12)))) (atoiV (cutS s 12 14))) false)) = _
        rw [t1, t2, t3, t4, t5, t6]
        refine (ht R _).trans ?_
        by_cases h0 : te = 0
        · rw [brT _ _ (by simp only [ts]; exact h0), if_pos (show te = ((0 : Nat) : Int) from h0)]
        · rw [brF _ _ (by simp only [ts]; exact h0), if_neg (show ¬ te = ((0 : Nat) : Int) from h0)]
    · refine ⟨0, false, ?_, fun R k => ?_⟩
      · intro n y m d _ _ hdt hst
        exfalso
        apply hd
        rw [hst]
        intro b hb
        have e : (stamp y m d (n % 86400)).take 14 = dig 4 y.toNat ++ dig 2 m.toNat ++ dig 2 d.toNat ++ dig 2 (n % 86400 / 3600).toNat ++ dig 2 (n % 86400 / 60 % 60).toNat ++ dig 2 (n % 86400 % 60).toNat := by
          unfold stamp
          rw [List.take_append_of_le_length (by simp only [List.length_append, dig_length]; decide), List.take_of_length_le (by simp only [List.length_append, dig_length]; decide)]
        rw [e] at hb
        simp only [List.mem_append] at hb
        rcases hb with ((((h | h) | h) | h) | h) | h <;> exact dig_isDig _ _ b h
      · show Zff R s k = _
        rw [start, brT _ _ (by simp only [ts]; intro e; exact hd (z1.mp e))]
  · refine ⟨0, false, ?_, fun R k => ?_⟩
    · intro n y m d _ _ _ hst
      rw [hst, stamp_length] at hs
      exact absurd rfl hs
    · show Zff R s k = _
      unfold Zff Z10w lett; dsimp only
      rw [brT _ _ (by simp only [ts]; omega)]
theorem take_wr (t : Int) (b r : Str) (bad : Bool) (ht : tagB t = true) (hb : b.length ≤ 65535) (hr : r.length ≤ 900000000) (R : Type) (k : Str → Str → Bool → Option R) :
    Z15 R t (wr (UInt8.ofNat t.toNat) b ++ r) bad k = k b r bad := by
  unfold Z15 Z52
  rw [read_wr t b r ht hb hr, show (!(eqI 0 0)) = false from rfl, br_false, brF _ _ (by simp [ts])]
theorem take_tot (t : Int) (s : Str) (bad : Bool) (hs : s.length ≤ 1000000000) : T_3 (fun R k0 => Z15 R t s bad k0) (fun b r bd => b.length ≤ s.length ∧ r.length ≤ s.length) := by
  obtain ⟨t', b, r, e, ⟨p1, p2⟩, h⟩ := fder_Read_tot s hs
  by_cases he : e = 0
  · obtain ⟨q1, q2, q3⟩ := p1 he
    have hl := congrArg List.length q2
    have := wr_length (UInt8.ofNat t'.toNat) b
    rw [List.length_append] at hl
    by_cases ht : t' = t
    · refine ⟨b, r, bad, ⟨by omega, by omega⟩, fun R k => ?_⟩
      unfold Z15 Z52
      refine (h R _).trans ?_
      rw [brF _ _ (by simp [ts]; exact he), brF _ _ (by simp [ts]; exact ht)]
    · refine ⟨[], s, true, ⟨by simp, by omega⟩, fun R k => ?_⟩
      unfold Z15 Z52
      refine (h R _).trans ?_
      rw [brF _ _ (by simp [ts]; exact he), brT _ _ (by simp [ts]; exact ht)]
  · refine ⟨[], s, true, ⟨by simp, by omega⟩, fun R k => ?_⟩
    unfold Z15 Z52
    refine (h R _).trans ?_
    rw [brT _ _ (by simp [ts]; exact he)]
theorem into_wr (t : Int) (b r : Str) (bad : Bool) (ht : tagB t = true) (hb : b.length ≤ 65535) (hr : r.length ≤ 900000000) (R : Type) (k : Str → Bool → Str → Bool → Option R) :
    Z1z R t (wr (UInt8.ofNat t.toNat) b ++ r) bad k = k r bad b bad := by
  unfold Z1z Zaz
  exact take_wr t b r bad ht hb hr R _
theorem into_tot (t : Int) (s : Str) (bad : Bool) (hs : s.length ≤ 1000000000) : T_4 (fun R k0 => Z1z R t s bad k0) (fun r bd b bd' => b.length ≤ s.length ∧ r.length ≤ s.length) := by
  obtain ⟨b, r, bd, hq, h⟩ := take_tot t s bad hs
  refine ⟨r, bd, b, bd, hq, fun R k => ?_⟩
  show Z1z R t s bad k = _
  unfold Z1z Zaz
  exact h R _
theorem bits_wr (b r : Str) (bad : Bool) (hb : b.length ≤ 65000) (hr : r.length ≤ 900000000) (R : Type) (k : Str → Str → Bool → Option R) :
    Z2d R (wr 3 (0 :: b) ++ r) bad k = k b r bad := by
  unfold Z2d Zau
  obtain ⟨x, y, h⟩ := Cut_eq (0 :: b) (by rw [List.length_cons]; omega)
  refine (take_wr 3 (0 :: b) r bad (by decide) (by rw [List.length_cons]; omega) hr R _).trans ?_
  rw [h, behind0_cons]
theorem bits_tot (s : Str) (bad : Bool) (hs : s.length ≤ 1000000000) : T_3 (fun R k0 => Z2d R s bad k0) (fun b r bd => b.length ≤ s.length ∧ r.length ≤ s.length) := by
  obtain ⟨b, r, bd, hq, h⟩ := take_tot 3 s bad hs
  obtain ⟨x, y, hc⟩ := Cut_eq b (by omega)
  refine ⟨behind0 b, r, bd, ⟨Nat.le_trans (behind0_length b) hq.1, hq.2⟩, fun R k => ?_⟩
  show Z2d R s bad k = _
  unfold Z2d Zau
  exact (h R _).trans (hc R _)
theorem readInt_tot (s : Str) (hs : s.length ≤ 1000000000) : T_2 (fun R k0 => Zdh R s k0) (fun _ _ => True) := by
  have h := fun R k => readInt_eq s hs R k
  by_cases h1 : s = []
  · exact ⟨0, 10, trivial, fun R k => by have := h R k; rwa [if_pos h1] at this⟩
  · by_cases h2 : spareB s = true
    · exact ⟨0, 11, trivial, fun R k => by have := h R k; rwa [if_neg h1, if_pos h2] at this⟩
    · by_cases h3 : 8 < s.length
      · exact ⟨0, 13, trivial, fun R k => by have := h R k; rwa [if_neg h1, if_neg h2, if_pos h3] at this⟩
      · exact ⟨sval s, 0, trivial, fun R k => by have := h R k; rwa [if_neg h1, if_neg h2, if_neg h3] at this⟩
theorem parts_tot (s : Str) (hs : s.length ≤ 1000000) : T_6 (fun R k0 => Z8t R s k0) (fun n name f t key sig => name.length ≤ s.length ∧ key.length ≤ s.length ∧ sig.length ≤ s.length) := by
  obtain ⟨r2, r3, r4, r5, q1, h1⟩ := into_tot 48 s false (by omega)
  obtain ⟨r6, r7, r8, r9, q2, h2⟩ := into_tot 48 r4 r5 (by omega)
  obtain ⟨r10, r11, r12, q3, h3⟩ := take_tot 48 r6 r7 (by omega)
  obtain ⟨r13, r14, r15, q4, h4⟩ := bits_tot r11 r12 (by omega)
  obtain ⟨r16, r17, r18, q5, h5⟩ := take_tot 2 r8 r9 (by omega)
  obtain ⟨r19, r20, _, h6⟩ := readInt_tot r16 (by omega)
  obtain ⟨r21, r22, r23, q7, h7⟩ := take_tot 48 r17 r18 (by omega)
  obtain ⟨r24, r25, r26, r27, q8, h8⟩ := into_tot 48 r22 r23 (by omega)
  obtain ⟨r28, r29, r30, r31, q9, h9⟩ := into_tot 49 r26 r27 (by omega)
  obtain ⟨r32, r33, r34, r35, q10, h10⟩ := into_tot 48 r30 r31 (by omega)
  obtain ⟨r36, r37, r38, q11, h11⟩ := take_tot 6 r34 r35 (by omega)
  obtain ⟨r39, r40, r41, q12, h12⟩ := take_tot 12 r37 r38 (by omega)
  obtain ⟨r42, r43, r44, r45, q13, h13⟩ := into_tot 48 r24 r25 (by omega)
  obtain ⟨r46, r47, r48, q14, h14⟩ := take_tot 24 r44 r45 (by omega)
  obtain ⟨r49, r50, _, h15⟩ := fcert_at_tot r46 (by omega)
  obtain ⟨r51, r52, r53, q16, h16⟩ := take_tot 24 r47 r48 (by omega)
  obtain ⟨r54, r55, _, h17⟩ := fcert_at_tot r51 (by omega)
  obtain ⟨r56, r57, r58, q18, h18⟩ := take_tot 48 r42 r43 (by omega)
  obtain ⟨r59, r60, r61, r62, q19, h19⟩ := into_tot 48 r57 r58 (by omega)
  obtain ⟨r63, r64, r65, q20, h20⟩ := take_tot 48 r61 r62 (by omega)
  obtain ⟨r66, r67, r68, q21, h21⟩ := bits_tot r64 r65 (by omega)
  refine ⟨r19, r39, r49, r54, r66, r13, ⟨by omega, by omega, by omega⟩, fun R k => ?_⟩
  show Z8t R s k = _
  unfold Z8t Zqb
  refine (h1 R _).trans ?_; refine (h2 R _).trans ?_; refine (h3 R _).trans ?_; refine (h4 R _).trans ?_; refine (h5 R _).trans ?_; refine (h6 R _).trans ?_; refine (h7 R _).trans ?_
  refine (h8 R _).trans ?_; refine (h9 R _).trans ?_; refine (h10 R _).trans ?_; refine (h11 R _).trans ?_; refine (h12 R _).trans ?_; refine (h13 R _).trans ?_; refine (h14 R _).trans ?_
  refine (h15 R _).trans ?_; refine (h16 R _).trans ?_; refine (h17 R _).trans ?_; refine (h18 R _).trans ?_; refine (h19 R _).trans ?_; refine (h20 R _).trans ?_; refine (h21 R _).trans ?_
  rfl
theorem parts_who {n : Int} {name : Str} {f t : Int} {key sig ft tt : Str} {fe te : Int} (hr : rightB n name f t = true) (n1 : n ≤ 9223372036854775807) (hk : key.length ≤ 1000) (hsig : sig.length ≤ 1000) (hf : TimeS f ft fe) (ht : TimeS t tt te)
    (R : Type) (k : Int → Str → Int → Int → Str → Str → Option R) : Z8t R (whoS (innS n name ft tt key) sig) k = k n name f t key sig := by
  obtain ⟨hn, hname, f0, f1, t1⟩ := rightB_spec hr
  have lf := hf.length
  have lt := ht.length
  have li := innS_length (n := n) (name := name) (key := key) lf lt
  have l1 := wr_length 2 (intS n)
  have l2 := intS_length n
  have l3 := algS_length
  have l4 := namS_length name
  have l5 := wr_length 24 ft
  have l6 := wr_length 24 tt
  have l7 := wr_length 48 (wr 24 ft ++ wr 24 tt)
  have l8 := wr_length 3 (0 :: key)
  have l9 := wr_length 48 (algS ++ wr 3 (0 :: key))
  have l11 := wr_length 3 (0 :: sig)
  have m1 := wr_length 12 name
  have m2 := wr_length 48 ([6, 3, 85, 4, 3] ++ wr 12 name)
  have m3 := wr_length 49 (wr 48 ([6, 3, 85, 4, 3] ++ wr 12 name))
  have m4 := wr_length 48 (wr 49 (wr 48 ([6, 3, 85, 4, 3] ++ wr 12 name)))
  have u48 : (48 : UInt8) = UInt8.ofNat (Int.toNat 48) := rfl
  simp only [List.length_append, List.length_cons, List.length_nil] at *
  obtain ⟨t1', ok1, ha1, hat1⟩ := fcert_at_tot ft (by omega)
  obtain ⟨t2', ok2, ha2, hat2⟩ := fcert_at_tot tt (by omega)
  have e1 : t1' = f := by
    rcases hf with ⟨a, b, _, y, m, d, hd, hst⟩ | ⟨a, _, _⟩
    · exact ha1 f y m d a b hd hst
    · omega
  have e2 : t2' = t := by
    rcases ht with ⟨a, b, _, y, m, d, hd, hst⟩ | ⟨a, _, _⟩
    · exact ha2 t y m d a b hd hst
    · omega
  subst e1; subst e2
  unfold Z8t Zqb
  have tk : ∀ (tg : Int) (b r : Str) (bad : Bool) (K : Str → Str → Bool → Option R), tagB tg = true → b.length ≤ 65535 → r.length ≤ 900000000 → Z15 R tg (wr (UInt8.ofNat tg.toNat) b ++ r) bad K = K b r bad :=
    fun tg b r bad K h1 h2 h3 => take_wr tg b r bad h1 h2 h3 R K
  have it : ∀ (tg : Int) (b r : Str) (bad : Bool) (K : Str → Bool → Str → Bool → Option R), tagB tg = true → b.length ≤ 65535 → r.length ≤ 900000000 → Z1z R tg (wr (UInt8.ofNat tg.toNat) b ++ r) bad K = K r bad b bad :=
    fun tg b r bad K h1 h2 h3 => into_wr tg b r bad h1 h2 h3 R K
  have tk0 : ∀ (tg : Int) (b : Str) (bad : Bool) (K : Str → Str → Bool → Option R), tagB tg = true → b.length ≤ 65535 → Z15 R tg (wr (UInt8.ofNat tg.toNat) b) bad K = K b [] bad :=
    fun tg b bad K h1 h2 => by have := tk tg b [] bad K h1 h2 (by simp); rwa [List.append_nil] at this
  have it0 : ∀ (tg : Int) (b : Str) (bad : Bool) (K : Str → Bool → Str → Bool → Option R), tagB tg = true → b.length ≤ 65535 → Z1z R tg (wr (UInt8.ofNat tg.toNat) b) bad K = K [] bad b bad :=
    fun tg b bad K h1 h2 => by have := it tg b [] bad K h1 h2 (by simp); rwa [List.append_nil] at this
  have bt0 : ∀ (b : Str) (bad : Bool) (K : Str → Str → Bool → Option R), b.length ≤ 65000 → Z2d R (wr 3 (0 :: b)) bad K = K b [] bad :=
    fun b bad K h2 => by have := bits_wr b [] bad h2 (by simp) R K; rwa [List.append_nil] at this
  have lin := wr_length 48 (wr 2 (intS n) ++ (algS ++ (namS name ++ (wr 48 (wr 24 ft ++ wr 24 tt) ++ (namS name ++ wr 48 (algS ++ wr 3 (0 :: key)))))))
  unfold innS at li
  refine (it0 48 (innS n name ft tt key ++ (algS ++ wr 3 (0 :: sig))) false _ (by decide) (by unfold innS; simp only [List.length_append]; omega)).trans ?_
  refine (it 48 (wr 2 (intS n) ++ (algS ++ (namS name ++ (wr 48 (wr 24 ft ++ wr 24 tt) ++ (namS name ++ wr 48 (algS ++ wr 3 (0 :: key))))))) (algS ++ wr 3 (0 :: sig)) false _ (by decide) (by omega) (by simp only [List.length_append]; omega)).trans ?_
  refine (tk 48 [6, 3, 43, 101, 112] (wr 3 (0 :: sig)) false _ (by decide) (by decide) (by omega)).trans ?_
  refine (bt0 sig false _ (by omega)).trans ?_
  refine (tk 2 (intS n) _ false _ (by decide) (by omega) (by simp only [List.length_append]; omega)).trans ?_
  refine (readInt_intS n (by omega) n1 R _).trans ?_
  refine (tk 48 [6, 3, 43, 101, 112] _ false _ (by decide) (by decide) (by simp only [List.length_append]; omega)).trans ?_
  refine (it 48 (wr 49 (wr 48 ([6, 3, 85, 4, 3] ++ wr 12 name))) _ false _ (by decide) (by omega) (by simp only [List.length_append]; omega)).trans ?_
  refine (it0 49 (wr 48 ([6, 3, 85, 4, 3] ++ wr 12 name)) false _ (by decide) (by omega)).trans ?_
  refine (it0 48 ([6, 3, 85, 4, 3] ++ wr 12 name) false _ (by decide) (by simp only [List.length_append, List.length_cons, List.length_nil]; omega)).trans ?_
  refine (tk 6 [85, 4, 3] (wr 12 name) false _ (by decide) (by decide) (by omega)).trans ?_
  refine (tk0 12 name false _ (by decide) (by omega)).trans ?_
  refine (it 48 (wr 24 ft ++ wr 24 tt) _ false _ (by decide) (by simp only [List.length_append]; omega) (by simp only [List.length_append]; omega)).trans ?_
  refine (tk 24 ft (wr 24 tt) false _ (by decide) (by omega) (by omega)).trans ?_
  refine (hat1 R _).trans ?_
  refine (tk0 24 tt false _ (by decide) (by omega)).trans ?_
  refine (hat2 R _).trans ?_
  refine (tk 48 (wr 49 (wr 48 ([6, 3, 85, 4, 3] ++ wr 12 name))) _ false _ (by decide) (by omega) (by omega)).trans ?_
  refine (it0 48 (algS ++ wr 3 (0 :: key)) false _ (by decide) (by simp only [List.length_append]; omega)).trans ?_
  refine (tk 48 [6, 3, 43, 101, 112] (wr 3 (0 :: key)) false _ (by decide) (by decide) (by omega)).trans ?_
  refine (bt0 key false _ (by omega)).trans ?_
  rfl
theorem TimeS.uniq {n : Int} {s t : Str} {d e : Int} (h : TimeS n s d) (h' : TimeS n t e) : s = t := by
  rcases h with ⟨a, b, _, y, m, d, hd, rfl⟩ | ⟨a, rfl, _⟩
  · rcases h' with ⟨_, _, _, y', m', d', hd', rfl⟩ | ⟨a', _, _⟩
    · have := hd.year (by omega) (by omega)
      have := hd'.year (by omega) (by omega)
      obtain ⟨rfl, rfl, rfl⟩ := hd.uniq hd' (by omega) (by omega)
      rfl
    · omega
  · rcases h' with ⟨_, _, _, _⟩ | ⟨_, rfl, _⟩
    · omega
    · rfl
def IsCert (n : Int) (name : Str) (f t : Int) (key sig s : Str) : Prop :=
  rightB n name f t = true ∧ key.length = 32 ∧ sig.length = 64 ∧ ∃ ft fe tt te, TimeS f ft fe ∧ TimeS t tt te ∧ s = whoS (innS n name ft tt key) sig
theorem uniq6 {F : (R : Type) → (Int → Str → Int → Int → Str → Str → Option R) → Option R} {a a' : Int} {b b' : Str} {c c' d d' : Int} {e e' f f' : Str}
    (h : ∀ R k, F R k = k a b c d e f) (h' : ∀ R k, F R k = k a' b' c' d' e' f') : a = a' ∧ b = b' ∧ c = c' ∧ d = d' ∧ e = e' ∧ f = f' := by
  have := (h (Int × Str × Int × Int × Str × Str) (fun a b c d e f => some (a, b, c, d, e, f))).symm.trans (h' _ (fun a b c d e f => some (a, b, c, d, e, f)))
  simpa using this
def ReadS (s : Str) (n : Int) (name : Str) (f t : Int) (key : Str) (e : Int) : Prop :=
  (e = 0 ∨ e = 22 ∨ e = 11 ∨ (e = 13 ∧ 1000 < s.length)) ∧ (e ≠ 0 → n = 0 ∧ name = [] ∧ f = 0 ∧ t = 0 ∧ key = []) ∧
  (e = 0 ∨ e = 22 → ∃ n' name' f' t' key' sig, IsCert n' name' f' t' key' sig s ∧ (e = 0 → n = n' ∧ name = name' ∧ f = f' ∧ t = t' ∧ key = key')) ∧
  (∀ n' name' f' t' key' sig, n' ≤ 9223372036854775807 → IsCert n' name' f' t' key' sig s → e = 22 ∨ (e = 0 ∧ n = n' ∧ name = name' ∧ f = f' ∧ t = t' ∧ key = key'))
theorem cert_length {n : Int} {name : Str} {f t : Int} {key sig s : Str} (h : IsCert n name f t key sig s) : s.length ≤ 500 := by
  obtain ⟨hr, hk, hs, ft, fe, tt, te, h1, h2, rfl⟩ := h
  have := rightB_spec hr
  have := innS_length (n := n) (name := name) (key := key) h1.length h2.length
  have := whoS_length (innS n name ft tt key) sig
  omega
theorem fcert_Read_tot (s : Str) (hs : s.length ≤ 1000000) : T_6 (fun R k0 => Z2c R s k0) (fun n name f t key e => ReadS s n name f t key e) := by
  have z : ∀ e : Int, e ≠ 0 → (e ≠ 0 → (0 : Int) = 0 ∧ ([] : Str) = [] ∧ (0 : Int) = 0 ∧ (0 : Int) = 0 ∧ ([] : Str) = []) := fun _ _ _ => ⟨rfl, rfl, rfl, rfl, rfl⟩
  by_cases hb : 1000 < s.length
  · refine ⟨0, [], 0, 0, [], 13, ⟨by omega, z 13 (by decide), fun h => absurd h (by decide), fun n' name' f' t' key' sig _ hc => ?_⟩, fun R k => ?_⟩
    · have := cert_length hc; omega
    · show Z2c R s k = _
      unfold Z2c Zuf lett; dsimp only
      rw [brT _ _ (by simp only [ts]; omega)]
  · obtain ⟨n, name, f, t, key, sig, ⟨q1, q2, q3⟩, hp⟩ := parts_tot s hs
    have go : ∀ (R : Type) (k : Int → Str → Int → Int → Str → Int → Option R), Z2c R s k = br (!(rightB n name f t)) (k 0 [] 0 0 [] 11) (br (!(eqI key.length 32)) (k 0 [] 0 0 [] 11) (br (!(eqI sig.length 64)) (k 0 [] 0 0 [] 11)
        (Z78 R n name f t key fun r12 => Zat R r12 sig fun r13 => br (!(eqS r13 s)) (k 0 [] 0 0 [] 11)
          (Z78 R n name f t key fun r14 => Zhe R key r14 sig fun r15 => br (!(eqI r15 0)) (k 0 [] 0 0 [] 22) (k n name f t key 0))))) := by
      intro R k
      unfold Z2c Zuf lett; dsimp only
      rw [brF _ _ (by simp only [ts]; omega)]
      refine (hp R _).trans ?_
      rw [right_eq _ _ _ _ _ (by omega)]
    have told : ∀ n' name' f' t' key' sig', n' ≤ 9223372036854775807 → IsCert n' name' f' t' key' sig' s → n = n' ∧ name = name' ∧ f = f' ∧ t = t' ∧ key = key' ∧ sig = sig' := by
      intro n' name' f' t' key' sig' hn hc
      obtain ⟨hr, hk, hsg, ft, fe, tt, te, h1, h2, h3⟩ := hc
      refine uniq6 (F := fun R k => Z8t R s k) hp (fun R k => ?_)
      show Z8t R s k = _
      rw [h3]
      exact parts_who hr hn (by omega) (by omega) h1 h2 R k
    have bad : ∀ (h : ¬ IsCert n name f t key sig s), ReadS s 0 [] 0 0 [] 11 := by
      intro h
      refine ⟨by omega, z 11 (by decide), fun h => absurd h (by decide), fun n' name' f' t' key' sig' hn hc => ?_⟩
      obtain ⟨rfl, rfl, rfl, rfl, rfl, rfl⟩ := told _ _ _ _ _ _ hn hc
      exact absurd hc h
    by_cases h1 : rightB n name f t = true
    · by_cases h2 : key.length = 32
      · by_cases h3 : sig.length = 64
        · have hname := (rightB_spec h1).2.1
          obtain ⟨inn, ⟨ft, fe, tt, te, g1, g2, rfl⟩, hi⟩ := fcert_inner_tot n name f t key (by omega) (by omega)
          have li := innS_length (n := n) (name := name) (key := key) g1.length g2.length
          by_cases h4 : whoS (innS n name ft tt key) sig = s
          · have hc : IsCert n name f t key sig s := ⟨h1, h2, h3, ft, fe, tt, te, g1, g2, h4.symm⟩
            obtain ⟨v, _, hv⟩ := Z18a key (innS n name ft tt key) sig (by omega)
            have go2 : ∀ (R : Type) (k : Int → Str → Int → Int → Str → Int → Option R), Z2c R s k = br (!(eqI v 0)) (k 0 [] 0 0 [] 22) (k n name f t key 0) := by
              intro R k
              rw [go, h1, show (!true) = false from rfl, br_false, brF _ _ (by simp only [ts]; omega), brF _ _ (by simp only [ts]; omega)]
              refine (hi R _).trans ?_
              rw [whole_eq _ _ (by omega) (by omega), brF _ _ (by simp only [ts]; exact h4)]
              refine (hi R _).trans ?_
              exact hv R _
            by_cases h5 : v = 0
            · refine ⟨n, name, f, t, key, 0, ⟨by omega, fun h => absurd rfl h, fun _ => ⟨n, name, f, t, key, sig, hc, fun _ => ⟨rfl, rfl, rfl, rfl, rfl⟩⟩, fun n' name' f' t' key' sig' hn hc' => ?_⟩, fun R k => ?_⟩
              · obtain ⟨rfl, rfl, rfl, rfl, rfl, rfl⟩ := told _ _ _ _ _ _ hn hc'
                exact .inr ⟨rfl, rfl, rfl, rfl, rfl, rfl⟩
              · show Z2c R s k = _
                rw [go2, brF _ _ (by simp only [ts]; exact h5)]
            · refine ⟨0, [], 0, 0, [], 22, ⟨by omega, z 22 (by decide), fun _ => ⟨n, name, f, t, key, sig, hc, fun h => absurd h (by decide)⟩, fun n' name' f' t' key' sig' hn hc' => .inl rfl⟩, fun R k => ?_⟩
              show Z2c R s k = _
              rw [go2, brT _ _ (by simp only [ts]; exact h5)]
          · refine ⟨0, [], 0, 0, [], 11, bad fun hc => ?_, fun R k => ?_⟩
            · obtain ⟨_, _, _, ft', fe', tt', te', e1, e2, e3⟩ := hc
              rw [g1.uniq e1, g2.uniq e2] at h4
              exact h4 e3.symm
            · show Z2c R s k = _
              rw [go, h1, show (!true) = false from rfl, br_false, brF _ _ (by simp only [ts]; omega), brF _ _ (by simp only [ts]; omega)]
              refine (hi R _).trans ?_
              rw [whole_eq _ _ (by omega) (by omega), brT _ _ (by simp only [ts]; exact h4)]
        · refine ⟨0, [], 0, 0, [], 11, bad fun hc => h3 hc.2.2.1, fun R k => ?_⟩
          show Z2c R s k = _
          rw [go, h1, show (!true) = false from rfl, br_false, brF _ _ (by simp only [ts]; omega), brT _ _ (by simp only [ts]; omega)]
      · refine ⟨0, [], 0, 0, [], 11, bad fun hc => h2 hc.2.1, fun R k => ?_⟩
        show Z2c R s k = _
        rw [go, h1, show (!true) = false from rfl, br_false, brT _ _ (by simp only [ts]; omega)]
    · refine ⟨0, [], 0, 0, [], 11, bad fun hc => h1 hc.1, fun R k => ?_⟩
      show Z2c R s k = _
      rw [go, brT _ _ (by simp only [ts]; exact (Bool.not_eq_true _).mp h1)]
def MakeS (n : Int) (name : Str) (f t : Int) (key p : Str) (pe : Int) (s : Str) (e : Int) : Prop :=
  (e = 0 → pe = 0 ∧ ∃ sig, IsCert n name f t p sig s) ∧ (e ≠ 0 → s = [] ∧ (e = 1 ∨ (e = 21 ∧ (pe ≠ 0 ∨ key ≠ []))))
theorem fcert_Make_tot (n : Int) (name : Str) (f t : Int) (key seed p : Str) (pe : Int) (hn : name.length ≤ 1000000) (hp : ∀ (R : Type) (k : Str → Int → Option R), Zgw R seed k = k p pe) (hp2 : pe = 0 → p.length = 32 ∧ seed.length = 32) :
    T_2 (fun R k0 => Z79 R n name f t key seed k0) (fun s e => MakeS n name f t key p pe s e) := by
  by_cases h1 : rightB n name f t = true
  · by_cases h2 : pe = 0
    · obtain ⟨pl, sl⟩ := hp2 h2
      by_cases h3 : key = [] ∨ key = p
      · have hname := (rightB_spec h1).2.1
        obtain ⟨inn, ⟨ft, fe, tt, te, g1, g2, rfl⟩, hi⟩ := fcert_inner_tot n name f t p (by omega) (by omega)
        have li := innS_length (n := n) (name := name) (key := p) g1.length g2.length
        obtain ⟨sig, se, ⟨s1, s2, s3⟩, hs⟩ := Z1ao seed (innS n name ft tt p) (by omega)
        have s0 := s1 sl
        have sl64 := s3 s0
        refine ⟨whoS (innS n name ft tt p) sig, 0, ⟨fun _ => ⟨h2, sig, h1, pl, sl64, ft, fe, tt, te, g1, g2, rfl⟩, fun h => absurd rfl h⟩, fun R k => ?_⟩
        have tail : ∀ K : Str → Int → Option R, (Z78 R n name f t p fun r10 => Zll R seed r10 fun r11 r12 => br (!(eqI r12 0)) (K [] r12) (Zat R r10 r11 fun r13 => K r13 0)) = K (whoS (innS n name ft tt p) sig) 0 := by
          intro K
          refine (hi R _).trans ?_
          refine (hs R _).trans ?_
          rw [brF _ _ (by simp only [ts]; exact s0), whole_eq _ _ (by omega) (by omega)]
        show Z79 R n name f t key seed k = _
        unfold Z79 Zj6
        rw [right_eq _ _ _ _ _ (by omega), h1, show (!true) = false from rfl, br_false, hp, brF _ _ (by simp only [ts]; exact h2)]
        by_cases h4 : key = []
        · rw [brF _ _ (by simp only [ts]; exact h4)]
          exact tail k
        · rcases h3 with h3 | h3
          · exact absurd h3 h4
          · rw [brT _ _ (by simp only [ts]; exact h4), brF _ _ (by simp only [ts]; exact h3)]
            exact tail k
      · refine ⟨[], 21, ⟨fun h => absurd h (by decide), fun _ => ⟨rfl, .inr ⟨rfl, .inr fun h => h3 (.inl h)⟩⟩⟩, fun R k => ?_⟩
        show Z79 R n name f t key seed k = _
        unfold Z79 Zj6
        rw [right_eq _ _ _ _ _ (by omega), h1, show (!true) = false from rfl, br_false, hp, brF _ _ (by simp only [ts]; exact h2), brT _ _ (by simp only [ts]; exact fun h => h3 (.inl h)), brT _ _ (by simp only [ts]; exact fun h => h3 (.inr h))]
    · refine ⟨[], 21, ⟨fun h => absurd h (by decide), fun _ => ⟨rfl, .inr ⟨rfl, .inl h2⟩⟩⟩, fun R k => ?_⟩
      show Z79 R n name f t key seed k = _
      unfold Z79 Zj6
      rw [right_eq _ _ _ _ _ (by omega), h1, show (!true) = false from rfl, br_false, hp, brT _ _ (by simp only [ts]; exact h2)]
  · refine ⟨[], 1, ⟨fun h => absurd h (by decide), fun _ => ⟨rfl, .inl rfl⟩⟩, fun R k => ?_⟩
    show Z79 R n name f t key seed k = _
    unfold Z79 Zj6
    rw [right_eq _ _ _ _ _ (by omega), brT _ _ (by simp only [ts]; exact (Bool.not_eq_true _).mp h1)]
noncomputable section
abbrev Zx8 := (R : Type) → Int → Str → Int → Int → Str → (Bool → Option R) → Option R
def Z11g (R : Type) (a1 : Int) (a2 : Str) (a3 a4 : Int) (a5 : Str) (k0 : Bool → Option R) : Option R :=
 lett (((a2.length : Nat) : Int)) fun (v6 : Int) =>
 br (leI v6 200)
 (lett (((a5.length : Nat) : Int)) fun (v7 : Int) =>
 k0 (leI v7 200))
 (k0 false)
def Zrf : Zx8 := Z11g
abbrev Zqv := (R : Type) → (Bool → Option R) → Option R
def Zww (g0 : Z3q) (g1 : Zey) (R : Type) (k0 : Bool → Option R) : Option R :=
 g0 R 0 fun r1 r2 =>
 g0 R 951782400 fun r3 r4 =>
 g1 R ([] : Str) fun r5 r6 r7 r8 r9 r10 =>
 br (eqI r2 0)
 (lett (eqS r1 [49, 57, 55, 48, 48, 49, 48, 49, 48, 48, 48, 48, 48, 48, 90]) fun (v11 : Bool) =>
 br (v11)
 (br (eqI r4 0)
 (lett (eqS r3 [50, 48, 48, 48, 48, 50, 50, 57, 48, 48, 48, 48, 48, 48, 90]) fun (v12 : Bool) =>
 br (v12)
 (k0 (eqI r10 11))
 (k0 false))
 (k0 false))
 (k0 false))
 (k0 false)
def Zkh : Zqv := Zww Z1n Z2c
abbrev Z10p := (R : Type) → Int → Str → Int → Int → Str → Str → Int → (Bool → Option R) → Option R
def Zp4 (g0 : Zx8) (g1 : Zqv) (g2 : Zx9) (g3 : Zdd) (g4 : Zjw) (g5 : Zk2) (R : Type) (a1 : Int) (a2 : Str) (a3 a4 : Int) (a5 a6 : Str) (a7 : Int) (k0 : Bool → Option R) : Option R :=
 g0 R a1 a2 a3 a4 a5 fun r8 =>
 br (!r8)
 (g1 R fun r9 =>
 k0 r9)
 (g2 R a1 a2 a3 a4 a5 a6 fun r10 r11 =>
 br (!(eqI r11 0))
 (g1 R fun r12 =>
 k0 r12)
 (g3 R r10 fun r13 =>
 g4 R r10 a7 fun r14 =>
 br (eqI r14 22)
 (g1 R fun r15 =>
 k0 r15)
 (g4 R r10 a7 fun r16 =>
 br (!(eqI r16 24))
 (k0 false)
 (g5 R r10 a7 ([[120], r10] : List Str) fun r17 r18 =>
 br (!(eqI r17 24))
 (k0 false)
 (lett (((r13.length : Nat) : Int)) fun (v19 : Int) =>
 br (!(eqI v19 32))
 (k0 false)
 (g5 R r10 a7 ([[120], r13] : List Str) fun r20 r21 =>
 br (leI a3 a7)
 (lett ((eqI r20 0) == (leI a7 a4)) fun (v22 : Bool) =>
 br (v22)
 (br (eqI r20 0)
 (g1 R fun r23 =>
 k0 r23)
 (br (eqI r20 23)
 (g1 R fun r24 =>
 k0 r24)
 (k0 false)))
 (k0 false))
 (br ((eqI r20 0) == false)
 (br (eqI r20 0)
 (g1 R fun r25 =>
 k0 r25)
 (br (eqI r20 23)
 (g1 R fun r26 =>
 k0 r26)
 (k0 false)))
 (k0 false))))))))
def Zre : Z10p := Zp4 Zrf Zkh Z79 Zd7 Zev Zf1
end
theorem Read_nil (R : Type) (k : Int → Str → Int → Int → Str → Int → Option R) : Z2c R [] k = k 0 [] 0 0 [] 11 := by
  obtain ⟨n, name, f, t, key, e, ⟨h1, h2, h3, h4⟩, h⟩ := fcert_Read_tot [] (by simp)
  have no : ¬ (e = 0 ∨ e = 22) := by
    intro he
    obtain ⟨n', name', f', t', key', sig, hc, _⟩ := h3 he
    obtain ⟨_, _, _, ft, fe, tt, te, _, _, hw⟩ := hc
    have := congrArg List.length hw
    unfold whoS at this
    have := wr_length 48 (innS n' name' ft tt key' ++ (algS ++ wr 3 (0 :: sig)))
    simp only [List.length_nil] at *
    omega
  obtain rfl : e = 11 := by
    rcases h1 with r | r | r | ⟨_, r⟩
    · exact absurd (.inl r) no
    · exact absurd (.inr r) no
    · exact r
    · exact absurd r (by simp)
  obtain ⟨rfl, rfl, rfl, rfl, rfl⟩ := h2 (by decide)
  exact h R k
theorem awake14 (R : Type) (k : Bool → Option R) : Zkh R k = k true := by
  unfold Zkh Zww lett
  have d1 : IsDate (0 / 86400) 1970 1 1 := by
    refine ⟨by decide, by decide, by decide, by decide, by decide⟩
  have d2 : IsDate (951782400 / 86400) 2000 2 29 := by
    refine ⟨by decide, by decide, by decide, by decide, by decide⟩
  rw [fcert_Time_at 0 (by decide) (by decide) d1 (by decide), fcert_Time_at 951782400 (by decide) (by decide) d2 (by decide), Read_nil]
  rw [show stamp 1970 1 1 (0 % 86400) = [49, 57, 55, 48, 48, 49, 48, 49, 48, 48, 48, 48, 48, 48, 90] by decide, show stamp 2000 2 29 (951782400 % 86400) = [50, 48, 48, 48, 48, 50, 50, 57, 48, 48, 48, 48, 48, 48, 90] by decide]
  rfl
theorem few14 (n : Int) (name : Str) (f t : Int) (key : Str) (R : Type) (k : Bool → Option R) : Zrf R n name f t key k = k (decide (name.length ≤ 200) && decide (key.length ≤ 200)) := by
  unfold Zrf Z11g lett; dsimp only
  by_cases h : name.length ≤ 200
  · rw [brT _ _ (by simp only [ts]; omega), decide_eq_true h, Bool.true_and]
    congr 1
    unfold leI
    by_cases h2 : key.length ≤ 200
    · rw [decide_eq_true h2, decide_eq_true (by omega)]
    · rw [decide_eq_false h2, decide_eq_false (by omega)]
  · rw [brF _ _ (by simp only [ts]; omega), decide_eq_false h]; rfl
theorem isCert_head {n : Int} {name : Str} {f t : Int} {key sig s : Str} (h : IsCert n name f t key sig s) : ∃ b : Str, s = wr 48 b ∧ b.length ≤ 65535 := by
  have hl := cert_length h
  obtain ⟨_, _, _, ft, fe, tt, te, _, _, rfl⟩ := h
  refine ⟨_, rfl, ?_⟩
  unfold whoS at hl
  have := wr_length 48 (innS n name ft tt key ++ (algS ++ wr 3 (0 :: sig)))
  omega
theorem index_nil (s : Str) (hs : s.length ≤ 1000000000) (R : Type) (k : Int → Option R) : Z39 R s k = k (-1) := by
  unfold Z39 Z7z
  rw [Zlq, show Z26 s 0 0 = (99999 + s.length) + 1 by unfold Z26; omega, Zjs]
  rfl
theorem contains_nil (s : Str) (hs : s.length ≤ 1000000000) (R : Type) (k : Bool → Option R) : Z2m R s k = k false := by
  unfold Z2m Z5y
  rw [index_nil s hs]
  rfl
theorem index_list (s : Str) (l : List Str) (hl : l.length ≤ 1000000) : ∀ (m n i : Nat), i + m = l.length → m < n → ∃ z : Int, (0 ≤ z ↔ s ∈ l.drop i) ∧
    ∀ (R : Type) (k0 : Int → List Str → Option R) (k1 : List Str → Option R), Z4d R n s (l.length : Int) (i : Int) l k0 k1 = if 0 ≤ z then k0 z l else k1 l
  | _, 0, _, _, h => absurd h (Nat.not_lt_zero _)
  | 0, n + 1, i, hi, _ => by
    refine ⟨-1, ⟨fun h => absurd h (by decide), fun h => ?_⟩, fun R k0 k1 => ?_⟩
    · rw [List.drop_eq_nil_of_le (by omega)] at h; exact absurd h (by simp)
    · rw [Z55]
      unfold Z25
      rw [brF _ _ (by simp only [ts]; omega), if_neg (by decide)]
  | m + 1, n + 1, i, hi, hn => by
    have hd : l.drop i = l.getD i [] :: l.drop (i + 1) := by
      rw [List.drop_eq_getElem_cons (by omega), List.getD_eq_getElem?_getD, List.getElem?_eq_getElem (by omega)]
      rfl
    by_cases he : s = l.getD i []
    · refine ⟨i, ⟨fun _ => by rw [hd, ← he]; simp, fun _ => by omega⟩, fun R k0 k1 => ?_⟩
      rw [Z55]
      unfold Z25 lett; dsimp only
      rw [brT _ _ (by simp only [ts]; omega), gdT _ (by simp only [ts]; omega), Int.toNat_natCast, brT _ _ (by simp only [ts]; exact he), if_pos (by omega)]
    · obtain ⟨z, hz, h⟩ := index_list s l hl m n (i + 1) (by omega) (by omega)
      refine ⟨z, ?_, fun R k0 k1 => ?_⟩
      · rw [hz, hd, List.mem_cons]
        exact ⟨.inr, fun h => h.resolve_left he⟩
      · rw [Z55]
        unfold Z25 lett; dsimp only
        rw [brT _ _ (by simp only [ts]; omega), gdT _ (by simp only [ts]; omega), Int.toNat_natCast, brF _ _ (by simp only [ts]; exact he), tadd (by omega) (by omega), ← h R k0 k1]
        simp only [Int.natCast_add, Int.natCast_one]
theorem contains_list (s : Str) (l : List Str) (hl : l.length ≤ 1000000) (R : Type) (k : Bool → List Str → Option R) : Z2l R s l k = k (decide (s ∈ l)) l := by
  unfold Z2l Z6g Z4t Z7h lett; dsimp only
  obtain ⟨z, hz, h⟩ := index_list s l hl l.length (Z24 s l.length 0 l) 0 (by omega) (by unfold Z24; omega)
  rw [Zlp]
  refine (h R _ _).trans ?_
  rw [List.drop_zero] at hz
  by_cases h0 : 0 ≤ z
  · rw [if_pos h0, decide_eq_true (hz.mp h0)]
    show k (leI 0 z) l = _
    rw [show leI 0 z = true by simp only [ts]; exact h0]
  · rw [if_neg h0, decide_eq_false (fun hm => h0 (hz.mpr hm))]
    rfl
theorem law_lets (n : Int) (name : Str) (f t : Int) (key seed : Str) (now : Int) (hn : n ≤ 9223372036854775807) (R : Type) (k : Bool → Option R) :
    Zre R n name f t key seed now k = k true := by
  unfold Zre Zp4 lett
  rw [few14]
  by_cases hf : (decide (name.length ≤ 200) && decide (key.length ≤ 200)) = true
  · rw [hf, show (!true) = false from rfl, br_false]
    rw [Bool.and_eq_true, decide_eq_true_eq, decide_eq_true_eq] at hf
    obtain ⟨p, pe, ⟨p1, p2, p3⟩, hp⟩ := Z18d seed
    obtain ⟨s, e, ⟨m1, m2⟩, hm⟩ := fcert_Make_tot n name f t key seed p pe (by omega) hp (fun h => ⟨p1 h, by
      apply Classical.byContradiction
      intro hs
      have := p3 hs
      omega⟩)
    refine (hm R _).trans ?_
    by_cases he : e = 0
    · rw [brF _ _ (by simp only [ts]; exact he)]
      obtain ⟨_, sig, hc⟩ := m1 he
      have hl := cert_length hc
      obtain ⟨w, hw, hwl⟩ := isCert_head hc
      obtain ⟨n1, name1, f1, t1, key1, e1, ⟨a1, a2, a3, a4⟩, h1⟩ := fcert_Read_tot s (by omega)
      obtain ⟨d, dl, hd⟩ := Z191 s (by omega)
      have hprint : ∀ (R : Type) (k : Str → Option R), Zd7 R s k = k d := fun R k => hd R _
      have allow0 : ∀ (R : Type) (k : Int → Option R), Zev R s now k = br (!(eqI e1 0)) (k e1) (k 24) := by
        intro R k
        unfold Zev Zox
        refine (h1 R _).trans ?_
        by_cases h0 : e1 = 0
        · rw [show (!(eqI e1 0)) = false by simp only [ts]; exact h0, br_false, br_false, hprint, contains_nil _ (by omega)]
          rfl
        · rw [show (!(eqI e1 0)) = true by simp only [ts]; exact h0, br_true, br_true]
      have allow1 : ∀ (l : List Str), l.length ≤ 1000000 → ∀ (R : Type) (k : Int → List Str → Option R), Zf1 R s now l k = br (!(eqI e1 0)) (k e1 l) (br (!(decide (d ∈ l))) (k 24 l) (br (ltI now f1) (k 23 l) (br (ltI t1 now) (k 23 l) (k 0 l)))) := by
        intro l hl R k
        unfold Zf1 Zoq
        refine (h1 R _).trans ?_
        by_cases h0 : e1 = 0
        · rw [show (!(eqI e1 0)) = false by simp only [ts]; exact h0, br_false, br_false, hprint, contains_list _ _ hl]
        · rw [show (!(eqI e1 0)) = true by simp only [ts]; exact h0, br_true, br_true]
      rw [hprint, allow0]
      rcases a4 n name f t p sig hn hc with r | ⟨r, rfl, rfl, rfl, rfl, rfl⟩
      · rw [brT _ _ (by simp only [ts]; omega), brT _ _ (by simp only [ts]; exact r), awake14]
      · subst r
        have dns : d ∉ [[120], s] := by
          have hwl2 := wr_length 48 w
          have hs := wr_length 48 w
          rw [← hw] at hs
          intro hm
          rcases List.mem_cons.mp hm with h | h
          · rw [h] at dl; exact absurd dl (by decide)
          · rw [List.mem_singleton] at h
            obtain ⟨hr, hk, hsg, ft, fe, tt, te, _, _, hwho⟩ := hc
            have := congrArg List.length hwho
            unfold whoS at this
            have g1 := wr_length 48 (innS n1 name1 ft tt key1 ++ (algS ++ wr 3 (0 :: sig)))
            have g2 := wr_length 3 (0 :: sig)
            simp only [List.length_append, List.length_cons] at g1 g2
            rw [h] at dl
            omega
        have dm : d ∈ [[120], d] := by simp
        rw [show (!(eqI 0 0)) = false from rfl, br_false, show eqI 24 22 = false from rfl, br_false, allow0, show (!(eqI 0 0)) = false from rfl, br_false, show (!(eqI 24 24)) = false from rfl, br_false]
        rw [allow1 _ (by simp), show (!(eqI 0 0)) = false from rfl, br_false, brT _ _ (by rw [decide_eq_false dns]; rfl), show (!(eqI 24 24)) = false from rfl, br_false]
        dsimp only
        rw [brF _ _ (by simp only [ts]; omega), allow1 _ (by simp), show (!(eqI 0 0)) = false from rfl, br_false, brF _ _ (by rw [decide_eq_true dm]; rfl)]
        by_cases c1 : now < f1
        · rw [brT (b := ltI now f1) _ _ (by simp only [ts]; exact c1), brF (b := leI f1 now) _ _ (by simp only [ts]; exact c1), show ((eqI 23 0) == false) = true from rfl, br_true, show eqI 23 0 = false from rfl, br_false, show eqI 23 23 = true from rfl, br_true, awake14]
        · rw [brF (b := ltI now f1) _ _ (by simp only [ts]; omega)]
          by_cases c2 : t1 < now
          · rw [brT (b := ltI t1 now) _ _ (by simp only [ts]; exact c2), brT (b := leI f1 now) _ _ (by simp only [ts]; omega), brT _ _ (by rw [show leI now t1 = false by simp only [ts]; exact c2]; rfl), show eqI 23 0 = false from rfl, br_false, show eqI 23 23 = true from rfl, br_true, awake14]
          · rw [brF (b := ltI t1 now) _ _ (by simp only [ts]; omega), brT (b := leI f1 now) _ _ (by simp only [ts]; omega), brT _ _ (by rw [show leI now t1 = true by simp only [ts]; omega]; rfl), show eqI 0 0 = true from rfl, br_true, awake14]
    · rw [brT _ _ (by simp only [ts]; exact he), awake14]
  · rw [(Bool.not_eq_true _).mp hf, show (!false) = true from rfl, br_true, awake14]
noncomputable section
open Go.Proofs
def Z124 (f : Zwt) : Con := { args := [.sc (.i .i64)], blks := [], shapes := [⟨Str, fun r => (.c (.sc (.str r)), [], 0)⟩], F := fun R x y k => f R (x.1) (fun z0 => k.1 z0) }
def Z14w : Con := Z124 Zwy
theorem Z183 : Z14w = libCon [.sc (.i .i64)] (Str) (fun r => .c (.sc (.str r))) (fun x => true) (fun x => Lib.itoa (x.1)) := rfl
theorem Z18l : ConOK Tryz.prog 46 Z14w := by
 rw [Z183]
 exact lib_ok (fn := Tryz.f46) (by kernel_rfl) (by kernel_rfl) (by kernel_rfl) (fun _ _ => rfl) Z1ct
def Zzd (f : Zqo) : Con := { args := [.sc (.s), .sc (.i .i64)], blks := [], shapes := [⟨Str, fun r => (.c (.sc (.str r)), [], 0)⟩], F := fun R x y k => f R (x.1) (x.2.1) (fun z0 => k.1 z0) }
def Z10m : Con := Zzd Zrl
theorem Z16p : Z10m = libCon [.sc (.s), .sc (.i .i64)] (Str) (fun r => .c (.sc (.str r))) (fun x => repB (x.1) (x.2.1)) (fun x => Lib.repeatL (x.1) ((x.2.1)).toNat) := rfl
theorem Z15s : ConOK Tryz.prog 47 Z10m := by
 rw [Z16p]
 exact lib_ok (fn := Tryz.f47) (by kernel_rfl) (by kernel_rfl) (by kernel_rfl) (fun _ _ => rfl) Z1bt
def Zku (f : Zeh) : Con := { args := [.sc (.s), .sc (.i .u8)], blks := [], shapes := [⟨Int, fun r => (.c (.sc (.int .i64 r)), [], 0)⟩], F := fun R x y k => f R (x.1) (x.2.1) (fun z0 => k.1 z0) }
def Zlz : Con := Zku Zei
theorem Zwc : Zlz = libCon [.sc (.s), .sc (.i .u8)] (Int) (fun r => .c (.sc (.int .i64 r))) (fun x => true) (fun x => Lib.indexByte (x.1) (UInt8.ofNat ((x.2.1)).toNat)) := rfl
theorem Zw5 : ConOK Tryz.prog 236 Zlz := by
 rw [Zwc]
 exact lib_ok (fn := Tryz.f236) (by kernel_rfl) (by kernel_rfl) (by kernel_rfl) (fun _ _ => rfl) Z18w
def Zdq (f : Za1) : Con := { args := [.sc (.s), .sc (.sk [0])], blks := [], shapes := [⟨Int, fun r => (.c (.sc (.int .i64 r)), [], 0)⟩], F := fun R x y k => f R (x.1) (fun z0 => k.1 z0) }
def Z105 : Con := Zdq Z6h
theorem Zu9 (g0 : Zeh) : (Zdq (Zdo g0)).Says Tryz.prog Tryz.f213 (conL [(236, Zku g0)]) (pieceL 0 []) .leaf := by
 intro R x y K
 kernel_rfl
theorem Zw4 : ConOK Tryz.prog 213 Z105 :=
 con_o (Zu9 Zei) (cons_ok ⟨.inl Zw5, trivial⟩) orcs_0
def Zfr (f : Zbw) : Con := { args := [.sc (.s), .sc (.sk [0])], blks := [], shapes := [⟨Str × Str × Bool, fun r => (.tup [.sc (.str r.1), .sc (.str r.2.1), .sc (.bool r.2.2)], [], 0)⟩], F := fun R x y k => f R (x.1) (fun z0 z1 z2 => k.1 (z0, z1, z2)) }
def Z12b : Con := Zfr Z88
theorem Zw0 (g0 : Za1) : (Zfr (Zar g0)).Says Tryz.prog Tryz.f175 (conL [(213, Zdq g0)]) (pieceL 0 []) (.node .leaf (.node (.node .leaf (.node .leaf (.node (.node (.draw [⟨0, false, [], []⟩, ⟨1, false, [], []⟩, ⟨2, false, [], [0, 1]⟩, ⟨3, false, [], []⟩, ⟨4, false, [], []⟩, ⟨5, false, [], []⟩, ⟨6, false, [], [5]⟩, ⟨7, false, [], [4, 5, 6]⟩, ⟨8, false, [], [3, 4, 5, 6, 7]⟩, ⟨9, false, [], [0, 1, 2]⟩, ⟨10, false, [], [0, 1, 2, 3, 4, 5, 6, 7, 8, 9]⟩, ⟨11, false, [], [0, 1, 2, 3, 4, 5, 6, 7, 8, 9, 10]⟩]) .leaf) .leaf))) .leaf)) := by
 intro R x y K
 kernel_rfl
theorem Zy4 : ConOK Tryz.prog 175 Z12b :=
 con_o (Zw0 Z6h) (cons_ok ⟨.inl Zw4, trivial⟩) orcs_0
def Zmf (f : Zi9) : Con := { args := [.sc (.s), .sc (.sk [0])], blks := [], shapes := [⟨Str × Str × Bool, fun r => (.tup [.sc (.str r.1), .sc (.str r.2.1), .sc (.bool r.2.2)], [], 0)⟩], F := fun R x y k => f R (x.1) (fun z0 z1 z2 => k.1 (z0, z1, z2)) }
def Z17t : Con := Zmf Zah
theorem Z12g (g0 : Zbw) : (Zmf (Zgt g0)).Says Tryz.prog Tryz.f104 (conL [(175, Zfr g0)]) (pieceL 0 []) .leaf := by
 intro R x y K
 kernel_rfl
theorem Z15d : ConOK Tryz.prog 104 Z17t :=
 con_o (Z12g Z88) (cons_ok ⟨.inl Zy4, trivial⟩) orcs_0
theorem Zsa : (Z8x).Loops Tryz.prog 23 0 (conL []) (pieceL 0 []) (fsub Tryz.f177 [1, 0, 0, 0]) .leaf [0, 1] [] [0] [] := by
 intro R v next K
 kernel_rfl
theorem Zvg : OrcOK Tryz.prog 23 0 (.loop (fsub Tryz.f177 [1, 0, 0, 0])) (fun R => pieceG 0 (Z8x) R) :=
 piece_l (Zsa) (cons_ok trivial) orcs_0
def Zeg (f : Zas) : Con := { args := [.sc (.s), .sc (.i .u8)], blks := [], shapes := [⟨Str, fun r => (.c (.sc (.str r)), [], 0)⟩], F := fun R x y k => f R (x.1) (x.2.1) (fun z0 => k.1 z0) }
def Z11b : Con := Zeg Zfh
theorem Zun : (Zeg (Zm0)).Says Tryz.prog Tryz.f177 (conL []) (pieceL 0 [(0, Z8x)]) (.node .leaf (.node (.node (.orc 0 [0, 1] []) .leaf) .leaf)) := by
 intro R x y K
 kernel_rfl
theorem Zy0 : ConOK Tryz.prog 177 Z11b :=
 con_o (Zun) (cons_ok trivial) (orcs_1 [(0, [1, 0, 0])] ⟨piece_a Zvg, trivial⟩)
theorem Ztf : (Za2).Loops Tryz.prog 17 0 (conL []) (pieceL 0 []) (fsub Tryz.f176 [1, 0, 0, 0]) .leaf [0, 1] [] [0] [] := by
 intro R v next K
 kernel_rfl
theorem Zw2 : OrcOK Tryz.prog 17 0 (.loop (fsub Tryz.f176 [1, 0, 0, 0])) (fun R => pieceG 0 (Za2) R) :=
 piece_l (Ztf) (cons_ok trivial) orcs_0
def Zfi (f : Zbr) : Con := { args := [.sc (.s), .sc (.i .u8)], blks := [], shapes := [⟨Str, fun r => (.c (.sc (.str r)), [], 0)⟩], F := fun R x y k => f R (x.1) (x.2.1) (fun z0 => k.1 z0) }
def Z12o : Con := Zfi Zhh
theorem Zwx : (Zfi (Znc)).Says Tryz.prog Tryz.f176 (conL []) (pieceL 0 [(0, Za2)]) (.node .leaf (.node (.node (.orc 0 [0, 1] []) .leaf) .leaf)) := by
 intro R x y K
 kernel_rfl
theorem Zzi : ConOK Tryz.prog 176 Z12o :=
 con_o (Zwx) (cons_ok trivial) (orcs_1 [(0, [1, 0, 0])] ⟨piece_a Zw2, trivial⟩)
theorem Ztr : (Za0).Loops Tryz.prog 21 0 (conL []) (pieceL 0 []) (fsub Tryz.f178 [1, 0, 1, 0, 0]) .leaf [0, 2, 4] [] [2, 3] [] := by
 intro R v next K
 kernel_rfl
theorem Zwj : OrcOK Tryz.prog 21 0 (.loop (fsub Tryz.f178 [1, 0, 1, 0, 0])) (fun R => pieceG 0 (Za0) R) :=
 piece_l (Ztr) (cons_ok trivial) orcs_0
def Zfu (f : Zbq) : Con := { args := [.sc (.s)], blks := [], shapes := [⟨(List (Tup [.bool])) × Bool, fun r => (.tup [.agg [.recs [.bool] r.1 256], .sc (.bool r.2)], [], 0)⟩], F := fun R x y k => f R (x.1) (fun z0 z1 => k.1 (z0, z1)) }
def Z12m : Con := Zfu Zbu
theorem Zvy : (Zfu (Znb)).Says Tryz.prog Tryz.f178 (conL []) (pieceL 0 [(0, Za0)]) (.node .leaf (.node (.node .leaf (.node (.orc 0 [0, 2, 4] []) .leaf)) .leaf)) := by
 intro R x y K
 kernel_rfl
theorem Zyr : ConOK Tryz.prog 178 Z12m :=
 con_o (Zvy) (cons_ok trivial) (orcs_1 [(0, [1, 0, 1, 0])] ⟨piece_a Zwj, trivial⟩)
def Z2a (f : Zl) : Con := { args := [.sc (.ptr 0 0 0 0 0), .sc (.i .u8)], blks := [(false, [.recs [.bool] (some 256)])], shapes := [⟨Bool × (List (Tup [.bool])), fun r => (.c (.sc (.bool r.1)), [(0, ⟨false, [.recs [.bool] r.2 256]⟩)], 0)⟩], F := fun R x y k => f R (x.2.1) (y.1.1) (fun z0 z1 => k.1 (z0, z1)) }
def Zqi : Con := Z2a Ze
theorem Zlv : (Z2a (Z8r)).Says Tryz.prog Tryz.f214 (conL []) (pieceL 1 []) .leaf := by
 intro R x y K
 kernel_rfl
theorem Z4b : ConOK Tryz.prog 214 Zqi :=
 con_o (Zlv) (cons_ok trivial) orcs_0
theorem Zmd (g0 : Zl) : (Z3m g0).Loops Tryz.prog 22 1 (conL [(214, Z2a g0)]) (pieceL 1 []) (fsub Tryz.f180 [1, 0, 0, 0]) .leaf [0, 1] [] [0] [] := by
 intro R v next K
 kernel_rfl
theorem Zoy : OrcOK Tryz.prog 22 1 (.loop (fsub Tryz.f180 [1, 0, 0, 0])) (fun R => pieceG 1 (Z3m Ze) R) :=
 piece_l (Zmd Ze) (cons_ok ⟨.inl Z4b, trivial⟩) orcs_0
def Zao (f : Z6u) : Con := { args := [.sc (.s), .sc (.ptr 0 0 0 0 0)], blks := [(true, [.recs [.bool] (some 256)])], shapes := [⟨Str × (List (Tup [.bool])), fun r => (.c (.sc (.str r.1)), [(0, ⟨true, [.recs [.bool] r.2 256]⟩)], 0)⟩], F := fun R x y k => f R (x.1) (y.1.1) (fun z0 z1 => k.1 (z0, z1)) }
def Zuy : Con := Zao Z6x
theorem Zpa (g0 : Zl) : (Zao (Zai g0)).Says Tryz.prog Tryz.f180 (conL [(214, Z2a g0)]) (pieceL 1 [(0, Z3m g0)]) (.node .leaf (.node (.node (.orc 0 [0, 1] []) .leaf) .leaf)) := by
 intro R x y K
 kernel_rfl
theorem Zqn : ConOK Tryz.prog 180 Zuy :=
 con_o (Zpa Ze) (cons_ok ⟨.inl Z4b, trivial⟩) (orcs_1 [(0, [1, 0, 0])] ⟨piece_a Zoy, trivial⟩)
theorem Zo2 (g0 : Zl) : (Z3z g0).Loops Tryz.prog 16 1 (conL [(214, Z2a g0)]) (pieceL 1 []) (fsub Tryz.f179 [1, 0, 0, 0]) .leaf [0, 1] [] [0] [] := by
 intro R v next K
 kernel_rfl
theorem Zpk : OrcOK Tryz.prog 16 1 (.loop (fsub Tryz.f179 [1, 0, 0, 0])) (fun R => pieceG 1 (Z3z Ze) R) :=
 piece_l (Zo2 Ze) (cons_ok ⟨.inl Z4b, trivial⟩) orcs_0
def Zbo (f : Z7e) : Con := { args := [.sc (.s), .sc (.ptr 0 0 0 0 0)], blks := [(true, [.recs [.bool] (some 256)])], shapes := [⟨Str × (List (Tup [.bool])), fun r => (.c (.sc (.str r.1)), [(0, ⟨true, [.recs [.bool] r.2 256]⟩)], 0)⟩], F := fun R x y k => f R (x.1) (y.1.1) (fun z0 z1 => k.1 (z0, z1)) }
def Zw6 : Con := Zbo Z7d
theorem Zq6 (g0 : Zl) : (Zbo (Zbf g0)).Says Tryz.prog Tryz.f179 (conL [(214, Z2a g0)]) (pieceL 1 [(0, Z3z g0)]) (.node .leaf (.node (.node (.orc 0 [0, 1] []) .leaf) .leaf)) := by
 intro R x y K
 kernel_rfl
theorem Zsb : ConOK Tryz.prog 179 Zw6 :=
 con_o (Zq6 Ze) (cons_ok ⟨.inl Z4b, trivial⟩) (orcs_1 [(0, [1, 0, 0])] ⟨piece_a Zpk, trivial⟩)
def Zhi (f : Z3w) : Con := { args := [.sc (.s), .sc (.s)], blks := [], shapes := [⟨Str, fun r => (.c (.sc (.str r)), [], 0)⟩], F := fun R x y k => f R (x.1) (x.2.1) (fun z0 => k.1 z0) }
def Z1az : Con := Zhi Z33
theorem Z163 (g0 : Zas) (g1 : Zbr) (g2 : Zbq) (g3 : Z6u) (g4 : Z7e) : (Zhi (Zth g0 g1 g2 g3 g4)).Says Tryz.prog Tryz.f106 (conL [(177, Zeg g0), (176, Zfi g1), (178, Zfu g2), (180, Zao g3), (179, Zbo g4)]) (pieceL 0 []) (.node .leaf (.node .leaf (.node (.node .leaf (.node (.node (.draw [⟨0, false, [], []⟩, ⟨1, false, [], []⟩, ⟨2, false, [], [1]⟩, ⟨4, false, [], []⟩, ⟨5, false, [], [4]⟩, ⟨3, true, [], [0, 1, 2]⟩, ⟨6, true, [], [0, 1, 2, 3, 4, 5]⟩, ⟨7, false, [], [0, 1, 2, 3, 4, 5, 6]⟩]) .leaf) .leaf)) .leaf))) := by
 intro R x y K
 kernel_rfl
theorem Zou : ConOK Tryz.prog 106 Z1az :=
 con_o (Z163 Zfh Zhh Zbu Z6x Z7d) (cons_ok ⟨.inl Zy0, .inl Zzi, .inl Zyr, .inl Zqn, .inl Zsb, trivial⟩) orcs_0
def Zlr (f : Z4s) : Con := { args := [.sc (.s)], blks := [], shapes := [⟨Int, fun r => (.tup [.sc (.int .i64 r), .sc (.err true)], [], 0)⟩], F := fun R x y k => f R (x.1) (fun z0 => k.1 z0) }
def Z14t : Con := Zlr Z32
theorem Z18e : Z14t = libCon [.sc (.s)] (Int) (fun r => .tup [.sc (.int .i64 r), .sc (.err true)]) (fun x => atoiB (x.1)) (fun x => atoiV (x.1)) := rfl
theorem Zp9 : ConOK Tryz.prog 107 Z14t := by
 rw [Z18e]
 exact lib_ok (fn := Tryz.f107) (by kernel_rfl) (by kernel_rfl) (by kernel_rfl) (fun _ _ => rfl) Z1cu
theorem Zrh : (Z8n).Joins Tryz.prog 25 1 (conL []) (pieceL 1 []) (fsub Tryz.f223 [1, 0, 1]) .leaf [0] [] := by
 intro R v next K
 kernel_rfl
theorem Zt1 : OrcOK Tryz.prog 25 1 (fsub Tryz.f223 [1, 0, 1]) (fun R => pieceG 1 (Z8n) R) :=
 piece_j (Zrh) (cons_ok trivial) orcs_0
theorem Zqc : (Z8j).Loops Tryz.prog 25 1 (conL []) (pieceL 1 []) (fsub Tryz.f223 [1, 1, 1, 0, 1, 0, 0]) .leaf [0, 3, 4] [] [3] [] := by
 intro R v next K
 kernel_rfl
theorem Zt3 : OrcOK Tryz.prog 25 1 (.loop (fsub Tryz.f223 [1, 1, 1, 0, 1, 0, 0])) (fun R => pieceG 1 (Z8j) R) :=
 piece_l (Zqc) (cons_ok trivial) orcs_0
def Z8y (f : Z2j) : Con := { args := [.sc (.sl 0 1 none)], blks := [(true, [.ints .i64 none])], shapes := [⟨Int × (List Int), fun r => (.c (.sc (.int .i64 r.1)), [(0, ⟨true, [.ints .i64 r.2 r.2.length]⟩)], 0)⟩], F := fun R x y k => f R (y.1.1) (fun z0 z1 => k.1 (z0, z1)) }
def Z10f : Con := Z8y Z6j
theorem Ztv : (Z8y (Zk6)).Says Tryz.prog Tryz.f223 (conL []) (pieceL 1 [(0, Z8n), (1, Z8j)]) (.node .leaf (.node (.node .leaf (.orc 0 [0, 7] [])) (.node .leaf (.node (.node .leaf (.node (.orc 1 [0, 3, 4] []) .leaf)) .leaf)))) := by
 intro R x y K
 kernel_rfl
theorem Ziw : ConOK Tryz.prog 223 Z10f :=
 con_o (Ztv) (cons_ok trivial) (orcs_1 [(0, [1, 0, 1]), (1, [1, 1, 1, 0, 1, 0])] ⟨piece_a Zt1, piece_a Zt3, trivial⟩)
theorem Zro : (Z8b).Joins Tryz.prog 25 1 (conL []) (pieceL 1 []) (fsub Tryz.f224 [1, 0, 1]) .leaf [0] [] := by
 intro R v next K
 kernel_rfl
theorem Zu0 : OrcOK Tryz.prog 25 1 (fsub Tryz.f224 [1, 0, 1]) (fun R => pieceG 1 (Z8b) R) :=
 piece_j (Zro) (cons_ok trivial) orcs_0
theorem Zqh : (Z8q).Loops Tryz.prog 25 1 (conL []) (pieceL 1 []) (fsub Tryz.f224 [1, 1, 1, 0, 1, 0, 0]) .leaf [0, 3, 4] [] [3] [] := by
 intro R v next K
 kernel_rfl
theorem Ztk : OrcOK Tryz.prog 25 1 (.loop (fsub Tryz.f224 [1, 1, 1, 0, 1, 0, 0])) (fun R => pieceG 1 (Z8q) R) :=
 piece_l (Zqh) (cons_ok trivial) orcs_0
def Z90 (f : Z2k) : Con := { args := [.sc (.slr 0 1 none)], blks := [(true, [.ints .i64 none])], shapes := [⟨Int × (List Int), fun r => (.c (.sc (.int .i64 r.1)), [(0, ⟨true, [.ints .i64 r.2 r.2.length]⟩)], 0)⟩], F := fun R x y k => f R (x.1.1) (x.1.2) (y.1.1) (fun z0 z1 => k.1 (z0, z1)) }
def Z104 : Con := Z90 Z6k
theorem Zu1 : (Z90 (Zkc)).Says Tryz.prog Tryz.f224 (conL []) (pieceL 1 [(0, Z8b), (1, Z8q)]) (.node .leaf (.node (.node .leaf (.orc 0 [0, 7] [])) (.node .leaf (.node (.node .leaf (.node (.orc 1 [0, 3, 4] []) .leaf)) .leaf)))) := by
 intro R x y K
 kernel_rfl
theorem Zil : ConOK Tryz.prog 224 Z104 :=
 con_o (Zu1) (cons_ok trivial) (orcs_1 [(0, [1, 0, 1]), (1, [1, 1, 1, 0, 1, 0])] ⟨piece_a Zu0, piece_a Ztk, trivial⟩)
theorem Zkr : (Z4u).Loops Tryz.prog 28 1 (conL []) (pieceL 1 []) (fsub Tryz.f246 [1, 0, 0]) (.node .leaf (.node (.node (.draw [⟨0, false, [], []⟩, ⟨1, false, [], []⟩, ⟨2, false, [], []⟩, ⟨3, false, [], []⟩, ⟨4, false, [], []⟩, ⟨5, false, [], []⟩, ⟨6, false, [0], [4, 5]⟩, ⟨7, false, [0], [4, 5, 6]⟩, ⟨8, false, [], []⟩, ⟨9, false, [], []⟩, ⟨10, false, [0], [8, 9]⟩, ⟨11, false, [0], [8, 9, 10]⟩, ⟨12, false, [0], [0, 1, 4, 5, 6, 7, 8, 9, 10, 11]⟩, ⟨13, true, [0], [0, 1, 4, 5, 6, 7, 8, 9, 10, 11, 12]⟩, ⟨14, false, [0], [0, 1, 2, 3, 4, 5, 6, 7, 8, 9, 10, 11, 12, 13]⟩, ⟨15, true, [0], [0, 1, 2, 3, 4, 5, 6, 7, 8, 9, 10, 11, 12, 13, 14]⟩]) .leaf) .leaf)) [0, 2, 3] [] [] [] := by
 intro R v next K
 kernel_rfl
theorem Zmo : OrcOK Tryz.prog 28 1 (.loop (fsub Tryz.f246 [1, 0, 0])) (fun R => pieceG 1 (Z4u) R) :=
 piece_l (Zkr) (cons_ok trivial) orcs_0
def Z1l (f : Z7) : Con := { args := [.sc (.sl 0 1 none)], blks := [(true, [.bytes none])], shapes := [⟨Str, fun r => (.tup [], [(0, ⟨true, [.bytes r r.length]⟩)], 0)⟩], F := fun R x y k => f R (y.1.1) (fun z0 => k.1 z0) }
def Zsf : Con := Z1l Zs
theorem Zmq : (Z1l (Zf5)).Says Tryz.prog Tryz.f246 (conL []) (pieceL 1 [(0, Z4u)]) (.node .leaf (.node (.orc 0 [0, 2, 3] []) .leaf)) := by
 intro R x y K
 kernel_rfl
theorem Z22 : ConOK Tryz.prog 246 Zsf :=
 con_o (Zmq) (cons_ok trivial) (orcs_1 [(0, [1, 0])] ⟨piece_a Zmo, trivial⟩)
def Z129 (f : Zwa) : Con := { args := [.sc (.sl 0 1 none), .sc (.s)], blks := [(false, [.strs none])], shapes := [⟨Str, fun r => (.c (.sc (.str r)), [], 0)⟩], F := fun R x y k => f R (x.2.1) (y.1.1) (fun z0 => k.1 z0) }
def Z14l : Con := Z129 Zo6
theorem Z17l : Z14l = libConB [.sc (.sl 0 1 none), .sc (.s)] [(false, [.strs none])] (Str) (fun r => .c (.sc (.str r))) (fun x y => joinB (y.1.1) (x.2.1)) (fun x y => Lib.join (y.1.1) (x.2.1)) := rfl
theorem Z18p : ConOK Tryz.prog 112 Z14l := by
 rw [Z17l]
 exact join_con (fn := Tryz.f112) (by kernel_rfl) (by kernel_rfl) (by kernel_rfl) Tryz.strings_Join_none Tryz.strings_Join
def Ze1 (f : Z2h) : Con := { args := [.sc (.i .u64), .sc (.i .u64)], blks := [], shapes := [⟨Int × Int, fun r => (.tup [.sc (.int .u64 r.1), .sc (.int .u64 r.2)], [], 0)⟩], F := fun R x y k => f R (x.1) (x.2.1) (fun z0 z1 => k.1 (z0, z1)) }
def Z1c5 : Con := Ze1 Z1m
theorem Z17q : (Ze1 (Zzr)).Says Tryz.prog Tryz.f162 (conL []) (pieceL 0 []) .leaf := by
 intro R x y K
 kernel_rfl
theorem Zhf : ConOK Tryz.prog 162 Z1c5 :=
 con_o (Z17q) (cons_ok trivial) orcs_0
def Z5t (f : Zu) : Con := { args := [.sc (.i .u64), .sc (.i .u64), .sc (.i .u64)], blks := [], shapes := [⟨Int × Int, fun r => (.tup [.sc (.int .u64 r.1), .sc (.int .u64 r.2)], [], 0)⟩], F := fun R x y k => f R (x.1) (x.2.1) (x.2.2.1) (fun z0 z1 => k.1 (z0, z1)) }
def Z17i : Con := Z5t Zj
theorem Z1an : Z17i = libCon [.sc (.i .u64), .sc (.i .u64), .sc (.i .u64)] (Int × Int) (fun r => .tup [.sc (.int .u64 r.1), .sc (.int .u64 r.2)]) (fun x => bit1 (x.2.2.1)) (fun x => (add64S (x.1) (x.2.1) (x.2.2.1), add64C (x.1) (x.2.1) (x.2.2.1))) := rfl
theorem Z50 : ConX Tryz.prog 163 Z17i := by
 rw [Z1an]
 exact add64_con (fn := Tryz.f163) (by kernel_rfl) (by kernel_rfl) (by kernel_rfl) (by kernel_rfl) (by kernel_rfl)
def Zyu (f : Zfl) : Con := { args := [.sc (.i .u64), .sc (.i .u64), .sc (.i .u64)], blks := [], shapes := [⟨Int × Int, fun r => (.tup [.sc (.int .u64 r.1), .sc (.int .u64 r.2)], [], 0)⟩], F := fun R x y k => f R (x.1) (x.2.1) (x.2.2.1) (fun z0 z1 => k.1 (z0, z1)) }
def Z17j : Con := Zyu Zb2
theorem Z1ap : Z17j = libCon [.sc (.i .u64), .sc (.i .u64), .sc (.i .u64)] (Int × Int) (fun r => .tup [.sc (.int .u64 r.1), .sc (.int .u64 r.2)]) (fun x => bit1 (x.2.2.1)) (fun x => (sub64D (x.1) (x.2.1) (x.2.2.1), sub64B (x.1) (x.2.1) (x.2.2.1))) := rfl
theorem Z13p : ConX Tryz.prog 192 Z17j := by
 rw [Z1ap]
 exact sub64_con (fn := Tryz.f192) (by kernel_rfl) (by kernel_rfl) (by kernel_rfl) (by kernel_rfl) (by kernel_rfl)
theorem Zjh : (Z2y).Loops Tryz.prog 19 0 (conL []) (pieceL 0 []) (fsub Tryz.f89 [1, 0, 1, 0, 0]) .leaf [0, 1, 7, 8] [] [4] [] := by
 intro R v next K
 kernel_rfl
theorem Zld : OrcOK Tryz.prog 19 0 (.loop (fsub Tryz.f89 [1, 0, 1, 0, 0])) (fun R => pieceG 0 (Z2y) R) :=
 piece_l (Zjh) (cons_ok trivial) orcs_0
def Z7q (f : Z4x) : Con := { args := [.sc (.nilsl), .sc (.s)], blks := [], shapes := [⟨Int, fun r => (.c (.sc (.int .i64 r)), [], 0)⟩], F := fun R x y k => f R (x.2.1) (fun z0 => k.1 z0) }
def Zpq : Con := Z7q Z39
theorem Zkl : (Z7q (Z7z)).Says Tryz.prog Tryz.f89 (conL []) (pieceL 0 [(0, Z2y)]) (.node .leaf (.node (.node .leaf (.node (.orc 0 [0, 1, 7, 8] []) .leaf)) .leaf)) := by
 intro R x y K
 kernel_rfl
theorem Zmg : ConOK Tryz.prog 89 Zpq :=
 con_o (Zkl) (cons_ok trivial) (orcs_1 [(0, [1, 0, 1, 0])] ⟨piece_a Zld, trivial⟩)
def Z6c (f : Z3t) : Con := { args := [.sc (.nilsl), .sc (.s)], blks := [], shapes := [⟨Bool, fun r => (.c (.sc (.bool r)), [], 0)⟩], F := fun R x y k => f R (x.2.1) (fun z0 => k.1 z0) }
def Zm7 : Con := Z6c Z2m
theorem Zio (g0 : Z4x) : (Z6c (Z5y g0)).Says Tryz.prog Tryz.f41 (conL [(89, Z7q g0)]) (pieceL 0 []) .leaf := by
 intro R x y K
 kernel_rfl
theorem Zk5 : ConOK Tryz.prog 41 Zm7 :=
 con_o (Zio Z39) (cons_ok ⟨.inl Zmg, trivial⟩) orcs_0
theorem Zjj : (Z2w).Loops Tryz.prog 19 1 (conL []) (pieceL 1 []) (fsub Tryz.f89 [1, 0, 1, 0, 0]) .leaf [0, 1, 7, 8] [] [4] [] := by
 intro R v next K
 kernel_rfl
theorem Zkg : OrcOK Tryz.prog 19 1 (.loop (fsub Tryz.f89 [1, 0, 1, 0, 0])) (fun R => pieceG 1 (Z2w) R) :=
 piece_l (Zjj) (cons_ok trivial) orcs_0
def Z7o (f : Z4y) : Con := { args := [.sc (.sl 0 1 none), .sc (.s)], blks := [(true, [.strs none])], shapes := [⟨Int × (List Str), fun r => (.c (.sc (.int .i64 r.1)), [(0, ⟨true, [.strs r.2 r.2.length]⟩)], 0)⟩], F := fun R x y k => f R (x.2.1) (y.1.1) (fun z0 z1 => k.1 (z0, z1)) }
def Zpy : Con := Z7o Z4t
theorem Zkq : (Z7o (Z7h)).Says Tryz.prog Tryz.f89 (conL []) (pieceL 1 [(0, Z2w)]) (.node .leaf (.node (.node .leaf (.node (.orc 0 [0, 1, 7, 8] []) .leaf)) .leaf)) := by
 intro R x y K
 kernel_rfl
theorem Zm4 : ConOK Tryz.prog 89 Zpy :=
 con_o (Zkq) (cons_ok trivial) (orcs_1 [(0, [1, 0, 1, 0])] ⟨piece_a Zkg, trivial⟩)
def Z63 (f : Z3u) : Con := { args := [.sc (.sl 0 1 none), .sc (.s)], blks := [(true, [.strs none])], shapes := [⟨Bool × (List Str), fun r => (.c (.sc (.bool r.1)), [(0, ⟨true, [.strs r.2 r.2.length]⟩)], 0)⟩], F := fun R x y k => f R (x.2.1) (y.1.1) (fun z0 z1 => k.1 (z0, z1)) }
def Zm6 : Con := Z63 Z2l
theorem Zir (g0 : Z4y) : (Z63 (Z6g g0)).Says Tryz.prog Tryz.f41 (conL [(89, Z7o g0)]) (pieceL 1 []) .leaf := by
 intro R x y K
 kernel_rfl
theorem Zk4 : ConOK Tryz.prog 41 Zm6 :=
 con_o (Zir Z4t) (cons_ok ⟨.inl Zm4, trivial⟩) orcs_0
end
noncomputable section
open Go.Proofs
def Zja (f : Z59) : Con := { args := [.sc (.i .i64)], blks := [], shapes := [⟨Bool, fun r => (.c (.sc (.bool r)), [], 0)⟩], F := fun R x y k => f R (x.1) (fun z0 => k.1 z0) }
def Z1cs : Con := Zja Z58
theorem Z19e : (Zja (Z11y)).Says Tryz.prog Tryz.f173 (conL []) (pieceL 0 []) .leaf := by
 intro R x y K
 kernel_rfl
theorem Zo9 : ConOK Tryz.prog 173 Z1cs :=
 con_o (Z19e) (cons_ok trivial) orcs_0
theorem Z16r : (Ziz).Loops Tryz.prog 60 0 (conL []) (pieceL 0 []) (fsub Tryz.f174 [1, 1, 1, 1, 1, 1, 1, 0, 1, 0, 0]) .leaf [5, 6, 36, 37, 38] [] [5, 6, 51, 52, 53, 54, 55, 56] [] := by
 intro R v next K
 kernel_rfl
theorem Z17y : OrcOK Tryz.prog 60 0 (.loop (fsub Tryz.f174 [1, 1, 1, 1, 1, 1, 1, 0, 1, 0, 0])) (fun R => pieceG 0 (Ziz) R) :=
 piece_l (Z16r) (cons_ok trivial) orcs_0
def Zrn (f : Zdb) : Con := { args := [.sc (.s)], blks := [], shapes := [⟨Int × Int × Int, fun r => (.tup [.sc (.int .i64 r.1), .sc (.int .i64 r.2.1), .sc (.int .i64 r.2.2)], [], 0)⟩], F := fun R x y k => f R (x.1) (fun z0 z1 z2 => k.1 (z0, z1, z2)) }
def Z1c3 : Con := Zrn Z2u
theorem Z17o : (Zrn (Zky)).Says Tryz.prog Tryz.f174 (conL []) (pieceL 0 [(0, Ziz)]) (.node .leaf (.node .leaf (.node .leaf (.node .leaf (.node .leaf (.node .leaf (.node .leaf (.node (.node .leaf (.node (.orc 0 [5, 6, 36, 37, 38] []) .leaf)) .leaf)))))))) := by
 intro R x y K
 kernel_rfl
theorem Z12p : ConOK Tryz.prog 174 Z1c3 :=
 con_o (Z17o) (cons_ok trivial) (orcs_1 [(0, [1, 1, 1, 1, 1, 1, 1, 0, 1, 0])] ⟨piece_a Z17y, trivial⟩)
theorem Z17k (g0 : Z59) (g1 : Zdb) : (Zuc g0 g1).Joins Tryz.prog 51 0 (conL [(173, Zja g0), (174, Zrn g1)]) (pieceL 0 []) (fsub Tryz.f103 [1, 1, 1, 0, 1]) .leaf [0, 6, 7, 8] [] := by
 intro R v next K
 kernel_rfl
theorem Z1as : OrcOK Tryz.prog 51 0 (fsub Tryz.f103 [1, 1, 1, 0, 1]) (fun R => pieceG 0 (Zuc Z58 Z2u) R) :=
 piece_j (Z17k Z58 Z2u) (cons_ok ⟨.inl Zo9, .inl Z12p, trivial⟩) orcs_0
def Z14b (f : Z10q) : Con := { args := [.sc (.s)], blks := [], shapes := [⟨Int × Str × Str × Int, fun r => (.tup [.sc (.int .i64 r.1), .sc (.str r.2.1), .sc (.str r.2.2.1), .sc (.int .i64 r.2.2.2)], [], 0)⟩], F := fun R x y k => f R (x.1) (fun z0 z1 z2 z3 => k.1 (z0, z1, z2, z3)) }
def Z1da : Con := Z14b Z9c
theorem Z1ae (g0 : Z59) (g1 : Zdb) : (Z14b (Zxz g0 g1)).Says Tryz.prog Tryz.f103 (conL [(173, Zja g0), (174, Zrn g1)]) (pieceL 0 [(0, Zuc g0 g1)]) (.node .leaf (.node .leaf (.node .leaf (.node (.node .leaf (.orc 0 [0, 6, 7, 8, 33] [])) (.node .leaf (.node (.draw [⟨0, false, [], []⟩, ⟨1, false, [], [0]⟩, ⟨2, false, [], [0, 1]⟩, ⟨3, false, [], []⟩, ⟨4, false, [], []⟩, ⟨5, false, [], []⟩, ⟨6, false, [], []⟩, ⟨7, false, [], [5, 6]⟩, ⟨8, false, [], [3, 4, 5, 6, 7]⟩, ⟨9, false, [], []⟩, ⟨10, false, [], []⟩, ⟨11, false, [], []⟩, ⟨12, false, [], [10, 11]⟩, ⟨13, false, [], [9, 10, 11, 12]⟩, ⟨14, false, [], [0, 1, 2]⟩, ⟨15, false, [], [0, 1, 2, 3, 4, 5, 6, 7, 8, 14]⟩, ⟨16, false, [], [0, 1, 2, 3, 4, 5, 6, 7, 8, 9, 10, 11, 12, 13, 14, 15]⟩, ⟨17, false, [], [0, 1, 2, 3, 4, 5, 6, 7, 8, 9, 10, 11, 12, 13, 14, 15, 16]⟩]) .leaf)))))) := by
 intro R x y K
 kernel_rfl
theorem Z1bq : ConOK Tryz.prog 103 Z1da :=
 con_o (Z1ae Z58 Z2u) (cons_ok ⟨.inl Zo9, .inl Z12p, trivial⟩) (orcs_1 [(0, [1, 1, 1, 0, 1])] ⟨piece_a Z1as, trivial⟩)
def Zf9 (f : Z36) : Con := { args := [.sc (.s)], blks := [], shapes := [⟨Bool, fun r => (.c (.sc (.bool r)), [], 0)⟩], F := fun R x y k => f R (x.1) (fun z0 => k.1 z0) }
def Z1cz : Con := Zf9 Z1x
theorem Z1a4 : (Zf9 (Z11z)).Says Tryz.prog Tryz.f105 (conL []) (pieceL 0 []) .leaf := by
 intro R x y K
 kernel_rfl
theorem Zj1 : ConOK Tryz.prog 105 Z1cz :=
 con_o (Z1a4) (cons_ok trivial) orcs_0
theorem Z15c (g0 : Z36) : (Zhk g0).Loops Tryz.prog 36 0 (conL [(105, Zf9 g0)]) (pieceL 0 []) (fsub Tryz.f51 [1, 1, 1, 0, 1, 0, 0]) .leaf [4, 23, 24, 25] [] [4] [] := by
 intro R v next K
 kernel_rfl
theorem Z17e : OrcOK Tryz.prog 36 0 (.loop (fsub Tryz.f51 [1, 1, 1, 0, 1, 0, 0])) (fun R => pieceG 0 (Zhk Z1x) R) :=
 piece_l (Z15c Z1x) (cons_ok ⟨.inl Zj1, trivial⟩) orcs_0
def Zwp (f : Zrg) : Con := { args := [.sc (.s)], blks := [], shapes := [⟨Int × Int, fun r => (.tup [.sc (.int .i64 r.1), .sc (.int .i64 r.2)], [], 0)⟩], F := fun R x y k => f R (x.1) (fun z0 z1 => k.1 (z0, z1)) }
def Z1bz : Con := Zwp Zdh
theorem Z16u (g0 : Z36) : (Zwp (Zvm g0)).Says Tryz.prog Tryz.f51 (conL [(105, Zf9 g0)]) (pieceL 0 [(0, Zhk g0)]) (.node .leaf (.node .leaf (.node .leaf (.node (.node .leaf (.node (.orc 0 [4, 23, 24, 25] []) .leaf)) .leaf)))) := by
 intro R x y K
 kernel_rfl
theorem Z199 : ConOK Tryz.prog 51 Z1bz :=
 con_o (Z16u Z1x) (cons_ok ⟨.inl Zj1, trivial⟩) (orcs_1 [(0, [1, 1, 1, 0, 1, 0])] ⟨piece_a Z17e, trivial⟩)
theorem Z109 (g0 : Z7) : (Zf7 g0).Joins Tryz.prog 29 0 (conL [(246, Z1l g0)]) (pieceL 0 []) (fsub Tryz.f225 [1, 1, 0, 1, 0, 0, 1, 0, 0, 1, 0, 1]) .leaf [0, 1, 5, 7, 10, 11] [] := by
 intro R v next K
 kernel_rfl
theorem Z12d : OrcOK Tryz.prog 29 0 (fsub Tryz.f225 [1, 1, 0, 1, 0, 0, 1, 0, 0, 1, 0, 1]) (fun R => pieceG 0 (Zf7 Zs) R) :=
 piece_j (Z109 Zs) (cons_ok ⟨.inl Z22, trivial⟩) orcs_0
theorem Z10c (g0 : Z7) : (Zew g0).Loops Tryz.prog 29 0 (conL [(246, Z1l g0)]) (pieceL 0 [(1, Zf7 g0)]) (fsub Tryz.f225 [1, 1, 0, 1, 0, 0]) (.node .leaf (.node (.node (.node .leaf (.node (.node .leaf (.orc 1 [0, 1, 5, 7, 13] [])) .leaf)) .leaf) .leaf)) [0, 1, 5, 6] [(5, .bytes [] 0)] [0, 5] [] := by
 intro R v next K
 kernel_rfl
theorem Z12y : OrcOK Tryz.prog 29 0 (.loop (fsub Tryz.f225 [1, 1, 0, 1, 0, 0])) (fun R => pieceG 0 (Zew Zs) R) :=
 piece_l (Z10c Zs) (cons_ok ⟨.inl Z22, trivial⟩) (orcs_1 [(1, [1, 0, 0, 1, 0, 1])] ⟨piece_a Z12d, trivial⟩)
def Zgq (f : Z5u) : Con := { args := [.sc (.nilsl), .sc (.i .i64)], blks := [], shapes := [⟨Str, fun r => (.c (.sc (.slice 0 1 none none)), [(0, ⟨true, [.bytes r r.length]⟩)], 1)⟩], F := fun R x y k => f R (x.2.1) (fun z0 => k.1 z0) }
def Z17n : Con := Zgq Zdj
theorem Z12z (g0 : Z7) : (Zgq (Zx7 g0)).Says Tryz.prog Tryz.f225 (conL [(246, Z1l g0)]) (pieceL 0 [(0, Zew g0)]) (.node .leaf (.node .leaf (.node (.node .leaf (.node (.orc 0 [0, 1, 5, 6] [(5, .bytes [] 0)]) .leaf)) .leaf))) := by
 intro R x y K
 kernel_rfl
theorem Zsq : ConOK Tryz.prog 225 Z17n :=
 con_o (Z12z Zs) (cons_ok ⟨.inl Z22, trivial⟩) (orcs_1 [(0, [1, 1, 0, 1, 0])] ⟨piece_a Z12y, trivial⟩)
theorem Z100 (g0 : Z7) : (Zeu g0).Joins Tryz.prog 29 1 (conL [(246, Z1l g0)]) (pieceL 1 []) (fsub Tryz.f225 [1, 1, 0, 1, 0, 0, 1, 0, 0, 1, 0, 1]) .leaf [0, 1, 5, 7, 10, 11] [] := by
 intro R v next K
 kernel_rfl
theorem Z12f : OrcOK Tryz.prog 29 1 (fsub Tryz.f225 [1, 1, 0, 1, 0, 0, 1, 0, 0, 1, 0, 1]) (fun R => pieceG 1 (Zeu Zs) R) :=
 piece_j (Z100 Zs) (cons_ok ⟨.inl Z22, trivial⟩) orcs_0
theorem Z107 (g0 : Z7) : (Zf6 g0).Loops Tryz.prog 29 1 (conL [(246, Z1l g0)]) (pieceL 1 [(1, Zeu g0)]) (fsub Tryz.f225 [1, 1, 0, 1, 0, 0]) (.node .leaf (.node (.node (.node .leaf (.node (.node .leaf (.orc 1 [0, 1, 5, 7, 13] [])) .leaf)) .leaf) .leaf)) [0, 1, 5, 6] [(5, .bytes [] 0)] [0, 5] [] := by
 intro R v next K
 kernel_rfl
theorem Z12u : OrcOK Tryz.prog 29 1 (.loop (fsub Tryz.f225 [1, 1, 0, 1, 0, 0])) (fun R => pieceG 1 (Zf6 Zs) R) :=
 piece_l (Z107 Zs) (cons_ok ⟨.inl Z22, trivial⟩) (orcs_1 [(1, [1, 0, 0, 1, 0, 1])] ⟨piece_a Z12f, trivial⟩)
def Zgm (f : Z5o) : Con := { args := [.sc (.sl 0 1 none), .sc (.i .i64)], blks := [(true, [.bytes none])], shapes := [⟨Str, fun r => (.c (.sc (.slice 1 1 none none)), [(1, ⟨true, [.bytes r r.length]⟩)], 1)⟩], F := fun R x y k => f R (x.2.1) (y.1.1) (fun z0 => k.1 z0) }
def Z18k : Con := Zgm Ze3
theorem Z125 (g0 : Z7) : (Zgm (Zx1 g0)).Says Tryz.prog Tryz.f225 (conL [(246, Z1l g0)]) (pieceL 1 [(0, Zf6 g0)]) (.node .leaf (.node .leaf (.node (.node .leaf (.node (.orc 0 [0, 1, 5, 6] [(5, .bytes [] 0)]) .leaf)) .leaf))) := by
 intro R x y K
 kernel_rfl
theorem Zsu : ConOK Tryz.prog 225 Z18k :=
 con_o (Z125 Zs) (cons_ok ⟨.inl Z22, trivial⟩) (orcs_1 [(0, [1, 1, 0, 1, 0])] ⟨piece_a Z12u, trivial⟩)
theorem Z178 (g0 : Z59) : (Zqg g0).Joins Tryz.prog 48 0 (conL [(173, Zja g0)]) (pieceL 0 []) (fsub Tryz.f111 [1, 1, 1, 1, 0]) .leaf [1, 7] [] := by
 intro R v next K
 kernel_rfl
theorem Z19m : OrcOK Tryz.prog 48 0 (fsub Tryz.f111 [1, 1, 1, 1, 0]) (fun R => pieceG 0 (Zqg Z58) R) :=
 piece_j (Z178 Z58) (cons_ok ⟨.inl Zo9, trivial⟩) orcs_0
def Zda (f : Z2e) : Con := { args := [.sc (.i .i64), .sc (.s)], blks := [], shapes := [⟨Str × Int, fun r => (.tup [.sc (.str r.1), .sc (.int .i64 r.2)], [], 0)⟩], F := fun R x y k => f R (x.1) (x.2.1) (fun z0 z1 => k.1 (z0, z1)) }
def Z1d1 : Con := Zda Z1v
theorem Z18y (g0 : Z59) : (Zda (Z11o g0)).Says Tryz.prog Tryz.f111 (conL [(173, Zja g0)]) (pieceL 0 [(0, Zqg g0)]) (.node .leaf (.node .leaf (.node .leaf (.node .leaf (.node (.orc 0 [1, 6, 7] []) .leaf))))) := by
 intro R x y K
 kernel_rfl
theorem Zen : ConOK Tryz.prog 111 Z1d1 :=
 con_o (Z18y Z58) (cons_ok ⟨.inl Zo9, trivial⟩) (orcs_1 [(0, [1, 1, 1, 1, 0])] ⟨piece_a Z19m, trivial⟩)
theorem Z158 (g0 : Z2j) (g1 : Z2k) (g2 : Z5u) (g3 : Z5o) (g4 : Z2e) : (Zli g0 g1 g2 g3 g4).Loops Tryz.prog 80 1 (conL [(223, Z8y g0), (224, Z90 g1), (225, Zgq g2), (225, Zgm g3), (111, Zda g4)]) (pieceL 1 []) (fsub Tryz.f186 [1, 1, 1, 0, 1, 0, 0]) .leaf [4, 65, 66, 67] [] [4] [] := by
 intro R v next K
 kernel_rfl
theorem Z16z : OrcOK Tryz.prog 80 1 (.loop (fsub Tryz.f186 [1, 1, 1, 0, 1, 0, 0])) (fun R => pieceG 1 (Zli Z6j Z6k Zdj Ze3 Z1v) R) :=
 piece_l (Z158 Z6j Z6k Zdj Ze3 Z1v) (cons_ok ⟨.inl Ziw, .inl Zil, .inl Zsq, .inl Zsu, .inl Zen, trivial⟩) orcs_0
def Zwk (f : Zqm) : Con := { args := [.sc (.sl 0 1 none)], blks := [(true, [.ints .i64 none])], shapes := [⟨Str × Int × (List Int), fun r => (.tup [.sc (.str r.1), .sc (.int .i64 r.2.1)], [(0, ⟨true, [.ints .i64 r.2.2 r.2.2.length]⟩)], 0)⟩], F := fun R x y k => f R (y.1.1) (fun z0 z1 z2 => k.1 (z0, z1, z2)) }
def Z1bp : Con := Zwk Zz1
theorem Z16v (g0 : Z2j) (g1 : Z2k) (g2 : Z5u) (g3 : Z5o) (g4 : Z2e) : (Zwk (Z14v g0 g1 g2 g3 g4)).Says Tryz.prog Tryz.f186 (conL [(223, Z8y g0), (224, Z90 g1), (225, Zgq g2), (225, Zgm g3), (111, Zda g4)]) (pieceL 1 [(0, Zli g0 g1 g2 g3 g4)]) (.node .leaf (.node .leaf (.node (.draw [⟨0, false, [], []⟩, ⟨1, false, [0], [0]⟩, ⟨2, false, [0], [0, 1]⟩, ⟨3, false, [], [0, 1, 2]⟩, ⟨4, false, [], []⟩, ⟨5, false, [0], [4]⟩, ⟨6, false, [0], [4, 5]⟩, ⟨7, false, [], [0, 1, 2, 3, 4, 5, 6]⟩, ⟨8, true, [], [0, 1, 2, 3, 4, 5, 6, 7]⟩, ⟨9, false, [], [0, 1, 2, 3, 4, 5, 6, 7, 8]⟩]) (.node (.node .leaf (.node (.orc 0 [4, 65, 66, 67] []) .leaf)) .leaf)))) := by
 intro R x y K
 kernel_rfl
theorem Z193 : ConOK Tryz.prog 186 Z1bp :=
 con_o (Z16v Z6j Z6k Zdj Ze3 Z1v) (cons_ok ⟨.inl Ziw, .inl Zil, .inl Zsq, .inl Zsu, .inl Zen, trivial⟩) (orcs_1 [(0, [1, 1, 1, 0, 1, 0])] ⟨piece_a Z16z, trivial⟩)
theorem Z1a2 (g0 : Z36) (g1 : Z2e) : (Zr2 g0 g1).Loops Tryz.prog 32 0 (conL [(105, Zf9 g0), (111, Zda g1)]) (pieceL 0 []) (fsub Tryz.f57 [1, 1, 0, 1, 0, 0]) .leaf [0, 3, 8] [] [3] [] := by
 intro R v next K
 kernel_rfl
theorem Z1b8 : OrcOK Tryz.prog 32 0 (.loop (fsub Tryz.f57 [1, 1, 0, 1, 0, 0])) (fun R => pieceG 0 (Zr2 Z1x Z1v) R) :=
 piece_l (Z1a2 Z1x Z1v) (cons_ok ⟨.inl Zj1, .inl Zen, trivial⟩) orcs_0
theorem Z18z (g0 : Z36) (g1 : Z2e) : (Zr4 g0 g1).Loops Tryz.prog 32 0 (conL [(105, Zf9 g0), (111, Zda g1)]) (pieceL 0 []) (fsub Tryz.f57 [1, 1, 1, 1, 0, 0, 0]) .leaf [5] [] [5] [] := by
 intro R v next K
 kernel_rfl
theorem Z1b6 : OrcOK Tryz.prog 32 0 (.loop (fsub Tryz.f57 [1, 1, 1, 1, 0, 0, 0])) (fun R => pieceG 0 (Zr4 Z1x Z1v) R) :=
 piece_l (Z18z Z1x Z1v) (cons_ok ⟨.inl Zj1, .inl Zen, trivial⟩) orcs_0
def Z16l (f : Z146) : Con := { args := [.sc (.i .i64)], blks := [], shapes := [⟨Str, fun r => (.c (.sc (.str r)), [], 0)⟩], F := fun R x y k => f R (x.1) (fun z0 => k.1 z0) }
def Z1di : Con := Z16l Zzq
theorem Z1bd (g0 : Z36) (g1 : Z2e) : (Z16l (Z16j g0 g1)).Says Tryz.prog Tryz.f57 (conL [(105, Zf9 g0), (111, Zda g1)]) (pieceL 0 [(0, Zr2 g0 g1), (1, Zr4 g0 g1)]) (.node .leaf (.node .leaf (.node (.node .leaf (.node (.orc 0 [0, 3, 8] []) .leaf)) (.node .leaf (.node (.node (.orc 1 [5] []) .leaf) .leaf))))) := by
 intro R x y K
 kernel_rfl
theorem Z1c7 : ConOK Tryz.prog 57 Z1di :=
 con_o (Z1bd Z1x Z1v) (cons_ok ⟨.inl Zj1, .inl Zen, trivial⟩) (orcs_1 [(0, [1, 1, 0, 1, 0]), (1, [1, 1, 1, 1, 0, 0])] ⟨piece_a Z1b8, piece_a Z1b6, trivial⟩)
end
end Go.Ev
