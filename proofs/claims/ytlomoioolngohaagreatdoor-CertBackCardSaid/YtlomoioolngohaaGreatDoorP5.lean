/- Texts Uscalar, Usha, Usign, Hcert, Hlib, Hcert2, Hcert3, Hcert4, Hcert5, Plaw14, Hback, Clib, Cder, Cfield, Cpoint of this proof; printed names are shortened. -/
import Derived.Test.YtlomoioolngohaaGreatDoorP3
import Derived.Test.YtlomoioolngohaaGreatDoorP4
import Derived.KernelRfl
import Derived.Test.YtlomoioolngohaaGreatDoorP2
set_option linter.unusedVariables false
set_option linter.unusedSimpArgs false
set_option maxRecDepth 100000
set_option maxHeartbeats 2000000
namespace Go.Ev
theorem Zw1 (gx5 : Str) (gx6 gx7 : Int) (gx8 : List Int) (x5 : Str) (x6 x7 : Int) (x8 : List Int) (i_ : (((x5)).length = ((gx5)).length) ∧ ((x6) = (((x5)).length : Int)) ∧ (0 ≤ (x7)) ∧ ((x7) ≤ (x6)) ∧ (((x8)).length = ((x5)).length / 8) ∧ (((x5)).length % 8 = 0) ∧ (((x5)).length ≤ 1000)) : Z178 (fun R next k0 => Zgd R x5 x6 x7 x8 next k0) (fun nx5 nx6 nx7 nx8 => (((nx5)).length = ((gx5)).length) ∧ ((nx6) = (((nx5)).length : Int)) ∧ (0 ≤ (nx7)) ∧ ((nx7) ≤ (nx6)) ∧ (((nx8)).length = ((nx5)).length / 8) ∧ (((nx5)).length % 8 = 0) ∧ (((nx5)).length ≤ 1000) ∧ (((nx6) - (nx7)).toNat < ((x6) - (x7)).toNat)) (fun z0 => (((z0)).length = ((gx5)).length / 8)) := by
  obtain ⟨i_0, i_1, i_2, i_3, i_4, i_5, i_6⟩ := i_
  refine Z178.of ?_
  delta Zgd
  refine Tot.br (fun h1 => ?_) (fun h1 => ?_)
  · first | simp (disch := omega) only [ts, *] at h1 | skip
    all_goals
      refine Tot.gd ?_
      refine Tot.lett (fun v9 e_v9 => ?_)
      first | simp (disch := omega) only [ts, *] at e_v9 | skip
      refine Tot.gd ?_
      refine Tot.lett (fun v10 e_v10 => ?_)
      first | simp (disch := omega) only [ts, *] at e_v10 | skip
      refine Tot.gd ?_
      refine Tot.lett (fun v11 e_v11 => ?_)
      first | simp (disch := omega) only [ts, *] at e_v11 | skip
      refine Tot.gd ?_
      refine Tot.lett (fun v12 e_v12 => ?_)
      have l_v12 := congrArg List.length e_v12
      first | simp (disch := omega) only [ts, *] at l_v12 | skip
      exact Tot.ret _
  · first | simp (disch := omega) only [ts, *] at h1 | skip
    all_goals
      exact Tot.ret _
theorem Z118 (x5 : Str) (x6 x7 : Int) (x8 : List Int) (i_ : autoParam ((((x5)).length = ((x5)).length) ∧ ((x6) = (((x5)).length : Int)) ∧ (0 ≤ (x7)) ∧ ((x7) ≤ (x6)) ∧ (((x8)).length = ((x5)).length / 8) ∧ (((x5)).length % 8 = 0) ∧ (((x5)).length ≤ 1000)) sA._auto_1) : T_1 (fun R k0 => Zwh R x5 x6 x7 x8 k0) (fun z0 => (((z0)).length = ((x5)).length / 8)) := by
  have h := loopS (T := Zkt) (E := Zlh) (step := (Zc6).step) (A := ((List Int))) (fun R k => (fun r => k (r), ())) (fun v => (((v.1.1)).length = ((x5)).length) ∧ ((v.1.2.2.1) = (((v.1.1)).length : Int)) ∧ (0 ≤ (v.1.2.2.2.1)) ∧ ((v.1.2.2.2.1) ≤ (v.1.2.2.1)) ∧ (((v.2.1.1)).length = ((v.1.1)).length / 8) ∧ (((v.1.1)).length % 8 = 0) ∧ (((v.1.1)).length ≤ 1000)) (fun v => ((v.1.2.2.1) - (v.1.2.2.2.1)).toNat) (fun p => (((p)).length = ((x5)).length / 8)) ?hs (Zbf x5 x6 x7 x8) ((x5, (), x6, x7, ()), ((x8, ()), ())) i_ (by obtain ⟨i_0, i_1, i_2, i_3, i_4, i_5, i_6⟩ := i_; have hh : Zbf x5 x6 x7 x8 = 100000 + (x5.length + x6.toNat + x7.toNat + x8.length) := rfl; rw [hh]; first | omega | (simp only [ts] <;> omega))
  case hs =>
    intro v hv
    rcases Zw1 x5 x6 x7 x8 (v.1.1) (v.1.2.2.1) (v.1.2.2.2.1) (v.2.1.1) hv with ⟨nx5, nx6, nx7, nx8, hq, e⟩ | ⟨z0, hq, e⟩
    · exact .inl ⟨((nx5, (), nx6, nx7, ()), ((nx8, ()), ())), (by obtain ⟨hq0, hq1, hq2, hq3, hq4, hq5, hq6, hq7⟩ := hq; exact ⟨⟨hq0, hq1, hq2, hq3, hq4, hq5, hq6⟩, hq7⟩), fun R next k => e R (fun nx5 nx6 nx7 nx8 => next ((nx5, (), nx6, nx7, ()), ((nx8, ()), ()))) (fun z0 => k (z0))⟩
    · exact .inr ⟨z0, hq, fun R next k => e R (fun nx5 nx6 nx7 nx8 => next ((nx5, (), nx6, nx7, ()), ((nx8, ()), ()))) (fun z0 => k (z0))⟩
  obtain ⟨z0, hq, e⟩ := h
  · exact ⟨z0, hq, fun R k0 => e R (fun r => k0 (r))⟩
theorem Z9s (a1 : Str) (h_ : autoParam ((((a1)).length % 8 = 0) ∧ (((a1)).length ≤ 1000)) sA._auto_1) : T_1 (fun R k0 => Z14 R a1 k0) (fun z0 => (((z0)).length = ((a1)).length / 8)) := by
  obtain ⟨h_0, h_1⟩ := h_
  refine T_1.of ?_
  delta Z14 Zph
  refine Tot.lett (fun v2 e_v2 => ?_)
  first | simp (disch := omega) only [ts, *] at e_v2 | skip
  refine Tot.gd ?_
  refine Tot.gd ?_
  refine Tot.lett (fun v3 e_v3 => ?_)
  have l_v3 := congrArg List.length e_v3
  first | simp (disch := omega) only [ts, *] at l_v3 | skip
  refine Tot.lett (fun v4 e_v4 => ?_)
  first | simp (disch := omega) only [ts, *] at e_v4 | skip
  refine T_1.bind (Z118 a1 v4 0 v3) (fun y13 q1 => ?_)
  replace q1 : ((y13)).length = ((a1)).length / 8 := q1
  exact Tot.ret _
theorem Zt3 : T_1 (fun R k0 => Z3k R  k0) (fun z0 => ((z0).length = 4)) := by
  refine T_1.of ?_
  delta Z3k Zpx
  refine Tot.lett (fun v1 e_v1 => ?_)
  have l_v1 := congrArg List.length e_v1
  first | simp (disch := omega) only [ts, *] at l_v1 | skip
  refine Tot.lett (fun v2 e_v2 => ?_)
  have l_v2 := congrArg List.length e_v2
  first | simp (disch := omega) only [ts, *] at l_v2 | skip
  exact Tot.ret _
theorem Zo1 (x4 x5 : Int) (x6 x7 x8 : List Int) (i_ : ((x6).length = 4) ∧ ((x7).length = 4) ∧ ((x8).length = 4) ∧ (0 ≤ (x5)) ∧ ((x5) ≤ 4) ∧ (0 ≤ (x4)) ∧ ((x4) ≤ 1)) : Zwk (fun R next k0 => Z9x Z8v R x4 x5 x6 x7 x8 next k0) (fun nx4 nx5 nx6 nx7 nx8 => ((nx6).length = 4) ∧ ((nx7).length = 4) ∧ ((nx8).length = 4) ∧ (0 ≤ (nx5)) ∧ ((nx5) ≤ 4) ∧ (0 ≤ (nx4)) ∧ ((nx4) ≤ 1) ∧ ((4 - (nx5)).toNat < (4 - (x5)).toNat)) (fun z0 z1 z2 => ((z1).length = 4) ∧ ((z2).length = 4)) := by
  obtain ⟨i_0, i_1, i_2, i_3, i_4, i_5, i_6⟩ := i_
  refine Zwk.of ?_
  delta Z9x
  refine Tot.br (fun h1 => ?_) (fun h1 => ?_)
  · first | simp (disch := omega) only [ts, *] at h1 | skip
    all_goals
      refine Tot.gd ?_
      refine Tot.gd ?_
      refine T_2.bind (Z154 (x6.getD x5.toNat 0) (x7.getD x5.toNat 0) x4) (fun r9 r10 q2 => ?_)
      obtain ⟨q2_0, q2_1, q2_2, q2_3⟩ := q2
      refine Tot.gd ?_
      exact Tot.ret _
  · first | simp (disch := omega) only [ts, *] at h1 | skip
    all_goals
      exact Tot.ret _
theorem Zt6 (x4 x5 : Int) (x6 x7 x8 : List Int) (i_ : autoParam (((x6).length = 4) ∧ ((x7).length = 4) ∧ ((x8).length = 4) ∧ (0 ≤ (x5)) ∧ ((x5) ≤ 4) ∧ (0 ≤ (x4)) ∧ ((x4) ≤ 1)) sA._auto_1) : T_3 (fun R k0 => Zlo Z8v R x4 x5 x6 x7 x8 k0) (fun z0 z1 z2 => ((z1).length = 4) ∧ ((z2).length = 4)) := by
  have h := loopS (T := Zci) (E := Zcb) (step := (Z6m Z8v).step) (A := (Int × (List Int) × (List Int))) (fun R k => (fun r => k (r), ())) (fun v => ((v.2.1.1).length = 4) ∧ ((v.2.2.1.1).length = 4) ∧ ((v.2.2.2.1.1).length = 4) ∧ (0 ≤ (v.1.2.2.2.2.1)) ∧ ((v.1.2.2.2.2.1) ≤ 4) ∧ (0 ≤ (v.1.2.2.2.1)) ∧ ((v.1.2.2.2.1) ≤ 1)) (fun v => (4 - (v.1.2.2.2.2.1)).toNat) (fun p => ((p.2.1).length = 4) ∧ ((p.2.2).length = 4)) ?hs (Z6q x4 x5 x6 x7 x8) (((), (), (), x4, x5, ()), ((x6, ()), (x7, ()), (x8, ()), ())) i_ (by obtain ⟨i_0, i_1, i_2, i_3, i_4, i_5, i_6⟩ := i_; have hh : Z6q x4 x5 x6 x7 x8 = 100000 + (x4.toNat + x5.toNat + x6.length + x7.length + x8.length) := rfl; rw [hh]; first | omega | (simp only [ts] <;> omega))
  case hs =>
    intro v hv
    rcases Zo1 (v.1.2.2.2.1) (v.1.2.2.2.2.1) (v.2.1.1) (v.2.2.1.1) (v.2.2.2.1.1) hv with ⟨nx4, nx5, nx6, nx7, nx8, hq, e⟩ | ⟨z0, z1, z2, hq, e⟩
    · exact .inl ⟨(((), (), (), nx4, nx5, ()), ((nx6, ()), (nx7, ()), (nx8, ()), ())), (by obtain ⟨hq0, hq1, hq2, hq3, hq4, hq5, hq6, hq7⟩ := hq; exact ⟨⟨hq0, hq1, hq2, hq3, hq4, hq5, hq6⟩, hq7⟩), fun R next k => e R (fun nx4 nx5 nx6 nx7 nx8 => next (((), (), (), nx4, nx5, ()), ((nx6, ()), (nx7, ()), (nx8, ()), ()))) (fun z0 z1 z2 => k ((z0, z1, z2)))⟩
    · exact .inr ⟨(z0, z1, z2), hq, fun R next k => e R (fun nx4 nx5 nx6 nx7 nx8 => next (((), (), (), nx4, nx5, ()), ((nx6, ()), (nx7, ()), (nx8, ()), ()))) (fun z0 z1 z2 => k ((z0, z1, z2)))⟩
  obtain ⟨⟨z0, z1, z2⟩, hq, e⟩ := h
  · exact ⟨z0, z1, z2, hq, fun R k0 => e R (fun r => k0 (r.1) (r.2.1) (r.2.2))⟩
theorem Zik (a1 a2 : List Int) (h_ : autoParam (((a1).length = 4) ∧ ((a2).length = 4)) sA._auto_1) : T_2 (fun R k0 => Z1k R a1 a2 k0) (fun z0 z1 => ((z0).length = 4)) := by
  obtain ⟨h_0, h_1⟩ := h_
  refine T_2.of ?_
  delta Z1k Zf9
  refine Tot.lett (fun v3 e_v3 => ?_)
  have l_v3 := congrArg List.length e_v3
  first | simp (disch := omega) only [ts, *] at l_v3 | skip
  refine T_3.bind (Zt6 0 0 a1 a2 v3) (fun y11 y12 y13 q1 => ?_)
  obtain ⟨q1_0, q1_1⟩ := q1
  exact Tot.ret _
theorem Z131 (a1 : Str) : T_1 (fun R k0 => Zg0 R a1 k0) (fun z0 => True) := by
  refine T_1.of ?_
  delta Zg0 Zq3
  refine Tot.lett (fun v2 e_v2 => ?_)
  first | simp (disch := omega) only [ts, *] at e_v2 | skip
  refine Tot.br (fun h1 => ?_) (fun h1 => ?_)
  · first | simp (disch := omega) only [ts, *] at h1 | skip
    all_goals
      exact Tot.ret _
  · first | simp (disch := omega) only [ts, *] at h1 | skip
    all_goals
      refine Tot.lett (fun v3 e_v3 => ?_)
      have l_v3 := congrArg List.length e_v3
      first | simp (disch := omega) only [ts, *] at l_v3 | skip
      refine T_1.bind (Z9s a1) (fun r4 q2 => ?_)
      replace q2 : ((r4)).length = ((a1)).length / 8 := q2
      refine Tot.gd ?_
      refine Tot.gd ?_
      refine T_1.bind (Zt3) (fun r5 q3 => ?_)
      replace q3 : (r5).length = 4 := q3
      refine T_2.bind (Zik ((r4.drop 0).take 4) r5) (fun r6 r7 q4 => ?_)
      replace q4 : (r6).length = 4 := q4
      exact Tot.ret _
theorem Zo5 (x4 x5 : Int) (x6 x7 : List Int) (i_ : ((x6).length = 4) ∧ ((x7).length = 4) ∧ (0 ≤ (x5)) ∧ ((x5) ≤ 4)) : Zqa (fun R next k0 => Za1 Z3k Z1k R x4 x5 x6 x7 next k0) (fun nx4 nx5 nx6 nx7 => ((nx6).length = 4) ∧ ((nx7).length = 4) ∧ (0 ≤ (nx5)) ∧ ((nx5) ≤ 4) ∧ ((4 - (nx5)).toNat < (4 - (x5)).toNat)) (fun z0 z1 => ((z0).length = 4) ∧ ((z1).length = 4)) := by
  obtain ⟨i_0, i_1, i_2, i_3⟩ := i_
  refine Zqa.of ?_
  delta Za1
  refine Tot.br (fun h1 => ?_) (fun h1 => ?_)
  · first | simp (disch := omega) only [ts, *] at h1 | skip
    all_goals
      refine Tot.gd ?_
      refine Tot.lett (fun v8 e_v8 => ?_)
      first | simp (disch := omega) only [ts, *] at e_v8 | skip
      refine Tot.gd ?_
      refine Tot.lett (fun v9 e_v9 => ?_)
      first | simp (disch := omega) only [ts, *] at e_v9 | skip
      refine Tot.gd ?_
      refine Tot.lett (fun v10 e_v10 => ?_)
      have l_v10 := congrArg List.length e_v10
      first | simp (disch := omega) only [ts, *] at l_v10 | skip
      exact Tot.ret _
  · first | simp (disch := omega) only [ts, *] at h1 | skip
    all_goals
      exact Tot.ret _
theorem Ztd (x4 x5 : Int) (x6 x7 : List Int) (i_ : autoParam (((x6).length = 4) ∧ ((x7).length = 4) ∧ (0 ≤ (x5)) ∧ ((x5) ≤ 4)) sA._auto_1) : T_2 (fun R k0 => Zlk Z3k Z1k R x4 x5 x6 x7 k0) (fun z0 z1 => ((z0).length = 4) ∧ ((z1).length = 4)) := by
  have h := loopS (T := Zcx) (E := Zco) (step := (Z6e Z3k Z1k).step) (A := ((List Int) × (List Int))) (fun R k => (fun r => k (r), ())) (fun v => ((v.2.1.1).length = 4) ∧ ((v.2.2.1.1).length = 4) ∧ (0 ≤ (v.1.2.2.2.1)) ∧ ((v.1.2.2.2.1) ≤ 4)) (fun v => (4 - (v.1.2.2.2.1)).toNat) (fun p => ((p.1).length = 4) ∧ ((p.2).length = 4)) ?hs (Z6s x4 x5 x6 x7) ((x4, (), (), x5, ()), ((x6, ()), (x7, ()), ())) i_ (by obtain ⟨i_0, i_1, i_2, i_3⟩ := i_; have hh : Z6s x4 x5 x6 x7 = 100000 + (x4.toNat + x5.toNat + x6.length + x7.length) := rfl; rw [hh]; first | omega | (simp only [ts] <;> omega))
  case hs =>
    intro v hv
    rcases Zo5 (v.1.1) (v.1.2.2.2.1) (v.2.1.1) (v.2.2.1.1) hv with ⟨nx4, nx5, nx6, nx7, hq, e⟩ | ⟨z0, z1, hq, e⟩
    · exact .inl ⟨((nx4, (), (), nx5, ()), ((nx6, ()), (nx7, ()), ())), (by obtain ⟨hq0, hq1, hq2, hq3, hq4⟩ := hq; exact ⟨⟨hq0, hq1, hq2, hq3⟩, hq4⟩), fun R next k => e R (fun nx4 nx5 nx6 nx7 => next ((nx4, (), (), nx5, ()), ((nx6, ()), (nx7, ()), ()))) (fun z0 z1 => k ((z0, z1)))⟩
    · exact .inr ⟨(z0, z1), hq, fun R next k => e R (fun nx4 nx5 nx6 nx7 => next ((nx4, (), (), nx5, ()), ((nx6, ()), (nx7, ()), ()))) (fun z0 z1 => k ((z0, z1)))⟩
  obtain ⟨⟨z0, z1⟩, hq, e⟩ := h
  · exact ⟨z0, z1, hq, fun R k0 => e R (fun r => k0 (r.1) (r.2))⟩
theorem Zw7 (a1 : List Int) (a2 : Int) (h_ : autoParam (((a1).length = 4)) sA._auto_1) : T_1 (fun R k0 => Z19 R a1 a2 k0) (fun z0 => ((z0).length = 4)) := by
  refine T_1.of ?_
  delta Z19 Zf1
  refine Tot.lett (fun v3 e_v3 => ?_)
  have l_v3 := congrArg List.length e_v3
  first | simp (disch := omega) only [ts, *] at l_v3 | skip
  refine T_2.bind (Ztd a2 0 a1 v3) (fun y11 y12 q1 => ?_)
  obtain ⟨q1_0, q1_1⟩ := q1
  refine Tot.lett (fun v13 e_v13 => ?_)
  have l_v13 := congrArg List.length e_v13
  first | simp (disch := omega) only [ts, *] at l_v13 | skip
  refine T_1.bind (Zt3) (fun r14 q2 => ?_)
  replace q2 : (r14).length = 4 := q2
  refine T_2.bind (Zik y11 r14) (fun r15 r16 q3 => ?_)
  replace q3 : (r15).length = 4 := q3
  refine Tot.br (fun h4 => ?_) (fun h4 => ?_)
  · first | simp (disch := omega) only [ts, *] at h4 | skip
    all_goals
      exact Tot.ret _
  · first | simp (disch := omega) only [ts, *] at h4 | skip
    all_goals
      exact Tot.ret _
theorem Zsa (gx9 gx10 : Int) (gx11 gx12 gx13 : List Int) (x9 x10 : Int) (x11 x12 x13 : List Int) (i_ : ((x12).length = 4) ∧ ((x13).length = 4) ∧ (-1 ≤ (x10)) ∧ (0 ≤ (x9)) ∧ ((x9) < (((x11)).length : Int)) ∧ ((x10) ≤ 63) ∧ ((x9) = (gx9)) ∧ (((x11)).length = ((gx11)).length)) : Z176 (fun R next k0 => Zcg Z19 R x9 x10 x11 x12 x13 next k0) (fun nx9 nx10 nx11 nx12 nx13 => ((nx12).length = 4) ∧ ((nx13).length = 4) ∧ (-1 ≤ (nx10)) ∧ (0 ≤ (nx9)) ∧ ((nx9) < (((nx11)).length : Int)) ∧ ((nx10) ≤ 63) ∧ ((nx9) = (gx9)) ∧ (((nx11)).length = ((gx11)).length) ∧ (((nx10) + 1).toNat < ((x10) + 1).toNat)) (fun z0 z1 z2 z3 => ((z2).length = 4) ∧ ((z3).length = 4) ∧ ((z0) = (gx9)) ∧ (((z1)).length = ((gx11)).length)) := by
  obtain ⟨i_0, i_1, i_2, i_3, i_4, i_5, i_6, i_7⟩ := i_
  refine Z176.of ?_
  delta Zcg
  refine Tot.br (fun h1 => ?_) (fun h1 => ?_)
  · first | simp (disch := omega) only [ts, *] at h1 | skip
    all_goals
      refine Tot.gd ?_
      refine Tot.gd ?_
      refine Tot.lett (fun v14 e_v14 => ?_)
      first | simp (disch := omega) only [ts, *] at e_v14 | skip
      refine T_1.bind (Zw7 x13 (andI .u64 v14 1)) (fun r15 q2 => ?_)
      replace q2 : (r15).length = 4 := q2
      exact Tot.ret _
  · first | simp (disch := omega) only [ts, *] at h1 | skip
    all_goals
      exact Tot.ret _
theorem Zxn (x9 x10 : Int) (x11 x12 x13 : List Int) (i_ : autoParam (((x12).length = 4) ∧ ((x13).length = 4) ∧ (-1 ≤ (x10)) ∧ (0 ≤ (x9)) ∧ ((x9) < (((x11)).length : Int)) ∧ ((x10) ≤ 63) ∧ ((x9) = (x9)) ∧ (((x11)).length = ((x11)).length)) sA._auto_1) : T_4 (fun R k0 => Zqo Z19 R x9 x10 x11 x12 x13 k0) (fun z0 z1 z2 z3 => ((z2).length = 4) ∧ ((z3).length = 4) ∧ ((z0) = (x9)) ∧ (((z1)).length = ((x11)).length)) := by
  have h := loopS (T := Zgn) (E := Zgj) (step := (Z90 Z19).step) (A := (Int × (List Int) × (List Int) × (List Int))) (fun R k => (fun r => k (r), ())) (fun v => ((v.2.2.1.1).length = 4) ∧ ((v.2.2.2.1.1).length = 4) ∧ (-1 ≤ (v.1.2.2.2.2.1)) ∧ (0 ≤ (v.1.2.2.2.1)) ∧ ((v.1.2.2.2.1) < (((v.2.1.1)).length : Int)) ∧ ((v.1.2.2.2.2.1) ≤ 63) ∧ ((v.1.2.2.2.1) = (x9)) ∧ (((v.2.1.1)).length = ((x11)).length)) (fun v => ((v.1.2.2.2.2.1) + 1).toNat) (fun p => ((p.2.2.1).length = 4) ∧ ((p.2.2.2).length = 4) ∧ ((p.1) = (x9)) ∧ (((p.2.1)).length = ((x11)).length)) ?hs (Z8l x9 x10 x11 x12 x13) (((), (), (), x9, x10, ()), ((x11, ()), (x12, ()), (x13, ()), ())) i_ (by obtain ⟨i_0, i_1, i_2, i_3, i_4, i_5, i_6, i_7⟩ := i_; have hh : Z8l x9 x10 x11 x12 x13 = 100000 + (x9.toNat + x10.toNat + x11.length + x12.length + x13.length) := rfl; rw [hh]; first | omega | (simp only [ts] <;> omega))
  case hs =>
    intro v hv
    rcases Zsa x9 x10 x11 x12 x13 (v.1.2.2.2.1) (v.1.2.2.2.2.1) (v.2.1.1) (v.2.2.1.1) (v.2.2.2.1.1) hv with ⟨nx9, nx10, nx11, nx12, nx13, hq, e⟩ | ⟨z0, z1, z2, z3, hq, e⟩
    · exact .inl ⟨(((), (), (), nx9, nx10, ()), ((nx11, ()), (nx12, ()), (nx13, ()), ())), (by obtain ⟨hq0, hq1, hq2, hq3, hq4, hq5, hq6, hq7, hq8⟩ := hq; exact ⟨⟨hq0, hq1, hq2, hq3, hq4, hq5, hq6, hq7⟩, hq8⟩), fun R next k => e R (fun nx9 nx10 nx11 nx12 nx13 => next (((), (), (), nx9, nx10, ()), ((nx11, ()), (nx12, ()), (nx13, ()), ()))) (fun z0 z1 z2 z3 => k ((z0, z1, z2, z3)))⟩
    · exact .inr ⟨(z0, z1, z2, z3), hq, fun R next k => e R (fun nx9 nx10 nx11 nx12 nx13 => next (((), (), (), nx9, nx10, ()), ((nx11, ()), (nx12, ()), (nx13, ()), ()))) (fun z0 z1 z2 z3 => k ((z0, z1, z2, z3)))⟩
  obtain ⟨⟨z0, z1, z2, z3⟩, hq, e⟩ := h
  · exact ⟨z0, z1, z2, z3, hq, fun R k0 => e R (fun r => k0 (r.1) (r.2.1) (r.2.2.1) (r.2.2.2))⟩
theorem Zrz (x5 : Int) (x6 x7 x8 : List Int) (i_ : ((x7).length = 4) ∧ ((x8).length = 4) ∧ (-1 ≤ (x5)) ∧ ((x5) < (((x6)).length : Int)) ∧ (((x6)).length ≤ 1000)) : Zwz (fun R next k0 => Zca Z19 R x5 x6 x7 x8 next k0) (fun nx5 nx6 nx7 nx8 => ((nx7).length = 4) ∧ ((nx8).length = 4) ∧ (-1 ≤ (nx5)) ∧ ((nx5) < (((nx6)).length : Int)) ∧ (((nx6)).length ≤ 1000) ∧ (((nx5) + 1).toNat < ((x5) + 1).toNat)) (fun z0 z1 z2 => ((z1).length = 4) ∧ ((z2).length = 4)) := by
  obtain ⟨i_0, i_1, i_2, i_3, i_4⟩ := i_
  refine Zwz.of ?_
  delta Zca
  refine Tot.br (fun h1 => ?_) (fun h1 => ?_)
  · first | simp (disch := omega) only [ts, *] at h1 | skip
    all_goals
      refine T_4.bind (Zxn x5 63 x6 x7 x8) (fun y16 y17 y18 y19 q2 => ?_)
      obtain ⟨q2_0, q2_1, q2_2, q2_3⟩ := q2
      exact Tot.ret _
  · first | simp (disch := omega) only [ts, *] at h1 | skip
    all_goals
      exact Tot.ret _
theorem Zxh (x5 : Int) (x6 x7 x8 : List Int) (i_ : autoParam (((x7).length = 4) ∧ ((x8).length = 4) ∧ (-1 ≤ (x5)) ∧ ((x5) < (((x6)).length : Int)) ∧ (((x6)).length ≤ 1000)) sA._auto_1) : T_3 (fun R k0 => Zr4 Z19 R x5 x6 x7 x8 k0) (fun z0 z1 z2 => ((z1).length = 4) ∧ ((z2).length = 4)) := by
  have h := loopS (T := Zgk) (E := Zgg) (step := (Z8y Z19).step) (A := ((List Int) × (List Int) × (List Int))) (fun R k => (fun r => k (r), ())) (fun v => ((v.2.2.1.1).length = 4) ∧ ((v.2.2.2.1.1).length = 4) ∧ (-1 ≤ (v.1.2.2.2.1)) ∧ ((v.1.2.2.2.1) < (((v.2.1.1)).length : Int)) ∧ (((v.2.1.1)).length ≤ 1000)) (fun v => ((v.1.2.2.2.1) + 1).toNat) (fun p => ((p.2.1).length = 4) ∧ ((p.2.2).length = 4)) ?hs (Z8j x5 x6 x7 x8) (((), (), (), x5, ()), ((x6, ()), (x7, ()), (x8, ()), ())) i_ (by obtain ⟨i_0, i_1, i_2, i_3, i_4⟩ := i_; have hh : Z8j x5 x6 x7 x8 = 100000 + (x5.toNat + x6.length + x7.length + x8.length) := rfl; rw [hh]; first | omega | (simp only [ts] <;> omega))
  case hs =>
    intro v hv
    rcases Zrz (v.1.2.2.2.1) (v.2.1.1) (v.2.2.1.1) (v.2.2.2.1.1) hv with ⟨nx5, nx6, nx7, nx8, hq, e⟩ | ⟨z0, z1, z2, hq, e⟩
    · exact .inl ⟨(((), (), (), nx5, ()), ((nx6, ()), (nx7, ()), (nx8, ()), ())), (by obtain ⟨hq0, hq1, hq2, hq3, hq4, hq5⟩ := hq; exact ⟨⟨hq0, hq1, hq2, hq3, hq4⟩, hq5⟩), fun R next k => e R (fun nx5 nx6 nx7 nx8 => next (((), (), (), nx5, ()), ((nx6, ()), (nx7, ()), (nx8, ()), ()))) (fun z0 z1 z2 => k ((z0, z1, z2)))⟩
    · exact .inr ⟨(z0, z1, z2), hq, fun R next k => e R (fun nx5 nx6 nx7 nx8 => next (((), (), (), nx5, ()), ((nx6, ()), (nx7, ()), (nx8, ()), ()))) (fun z0 z1 z2 => k ((z0, z1, z2)))⟩
  obtain ⟨⟨z0, z1, z2⟩, hq, e⟩ := h
  · exact ⟨z0, z1, z2, hq, fun R k0 => e R (fun r => k0 (r.1) (r.2.1) (r.2.2))⟩
theorem Zml (a1 : List Int) (h_ : autoParam ((((a1)).length ≤ 1000)) sA._auto_1) : T_2 (fun R k0 => Zv R a1 k0) (fun z0 z1 => ((z0).length = 4)) := by
  refine T_2.of ?_
  delta Zv Zjm
  refine Tot.lett (fun v2 e_v2 => ?_)
  have l_v2 := congrArg List.length e_v2
  first | simp (disch := omega) only [ts, *] at l_v2 | skip
  refine Tot.lett (fun v3 e_v3 => ?_)
  have l_v3 := congrArg List.length e_v3
  first | simp (disch := omega) only [ts, *] at l_v3 | skip
  refine Tot.lett (fun v4 e_v4 => ?_)
  first | simp (disch := omega) only [ts, *] at e_v4 | skip
  refine T_3.bind (Zxh (subI .i64 v4 1) a1 v2 v3) (fun y20 y21 y22 q1 => ?_)
  obtain ⟨q1_0, q1_1⟩ := q1
  exact Tot.ret _
theorem Zmo (x3 : Int) (x4 : List Int) (x5 : Str) (i_ : ((x4).length = 4) ∧ ((x5).length = 32) ∧ (0 ≤ (x3)) ∧ ((x3) ≤ 32)) : Zwe (fun R next k0 => Z9p R x3 x4 x5 next k0) (fun nx3 nx4 nx5 => ((nx4).length = 4) ∧ ((nx5).length = 32) ∧ (0 ≤ (nx3)) ∧ ((nx3) ≤ 32) ∧ ((32 - (nx3)).toNat < (32 - (x3)).toNat)) (fun z0 => ((z0).length = 32)) := by
  obtain ⟨i_0, i_1, i_2, i_3⟩ := i_
  refine Zwe.of ?_
  delta Z9p
  refine Tot.br (fun h1 => ?_) (fun h1 => ?_)
  · first | simp (disch := omega) only [ts, *] at h1 | skip
    all_goals
      refine Tot.gd ?_
      refine Tot.lett (fun v6 e_v6 => ?_)
      first | simp (disch := omega) only [ts, *] at e_v6 | skip
      refine Tot.gd ?_
      refine Tot.lett (fun v7 e_v7 => ?_)
      first | simp (disch := omega) only [ts, *] at e_v7 | skip
      refine Tot.gd ?_
      refine Tot.lett (fun v8 e_v8 => ?_)
      have l_v8 := congrArg List.length e_v8
      first | simp (disch := omega) only [ts, *] at l_v8 | skip
      exact Tot.ret _
  · first | simp (disch := omega) only [ts, *] at h1 | skip
    all_goals
      exact Tot.ret _
theorem Zsg (x3 : Int) (x4 : List Int) (x5 : Str) (i_ : autoParam (((x4).length = 4) ∧ ((x5).length = 32) ∧ (0 ≤ (x3)) ∧ ((x3) ≤ 32)) sA._auto_1) : T_1 (fun R k0 => Zk2 R x3 x4 x5 k0) (fun z0 => ((z0).length = 32)) := by
  have h := loopS (T := Zbp) (E := Zbi) (step := (Z5t).step) (A := (Str)) (fun R k => (fun r => k (r), ())) (fun v => ((v.2.1.1).length = 4) ∧ ((v.2.2.1.1).length = 32) ∧ (0 ≤ (v.1.2.2.1)) ∧ ((v.1.2.2.1) ≤ 32)) (fun v => (32 - (v.1.2.2.1)).toNat) (fun p => ((p).length = 32)) ?hs (Z5y x3 x4 x5) (((), (), x3, ()), ((x4, ()), (x5, ()), ())) i_ (by obtain ⟨i_0, i_1, i_2, i_3⟩ := i_; have hh : Z5y x3 x4 x5 = 100000 + (x3.toNat + x4.length + x5.length) := rfl; rw [hh]; first | omega | (simp only [ts] <;> omega))
  case hs =>
    intro v hv
    rcases Zmo (v.1.2.2.1) (v.2.1.1) (v.2.2.1.1) hv with ⟨nx3, nx4, nx5, hq, e⟩ | ⟨z0, hq, e⟩
    · exact .inl ⟨(((), (), nx3, ()), ((nx4, ()), (nx5, ()), ())), (by obtain ⟨hq0, hq1, hq2, hq3, hq4⟩ := hq; exact ⟨⟨hq0, hq1, hq2, hq3⟩, hq4⟩), fun R next k => e R (fun nx3 nx4 nx5 => next (((), (), nx3, ()), ((nx4, ()), (nx5, ()), ()))) (fun z0 => k (z0))⟩
    · exact .inr ⟨z0, hq, fun R next k => e R (fun nx3 nx4 nx5 => next (((), (), nx3, ()), ((nx4, ()), (nx5, ()), ()))) (fun z0 => k (z0))⟩
  obtain ⟨z0, hq, e⟩ := h
  · exact ⟨z0, hq, fun R k0 => e R (fun r => k0 (r))⟩
theorem Zhq (a1 : List Int) (h_ : autoParam (((a1).length = 4)) sA._auto_1) : T_1 (fun R k0 => Zh R a1 k0) (fun z0 => (((z0)).length = 32)) := by
  refine T_1.of ?_
  delta Zh Zem
  refine Tot.lett (fun v2 e_v2 => ?_)
  have l_v2 := congrArg List.length e_v2
  first | simp (disch := omega) only [ts, *] at l_v2 | skip
  refine T_1.bind (Zsg 0 a1 v2) (fun y9 q1 => ?_)
  replace q1 : (y9).length = 32 := q1
  exact Tot.ret _
theorem Z14a (a1 : Str) (h_ : autoParam ((((a1)).length = 64)) sA._auto_1) : T_2 (fun R k0 => Z5r R a1 k0) (fun z0 z1 => (((z0)).length = 32)) := by
  refine T_2.of ?_
  delta Z5r Zrq
  refine Tot.lett (fun v2 e_v2 => ?_)
  first | simp (disch := omega) only [ts, *] at e_v2 | skip
  refine Tot.br (fun h1 => ?_) (fun h1 => ?_)
  · first | simp (disch := omega) only [ts, *] at h1 | skip
    all_goals
      exact Tot.ret _
  · first | simp (disch := omega) only [ts, *] at h1 | skip
    all_goals
      refine T_1.bind (Z9s a1) (fun r3 q2 => ?_)
      replace q2 : ((r3)).length = ((a1)).length / 8 := q2
      refine T_2.bind (Zml r3) (fun r4 r5 q3 => ?_)
      replace q3 : (r4).length = 4 := q3
      refine T_1.bind (Zhq r4) (fun r6 q4 => ?_)
      replace q4 : ((r6)).length = 32 := q4
      exact Tot.ret _
theorem Zuq (gx17 : Str) (gx18 gx19 gx20 gx21 gx22 gx23 gx24 : Int) (gx25 gx26 gx27 : List Int) (x17 : Str) (x18 x19 x20 x21 x22 x23 x24 : Int) (x25 x26 x27 : List Int) (i_ : (0 ≤ (x18)) ∧ ((x18) < 4) ∧ ((x23) = 4) ∧ (((x27)).length = 4) ∧ (((x25)).length = 8) ∧ (0 ≤ (x24)) ∧ ((x24) ≤ 4) ∧ ((x17) = (gx17)) ∧ ((x21) = (gx21)) ∧ ((x22) = (gx22)) ∧ ((x26) = (gx26)) ∧ ((x18) = (gx18))) : Z14x (fun R next k0 => Zfj Z14 Z1i Zg Zv Zh R x17 x18 x19 x20 x21 x22 x23 x24 x25 x26 x27 next k0) (fun nx17 nx18 nx19 nx20 nx21 nx22 nx23 nx24 nx25 nx26 nx27 => (0 ≤ (nx18)) ∧ ((nx18) < 4) ∧ ((nx23) = 4) ∧ (((nx27)).length = 4) ∧ (((nx25)).length = 8) ∧ (0 ≤ (nx24)) ∧ ((nx24) ≤ 4) ∧ ((nx17) = (gx17)) ∧ ((nx21) = (gx21)) ∧ ((nx22) = (gx22)) ∧ ((nx26) = (gx26)) ∧ ((nx18) = (gx18)) ∧ ((4 - (nx24)).toNat < (4 - (x24)).toNat)) (fun z0 z1 z2 z3 z4 z5 z6 => ((z0) = (gx17)) ∧ ((z1) = (gx18)) ∧ ((z3) = (gx21)) ∧ ((z4) = (gx22)) ∧ (((z5)).length = 8) ∧ ((z6) = (gx26))) := by
  obtain ⟨i_0, i_1, i_2, i_3, i_4, i_5, i_6, i_7, i_8, i_9, i_10, i_11⟩ := i_
  refine Z14x.of ?_
  delta Zfj
  refine Tot.br (fun h1 => ?_) (fun h1 => ?_)
  · first | simp (disch := omega) only [ts, *] at h1 | skip
    all_goals
      refine Tot.gd ?_
      refine T_2.bind (Zwn x19 (x27.getD x24.toNat 0)) (fun r28 r29 q2 => ?_)
      refine T_2.bind (Zc5 r29 x20 0) (fun r30 r31 q3 => ?_)
      obtain ⟨q3_0, q3_1, q3_2, q3_3⟩ := q3
      refine Tot.gd ?_
      refine Tot.lett (fun v32 e_v32 => ?_)
      first | simp (disch := omega) only [ts, *] at e_v32 | skip
      refine T_2.bind (Zc5 v32 r30 0) (fun r33 r34 q4 => ?_)
      obtain ⟨q4_0, q4_1, q4_2, q4_3⟩ := q4
      refine Tot.gd ?_
      refine Tot.lett (fun v35 e_v35 => ?_)
      have l_v35 := congrArg List.length e_v35
      first | simp (disch := omega) only [ts, *] at l_v35 | skip
      refine Tot.lett (fun v36 e_v36 => ?_)
      first | simp (disch := omega) only [ts, *] at e_v36 | skip
      exact Tot.ret _
  · first | simp (disch := omega) only [ts, *] at h1 | skip
    all_goals
      exact Tot.ret _
theorem Z102 (x17 : Str) (x18 x19 x20 x21 x22 x23 x24 : Int) (x25 x26 x27 : List Int) (i_ : autoParam ((0 ≤ (x18)) ∧ ((x18) < 4) ∧ ((x23) = 4) ∧ (((x27)).length = 4) ∧ (((x25)).length = 8) ∧ (0 ≤ (x24)) ∧ ((x24) ≤ 4) ∧ ((x17) = (x17)) ∧ ((x21) = (x21)) ∧ ((x22) = (x22)) ∧ ((x26) = (x26)) ∧ ((x18) = (x18))) sA._auto_1) : T_7 (fun R k0 => Zub Z14 Z1i Zg Zv Zh R x17 x18 x19 x20 x21 x22 x23 x24 x25 x26 x27 k0) (fun z0 z1 z2 z3 z4 z5 z6 => ((z0) = (x17)) ∧ ((z1) = (x18)) ∧ ((z3) = (x21)) ∧ ((z4) = (x22)) ∧ (((z5)).length = 8) ∧ ((z6) = (x26))) := by
  have h := loopS (T := Zip) (E := Zit) (step := (Zao Z14 Z1i Zg Zv Zh).step) (A := (Str × Int × Int × Int × Int × (List Int) × (List Int))) (fun R k => (fun r => k (r), ())) (fun v => (0 ≤ (v.1.2.2.1)) ∧ ((v.1.2.2.1) < 4) ∧ ((v.1.2.2.2.2.2.2.2.2.2.1) = 4) ∧ (((v.2.2.2.1.1)).length = 4) ∧ (((v.2.1.1)).length = 8) ∧ (0 ≤ (v.1.2.2.2.2.2.2.2.2.2.2.1)) ∧ ((v.1.2.2.2.2.2.2.2.2.2.2.1) ≤ 4) ∧ ((v.1.1) = (x17)) ∧ ((v.1.2.2.2.2.2.2.1) = (x21)) ∧ ((v.1.2.2.2.2.2.2.2.1) = (x22)) ∧ ((v.2.2.1.1) = (x26)) ∧ ((v.1.2.2.1) = (x18))) (fun v => (4 - (v.1.2.2.2.2.2.2.2.2.2.2.1)).toNat) (fun p => ((p.1) = (x17)) ∧ ((p.2.1) = (x18)) ∧ ((p.2.2.2.1) = (x21)) ∧ ((p.2.2.2.2.1) = (x22)) ∧ (((p.2.2.2.2.2.1)).length = 8) ∧ ((p.2.2.2.2.2.2) = (x26))) ?hs (Z9v x17 x18 x19 x20 x21 x22 x23 x24 x25 x26 x27) ((x17, (), x18, x19, x20, (), x21, x22, (), x23, x24, ()), ((x25, ()), (x26, ()), (x27, ()), ())) i_ (by obtain ⟨i_0, i_1, i_2, i_3, i_4, i_5, i_6, i_7, i_8, i_9, i_10, i_11⟩ := i_; have hh : Z9v x17 x18 x19 x20 x21 x22 x23 x24 x25 x26 x27 = 100000 + (x17.length + x18.toNat + x19.toNat + x20.toNat + x21.toNat + x22.toNat + x23.toNat + x24.toNat + x25.length + x26.length + x27.length) := rfl; rw [hh]; first | omega | (simp only [ts] <;> omega))
  case hs =>
    intro v hv
    rcases Zuq x17 x18 x19 x20 x21 x22 x23 x24 x25 x26 x27 (v.1.1) (v.1.2.2.1) (v.1.2.2.2.1) (v.1.2.2.2.2.1) (v.1.2.2.2.2.2.2.1) (v.1.2.2.2.2.2.2.2.1) (v.1.2.2.2.2.2.2.2.2.2.1) (v.1.2.2.2.2.2.2.2.2.2.2.1) (v.2.1.1) (v.2.2.1.1) (v.2.2.2.1.1) hv with ⟨nx17, nx18, nx19, nx20, nx21, nx22, nx23, nx24, nx25, nx26, nx27, hq, e⟩ | ⟨z0, z1, z2, z3, z4, z5, z6, hq, e⟩
    · exact .inl ⟨((nx17, (), nx18, nx19, nx20, (), nx21, nx22, (), nx23, nx24, ()), ((nx25, ()), (nx26, ()), (nx27, ()), ())), (by obtain ⟨hq0, hq1, hq2, hq3, hq4, hq5, hq6, hq7, hq8, hq9, hq10, hq11, hq12⟩ := hq; exact ⟨⟨hq0, hq1, hq2, hq3, hq4, hq5, hq6, hq7, hq8, hq9, hq10, hq11⟩, hq12⟩), fun R next k => e R (fun nx17 nx18 nx19 nx20 nx21 nx22 nx23 nx24 nx25 nx26 nx27 => next ((nx17, (), nx18, nx19, nx20, (), nx21, nx22, (), nx23, nx24, ()), ((nx25, ()), (nx26, ()), (nx27, ()), ()))) (fun z0 z1 z2 z3 z4 z5 z6 => k ((z0, z1, z2, z3, z4, z5, z6)))⟩
    · exact .inr ⟨(z0, z1, z2, z3, z4, z5, z6), hq, fun R next k => e R (fun nx17 nx18 nx19 nx20 nx21 nx22 nx23 nx24 nx25 nx26 nx27 => next ((nx17, (), nx18, nx19, nx20, (), nx21, nx22, (), nx23, nx24, ()), ((nx25, ()), (nx26, ()), (nx27, ()), ()))) (fun z0 z1 z2 z3 z4 z5 z6 => k ((z0, z1, z2, z3, z4, z5, z6)))⟩
  obtain ⟨⟨z0, z1, z2, z3, z4, z5, z6⟩, hq, e⟩ := h
  · exact ⟨z0, z1, z2, z3, z4, z5, z6, hq, fun R k0 => e R (fun r => k0 (r.1) (r.2.1) (r.2.2.1) (r.2.2.2.1) (r.2.2.2.2.1) (r.2.2.2.2.2.1) (r.2.2.2.2.2.2))⟩
theorem Zv7 (gx44 : Str) (gx45 gx46 gx47 gx48 : Int) (gx49 gx50 : List Int) (x44 : Str) (x45 x46 x47 x48 : Int) (x49 x50 : List Int) (i_ : (((x49)).length = 8) ∧ (0 ≤ (x46)) ∧ ((x46) ≤ 8) ∧ ((x44) = (gx44)) ∧ ((x47) = (gx47)) ∧ ((x48) = (gx48)) ∧ ((x50) = (gx50))) : Z12q (fun R next k0 => Zf7 Z14 Z1i Zg Zv Zh R x44 x45 x46 x47 x48 x49 x50 next k0) (fun nx44 nx45 nx46 nx47 nx48 nx49 nx50 => (((nx49)).length = 8) ∧ (0 ≤ (nx46)) ∧ ((nx46) ≤ 8) ∧ ((nx44) = (gx44)) ∧ ((nx47) = (gx47)) ∧ ((nx48) = (gx48)) ∧ ((nx50) = (gx50)) ∧ ((8 - (nx46)).toNat < (8 - (x46)).toNat)) (fun z0 z1 z2 z3 z4 => ((z0) = (gx44)) ∧ ((z1) = (gx47)) ∧ ((z2) = (gx48)) ∧ (((z3)).length = 8) ∧ ((z4) = (gx50))) := by
  obtain ⟨i_0, i_1, i_2, i_3, i_4, i_5, i_6⟩ := i_
  refine Z12q.of ?_
  delta Zf7
  refine Tot.lett (fun v51 e_v51 => ?_)
  first | simp (disch := omega) only [ts, *] at e_v51 | skip
  refine Tot.br (fun h1 => ?_) (fun h1 => ?_)
  · first | simp (disch := omega) only [ts, *] at h1 | skip
    all_goals
      refine Tot.gd ?_
      refine T_2.bind (Zc5 (x49.getD x46.toNat 0) x45 0) (fun r52 r53 q2 => ?_)
      obtain ⟨q2_0, q2_1, q2_2, q2_3⟩ := q2
      refine Tot.gd ?_
      exact Tot.ret _
  · first | simp (disch := omega) only [ts, *] at h1 | skip
    all_goals
      exact Tot.ret _
theorem Zzr (x44 : Str) (x45 x46 x47 x48 : Int) (x49 x50 : List Int) (i_ : autoParam ((((x49)).length = 8) ∧ (0 ≤ (x46)) ∧ ((x46) ≤ 8) ∧ ((x44) = (x44)) ∧ ((x47) = (x47)) ∧ ((x48) = (x48)) ∧ ((x50) = (x50))) sA._auto_1) : T_5 (fun R k0 => Zve Z14 Z1i Zg Zv Zh R x44 x45 x46 x47 x48 x49 x50 k0) (fun z0 z1 z2 z3 z4 => ((z0) = (x44)) ∧ ((z1) = (x47)) ∧ ((z2) = (x48)) ∧ (((z3)).length = 8) ∧ ((z4) = (x50))) := by
  have h := loopS (T := Zj4) (E := Zj9) (step := (Zaq Z14 Z1i Zg Zv Zh).step) (A := (Str × Int × Int × (List Int) × (List Int))) (fun R k => (fun r => k (r), ())) (fun v => (((v.2.1.1)).length = 8) ∧ (0 ≤ (v.1.2.2.2.1)) ∧ ((v.1.2.2.2.1) ≤ 8) ∧ ((v.1.1) = (x44)) ∧ ((v.1.2.2.2.2.2.1) = (x47)) ∧ ((v.1.2.2.2.2.2.2.1) = (x48)) ∧ ((v.2.2.1.1) = (x50))) (fun v => (8 - (v.1.2.2.2.1)).toNat) (fun p => ((p.1) = (x44)) ∧ ((p.2.1) = (x47)) ∧ ((p.2.2.1) = (x48)) ∧ (((p.2.2.2.1)).length = 8) ∧ ((p.2.2.2.2) = (x50))) ?hs (Zag x44 x45 x46 x47 x48 x49 x50) ((x44, (), x45, x46, (), x47, x48, ()), ((x49, ()), (x50, ()), ())) i_ (by obtain ⟨i_0, i_1, i_2, i_3, i_4, i_5, i_6⟩ := i_; have hh : Zag x44 x45 x46 x47 x48 x49 x50 = 100000 + (x44.length + x45.toNat + x46.toNat + x47.toNat + x48.toNat + x49.length + x50.length) := rfl; rw [hh]; first | omega | (simp only [ts] <;> omega))
  case hs =>
    intro v hv
    rcases Zv7 x44 x45 x46 x47 x48 x49 x50 (v.1.1) (v.1.2.2.1) (v.1.2.2.2.1) (v.1.2.2.2.2.2.1) (v.1.2.2.2.2.2.2.1) (v.2.1.1) (v.2.2.1.1) hv with ⟨nx44, nx45, nx46, nx47, nx48, nx49, nx50, hq, e⟩ | ⟨z0, z1, z2, z3, z4, hq, e⟩
    · exact .inl ⟨((nx44, (), nx45, nx46, (), nx47, nx48, ()), ((nx49, ()), (nx50, ()), ())), (by obtain ⟨hq0, hq1, hq2, hq3, hq4, hq5, hq6, hq7⟩ := hq; exact ⟨⟨hq0, hq1, hq2, hq3, hq4, hq5, hq6⟩, hq7⟩), fun R next k => e R (fun nx44 nx45 nx46 nx47 nx48 nx49 nx50 => next ((nx44, (), nx45, nx46, (), nx47, nx48, ()), ((nx49, ()), (nx50, ()), ()))) (fun z0 z1 z2 z3 z4 => k ((z0, z1, z2, z3, z4)))⟩
    · exact .inr ⟨(z0, z1, z2, z3, z4), hq, fun R next k => e R (fun nx44 nx45 nx46 nx47 nx48 nx49 nx50 => next ((nx44, (), nx45, nx46, (), nx47, nx48, ()), ((nx49, ()), (nx50, ()), ()))) (fun z0 z1 z2 z3 z4 => k ((z0, z1, z2, z3, z4)))⟩
  obtain ⟨⟨z0, z1, z2, z3, z4⟩, hq, e⟩ := h
  · exact ⟨z0, z1, z2, z3, z4, hq, fun R k0 => e R (fun r => k0 (r.1) (r.2.1) (r.2.2.1) (r.2.2.2.1) (r.2.2.2.2))⟩
theorem Zuj (x10 : Str) (x11 x12 : Int) (x13 x14 : List Int) (i_ : (((x10)).length = 32) ∧ ((x11) = 4) ∧ (0 ≤ (x12)) ∧ ((x12) ≤ 4) ∧ (((x13)).length = 8) ∧ (((x14)).length = 4)) : Z179 (fun R next k0 => Zf6 Z14 Z1i Zg Zv Zh R x10 x11 x12 x13 x14 next k0) (fun nx10 nx11 nx12 nx13 nx14 => (((nx10)).length = 32) ∧ ((nx11) = 4) ∧ (0 ≤ (nx12)) ∧ ((nx12) ≤ 4) ∧ (((nx13)).length = 8) ∧ (((nx14)).length = 4) ∧ ((4 - (nx12)).toNat < (4 - (x12)).toNat)) (fun z0 => (((z0)).length = 8)) := by
  obtain ⟨i_0, i_1, i_2, i_3, i_4, i_5⟩ := i_
  refine Z179.of ?_
  delta Zf6
  refine Tot.br (fun h1 => ?_) (fun h1 => ?_)
  · first | simp (disch := omega) only [ts, *] at h1 | skip
    all_goals
      refine Tot.gd ?_
      refine T_1.bind (Z9s x10) (fun r15 q2 => ?_)
      replace q2 : ((r15)).length = ((x10)).length / 8 := q2
      refine Tot.lett (fun v16 e_v16 => ?_)
      first | simp (disch := omega) only [ts, *] at e_v16 | skip
      refine T_7.bind (Z102 x10 x12 (x14.getD x12.toNat 0) 0 x11 x12 v16 0 x13 x14 r15) (fun y37 y38 y39 y40 y41 y42 y43 q3 => ?_)
      obtain ⟨q3_0, q3_1, q3_2, q3_3, q3_4, q3_5⟩ := q3
      refine T_5.bind (Zzr y37 y39 (addI .i64 y38 4) y40 y41 y42 y43) (fun y54 y55 y56 y57 y58 q4 => ?_)
      obtain ⟨q4_0, q4_1, q4_2, q4_3, q4_4⟩ := q4
      exact Tot.ret _
  · first | simp (disch := omega) only [ts, *] at h1 | skip
    all_goals
      exact Tot.ret _
theorem Z105 (x10 : Str) (x11 x12 : Int) (x13 x14 : List Int) (i_ : autoParam ((((x10)).length = 32) ∧ ((x11) = 4) ∧ (0 ≤ (x12)) ∧ ((x12) ≤ 4) ∧ (((x13)).length = 8) ∧ (((x14)).length = 4)) sA._auto_1) : T_1 (fun R k0 => Zuw Z14 Z1i Zg Zv Zh R x10 x11 x12 x13 x14 k0) (fun z0 => (((z0)).length = 8)) := by
  have h := loopS (T := Zin) (E := Ziw) (step := (Zav Z14 Z1i Zg Zv Zh).step) (A := ((List Int))) (fun R k => (fun r => k (r), ())) (fun v => (((v.1.1)).length = 32) ∧ ((v.1.2.2.2.1) = 4) ∧ (0 ≤ (v.1.2.2.2.2.1)) ∧ ((v.1.2.2.2.2.1) ≤ 4) ∧ (((v.2.1.1)).length = 8) ∧ (((v.2.2.1.1)).length = 4)) (fun v => (4 - (v.1.2.2.2.2.1)).toNat) (fun p => (((p)).length = 8)) ?hs (Zab x10 x11 x12 x13 x14) ((x10, (), (), x11, x12, ()), ((x13, ()), (x14, ()), ())) i_ (by obtain ⟨i_0, i_1, i_2, i_3, i_4, i_5⟩ := i_; have hh : Zab x10 x11 x12 x13 x14 = 100000 + (x10.length + x11.toNat + x12.toNat + x13.length + x14.length) := rfl; rw [hh]; first | omega | (simp only [ts] <;> omega))
  case hs =>
    intro v hv
    rcases Zuj (v.1.1) (v.1.2.2.2.1) (v.1.2.2.2.2.1) (v.2.1.1) (v.2.2.1.1) hv with ⟨nx10, nx11, nx12, nx13, nx14, hq, e⟩ | ⟨z0, hq, e⟩
    · exact .inl ⟨((nx10, (), (), nx11, nx12, ()), ((nx13, ()), (nx14, ()), ())), (by obtain ⟨hq0, hq1, hq2, hq3, hq4, hq5, hq6⟩ := hq; exact ⟨⟨hq0, hq1, hq2, hq3, hq4, hq5⟩, hq6⟩), fun R next k => e R (fun nx10 nx11 nx12 nx13 nx14 => next ((nx10, (), (), nx11, nx12, ()), ((nx13, ()), (nx14, ()), ()))) (fun z0 => k (z0))⟩
    · exact .inr ⟨z0, hq, fun R next k => e R (fun nx10 nx11 nx12 nx13 nx14 => next ((nx10, (), (), nx11, nx12, ()), ((nx13, ()), (nx14, ()), ()))) (fun z0 => k (z0))⟩
  obtain ⟨z0, hq, e⟩ := h
  · exact ⟨z0, hq, fun R k0 => e R (fun r => k0 (r))⟩
theorem Z11y (a1 a2 a3 : Str) (h_ : autoParam ((((a1)).length = 32) ∧ (((a2)).length = 32) ∧ (((a3)).length = 32)) sA._auto_1) : T_2 (fun R k0 => Zei R a1 a2 a3 k0) (fun z0 z1 => (((z0)).length = 32) ∧ ((z1) = 0)) := by
  obtain ⟨h_0, h_1, h_2⟩ := h_
  refine T_2.of ?_
  delta Zei Znv
  refine Tot.lett (fun v4 e_v4 => ?_)
  first | simp (disch := omega) only [ts, *] at e_v4 | skip
  refine Tot.br (fun h1 => ?_) (fun h1 => ?_)
  · first | simp (disch := omega) only [ts, *] at h1 | skip
    all_goals
      exact Tot.ret _
  · first | simp (disch := omega) only [ts, *] at h1 | skip
    all_goals
      refine Tot.lett (fun v5 e_v5 => ?_)
      first | simp (disch := omega) only [ts, *] at e_v5 | skip
      refine Tot.br (fun h2 => ?_) (fun h2 => ?_)
      · first | simp (disch := omega) only [ts, *] at h2 | skip
        all_goals
          exact Tot.ret _
      · first | simp (disch := omega) only [ts, *] at h2 | skip
        all_goals
          refine Tot.lett (fun v6 e_v6 => ?_)
          first | simp (disch := omega) only [ts, *] at e_v6 | skip
          refine Tot.br (fun h3 => ?_) (fun h3 => ?_)
          · first | simp (disch := omega) only [ts, *] at h3 | skip
            all_goals
              exact Tot.ret _
          · first | simp (disch := omega) only [ts, *] at h3 | skip
            all_goals
              refine T_1.bind (Z9s a3) (fun r7 q4 => ?_)
              replace q4 : ((r7)).length = ((a3)).length / 8 := q4
              refine Tot.gd ?_
              refine T_1.bind (Z9s a1) (fun r8 q5 => ?_)
              replace q5 : ((r8)).length = ((a1)).length / 8 := q5
              refine Tot.lett (fun v9 e_v9 => ?_)
              first | simp (disch := omega) only [ts, *] at e_v9 | skip
              refine T_1.bind (Z105 a2 v9 0 (r7 ++ [0, 0, 0, 0]) r8) (fun y59 q6 => ?_)
              replace q6 : ((y59)).length = 8 := q6
              refine T_2.bind (Zml y59) (fun r60 r61 q7 => ?_)
              replace q7 : (r60).length = 4 := q7
              refine T_1.bind (Zhq r60) (fun r62 q8 => ?_)
              replace q8 : ((r62)).length = 32 := q8
              exact Tot.ret _
theorem Z13n : T_2 (fun R k0 => Z5p R  k0) (fun z0 z1 => ((z0) = 0) ∧ ((z1) = 64)) := by
  refine T_2.of ?_
  delta Z5p Zsd
  exact Tot.ret _
theorem Zvw (a1 : Str) (a2 : Int) (a3 : Str) (h_ : autoParam ((((a1)).length ≤ 1000000) ∧ (((a3)).length ≤ 1000000)) sA._auto_1) : T_3 (fun R k0 => Z2a R a1 a2 a3 k0) (fun z0 z1 z2 => ((z1) = (a2)) ∧ (((z2)).length = ((a3)).length + ((a1)).length)) := by
  obtain ⟨h_0, h_1⟩ := h_
  refine T_3.of ?_
  delta Z2a Zf2
  refine Tot.gd ?_
  exact Tot.ret _
theorem Z122 : T_1 (fun R k0 => Z4u R  k0) (fun z0 => ((z0).length = 80)) := by
  refine T_1.of ?_
  delta Z4u Znp
  refine Tot.lett (fun v1 e_v1 => ?_)
  have l_v1 := congrArg List.length e_v1
  first | simp (disch := omega) only [ts, *] at l_v1 | skip
  exact Tot.ret _
theorem Z15c : T_1 (fun R k0 => Z8m R  k0) (fun z0 => ((z0).length = 8)) := by
  refine T_1.of ?_
  delta Z8m Zv5
  refine Tot.lett (fun v1 e_v1 => ?_)
  have l_v1 := congrArg List.length e_v1
  first | simp (disch := omega) only [ts, *] at l_v1 | skip
  refine Tot.lett (fun v2 e_v2 => ?_)
  have l_v2 := congrArg List.length e_v2
  first | simp (disch := omega) only [ts, *] at l_v2 | skip
  exact Tot.ret _
theorem Z157 : T_8 (fun R k0 => Zk7 R  k0) (fun z0 z1 z2 z3 z4 z5 z6 z7 => ((z2).length = 3) ∧ ((z3).length = 3) ∧ ((z4).length = 3) ∧ ((z5).length = 3) ∧ ((z6).length = 8) ∧ ((z7).length = 80) ∧ ((z0) = 64) ∧ ((z1) = 80) ∧ (Rot 64 (z2)) ∧ (Rot 64 (z3)) ∧ (Rot 64 (z4)) ∧ (Rot 64 (z5))) := by
  refine T_8.of ?_
  delta Zk7 Zv2
  refine T_1.bind (Z122) (fun r1 q1 => ?_)
  replace q1 : (r1).length = 80 := q1
  refine T_1.bind (Z15c) (fun r2 q2 => ?_)
  replace q2 : (r2).length = 8 := q2
  refine Tot.lett (fun v3 e_v3 => ?_)
  have l_v3 := congrArg List.length e_v3
  first | simp (disch := omega) only [ts, *] at l_v3 | skip
  refine Tot.lett (fun v4 e_v4 => ?_)
  have l_v4 := congrArg List.length e_v4
  first | simp (disch := omega) only [ts, *] at l_v4 | skip
  refine Tot.lett (fun v5 e_v5 => ?_)
  have l_v5 := congrArg List.length e_v5
  first | simp (disch := omega) only [ts, *] at l_v5 | skip
  refine Tot.lett (fun v6 e_v6 => ?_)
  have l_v6 := congrArg List.length e_v6
  first | simp (disch := omega) only [ts, *] at l_v6 | skip
  exact Tot.ret _
theorem Z74 (a1 a2 : Int) (a3 a4 a5 a6 a7 a8 : List Int) (h_ : autoParam (((a3).length = 3) ∧ ((a4).length = 3) ∧ ((a5).length = 3) ∧ ((a6).length = 3) ∧ ((a7).length = 8) ∧ ((a8).length = 80) ∧ ((a1) = 64) ∧ ((a2) = 80) ∧ (Rot 64 (a3)) ∧ (Rot 64 (a4)) ∧ (Rot 64 (a5)) ∧ (Rot 64 (a6))) sA._auto_1) : T_9 (fun R k0 => Z1 R a1 a2 a3 a4 a5 a6 a7 a8 k0) (fun z0 z1 z2 z3 z4 z5 z6 z7 z8 => ((z3).length = 3) ∧ ((z4).length = 3) ∧ ((z5).length = 3) ∧ ((z6).length = 3) ∧ ((z7).length = 8) ∧ ((z8).length = 80) ∧ ((z0) = 128) ∧ ((z1) = 64) ∧ ((z2) = 80) ∧ (Rot 64 (z3)) ∧ (Rot 64 (z4)) ∧ (Rot 64 (z5)) ∧ (Rot 64 (z6))) := by
  obtain ⟨h_0, h_1, h_2, h_3, h_4, h_5, h_6, h_7, h_8, h_9, h_10, h_11⟩ := h_
  refine T_9.of ?_
  delta Z1 Z94
  exact Tot.ret _
theorem Z39 (a1 a2 a3 a4 : Int) (a5 a6 a7 a8 a9 a10 : List Int) (h_ : autoParam (((a5).length = 3) ∧ ((a6).length = 3) ∧ ((a7).length = 3) ∧ ((a8).length = 3) ∧ ((a9).length = 8) ∧ ((a10).length = 80) ∧ (0 ≤ (a2)) ∧ ((a2) ≤ (a3)) ∧ ((a3) = 64) ∧ ((a4) = 80) ∧ (Rot 64 (a5)) ∧ (Rot 64 (a6)) ∧ (Rot 64 (a7)) ∧ (Rot 64 (a8))) sA._auto_1) : T_9 (fun R k0 => Z2l R a1 a2 a3 a4 a5 a6 a7 a8 a9 a10 k0) (fun z0 z1 z2 z3 z4 z5 z6 z7 z8 => ((z3).length = 3) ∧ ((z4).length = 3) ∧ ((z5).length = 3) ∧ ((z6).length = 3) ∧ ((z7).length = 8) ∧ ((z8).length = 80) ∧ ((z1) = 64) ∧ ((z2) = 80) ∧ (Rot 64 (z3)) ∧ (Rot 64 (z4)) ∧ (Rot 64 (z5)) ∧ (Rot 64 (z6))) := by
  obtain ⟨h_0, h_1, h_2, h_3, h_4, h_5, h_6, h_7, h_8, h_9, h_10, h_11, h_12, h_13⟩ := h_
  refine T_9.of ?_
  delta Z2l Z9o
  refine Tot.gd ?_
  refine Tot.gd ?_
  refine Tot.lett (fun v11 e_v11 => ?_)
  first | simp (disch := omega) only [ts, *] at e_v11 | skip
  refine Tot.lett (fun v12 e_v12 => ?_)
  first | simp (disch := omega) only [ts, *] at e_v12 | skip
  exact Tot.ret _
theorem Zej (a1 : Int) (a2 : List Int) (a3 a4 : Int) (a5 a6 a7 a8 a9 a10 : List Int) (h_ : autoParam (((a2).length = 3) ∧ ((a5).length = 3) ∧ ((a6).length = 3) ∧ ((a7).length = 3) ∧ ((a8).length = 3) ∧ ((a9).length = 8) ∧ ((a10).length = 80) ∧ (Rot 64 (a2)) ∧ ((a3) = 64) ∧ ((a4) = 80) ∧ (Rot 64 (a5)) ∧ (Rot 64 (a6)) ∧ (Rot 64 (a7)) ∧ (Rot 64 (a8))) sA._auto_1) : T_9 (fun R k0 => Zf R a1 a2 a3 a4 a5 a6 a7 a8 a9 a10 k0) (fun z0 z1 z2 z3 z4 z5 z6 z7 z8 => ((z3).length = 3) ∧ ((z4).length = 3) ∧ ((z5).length = 3) ∧ ((z6).length = 3) ∧ ((z7).length = 8) ∧ ((z8).length = 80) ∧ ((z1) = 64) ∧ ((z2) = 80) ∧ (Rot 64 (z3)) ∧ (Rot 64 (z4)) ∧ (Rot 64 (z5)) ∧ (Rot 64 (z6))) := by
  obtain ⟨h_0, h_1, h_2, h_3, h_4, h_5, h_6, h_7, h_8, h_9, h_10, h_11, h_12, h_13⟩ := h_
  refine T_9.of ?_
  delta Zf Za5
  obtain ⟨⟨r0, r0x⟩, ⟨r1, r1x⟩, ⟨r2, r2x⟩⟩ := (show Rot 64 (a2) by assumption)
  refine Tot.gd ?_
  refine Tot.lett (fun v11 e_v11 => ?_)
  first | simp (disch := omega) only [ts, *] at e_v11 | skip
  refine T_9.bind (Z39 a1 (a2.getD 0 0) a3 a4 a5 a6 a7 a8 a9 a10) (fun r12 r13 r14 r15 r16 r17 r18 r19 r20 q1 => ?_)
  obtain ⟨q1_0, q1_1, q1_2, q1_3, q1_4, q1_5, q1_6, q1_7, q1_8, q1_9, q1_10, q1_11⟩ := q1
  refine T_9.bind (Z39 a1 (a2.getD 1 0) a3 a4 a5 a6 a7 a8 a9 a10) (fun r21 r22 r23 r24 r25 r26 r27 r28 r29 q2 => ?_)
  obtain ⟨q2_0, q2_1, q2_2, q2_3, q2_4, q2_5, q2_6, q2_7, q2_8, q2_9, q2_10, q2_11⟩ := q2
  refine Tot.lett (fun v30 e_v30 => ?_)
  first | simp (disch := omega) only [ts, *] at e_v30 | skip
  exact Tot.ret _
theorem Zh8 (gx38 : Str) (gx39 gx40 gx41 gx42 gx43 gx44 gx45 gx46 : Int) (gx47 gx48 gx49 gx50 gx51 gx52 gx53 : List Int) (x38 : Str) (x39 x40 x41 x42 x43 x44 x45 x46 : Int) (x47 x48 x49 x50 x51 x52 x53 : List Int) (i_ : ((x47).length = 3) ∧ ((x48).length = 3) ∧ ((x49).length = 3) ∧ ((x50).length = 3) ∧ ((x51).length = 8) ∧ ((x52).length = 80) ∧ ((x41) = (gx41)) ∧ ((x42) = (gx42)) ∧ ((x39) = 8) ∧ ((x43) = 8) ∧ (0 ≤ (x40)) ∧ ((x40) < 16) ∧ (0 ≤ (x44)) ∧ ((x44) ≤ 8) ∧ (((x38)).length = 128) ∧ (((x53)).length = 80) ∧ ((x45) = 64) ∧ ((x46) = 80) ∧ (Rot 64 (x47)) ∧ (Rot 64 (x48)) ∧ (Rot 64 (x49)) ∧ (Rot 64 (x50))) : Z12o (fun R next k0 => Z67 Zf R x38 x39 x40 x41 x42 x43 x44 x45 x46 x47 x48 x49 x50 x51 x52 x53 next k0) (fun nx38 nx39 nx40 nx41 nx42 nx43 nx44 nx45 nx46 nx47 nx48 nx49 nx50 nx51 nx52 nx53 => ((nx47).length = 3) ∧ ((nx48).length = 3) ∧ ((nx49).length = 3) ∧ ((nx50).length = 3) ∧ ((nx51).length = 8) ∧ ((nx52).length = 80) ∧ ((nx41) = (gx41)) ∧ ((nx42) = (gx42)) ∧ ((nx39) = 8) ∧ ((nx43) = 8) ∧ (0 ≤ (nx40)) ∧ ((nx40) < 16) ∧ (0 ≤ (nx44)) ∧ ((nx44) ≤ 8) ∧ (((nx38)).length = 128) ∧ (((nx53)).length = 80) ∧ ((nx45) = 64) ∧ ((nx46) = 80) ∧ (Rot 64 (nx47)) ∧ (Rot 64 (nx48)) ∧ (Rot 64 (nx49)) ∧ (Rot 64 (nx50)) ∧ ((8 - (nx44)).toNat < (8 - (x44)).toNat)) (fun z0 z1 z2 z3 z4 z5 z6 z7 z8 z9 z10 z11 z12 => ((z6).length = 3) ∧ ((z7).length = 3) ∧ ((z8).length = 3) ∧ ((z9).length = 3) ∧ ((z10).length = 8) ∧ ((z11).length = 80) ∧ (((z0)).length = 128) ∧ ((z1) = 8) ∧ ((z2) = (gx41)) ∧ ((z3) = (gx42)) ∧ (((z12)).length = 80) ∧ ((z4) = 64) ∧ ((z5) = 80) ∧ (Rot 64 (z6)) ∧ (Rot 64 (z7)) ∧ (Rot 64 (z8)) ∧ (Rot 64 (z9))) := by
  obtain ⟨i_0, i_1, i_2, i_3, i_4, i_5, i_6, i_7, i_8, i_9, i_10, i_11, i_12, i_13, i_14, i_15, i_16, i_17, i_18, i_19, i_20, i_21⟩ := i_
  refine Z12o.of ?_
  delta Z67
  refine Tot.br (fun h1 => ?_) (fun h1 => ?_)
  · first | simp (disch := omega) only [ts, *] at h1 | skip
    all_goals
      refine Tot.gd ?_
      refine Tot.lett (fun v54 e_v54 => ?_)
      first | simp (disch := omega) only [ts, *] at e_v54 | skip
      refine Tot.lett (fun v55 e_v55 => ?_)
      first | simp (disch := omega) only [ts, *] at e_v55 | skip
      refine Tot.gd ?_
      refine Tot.lett (fun v56 e_v56 => ?_)
      first | simp (disch := omega) only [ts, *] at e_v56 | skip
      refine Tot.lett (fun v57 e_v57 => ?_)
      first | simp (disch := omega) only [ts, *] at e_v57 | skip
      refine Tot.gd ?_
      exact Tot.ret _
  · first | simp (disch := omega) only [ts, *] at h1 | skip
    all_goals
      exact Tot.ret _
theorem Zlg (x38 : Str) (x39 x40 x41 x42 x43 x44 x45 x46 : Int) (x47 x48 x49 x50 x51 x52 x53 : List Int) (i_ : autoParam (((x47).length = 3) ∧ ((x48).length = 3) ∧ ((x49).length = 3) ∧ ((x50).length = 3) ∧ ((x51).length = 8) ∧ ((x52).length = 80) ∧ ((x41) = (x41)) ∧ ((x42) = (x42)) ∧ ((x39) = 8) ∧ ((x43) = 8) ∧ (0 ≤ (x40)) ∧ ((x40) < 16) ∧ (0 ≤ (x44)) ∧ ((x44) ≤ 8) ∧ (((x38)).length = 128) ∧ (((x53)).length = 80) ∧ ((x45) = 64) ∧ ((x46) = 80) ∧ (Rot 64 (x47)) ∧ (Rot 64 (x48)) ∧ (Rot 64 (x49)) ∧ (Rot 64 (x50))) sA._auto_1) : T_13 (fun R k0 => Zee Zf R x38 x39 x40 x41 x42 x43 x44 x45 x46 x47 x48 x49 x50 x51 x52 x53 k0) (fun z0 z1 z2 z3 z4 z5 z6 z7 z8 z9 z10 z11 z12 => ((z6).length = 3) ∧ ((z7).length = 3) ∧ ((z8).length = 3) ∧ ((z9).length = 3) ∧ ((z10).length = 8) ∧ ((z11).length = 80) ∧ (((z0)).length = 128) ∧ ((z1) = 8) ∧ ((z2) = (x41)) ∧ ((z3) = (x42)) ∧ (((z12)).length = 80) ∧ ((z4) = 64) ∧ ((z5) = 80) ∧ (Rot 64 (z6)) ∧ (Rot 64 (z7)) ∧ (Rot 64 (z8)) ∧ (Rot 64 (z9))) := by
  have h := loopS (T := Z7n) (E := Z7q) (step := (Z3l Zf).step) (A := (Str × Int × Int × Int × Int × Int × (List Int) × (List Int) × (List Int) × (List Int) × (List Int) × (List Int) × (List Int))) (fun R k => (fun r => k (r), ())) (fun v => ((v.2.1.2.2.1).length = 3) ∧ ((v.2.1.2.2.2.1).length = 3) ∧ ((v.2.1.2.2.2.2.1).length = 3) ∧ ((v.2.1.2.2.2.2.2.1).length = 3) ∧ ((v.2.1.2.2.2.2.2.2.2.1).length = 8) ∧ ((v.2.2.2.1.1).length = 80) ∧ ((v.1.2.2.2.2.2.1) = (x41)) ∧ ((v.1.2.2.2.2.2.2.1) = (x42)) ∧ ((v.1.2.2.2.1) = 8) ∧ ((v.1.2.2.2.2.2.2.2.1) = 8) ∧ (0 ≤ (v.1.2.2.2.2.1)) ∧ ((v.1.2.2.2.2.1) < 16) ∧ (0 ≤ (v.1.2.2.2.2.2.2.2.2.1)) ∧ ((v.1.2.2.2.2.2.2.2.2.1) ≤ 8) ∧ (((v.1.2.1)).length = 128) ∧ (((v.2.2.2.2.1.1)).length = 80) ∧ ((v.2.1.1) = 64) ∧ ((v.2.1.2.1) = 80) ∧ (Rot 64 (v.2.1.2.2.1)) ∧ (Rot 64 (v.2.1.2.2.2.1)) ∧ (Rot 64 (v.2.1.2.2.2.2.1)) ∧ (Rot 64 (v.2.1.2.2.2.2.2.1))) (fun v => (8 - (v.1.2.2.2.2.2.2.2.2.1)).toNat) (fun p => ((p.2.2.2.2.2.2.1).length = 3) ∧ ((p.2.2.2.2.2.2.2.1).length = 3) ∧ ((p.2.2.2.2.2.2.2.2.1).length = 3) ∧ ((p.2.2.2.2.2.2.2.2.2.1).length = 3) ∧ ((p.2.2.2.2.2.2.2.2.2.2.1).length = 8) ∧ ((p.2.2.2.2.2.2.2.2.2.2.2.1).length = 80) ∧ (((p.1)).length = 128) ∧ ((p.2.1) = 8) ∧ ((p.2.2.1) = (x41)) ∧ ((p.2.2.2.1) = (x42)) ∧ (((p.2.2.2.2.2.2.2.2.2.2.2.2)).length = 80) ∧ ((p.2.2.2.2.1) = 64) ∧ ((p.2.2.2.2.2.1) = 80) ∧ (Rot 64 (p.2.2.2.2.2.2.1)) ∧ (Rot 64 (p.2.2.2.2.2.2.2.1)) ∧ (Rot 64 (p.2.2.2.2.2.2.2.2.1)) ∧ (Rot 64 (p.2.2.2.2.2.2.2.2.2.1))) ?hs (Z43 x38 x39 x40 x41 x42 x43 x44 x45 x46 x47 x48 x49 x50 x51 x52 x53) (((), x38, (), x39, x40, x41, x42, x43, x44, ()), ((x45, x46, x47, x48, x49, x50, (), x51, ()), ((), ()), (x52, ()), (x53, ()), ())) i_ (by obtain ⟨i_0, i_1, i_2, i_3, i_4, i_5, i_6, i_7, i_8, i_9, i_10, i_11, i_12, i_13, i_14, i_15, i_16, i_17, i_18, i_19, i_20, i_21⟩ := i_; have hh : Z43 x38 x39 x40 x41 x42 x43 x44 x45 x46 x47 x48 x49 x50 x51 x52 x53 = 100000 + (x38.length + x39.toNat + x40.toNat + x41.toNat + x42.toNat + x43.toNat + x44.toNat + x45.toNat + x46.toNat + x47.length + x48.length + x49.length + x50.length + x51.length + x52.length + x53.length) := rfl; rw [hh]; first | omega | (simp only [ts] <;> omega))
  case hs =>
    intro v hv
    rcases Zh8 x38 x39 x40 x41 x42 x43 x44 x45 x46 x47 x48 x49 x50 x51 x52 x53 (v.1.2.1) (v.1.2.2.2.1) (v.1.2.2.2.2.1) (v.1.2.2.2.2.2.1) (v.1.2.2.2.2.2.2.1) (v.1.2.2.2.2.2.2.2.1) (v.1.2.2.2.2.2.2.2.2.1) (v.2.1.1) (v.2.1.2.1) (v.2.1.2.2.1) (v.2.1.2.2.2.1) (v.2.1.2.2.2.2.1) (v.2.1.2.2.2.2.2.1) (v.2.1.2.2.2.2.2.2.2.1) (v.2.2.2.1.1) (v.2.2.2.2.1.1) hv with ⟨nx38, nx39, nx40, nx41, nx42, nx43, nx44, nx45, nx46, nx47, nx48, nx49, nx50, nx51, nx52, nx53, hq, e⟩ | ⟨z0, z1, z2, z3, z4, z5, z6, z7, z8, z9, z10, z11, z12, hq, e⟩
    · exact .inl ⟨(((), nx38, (), nx39, nx40, nx41, nx42, nx43, nx44, ()), ((nx45, nx46, nx47, nx48, nx49, nx50, (), nx51, ()), ((), ()), (nx52, ()), (nx53, ()), ())), (by obtain ⟨hq0, hq1, hq2, hq3, hq4, hq5, hq6, hq7, hq8, hq9, hq10, hq11, hq12, hq13, hq14, hq15, hq16, hq17, hq18, hq19, hq20, hq21, hq22⟩ := hq; exact ⟨⟨hq0, hq1, hq2, hq3, hq4, hq5, hq6, hq7, hq8, hq9, hq10, hq11, hq12, hq13, hq14, hq15, hq16, hq17, hq18, hq19, hq20, hq21⟩, hq22⟩), fun R next k => e R (fun nx38 nx39 nx40 nx41 nx42 nx43 nx44 nx45 nx46 nx47 nx48 nx49 nx50 nx51 nx52 nx53 => next (((), nx38, (), nx39, nx40, nx41, nx42, nx43, nx44, ()), ((nx45, nx46, nx47, nx48, nx49, nx50, (), nx51, ()), ((), ()), (nx52, ()), (nx53, ()), ()))) (fun z0 z1 z2 z3 z4 z5 z6 z7 z8 z9 z10 z11 z12 => k ((z0, z1, z2, z3, z4, z5, z6, z7, z8, z9, z10, z11, z12)))⟩
    · exact .inr ⟨(z0, z1, z2, z3, z4, z5, z6, z7, z8, z9, z10, z11, z12), hq, fun R next k => e R (fun nx38 nx39 nx40 nx41 nx42 nx43 nx44 nx45 nx46 nx47 nx48 nx49 nx50 nx51 nx52 nx53 => next (((), nx38, (), nx39, nx40, nx41, nx42, nx43, nx44, ()), ((nx45, nx46, nx47, nx48, nx49, nx50, (), nx51, ()), ((), ()), (nx52, ()), (nx53, ()), ()))) (fun z0 z1 z2 z3 z4 z5 z6 z7 z8 z9 z10 z11 z12 => k ((z0, z1, z2, z3, z4, z5, z6, z7, z8, z9, z10, z11, z12)))⟩
  obtain ⟨⟨z0, z1, z2, z3, z4, z5, z6, z7, z8, z9, z10, z11, z12⟩, hq, e⟩ := h
  · exact ⟨z0, z1, z2, z3, z4, z5, z6, z7, z8, z9, z10, z11, z12, hq, fun R k0 => e R (fun r => k0 (r.1) (r.2.1) (r.2.2.1) (r.2.2.2.1) (r.2.2.2.2.1) (r.2.2.2.2.2.1) (r.2.2.2.2.2.2.1) (r.2.2.2.2.2.2.2.1) (r.2.2.2.2.2.2.2.2.1) (r.2.2.2.2.2.2.2.2.2.1) (r.2.2.2.2.2.2.2.2.2.2.1) (r.2.2.2.2.2.2.2.2.2.2.2.1) (r.2.2.2.2.2.2.2.2.2.2.2.2))⟩
theorem Zha (x25 : Str) (x26 x27 x28 x29 x30 : Int) (x31 x32 x33 x34 x35 x36 x37 : List Int) (i_ : ((x31).length = 3) ∧ ((x32).length = 3) ∧ ((x33).length = 3) ∧ ((x34).length = 3) ∧ ((x35).length = 8) ∧ ((x36).length = 80) ∧ (((x25)).length = 128) ∧ ((x26) = 8) ∧ (0 ≤ (x28)) ∧ ((x28) < 80) ∧ (((x37)).length = 80) ∧ ((x29) = 64) ∧ ((x30) = 80) ∧ (Rot 64 (x31)) ∧ (Rot 64 (x32)) ∧ (Rot 64 (x33)) ∧ (Rot 64 (x34))) : Zbr (fun R k0 k1 => Z65 Zf R x25 x26 x27 x28 x29 x30 x31 x32 x33 x34 x35 x36 x37 k0 k1) (fun z0 z1 z2 z3 z4 z5 z6 z7 z8 z9 z10 z11 z12 => ((z6).length = 3) ∧ ((z7).length = 3) ∧ ((z8).length = 3) ∧ ((z9).length = 3) ∧ ((z10).length = 8) ∧ ((z11).length = 80) ∧ (((z0)).length = 128) ∧ ((z1) = 8) ∧ ((z2) = (x27)) ∧ ((z3) = (x28)) ∧ (((z12)).length = 80) ∧ ((z4) = 64) ∧ ((z5) = 80) ∧ (Rot 64 (z6)) ∧ (Rot 64 (z7)) ∧ (Rot 64 (z8)) ∧ (Rot 64 (z9))) (fun z0 z1 z2 z3 z4 z5 z6 z7 z8 z9 z10 z11 z12 z13 => ((z6).length = 3) ∧ ((z7).length = 3) ∧ ((z8).length = 3) ∧ ((z9).length = 3) ∧ ((z10).length = 8) ∧ ((z11).length = 80) ∧ (((z0)).length = 128) ∧ ((z1) = 8) ∧ ((z2) = (x27)) ∧ ((z3) = (x28)) ∧ (((z12)).length = 80) ∧ ((z4) = 64) ∧ ((z5) = 80) ∧ (Rot 64 (z6)) ∧ (Rot 64 (z7)) ∧ (Rot 64 (z8)) ∧ (Rot 64 (z9))) := by
  obtain ⟨i_0, i_1, i_2, i_3, i_4, i_5, i_6, i_7, i_8, i_9, i_10, i_11, i_12, i_13, i_14, i_15, i_16⟩ := i_
  refine Zbr.of ?_
  delta Z65
  refine Tot.br (fun h1 => ?_) (fun h1 => ?_)
  · first | simp (disch := omega) only [ts, *] at h1 | skip
    all_goals
      refine T_13.bind (Zlg x25 x26 x28 x27 x28 x26 0 x29 x30 x31 x32 x33 x34 x35 x36 x37) (fun y58 y59 y60 y61 y62 y63 y64 y65 y66 y67 y68 y69 y70 q2 => ?_)
      obtain ⟨q2_0, q2_1, q2_2, q2_3, q2_4, q2_5, q2_6, q2_7, q2_8, q2_9, q2_10, q2_11, q2_12, q2_13, q2_14, q2_15, q2_16⟩ := q2
      exact Tot.ret _
  · first | simp (disch := omega) only [ts, *] at h1 | skip
    all_goals
      refine Tot.gd ?_
      refine Tot.lett (fun v71 e_v71 => ?_)
      first | simp (disch := omega) only [ts, *] at e_v71 | skip
      refine Tot.gd ?_
      refine Tot.lett (fun v72 e_v72 => ?_)
      first | simp (disch := omega) only [ts, *] at e_v72 | skip
      refine Tot.gd ?_
      refine Tot.lett (fun v73 e_v73 => ?_)
      first | simp (disch := omega) only [ts, *] at e_v73 | skip
      refine Tot.gd ?_
      refine Tot.lett (fun v74 e_v74 => ?_)
      first | simp (disch := omega) only [ts, *] at e_v74 | skip
      refine T_9.bind (Zej v73 x31 x29 x30 x31 x32 x33 x34 x35 x36) (fun r75 r76 r77 r78 r79 r80 r81 r82 r83 q3 => ?_)
      obtain ⟨q3_0, q3_1, q3_2, q3_3, q3_4, q3_5, q3_6, q3_7, q3_8, q3_9, q3_10, q3_11⟩ := q3
      refine Tot.lett (fun v84 e_v84 => ?_)
      first | simp (disch := omega) only [ts, *] at e_v84 | skip
      refine T_9.bind (Zej v74 x32 x29 x30 x31 x32 x33 x34 x35 x36) (fun r85 r86 r87 r88 r89 r90 r91 r92 r93 q4 => ?_)
      obtain ⟨q4_0, q4_1, q4_2, q4_3, q4_4, q4_5, q4_6, q4_7, q4_8, q4_9, q4_10, q4_11⟩ := q4
      refine Tot.gd ?_
      refine Tot.lett (fun v94 e_v94 => ?_)
      have l_v94 := congrArg List.length e_v94
      first | simp (disch := omega) only [ts, *] at l_v94 | skip
      exact Tot.ret _
theorem Zl6 (x25 : Str) (x26 x27 x28 x29 x30 : Int) (x31 x32 x33 x34 x35 x36 x37 : List Int) (i_ : autoParam (((x31).length = 3) ∧ ((x32).length = 3) ∧ ((x33).length = 3) ∧ ((x34).length = 3) ∧ ((x35).length = 8) ∧ ((x36).length = 80) ∧ (((x25)).length = 128) ∧ ((x26) = 8) ∧ (0 ≤ (x28)) ∧ ((x28) < 80) ∧ (((x37)).length = 80) ∧ ((x29) = 64) ∧ ((x30) = 80) ∧ (Rot 64 (x31)) ∧ (Rot 64 (x32)) ∧ (Rot 64 (x33)) ∧ (Rot 64 (x34))) sA._auto_1) : Zbr (fun R k0 k1 => Zel Zf R x25 x26 x27 x28 x29 x30 x31 x32 x33 x34 x35 x36 x37 k0 k1) (fun z0 z1 z2 z3 z4 z5 z6 z7 z8 z9 z10 z11 z12 => ((z6).length = 3) ∧ ((z7).length = 3) ∧ ((z8).length = 3) ∧ ((z9).length = 3) ∧ ((z10).length = 8) ∧ ((z11).length = 80) ∧ (((z0)).length = 128) ∧ ((z1) = 8) ∧ ((z2) = (x27)) ∧ ((z3) = (x28)) ∧ (((z12)).length = 80) ∧ ((z4) = 64) ∧ ((z5) = 80) ∧ (Rot 64 (z6)) ∧ (Rot 64 (z7)) ∧ (Rot 64 (z8)) ∧ (Rot 64 (z9))) (fun z0 z1 z2 z3 z4 z5 z6 z7 z8 z9 z10 z11 z12 z13 => ((z6).length = 3) ∧ ((z7).length = 3) ∧ ((z8).length = 3) ∧ ((z9).length = 3) ∧ ((z10).length = 8) ∧ ((z11).length = 80) ∧ (((z0)).length = 128) ∧ ((z1) = 8) ∧ ((z2) = (x27)) ∧ ((z3) = (x28)) ∧ (((z12)).length = 80) ∧ ((z4) = 64) ∧ ((z5) = 80) ∧ (Rot 64 (z6)) ∧ (Rot 64 (z7)) ∧ (Rot 64 (z8)) ∧ (Rot 64 (z9))) := by
  exact Zbr.congr (fun R k0 k1 => by kernel_rfl) (Zha x25 x26 x27 x28 x29 x30 x31 x32 x33 x34 x35 x36 x37 i_)
theorem Zhw (x12 : Str) (x13 x14 x15 x16 x17 : Int) (x18 x19 x20 x21 x22 x23 x24 : List Int) (i_ : ((x18).length = 3) ∧ ((x19).length = 3) ∧ ((x20).length = 3) ∧ ((x21).length = 3) ∧ ((x22).length = 8) ∧ ((x23).length = 80) ∧ (((x12)).length = 128) ∧ ((x13) = 8) ∧ ((x14) = 80) ∧ (0 ≤ (x15)) ∧ ((x15) ≤ 80) ∧ (((x24)).length = 80) ∧ ((x16) = 64) ∧ ((x17) = 80) ∧ (Rot 64 (x18)) ∧ (Rot 64 (x19)) ∧ (Rot 64 (x20)) ∧ (Rot 64 (x21))) : Z15h (fun R next k0 => Z66 Zf R x12 x13 x14 x15 x16 x17 x18 x19 x20 x21 x22 x23 x24 next k0) (fun nx12 nx13 nx14 nx15 nx16 nx17 nx18 nx19 nx20 nx21 nx22 nx23 nx24 => ((nx18).length = 3) ∧ ((nx19).length = 3) ∧ ((nx20).length = 3) ∧ ((nx21).length = 3) ∧ ((nx22).length = 8) ∧ ((nx23).length = 80) ∧ (((nx12)).length = 128) ∧ ((nx13) = 8) ∧ ((nx14) = 80) ∧ (0 ≤ (nx15)) ∧ ((nx15) ≤ 80) ∧ (((nx24)).length = 80) ∧ ((nx16) = 64) ∧ ((nx17) = 80) ∧ (Rot 64 (nx18)) ∧ (Rot 64 (nx19)) ∧ (Rot 64 (nx20)) ∧ (Rot 64 (nx21)) ∧ ((80 - (nx15)).toNat < (80 - (x15)).toNat)) (fun z0 z1 z2 z3 z4 z5 z6 z7 z8 => ((z2).length = 3) ∧ ((z3).length = 3) ∧ ((z4).length = 3) ∧ ((z5).length = 3) ∧ ((z6).length = 8) ∧ ((z7).length = 80) ∧ ((z0) = 64) ∧ ((z1) = 80) ∧ (Rot 64 (z2)) ∧ (Rot 64 (z3)) ∧ (Rot 64 (z4)) ∧ (Rot 64 (z5)) ∧ (((z8)).length = 80)) := by
  obtain ⟨i_0, i_1, i_2, i_3, i_4, i_5, i_6, i_7, i_8, i_9, i_10, i_11, i_12, i_13, i_14, i_15, i_16, i_17⟩ := i_
  refine Z15h.of ?_
  delta Z66
  refine Tot.br (fun h1 => ?_) (fun h1 => ?_)
  · first | simp (disch := omega) only [ts, *] at h1 | skip
    all_goals
      refine Zbr.bind (Zl6 x12 x13 x14 x15 x16 x17 x18 x19 x20 x21 x22 x23 x24) (fun y95 y96 y97 y98 y99 y100 y101 y102 y103 y104 y105 y106 y107 q2 => ?_) (fun y108 y109 y110 y111 y112 y113 y114 y115 y116 y117 y118 y119 y120 y121 q2 => ?_)
      · obtain ⟨q2_0, q2_1, q2_2, q2_3, q2_4, q2_5, q2_6, q2_7, q2_8, q2_9, q2_10, q2_11, q2_12, q2_13, q2_14, q2_15, q2_16⟩ := q2
        exact Tot.ret _
      · obtain ⟨q2_0, q2_1, q2_2, q2_3, q2_4, q2_5, q2_6, q2_7, q2_8, q2_9, q2_10, q2_11, q2_12, q2_13, q2_14, q2_15, q2_16⟩ := q2
        exact Tot.ret _
  · first | simp (disch := omega) only [ts, *] at h1 | skip
    all_goals
      exact Tot.ret _
theorem Zku (x12 : Str) (x13 x14 x15 x16 x17 : Int) (x18 x19 x20 x21 x22 x23 x24 : List Int) (i_ : autoParam (((x18).length = 3) ∧ ((x19).length = 3) ∧ ((x20).length = 3) ∧ ((x21).length = 3) ∧ ((x22).length = 8) ∧ ((x23).length = 80) ∧ (((x12)).length = 128) ∧ ((x13) = 8) ∧ ((x14) = 80) ∧ (0 ≤ (x15)) ∧ ((x15) ≤ 80) ∧ (((x24)).length = 80) ∧ ((x16) = 64) ∧ ((x17) = 80) ∧ (Rot 64 (x18)) ∧ (Rot 64 (x19)) ∧ (Rot 64 (x20)) ∧ (Rot 64 (x21))) sA._auto_1) : T_9 (fun R k0 => Ze1 Zf R x12 x13 x14 x15 x16 x17 x18 x19 x20 x21 x22 x23 x24 k0) (fun z0 z1 z2 z3 z4 z5 z6 z7 z8 => ((z2).length = 3) ∧ ((z3).length = 3) ∧ ((z4).length = 3) ∧ ((z5).length = 3) ∧ ((z6).length = 8) ∧ ((z7).length = 80) ∧ ((z0) = 64) ∧ ((z1) = 80) ∧ (Rot 64 (z2)) ∧ (Rot 64 (z3)) ∧ (Rot 64 (z4)) ∧ (Rot 64 (z5)) ∧ (((z8)).length = 80)) := by
  have h := loopS (T := Z7w) (E := Z7s) (step := (Z3p Zf).step) (A := (Int × Int × (List Int) × (List Int) × (List Int) × (List Int) × (List Int) × (List Int) × (List Int))) (fun R k => (fun r => k (r), ())) (fun v => ((v.2.1.2.2.1).length = 3) ∧ ((v.2.1.2.2.2.1).length = 3) ∧ ((v.2.1.2.2.2.2.1).length = 3) ∧ ((v.2.1.2.2.2.2.2.1).length = 3) ∧ ((v.2.1.2.2.2.2.2.2.2.1).length = 8) ∧ ((v.2.2.2.1.1).length = 80) ∧ (((v.1.2.1)).length = 128) ∧ ((v.1.2.2.2.1) = 8) ∧ ((v.1.2.2.2.2.1) = 80) ∧ (0 ≤ (v.1.2.2.2.2.2.1)) ∧ ((v.1.2.2.2.2.2.1) ≤ 80) ∧ (((v.2.2.2.2.1.1)).length = 80) ∧ ((v.2.1.1) = 64) ∧ ((v.2.1.2.1) = 80) ∧ (Rot 64 (v.2.1.2.2.1)) ∧ (Rot 64 (v.2.1.2.2.2.1)) ∧ (Rot 64 (v.2.1.2.2.2.2.1)) ∧ (Rot 64 (v.2.1.2.2.2.2.2.1))) (fun v => (80 - (v.1.2.2.2.2.2.1)).toNat) (fun p => ((p.2.2.1).length = 3) ∧ ((p.2.2.2.1).length = 3) ∧ ((p.2.2.2.2.1).length = 3) ∧ ((p.2.2.2.2.2.1).length = 3) ∧ ((p.2.2.2.2.2.2.1).length = 8) ∧ ((p.2.2.2.2.2.2.2.1).length = 80) ∧ ((p.1) = 64) ∧ ((p.2.1) = 80) ∧ (Rot 64 (p.2.2.1)) ∧ (Rot 64 (p.2.2.2.1)) ∧ (Rot 64 (p.2.2.2.2.1)) ∧ (Rot 64 (p.2.2.2.2.2.1)) ∧ (((p.2.2.2.2.2.2.2.2)).length = 80)) ?hs (Z44 x12 x13 x14 x15 x16 x17 x18 x19 x20 x21 x22 x23 x24) (((), x12, (), x13, x14, x15, ()), ((x16, x17, x18, x19, x20, x21, (), x22, ()), ((), ()), (x23, ()), (x24, ()), ())) i_ (by obtain ⟨i_0, i_1, i_2, i_3, i_4, i_5, i_6, i_7, i_8, i_9, i_10, i_11, i_12, i_13, i_14, i_15, i_16, i_17⟩ := i_; have hh : Z44 x12 x13 x14 x15 x16 x17 x18 x19 x20 x21 x22 x23 x24 = 100000 + (x12.length + x13.toNat + x14.toNat + x15.toNat + x16.toNat + x17.toNat + x18.length + x19.length + x20.length + x21.length + x22.length + x23.length + x24.length) := rfl; rw [hh]; first | omega | (simp only [ts] <;> omega))
  case hs =>
    intro v hv
    rcases Zhw (v.1.2.1) (v.1.2.2.2.1) (v.1.2.2.2.2.1) (v.1.2.2.2.2.2.1) (v.2.1.1) (v.2.1.2.1) (v.2.1.2.2.1) (v.2.1.2.2.2.1) (v.2.1.2.2.2.2.1) (v.2.1.2.2.2.2.2.1) (v.2.1.2.2.2.2.2.2.2.1) (v.2.2.2.1.1) (v.2.2.2.2.1.1) hv with ⟨nx12, nx13, nx14, nx15, nx16, nx17, nx18, nx19, nx20, nx21, nx22, nx23, nx24, hq, e⟩ | ⟨z0, z1, z2, z3, z4, z5, z6, z7, z8, hq, e⟩
    · exact .inl ⟨(((), nx12, (), nx13, nx14, nx15, ()), ((nx16, nx17, nx18, nx19, nx20, nx21, (), nx22, ()), ((), ()), (nx23, ()), (nx24, ()), ())), (by obtain ⟨hq0, hq1, hq2, hq3, hq4, hq5, hq6, hq7, hq8, hq9, hq10, hq11, hq12, hq13, hq14, hq15, hq16, hq17, hq18⟩ := hq; exact ⟨⟨hq0, hq1, hq2, hq3, hq4, hq5, hq6, hq7, hq8, hq9, hq10, hq11, hq12, hq13, hq14, hq15, hq16, hq17⟩, hq18⟩), fun R next k => e R (fun nx12 nx13 nx14 nx15 nx16 nx17 nx18 nx19 nx20 nx21 nx22 nx23 nx24 => next (((), nx12, (), nx13, nx14, nx15, ()), ((nx16, nx17, nx18, nx19, nx20, nx21, (), nx22, ()), ((), ()), (nx23, ()), (nx24, ()), ()))) (fun z0 z1 z2 z3 z4 z5 z6 z7 z8 => k ((z0, z1, z2, z3, z4, z5, z6, z7, z8)))⟩
    · exact .inr ⟨(z0, z1, z2, z3, z4, z5, z6, z7, z8), hq, fun R next k => e R (fun nx12 nx13 nx14 nx15 nx16 nx17 nx18 nx19 nx20 nx21 nx22 nx23 nx24 => next (((), nx12, (), nx13, nx14, nx15, ()), ((nx16, nx17, nx18, nx19, nx20, nx21, (), nx22, ()), ((), ()), (nx23, ()), (nx24, ()), ()))) (fun z0 z1 z2 z3 z4 z5 z6 z7 z8 => k ((z0, z1, z2, z3, z4, z5, z6, z7, z8)))⟩
  obtain ⟨⟨z0, z1, z2, z3, z4, z5, z6, z7, z8⟩, hq, e⟩ := h
  · exact ⟨z0, z1, z2, z3, z4, z5, z6, z7, z8, hq, fun R k0 => e R (fun r => k0 (r.1) (r.2.1) (r.2.2.1) (r.2.2.2.1) (r.2.2.2.2.1) (r.2.2.2.2.2.1) (r.2.2.2.2.2.2.1) (r.2.2.2.2.2.2.2.1) (r.2.2.2.2.2.2.2.2))⟩
theorem Zni (a1 : Str) (a2 a3 : Int) (a4 a5 a6 a7 a8 a9 : List Int) (h_ : autoParam (((a4).length = 3) ∧ ((a5).length = 3) ∧ ((a6).length = 3) ∧ ((a7).length = 3) ∧ ((a8).length = 8) ∧ ((a9).length = 80) ∧ (((a1)).length = 128) ∧ ((a2) = 64) ∧ ((a3) = 80) ∧ (Rot 64 (a4)) ∧ (Rot 64 (a5)) ∧ (Rot 64 (a6)) ∧ (Rot 64 (a7))) sA._auto_1) : T_9 (fun R k0 => Zj R a1 a2 a3 a4 a5 a6 a7 a8 a9 k0) (fun z0 z1 z2 z3 z4 z5 z6 z7 z8 => ((z2).length = 3) ∧ ((z3).length = 3) ∧ ((z4).length = 3) ∧ ((z5).length = 3) ∧ ((z6).length = 8) ∧ ((z7).length = 80) ∧ ((z0) = 64) ∧ ((z1) = 80) ∧ (Rot 64 (z2)) ∧ (Rot 64 (z3)) ∧ (Rot 64 (z4)) ∧ (Rot 64 (z5)) ∧ (((z8)).length = 80)) := by
  obtain ⟨h_0, h_1, h_2, h_3, h_4, h_5, h_6, h_7, h_8, h_9, h_10, h_11, h_12⟩ := h_
  refine T_9.of ?_
  delta Zj Z9d
  refine Tot.gd ?_
  refine Tot.gd ?_
  refine Tot.lett (fun v10 e_v10 => ?_)
  have l_v10 := congrArg List.length e_v10
  first | simp (disch := omega) only [ts, *] at l_v10 | skip
  refine Tot.lett (fun v11 e_v11 => ?_)
  first | simp (disch := omega) only [ts, *] at e_v11 | skip
  refine T_9.bind (Zku a1 (quoI .i64 a2 8) v11 0 a2 a3 a4 a5 a6 a7 a8 a9 v10) (fun y122 y123 y124 y125 y126 y127 y128 y129 y130 q1 => ?_)
  obtain ⟨q1_0, q1_1, q1_2, q1_3, q1_4, q1_5, q1_6, q1_7, q1_8, q1_9, q1_10, q1_11, q1_12⟩ := q1
  exact Tot.ret _
theorem Zc9 (a1 : Int) (a2 : List Int) (a3 a4 : Int) (a5 a6 a7 a8 a9 a10 : List Int) (h_ : autoParam (((a2).length = 3) ∧ ((a5).length = 3) ∧ ((a6).length = 3) ∧ ((a7).length = 3) ∧ ((a8).length = 3) ∧ ((a9).length = 8) ∧ ((a10).length = 80) ∧ (Rot 64 (a2)) ∧ ((a3) = 64) ∧ ((a4) = 80) ∧ (Rot 64 (a5)) ∧ (Rot 64 (a6)) ∧ (Rot 64 (a7)) ∧ (Rot 64 (a8))) sA._auto_1) : T_9 (fun R k0 => Zk R a1 a2 a3 a4 a5 a6 a7 a8 a9 a10 k0) (fun z0 z1 z2 z3 z4 z5 z6 z7 z8 => ((z3).length = 3) ∧ ((z4).length = 3) ∧ ((z5).length = 3) ∧ ((z6).length = 3) ∧ ((z7).length = 8) ∧ ((z8).length = 80) ∧ ((z1) = 64) ∧ ((z2) = 80) ∧ (Rot 64 (z3)) ∧ (Rot 64 (z4)) ∧ (Rot 64 (z5)) ∧ (Rot 64 (z6))) := by
  obtain ⟨h_0, h_1, h_2, h_3, h_4, h_5, h_6, h_7, h_8, h_9, h_10, h_11, h_12, h_13⟩ := h_
  refine T_9.of ?_
  delta Zk Z98
  obtain ⟨⟨r0, r0x⟩, ⟨r1, r1x⟩, ⟨r2, r2x⟩⟩ := (show Rot 64 (a2) by assumption)
  refine T_9.bind (Z39 a1 (a2.getD 0 0) a3 a4 a5 a6 a7 a8 a9 a10) (fun r11 r12 r13 r14 r15 r16 r17 r18 r19 q1 => ?_)
  obtain ⟨q1_0, q1_1, q1_2, q1_3, q1_4, q1_5, q1_6, q1_7, q1_8, q1_9, q1_10, q1_11⟩ := q1
  refine T_9.bind (Z39 a1 (a2.getD 1 0) a3 a4 a5 a6 a7 a8 a9 a10) (fun r20 r21 r22 r23 r24 r25 r26 r27 r28 q2 => ?_)
  obtain ⟨q2_0, q2_1, q2_2, q2_3, q2_4, q2_5, q2_6, q2_7, q2_8, q2_9, q2_10, q2_11⟩ := q2
  refine T_9.bind (Z39 a1 (a2.getD 2 0) a3 a4 a5 a6 a7 a8 a9 a10) (fun r29 r30 r31 r32 r33 r34 r35 r36 r37 q3 => ?_)
  obtain ⟨q3_0, q3_1, q3_2, q3_3, q3_4, q3_5, q3_6, q3_7, q3_8, q3_9, q3_10, q3_11⟩ := q3
  refine Tot.lett (fun v38 e_v38 => ?_)
  first | simp (disch := omega) only [ts, *] at e_v38 | skip
  exact Tot.ret _
theorem Zz8 (a1 : Int) (a2 : List Int) (h_ : autoParam (((a2).length = 80) ∧ (0 ≤ (a1)) ∧ ((a1) < 80)) sA._auto_1) : T_2 (fun R k0 => Z1g R a1 a2 k0) (fun z0 z1 => ((z1).length = 80)) := by
  obtain ⟨h_0, h_1, h_2⟩ := h_
  refine T_2.of ?_
  delta Z1g Zhi
  refine Tot.gd ?_
  exact Tot.ret _
theorem Zhx (x23 x24 x25 x26 : Int) (x27 x28 x29 x30 x31 x32 x33 x34 x35 x36 : List Int) (i_ : ((x27).length = 3) ∧ ((x28).length = 3) ∧ ((x29).length = 3) ∧ ((x30).length = 3) ∧ ((x31).length = 8) ∧ ((x32).length = 80) ∧ ((x33).length = 8) ∧ ((x34).length = 8) ∧ ((x35).length = 8) ∧ ((x23) = 80) ∧ (0 ≤ (x24)) ∧ ((x24) ≤ 80) ∧ (((x36)).length = 80) ∧ ((x25) = 64) ∧ ((x26) = 80) ∧ (Rot 64 (x27)) ∧ (Rot 64 (x28)) ∧ (Rot 64 (x29)) ∧ (Rot 64 (x30))) : Z12n (fun R next k0 => Z6d Zj Zk Z1g R x23 x24 x25 x26 x27 x28 x29 x30 x31 x32 x33 x34 x35 x36 next k0) (fun nx23 nx24 nx25 nx26 nx27 nx28 nx29 nx30 nx31 nx32 nx33 nx34 nx35 nx36 => ((nx27).length = 3) ∧ ((nx28).length = 3) ∧ ((nx29).length = 3) ∧ ((nx30).length = 3) ∧ ((nx31).length = 8) ∧ ((nx32).length = 80) ∧ ((nx33).length = 8) ∧ ((nx34).length = 8) ∧ ((nx35).length = 8) ∧ ((nx23) = 80) ∧ (0 ≤ (nx24)) ∧ ((nx24) ≤ 80) ∧ (((nx36)).length = 80) ∧ ((nx25) = 64) ∧ ((nx26) = 80) ∧ (Rot 64 (nx27)) ∧ (Rot 64 (nx28)) ∧ (Rot 64 (nx29)) ∧ (Rot 64 (nx30)) ∧ ((80 - (nx24)).toNat < (80 - (x24)).toNat)) (fun z0 z1 z2 z3 z4 z5 z6 z7 z8 z9 z10 => ((z2).length = 3) ∧ ((z3).length = 3) ∧ ((z4).length = 3) ∧ ((z5).length = 3) ∧ ((z6).length = 8) ∧ ((z7).length = 80) ∧ ((z8).length = 8) ∧ ((z9).length = 8) ∧ ((z10).length = 8) ∧ ((z0) = 64) ∧ ((z1) = 80) ∧ (Rot 64 (z2)) ∧ (Rot 64 (z3)) ∧ (Rot 64 (z4)) ∧ (Rot 64 (z5))) := by
  obtain ⟨i_0, i_1, i_2, i_3, i_4, i_5, i_6, i_7, i_8, i_9, i_10, i_11, i_12, i_13, i_14, i_15, i_16, i_17, i_18⟩ := i_
  refine Z12n.of ?_
  delta Z6d
  refine Tot.br (fun h1 => ?_) (fun h1 => ?_)
  · first | simp (disch := omega) only [ts, *] at h1 | skip
    all_goals
      refine Tot.gd ?_
      refine Tot.lett (fun v37 e_v37 => ?_)
      first | simp (disch := omega) only [ts, *] at e_v37 | skip
      refine Tot.lett (fun v38 e_v38 => ?_)
      first | simp (disch := omega) only [ts, *] at e_v38 | skip
      refine T_9.bind (Zc9 (x35.getD 4 0) x29 x25 x26 x27 x28 x29 x30 x31 x32) (fun r39 r40 r41 r42 r43 r44 r45 r46 r47 q2 => ?_)
      obtain ⟨q2_0, q2_1, q2_2, q2_3, q2_4, q2_5, q2_6, q2_7, q2_8, q2_9, q2_10, q2_11⟩ := q2
      refine Tot.lett (fun v48 e_v48 => ?_)
      first | simp (disch := omega) only [ts, *] at e_v48 | skip
      refine Tot.lett (fun v49 e_v49 => ?_)
      first | simp (disch := omega) only [ts, *] at e_v49 | skip
      refine T_2.bind (Zz8 x24 x32) (fun r50 r51 q3 => ?_)
      replace q3 : (r51).length = 80 := q3
      refine Tot.lett (fun v52 e_v52 => ?_)
      first | simp (disch := omega) only [ts, *] at e_v52 | skip
      refine Tot.lett (fun v53 e_v53 => ?_)
      first | simp (disch := omega) only [ts, *] at e_v53 | skip
      refine Tot.lett (fun v54 e_v54 => ?_)
      first | simp (disch := omega) only [ts, *] at e_v54 | skip
      refine Tot.lett (fun v55 e_v55 => ?_)
      first | simp (disch := omega) only [ts, *] at e_v55 | skip
      refine Tot.lett (fun v56 e_v56 => ?_)
      first | simp (disch := omega) only [ts, *] at e_v56 | skip
      refine T_9.bind (Zc9 (x35.getD 0 0) x30 x25 x26 x27 x28 x29 x30 x31 x32) (fun r57 r58 r59 r60 r61 r62 r63 r64 r65 q4 => ?_)
      obtain ⟨q4_0, q4_1, q4_2, q4_3, q4_4, q4_5, q4_6, q4_7, q4_8, q4_9, q4_10, q4_11⟩ := q4
      refine Tot.lett (fun v66 e_v66 => ?_)
      first | simp (disch := omega) only [ts, *] at e_v66 | skip
      refine Tot.lett (fun v67 e_v67 => ?_)
      first | simp (disch := omega) only [ts, *] at e_v67 | skip
      refine Tot.lett (fun v68 e_v68 => ?_)
      have l_v68 := congrArg List.length e_v68
      first | simp (disch := omega) only [ts, *] at l_v68 | skip
      exact Tot.ret _
  · first | simp (disch := omega) only [ts, *] at h1 | skip
    all_goals
      exact Tot.ret _
theorem Zks (x23 x24 x25 x26 : Int) (x27 x28 x29 x30 x31 x32 x33 x34 x35 x36 : List Int) (i_ : autoParam (((x27).length = 3) ∧ ((x28).length = 3) ∧ ((x29).length = 3) ∧ ((x30).length = 3) ∧ ((x31).length = 8) ∧ ((x32).length = 80) ∧ ((x33).length = 8) ∧ ((x34).length = 8) ∧ ((x35).length = 8) ∧ ((x23) = 80) ∧ (0 ≤ (x24)) ∧ ((x24) ≤ 80) ∧ (((x36)).length = 80) ∧ ((x25) = 64) ∧ ((x26) = 80) ∧ (Rot 64 (x27)) ∧ (Rot 64 (x28)) ∧ (Rot 64 (x29)) ∧ (Rot 64 (x30))) sA._auto_1) : T_11 (fun R k0 => Zeb Zj Zk Z1g R x23 x24 x25 x26 x27 x28 x29 x30 x31 x32 x33 x34 x35 x36 k0) (fun z0 z1 z2 z3 z4 z5 z6 z7 z8 z9 z10 => ((z2).length = 3) ∧ ((z3).length = 3) ∧ ((z4).length = 3) ∧ ((z5).length = 3) ∧ ((z6).length = 8) ∧ ((z7).length = 80) ∧ ((z8).length = 8) ∧ ((z9).length = 8) ∧ ((z10).length = 8) ∧ ((z0) = 64) ∧ ((z1) = 80) ∧ (Rot 64 (z2)) ∧ (Rot 64 (z3)) ∧ (Rot 64 (z4)) ∧ (Rot 64 (z5))) := by
  have h := loopS (T := Z7l) (E := Z7t) (step := (Z3n Zj Zk Z1g).step) (A := (Int × Int × (List Int) × (List Int) × (List Int) × (List Int) × (List Int) × (List Int) × (List Int) × (List Int) × (List Int))) (fun R k => (fun r => k (r), ())) (fun v => ((v.2.1.2.2.1).length = 3) ∧ ((v.2.1.2.2.2.1).length = 3) ∧ ((v.2.1.2.2.2.2.1).length = 3) ∧ ((v.2.1.2.2.2.2.2.1).length = 3) ∧ ((v.2.1.2.2.2.2.2.2.2.1).length = 8) ∧ ((v.2.2.2.1.1).length = 80) ∧ ((v.2.2.2.2.1.1).length = 8) ∧ ((v.2.2.2.2.2.1.1).length = 8) ∧ ((v.2.2.2.2.2.2.1.1).length = 8) ∧ ((v.1.2.2.2.2.2.1) = 80) ∧ (0 ≤ (v.1.2.2.2.2.2.2.1)) ∧ ((v.1.2.2.2.2.2.2.1) ≤ 80) ∧ (((v.2.2.2.2.2.2.2.1.1)).length = 80) ∧ ((v.2.1.1) = 64) ∧ ((v.2.1.2.1) = 80) ∧ (Rot 64 (v.2.1.2.2.1)) ∧ (Rot 64 (v.2.1.2.2.2.1)) ∧ (Rot 64 (v.2.1.2.2.2.2.1)) ∧ (Rot 64 (v.2.1.2.2.2.2.2.1))) (fun v => (80 - (v.1.2.2.2.2.2.2.1)).toNat) (fun p => ((p.2.2.1).length = 3) ∧ ((p.2.2.2.1).length = 3) ∧ ((p.2.2.2.2.1).length = 3) ∧ ((p.2.2.2.2.2.1).length = 3) ∧ ((p.2.2.2.2.2.2.1).length = 8) ∧ ((p.2.2.2.2.2.2.2.1).length = 80) ∧ ((p.2.2.2.2.2.2.2.2.1).length = 8) ∧ ((p.2.2.2.2.2.2.2.2.2.1).length = 8) ∧ ((p.2.2.2.2.2.2.2.2.2.2).length = 8) ∧ ((p.1) = 64) ∧ ((p.2.1) = 80) ∧ (Rot 64 (p.2.2.1)) ∧ (Rot 64 (p.2.2.2.1)) ∧ (Rot 64 (p.2.2.2.2.1)) ∧ (Rot 64 (p.2.2.2.2.2.1))) ?hs (Z40 x23 x24 x25 x26 x27 x28 x29 x30 x31 x32 x33 x34 x35 x36) (((), (), (), (), (), x23, x24, ()), ((x25, x26, x27, x28, x29, x30, (), x31, ()), ((), ()), (x32, ()), (x33, ()), (x34, ()), (x35, ()), (x36, ()), ())) i_ (by obtain ⟨i_0, i_1, i_2, i_3, i_4, i_5, i_6, i_7, i_8, i_9, i_10, i_11, i_12, i_13, i_14, i_15, i_16, i_17, i_18⟩ := i_; have hh : Z40 x23 x24 x25 x26 x27 x28 x29 x30 x31 x32 x33 x34 x35 x36 = 100000 + (x23.toNat + x24.toNat + x25.toNat + x26.toNat + x27.length + x28.length + x29.length + x30.length + x31.length + x32.length + x33.length + x34.length + x35.length + x36.length) := rfl; rw [hh]; first | omega | (simp only [ts] <;> omega))
  case hs =>
    intro v hv
    rcases Zhx (v.1.2.2.2.2.2.1) (v.1.2.2.2.2.2.2.1) (v.2.1.1) (v.2.1.2.1) (v.2.1.2.2.1) (v.2.1.2.2.2.1) (v.2.1.2.2.2.2.1) (v.2.1.2.2.2.2.2.1) (v.2.1.2.2.2.2.2.2.2.1) (v.2.2.2.1.1) (v.2.2.2.2.1.1) (v.2.2.2.2.2.1.1) (v.2.2.2.2.2.2.1.1) (v.2.2.2.2.2.2.2.1.1) hv with ⟨nx23, nx24, nx25, nx26, nx27, nx28, nx29, nx30, nx31, nx32, nx33, nx34, nx35, nx36, hq, e⟩ | ⟨z0, z1, z2, z3, z4, z5, z6, z7, z8, z9, z10, hq, e⟩
    · exact .inl ⟨(((), (), (), (), (), nx23, nx24, ()), ((nx25, nx26, nx27, nx28, nx29, nx30, (), nx31, ()), ((), ()), (nx32, ()), (nx33, ()), (nx34, ()), (nx35, ()), (nx36, ()), ())), (by obtain ⟨hq0, hq1, hq2, hq3, hq4, hq5, hq6, hq7, hq8, hq9, hq10, hq11, hq12, hq13, hq14, hq15, hq16, hq17, hq18, hq19⟩ := hq; exact ⟨⟨hq0, hq1, hq2, hq3, hq4, hq5, hq6, hq7, hq8, hq9, hq10, hq11, hq12, hq13, hq14, hq15, hq16, hq17, hq18⟩, hq19⟩), fun R next k => e R (fun nx23 nx24 nx25 nx26 nx27 nx28 nx29 nx30 nx31 nx32 nx33 nx34 nx35 nx36 => next (((), (), (), (), (), nx23, nx24, ()), ((nx25, nx26, nx27, nx28, nx29, nx30, (), nx31, ()), ((), ()), (nx32, ()), (nx33, ()), (nx34, ()), (nx35, ()), (nx36, ()), ()))) (fun z0 z1 z2 z3 z4 z5 z6 z7 z8 z9 z10 => k ((z0, z1, z2, z3, z4, z5, z6, z7, z8, z9, z10)))⟩
    · exact .inr ⟨(z0, z1, z2, z3, z4, z5, z6, z7, z8, z9, z10), hq, fun R next k => e R (fun nx23 nx24 nx25 nx26 nx27 nx28 nx29 nx30 nx31 nx32 nx33 nx34 nx35 nx36 => next (((), (), (), (), (), nx23, nx24, ()), ((nx25, nx26, nx27, nx28, nx29, nx30, (), nx31, ()), ((), ()), (nx32, ()), (nx33, ()), (nx34, ()), (nx35, ()), (nx36, ()), ()))) (fun z0 z1 z2 z3 z4 z5 z6 z7 z8 z9 z10 => k ((z0, z1, z2, z3, z4, z5, z6, z7, z8, z9, z10)))⟩
  obtain ⟨⟨z0, z1, z2, z3, z4, z5, z6, z7, z8, z9, z10⟩, hq, e⟩ := h
  · exact ⟨z0, z1, z2, z3, z4, z5, z6, z7, z8, z9, z10, hq, fun R k0 => e R (fun r => k0 (r.1) (r.2.1) (r.2.2.1) (r.2.2.2.1) (r.2.2.2.2.1) (r.2.2.2.2.2.1) (r.2.2.2.2.2.2.1) (r.2.2.2.2.2.2.2.1) (r.2.2.2.2.2.2.2.2.1) (r.2.2.2.2.2.2.2.2.2.1) (r.2.2.2.2.2.2.2.2.2.2))⟩
theorem Zhm (x80 x81 x82 : Int) (x83 x84 x85 x86 x87 x88 x89 x90 x91 : List Int) (i_ : ((x83).length = 3) ∧ ((x84).length = 3) ∧ ((x85).length = 3) ∧ ((x86).length = 3) ∧ ((x87).length = 8) ∧ ((x88).length = 80) ∧ ((x89).length = 8) ∧ ((x90).length = 8) ∧ ((x91).length = 8) ∧ (0 ≤ (x80)) ∧ ((x80) ≤ 8) ∧ ((x81) = 64) ∧ ((x82) = 80) ∧ (Rot 64 (x83)) ∧ (Rot 64 (x84)) ∧ (Rot 64 (x85)) ∧ (Rot 64 (x86))) : Z12r (fun R next k0 => Z68 Zj Zk Z1g R x80 x81 x82 x83 x84 x85 x86 x87 x88 x89 x90 x91 next k0) (fun nx80 nx81 nx82 nx83 nx84 nx85 nx86 nx87 nx88 nx89 nx90 nx91 => ((nx83).length = 3) ∧ ((nx84).length = 3) ∧ ((nx85).length = 3) ∧ ((nx86).length = 3) ∧ ((nx87).length = 8) ∧ ((nx88).length = 80) ∧ ((nx89).length = 8) ∧ ((nx90).length = 8) ∧ ((nx91).length = 8) ∧ (0 ≤ (nx80)) ∧ ((nx80) ≤ 8) ∧ ((nx81) = 64) ∧ ((nx82) = 80) ∧ (Rot 64 (nx83)) ∧ (Rot 64 (nx84)) ∧ (Rot 64 (nx85)) ∧ (Rot 64 (nx86)) ∧ ((8 - (nx80)).toNat < (8 - (x80)).toNat)) (fun z0 z1 z2 z3 z4 z5 z6 z7 z8 z9 => ((z2).length = 3) ∧ ((z3).length = 3) ∧ ((z4).length = 3) ∧ ((z5).length = 3) ∧ ((z6).length = 8) ∧ ((z7).length = 80) ∧ ((z8).length = 8) ∧ ((z9).length = 8) ∧ ((z0) = 64) ∧ ((z1) = 80) ∧ (Rot 64 (z2)) ∧ (Rot 64 (z3)) ∧ (Rot 64 (z4)) ∧ (Rot 64 (z5))) := by
  obtain ⟨i_0, i_1, i_2, i_3, i_4, i_5, i_6, i_7, i_8, i_9, i_10, i_11, i_12, i_13, i_14, i_15, i_16⟩ := i_
  refine Z12r.of ?_
  delta Z68
  refine Tot.br (fun h1 => ?_) (fun h1 => ?_)
  · first | simp (disch := omega) only [ts, *] at h1 | skip
    all_goals
      refine Tot.gd ?_
      refine Tot.gd ?_
      refine Tot.lett (fun v92 e_v92 => ?_)
      first | simp (disch := omega) only [ts, *] at e_v92 | skip
      refine Tot.gd ?_
      exact Tot.ret _
  · first | simp (disch := omega) only [ts, *] at h1 | skip
    all_goals
      exact Tot.ret _
theorem Zl1 (x80 x81 x82 : Int) (x83 x84 x85 x86 x87 x88 x89 x90 x91 : List Int) (i_ : autoParam (((x83).length = 3) ∧ ((x84).length = 3) ∧ ((x85).length = 3) ∧ ((x86).length = 3) ∧ ((x87).length = 8) ∧ ((x88).length = 80) ∧ ((x89).length = 8) ∧ ((x90).length = 8) ∧ ((x91).length = 8) ∧ (0 ≤ (x80)) ∧ ((x80) ≤ 8) ∧ ((x81) = 64) ∧ ((x82) = 80) ∧ (Rot 64 (x83)) ∧ (Rot 64 (x84)) ∧ (Rot 64 (x85)) ∧ (Rot 64 (x86))) sA._auto_1) : T_10 (fun R k0 => Ze6 Zj Zk Z1g R x80 x81 x82 x83 x84 x85 x86 x87 x88 x89 x90 x91 k0) (fun z0 z1 z2 z3 z4 z5 z6 z7 z8 z9 => ((z2).length = 3) ∧ ((z3).length = 3) ∧ ((z4).length = 3) ∧ ((z5).length = 3) ∧ ((z6).length = 8) ∧ ((z7).length = 80) ∧ ((z8).length = 8) ∧ ((z9).length = 8) ∧ ((z0) = 64) ∧ ((z1) = 80) ∧ (Rot 64 (z2)) ∧ (Rot 64 (z3)) ∧ (Rot 64 (z4)) ∧ (Rot 64 (z5))) := by
  have h := loopS (T := Z7o) (E := Z7r) (step := (Z3m Zj Zk Z1g).step) (A := (Int × Int × (List Int) × (List Int) × (List Int) × (List Int) × (List Int) × (List Int) × (List Int) × (List Int))) (fun R k => (fun r => k (r), ())) (fun v => ((v.2.1.2.2.1).length = 3) ∧ ((v.2.1.2.2.2.1).length = 3) ∧ ((v.2.1.2.2.2.2.1).length = 3) ∧ ((v.2.1.2.2.2.2.2.1).length = 3) ∧ ((v.2.1.2.2.2.2.2.2.2.1).length = 8) ∧ ((v.2.2.2.1.1).length = 80) ∧ ((v.2.2.2.2.1.1).length = 8) ∧ ((v.2.2.2.2.2.1.1).length = 8) ∧ ((v.2.2.2.2.2.2.1.1).length = 8) ∧ (0 ≤ (v.1.2.2.2.1)) ∧ ((v.1.2.2.2.1) ≤ 8) ∧ ((v.2.1.1) = 64) ∧ ((v.2.1.2.1) = 80) ∧ (Rot 64 (v.2.1.2.2.1)) ∧ (Rot 64 (v.2.1.2.2.2.1)) ∧ (Rot 64 (v.2.1.2.2.2.2.1)) ∧ (Rot 64 (v.2.1.2.2.2.2.2.1))) (fun v => (8 - (v.1.2.2.2.1)).toNat) (fun p => ((p.2.2.1).length = 3) ∧ ((p.2.2.2.1).length = 3) ∧ ((p.2.2.2.2.1).length = 3) ∧ ((p.2.2.2.2.2.1).length = 3) ∧ ((p.2.2.2.2.2.2.1).length = 8) ∧ ((p.2.2.2.2.2.2.2.1).length = 80) ∧ ((p.2.2.2.2.2.2.2.2.1).length = 8) ∧ ((p.2.2.2.2.2.2.2.2.2).length = 8) ∧ ((p.1) = 64) ∧ ((p.2.1) = 80) ∧ (Rot 64 (p.2.2.1)) ∧ (Rot 64 (p.2.2.2.1)) ∧ (Rot 64 (p.2.2.2.2.1)) ∧ (Rot 64 (p.2.2.2.2.2.1))) ?hs (Z41 x80 x81 x82 x83 x84 x85 x86 x87 x88 x89 x90 x91) (((), (), (), x80, ()), ((x81, x82, x83, x84, x85, x86, (), x87, ()), ((), ()), (x88, ()), (x89, ()), (x90, ()), (x91, ()), ())) i_ (by obtain ⟨i_0, i_1, i_2, i_3, i_4, i_5, i_6, i_7, i_8, i_9, i_10, i_11, i_12, i_13, i_14, i_15, i_16⟩ := i_; have hh : Z41 x80 x81 x82 x83 x84 x85 x86 x87 x88 x89 x90 x91 = 100000 + (x80.toNat + x81.toNat + x82.toNat + x83.length + x84.length + x85.length + x86.length + x87.length + x88.length + x89.length + x90.length + x91.length) := rfl; rw [hh]; first | omega | (simp only [ts] <;> omega))
  case hs =>
    intro v hv
    rcases Zhm (v.1.2.2.2.1) (v.2.1.1) (v.2.1.2.1) (v.2.1.2.2.1) (v.2.1.2.2.2.1) (v.2.1.2.2.2.2.1) (v.2.1.2.2.2.2.2.1) (v.2.1.2.2.2.2.2.2.2.1) (v.2.2.2.1.1) (v.2.2.2.2.1.1) (v.2.2.2.2.2.1.1) (v.2.2.2.2.2.2.1.1) hv with ⟨nx80, nx81, nx82, nx83, nx84, nx85, nx86, nx87, nx88, nx89, nx90, nx91, hq, e⟩ | ⟨z0, z1, z2, z3, z4, z5, z6, z7, z8, z9, hq, e⟩
    · exact .inl ⟨(((), (), (), nx80, ()), ((nx81, nx82, nx83, nx84, nx85, nx86, (), nx87, ()), ((), ()), (nx88, ()), (nx89, ()), (nx90, ()), (nx91, ()), ())), (by obtain ⟨hq0, hq1, hq2, hq3, hq4, hq5, hq6, hq7, hq8, hq9, hq10, hq11, hq12, hq13, hq14, hq15, hq16, hq17⟩ := hq; exact ⟨⟨hq0, hq1, hq2, hq3, hq4, hq5, hq6, hq7, hq8, hq9, hq10, hq11, hq12, hq13, hq14, hq15, hq16⟩, hq17⟩), fun R next k => e R (fun nx80 nx81 nx82 nx83 nx84 nx85 nx86 nx87 nx88 nx89 nx90 nx91 => next (((), (), (), nx80, ()), ((nx81, nx82, nx83, nx84, nx85, nx86, (), nx87, ()), ((), ()), (nx88, ()), (nx89, ()), (nx90, ()), (nx91, ()), ()))) (fun z0 z1 z2 z3 z4 z5 z6 z7 z8 z9 => k ((z0, z1, z2, z3, z4, z5, z6, z7, z8, z9)))⟩
    · exact .inr ⟨(z0, z1, z2, z3, z4, z5, z6, z7, z8, z9), hq, fun R next k => e R (fun nx80 nx81 nx82 nx83 nx84 nx85 nx86 nx87 nx88 nx89 nx90 nx91 => next (((), (), (), nx80, ()), ((nx81, nx82, nx83, nx84, nx85, nx86, (), nx87, ()), ((), ()), (nx88, ()), (nx89, ()), (nx90, ()), (nx91, ()), ()))) (fun z0 z1 z2 z3 z4 z5 z6 z7 z8 z9 => k ((z0, z1, z2, z3, z4, z5, z6, z7, z8, z9)))⟩
  obtain ⟨⟨z0, z1, z2, z3, z4, z5, z6, z7, z8, z9⟩, hq, e⟩ := h
  · exact ⟨z0, z1, z2, z3, z4, z5, z6, z7, z8, z9, hq, fun R k0 => e R (fun r => k0 (r.1) (r.2.1) (r.2.2.1) (r.2.2.2.1) (r.2.2.2.2.1) (r.2.2.2.2.2.1) (r.2.2.2.2.2.2.1) (r.2.2.2.2.2.2.2.1) (r.2.2.2.2.2.2.2.2.1) (r.2.2.2.2.2.2.2.2.2))⟩
theorem Zmv (a1 : List Int) (a2 : Str) (a3 a4 : Int) (a5 a6 a7 a8 a9 a10 : List Int) (h_ : autoParam (((a1).length = 8) ∧ ((a5).length = 3) ∧ ((a6).length = 3) ∧ ((a7).length = 3) ∧ ((a8).length = 3) ∧ ((a9).length = 8) ∧ ((a10).length = 80) ∧ (((a2)).length = 128) ∧ ((a3) = 64) ∧ ((a4) = 80) ∧ (Rot 64 (a5)) ∧ (Rot 64 (a6)) ∧ (Rot 64 (a7)) ∧ (Rot 64 (a8))) sA._auto_1) : T_9 (fun R k0 => Z0 R a1 a2 a3 a4 a5 a6 a7 a8 a9 a10 k0) (fun z0 z1 z2 z3 z4 z5 z6 z7 z8 => ((z0).length = 8) ∧ ((z3).length = 3) ∧ ((z4).length = 3) ∧ ((z5).length = 3) ∧ ((z6).length = 3) ∧ ((z7).length = 8) ∧ ((z8).length = 80) ∧ ((z1) = 64) ∧ ((z2) = 80) ∧ (Rot 64 (z3)) ∧ (Rot 64 (z4)) ∧ (Rot 64 (z5)) ∧ (Rot 64 (z6))) := by
  obtain ⟨h_0, h_1, h_2, h_3, h_4, h_5, h_6, h_7, h_8, h_9, h_10, h_11, h_12, h_13⟩ := h_
  refine T_9.of ?_
  delta Z0 Z8w
  refine Tot.lett (fun v11 e_v11 => ?_)
  have l_v11 := congrArg List.length e_v11
  first | simp (disch := omega) only [ts, *] at l_v11 | skip
  refine Tot.lett (fun v12 e_v12 => ?_)
  have l_v12 := congrArg List.length e_v12
  first | simp (disch := omega) only [ts, *] at l_v12 | skip
  refine T_9.bind (Zni a2 a3 a4 a5 a6 a7 a8 a9 a10) (fun r13 r14 r15 r16 r17 r18 r19 r20 r21 q1 => ?_)
  obtain ⟨q1_0, q1_1, q1_2, q1_3, q1_4, q1_5, q1_6, q1_7, q1_8, q1_9, q1_10, q1_11, q1_12⟩ := q1
  refine Tot.lett (fun v22 e_v22 => ?_)
  first | simp (disch := omega) only [ts, *] at e_v22 | skip
  refine T_11.bind (Zks v22 0 r13 r14 r15 r16 r17 r18 r19 r20 a1 v11 a1 r21) (fun y69 y70 y71 y72 y73 y74 y75 y76 y77 y78 y79 q2 => ?_)
  obtain ⟨q2_0, q2_1, q2_2, q2_3, q2_4, q2_5, q2_6, q2_7, q2_8, q2_9, q2_10, q2_11, q2_12, q2_13, q2_14⟩ := q2
  refine T_10.bind (Zl1 0 y69 y70 y71 y72 y73 y74 y75 y76 y77 y78 y79) (fun y93 y94 y95 y96 y97 y98 y99 y100 y101 y102 q3 => ?_)
  obtain ⟨q3_0, q3_1, q3_2, q3_3, q3_4, q3_5, q3_6, q3_7, q3_8, q3_9, q3_10, q3_11, q3_12, q3_13⟩ := q3
  exact Tot.ret _
theorem Zl7 (x10 : Str) (x11 x12 : Int) (x13 x14 x15 x16 x17 x18 : List Int) (x19 : Str) (i_ : ((x13).length = 3) ∧ ((x14).length = 3) ∧ ((x15).length = 3) ∧ ((x16).length = 3) ∧ ((x17).length = 8) ∧ ((x18).length = 80) ∧ (((x10)).length ≤ 1000000) ∧ (((x19)).length + ((128 - (((x19)).length + 16) % 128) % 128) ≤ 1000300) ∧ ((x11) = 64) ∧ ((x12) = 80) ∧ (Rot 64 (x13)) ∧ (Rot 64 (x14)) ∧ (Rot 64 (x15)) ∧ (Rot 64 (x16))) : Z12s (fun R next k0 => Z84 Z1 Z0 R x10 x11 x12 x13 x14 x15 x16 x17 x18 x19 next k0) (fun nx10 nx11 nx12 nx13 nx14 nx15 nx16 nx17 nx18 nx19 => ((nx13).length = 3) ∧ ((nx14).length = 3) ∧ ((nx15).length = 3) ∧ ((nx16).length = 3) ∧ ((nx17).length = 8) ∧ ((nx18).length = 80) ∧ (((nx10)).length ≤ 1000000) ∧ (((nx19)).length + ((128 - (((nx19)).length + 16) % 128) % 128) ≤ 1000300) ∧ ((nx11) = 64) ∧ ((nx12) = 80) ∧ (Rot 64 (nx13)) ∧ (Rot 64 (nx14)) ∧ (Rot 64 (nx15)) ∧ (Rot 64 (nx16)) ∧ ((128 - (((nx19)).length + 16) % 128) % 128 < (128 - (((x19)).length + 16) % 128) % 128)) (fun z0 z1 z2 z3 z4 z5 z6 z7 z8 z9 => ((z3).length = 3) ∧ ((z4).length = 3) ∧ ((z5).length = 3) ∧ ((z6).length = 3) ∧ ((z7).length = 8) ∧ ((z8).length = 80) ∧ (((z0)).length ≤ 1000000) ∧ (((z9)).length ≤ 1000300) ∧ ((((z9)).length + 16) % 128 = 0) ∧ ((z1) = 64) ∧ ((z2) = 80) ∧ (Rot 64 (z3)) ∧ (Rot 64 (z4)) ∧ (Rot 64 (z5)) ∧ (Rot 64 (z6))) := by
  obtain ⟨i_0, i_1, i_2, i_3, i_4, i_5, i_6, i_7, i_8, i_9, i_10, i_11, i_12, i_13⟩ := i_
  refine Z12s.of ?_
  delta Z84
  refine Tot.lett (fun v20 e_v20 => ?_)
  first | simp (disch := omega) only [ts, *] at e_v20 | skip
  refine Tot.lett (fun v21 e_v21 => ?_)
  first | simp (disch := omega) only [ts, *] at e_v21 | skip
  refine T_9.bind (Z74 x11 x12 x13 x14 x15 x16 x17 x18) (fun r22 r23 r24 r25 r26 r27 r28 r29 r30 q1 => ?_)
  obtain ⟨q1_0, q1_1, q1_2, q1_3, q1_4, q1_5, q1_6, q1_7, q1_8, q1_9, q1_10, q1_11, q1_12⟩ := q1
  refine Tot.gd ?_
  refine Tot.br (fun h2 => ?_) (fun h2 => ?_)
  · first | simp (disch := omega) only [ts, *] at h2 | skip
    all_goals
      refine Tot.gd ?_
      exact Tot.ret _
  · first | simp (disch := omega) only [ts, *] at h2 | skip
    all_goals
      exact Tot.ret _
theorem Zp0 (x10 : Str) (x11 x12 : Int) (x13 x14 x15 x16 x17 x18 : List Int) (x19 : Str) (i_ : autoParam (((x13).length = 3) ∧ ((x14).length = 3) ∧ ((x15).length = 3) ∧ ((x16).length = 3) ∧ ((x17).length = 8) ∧ ((x18).length = 80) ∧ (((x10)).length ≤ 1000000) ∧ (((x19)).length + ((128 - (((x19)).length + 16) % 128) % 128) ≤ 1000300) ∧ ((x11) = 64) ∧ ((x12) = 80) ∧ (Rot 64 (x13)) ∧ (Rot 64 (x14)) ∧ (Rot 64 (x15)) ∧ (Rot 64 (x16))) sA._auto_1) : T_10 (fun R k0 => Zhc Z1 Z0 R x10 x11 x12 x13 x14 x15 x16 x17 x18 x19 k0) (fun z0 z1 z2 z3 z4 z5 z6 z7 z8 z9 => ((z3).length = 3) ∧ ((z4).length = 3) ∧ ((z5).length = 3) ∧ ((z6).length = 3) ∧ ((z7).length = 8) ∧ ((z8).length = 80) ∧ (((z0)).length ≤ 1000000) ∧ (((z9)).length ≤ 1000300) ∧ ((((z9)).length + 16) % 128 = 0) ∧ ((z1) = 64) ∧ ((z2) = 80) ∧ (Rot 64 (z3)) ∧ (Rot 64 (z4)) ∧ (Rot 64 (z5)) ∧ (Rot 64 (z6))) := by
  have h := loopS (T := Z9t) (E := Za2) (step := (Z4o Z1 Z0).step) (A := (Str × Int × Int × (List Int) × (List Int) × (List Int) × (List Int) × (List Int) × (List Int) × Str)) (fun R k => (fun r => k (r), ())) (fun v => ((v.2.1.2.2.1).length = 3) ∧ ((v.2.1.2.2.2.1).length = 3) ∧ ((v.2.1.2.2.2.2.1).length = 3) ∧ ((v.2.1.2.2.2.2.2.1).length = 3) ∧ ((v.2.1.2.2.2.2.2.2.2.1).length = 8) ∧ ((v.2.2.2.1.1).length = 80) ∧ (((v.1.2.1)).length ≤ 1000000) ∧ (((v.2.2.2.2.1.1)).length + ((128 - (((v.2.2.2.2.1.1)).length + 16) % 128) % 128) ≤ 1000300) ∧ ((v.2.1.1) = 64) ∧ ((v.2.1.2.1) = 80) ∧ (Rot 64 (v.2.1.2.2.1)) ∧ (Rot 64 (v.2.1.2.2.2.1)) ∧ (Rot 64 (v.2.1.2.2.2.2.1)) ∧ (Rot 64 (v.2.1.2.2.2.2.2.1))) (fun v => (128 - (((v.2.2.2.2.1.1)).length + 16) % 128) % 128) (fun p => ((p.2.2.2.1).length = 3) ∧ ((p.2.2.2.2.1).length = 3) ∧ ((p.2.2.2.2.2.1).length = 3) ∧ ((p.2.2.2.2.2.2.1).length = 3) ∧ ((p.2.2.2.2.2.2.2.1).length = 8) ∧ ((p.2.2.2.2.2.2.2.2.1).length = 80) ∧ (((p.1)).length ≤ 1000000) ∧ (((p.2.2.2.2.2.2.2.2.2)).length ≤ 1000300) ∧ ((((p.2.2.2.2.2.2.2.2.2)).length + 16) % 128 = 0) ∧ ((p.2.1) = 64) ∧ ((p.2.2.1) = 80) ∧ (Rot 64 (p.2.2.2.1)) ∧ (Rot 64 (p.2.2.2.2.1)) ∧ (Rot 64 (p.2.2.2.2.2.1)) ∧ (Rot 64 (p.2.2.2.2.2.2.1))) ?hs (Z55 x10 x11 x12 x13 x14 x15 x16 x17 x18 x19) (((), x10, (), ()), ((x11, x12, x13, x14, x15, x16, (), x17, ()), ((), ()), (x18, ()), (x19, ()), ())) i_ (by obtain ⟨i_0, i_1, i_2, i_3, i_4, i_5, i_6, i_7, i_8, i_9, i_10, i_11, i_12, i_13⟩ := i_; have hh : Z55 x10 x11 x12 x13 x14 x15 x16 x17 x18 x19 = 100000 + (x10.length + x11.toNat + x12.toNat + x13.length + x14.length + x15.length + x16.length + x17.length + x18.length + x19.length) := rfl; rw [hh]; first | omega | (simp only [ts] <;> omega))
  case hs =>
    intro v hv
    rcases Zl7 (v.1.2.1) (v.2.1.1) (v.2.1.2.1) (v.2.1.2.2.1) (v.2.1.2.2.2.1) (v.2.1.2.2.2.2.1) (v.2.1.2.2.2.2.2.1) (v.2.1.2.2.2.2.2.2.2.1) (v.2.2.2.1.1) (v.2.2.2.2.1.1) hv with ⟨nx10, nx11, nx12, nx13, nx14, nx15, nx16, nx17, nx18, nx19, hq, e⟩ | ⟨z0, z1, z2, z3, z4, z5, z6, z7, z8, z9, hq, e⟩
    · exact .inl ⟨(((), nx10, (), ()), ((nx11, nx12, nx13, nx14, nx15, nx16, (), nx17, ()), ((), ()), (nx18, ()), (nx19, ()), ())), (by obtain ⟨hq0, hq1, hq2, hq3, hq4, hq5, hq6, hq7, hq8, hq9, hq10, hq11, hq12, hq13, hq14⟩ := hq; exact ⟨⟨hq0, hq1, hq2, hq3, hq4, hq5, hq6, hq7, hq8, hq9, hq10, hq11, hq12, hq13⟩, hq14⟩), fun R next k => e R (fun nx10 nx11 nx12 nx13 nx14 nx15 nx16 nx17 nx18 nx19 => next (((), nx10, (), ()), ((nx11, nx12, nx13, nx14, nx15, nx16, (), nx17, ()), ((), ()), (nx18, ()), (nx19, ()), ()))) (fun z0 z1 z2 z3 z4 z5 z6 z7 z8 z9 => k ((z0, z1, z2, z3, z4, z5, z6, z7, z8, z9)))⟩
    · exact .inr ⟨(z0, z1, z2, z3, z4, z5, z6, z7, z8, z9), hq, fun R next k => e R (fun nx10 nx11 nx12 nx13 nx14 nx15 nx16 nx17 nx18 nx19 => next (((), nx10, (), ()), ((nx11, nx12, nx13, nx14, nx15, nx16, (), nx17, ()), ((), ()), (nx18, ()), (nx19, ()), ()))) (fun z0 z1 z2 z3 z4 z5 z6 z7 z8 z9 => k ((z0, z1, z2, z3, z4, z5, z6, z7, z8, z9)))⟩
  obtain ⟨⟨z0, z1, z2, z3, z4, z5, z6, z7, z8, z9⟩, hq, e⟩ := h
  · exact ⟨z0, z1, z2, z3, z4, z5, z6, z7, z8, z9, hq, fun R k0 => e R (fun r => k0 (r.1) (r.2.1) (r.2.2.1) (r.2.2.2.1) (r.2.2.2.2.1) (r.2.2.2.2.2.1) (r.2.2.2.2.2.2.1) (r.2.2.2.2.2.2.2.1) (r.2.2.2.2.2.2.2.2.1) (r.2.2.2.2.2.2.2.2.2))⟩
theorem Zkx (x42 : Str) (x43 x44 x45 : Int) (x46 x47 x48 x49 x50 x51 : List Int) (x52 : Str) (i_ : ((x46).length = 3) ∧ ((x47).length = 3) ∧ ((x48).length = 3) ∧ ((x49).length = 3) ∧ ((x50).length = 8) ∧ ((x51).length = 80) ∧ (((x42)).length ≤ 1000000) ∧ (-1 ≤ (x43)) ∧ ((x43) ≤ 15) ∧ ((((x52)).length + ((x43) + 1).toNat) % 128 = 0) ∧ (((x52)).length + ((x43) + 1).toNat ≤ 1000400) ∧ ((x44) = 64) ∧ ((x45) = 80) ∧ (Rot 64 (x46)) ∧ (Rot 64 (x47)) ∧ (Rot 64 (x48)) ∧ (Rot 64 (x49))) : Zrg (fun R next k0 => Z87 Z1 Z0 R x42 x43 x44 x45 x46 x47 x48 x49 x50 x51 x52 next k0) (fun nx42 nx43 nx44 nx45 nx46 nx47 nx48 nx49 nx50 nx51 nx52 => ((nx46).length = 3) ∧ ((nx47).length = 3) ∧ ((nx48).length = 3) ∧ ((nx49).length = 3) ∧ ((nx50).length = 8) ∧ ((nx51).length = 80) ∧ (((nx42)).length ≤ 1000000) ∧ (-1 ≤ (nx43)) ∧ ((nx43) ≤ 15) ∧ ((((nx52)).length + ((nx43) + 1).toNat) % 128 = 0) ∧ (((nx52)).length + ((nx43) + 1).toNat ≤ 1000400) ∧ ((nx44) = 64) ∧ ((nx45) = 80) ∧ (Rot 64 (nx46)) ∧ (Rot 64 (nx47)) ∧ (Rot 64 (nx48)) ∧ (Rot 64 (nx49)) ∧ (((nx43) + 1).toNat < ((x43) + 1).toNat)) (fun z0 z1 z2 z3 z4 z5 z6 z7 z8 => ((z2).length = 3) ∧ ((z3).length = 3) ∧ ((z4).length = 3) ∧ ((z5).length = 3) ∧ ((z6).length = 8) ∧ ((z7).length = 80) ∧ (((z8)).length % 128 = 0) ∧ (((z8)).length ≤ 1000400) ∧ ((z0) = 64) ∧ ((z1) = 80) ∧ (Rot 64 (z2)) ∧ (Rot 64 (z3)) ∧ (Rot 64 (z4)) ∧ (Rot 64 (z5))) := by
  obtain ⟨i_0, i_1, i_2, i_3, i_4, i_5, i_6, i_7, i_8, i_9, i_10, i_11, i_12, i_13, i_14, i_15, i_16⟩ := i_
  refine Zrg.of ?_
  delta Z87
  refine Tot.br (fun h1 => ?_) (fun h1 => ?_)
  · first | simp (disch := omega) only [ts, *] at h1 | skip
    all_goals
      refine Tot.lett (fun v53 e_v53 => ?_)
      first | simp (disch := omega) only [ts, *] at e_v53 | skip
      refine Tot.lett (fun v54 e_v54 => ?_)
      first | simp (disch := omega) only [ts, *] at e_v54 | skip
      refine Tot.gd ?_
      refine Tot.lett (fun v55 e_v55 => ?_)
      first | simp (disch := omega) only [ts, *] at e_v55 | skip
      refine Tot.lett (fun v56 e_v56 => ?_)
      have l_v56 := congrArg List.length e_v56
      first | simp (disch := omega) only [ts, *] at l_v56 | skip
      refine Tot.gd ?_
      exact Tot.ret _
  · first | simp (disch := omega) only [ts, *] at h1 | skip
    all_goals
      exact Tot.ret _
theorem Zox (x42 : Str) (x43 x44 x45 : Int) (x46 x47 x48 x49 x50 x51 : List Int) (x52 : Str) (i_ : autoParam (((x46).length = 3) ∧ ((x47).length = 3) ∧ ((x48).length = 3) ∧ ((x49).length = 3) ∧ ((x50).length = 8) ∧ ((x51).length = 80) ∧ (((x42)).length ≤ 1000000) ∧ (-1 ≤ (x43)) ∧ ((x43) ≤ 15) ∧ ((((x52)).length + ((x43) + 1).toNat) % 128 = 0) ∧ (((x52)).length + ((x43) + 1).toNat ≤ 1000400) ∧ ((x44) = 64) ∧ ((x45) = 80) ∧ (Rot 64 (x46)) ∧ (Rot 64 (x47)) ∧ (Rot 64 (x48)) ∧ (Rot 64 (x49))) sA._auto_1) : T_9 (fun R k0 => Zhn Z1 Z0 R x42 x43 x44 x45 x46 x47 x48 x49 x50 x51 x52 k0) (fun z0 z1 z2 z3 z4 z5 z6 z7 z8 => ((z2).length = 3) ∧ ((z3).length = 3) ∧ ((z4).length = 3) ∧ ((z5).length = 3) ∧ ((z6).length = 8) ∧ ((z7).length = 80) ∧ (((z8)).length % 128 = 0) ∧ (((z8)).length ≤ 1000400) ∧ ((z0) = 64) ∧ ((z1) = 80) ∧ (Rot 64 (z2)) ∧ (Rot 64 (z3)) ∧ (Rot 64 (z4)) ∧ (Rot 64 (z5))) := by
  have h := loopS (T := Z9y) (E := Za0) (step := (Z4r Z1 Z0).step) (A := (Int × Int × (List Int) × (List Int) × (List Int) × (List Int) × (List Int) × (List Int) × Str)) (fun R k => (fun r => k (r), ())) (fun v => ((v.2.1.2.2.1).length = 3) ∧ ((v.2.1.2.2.2.1).length = 3) ∧ ((v.2.1.2.2.2.2.1).length = 3) ∧ ((v.2.1.2.2.2.2.2.1).length = 3) ∧ ((v.2.1.2.2.2.2.2.2.2.1).length = 8) ∧ ((v.2.2.2.1.1).length = 80) ∧ (((v.1.2.1)).length ≤ 1000000) ∧ (-1 ≤ (v.1.2.2.2.1)) ∧ ((v.1.2.2.2.1) ≤ 15) ∧ ((((v.2.2.2.2.1.1)).length + ((v.1.2.2.2.1) + 1).toNat) % 128 = 0) ∧ (((v.2.2.2.2.1.1)).length + ((v.1.2.2.2.1) + 1).toNat ≤ 1000400) ∧ ((v.2.1.1) = 64) ∧ ((v.2.1.2.1) = 80) ∧ (Rot 64 (v.2.1.2.2.1)) ∧ (Rot 64 (v.2.1.2.2.2.1)) ∧ (Rot 64 (v.2.1.2.2.2.2.1)) ∧ (Rot 64 (v.2.1.2.2.2.2.2.1))) (fun v => ((v.1.2.2.2.1) + 1).toNat) (fun p => ((p.2.2.1).length = 3) ∧ ((p.2.2.2.1).length = 3) ∧ ((p.2.2.2.2.1).length = 3) ∧ ((p.2.2.2.2.2.1).length = 3) ∧ ((p.2.2.2.2.2.2.1).length = 8) ∧ ((p.2.2.2.2.2.2.2.1).length = 80) ∧ (((p.2.2.2.2.2.2.2.2)).length % 128 = 0) ∧ (((p.2.2.2.2.2.2.2.2)).length ≤ 1000400) ∧ ((p.1) = 64) ∧ ((p.2.1) = 80) ∧ (Rot 64 (p.2.2.1)) ∧ (Rot 64 (p.2.2.2.1)) ∧ (Rot 64 (p.2.2.2.2.1)) ∧ (Rot 64 (p.2.2.2.2.2.1))) ?hs (Z51 x42 x43 x44 x45 x46 x47 x48 x49 x50 x51 x52) (((), x42, (), x43, ()), ((x44, x45, x46, x47, x48, x49, (), x50, ()), ((), ()), (x51, ()), (x52, ()), ())) i_ (by obtain ⟨i_0, i_1, i_2, i_3, i_4, i_5, i_6, i_7, i_8, i_9, i_10, i_11, i_12, i_13, i_14, i_15, i_16⟩ := i_; have hh : Z51 x42 x43 x44 x45 x46 x47 x48 x49 x50 x51 x52 = 100000 + (x42.length + x43.toNat + x44.toNat + x45.toNat + x46.length + x47.length + x48.length + x49.length + x50.length + x51.length + x52.length) := rfl; rw [hh]; first | omega | (simp only [ts] <;> omega))
  case hs =>
    intro v hv
    rcases Zkx (v.1.2.1) (v.1.2.2.2.1) (v.2.1.1) (v.2.1.2.1) (v.2.1.2.2.1) (v.2.1.2.2.2.1) (v.2.1.2.2.2.2.1) (v.2.1.2.2.2.2.2.1) (v.2.1.2.2.2.2.2.2.2.1) (v.2.2.2.1.1) (v.2.2.2.2.1.1) hv with ⟨nx42, nx43, nx44, nx45, nx46, nx47, nx48, nx49, nx50, nx51, nx52, hq, e⟩ | ⟨z0, z1, z2, z3, z4, z5, z6, z7, z8, hq, e⟩
    · exact .inl ⟨(((), nx42, (), nx43, ()), ((nx44, nx45, nx46, nx47, nx48, nx49, (), nx50, ()), ((), ()), (nx51, ()), (nx52, ()), ())), (by obtain ⟨hq0, hq1, hq2, hq3, hq4, hq5, hq6, hq7, hq8, hq9, hq10, hq11, hq12, hq13, hq14, hq15, hq16, hq17⟩ := hq; exact ⟨⟨hq0, hq1, hq2, hq3, hq4, hq5, hq6, hq7, hq8, hq9, hq10, hq11, hq12, hq13, hq14, hq15, hq16⟩, hq17⟩), fun R next k => e R (fun nx42 nx43 nx44 nx45 nx46 nx47 nx48 nx49 nx50 nx51 nx52 => next (((), nx42, (), nx43, ()), ((nx44, nx45, nx46, nx47, nx48, nx49, (), nx50, ()), ((), ()), (nx51, ()), (nx52, ()), ()))) (fun z0 z1 z2 z3 z4 z5 z6 z7 z8 => k ((z0, z1, z2, z3, z4, z5, z6, z7, z8)))⟩
    · exact .inr ⟨(z0, z1, z2, z3, z4, z5, z6, z7, z8), hq, fun R next k => e R (fun nx42 nx43 nx44 nx45 nx46 nx47 nx48 nx49 nx50 nx51 nx52 => next (((), nx42, (), nx43, ()), ((nx44, nx45, nx46, nx47, nx48, nx49, (), nx50, ()), ((), ()), (nx51, ()), (nx52, ()), ()))) (fun z0 z1 z2 z3 z4 z5 z6 z7 z8 => k ((z0, z1, z2, z3, z4, z5, z6, z7, z8)))⟩
  obtain ⟨⟨z0, z1, z2, z3, z4, z5, z6, z7, z8⟩, hq, e⟩ := h
  · exact ⟨z0, z1, z2, z3, z4, z5, z6, z7, z8, hq, fun R k0 => e R (fun r => k0 (r.1) (r.2.1) (r.2.2.1) (r.2.2.2.1) (r.2.2.2.2.1) (r.2.2.2.2.2.1) (r.2.2.2.2.2.2.1) (r.2.2.2.2.2.2.2.1) (r.2.2.2.2.2.2.2.2))⟩
theorem Zl2 (x67 x68 x69 : Int) (x70 x71 x72 x73 x74 x75 : List Int) (x76 : Str) (x77 : List Int) (i_ : ((x70).length = 3) ∧ ((x71).length = 3) ∧ ((x72).length = 3) ∧ ((x73).length = 3) ∧ ((x74).length = 8) ∧ ((x75).length = 80) ∧ ((x77).length = 8) ∧ (0 ≤ (x67)) ∧ ((x67) % 128 = 0) ∧ ((x67) ≤ (((x76)).length : Int)) ∧ (((x76)).length % 128 = 0) ∧ (((x76)).length ≤ 1000400) ∧ ((x68) = 64) ∧ ((x69) = 80) ∧ (Rot 64 (x70)) ∧ (Rot 64 (x71)) ∧ (Rot 64 (x72)) ∧ (Rot 64 (x73))) : Zrg (fun R next k0 => Z8c Z1 Z0 R x67 x68 x69 x70 x71 x72 x73 x74 x75 x76 x77 next k0) (fun nx67 nx68 nx69 nx70 nx71 nx72 nx73 nx74 nx75 nx76 nx77 => ((nx70).length = 3) ∧ ((nx71).length = 3) ∧ ((nx72).length = 3) ∧ ((nx73).length = 3) ∧ ((nx74).length = 8) ∧ ((nx75).length = 80) ∧ ((nx77).length = 8) ∧ (0 ≤ (nx67)) ∧ ((nx67) % 128 = 0) ∧ ((nx67) ≤ (((nx76)).length : Int)) ∧ (((nx76)).length % 128 = 0) ∧ (((nx76)).length ≤ 1000400) ∧ ((nx68) = 64) ∧ ((nx69) = 80) ∧ (Rot 64 (nx70)) ∧ (Rot 64 (nx71)) ∧ (Rot 64 (nx72)) ∧ (Rot 64 (nx73)) ∧ (((((nx76)).length : Int) - (nx67)).toNat < ((((x76)).length : Int) - (x67)).toNat)) (fun z0 z1 z2 z3 z4 z5 z6 z7 z8 => ((z2).length = 3) ∧ ((z3).length = 3) ∧ ((z4).length = 3) ∧ ((z5).length = 3) ∧ ((z6).length = 8) ∧ ((z7).length = 80) ∧ ((z8).length = 8) ∧ ((z0) = 64) ∧ ((z1) = 80) ∧ (Rot 64 (z2)) ∧ (Rot 64 (z3)) ∧ (Rot 64 (z4)) ∧ (Rot 64 (z5))) := by
  obtain ⟨i_0, i_1, i_2, i_3, i_4, i_5, i_6, i_7, i_8, i_9, i_10, i_11, i_12, i_13, i_14, i_15, i_16, i_17⟩ := i_
  refine Zrg.of ?_
  delta Z8c
  refine Tot.lett (fun v78 e_v78 => ?_)
  first | simp (disch := omega) only [ts, *] at e_v78 | skip
  refine Tot.br (fun h1 => ?_) (fun h1 => ?_)
  · first | simp (disch := omega) only [ts, *] at h1 | skip
    all_goals
      refine T_9.bind (Z74 x68 x69 x70 x71 x72 x73 x74 x75) (fun r79 r80 r81 r82 r83 r84 r85 r86 r87 q2 => ?_)
      obtain ⟨q2_0, q2_1, q2_2, q2_3, q2_4, q2_5, q2_6, q2_7, q2_8, q2_9, q2_10, q2_11, q2_12⟩ := q2
      refine Tot.gd ?_
      refine Tot.gd ?_
      refine Tot.lett (fun v88 e_v88 => ?_)
      have l_v88 := congrArg List.length e_v88
      first | simp (disch := omega) only [ts, *] at l_v88 | skip
      refine T_9.bind (Zmv x77 v88 x68 x69 x70 x71 x72 x73 x74 x75) (fun r89 r90 r91 r92 r93 r94 r95 r96 r97 q3 => ?_)
      obtain ⟨q3_0, q3_1, q3_2, q3_3, q3_4, q3_5, q3_6, q3_7, q3_8, q3_9, q3_10, q3_11, q3_12⟩ := q3
      refine T_9.bind (Z74 r90 r91 r92 r93 r94 r95 r96 r97) (fun r98 r99 r100 r101 r102 r103 r104 r105 r106 q4 => ?_)
      obtain ⟨q4_0, q4_1, q4_2, q4_3, q4_4, q4_5, q4_6, q4_7, q4_8, q4_9, q4_10, q4_11, q4_12⟩ := q4
      exact Tot.ret _
  · first | simp (disch := omega) only [ts, *] at h1 | skip
    all_goals
      exact Tot.ret _
theorem Zpn (x67 x68 x69 : Int) (x70 x71 x72 x73 x74 x75 : List Int) (x76 : Str) (x77 : List Int) (i_ : autoParam (((x70).length = 3) ∧ ((x71).length = 3) ∧ ((x72).length = 3) ∧ ((x73).length = 3) ∧ ((x74).length = 8) ∧ ((x75).length = 80) ∧ ((x77).length = 8) ∧ (0 ≤ (x67)) ∧ ((x67) % 128 = 0) ∧ ((x67) ≤ (((x76)).length : Int)) ∧ (((x76)).length % 128 = 0) ∧ (((x76)).length ≤ 1000400) ∧ ((x68) = 64) ∧ ((x69) = 80) ∧ (Rot 64 (x70)) ∧ (Rot 64 (x71)) ∧ (Rot 64 (x72)) ∧ (Rot 64 (x73))) sA._auto_1) : T_9 (fun R k0 => Zhz Z1 Z0 R x67 x68 x69 x70 x71 x72 x73 x74 x75 x76 x77 k0) (fun z0 z1 z2 z3 z4 z5 z6 z7 z8 => ((z2).length = 3) ∧ ((z3).length = 3) ∧ ((z4).length = 3) ∧ ((z5).length = 3) ∧ ((z6).length = 8) ∧ ((z7).length = 80) ∧ ((z8).length = 8) ∧ ((z0) = 64) ∧ ((z1) = 80) ∧ (Rot 64 (z2)) ∧ (Rot 64 (z3)) ∧ (Rot 64 (z4)) ∧ (Rot 64 (z5))) := by
  have h := loopS (T := Za9) (E := Z9z) (step := (Z4n Z1 Z0).step) (A := (Int × Int × (List Int) × (List Int) × (List Int) × (List Int) × (List Int) × (List Int) × (List Int))) (fun R k => (fun r => k (r), ())) (fun v => ((v.2.1.2.2.1).length = 3) ∧ ((v.2.1.2.2.2.1).length = 3) ∧ ((v.2.1.2.2.2.2.1).length = 3) ∧ ((v.2.1.2.2.2.2.2.1).length = 3) ∧ ((v.2.1.2.2.2.2.2.2.2.1).length = 8) ∧ ((v.2.2.2.1.1).length = 80) ∧ ((v.2.2.2.2.2.1.1).length = 8) ∧ (0 ≤ (v.1.2.2.2.1)) ∧ ((v.1.2.2.2.1) % 128 = 0) ∧ ((v.1.2.2.2.1) ≤ (((v.2.2.2.2.1.1)).length : Int)) ∧ (((v.2.2.2.2.1.1)).length % 128 = 0) ∧ (((v.2.2.2.2.1.1)).length ≤ 1000400) ∧ ((v.2.1.1) = 64) ∧ ((v.2.1.2.1) = 80) ∧ (Rot 64 (v.2.1.2.2.1)) ∧ (Rot 64 (v.2.1.2.2.2.1)) ∧ (Rot 64 (v.2.1.2.2.2.2.1)) ∧ (Rot 64 (v.2.1.2.2.2.2.2.1))) (fun v => ((((v.2.2.2.2.1.1)).length : Int) - (v.1.2.2.2.1)).toNat) (fun p => ((p.2.2.1).length = 3) ∧ ((p.2.2.2.1).length = 3) ∧ ((p.2.2.2.2.1).length = 3) ∧ ((p.2.2.2.2.2.1).length = 3) ∧ ((p.2.2.2.2.2.2.1).length = 8) ∧ ((p.2.2.2.2.2.2.2.1).length = 80) ∧ ((p.2.2.2.2.2.2.2.2).length = 8) ∧ ((p.1) = 64) ∧ ((p.2.1) = 80) ∧ (Rot 64 (p.2.2.1)) ∧ (Rot 64 (p.2.2.2.1)) ∧ (Rot 64 (p.2.2.2.2.1)) ∧ (Rot 64 (p.2.2.2.2.2.1))) ?hs (Z57 x67 x68 x69 x70 x71 x72 x73 x74 x75 x76 x77) (((), (), (), x67, ()), ((x68, x69, x70, x71, x72, x73, (), x74, ()), ((), ()), (x75, ()), (x76, ()), (x77, ()), ())) i_ (by obtain ⟨i_0, i_1, i_2, i_3, i_4, i_5, i_6, i_7, i_8, i_9, i_10, i_11, i_12, i_13, i_14, i_15, i_16, i_17⟩ := i_; have hh : Z57 x67 x68 x69 x70 x71 x72 x73 x74 x75 x76 x77 = 100000 + (x67.toNat + x68.toNat + x69.toNat + x70.length + x71.length + x72.length + x73.length + x74.length + x75.length + x76.length + x77.length) := rfl; rw [hh]; first | omega | (simp only [ts] <;> omega))
  case hs =>
    intro v hv
    rcases Zl2 (v.1.2.2.2.1) (v.2.1.1) (v.2.1.2.1) (v.2.1.2.2.1) (v.2.1.2.2.2.1) (v.2.1.2.2.2.2.1) (v.2.1.2.2.2.2.2.1) (v.2.1.2.2.2.2.2.2.2.1) (v.2.2.2.1.1) (v.2.2.2.2.1.1) (v.2.2.2.2.2.1.1) hv with ⟨nx67, nx68, nx69, nx70, nx71, nx72, nx73, nx74, nx75, nx76, nx77, hq, e⟩ | ⟨z0, z1, z2, z3, z4, z5, z6, z7, z8, hq, e⟩
    · exact .inl ⟨(((), (), (), nx67, ()), ((nx68, nx69, nx70, nx71, nx72, nx73, (), nx74, ()), ((), ()), (nx75, ()), (nx76, ()), (nx77, ()), ())), (by obtain ⟨hq0, hq1, hq2, hq3, hq4, hq5, hq6, hq7, hq8, hq9, hq10, hq11, hq12, hq13, hq14, hq15, hq16, hq17, hq18⟩ := hq; exact ⟨⟨hq0, hq1, hq2, hq3, hq4, hq5, hq6, hq7, hq8, hq9, hq10, hq11, hq12, hq13, hq14, hq15, hq16, hq17⟩, hq18⟩), fun R next k => e R (fun nx67 nx68 nx69 nx70 nx71 nx72 nx73 nx74 nx75 nx76 nx77 => next (((), (), (), nx67, ()), ((nx68, nx69, nx70, nx71, nx72, nx73, (), nx74, ()), ((), ()), (nx75, ()), (nx76, ()), (nx77, ()), ()))) (fun z0 z1 z2 z3 z4 z5 z6 z7 z8 => k ((z0, z1, z2, z3, z4, z5, z6, z7, z8)))⟩
    · exact .inr ⟨(z0, z1, z2, z3, z4, z5, z6, z7, z8), hq, fun R next k => e R (fun nx67 nx68 nx69 nx70 nx71 nx72 nx73 nx74 nx75 nx76 nx77 => next (((), (), (), nx67, ()), ((nx68, nx69, nx70, nx71, nx72, nx73, (), nx74, ()), ((), ()), (nx75, ()), (nx76, ()), (nx77, ()), ()))) (fun z0 z1 z2 z3 z4 z5 z6 z7 z8 => k ((z0, z1, z2, z3, z4, z5, z6, z7, z8)))⟩
  obtain ⟨⟨z0, z1, z2, z3, z4, z5, z6, z7, z8⟩, hq, e⟩ := h
  · exact ⟨z0, z1, z2, z3, z4, z5, z6, z7, z8, hq, fun R k0 => e R (fun r => k0 (r.1) (r.2.1) (r.2.2.1) (r.2.2.2.1) (r.2.2.2.2.1) (r.2.2.2.2.2.1) (r.2.2.2.2.2.2.1) (r.2.2.2.2.2.2.2.1) (r.2.2.2.2.2.2.2.2))⟩
theorem Zl3 (gx177 gx178 : Int) (gx179 : List Int) (gx180 gx181 gx182 : Int) (gx183 gx184 gx185 gx186 gx187 gx188 : List Int) (gx189 : Str) (x177 x178 : Int) (x179 : List Int) (x180 x181 x182 : Int) (x183 x184 x185 x186 x187 x188 : List Int) (x189 : Str) (i_ : ((x179).length = 8) ∧ ((x183).length = 3) ∧ ((x184).length = 3) ∧ ((x185).length = 3) ∧ ((x186).length = 3) ∧ ((x187).length = 8) ∧ ((x188).length = 80) ∧ ((x180) = (gx180)) ∧ (-8 ≤ (x178)) ∧ ((x178) ≤ 56) ∧ ((x178) % 8 = 0) ∧ (0 ≤ (x180)) ∧ ((x180) < 8) ∧ ((((x189)).length : Int) = 8 * (x180) + 7 - (x178) / 8) ∧ ((x181) = 64) ∧ ((x182) = 80) ∧ (Rot 64 (x183)) ∧ (Rot 64 (x184)) ∧ (Rot 64 (x185)) ∧ (Rot 64 (x186))) : Z12p (fun R next k0 => Z8h Z1 Z0 R x177 x178 x179 x180 x181 x182 x183 x184 x185 x186 x187 x188 x189 next k0) (fun nx177 nx178 nx179 nx180 nx181 nx182 nx183 nx184 nx185 nx186 nx187 nx188 nx189 => ((nx179).length = 8) ∧ ((nx183).length = 3) ∧ ((nx184).length = 3) ∧ ((nx185).length = 3) ∧ ((nx186).length = 3) ∧ ((nx187).length = 8) ∧ ((nx188).length = 80) ∧ ((nx180) = (gx180)) ∧ (-8 ≤ (nx178)) ∧ ((nx178) ≤ 56) ∧ ((nx178) % 8 = 0) ∧ (0 ≤ (nx180)) ∧ ((nx180) < 8) ∧ ((((nx189)).length : Int) = 8 * (nx180) + 7 - (nx178) / 8) ∧ ((nx181) = 64) ∧ ((nx182) = 80) ∧ (Rot 64 (nx183)) ∧ (Rot 64 (nx184)) ∧ (Rot 64 (nx185)) ∧ (Rot 64 (nx186)) ∧ (((nx178) + 8).toNat < ((x178) + 8).toNat)) (fun z0 z1 z2 z3 z4 z5 z6 z7 z8 z9 z10 => ((z0).length = 8) ∧ ((z4).length = 3) ∧ ((z5).length = 3) ∧ ((z6).length = 3) ∧ ((z7).length = 3) ∧ ((z8).length = 8) ∧ ((z9).length = 80) ∧ ((z1) = (gx180)) ∧ ((((z10)).length : Int) = 8 * (gx180) + 8) ∧ ((z2) = 64) ∧ ((z3) = 80) ∧ (Rot 64 (z4)) ∧ (Rot 64 (z5)) ∧ (Rot 64 (z6)) ∧ (Rot 64 (z7))) := by
  obtain ⟨i_0, i_1, i_2, i_3, i_4, i_5, i_6, i_7, i_8, i_9, i_10, i_11, i_12, i_13, i_14, i_15, i_16, i_17, i_18, i_19⟩ := i_
  refine Z12p.of ?_
  delta Z8h
  refine Tot.br (fun h1 => ?_) (fun h1 => ?_)
  · first | simp (disch := omega) only [ts, *] at h1 | skip
    all_goals
      refine Tot.gd ?_
      refine Tot.lett (fun v190 e_v190 => ?_)
      first | simp (disch := omega) only [ts, *] at e_v190 | skip
      refine Tot.gd ?_
      refine Tot.lett (fun v191 e_v191 => ?_)
      have l_v191 := congrArg List.length e_v191
      first | simp (disch := omega) only [ts, *] at l_v191 | skip
      exact Tot.ret _
  · first | simp (disch := omega) only [ts, *] at h1 | skip
    all_goals
      exact Tot.ret _
theorem Zpb (x177 x178 : Int) (x179 : List Int) (x180 x181 x182 : Int) (x183 x184 x185 x186 x187 x188 : List Int) (x189 : Str) (i_ : autoParam (((x179).length = 8) ∧ ((x183).length = 3) ∧ ((x184).length = 3) ∧ ((x185).length = 3) ∧ ((x186).length = 3) ∧ ((x187).length = 8) ∧ ((x188).length = 80) ∧ ((x180) = (x180)) ∧ (-8 ≤ (x178)) ∧ ((x178) ≤ 56) ∧ ((x178) % 8 = 0) ∧ (0 ≤ (x180)) ∧ ((x180) < 8) ∧ ((((x189)).length : Int) = 8 * (x180) + 7 - (x178) / 8) ∧ ((x181) = 64) ∧ ((x182) = 80) ∧ (Rot 64 (x183)) ∧ (Rot 64 (x184)) ∧ (Rot 64 (x185)) ∧ (Rot 64 (x186))) sA._auto_1) : T_11 (fun R k0 => Zhd Z1 Z0 R x177 x178 x179 x180 x181 x182 x183 x184 x185 x186 x187 x188 x189 k0) (fun z0 z1 z2 z3 z4 z5 z6 z7 z8 z9 z10 => ((z0).length = 8) ∧ ((z4).length = 3) ∧ ((z5).length = 3) ∧ ((z6).length = 3) ∧ ((z7).length = 3) ∧ ((z8).length = 8) ∧ ((z9).length = 80) ∧ ((z1) = (x180)) ∧ ((((z10)).length : Int) = 8 * (x180) + 8) ∧ ((z2) = 64) ∧ ((z3) = 80) ∧ (Rot 64 (z4)) ∧ (Rot 64 (z5)) ∧ (Rot 64 (z6)) ∧ (Rot 64 (z7))) := by
  have h := loopS (T := Za6) (E := Zaa) (step := (Z4p Z1 Z0).step) (A := ((List Int) × Int × Int × Int × (List Int) × (List Int) × (List Int) × (List Int) × (List Int) × (List Int) × Str)) (fun R k => (fun r => k (r), ())) (fun v => ((v.1.2.2.2.2.1.1).length = 8) ∧ ((v.2.1.2.2.1).length = 3) ∧ ((v.2.1.2.2.2.1).length = 3) ∧ ((v.2.1.2.2.2.2.1).length = 3) ∧ ((v.2.1.2.2.2.2.2.1).length = 3) ∧ ((v.2.1.2.2.2.2.2.2.2.1).length = 8) ∧ ((v.2.2.2.1.1).length = 80) ∧ ((v.1.2.2.2.2.2.1) = (x180)) ∧ (-8 ≤ (v.1.2.2.2.1)) ∧ ((v.1.2.2.2.1) ≤ 56) ∧ ((v.1.2.2.2.1) % 8 = 0) ∧ (0 ≤ (v.1.2.2.2.2.2.1)) ∧ ((v.1.2.2.2.2.2.1) < 8) ∧ ((((v.2.2.2.2.1.1)).length : Int) = 8 * (v.1.2.2.2.2.2.1) + 7 - (v.1.2.2.2.1) / 8) ∧ ((v.2.1.1) = 64) ∧ ((v.2.1.2.1) = 80) ∧ (Rot 64 (v.2.1.2.2.1)) ∧ (Rot 64 (v.2.1.2.2.2.1)) ∧ (Rot 64 (v.2.1.2.2.2.2.1)) ∧ (Rot 64 (v.2.1.2.2.2.2.2.1))) (fun v => ((v.1.2.2.2.1) + 8).toNat) (fun p => ((p.1).length = 8) ∧ ((p.2.2.2.2.1).length = 3) ∧ ((p.2.2.2.2.2.1).length = 3) ∧ ((p.2.2.2.2.2.2.1).length = 3) ∧ ((p.2.2.2.2.2.2.2.1).length = 3) ∧ ((p.2.2.2.2.2.2.2.2.1).length = 8) ∧ ((p.2.2.2.2.2.2.2.2.2.1).length = 80) ∧ ((p.2.1) = (x180)) ∧ ((((p.2.2.2.2.2.2.2.2.2.2)).length : Int) = 8 * (x180) + 8) ∧ ((p.2.2.1) = 64) ∧ ((p.2.2.2.1) = 80) ∧ (Rot 64 (p.2.2.2.2.1)) ∧ (Rot 64 (p.2.2.2.2.2.1)) ∧ (Rot 64 (p.2.2.2.2.2.2.1)) ∧ (Rot 64 (p.2.2.2.2.2.2.2.1))) ?hs (Z52 x177 x178 x179 x180 x181 x182 x183 x184 x185 x186 x187 x188 x189) (((), (), x177, x178, (x179, ()), x180, ()), ((x181, x182, x183, x184, x185, x186, (), x187, ()), ((), ()), (x188, ()), (x189, ()), ())) i_ (by obtain ⟨i_0, i_1, i_2, i_3, i_4, i_5, i_6, i_7, i_8, i_9, i_10, i_11, i_12, i_13, i_14, i_15, i_16, i_17, i_18, i_19⟩ := i_; have hh : Z52 x177 x178 x179 x180 x181 x182 x183 x184 x185 x186 x187 x188 x189 = 100000 + (x177.toNat + x178.toNat + x179.length + x180.toNat + x181.toNat + x182.toNat + x183.length + x184.length + x185.length + x186.length + x187.length + x188.length + x189.length) := rfl; rw [hh]; first | omega | (simp only [ts] <;> omega))
  case hs =>
    intro v hv
    rcases Zl3 x177 x178 x179 x180 x181 x182 x183 x184 x185 x186 x187 x188 x189 (v.1.2.2.1) (v.1.2.2.2.1) (v.1.2.2.2.2.1.1) (v.1.2.2.2.2.2.1) (v.2.1.1) (v.2.1.2.1) (v.2.1.2.2.1) (v.2.1.2.2.2.1) (v.2.1.2.2.2.2.1) (v.2.1.2.2.2.2.2.1) (v.2.1.2.2.2.2.2.2.2.1) (v.2.2.2.1.1) (v.2.2.2.2.1.1) hv with ⟨nx177, nx178, nx179, nx180, nx181, nx182, nx183, nx184, nx185, nx186, nx187, nx188, nx189, hq, e⟩ | ⟨z0, z1, z2, z3, z4, z5, z6, z7, z8, z9, z10, hq, e⟩
    · exact .inl ⟨(((), (), nx177, nx178, (nx179, ()), nx180, ()), ((nx181, nx182, nx183, nx184, nx185, nx186, (), nx187, ()), ((), ()), (nx188, ()), (nx189, ()), ())), (by obtain ⟨hq0, hq1, hq2, hq3, hq4, hq5, hq6, hq7, hq8, hq9, hq10, hq11, hq12, hq13, hq14, hq15, hq16, hq17, hq18, hq19, hq20⟩ := hq; exact ⟨⟨hq0, hq1, hq2, hq3, hq4, hq5, hq6, hq7, hq8, hq9, hq10, hq11, hq12, hq13, hq14, hq15, hq16, hq17, hq18, hq19⟩, hq20⟩), fun R next k => e R (fun nx177 nx178 nx179 nx180 nx181 nx182 nx183 nx184 nx185 nx186 nx187 nx188 nx189 => next (((), (), nx177, nx178, (nx179, ()), nx180, ()), ((nx181, nx182, nx183, nx184, nx185, nx186, (), nx187, ()), ((), ()), (nx188, ()), (nx189, ()), ()))) (fun z0 z1 z2 z3 z4 z5 z6 z7 z8 z9 z10 => k ((z0, z1, z2, z3, z4, z5, z6, z7, z8, z9, z10)))⟩
    · exact .inr ⟨(z0, z1, z2, z3, z4, z5, z6, z7, z8, z9, z10), hq, fun R next k => e R (fun nx177 nx178 nx179 nx180 nx181 nx182 nx183 nx184 nx185 nx186 nx187 nx188 nx189 => next (((), (), nx177, nx178, (nx179, ()), nx180, ()), ((nx181, nx182, nx183, nx184, nx185, nx186, (), nx187, ()), ((), ()), (nx188, ()), (nx189, ()), ()))) (fun z0 z1 z2 z3 z4 z5 z6 z7 z8 z9 z10 => k ((z0, z1, z2, z3, z4, z5, z6, z7, z8, z9, z10)))⟩
  obtain ⟨⟨z0, z1, z2, z3, z4, z5, z6, z7, z8, z9, z10⟩, hq, e⟩ := h
  · exact ⟨z0, z1, z2, z3, z4, z5, z6, z7, z8, z9, z10, hq, fun R k0 => e R (fun r => k0 (r.1) (r.2.1) (r.2.2.1) (r.2.2.2.1) (r.2.2.2.2.1) (r.2.2.2.2.2.1) (r.2.2.2.2.2.2.1) (r.2.2.2.2.2.2.2.1) (r.2.2.2.2.2.2.2.2.1) (r.2.2.2.2.2.2.2.2.2.1) (r.2.2.2.2.2.2.2.2.2.2))⟩
theorem Zld (x166 : List Int) (x167 x168 x169 : Int) (x170 x171 x172 x173 x174 x175 : List Int) (x176 : Str) (i_ : ((x166).length = 8) ∧ ((x170).length = 3) ∧ ((x171).length = 3) ∧ ((x172).length = 3) ∧ ((x173).length = 3) ∧ ((x174).length = 8) ∧ ((x175).length = 80) ∧ (0 ≤ (x167)) ∧ ((x167) ≤ 8) ∧ ((((x176)).length : Int) = 8 * (x167)) ∧ ((x168) = 64) ∧ ((x169) = 80) ∧ (Rot 64 (x170)) ∧ (Rot 64 (x171)) ∧ (Rot 64 (x172)) ∧ (Rot 64 (x173))) : Zrg (fun R next k0 => Z8b Z1 Z0 R x166 x167 x168 x169 x170 x171 x172 x173 x174 x175 x176 next k0) (fun nx166 nx167 nx168 nx169 nx170 nx171 nx172 nx173 nx174 nx175 nx176 => ((nx166).length = 8) ∧ ((nx170).length = 3) ∧ ((nx171).length = 3) ∧ ((nx172).length = 3) ∧ ((nx173).length = 3) ∧ ((nx174).length = 8) ∧ ((nx175).length = 80) ∧ (0 ≤ (nx167)) ∧ ((nx167) ≤ 8) ∧ ((((nx176)).length : Int) = 8 * (nx167)) ∧ ((nx168) = 64) ∧ ((nx169) = 80) ∧ (Rot 64 (nx170)) ∧ (Rot 64 (nx171)) ∧ (Rot 64 (nx172)) ∧ (Rot 64 (nx173)) ∧ ((8 - (nx167)).toNat < (8 - (x167)).toNat)) (fun z0 z1 z2 z3 z4 z5 z6 z7 z8 => ((z2).length = 3) ∧ ((z3).length = 3) ∧ ((z4).length = 3) ∧ ((z5).length = 3) ∧ ((z6).length = 8) ∧ ((z7).length = 80) ∧ (((z8)).length = 64) ∧ ((z0) = 64) ∧ ((z1) = 80) ∧ (Rot 64 (z2)) ∧ (Rot 64 (z3)) ∧ (Rot 64 (z4)) ∧ (Rot 64 (z5))) := by
  obtain ⟨i_0, i_1, i_2, i_3, i_4, i_5, i_6, i_7, i_8, i_9, i_10, i_11, i_12, i_13, i_14, i_15⟩ := i_
  refine Zrg.of ?_
  delta Z8b
  refine Tot.br (fun h1 => ?_) (fun h1 => ?_)
  · first | simp (disch := omega) only [ts, *] at h1 | skip
    all_goals
      refine Tot.gd ?_
      refine T_11.bind (Zpb (x166.getD x167.toNat 0) (subI .i64 x168 8) x166 x167 x168 x169 x170 x171 x172 x173 x174 x175 x176) (fun y192 y193 y194 y195 y196 y197 y198 y199 y200 y201 y202 q2 => ?_)
      obtain ⟨q2_0, q2_1, q2_2, q2_3, q2_4, q2_5, q2_6, q2_7, q2_8, q2_9, q2_10, q2_11, q2_12, q2_13, q2_14⟩ := q2
      exact Tot.ret _
  · first | simp (disch := omega) only [ts, *] at h1 | skip
    all_goals
      exact Tot.ret _
theorem Zpg (x166 : List Int) (x167 x168 x169 : Int) (x170 x171 x172 x173 x174 x175 : List Int) (x176 : Str) (i_ : autoParam (((x166).length = 8) ∧ ((x170).length = 3) ∧ ((x171).length = 3) ∧ ((x172).length = 3) ∧ ((x173).length = 3) ∧ ((x174).length = 8) ∧ ((x175).length = 80) ∧ (0 ≤ (x167)) ∧ ((x167) ≤ 8) ∧ ((((x176)).length : Int) = 8 * (x167)) ∧ ((x168) = 64) ∧ ((x169) = 80) ∧ (Rot 64 (x170)) ∧ (Rot 64 (x171)) ∧ (Rot 64 (x172)) ∧ (Rot 64 (x173))) sA._auto_1) : T_9 (fun R k0 => Zhs Z1 Z0 R x166 x167 x168 x169 x170 x171 x172 x173 x174 x175 x176 k0) (fun z0 z1 z2 z3 z4 z5 z6 z7 z8 => ((z2).length = 3) ∧ ((z3).length = 3) ∧ ((z4).length = 3) ∧ ((z5).length = 3) ∧ ((z6).length = 8) ∧ ((z7).length = 80) ∧ (((z8)).length = 64) ∧ ((z0) = 64) ∧ ((z1) = 80) ∧ (Rot 64 (z2)) ∧ (Rot 64 (z3)) ∧ (Rot 64 (z4)) ∧ (Rot 64 (z5))) := by
  have h := loopS (T := Za3) (E := Z9u) (step := (Z4l Z1 Z0).step) (A := (Int × Int × (List Int) × (List Int) × (List Int) × (List Int) × (List Int) × (List Int) × Str)) (fun R k => (fun r => k (r), ())) (fun v => ((v.1.2.2.1.1).length = 8) ∧ ((v.2.1.2.2.1).length = 3) ∧ ((v.2.1.2.2.2.1).length = 3) ∧ ((v.2.1.2.2.2.2.1).length = 3) ∧ ((v.2.1.2.2.2.2.2.1).length = 3) ∧ ((v.2.1.2.2.2.2.2.2.2.1).length = 8) ∧ ((v.2.2.2.1.1).length = 80) ∧ (0 ≤ (v.1.2.2.2.1)) ∧ ((v.1.2.2.2.1) ≤ 8) ∧ ((((v.2.2.2.2.1.1)).length : Int) = 8 * (v.1.2.2.2.1)) ∧ ((v.2.1.1) = 64) ∧ ((v.2.1.2.1) = 80) ∧ (Rot 64 (v.2.1.2.2.1)) ∧ (Rot 64 (v.2.1.2.2.2.1)) ∧ (Rot 64 (v.2.1.2.2.2.2.1)) ∧ (Rot 64 (v.2.1.2.2.2.2.2.1))) (fun v => (8 - (v.1.2.2.2.1)).toNat) (fun p => ((p.2.2.1).length = 3) ∧ ((p.2.2.2.1).length = 3) ∧ ((p.2.2.2.2.1).length = 3) ∧ ((p.2.2.2.2.2.1).length = 3) ∧ ((p.2.2.2.2.2.2.1).length = 8) ∧ ((p.2.2.2.2.2.2.2.1).length = 80) ∧ (((p.2.2.2.2.2.2.2.2)).length = 64) ∧ ((p.1) = 64) ∧ ((p.2.1) = 80) ∧ (Rot 64 (p.2.2.1)) ∧ (Rot 64 (p.2.2.2.1)) ∧ (Rot 64 (p.2.2.2.2.1)) ∧ (Rot 64 (p.2.2.2.2.2.1))) ?hs (Z56 x166 x167 x168 x169 x170 x171 x172 x173 x174 x175 x176) (((), (), (x166, ()), x167, ()), ((x168, x169, x170, x171, x172, x173, (), x174, ()), ((), ()), (x175, ()), (x176, ()), ())) i_ (by obtain ⟨i_0, i_1, i_2, i_3, i_4, i_5, i_6, i_7, i_8, i_9, i_10, i_11, i_12, i_13, i_14, i_15⟩ := i_; have hh : Z56 x166 x167 x168 x169 x170 x171 x172 x173 x174 x175 x176 = 100000 + (x166.length + x167.toNat + x168.toNat + x169.toNat + x170.length + x171.length + x172.length + x173.length + x174.length + x175.length + x176.length) := rfl; rw [hh]; first | omega | (simp only [ts] <;> omega))
  case hs =>
    intro v hv
    rcases Zld (v.1.2.2.1.1) (v.1.2.2.2.1) (v.2.1.1) (v.2.1.2.1) (v.2.1.2.2.1) (v.2.1.2.2.2.1) (v.2.1.2.2.2.2.1) (v.2.1.2.2.2.2.2.1) (v.2.1.2.2.2.2.2.2.2.1) (v.2.2.2.1.1) (v.2.2.2.2.1.1) hv with ⟨nx166, nx167, nx168, nx169, nx170, nx171, nx172, nx173, nx174, nx175, nx176, hq, e⟩ | ⟨z0, z1, z2, z3, z4, z5, z6, z7, z8, hq, e⟩
    · exact .inl ⟨(((), (), (nx166, ()), nx167, ()), ((nx168, nx169, nx170, nx171, nx172, nx173, (), nx174, ()), ((), ()), (nx175, ()), (nx176, ()), ())), (by obtain ⟨hq0, hq1, hq2, hq3, hq4, hq5, hq6, hq7, hq8, hq9, hq10, hq11, hq12, hq13, hq14, hq15, hq16⟩ := hq; exact ⟨⟨hq0, hq1, hq2, hq3, hq4, hq5, hq6, hq7, hq8, hq9, hq10, hq11, hq12, hq13, hq14, hq15⟩, hq16⟩), fun R next k => e R (fun nx166 nx167 nx168 nx169 nx170 nx171 nx172 nx173 nx174 nx175 nx176 => next (((), (), (nx166, ()), nx167, ()), ((nx168, nx169, nx170, nx171, nx172, nx173, (), nx174, ()), ((), ()), (nx175, ()), (nx176, ()), ()))) (fun z0 z1 z2 z3 z4 z5 z6 z7 z8 => k ((z0, z1, z2, z3, z4, z5, z6, z7, z8)))⟩
    · exact .inr ⟨(z0, z1, z2, z3, z4, z5, z6, z7, z8), hq, fun R next k => e R (fun nx166 nx167 nx168 nx169 nx170 nx171 nx172 nx173 nx174 nx175 nx176 => next (((), (), (nx166, ()), nx167, ()), ((nx168, nx169, nx170, nx171, nx172, nx173, (), nx174, ()), ((), ()), (nx175, ()), (nx176, ()), ()))) (fun z0 z1 z2 z3 z4 z5 z6 z7 z8 => k ((z0, z1, z2, z3, z4, z5, z6, z7, z8)))⟩
  obtain ⟨⟨z0, z1, z2, z3, z4, z5, z6, z7, z8⟩, hq, e⟩ := h
  · exact ⟨z0, z1, z2, z3, z4, z5, z6, z7, z8, hq, fun R k0 => e R (fun r => k0 (r.1) (r.2.1) (r.2.2.1) (r.2.2.2.1) (r.2.2.2.2.1) (r.2.2.2.2.2.1) (r.2.2.2.2.2.2.1) (r.2.2.2.2.2.2.2.1) (r.2.2.2.2.2.2.2.2))⟩
theorem Zsp (a1 : Str) (a2 a3 : Int) (a4 a5 a6 a7 a8 a9 : List Int) (h_ : autoParam (((a4).length = 3) ∧ ((a5).length = 3) ∧ ((a6).length = 3) ∧ ((a7).length = 3) ∧ ((a8).length = 8) ∧ ((a9).length = 80) ∧ (((a1)).length ≤ 1000000) ∧ ((a2) = 64) ∧ ((a3) = 80) ∧ (Rot 64 (a4)) ∧ (Rot 64 (a5)) ∧ (Rot 64 (a6)) ∧ (Rot 64 (a7))) sA._auto_1) : T_9 (fun R k0 => Z5s R a1 a2 a3 a4 a5 a6 a7 a8 a9 k0) (fun z0 z1 z2 z3 z4 z5 z6 z7 z8 => ((z3).length = 3) ∧ ((z4).length = 3) ∧ ((z5).length = 3) ∧ ((z6).length = 3) ∧ ((z7).length = 8) ∧ ((z8).length = 80) ∧ (((z0)).length = 64) ∧ ((z1) = 64) ∧ ((z2) = 80) ∧ (Rot 64 (z3)) ∧ (Rot 64 (z4)) ∧ (Rot 64 (z5)) ∧ (Rot 64 (z6))) := by
  obtain ⟨h_0, h_1, h_2, h_3, h_4, h_5, h_6, h_7, h_8, h_9, h_10, h_11, h_12⟩ := h_
  refine T_9.of ?_
  delta Z5s Zbm
  refine Tot.gd ?_
  refine T_10.bind (Zp0 a1 a2 a3 a4 a5 a6 a7 a8 a9 (a1 ++ ([128] : Str))) (fun y31 y32 y33 y34 y35 y36 y37 y38 y39 y40 q1 => ?_)
  obtain ⟨q1_0, q1_1, q1_2, q1_3, q1_4, q1_5, q1_6, q1_7, q1_8, q1_9, q1_10, q1_11, q1_12, q1_13, q1_14⟩ := q1
  refine Tot.lett (fun v41 e_v41 => ?_)
  first | simp (disch := omega) only [ts, *] at e_v41 | skip
  refine T_9.bind (Zox y31 v41 y32 y33 y34 y35 y36 y37 y38 y39 y40) (fun y57 y58 y59 y60 y61 y62 y63 y64 y65 q2 => ?_)
  obtain ⟨q2_0, q2_1, q2_2, q2_3, q2_4, q2_5, q2_6, q2_7, q2_8, q2_9, q2_10, q2_11, q2_12, q2_13⟩ := q2
  refine Tot.lett (fun v66 e_v66 => ?_)
  have l_v66 := congrArg List.length e_v66
  first | simp (disch := omega) only [ts, *] at l_v66 | skip
  refine T_9.bind (Zpn 0 y57 y58 y59 y60 y61 y62 y63 y64 y65 y63) (fun y107 y108 y109 y110 y111 y112 y113 y114 y115 q3 => ?_)
  obtain ⟨q3_0, q3_1, q3_2, q3_3, q3_4, q3_5, q3_6, q3_7, q3_8, q3_9, q3_10, q3_11, q3_12⟩ := q3
  refine T_9.bind (Zpg y115 0 y107 y108 y109 y110 y111 y112 y113 y114 ([] : Str)) (fun y203 y204 y205 y206 y207 y208 y209 y210 y211 q4 => ?_)
  obtain ⟨q4_0, q4_1, q4_2, q4_3, q4_4, q4_5, q4_6, q4_7, q4_8, q4_9, q4_10, q4_11, q4_12⟩ := q4
  exact Tot.ret _
theorem Zwy (a1 : Str) (h_ : autoParam ((((a1)).length ≤ 1000000)) sA._auto_1) : T_1 (fun R k0 => Zcz R a1 k0) (fun z0 => (((z0)).length = 64)) := by
  refine T_1.of ?_
  delta Zcz Zuk
  refine T_8.bind (Z157) (fun r2 r3 r4 r5 r6 r7 r8 r9 q1 => ?_)
  obtain ⟨q1_0, q1_1, q1_2, q1_3, q1_4, q1_5, q1_6, q1_7, q1_8, q1_9, q1_10, q1_11⟩ := q1
  refine T_9.bind (Zsp a1 r2 r3 r4 r5 r6 r7 r8 r9) (fun r10 r11 r12 r13 r14 r15 r16 r17 r18 q2 => ?_)
  obtain ⟨q2_0, q2_1, q2_2, q2_3, q2_4, q2_5, q2_6, q2_7, q2_8, q2_9, q2_10, q2_11, q2_12⟩ := q2
  exact Tot.ret _
theorem Zzq (a1 : Int) (a2 : Str) (h_ : autoParam ((((a2)).length ≤ 1000000) ∧ ((a1) = 64)) sA._auto_1) : T_3 (fun R k0 => Z2z R a1 a2 k0) (fun z0 z1 z2 => (((z0)).length = 64)) := by
  obtain ⟨h_0, h_1⟩ := h_
  refine T_3.of ?_
  delta Z2z Zhh
  refine Tot.br (fun h1 => ?_) (fun h1 => ?_)
  · exfalso; simp (disch := omega) only [ts] at h1; omega
  · first | simp (disch := omega) only [ts, *] at h1 | skip
    all_goals
      refine T_1.bind (Zwy a2) (fun r4 q2 => ?_)
      replace q2 : ((r4)).length = 64 := q2
      exact Tot.ret _
theorem Zsr (x12 x13 : Int) (x14 : List Str) (x15 : Int) (x16 : Str) (i_ : ((x12) = (((x14)).length : Int)) ∧ (0 ≤ (x13)) ∧ ((x13) ≤ (x12)) ∧ ((x15) = 64) ∧ (∀ t ∈ (x14), t.length ≤ 10000) ∧ (((x16)).length ≤ 10000 * (x13).toNat) ∧ (((x14)).length ≤ 4)) : Zwk (fun R next k0 => Zcm Z5p Z3d Z2a Z2z Z5r R x12 x13 x14 x15 x16 next k0) (fun nx12 nx13 nx14 nx15 nx16 => ((nx12) = (((nx14)).length : Int)) ∧ (0 ≤ (nx13)) ∧ ((nx13) ≤ (nx12)) ∧ ((nx15) = 64) ∧ (∀ t ∈ (nx14), t.length ≤ 10000) ∧ (((nx16)).length ≤ 10000 * (nx13).toNat) ∧ (((nx14)).length ≤ 4) ∧ (((nx12) - (nx13)).toNat < ((x12) - (x13)).toNat)) (fun z0 z1 z2 => ((z1) = 64) ∧ (((z2)).length ≤ 40000)) := by
  obtain ⟨i_0, i_1, i_2, i_3, i_4, i_5, i_6⟩ := i_
  refine Zwk.of ?_
  delta Zcm
  have hg := getD_len (B := 10000) (l := (x14)) (by assumption) ((x13)).toNat
  refine Tot.br (fun h1 => ?_) (fun h1 => ?_)
  · first | simp (disch := omega) only [ts, *] at h1 | skip
    all_goals
      refine Tot.gd ?_
      refine T_3.bind (Zvw (x14.getD x13.toNat []) x15 x16) (fun r17 r18 r19 q2 => ?_)
      obtain ⟨q2_0, q2_1⟩ := q2
      exact Tot.ret _
  · first | simp (disch := omega) only [ts, *] at h1 | skip
    all_goals
      exact Tot.ret _
theorem Zx2 (x12 x13 : Int) (x14 : List Str) (x15 : Int) (x16 : Str) (i_ : autoParam (((x12) = (((x14)).length : Int)) ∧ (0 ≤ (x13)) ∧ ((x13) ≤ (x12)) ∧ ((x15) = 64) ∧ (∀ t ∈ (x14), t.length ≤ 10000) ∧ (((x16)).length ≤ 10000 * (x13).toNat) ∧ (((x14)).length ≤ 4)) sA._auto_1) : T_3 (fun R k0 => Zqq Z5p Z3d Z2a Z2z Z5r R x12 x13 x14 x15 x16 k0) (fun z0 z1 z2 => ((z1) = 64) ∧ (((z2)).length ≤ 40000)) := by
  have h := loopS (T := Zgc) (E := Zgp) (step := (Z8x Z5p Z3d Z2a Z2z Z5r).step) (A := ((List Str) × Int × Str)) (fun R k => (fun r => k (r), ())) (fun v => ((v.1.2.2.1) = (((v.2.1.1)).length : Int)) ∧ (0 ≤ (v.1.2.2.2.1)) ∧ ((v.1.2.2.2.1) ≤ (v.1.2.2.1)) ∧ ((v.2.2.1.1) = 64) ∧ (∀ t ∈ (v.2.1.1), t.length ≤ 10000) ∧ (((v.2.2.2.1.1)).length ≤ 10000 * (v.1.2.2.2.1).toNat) ∧ (((v.2.1.1)).length ≤ 4)) (fun v => ((v.1.2.2.1) - (v.1.2.2.2.1)).toNat) (fun p => ((p.2.1) = 64) ∧ (((p.2.2)).length ≤ 40000)) ?hs (Z8i x12 x13 x14 x15 x16) (((), (), x12, x13, ()), ((x14, ()), (x15, (), ()), (x16, ()), ())) i_ (by obtain ⟨i_0, i_1, i_2, i_3, i_4, i_5, i_6⟩ := i_; have hh : Z8i x12 x13 x14 x15 x16 = 100000 + (x12.toNat + x13.toNat + x14.length + x15.toNat + x16.length) := rfl; rw [hh]; first | omega | (simp only [ts] <;> omega))
  case hs =>
    intro v hv
    rcases Zsr (v.1.2.2.1) (v.1.2.2.2.1) (v.2.1.1) (v.2.2.1.1) (v.2.2.2.1.1) hv with ⟨nx12, nx13, nx14, nx15, nx16, hq, e⟩ | ⟨z0, z1, z2, hq, e⟩
    · exact .inl ⟨(((), (), nx12, nx13, ()), ((nx14, ()), (nx15, (), ()), (nx16, ()), ())), (by obtain ⟨hq0, hq1, hq2, hq3, hq4, hq5, hq6, hq7⟩ := hq; exact ⟨⟨hq0, hq1, hq2, hq3, hq4, hq5, hq6⟩, hq7⟩), fun R next k => e R (fun nx12 nx13 nx14 nx15 nx16 => next (((), (), nx12, nx13, ()), ((nx14, ()), (nx15, (), ()), (nx16, ()), ()))) (fun z0 z1 z2 => k ((z0, z1, z2)))⟩
    · exact .inr ⟨(z0, z1, z2), hq, fun R next k => e R (fun nx12 nx13 nx14 nx15 nx16 => next (((), (), nx12, nx13, ()), ((nx14, ()), (nx15, (), ()), (nx16, ()), ()))) (fun z0 z1 z2 => k ((z0, z1, z2)))⟩
  obtain ⟨⟨z0, z1, z2⟩, hq, e⟩ := h
  · exact ⟨z0, z1, z2, hq, fun R k0 => e R (fun r => k0 (r.1) (r.2.1) (r.2.2))⟩
theorem Zfi (a1 : List Str) (h_ : autoParam ((∀ t ∈ (a1), t.length ≤ 10000) ∧ (((a1)).length ≤ 4)) sA._auto_1) : T_2 (fun R k0 => Z64 R a1 k0) (fun z0 z1 => (((z0)).length = 32)) := by
  obtain ⟨h_0, h_1⟩ := h_
  refine T_2.of ?_
  delta Z64 Zj2
  refine T_2.bind (Z13n) (fun r2 r3 q1 => ?_)
  obtain ⟨q1_0, q1_1⟩ := q1
  refine Tot.lett (fun v4 e_v4 => ?_)
  first | simp (disch := omega) only [ts, *] at e_v4 | skip
  refine T_3.bind (Zx2 v4 0 a1 r3 ([] : Str)) (fun y20 y21 y22 q2 => ?_)
  obtain ⟨q2_0, q2_1⟩ := q2
  refine T_3.bind (Zzq y21 y22) (fun r23 r24 r25 q3 => ?_)
  replace q3 : ((r23)).length = 64 := q3
  refine T_2.bind (Z14a r23) (fun r26 r27 q4 => ?_)
  replace q4 : ((r26)).length = 32 := q4
  exact Tot.ret _
theorem Z14k (a1 a2 a3 : Str) (h_ : autoParam ((((a2)).length ≤ 10000)) sA._auto_1) : T_1 (fun R k0 => Ze3 R a1 a2 a3 k0) (fun z0 => True) := by
  refine T_1.of ?_
  delta Ze3 Zrn
  refine T_5.bind (Z10u a1) (fun r4 r5 r6 r7 r8 q1 => ?_)
  obtain ⟨q1_0, q1_1, q1_2, q1_3, q1_4⟩ := q1
  refine Tot.lett (fun v9 e_v9 => ?_)
  have l_v9 := congrArg List.length e_v9
  first | simp (disch := omega) only [ts, *] at l_v9 | skip
  refine Tot.lett (fun v10 e_v10 => ?_)
  have l_v10 := congrArg List.length e_v10
  first | simp (disch := omega) only [ts, *] at l_v10 | skip
  refine Tot.lett (fun v11 e_v11 => ?_)
  have l_v11 := congrArg List.length e_v11
  first | simp (disch := omega) only [ts, *] at l_v11 | skip
  refine Tot.lett (fun v12 e_v12 => ?_)
  have l_v12 := congrArg List.length e_v12
  first | simp (disch := omega) only [ts, *] at l_v12 | skip
  refine Tot.br (fun h2 => ?_) (fun h2 => ?_)
  · first | simp (disch := omega) only [ts, *] at h2 | skip
    all_goals
      exact Tot.ret _
  · first | simp (disch := omega) only [ts, *] at h2 | skip
    all_goals
      refine Tot.lett (fun v13 e_v13 => ?_)
      first | simp (disch := omega) only [ts, *] at e_v13 | skip
      refine Tot.br (fun h3 => ?_) (fun h3 => ?_)
      · first | simp (disch := omega) only [ts, *] at h3 | skip
        all_goals
          exact Tot.ret _
      · first | simp (disch := omega) only [ts, *] at h3 | skip
        all_goals
          refine Tot.gd ?_
          refine T_1.bind (Z131 (a3.drop 32)) (fun r14 q4 => ?_)
          refine Tot.br (fun h5 => ?_) (fun h5 => ?_)
          · first | simp (disch := omega) only [ts, *] at h5 | skip
            all_goals
              exact Tot.ret _
          · first | simp (disch := omega) only [ts, *] at h5 | skip
            all_goals
              refine Tot.gd ?_
              refine Tot.gd ?_
              refine Tot.lett (fun v15 e_v15 => ?_)
              have l_v15 := congrArg List.length e_v15
              first | simp (disch := omega) only [ts, *] at l_v15 | skip
              refine Tot.lett (fun v16 e_v16 => ?_)
              have l_v16 := congrArg List.length e_v16
              first | simp (disch := omega) only [ts, *] at l_v16 | skip
              refine Tot.lett (fun v17 e_v17 => ?_)
              have l_v17 := congrArg List.length e_v17
              first | simp (disch := omega) only [ts, *] at l_v17 | skip
              refine Tot.lett (fun v18 e_v18 => ?_)
              have l_v18 := congrArg List.length e_v18
              first | simp (disch := omega) only [ts, *] at l_v18 | skip
              refine T_4.bind (Zwo) (fun r19 r20 r21 r22 q6 => ?_)
              obtain ⟨q6_0, q6_1, q6_2, q6_3⟩ := q6
              refine T_5.bind (Zew r19 r20 r21 r22 (a3.drop 32)) (fun r23 r24 r25 r26 r27 q7 => ?_)
              obtain ⟨q7_0, q7_1, q7_2, q7_3⟩ := q7
              refine Tot.lett (fun v28 e_v28 => ?_)
              have l_v28 := congrArg List.length e_v28
              first | simp (disch := omega) only [ts, *] at l_v28 | skip
              refine Tot.lett (fun v29 e_v29 => ?_)
              have l_v29 := congrArg List.length e_v29
              first | simp (disch := omega) only [ts, *] at l_v29 | skip
              refine Tot.lett (fun v30 e_v30 => ?_)
              have l_v30 := congrArg List.length e_v30
              first | simp (disch := omega) only [ts, *] at l_v30 | skip
              refine Tot.lett (fun v31 e_v31 => ?_)
              have l_v31 := congrArg List.length e_v31
              first | simp (disch := omega) only [ts, *] at l_v31 | skip
              refine T_2.bind (Zfi ([a3.take 32, a1, a2] : List Str) ⟨(by simp (disch := omega) only [ts, List.forall_mem_cons, List.not_mem_nil, false_imp_iff, implies_true, and_true] <;> omega), (by first | trivial | assumption | omega | (simp (disch := omega) only [ts] <;> omega) | (simp (disch := omega) only [ts, *] <;> omega) | (subst_vars; decide))⟩) (fun r32 r33 q8 => ?_)
              replace q8 : ((r32)).length = 32 := q8
              refine T_5.bind (Zew r4 r5 r6 r7 r32) (fun r34 r35 r36 r37 r38 q9 => ?_)
              obtain ⟨q9_0, q9_1, q9_2, q9_3⟩ := q9
              refine T_4.bind (Z101 r34 r35 r36 r37) (fun r39 r40 r41 r42 q10 => ?_)
              obtain ⟨q10_0, q10_1, q10_2, q10_3⟩ := q10
              refine T_4.bind (Z10d r23 r24 r25 r26 r39 r40 r41 r42) (fun r43 r44 r45 r46 q11 => ?_)
              obtain ⟨q11_0, q11_1, q11_2, q11_3⟩ := q11
              refine T_1.bind (Zka r43 r44 r45 r46) (fun r47 q12 => ?_)
              replace q12 : ((r47)).length = 32 := q12
              refine Tot.br (fun h13 => ?_) (fun h13 => ?_)
              · first | simp (disch := omega) only [ts, *] at h13 | skip
                all_goals
                  exact Tot.ret _
              · first | simp (disch := omega) only [ts, *] at h13 | skip
                all_goals
                  exact Tot.ret _
theorem Zww (a1 : Str) : T_1 (fun R k0 => Zck R a1 k0) (fun z0 => (((z0)).length = 32)) := by
  refine T_1.of ?_
  delta Zck Zv8
  refine T_4.bind (Zwo) (fun r2 r3 r4 r5 q1 => ?_)
  obtain ⟨q1_0, q1_1, q1_2, q1_3⟩ := q1
  refine T_5.bind (Zew r2 r3 r4 r5 a1) (fun r6 r7 r8 r9 r10 q2 => ?_)
  obtain ⟨q2_0, q2_1, q2_2, q2_3⟩ := q2
  refine Tot.lett (fun v11 e_v11 => ?_)
  have l_v11 := congrArg List.length e_v11
  first | simp (disch := omega) only [ts, *] at l_v11 | skip
  refine Tot.lett (fun v12 e_v12 => ?_)
  have l_v12 := congrArg List.length e_v12
  first | simp (disch := omega) only [ts, *] at l_v12 | skip
  refine Tot.lett (fun v13 e_v13 => ?_)
  have l_v13 := congrArg List.length e_v13
  first | simp (disch := omega) only [ts, *] at l_v13 | skip
  refine Tot.lett (fun v14 e_v14 => ?_)
  have l_v14 := congrArg List.length e_v14
  first | simp (disch := omega) only [ts, *] at l_v14 | skip
  refine T_1.bind (Zka r6 r7 r8 r9) (fun r15 q3 => ?_)
  replace q3 : ((r15)).length = 32 := q3
  exact Tot.ret _
theorem Zwx (a1 : Str) : T_4 (fun R k0 => Zcj R a1 k0) (fun z0 z1 z2 z3 => ((z3) = 0 → ((z0)).length = 32) ∧ ((z3) = 0 → ((z1)).length = 32) ∧ ((z3) = 0 → ((z2)).length = 32) ∧ (((a1)).length = 32 → (z3) = 0) ∧ (((a1)).length ≠ 32 → (z3) = 21)) := by
  refine T_4.of ?_
  delta Zcj Ztw
  refine Tot.lett (fun v2 e_v2 => ?_)
  first | simp (disch := omega) only [ts, *] at e_v2 | skip
  refine Tot.br (fun h1 => ?_) (fun h1 => ?_)
  · first | simp (disch := omega) only [ts, *] at h1 | skip
    all_goals
      exact Tot.ret _
  · first | simp (disch := omega) only [ts, *] at h1 | skip
    all_goals
      refine T_1.bind (Zwy a1) (fun r3 q2 => ?_)
      replace q2 : ((r3)).length = 64 := q2
      refine Tot.gd ?_
      refine Tot.lett (fun v4 e_v4 => ?_)
      first | simp (disch := omega) only [ts, *] at e_v4 | skip
      refine Tot.gd ?_
      refine Tot.lett (fun v5 e_v5 => ?_)
      have l_v5 := congrArg List.length e_v5
      first | simp (disch := omega) only [ts, *] at l_v5 | skip
      refine Tot.gd ?_
      refine Tot.lett (fun v6 e_v6 => ?_)
      first | simp (disch := omega) only [ts, *] at e_v6 | skip
      refine Tot.lett (fun v7 e_v7 => ?_)
      first | simp (disch := omega) only [ts, *] at e_v7 | skip
      refine Tot.gd ?_
      refine Tot.lett (fun v8 e_v8 => ?_)
      have l_v8 := congrArg List.length e_v8
      first | simp (disch := omega) only [ts, *] at l_v8 | skip
      refine Tot.gd ?_
      refine Tot.gd ?_
      refine Tot.lett (fun v9 e_v9 => ?_)
      have l_v9 := congrArg List.length e_v9
      first | simp (disch := omega) only [ts, *] at l_v9 | skip
      refine T_1.bind (Zww ((v8.drop 0).take 32)) (fun r10 q3 => ?_)
      replace q3 : ((r10)).length = 32 := q3
      exact Tot.ret _
theorem Z13r (a1 : Str) : T_2 (fun R k0 => Z91 R a1 k0) (fun z0 z1 => ((z1) = 0 → ((z0)).length = 32) ∧ (((a1)).length = 32 → (z1) = 0) ∧ (((a1)).length ≠ 32 → (z1) = 21)) := by
  refine T_2.of ?_
  delta Z91 Zrk
  refine T_4.bind (Zwx a1) (fun r2 r3 r4 r5 q1 => ?_)
  obtain ⟨q1_0, q1_1, q1_2, q1_3, q1_4⟩ := q1
  exact Tot.ret _
theorem Z16j (a1 a2 : Str) (h_ : autoParam ((((a2)).length ≤ 10000)) sA._auto_1) : T_2 (fun R k0 => Zi9 R a1 a2 k0) (fun z0 z1 => (((a1)).length = 32 → (z1) = 0) ∧ (((a1)).length ≠ 32 → (z1) ≠ 0) ∧ ((z1) = 0 → ((z0)).length = 64)) := by
  refine T_2.of ?_
  delta Zi9 Zx3
  refine T_4.bind (Zwx a1) (fun r3 r4 r5 r6 q1 => ?_)
  obtain ⟨q1_0, q1_1, q1_2, q1_3, q1_4⟩ := q1
  refine Tot.br (fun h2 => ?_) (fun h2 => ?_)
  · first | simp (disch := omega) only [ts, *] at h2 | skip
    all_goals
      exact Tot.ret _
  · first | simp (disch := omega) only [ts, *] at h2 | skip
    all_goals
      refine T_2.bind (Zfi ([r4, a2] : List Str) ⟨(by simp (disch := omega) only [ts, List.forall_mem_cons, List.not_mem_nil, false_imp_iff, implies_true, and_true] <;> omega), (by first | trivial | assumption | omega | (simp (disch := omega) only [ts] <;> omega) | (simp (disch := omega) only [ts, *] <;> omega) | (subst_vars; decide))⟩) (fun r7 r8 q3 => ?_)
      replace q3 : ((r7)).length = 32 := q3
      refine T_1.bind (Zww r7) (fun r9 q4 => ?_)
      replace q4 : ((r9)).length = 32 := q4
      refine T_2.bind (Zfi ([r9, r5, a2] : List Str) ⟨(by simp (disch := omega) only [ts, List.forall_mem_cons, List.not_mem_nil, false_imp_iff, implies_true, and_true] <;> omega), (by first | trivial | assumption | omega | (simp (disch := omega) only [ts] <;> omega) | (simp (disch := omega) only [ts, *] <;> omega) | (subst_vars; decide))⟩) (fun r10 r11 q5 => ?_)
      replace q5 : ((r10)).length = 32 := q5
      refine T_2.bind (Z11y r10 r3 r7) (fun r12 r13 q6 => ?_)
      obtain ⟨q6_0, q6_1⟩ := q6
      refine Tot.br (fun h7 => ?_) (fun h7 => ?_)
      · first | simp (disch := omega) only [ts, *] at h7 | skip
        all_goals
          exact Tot.ret _
      · first | simp (disch := omega) only [ts, *] at h7 | skip
        all_goals
          refine Tot.gd ?_
          exact Tot.ret _
theorem oid_alg (R : Type) (k : Str → List Int → Option R) : Z9n R [1, 3, 101, 112] k = k [6, 3, 43, 101, 112] [1, 3, 101, 112] := by kernel_rfl
theorem oid_name (R : Type) (k : Str → List Int → Option R) : Z9n R [2, 5, 4, 3] k = k [6, 3, 85, 4, 3] [2, 5, 4, 3] := by kernel_rfl
theorem joinNil : ∀ (xs : List Str), Lib.join xs [] = xs.flatten
  | [] => rfl
  | a :: r => by rw [Lib.join_cons]; simp [Lib.joinTail]
theorem thing_ok (t : Int) (xs : List Str) (ht : tagB t = true) (hl : xs.length ≤ 100) (hx : xs.flatten.length ≤ 65535) (R : Type) (k : Str → List Str → Option R) :
    Z33 R t xs k = k (wr (UInt8.ofNat t.toNat) xs.flatten) xs := by
  unfold Z33 Zla Zko
  rw [gdT _ (by unfold joinB; rw [joinNil, Bool.and_eq_true, decide_eq_true_eq, decide_eq_true_eq]; omega), joinNil]
  exact write_ok t _ ht hx R _
def algS : Str := wr 48 [6, 3, 43, 101, 112]
theorem alg_eq (R : Type) (k : Str → Option R) : Z78 R k = k algS := by
  unfold Z78 Zl0
  rw [oid_alg, thing_ok 48 _ (by decide) (by simp) (by simp)]
  rfl
def namS (n : Str) : Str := wr 48 (wr 49 (wr 48 ([6, 3, 85, 4, 3] ++ wr 12 n)))
theorem named_eq (n : Str) (h : n.length ≤ 1000) (R : Type) (k : Str → Option R) : Zk9 R n k = k (namS n) := by
  have l1 := wr_length 12 n
  have l2 := wr_length 48 ([6, 3, 85, 4, 3] ++ wr 12 n)
  have l3 := wr_length 49 (wr 48 ([6, 3, 85, 4, 3] ++ wr 12 n))
  simp only [List.length_append, List.length_cons, List.length_nil] at l1 l2 l3
  unfold Zk9 Zuy namS
  rw [oid_name, thing_ok 12 _ (by decide) (by simp) (by simp only [List.flatten_cons, List.flatten_nil, List.append_nil, List.length_append, List.length_cons, List.length_nil]; omega)]
  try dsimp only
  rw [show [n].flatten = n by simp, show UInt8.ofNat (Int.toNat 12) = 12 from rfl]
  rw [thing_ok 48 _ (by decide) (by simp) (by simp only [List.flatten_cons, List.flatten_nil, List.append_nil, List.length_append, List.length_cons, List.length_nil]; omega)]
  try dsimp only
  rw [show UInt8.ofNat (Int.toNat 48) = 48 from rfl, show [[6, 3, 85, 4, 3], wr 12 n].flatten = [6, 3, 85, 4, 3] ++ wr 12 n by simp]
  rw [thing_ok 49 _ (by decide) (by simp) (by simp only [List.flatten_cons, List.flatten_nil, List.append_nil, List.length_append, List.length_cons, List.length_nil]; omega)]
  try dsimp only
  rw [show UInt8.ofNat (Int.toNat 49) = 49 from rfl, show [wr 48 ([6, 3, 85, 4, 3] ++ wr 12 n)].flatten = wr 48 ([6, 3, 85, 4, 3] ++ wr 12 n) by simp]
  rw [thing_ok 48 _ (by decide) (by simp) (by simp only [List.flatten_cons, List.flatten_nil, List.append_nil, List.length_append, List.length_cons, List.length_nil]; omega)]
  try dsimp only
  rw [show UInt8.ofNat (Int.toNat 48) = 48 from rfl, show [wr 49 (wr 48 ([6, 3, 85, 4, 3] ++ wr 12 n))].flatten = wr 49 (wr 48 ([6, 3, 85, 4, 3] ++ wr 12 n)) by simp]
def TimeS (n : Int) (t : Str) (e : Int) : Prop := (0 ≤ n ∧ n ≤ 253402300799 ∧ e = 0 ∧ ∃ y m d, IsDate (n / 86400) y m d ∧ t = stamp y m d (n % 86400)) ∨ ((n < 0 ∨ 253402300799 < n) ∧ t = [] ∧ e = 1)
theorem stamp_length (y m d s : Int) : (stamp y m d s).length = 15 := by unfold stamp; simp [dig_length]
theorem fcert_Time_tot (n : Int) : T_2 (fun R k0 => Z1j R n k0) (fun t e => TimeS n t e) := by
  by_cases h : 0 ≤ n ∧ n ≤ 253402300799
  · obtain ⟨y, m, d, hd, he⟩ := fcert_Time_eq n h.1 h.2
    exact ⟨_, 0, .inl ⟨h.1, h.2, rfl, y, m, d, hd, rfl⟩, he⟩
  · exact ⟨[], 1, .inr ⟨by omega, rfl, rfl⟩, fun R k => fcert_Time_bad n (by omega) R k⟩
theorem TimeS.length {n : Int} {t : Str} {e : Int} (h : TimeS n t e) : t.length ≤ 15 := by
  rcases h with ⟨_, _, _, y, m, d, _, rfl⟩ | ⟨_, rfl, _⟩
  · rw [stamp_length]; exact Nat.le_refl _
  · simp
def innS (n : Int) (name ft tt key : Str) : Str :=
  wr 48 (wr 2 (intS n) ++ (algS ++ (namS name ++ (wr 48 (wr 24 ft ++ wr 24 tt) ++ (namS name ++ wr 48 (algS ++ wr 3 (0 :: key)))))))
theorem intS_length (n : Int) : (intS n).length ≤ 8 := (strip_spec (b8 n) (by simp [b8])).2.2.2
theorem algS_length : algS.length ≤ 9 := by decide
theorem namS_length (n : Str) : (namS n).length ≤ n.length + 21 := by
  have l1 := wr_length 12 n
  have l2 := wr_length 48 ([6, 3, 85, 4, 3] ++ wr 12 n)
  have l3 := wr_length 49 (wr 48 ([6, 3, 85, 4, 3] ++ wr 12 n))
  have l4 := wr_length 48 (wr 49 (wr 48 ([6, 3, 85, 4, 3] ++ wr 12 n)))
  simp only [List.length_append, List.length_cons, List.length_nil] at l1 l2 l3 l4
  unfold namS
  omega
theorem innS_length {n : Int} {name ft tt key : Str} (hf : ft.length ≤ 15) (ht : tt.length ≤ 15) : (innS n name ft tt key).length ≤ 2 * name.length + key.length + 150 := by
  have l1 := wr_length 2 (intS n)
  have l2 := intS_length n
  have l3 := algS_length
  have l4 := namS_length name
  have l5 := wr_length 24 ft
  have l6 := wr_length 24 tt
  have l7 := wr_length 48 (wr 24 ft ++ wr 24 tt)
  have l8 := wr_length 3 (0 :: key)
  have l9 := wr_length 48 (algS ++ wr 3 (0 :: key))
  have l10 := wr_length 48 (wr 2 (intS n) ++ (algS ++ (namS name ++ (wr 48 (wr 24 ft ++ wr 24 tt) ++ (namS name ++ wr 48 (algS ++ wr 3 (0 :: key)))))))
  simp only [List.length_append, List.length_cons, List.length_nil] at *
  unfold innS
  omega
theorem fcert_inner_tot (n : Int) (name : Str) (f t : Int) (key : Str) (hn : name.length ≤ 1000) (hk : key.length ≤ 1000) :
    T_1 (fun R k0 => Z5o R n name f t key k0) (fun z => ∃ ft fe tt te, TimeS f ft fe ∧ TimeS t tt te ∧ z = innS n name ft tt key) := by
  obtain ⟨ft, fe, h1, e1⟩ := fcert_Time_tot f
  obtain ⟨tt, te, h2, e2⟩ := fcert_Time_tot t
  refine ⟨_, ⟨ft, fe, tt, te, h1, h2, rfl⟩, fun R k => ?_⟩
  have lf := h1.length
  have lt := h2.length
  have l1 := wr_length 2 (intS n)
  have l2 := intS_length n
  have l3 := algS_length
  have l4 := namS_length name
  have l5 := wr_length 24 ft
  have l6 := wr_length 24 tt
  have l7 := wr_length 48 (wr 24 ft ++ wr 24 tt)
  have l8 := wr_length 3 (0 :: key)
  have l9 := wr_length 48 (algS ++ wr 3 (0 :: key))
  have l10 := wr_length 48 (wr 2 (intS n) ++ (algS ++ (namS name ++ (wr 48 (wr 24 ft ++ wr 24 tt) ++ (namS name ++ wr 48 (algS ++ wr 3 (0 :: key)))))))
  simp only [List.length_append, List.length_cons, List.length_nil] at l5 l6 l7 l8 l9 l10
  show Z5o R n name f t key k = _
  unfold Z5o Zuu
  refine (e1 R _).trans ((e2 R _).trans ?_)
  rw [named_eq _ hn, gdT _ (catB_of (by simp; omega)), int_eq, alg_eq]
  rw [thing_ok 24 _ (by decide) (by simp) (by simp only [List.flatten_cons, List.flatten_nil, List.append_nil, List.length_append, List.length_cons, List.length_nil]; omega)]; try dsimp only
  rw [thing_ok 24 _ (by decide) (by simp) (by simp only [List.flatten_cons, List.flatten_nil, List.append_nil, List.length_append, List.length_cons, List.length_nil]; omega)]; try dsimp only
  rw [show UInt8.ofNat (Int.toNat 24) = 24 from rfl, show [ft].flatten = ft by simp, show [tt].flatten = tt by simp]
  rw [thing_ok 48 _ (by decide) (by simp) (by simp only [List.flatten_cons, List.flatten_nil, List.append_nil, List.length_append, List.length_cons, List.length_nil]; omega)]; try dsimp only
  rw [show UInt8.ofNat (Int.toNat 48) = 48 from rfl, show [wr 24 ft, wr 24 tt].flatten = wr 24 ft ++ wr 24 tt by simp, alg_eq]
  rw [thing_ok 3 _ (by decide) (by simp) (by simp only [List.flatten_cons, List.flatten_nil, List.append_nil, List.length_append, List.length_cons, List.length_nil]; omega)]; try dsimp only
  rw [show UInt8.ofNat (Int.toNat 3) = 3 from rfl, show [[0] ++ key].flatten = 0 :: key by simp]
  rw [thing_ok 48 _ (by decide) (by simp) (by simp only [List.flatten_cons, List.flatten_nil, List.append_nil, List.length_append, List.length_cons, List.length_nil]; omega)]; try dsimp only
  rw [show UInt8.ofNat (Int.toNat 48) = 48 from rfl, show [algS, wr 3 (0 :: key)].flatten = algS ++ wr 3 (0 :: key) by simp]
  rw [thing_ok 48 _ (by decide) (by simp) (by simp only [List.flatten_cons, List.flatten_nil, List.append_nil, List.length_append, List.length_cons, List.length_nil]; omega)]; try dsimp only
  rw [show UInt8.ofNat (Int.toNat 48) = 48 from rfl]
  unfold innS
  congr 2
  simp
def whoS (inn sig : Str) : Str := wr 48 (inn ++ (algS ++ wr 3 (0 :: sig)))
theorem whoS_length (inn sig : Str) : (whoS inn sig).length ≤ inn.length + sig.length + 18 := by
  have l3 := algS_length
  have l8 := wr_length 3 (0 :: sig)
  have l9 := wr_length 48 (inn ++ (algS ++ wr 3 (0 :: sig)))
  simp only [List.length_append, List.length_cons, List.length_nil] at l8 l9
  unfold whoS
  omega
theorem whole_eq (inn sig : Str) (hi : inn.length ≤ 10000) (hs : sig.length ≤ 10000) (R : Type) (k : Str → Option R) : Z8t R inn sig k = k (whoS inn sig) := by
  have l3 := algS_length
  have l8 := wr_length 3 (0 :: sig)
  simp only [List.length_cons] at l8
  unfold Z8t Zvf
  rw [alg_eq, gdT _ (catB_of (by simp; omega)), thing_ok 3 _ (by decide) (by simp) (by simp only [List.flatten_cons, List.flatten_nil, List.append_nil, List.length_append, List.length_cons, List.length_nil]; omega)]; try dsimp only
  rw [show UInt8.ofNat (Int.toNat 3) = 3 from rfl, show [[0] ++ sig].flatten = 0 :: sig by simp]
  rw [thing_ok 48 _ (by decide) (by simp) (by simp only [List.flatten_cons, List.flatten_nil, List.append_nil, List.length_append, List.length_cons, List.length_nil]; omega)]; try dsimp only
  rw [show UInt8.ofNat (Int.toNat 48) = 48 from rfl]
  unfold whoS
  congr 2
  simp
theorem indexByte_lt : ∀ (l : List UInt8) (c : UInt8), Lib.indexByte l c < l.length ∧ -1 ≤ Lib.indexByte l c
  | [], c => by simp [Lib.indexByte]
  | b :: l, c => by
    have := indexByte_lt l c
    unfold Lib.indexByte
    simp only [List.length_cons]
    split
    · omega
    · split <;> omega
theorem Index_eq (s : Str) (R : Type) (k : Int → Option R) : Z5a R s k = k (Lib.indexByte s 0) := by
  unfold Z5a Zbb
  by_cases h : s = [0]
  · subst h; rfl
  · rw [brF _ _ (by unfold eqS; rw [decide_eq_false_iff_not]; exact fun e => h e.symm)]
    rfl
def behind0 (s : Str) : Str := if 0 ≤ Lib.indexByte s 0 then s.drop ((Lib.indexByte s 0).toNat + 1) else []
theorem Cut_eq (s : Str) (hs : s.length ≤ 1000000000) : ∃ a b, ∀ (R : Type) (k : Str → Str → Bool → Option R), Z89 R s k = k a (behind0 s) b := by
  have hi := indexByte_lt s 0
  by_cases h : 0 ≤ Lib.indexByte s 0
  · refine ⟨s.take (Lib.indexByte s 0).toNat, true, fun R k => ?_⟩
    unfold Z89 Zds Z6i Z8p lett behind0; try dsimp only
    rw [Index_eq, brT _ _ (by simp only [ts]; exact h), gdT _ (by simp only [ts]; omega), tadd (by omega) (by omega), gdT _ (by simp only [ts]; omega), if_pos h]
    rw [show (Lib.indexByte s 0 + 1).toNat = (Lib.indexByte s 0).toNat + 1 by omega]
  · refine ⟨s, false, fun R k => ?_⟩
    unfold Z89 Zds Z6i Z8p lett behind0; try dsimp only
    rw [Index_eq, brF _ _ (by simp only [ts]; omega), if_neg h]
theorem behind0_cons (s : Str) : behind0 (0 :: s) = s := rfl
theorem behind0_length (s : Str) : (behind0 s).length ≤ s.length := by
  unfold behind0
  split
  · rw [List.length_drop]; omega
  · simp
def isDig (b : UInt8) : Prop := 48 ≤ b.toNat ∧ b.toNat ≤ 57
instance (b : UInt8) : Decidable (isDig b) := by unfold isDig; infer_instance
def tens : Str := [48, 49, 50, 51, 52, 53, 54, 55, 56, 57]
def tensT : List (Tup [.bool]) := (((((((((((List.replicate 256 (tupD [.bool])).set 48 (true, ())).set 49 (true, ())).set 50 (true, ())).set 51 (true, ())).set 52 (true, ())).set 53 (true, ())).set 54 (true, ())).set 55 (true, ())).set 56 (true, ())).set 57 (true, ()))
theorem makeASCIISet_tens (R : Type) (k : List (Tup [.bool]) → Bool → Option R) : Z9e R tens k = k tensT true := by kernel_rfl
theorem tensT_at (b : UInt8) : (tensT.getD b.toNat (tupD [.bool])).1 = decide (isDig b) := by
  have h : ∀ n : Nat, n < 256 → (tensT.getD n (tupD [.bool])).1 = decide (48 ≤ n ∧ n ≤ 57) := by decide
  exact h _ (u8_lt b)
theorem contains_tens (b : UInt8) (R : Type) (k : Bool → List (Tup [.bool]) → Option R) : Zc R (b.toNat : Int) tensT k = k (decide (isDig b)) tensT := by
  have := u8_lt b
  unfold Zc Z6u lett; try dsimp only
  rw [gdT _ (by simp only [ts]; omega), Int.toNat_natCast, tensT_at]
theorem last_split (s : Str) (h : 0 < s.length) : s = s.take (s.length - 1) ++ [s.getD (s.length - 1) 0] := by
  conv => lhs; rw [← List.take_append_drop (s.length - 1) s]
  congr 1
  rw [List.drop_eq_getElem_cons (by omega), List.drop_eq_nil_of_le (by omega), List.getD_eq_getElem?_getD, List.getElem?_eq_getElem (by omega)]
  rfl
theorem trimRight_tens : ∀ (n : Nat) (s : Str), s.length < n → s.length ≤ 1000000000 → ∃ z : Str, ((z = [] ↔ ∀ b ∈ s, isDig b) ∧ (z ≠ [] → ∃ b ∈ z, ¬ isDig b) ∧ z.length ≤ s.length) ∧
    ∀ (R : Type) (k : Str → List (Tup [.bool]) → Option R), Z2h R n s tensT k = k z tensT
  | 0, s, h, _ => absurd h (Nat.not_lt_zero _)
  | n + 1, s, h, hl => by
    by_cases h0 : s.length = 0
    · have : s = [] := List.length_eq_zero_iff.mp h0
      subst this
      exact ⟨[], ⟨⟨fun _ => by simp, fun _ => rfl⟩, fun h => absurd rfl h, Nat.le_refl _⟩, fun R k => rfl⟩
    · have hs := last_split s (by omega)
      have e : ((s.length - 1 : Nat) : Int) = (s.length : Int) - 1 := by omega
      have go : ∀ (R : Type) (k : Str → List (Tup [.bool]) → Option R), Z2h R (n + 1) s tensT k = br (!(decide (isDig (s.getD (s.length - 1) 0)))) (k s tensT) (Z2h R n (s.take (s.length - 1)) tensT k) := by
        intro R k
        rw [Zjb]
        unfold Z5q lett; try dsimp only
        rw [brT _ _ (by simp only [ts]; omega), tsub (by omega) (by omega), ← e, gdT _ (by simp only [ts]; omega), Int.toNat_natCast, contains_tens, gdT _ (by simp only [ts]; omega)]
      by_cases hd : isDig (s.getD (s.length - 1) 0)
      · obtain ⟨z, ⟨z1, z2, z3⟩, hz⟩ := trimRight_tens n (s.take (s.length - 1)) (by rw [List.length_take]; omega) (by rw [List.length_take]; omega)
        refine ⟨z, ⟨z1.trans ⟨fun h b hb => ?_, fun h b hb => h b (List.mem_of_mem_take hb)⟩, z2, Nat.le_trans z3 (by rw [List.length_take]; omega)⟩, fun R k => ?_⟩
        · rw [hs, List.mem_append, List.mem_singleton] at hb
          rcases hb with hb | rfl
          · exact h b hb
          · exact hd
        · rw [go, brF _ _ (by rw [decide_eq_true hd]; rfl), hz]
      · refine ⟨s, ⟨⟨fun h => ?_, fun h => ?_⟩, fun _ => ⟨_, ?_, hd⟩, Nat.le_refl _⟩, fun R k => ?_⟩
        · subst h; exact absurd rfl h0
        · exact absurd (h _ (by rw [hs]; simp)) hd
        · rw [hs]; simp
        · rw [go, brT _ _ (by rw [decide_eq_false hd]; rfl)]
theorem trimLeft_tens : ∀ (s : Str) (n : Nat), s.length < n → s.length ≤ 1000000000 → ∃ z : Str, (z = [] ↔ ∀ b ∈ s, isDig b) ∧
    ∀ (R : Type) (k : Str → List (Tup [.bool]) → Option R), Z2p R n s tensT k = k z tensT
  | s, 0, h, _ => absurd h (Nat.not_lt_zero _)
  | [], n + 1, _, _ => ⟨[], ⟨fun _ => by simp, fun _ => rfl⟩, fun R k => rfl⟩
  | b :: s, n + 1, h, hl => by
    simp only [List.length_cons] at h hl
    have go : ∀ (R : Type) (k : Str → List (Tup [.bool]) → Option R), Z2p R (n + 1) (b :: s) tensT k = br (!(decide (isDig b))) (k (b :: s) tensT) (Z2p R n s tensT k) := by
      intro R k
      rw [Zjq]
      unfold Z6b lett; try dsimp only
      rw [brT _ _ (by simp only [ts, List.length_cons]; omega), gdT _ (by simp only [ts, List.length_cons]; omega), show (b :: s).getD 0 0 = b from rfl, contains_tens, gdT _ (by simp only [ts, List.length_cons]; omega)]
      rfl
    by_cases hd : isDig b
    · obtain ⟨z, z1, hz⟩ := trimLeft_tens s n (by omega) (by omega)
      refine ⟨z, z1.trans ⟨fun h c hc => ?_, fun h c hc => h c (List.mem_cons_of_mem _ hc)⟩, fun R k => ?_⟩
      · rcases List.mem_cons.mp hc with rfl | hc
        · exact hd
        · exact h c hc
      · rw [go, brF _ _ (by rw [decide_eq_true hd]; rfl), hz]
    · refine ⟨b :: s, ⟨fun h => absurd h (by simp), fun h => absurd (h b (by simp)) hd⟩, fun R k => ?_⟩
      rw [go, brT _ _ (by rw [decide_eq_false hd]; rfl)]
theorem Trim_tens (s : Str) (hs : s.length ≤ 1000000000) : ∃ z : Str, (z = [] ↔ ∀ b ∈ s, isDig b) ∧ ∀ (R : Type) (k : Str → Option R), Z2t R s tens k = k z := by
  by_cases h : s = []
  · subst h; exact ⟨[], ⟨fun _ => by simp, fun _ => rfl⟩, fun R k => rfl⟩
  · obtain ⟨z, ⟨z1, z2, z3⟩, hz⟩ := trimRight_tens (Z2o s tensT) s (by unfold Z2o; omega) hs
    obtain ⟨w, w1, hw⟩ := trimLeft_tens z (Z2u z tensT) (by unfold Z2u; omega) (by omega)
    refine ⟨w, w1.trans ⟨fun h => z1.mp (Classical.byContradiction fun hn => ?_), fun h => ?_⟩, fun R k => ?_⟩
    · obtain ⟨b, hb, hd⟩ := z2 hn
      exact hd (h b hb)
    · have := z1.mpr h
      subst this
      simp
    · unfold Z2t Zps lett; try dsimp only
      rw [brF _ _ (by simp only [ts]; exact h), show eqS tens [] = false from rfl, br_false, show eqI (tens.length : Int) 1 = false from rfl, br_false, makeASCIISet_tens, br_true]
      unfold Z5j Z88 Z61 Z9b
      rw [Zm2, hz]; dsimp only
      rw [Zmw, hw]
def okByte (b : UInt8) : Bool := decide (32 ≤ b.toNat) && decide (b.toNat ≤ 126)
def nameB (s : Str) : Bool := !decide (s = []) && decide (s.length ≤ 32) && s.all okByte
theorem isName1_eq (b : UInt8) (R : Type) (k : Bool → Option R) : Z4b R (b.toNat : Int) k = k (!okByte b) := by
  unfold Z4b Zno okByte
  by_cases h : b.toNat < 32
  · rw [brT _ _ (by simp only [ts]; omega)]
    rw [decide_eq_false (by omega)]; rfl
  · rw [brF _ _ (by simp only [ts]; omega), decide_eq_true (p := 32 ≤ b.toNat) (by omega), Bool.true_and]
    congr 1
    unfold ltI
    by_cases h2 : b.toNat ≤ 126
    · rw [decide_eq_true h2, decide_eq_false (by omega)]; rfl
    · rw [decide_eq_false h2, decide_eq_true (by omega)]; rfl
theorem index_loop {R : Type} (k0 : Int → Str → Option R) (k1 : Str → Option R) (s : Str) (hs : s.length ≤ 1000000000) : ∀ (m n i : Nat), i + m = s.length → m < n →
    ∃ j : Nat, Z3t R n (s.length : Int) (i : Int) s k0 k1 = if (s.drop i).all okByte then k1 s else k0 (j : Int) s
  | _, 0, _, _, h => absurd h (Nat.not_lt_zero _)
  | 0, n + 1, i, hi, _ => by
    refine ⟨0, ?_⟩
    rw [Z82]
    unfold Z30
    rw [brF _ _ (by simp only [ts]; omega), List.drop_eq_nil_of_le (by omega)]
    rfl
  | m + 1, n + 1, i, hi, hn => by
    have hd : s.drop i = s.getD i 0 :: s.drop (i + 1) := by
      rw [List.drop_eq_getElem_cons (by omega), List.getD_eq_getElem?_getD, List.getElem?_eq_getElem (by omega)]
      rfl
    obtain ⟨j, hj⟩ := index_loop k0 k1 s hs m n (i + 1) (by omega) (by omega)
    rw [Z82]
    unfold Z30 lett; try dsimp only
    rw [hd, List.all_cons]
    cases hb : okByte (s.getD i 0) with
    | false =>
      refine ⟨i, ?_⟩
      rw [brT _ _ (by simp only [ts]; omega), gdT _ (by simp only [ts]; omega), Int.toNat_natCast, isName1_eq, hb]
      rfl
    | true =>
      refine ⟨j, ?_⟩
      rw [brT _ _ (by simp only [ts]; omega), gdT _ (by simp only [ts]; omega), Int.toNat_natCast, isName1_eq, hb]
      rw [Bool.true_and, tadd (by omega) (by omega), ← hj]
      rfl
theorem isName_eq (s : Str) (hs : s.length ≤ 1000000000) (R : Type) (k : Bool → Option R) : Zhg R s k = k (nameB s) := by
  unfold Zhg Zse lett nameB; try dsimp only
  by_cases h : s = []
  · subst h; rfl
  · rw [brT _ _ (by simp only [ts]; exact h)]
    by_cases h2 : s.length ≤ 32
    · rw [brT _ _ (by simp only [ts]; omega)]
      unfold Z3e Z4v Z47 Z69 lett; try dsimp only
      rw [Zib]
      obtain ⟨j, hj⟩ := index_loop (R := R) (fun y8 y9 => k !(leI 0 y8)) (fun y10 => k !(leI 0 (-1))) s hs s.length (Z21 s.length 0 s) 0 (by omega) (by unfold Z21; omega)
      refine hj.trans ?_
      rw [List.drop_zero, decide_eq_false h, decide_eq_true h2]
      cases s.all okByte with
      | true => rfl
      | false =>
        rw [if_neg (by decide), show leI 0 (j : Int) = true by simp only [ts]; omega]
        rfl
    · rw [brF _ _ (by simp only [ts]; omega), decide_eq_false h2, Bool.and_false, Bool.false_and]
def rightB (n : Int) (name : Str) (f t : Int) : Bool := decide (1 ≤ n) && nameB name && decide (0 ≤ f) && decide (f ≤ t) && decide (t ≤ 253402300799)
theorem right_eq (n : Int) (name : Str) (f t : Int) (key : Str) (hs : name.length ≤ 1000000000) (R : Type) (k : Bool → Option R) : Zd1 R n name f t key k = k (rightB n name f t) := by
  unfold Zd1 Ztx rightB
  by_cases h1 : 1 ≤ n
  · rw [brT _ _ (by simp only [ts]; exact h1), isName_eq _ hs, decide_eq_true h1, Bool.true_and]
    cases nameB name with
    | false => rfl
    | true =>
      rw [br_true, Bool.true_and]
      by_cases h2 : 0 ≤ f
      · rw [brT _ _ (by simp only [ts]; exact h2), decide_eq_true h2, Bool.true_and]
        by_cases h3 : f ≤ t
        · rw [brT _ _ (by simp only [ts]; exact h3), decide_eq_true h3, Bool.true_and]; rfl
        · rw [brF _ _ (by simp only [ts]; omega), decide_eq_false h3]; rfl
      · rw [brF _ _ (by simp only [ts]; omega), decide_eq_false h2]; rfl
  · rw [brF _ _ (by simp only [ts]; omega), decide_eq_false h1]; rfl
theorem rightB_spec {n : Int} {name : Str} {f t : Int} (h : rightB n name f t = true) : 1 ≤ n ∧ name.length ≤ 32 ∧ 0 ≤ f ∧ f ≤ t ∧ t ≤ 253402300799 := by
  unfold rightB nameB at h
  simp only [Bool.and_eq_true, decide_eq_true_eq] at h
  omega
theorem days_num {y m d : Int} (h1 : 1 ≤ m) (h2 : m ≤ 12) : (if m ≤ 2 then 365 * (y - 1) + (y - 1) / 4 - (y - 1) / 100 + (y - 1) / 400 + (153 * (m + 12 - 3) + 2) / 5 + d - 1 - 719468 else 365 * y + y / 4 - y / 100 + y / 400 + (153 * (m - 3) + 2) / 5 + d - 1 - 719468) = dayOf y + monthAt y m + d - 1 := by
  have hl := dayOf_leap y
  by_cases hm : m ≤ 2
  · rw [if_pos hm]
    have : m = 1 ∨ m = 2 := by omega
    rcases this with rfl | rfl
    · unfold dayOf monthAt cum; simp; omega
    · unfold dayOf monthAt cum; simp; omega
  · rw [if_neg hm]
    have e : monthAt y m = cum m + if leapP y then 1 else 0 := by
      unfold monthAt
      by_cases h : leapP y
      · rw [if_pos ⟨by omega, h⟩, if_pos h]
      · rw [if_neg (fun hh => h hh.2), if_neg h]
    rw [e]
    have : m = 3 ∨ m = 4 ∨ m = 5 ∨ m = 6 ∨ m = 7 ∨ m = 8 ∨ m = 9 ∨ m = 10 ∨ m = 11 ∨ m = 12 := by omega
    rcases this with rfl | rfl | rfl | rfl | rfl | rfl | rfl | rfl | rfl | rfl <;> (unfold cum; simp; omega)
theorem days_eq (y m d : Int) (y0 : 0 ≤ y) (y1 : y ≤ 9999) (m0 : 0 ≤ m) (m1 : m ≤ 99) (d0 : 0 ≤ d) (d1 : d ≤ 99) : ∃ z : Int, (-1000000 ≤ z ∧ z ≤ 10000000 ∧ (1 ≤ y → 1 ≤ m → m ≤ 12 → z = dayOf y + monthAt y m + d - 1)) ∧
    ∀ (R : Type) (k : Int → Option R), Z34 R y m d k = k z := by
  have q : ∀ (c : Int) (h : 0 < c) (a : Int), 0 ≤ a → a ≤ 100000 → quoI .i64 a c = a / c := fun c h a h0 h1 => tquo h0 (by omega) h
  by_cases hm : m ≤ 2
  · by_cases hy : 1 ≤ y
    · refine ⟨365 * (y - 1) + (y - 1) / 4 - (y - 1) / 100 + (y - 1) / 400 + (153 * (m + 12 - 3) + 2) / 5 + d - 1 - 719468, ⟨by omega, by omega, fun _ h1 h2 => ?_⟩, fun R k => ?_⟩
      · have := days_num (y := y) (d := d) h1 h2
        rwa [if_pos hm] at this
      · unfold Z34 Zju lett; try dsimp only
        rw [show leI m 2 = true by simp only [ts]; exact hm]
        rw [Zpf]
        unfold Zb0
        rw [br_true, tsub (by omega) (by omega), tadd (a := m) (b := 12) (by omega) (by omega)]; dsimp only
        rw [q 4 (by decide) _ (by omega) (by omega), q 100 (by decide) _ (by omega) (by omega), q 400 (by decide) _ (by omega) (by omega)]
        rw [tmul (a := 365) (by omega) (by omega), tsub (a := m + 12) (by omega) (by omega), tmul (a := 153) (by omega) (by omega)]
        rw [tadd (a := 365 * (y - 1)) (by omega) (by omega), tadd (a := 153 * (m + 12 - 3)) (by omega) (by omega), q 5 (by decide) _ (by omega) (by omega)]
        rw [tsub (b := (y - 1) / 100) (by omega) (by omega), tadd (b := (y - 1) / 400) (by omega) (by omega), tadd (b := (153 * (m + 12 - 3) + 2) / 5) (by omega) (by omega), tadd (b := d) (by omega) (by omega), tsub (b := 1) (by omega) (by omega), tsub (b := 719468) (by omega) (by omega)]
    · have hy : y = 0 := by omega
      subst hy
      refine ⟨-365 + (153 * (m + 12 - 3) + 2) / 5 + d - 1 - 719468, ⟨by omega, by omega, fun h => absurd h (by decide)⟩, fun R k => ?_⟩
      unfold Z34 Zju lett; try dsimp only
      rw [show leI m 2 = true by simp only [ts]; exact hm]
      rw [Zpf]
      unfold Zb0
      rw [br_true, show subI .i64 0 1 = -1 from rfl]; dsimp only
      rw [show mulI .i64 365 (-1) = -365 from rfl, show quoI .i64 (-1) 4 = 0 from rfl, show quoI .i64 (-1) 100 = 0 from rfl, show quoI .i64 (-1) 400 = 0 from rfl]
      rw [show addI .i64 (-365) 0 = -365 from rfl, show subI .i64 (-365) 0 = -365 from rfl, show addI .i64 (-365) 0 = -365 from rfl]
      rw [tadd (a := m) (b := 12) (by omega) (by omega), tsub (a := m + 12) (by omega) (by omega), tmul (a := 153) (by omega) (by omega), tadd (a := 153 * (m + 12 - 3)) (by omega) (by omega), q 5 (by decide) _ (by omega) (by omega)]
      rw [tadd (b := (153 * (m + 12 - 3) + 2) / 5) (by omega) (by omega), tadd (b := d) (by omega) (by omega), tsub (b := 1) (by omega) (by omega), tsub (b := 719468) (by omega) (by omega)]
  · refine ⟨365 * y + y / 4 - y / 100 + y / 400 + (153 * (m - 3) + 2) / 5 + d - 1 - 719468, ⟨by omega, by omega, fun _ h1 h2 => ?_⟩, fun R k => ?_⟩
    · have := days_num (y := y) (d := d) h1 h2
      rwa [if_neg hm] at this
    · unfold Z34 Zju lett; try dsimp only
      rw [show leI m 2 = false by simp only [ts]; omega]
      rw [Zpf]
      unfold Zb0
      rw [br_false]; dsimp only
      rw [q 4 (by decide) _ (by omega) (by omega), q 100 (by decide) _ (by omega) (by omega), q 400 (by decide) _ (by omega) (by omega)]
      rw [tmul (a := 365) (by omega) (by omega), tsub (a := m) (by omega) (by omega), tmul (a := 153) (by omega) (by omega)]
      rw [tadd (a := 365 * y) (by omega) (by omega), tadd (a := 153 * (m - 3)) (by omega) (by omega), q 5 (by decide) _ (by omega) (by omega)]
      rw [tsub (b := y / 100) (by omega) (by omega), tadd (b := y / 400) (by omega) (by omega), tadd (b := (153 * (m - 3) + 2) / 5) (by omega) (by omega), tadd (b := d) (by omega) (by omega), tsub (b := 1) (by omega) (by omega), tsub (b := 719468) (by omega) (by omega)]
theorem decFrom_append : ∀ (l r : Str) (acc : Nat), Lib.decFrom acc (l ++ r) = (Lib.decFrom acc l).bind fun m => Lib.decFrom m r
  | [], r, acc => rfl
  | b :: l, r, acc => by
    rw [List.cons_append, Lib.decFrom, Lib.decFrom]
    cases Lib.digitVal b with
    | none => rfl
    | some d => exact decFrom_append l r _
theorem digitVal_dig {b : UInt8} (h : isDig b) : Lib.digitVal b = some (b.toNat - 48) := by
  unfold Lib.digitVal
  exact if_pos h
theorem decFrom_digs : ∀ (l : Str) (acc : Nat), (∀ b ∈ l, isDig b) → ∃ m, Lib.decFrom acc l = some m
  | [], acc, _ => ⟨acc, rfl⟩
  | b :: l, acc, h => by
    rw [Lib.decFrom, digitVal_dig (h b (by simp))]
    exact decFrom_digs l _ fun c hc => h c (List.mem_cons_of_mem _ hc)
theorem atoi_digs {l : Str} (h0 : l ≠ []) (h : ∀ b ∈ l, isDig b) {m : Nat} (hm : Lib.decFrom 0 l = some m) : Lib.atoi l = some (m : Int) := by
  cases l with
  | nil => exact absurd rfl h0
  | cons b l =>
    have hb := h b (by simp)
    unfold isDig at hb
    unfold Lib.atoi
    have e1 : (b == 45) = false := by
      rw [beq_eq_false_iff_ne]; rintro rfl; exact absurd hb.1 (by decide)
    have e2 : (b == 43) = false := by
      rw [beq_eq_false_iff_ne]; rintro rfl; exact absurd hb.1 (by decide)
    dsimp only
    rw [e1, e2]
    simp only [Bool.false_eq_true, if_false]
    unfold Lib.decNat
    rw [hm]
    rfl
theorem atoiB_digs {l : Str} (h0 : l ≠ []) (h : ∀ b ∈ l, isDig b) (hl : l.length ≤ 4) : atoiB l = true ∧ 0 ≤ atoiV l ∧ atoiV l < 10 ^ l.length := by
  obtain ⟨m, hm⟩ := decFrom_digs l 0 h
  have ha := atoi_digs h0 h hm
  have hlt := Lib.decFrom_lt l 0 m hm
  rw [show (0 + 1) * 10 ^ l.length = 10 ^ l.length by omega] at hlt
  have h4 : 10 ^ l.length ≤ 10 ^ 4 := Nat.pow_le_pow_right (by decide) hl
  refine ⟨?_, ?_, ?_⟩
  · unfold atoiB; rw [ha]; simp; omega
  · unfold atoiV; rw [ha]; simp
  · unfold atoiV; rw [ha]
    have e : (((10 ^ l.length : Nat)) : Int) = (10 : Int) ^ l.length := by simp
    rw [← e]
    simp only [Option.getD_some]
    omega
theorem dig_isDig : ∀ (k n : Nat), ∀ b ∈ dig k n, isDig b
  | 0, n, b, h => by simp [dig] at h
  | k + 1, n, b, h => by
    rw [dig, List.mem_append, List.mem_singleton] at h
    rcases h with h | rfl
    · exact dig_isDig k _ b h
    · unfold isDig; rw [toNat_ofNat (by omega)]; omega
theorem decFrom_dig : ∀ (k n : Nat), n < 10 ^ k → Lib.decFrom 0 (dig k n) = some n
  | 0, n, h => by
    have : n = 0 := by simpa using h
    subst this; rfl
  | k + 1, n, h => by
    rw [dig, decFrom_append, decFrom_dig k (n / 10) (by rw [Nat.div_lt_iff_lt_mul (by omega)]; rw [Nat.pow_succ] at h; exact h)]
    show Lib.decFrom (n / 10) [UInt8.ofNat (48 + n % 10)] = _
    have hd : isDig (UInt8.ofNat (48 + n % 10)) := by unfold isDig; rw [toNat_ofNat (by omega)]; omega
    rw [Lib.decFrom, digitVal_dig hd, toNat_ofNat (by omega)]
    show some _ = _
    congr 1
    omega
theorem atoiV_dig (k n : Nat) (h : n < 10 ^ (k + 1)) : atoiV (dig (k + 1) n) = (n : Int) := by
  have h0 : dig (k + 1) n ≠ [] := by
    intro e
    have := congrArg List.length e
    rw [dig_length] at this
    exact absurd this (by simp)
  unfold atoiV
  rw [atoi_digs h0 (dig_isDig _ _) (decFrom_dig _ _ h)]
  rfl
def atL : List Int := [4, 6, 8, 10, 12, 14]
def cutS (s : Str) (lo w : Nat) : Str := (s.take w).drop lo
theorem at_step (s : Str) (hs : s.length = 15) (i w lo : Nat) (hi : i < 6) (hw : atL.getD i 0 = (w : Int)) (h2 : 2 ≤ w) (h14 : w ≤ 14) (hlo : lo = if i = 0 then 0 else w - 2) (ha : atoiB (cutS s lo w) = true)
    (v : List Int) (R : Type) (n : Nat) (k : Str → List Int → Option R) : Zf5 R (n + 1) s atL (i : Int) v k = Zf5 R n s atL ((i + 1 : Nat) : Int) (v.set i (atoiV (cutS s lo w))) k := by
  unfold cutS at ha
  rw [Zwv]
  unfold Zi4 lett; dsimp only
  rw [brT _ _ (by simp only [ts]; omega), gdT _ (by simp only [ts]; omega), Int.toNat_natCast, hw, tsub (by omega) (by omega), Z17e]
  unfold Zoy
  by_cases h0 : i = 0
  · rw [if_pos h0] at hlo
    subst hlo
    rw [brT _ _ (by simp only [ts]; omega)]; dsimp only
    rw [gdT _ (by simp only [ts]; omega), gdT _ (by simp only [ts]; omega), Int.toNat_natCast, show Int.toNat 0 = 0 from rfl]
    unfold Z2s
    rw [gdT _ ha]; dsimp only
    rw [gdT _ (by simp only [ts]; omega), Int.toNat_natCast, tadd (by omega) (by omega)]
    rfl
  · rw [if_neg h0] at hlo
    subst hlo
    rw [brF _ _ (by simp only [ts]; omega)]; dsimp only
    rw [gdT _ (by simp only [ts]; omega), gdT _ (by simp only [ts]; omega), Int.toNat_natCast, show ((w : Int) - 2).toNat = w - 2 by omega]
    unfold Z2s
    rw [gdT _ ha]; dsimp only
    rw [gdT _ (by simp only [ts]; omega), Int.toNat_natCast, tadd (by omega) (by omega)]
    rfl
theorem at_end (s : Str) (v : List Int) (R : Type) (n : Nat) (k : Str → List Int → Option R) : Zf5 R (n + 1) s atL ((6 : Nat) : Int) v k = k s v := by
  rw [Zwv]
  unfold Zi4
  rw [brF _ _ (by decide)]
theorem cutS_mid (p q r : Str) (lo w : Nat) (hp : p.length = lo) (hq : lo + q.length = w) : cutS (p ++ (q ++ r)) lo w = q := by
  subst hp; subst hq
  unfold cutS
  rw [List.take_length_add_append, List.take_left, List.drop_left]
theorem fcert_at_tot (s : Str) (hl : s.length ≤ 1000000000) : T_2 (fun R k0 => Zcq R s k0) (fun t ok => ∀ (n y m d : Int), 0 ≤ n → n ≤ 253402300799 → IsDate (n / 86400) y m d → s = stamp y m d (n % 86400) → t = n) := by
  by_cases hs : s.length = 15
  · obtain ⟨z, z1, hz⟩ := Trim_tens (s.take 14) (by rw [List.length_take]; omega)
    have start : ∀ (R : Type) (k : Int → Bool → Option R), Zcq R s k = br (!(eqS z [])) (k 0 false)
        (Zf5 R (Zal s atL 0 (List.replicate 6 0)) s atL 0 (List.replicate 6 (0 : Int)) fun y27 y28 =>
          Z34 R (y28.getD 0 0) (y28.getD 1 0) (y28.getD 2 0) fun r31 =>
          Z1j R (addI .i64 (addI .i64 (addI .i64 (mulI .i64 86400 r31) (mulI .i64 3600 (y28.getD 3 0))) (mulI .i64 60 (y28.getD 4 0))) (y28.getD 5 0)) fun r34 r35 =>
          br (eqI r35 0) (k (addI .i64 (addI .i64 (addI .i64 (mulI .i64 86400 r31) (mulI .i64 3600 (y28.getD 3 0))) (mulI .i64 60 (y28.getD 4 0))) (y28.getD 5 0)) (eqS r34 y27))
            (k (addI .i64 (addI .i64 (addI .i64 (mulI .i64 86400 r31) (mulI .i64 3600 (y28.getD 3 0))) (mulI .i64 60 (y28.getD 4 0))) (y28.getD 5 0)) false)) := by
      intro R k
      unfold Zcq Zwj lett; dsimp only
      rw [hs, brF _ _ (by decide), gdT _ (by decide)]
      refine (hz R _).trans ?_
      rw [Z17d]
      rfl
    by_cases hd : ∀ b ∈ s.take 14, isDig b
    · have zz := z1.mpr hd
      subst zz
      have dg : ∀ lo w, w ≤ 14 → ∀ b ∈ cutS s lo w, isDig b := by
        intro lo w hw b hb
        refine hd b ?_
        unfold cutS at hb
        have h1 := List.mem_of_mem_drop hb
        rw [show w = min w 14 by omega, ← List.take_take] at h1
        exact List.mem_of_mem_take h1
      have ln : ∀ lo w, w ≤ 14 → (cutS s lo w).length = w - lo := by
        intro lo w hw
        unfold cutS
        rw [List.length_drop, List.length_take]
        omega
      have ne : ∀ lo w, w ≤ 14 → lo < w → cutS s lo w ≠ [] := by
        intro lo w hw hlw e
        have := ln lo w hw
        rw [e] at this
        simp at this
        omega
      have av := fun lo w (hw : w ≤ 14) (hlw : lo < w) (h4 : w - lo ≤ 4) => atoiB_digs (ne lo w hw hlw) (dg lo w hw) (by rw [ln lo w hw]; exact h4)
      have a0 := av 0 4 (by decide) (by decide) (by decide)
      have a1 := av 4 6 (by decide) (by decide) (by decide)
      have a2 := av 6 8 (by decide) (by decide) (by decide)
      have a3 := av 8 10 (by decide) (by decide) (by decide)
      have a4 := av 10 12 (by decide) (by decide) (by decide)
      have a5 := av 12 14 (by decide) (by decide) (by decide)
      rw [ln _ _ (by decide)] at a0 a1 a2 a3 a4 a5
      simp only [Nat.reduceSub, Int.reducePow] at a0 a1 a2 a3 a4 a5
      obtain ⟨dz, ⟨d1, d2, d3⟩, hdz⟩ := days_eq (atoiV (cutS s 0 4)) (atoiV (cutS s 4 6)) (atoiV (cutS s 6 8)) a0.2.1 (by omega) a1.2.1 (by omega) a2.2.1 (by omega)
      obtain ⟨tt, te, _, ht⟩ := fcert_Time_tot (86400 * dz + 3600 * atoiV (cutS s 8 10) + 60 * atoiV (cutS s 10 12) + atoiV (cutS s 12 14))
      refine ⟨86400 * dz + 3600 * atoiV (cutS s 8 10) + 60 * atoiV (cutS s 10 12) + atoiV (cutS s 12 14), if te = 0 then eqS tt s else false, ?_, fun R k => ?_⟩
      · intro n y m d n0 n1 hdt hst
        have hy := hdt.year (by omega) (by omega)
        have hm1 := hdt.m1; have hm2 := hdt.m2; have hd1 := hdt.d1; have hd31 := hdt.day
        have he := hdt.eq
        have e0 : cutS s 0 4 = dig 4 y.toNat := by
          rw [hst, show stamp y m d (n % 86400) = [] ++ (dig 4 y.toNat ++ (dig 2 m.toNat ++ (dig 2 d.toNat ++ (dig 2 (n % 86400 / 3600).toNat ++ (dig 2 (n % 86400 / 60 % 60).toNat ++ (dig 2 (n % 86400 % 60).toNat ++ [90])))))) by unfold stamp; simp only [List.append_assoc, List.nil_append]]
          exact cutS_mid _ _ _ _ _ rfl (by rw [dig_length])
        have e1 : cutS s 4 6 = dig 2 m.toNat := by
          rw [hst, show stamp y m d (n % 86400) = dig 4 y.toNat ++ (dig 2 m.toNat ++ (dig 2 d.toNat ++ (dig 2 (n % 86400 / 3600).toNat ++ (dig 2 (n % 86400 / 60 % 60).toNat ++ (dig 2 (n % 86400 % 60).toNat ++ [90]))))) by unfold stamp; simp only [List.append_assoc]]
          exact cutS_mid _ _ _ _ _ (by rw [dig_length]) (by rw [dig_length])
        have e2 : cutS s 6 8 = dig 2 d.toNat := by
          rw [hst, show stamp y m d (n % 86400) = (dig 4 y.toNat ++ dig 2 m.toNat) ++ (dig 2 d.toNat ++ (dig 2 (n % 86400 / 3600).toNat ++ (dig 2 (n % 86400 / 60 % 60).toNat ++ (dig 2 (n % 86400 % 60).toNat ++ [90])))) by unfold stamp; simp only [List.append_assoc]]
          exact cutS_mid _ _ _ _ _ (by simp only [List.length_append, dig_length]) (by rw [dig_length])
        have e3 : cutS s 8 10 = dig 2 (n % 86400 / 3600).toNat := by
          rw [hst, show stamp y m d (n % 86400) = (dig 4 y.toNat ++ (dig 2 m.toNat ++ dig 2 d.toNat)) ++ (dig 2 (n % 86400 / 3600).toNat ++ (dig 2 (n % 86400 / 60 % 60).toNat ++ (dig 2 (n % 86400 % 60).toNat ++ [90]))) by unfold stamp; simp only [List.append_assoc]]
          exact cutS_mid _ _ _ _ _ (by simp only [List.length_append, dig_length]) (by rw [dig_length])
        have e4 : cutS s 10 12 = dig 2 (n % 86400 / 60 % 60).toNat := by
          rw [hst, show stamp y m d (n % 86400) = (dig 4 y.toNat ++ (dig 2 m.toNat ++ (dig 2 d.toNat ++ dig 2 (n % 86400 / 3600).toNat))) ++ (dig 2 (n % 86400 / 60 % 60).toNat ++ (dig 2 (n % 86400 % 60).toNat ++ [90])) by unfold stamp; simp only [List.append_assoc]]
          exact cutS_mid _ _ _ _ _ (by simp only [List.length_append, dig_length]) (by rw [dig_length])
        have e5 : cutS s 12 14 = dig 2 (n % 86400 % 60).toNat := by
          rw [hst, show stamp y m d (n % 86400) = (dig 4 y.toNat ++ (dig 2 m.toNat ++ (dig 2 d.toNat ++ (dig 2 (n % 86400 / 3600).toNat ++ dig 2 (n % 86400 / 60 % 60).toNat)))) ++ (dig 2 (n % 86400 % 60).toNat ++ [90]) by unfold stamp; simp only [List.append_assoc]]
          exact cutS_mid _ _ _ _ _ (by simp only [List.length_append, dig_length]) (by rw [dig_length])
        have v0 : atoiV (cutS s 0 4) = y := by rw [e0, atoiV_dig 3 _ (by omega)]; omega
        have v1 : atoiV (cutS s 4 6) = m := by rw [e1, atoiV_dig 1 _ (by omega)]; omega
        have v2 : atoiV (cutS s 6 8) = d := by rw [e2, atoiV_dig 1 _ (by omega)]; omega
        have v3 : atoiV (cutS s 8 10) = n % 86400 / 3600 := by rw [e3, atoiV_dig 1 _ (by omega)]; omega
        have v4 : atoiV (cutS s 10 12) = n % 86400 / 60 % 60 := by rw [e4, atoiV_dig 1 _ (by omega)]; omega
        have v5 : atoiV (cutS s 12 14) = n % 86400 % 60 := by rw [e5, atoiV_dig 1 _ (by omega)]; omega
        have dd := d3 (by omega) (by omega) (by omega)
        rw [v0, v1, v2] at dd
        rw [v3, v4, v5]
        omega
      · show Zcq R s k = _
        rw [start, show (!(eqS [] [])) = false from rfl, br_false]
        rw [show Zal s atL 0 (List.replicate 6 0) = (100020 + 0) + 6 + 1 by unfold Zal; rw [hs]; rfl]
        rw [show (0 : Int) = ((0 : Nat) : Int) from rfl]
        rw [at_step s hs 0 4 0 (by decide) rfl (by decide) (by decide) rfl a0.1, at_step s hs 1 6 4 (by decide) rfl (by decide) (by decide) rfl a1.1, at_step s hs 2 8 6 (by decide) rfl (by decide) (by decide) rfl a2.1,
          at_step s hs 3 10 8 (by decide) rfl (by decide) (by decide) rfl a3.1, at_step s hs 4 12 10 (by decide) rfl (by decide) (by decide) rfl a4.1, at_step s hs 5 14 12 (by decide) rfl (by decide) (by decide) rfl a5.1, at_end]
        have t1 : mulI .i64 86400 dz = 86400 * dz := tmul (by omega) (by omega)
        have t2 : mulI .i64 3600 (atoiV (cutS s 8 10)) = 3600 * atoiV (cutS s 8 10) := tmul (by omega) (by omega)
        have t3 : mulI .i64 60 (atoiV (cutS s 10 12)) = 60 * atoiV (cutS s 10 12) := tmul (by omega) (by omega)
        have t4 : addI .i64 (86400 * dz) (3600 * atoiV (cutS s 8 10)) = 86400 * dz + 3600 * atoiV (cutS s 8 10) := tadd (by omega) (by omega)
        have t5 : addI .i64 (86400 * dz + 3600 * atoiV (cutS s 8 10)) (60 * atoiV (cutS s 10 12)) = 86400 * dz + 3600 * atoiV (cutS s 8 10) + 60 * atoiV (cutS s 10 12) := tadd (by omega) (by omega)
        have t6 : addI .i64 (86400 * dz + 3600 * atoiV (cutS s 8 10) + 60 * atoiV (cutS s 10 12)) (atoiV (cutS s 12 14)) = 86400 * dz + 3600 * atoiV (cutS s 8 10) + 60 * atoiV (cutS s 10 12) + atoiV (cutS s 12 14) := tadd (by omega) (by omega)
        refine (hdz R _).trans ?_
        show Z1j R (addI .i64 (addI .i64 (addI .i64 (mulI .i64 86400 dz) (mulI .i64 3600 (atoiV (cutS s 8 10)))) (mulI .i64 60 (atoiV (cutS s 10 12)))) (atoiV (cutS s 12 14))) (fun r34 r35 => 
          br (eqI r35 0) (k (addI .i64 (addI .i64 (addI .i64 (mulI .i64 86400 dz) (mulI .i64 3600 (atoiV (cutS s 8 10)))) (mulI .i64 60 (atoiV (cutS s 10 12)))) (atoiV (cutS s 12 14))) (eqS r34 s))
            (k (addI .i64 (addI .i64 (addI .i64 (mulI .i64 86400 dz) (mulI .i64 3600 (atoiV (cutS s 8 10)))) (mulI .i64 60 (atoiV (cutS s 10 12)))) (atoiV (cutS s 12 14))) false)) = _
        rw [t1, t2, t3, t4, t5, t6]
        refine (ht R _).trans ?_
        by_cases h0 : te = 0
        · rw [brT _ _ (by simp only [ts]; exact h0), if_pos (show te = ((0 : Nat) : Int) from h0)]
        · rw [brF _ _ (by simp only [ts]; exact h0), if_neg (show ¬ te = ((0 : Nat) : Int) from h0)]
    · refine ⟨0, false, ?_, fun R k => ?_⟩
      · intro n y m d _ _ hdt hst
        exfalso
        apply hd
        rw [hst]
        intro b hb
        have e : (stamp y m d (n % 86400)).take 14 = dig 4 y.toNat ++ dig 2 m.toNat ++ dig 2 d.toNat ++ dig 2 (n % 86400 / 3600).toNat ++ dig 2 (n % 86400 / 60 % 60).toNat ++ dig 2 (n % 86400 % 60).toNat := by
          unfold stamp
          rw [List.take_append_of_le_length (by simp only [List.length_append, dig_length]; decide), List.take_of_length_le (by simp only [List.length_append, dig_length]; decide)]
        rw [e] at hb
        simp only [List.mem_append] at hb
        rcases hb with ((((h | h) | h) | h) | h) | h <;> exact dig_isDig _ _ b h
      · show Zcq R s k = _
        rw [start, brT _ _ (by simp only [ts]; intro e; exact hd (z1.mp e))]
  · refine ⟨0, false, ?_, fun R k => ?_⟩
    · intro n y m d _ _ _ hst
      rw [hst, stamp_length] at hs
      exact absurd rfl hs
    · show Zcq R s k = _
      unfold Zcq Zwj lett; dsimp only
      rw [brT _ _ (by simp only [ts]; omega)]
theorem take_wr (t : Int) (b r : Str) (bad : Bool) (ht : tagB t = true) (hb : b.length ≤ 65535) (hr : r.length ≤ 900000000) (R : Type) (k : Str → Str → Bool → Option R) :
    Z13 R t (wr (UInt8.ofNat t.toNat) b ++ r) bad k = k b r bad := by
  unfold Z13 Z4d
  rw [read_wr t b r ht hb hr, show (!(eqI 0 0)) = false from rfl, br_false, brF _ _ (by simp [ts])]
theorem take_tot (t : Int) (s : Str) (bad : Bool) (hs : s.length ≤ 1000000000) : T_3 (fun R k0 => Z13 R t s bad k0) (fun b r bd => b.length ≤ s.length ∧ r.length ≤ s.length) := by
  obtain ⟨t', b, r, e, ⟨p1, p2⟩, h⟩ := fder_Read_tot s hs
  by_cases he : e = 0
  · obtain ⟨q1, q2, q3⟩ := p1 he
    have hl := congrArg List.length q2
    have := wr_length (UInt8.ofNat t'.toNat) b
    rw [List.length_append] at hl
    by_cases ht : t' = t
    · refine ⟨b, r, bad, ⟨by omega, by omega⟩, fun R k => ?_⟩
      unfold Z13 Z4d
      refine (h R _).trans ?_
      rw [brF _ _ (by simp [ts]; exact he), brF _ _ (by simp [ts]; exact ht)]
    · refine ⟨[], s, true, ⟨by simp, by omega⟩, fun R k => ?_⟩
      unfold Z13 Z4d
      refine (h R _).trans ?_
      rw [brF _ _ (by simp [ts]; exact he), brT _ _ (by simp [ts]; exact ht)]
  · refine ⟨[], s, true, ⟨by simp, by omega⟩, fun R k => ?_⟩
    unfold Z13 Z4d
    refine (h R _).trans ?_
    rw [brT _ _ (by simp [ts]; exact he)]
theorem into_wr (t : Int) (b r : Str) (bad : Bool) (ht : tagB t = true) (hb : b.length ≤ 65535) (hr : r.length ≤ 900000000) (R : Type) (k : Str → Bool → Str → Bool → Option R) :
    Z1w R t (wr (UInt8.ofNat t.toNat) b ++ r) bad k = k r bad b bad := by
  unfold Z1w Z8u
  exact take_wr t b r bad ht hb hr R _
theorem into_tot (t : Int) (s : Str) (bad : Bool) (hs : s.length ≤ 1000000000) : T_4 (fun R k0 => Z1w R t s bad k0) (fun r bd b bd' => b.length ≤ s.length ∧ r.length ≤ s.length) := by
  obtain ⟨b, r, bd, hq, h⟩ := take_tot t s bad hs
  refine ⟨r, bd, b, bd, hq, fun R k => ?_⟩
  show Z1w R t s bad k = _
  unfold Z1w Z8u
  exact h R _
theorem bits_wr (b r : Str) (bad : Bool) (hb : b.length ≤ 65000) (hr : r.length ≤ 900000000) (R : Type) (k : Str → Str → Bool → Option R) :
    Z27 R (wr 3 (0 :: b) ++ r) bad k = k b r bad := by
  unfold Z27 Z8k
  obtain ⟨x, y, h⟩ := Cut_eq (0 :: b) (by rw [List.length_cons]; omega)
  refine (take_wr 3 (0 :: b) r bad (by decide) (by rw [List.length_cons]; omega) hr R _).trans ?_
  rw [h, behind0_cons]
theorem bits_tot (s : Str) (bad : Bool) (hs : s.length ≤ 1000000000) : T_3 (fun R k0 => Z27 R s bad k0) (fun b r bd => b.length ≤ s.length ∧ r.length ≤ s.length) := by
  obtain ⟨b, r, bd, hq, h⟩ := take_tot 3 s bad hs
  obtain ⟨x, y, hc⟩ := Cut_eq b (by omega)
  refine ⟨behind0 b, r, bd, ⟨Nat.le_trans (behind0_length b) hq.1, hq.2⟩, fun R k => ?_⟩
  show Z27 R s bad k = _
  unfold Z27 Z8k
  exact (h R _).trans (hc R _)
theorem readInt_tot (s : Str) (hs : s.length ≤ 1000000000) : T_2 (fun R k0 => Zb7 R s k0) (fun _ _ => True) := by
  have h := fun R k => readInt_eq s hs R k
  by_cases h1 : s = []
  · exact ⟨0, 10, trivial, fun R k => by have := h R k; rwa [if_pos h1] at this⟩
  · by_cases h2 : spareB s = true
    · exact ⟨0, 11, trivial, fun R k => by have := h R k; rwa [if_neg h1, if_pos h2] at this⟩
    · by_cases h3 : 8 < s.length
      · exact ⟨0, 13, trivial, fun R k => by have := h R k; rwa [if_neg h1, if_neg h2, if_pos h3] at this⟩
      · exact ⟨sval s, 0, trivial, fun R k => by have := h R k; rwa [if_neg h1, if_neg h2, if_neg h3] at this⟩
theorem parts_tot (s : Str) (hs : s.length ≤ 1000000) : T_6 (fun R k0 => Z6v R s k0) (fun n name f t key sig => name.length ≤ s.length ∧ key.length ≤ s.length ∧ sig.length ≤ s.length) := by
  obtain ⟨r2, r3, r4, r5, q1, h1⟩ := into_tot 48 s false (by omega)
  obtain ⟨r6, r7, r8, r9, q2, h2⟩ := into_tot 48 r4 r5 (by omega)
  obtain ⟨r10, r11, r12, q3, h3⟩ := take_tot 48 r6 r7 (by omega)
  obtain ⟨r13, r14, r15, q4, h4⟩ := bits_tot r11 r12 (by omega)
  obtain ⟨r16, r17, r18, q5, h5⟩ := take_tot 2 r8 r9 (by omega)
  obtain ⟨r19, r20, _, h6⟩ := readInt_tot r16 (by omega)
  obtain ⟨r21, r22, r23, q7, h7⟩ := take_tot 48 r17 r18 (by omega)
  obtain ⟨r24, r25, r26, r27, q8, h8⟩ := into_tot 48 r22 r23 (by omega)
  obtain ⟨r28, r29, r30, r31, q9, h9⟩ := into_tot 49 r26 r27 (by omega)
  obtain ⟨r32, r33, r34, r35, q10, h10⟩ := into_tot 48 r30 r31 (by omega)
  obtain ⟨r36, r37, r38, q11, h11⟩ := take_tot 6 r34 r35 (by omega)
  obtain ⟨r39, r40, r41, q12, h12⟩ := take_tot 12 r37 r38 (by omega)
  obtain ⟨r42, r43, r44, r45, q13, h13⟩ := into_tot 48 r24 r25 (by omega)
  obtain ⟨r46, r47, r48, q14, h14⟩ := take_tot 24 r44 r45 (by omega)
  obtain ⟨r49, r50, _, h15⟩ := fcert_at_tot r46 (by omega)
  obtain ⟨r51, r52, r53, q16, h16⟩ := take_tot 24 r47 r48 (by omega)
  obtain ⟨r54, r55, _, h17⟩ := fcert_at_tot r51 (by omega)
  obtain ⟨r56, r57, r58, q18, h18⟩ := take_tot 48 r42 r43 (by omega)
  obtain ⟨r59, r60, r61, r62, q19, h19⟩ := into_tot 48 r57 r58 (by omega)
  obtain ⟨r63, r64, r65, q20, h20⟩ := take_tot 48 r61 r62 (by omega)
  obtain ⟨r66, r67, r68, q21, h21⟩ := bits_tot r64 r65 (by omega)
  refine ⟨r19, r39, r49, r54, r66, r13, ⟨by omega, by omega, by omega⟩, fun R k => ?_⟩
  show Z6v R s k = _
  unfold Z6v Znq
  refine (h1 R _).trans ?_; refine (h2 R _).trans ?_; refine (h3 R _).trans ?_; refine (h4 R _).trans ?_; refine (h5 R _).trans ?_; refine (h6 R _).trans ?_; refine (h7 R _).trans ?_
  refine (h8 R _).trans ?_; refine (h9 R _).trans ?_; refine (h10 R _).trans ?_; refine (h11 R _).trans ?_; refine (h12 R _).trans ?_; refine (h13 R _).trans ?_; refine (h14 R _).trans ?_
  refine (h15 R _).trans ?_; refine (h16 R _).trans ?_; refine (h17 R _).trans ?_; refine (h18 R _).trans ?_; refine (h19 R _).trans ?_; refine (h20 R _).trans ?_; refine (h21 R _).trans ?_
  rfl
theorem parts_who {n : Int} {name : Str} {f t : Int} {key sig ft tt : Str} {fe te : Int} (hr : rightB n name f t = true) (n1 : n ≤ 9223372036854775807) (hk : key.length ≤ 1000) (hsig : sig.length ≤ 1000) (hf : TimeS f ft fe) (ht : TimeS t tt te)
    (R : Type) (k : Int → Str → Int → Int → Str → Str → Option R) : Z6v R (whoS (innS n name ft tt key) sig) k = k n name f t key sig := by
  obtain ⟨hn, hname, f0, f1, t1⟩ := rightB_spec hr
  have lf := hf.length
  have lt := ht.length
  have li := innS_length (n := n) (name := name) (key := key) lf lt
  have l1 := wr_length 2 (intS n)
  have l2 := intS_length n
  have l3 := algS_length
  have l4 := namS_length name
  have l5 := wr_length 24 ft
  have l6 := wr_length 24 tt
  have l7 := wr_length 48 (wr 24 ft ++ wr 24 tt)
  have l8 := wr_length 3 (0 :: key)
  have l9 := wr_length 48 (algS ++ wr 3 (0 :: key))
  have l11 := wr_length 3 (0 :: sig)
  have m1 := wr_length 12 name
  have m2 := wr_length 48 ([6, 3, 85, 4, 3] ++ wr 12 name)
  have m3 := wr_length 49 (wr 48 ([6, 3, 85, 4, 3] ++ wr 12 name))
  have m4 := wr_length 48 (wr 49 (wr 48 ([6, 3, 85, 4, 3] ++ wr 12 name)))
  have u48 : (48 : UInt8) = UInt8.ofNat (Int.toNat 48) := rfl
  simp only [List.length_append, List.length_cons, List.length_nil] at *
  obtain ⟨t1', ok1, ha1, hat1⟩ := fcert_at_tot ft (by omega)
  obtain ⟨t2', ok2, ha2, hat2⟩ := fcert_at_tot tt (by omega)
  have e1 : t1' = f := by
    rcases hf with ⟨a, b, _, y, m, d, hd, hst⟩ | ⟨a, _, _⟩
    · exact ha1 f y m d a b hd hst
    · omega
  have e2 : t2' = t := by
    rcases ht with ⟨a, b, _, y, m, d, hd, hst⟩ | ⟨a, _, _⟩
    · exact ha2 t y m d a b hd hst
    · omega
  subst e1; subst e2
  unfold Z6v Znq
  have tk : ∀ (tg : Int) (b r : Str) (bad : Bool) (K : Str → Str → Bool → Option R), tagB tg = true → b.length ≤ 65535 → r.length ≤ 900000000 → Z13 R tg (wr (UInt8.ofNat tg.toNat) b ++ r) bad K = K b r bad :=
    fun tg b r bad K h1 h2 h3 => take_wr tg b r bad h1 h2 h3 R K
  have it : ∀ (tg : Int) (b r : Str) (bad : Bool) (K : Str → Bool → Str → Bool → Option R), tagB tg = true → b.length ≤ 65535 → r.length ≤ 900000000 → Z1w R tg (wr (UInt8.ofNat tg.toNat) b ++ r) bad K = K r bad b bad :=
    fun tg b r bad K h1 h2 h3 => into_wr tg b r bad h1 h2 h3 R K
  have tk0 : ∀ (tg : Int) (b : Str) (bad : Bool) (K : Str → Str → Bool → Option R), tagB tg = true → b.length ≤ 65535 → Z13 R tg (wr (UInt8.ofNat tg.toNat) b) bad K = K b [] bad :=
    fun tg b bad K h1 h2 => by have := tk tg b [] bad K h1 h2 (by simp); rwa [List.append_nil] at this
  have it0 : ∀ (tg : Int) (b : Str) (bad : Bool) (K : Str → Bool → Str → Bool → Option R), tagB tg = true → b.length ≤ 65535 → Z1w R tg (wr (UInt8.ofNat tg.toNat) b) bad K = K [] bad b bad :=
    fun tg b bad K h1 h2 => by have := it tg b [] bad K h1 h2 (by simp); rwa [List.append_nil] at this
  have bt0 : ∀ (b : Str) (bad : Bool) (K : Str → Str → Bool → Option R), b.length ≤ 65000 → Z27 R (wr 3 (0 :: b)) bad K = K b [] bad :=
    fun b bad K h2 => by have := bits_wr b [] bad h2 (by simp) R K; rwa [List.append_nil] at this
  have lin := wr_length 48 (wr 2 (intS n) ++ (algS ++ (namS name ++ (wr 48 (wr 24 ft ++ wr 24 tt) ++ (namS name ++ wr 48 (algS ++ wr 3 (0 :: key)))))))
  unfold innS at li
  refine (it0 48 (innS n name ft tt key ++ (algS ++ wr 3 (0 :: sig))) false _ (by decide) (by unfold innS; simp only [List.length_append]; omega)).trans ?_
  refine (it 48 (wr 2 (intS n) ++ (algS ++ (namS name ++ (wr 48 (wr 24 ft ++ wr 24 tt) ++ (namS name ++ wr 48 (algS ++ wr 3 (0 :: key))))))) (algS ++ wr 3 (0 :: sig)) false _ (by decide) (by omega) (by simp only [List.length_append]; omega)).trans ?_
  refine (tk 48 [6, 3, 43, 101, 112] (wr 3 (0 :: sig)) false _ (by decide) (by decide) (by omega)).trans ?_
  refine (bt0 sig false _ (by omega)).trans ?_
  refine (tk 2 (intS n) _ false _ (by decide) (by omega) (by simp only [List.length_append]; omega)).trans ?_
  refine (readInt_intS n (by omega) n1 R _).trans ?_
  refine (tk 48 [6, 3, 43, 101, 112] _ false _ (by decide) (by decide) (by simp only [List.length_append]; omega)).trans ?_
  refine (it 48 (wr 49 (wr 48 ([6, 3, 85, 4, 3] ++ wr 12 name))) _ false _ (by decide) (by omega) (by simp only [List.length_append]; omega)).trans ?_
  refine (it0 49 (wr 48 ([6, 3, 85, 4, 3] ++ wr 12 name)) false _ (by decide) (by omega)).trans ?_
  refine (it0 48 ([6, 3, 85, 4, 3] ++ wr 12 name) false _ (by decide) (by simp only [List.length_append, List.length_cons, List.length_nil]; omega)).trans ?_
  refine (tk 6 [85, 4, 3] (wr 12 name) false _ (by decide) (by decide) (by omega)).trans ?_
  refine (tk0 12 name false _ (by decide) (by omega)).trans ?_
  refine (it 48 (wr 24 ft ++ wr 24 tt) _ false _ (by decide) (by simp only [List.length_append]; omega) (by simp only [List.length_append]; omega)).trans ?_
  refine (tk 24 ft (wr 24 tt) false _ (by decide) (by omega) (by omega)).trans ?_
  refine (hat1 R _).trans ?_
  refine (tk0 24 tt false _ (by decide) (by omega)).trans ?_
  refine (hat2 R _).trans ?_
  refine (tk 48 (wr 49 (wr 48 ([6, 3, 85, 4, 3] ++ wr 12 name))) _ false _ (by decide) (by omega) (by omega)).trans ?_
  refine (it0 48 (algS ++ wr 3 (0 :: key)) false _ (by decide) (by simp only [List.length_append]; omega)).trans ?_
  refine (tk 48 [6, 3, 43, 101, 112] (wr 3 (0 :: key)) false _ (by decide) (by decide) (by omega)).trans ?_
  refine (bt0 key false _ (by omega)).trans ?_
  rfl
theorem TimeS.uniq {n : Int} {s t : Str} {d e : Int} (h : TimeS n s d) (h' : TimeS n t e) : s = t := by
  rcases h with ⟨a, b, _, y, m, d, hd, rfl⟩ | ⟨a, rfl, _⟩
  · rcases h' with ⟨_, _, _, y', m', d', hd', rfl⟩ | ⟨a', _, _⟩
    · have := hd.year (by omega) (by omega)
      have := hd'.year (by omega) (by omega)
      obtain ⟨rfl, rfl, rfl⟩ := hd.uniq hd' (by omega) (by omega)
      rfl
    · omega
  · rcases h' with ⟨_, _, _, _⟩ | ⟨_, rfl, _⟩
    · omega
    · rfl
def IsCert (n : Int) (name : Str) (f t : Int) (key sig s : Str) : Prop :=
  rightB n name f t = true ∧ key.length = 32 ∧ sig.length = 64 ∧ ∃ ft fe tt te, TimeS f ft fe ∧ TimeS t tt te ∧ s = whoS (innS n name ft tt key) sig
theorem uniq6 {F : (R : Type) → (Int → Str → Int → Int → Str → Str → Option R) → Option R} {a a' : Int} {b b' : Str} {c c' d d' : Int} {e e' f f' : Str}
    (h : ∀ R k, F R k = k a b c d e f) (h' : ∀ R k, F R k = k a' b' c' d' e' f') : a = a' ∧ b = b' ∧ c = c' ∧ d = d' ∧ e = e' ∧ f = f' := by
  have := (h (Int × Str × Int × Int × Str × Str) (fun a b c d e f => some (a, b, c, d, e, f))).symm.trans (h' _ (fun a b c d e f => some (a, b, c, d, e, f)))
  simpa using this
def ReadS (s : Str) (n : Int) (name : Str) (f t : Int) (key : Str) (e : Int) : Prop :=
  (e = 0 ∨ e = 22 ∨ e = 11 ∨ (e = 13 ∧ 1000 < s.length)) ∧ (e ≠ 0 → n = 0 ∧ name = [] ∧ f = 0 ∧ t = 0 ∧ key = []) ∧
  (e = 0 ∨ e = 22 → ∃ n' name' f' t' key' sig, IsCert n' name' f' t' key' sig s ∧ (e = 0 → n = n' ∧ name = name' ∧ f = f' ∧ t = t' ∧ key = key')) ∧
  (∀ n' name' f' t' key' sig, n' ≤ 9223372036854775807 → IsCert n' name' f' t' key' sig s → e = 22 ∨ (e = 0 ∧ n = n' ∧ name = name' ∧ f = f' ∧ t = t' ∧ key = key'))
theorem cert_length {n : Int} {name : Str} {f t : Int} {key sig s : Str} (h : IsCert n name f t key sig s) : s.length ≤ 500 := by
  obtain ⟨hr, hk, hs, ft, fe, tt, te, h1, h2, rfl⟩ := h
  have := rightB_spec hr
  have := innS_length (n := n) (name := name) (key := key) h1.length h2.length
  have := whoS_length (innS n name ft tt key) sig
  omega
theorem fcert_Read_tot (s : Str) (hs : s.length ≤ 1000000) : T_6 (fun R k0 => Z2x R s k0) (fun n name f t key e => ReadS s n name f t key e) := by
  have z : ∀ e : Int, e ≠ 0 → (e ≠ 0 → (0 : Int) = 0 ∧ ([] : Str) = [] ∧ (0 : Int) = 0 ∧ (0 : Int) = 0 ∧ ([] : Str) = []) := fun _ _ _ => ⟨rfl, rfl, rfl, rfl, rfl⟩
  by_cases hb : 1000 < s.length
  · refine ⟨0, [], 0, 0, [], 13, ⟨by omega, z 13 (by decide), fun h => absurd h (by decide), fun n' name' f' t' key' sig _ hc => ?_⟩, fun R k => ?_⟩
    · have := cert_length hc; omega
    · show Z2x R s k = _
      unfold Z2x Zqg lett; dsimp only
      rw [brT _ _ (by simp only [ts]; omega)]
  · obtain ⟨n, name, f, t, key, sig, ⟨q1, q2, q3⟩, hp⟩ := parts_tot s hs
    have go : ∀ (R : Type) (k : Int → Str → Int → Int → Str → Int → Option R), Z2x R s k = br (!(rightB n name f t)) (k 0 [] 0 0 [] 11) (br (!(eqI key.length 32)) (k 0 [] 0 0 [] 11) (br (!(eqI sig.length 64)) (k 0 [] 0 0 [] 11)
        (Z5o R n name f t key fun r12 => Z8t R r12 sig fun r13 => br (!(eqS r13 s)) (k 0 [] 0 0 [] 11)
          (Z5o R n name f t key fun r14 => Ze3 R key r14 sig fun r15 => br (!(eqI r15 0)) (k 0 [] 0 0 [] 22) (k n name f t key 0))))) := by
      intro R k
      unfold Z2x Zqg lett; dsimp only
      rw [brF _ _ (by simp only [ts]; omega)]
      refine (hp R _).trans ?_
      rw [right_eq _ _ _ _ _ (by omega)]
    have told : ∀ n' name' f' t' key' sig', n' ≤ 9223372036854775807 → IsCert n' name' f' t' key' sig' s → n = n' ∧ name = name' ∧ f = f' ∧ t = t' ∧ key = key' ∧ sig = sig' := by
      intro n' name' f' t' key' sig' hn hc
      obtain ⟨hr, hk, hsg, ft, fe, tt, te, h1, h2, h3⟩ := hc
      refine uniq6 (F := fun R k => Z6v R s k) hp (fun R k => ?_)
      show Z6v R s k = _
      rw [h3]
      exact parts_who hr hn (by omega) (by omega) h1 h2 R k
    have bad : ∀ (h : ¬ IsCert n name f t key sig s), ReadS s 0 [] 0 0 [] 11 := by
      intro h
      refine ⟨by omega, z 11 (by decide), fun h => absurd h (by decide), fun n' name' f' t' key' sig' hn hc => ?_⟩
      obtain ⟨rfl, rfl, rfl, rfl, rfl, rfl⟩ := told _ _ _ _ _ _ hn hc
      exact absurd hc h
    by_cases h1 : rightB n name f t = true
    · by_cases h2 : key.length = 32
      · by_cases h3 : sig.length = 64
        · have hname := (rightB_spec h1).2.1
          obtain ⟨inn, ⟨ft, fe, tt, te, g1, g2, rfl⟩, hi⟩ := fcert_inner_tot n name f t key (by omega) (by omega)
          have li := innS_length (n := n) (name := name) (key := key) g1.length g2.length
          by_cases h4 : whoS (innS n name ft tt key) sig = s
          · have hc : IsCert n name f t key sig s := ⟨h1, h2, h3, ft, fe, tt, te, g1, g2, h4.symm⟩
            obtain ⟨v, _, hv⟩ := Z14k key (innS n name ft tt key) sig (by omega)
            have go2 : ∀ (R : Type) (k : Int → Str → Int → Int → Str → Int → Option R), Z2x R s k = br (!(eqI v 0)) (k 0 [] 0 0 [] 22) (k n name f t key 0) := by
              intro R k
              rw [go, h1, show (!true) = false from rfl, br_false, brF _ _ (by simp only [ts]; omega), brF _ _ (by simp only [ts]; omega)]
              refine (hi R _).trans ?_
              rw [whole_eq _ _ (by omega) (by omega), brF _ _ (by simp only [ts]; exact h4)]
              refine (hi R _).trans ?_
              exact hv R _
            by_cases h5 : v = 0
            · refine ⟨n, name, f, t, key, 0, ⟨by omega, fun h => absurd rfl h, fun _ => ⟨n, name, f, t, key, sig, hc, fun _ => ⟨rfl, rfl, rfl, rfl, rfl⟩⟩, fun n' name' f' t' key' sig' hn hc' => ?_⟩, fun R k => ?_⟩
              · obtain ⟨rfl, rfl, rfl, rfl, rfl, rfl⟩ := told _ _ _ _ _ _ hn hc'
                exact .inr ⟨rfl, rfl, rfl, rfl, rfl, rfl⟩
              · show Z2x R s k = _
                rw [go2, brF _ _ (by simp only [ts]; exact h5)]
            · refine ⟨0, [], 0, 0, [], 22, ⟨by omega, z 22 (by decide), fun _ => ⟨n, name, f, t, key, sig, hc, fun h => absurd h (by decide)⟩, fun n' name' f' t' key' sig' hn hc' => .inl rfl⟩, fun R k => ?_⟩
              show Z2x R s k = _
              rw [go2, brT _ _ (by simp only [ts]; exact h5)]
          · refine ⟨0, [], 0, 0, [], 11, bad fun hc => ?_, fun R k => ?_⟩
            · obtain ⟨_, _, _, ft', fe', tt', te', e1, e2, e3⟩ := hc
              rw [g1.uniq e1, g2.uniq e2] at h4
              exact h4 e3.symm
            · show Z2x R s k = _
              rw [go, h1, show (!true) = false from rfl, br_false, brF _ _ (by simp only [ts]; omega), brF _ _ (by simp only [ts]; omega)]
              refine (hi R _).trans ?_
              rw [whole_eq _ _ (by omega) (by omega), brT _ _ (by simp only [ts]; exact h4)]
        · refine ⟨0, [], 0, 0, [], 11, bad fun hc => h3 hc.2.2.1, fun R k => ?_⟩
          show Z2x R s k = _
          rw [go, h1, show (!true) = false from rfl, br_false, brF _ _ (by simp only [ts]; omega), brT _ _ (by simp only [ts]; omega)]
      · refine ⟨0, [], 0, 0, [], 11, bad fun hc => h2 hc.2.1, fun R k => ?_⟩
        show Z2x R s k = _
        rw [go, h1, show (!true) = false from rfl, br_false, brT _ _ (by simp only [ts]; omega)]
    · refine ⟨0, [], 0, 0, [], 11, bad fun hc => h1 hc.1, fun R k => ?_⟩
      show Z2x R s k = _
      rw [go, brT _ _ (by simp only [ts]; exact (Bool.not_eq_true _).mp h1)]
def MakeS (n : Int) (name : Str) (f t : Int) (key p : Str) (pe : Int) (s : Str) (e : Int) : Prop :=
  (e = 0 → pe = 0 ∧ ∃ sig, IsCert n name f t p sig s) ∧ (e ≠ 0 → s = [] ∧ (e = 1 ∨ (e = 21 ∧ (pe ≠ 0 ∨ key ≠ []))))
theorem fcert_Make_tot (n : Int) (name : Str) (f t : Int) (key seed p : Str) (pe : Int) (hn : name.length ≤ 1000000) (hp : ∀ (R : Type) (k : Str → Int → Option R), Z91 R seed k = k p pe) (hp2 : pe = 0 → p.length = 32 ∧ seed.length = 32) :
    T_2 (fun R k0 => Z60 R n name f t key seed k0) (fun s e => MakeS n name f t key p pe s e) := by
  by_cases h1 : rightB n name f t = true
  · by_cases h2 : pe = 0
    · obtain ⟨pl, sl⟩ := hp2 h2
      by_cases h3 : key = [] ∨ key = p
      · have hname := (rightB_spec h1).2.1
        obtain ⟨inn, ⟨ft, fe, tt, te, g1, g2, rfl⟩, hi⟩ := fcert_inner_tot n name f t p (by omega) (by omega)
        have li := innS_length (n := n) (name := name) (key := p) g1.length g2.length
        obtain ⟨sig, se, ⟨s1, s2, s3⟩, hs⟩ := Z16j seed (innS n name ft tt p) (by omega)
        have s0 := s1 sl
        have sl64 := s3 s0
        refine ⟨whoS (innS n name ft tt p) sig, 0, ⟨fun _ => ⟨h2, sig, h1, pl, sl64, ft, fe, tt, te, g1, g2, rfl⟩, fun h => absurd rfl h⟩, fun R k => ?_⟩
        have tail : ∀ K : Str → Int → Option R, (Z5o R n name f t p fun r10 => Zi9 R seed r10 fun r11 r12 => br (!(eqI r12 0)) (K [] r12) (Z8t R r10 r11 fun r13 => K r13 0)) = K (whoS (innS n name ft tt p) sig) 0 := by
          intro K
          refine (hi R _).trans ?_
          refine (hs R _).trans ?_
          rw [brF _ _ (by simp only [ts]; exact s0), whole_eq _ _ (by omega) (by omega)]
        show Z60 R n name f t key seed k = _
        unfold Z60 Zgb
        rw [right_eq _ _ _ _ _ (by omega), h1, show (!true) = false from rfl, br_false, hp, brF _ _ (by simp only [ts]; exact h2)]
        by_cases h4 : key = []
        · rw [brF _ _ (by simp only [ts]; exact h4)]
          exact tail k
        · rcases h3 with h3 | h3
          · exact absurd h3 h4
          · rw [brT _ _ (by simp only [ts]; exact h4), brF _ _ (by simp only [ts]; exact h3)]
            exact tail k
      · refine ⟨[], 21, ⟨fun h => absurd h (by decide), fun _ => ⟨rfl, .inr ⟨rfl, .inr fun h => h3 (.inl h)⟩⟩⟩, fun R k => ?_⟩
        show Z60 R n name f t key seed k = _
        unfold Z60 Zgb
        rw [right_eq _ _ _ _ _ (by omega), h1, show (!true) = false from rfl, br_false, hp, brF _ _ (by simp only [ts]; exact h2), brT _ _ (by simp only [ts]; exact fun h => h3 (.inl h)), brT _ _ (by simp only [ts]; exact fun h => h3 (.inr h))]
    · refine ⟨[], 21, ⟨fun h => absurd h (by decide), fun _ => ⟨rfl, .inr ⟨rfl, .inl h2⟩⟩⟩, fun R k => ?_⟩
      show Z60 R n name f t key seed k = _
      unfold Z60 Zgb
      rw [right_eq _ _ _ _ _ (by omega), h1, show (!true) = false from rfl, br_false, hp, brT _ _ (by simp only [ts]; exact h2)]
  · refine ⟨[], 1, ⟨fun h => absurd h (by decide), fun _ => ⟨rfl, .inl rfl⟩⟩, fun R k => ?_⟩
    show Z60 R n name f t key seed k = _
    unfold Z60 Zgb
    rw [right_eq _ _ _ _ _ (by omega), brT _ _ (by simp only [ts]; exact (Bool.not_eq_true _).mp h1)]
noncomputable section
abbrev Zt7 := (R : Type) → Int → Str → Int → Int → Str → (Bool → Option R) → Option R
def Zxr (R : Type) (a1 : Int) (a2 : Str) (a3 a4 : Int) (a5 : Str) (k0 : Bool → Option R) : Option R :=
 lett (((a2.length : Nat) : Int)) fun (v6 : Int) =>
 br (leI v6 200)
 (lett (((a5.length : Nat) : Int)) fun (v7 : Int) =>
 k0 (leI v7 200))
 (k0 false)
def Zmd : Zt7 := Zxr
abbrev Zmy := (R : Type) → (Bool → Option R) → Option R
def Zst (g0 : Z3h) (g1 : Zie) (R : Type) (k0 : Bool → Option R) : Option R :=
 g0 R 0 fun r1 r2 =>
 g0 R 951782400 fun r3 r4 =>
 g1 R ([] : Str) fun r5 r6 r7 r8 r9 r10 =>
 br (eqI r2 0)
 (lett (eqS r1 [49, 57, 55, 48, 48, 49, 48, 49, 48, 48, 48, 48, 48, 48, 90]) fun (v11 : Bool) =>
 br (v11)
 (br (eqI r4 0)
 (lett (eqS r3 [50, 48, 48, 48, 48, 50, 50, 57, 48, 48, 48, 48, 48, 48, 90]) fun (v12 : Bool) =>
 br (v12)
 (k0 (eqI r10 11))
 (k0 false))
 (k0 false))
 (k0 false))
 (k0 false)
def Zhu : Zmy := Zst Z1j Z2x
abbrev Zwq := (R : Type) → Int → Str → Int → Int → Str → Str → Int → (Bool → Option R) → Option R
def Zkw (g0 : Zt7) (g1 : Zmy) (g2 : Zts) (g3 : Zie) (g4 : Ze0) (R : Type) (a1 : Int) (a2 : Str) (a3 a4 : Int) (a5 a6 : Str) (a7 : Int) (k0 : Bool → Option R) : Option R :=
 g0 R a1 a2 a3 a4 a5 fun r8 =>
 br (!r8)
 (g1 R fun r9 =>
 k0 r9)
 (lett (((a6.length : Nat) : Int)) fun (v10 : Int) =>
 br (!(eqI v10 32))
 (g1 R fun r11 =>
 k0 r11)
 (g2 R a1 a2 a3 a4 a5 a6 fun r12 r13 =>
 br (!(eqI r13 0))
 (br (eqS r12 [])
 (br (eqI r13 1)
 (g1 R fun r14 =>
 k0 r14)
 (br (eqI r13 21)
 (br (!(eqS a5 []))
 (g1 R fun r15 =>
 k0 r15)
 (k0 false))
 (k0 false)))
 (k0 false))
 (g3 R r12 fun r16 r17 r18 r19 r20 r21 =>
 g4 R a6 fun r22 r23 =>
 br (!(eqI r21 0))
 (br (eqI r21 22)
 (g1 R fun r24 =>
 k0 r24)
 (k0 false))
 (br (!(eqI r23 0))
 (k0 false)
 (br (!(eqI r16 a1))
 (k0 false)
 (br (!(eqS r17 a2))
 (k0 false)
 (br (!(eqI r18 a3))
 (k0 false)
 (br (!(eqI r19 a4))
 (k0 false)
 (br (!(eqS r20 r22))
 (k0 false)
 (lett (((r12.length : Nat) : Int)) fun (v25 : Int) =>
 br (eqI v25 0)
 (k0 false)
 (gd (catB r12 [UInt8.ofNat a7.toNat]) <|
 lett (r12 ++ [UInt8.ofNat a7.toNat]) fun (v26 : Str) =>
 g3 R v26 fun r27 r28 r29 r30 r31 r32 =>
 gd (leB 1 r12.length) <|
 gd (catB [UInt8.ofNat a7.toNat] (r12.drop 1)) <|
 lett ([UInt8.ofNat a7.toNat] ++ (r12.drop 1)) fun (v33 : Str) =>
 g3 R v33 fun r34 r35 r36 r37 r38 r39 =>
 br (eqI r32 11)
 (lett ((eqI r27 0) && ((eqS r28 []) && ((eqI r29 0) && ((eqI r30 0) && (eqS r31 []))))) fun (v40 : Bool) =>
 br (v40)
 (gd (inB 0 r12.length) <|
 lett (((r12.getD 0 0).toNat : Int)) fun (v41 : Int) =>
 br (eqI a7 v41)
 (g1 R fun r42 =>
 k0 r42)
 (br (eqI r39 11)
 (lett ((eqI r34 0) && ((eqS r35 []) && ((eqI r36 0) && ((eqI r37 0) && (eqS r38 []))))) fun (v43 : Bool) =>
 br (v43)
 (g1 R fun r44 =>
 k0 r44)
 (k0 false))
 (k0 false)))
 (k0 false))
 (k0 false))))))))))))
def Znm : Zwq := Zkw Zmd Zhu Z60 Z2x Z91
end
theorem Read_nil (R : Type) (k : Int → Str → Int → Int → Str → Int → Option R) : Z2x R [] k = k 0 [] 0 0 [] 11 := by
  obtain ⟨n, name, f, t, key, e, ⟨h1, h2, h3, h4⟩, h⟩ := fcert_Read_tot [] (by simp)
  have no : ¬ (e = 0 ∨ e = 22) := by
    intro he
    obtain ⟨n', name', f', t', key', sig, hc, _⟩ := h3 he
    obtain ⟨_, _, _, ft, fe, tt, te, _, _, hw⟩ := hc
    have := congrArg List.length hw
    unfold whoS at this
    have := wr_length 48 (innS n' name' ft tt key' ++ (algS ++ wr 3 (0 :: sig)))
    simp only [List.length_nil] at *
    omega
  obtain rfl : e = 11 := by
    rcases h1 with r | r | r | ⟨_, r⟩
    · exact absurd (.inl r) no
    · exact absurd (.inr r) no
    · exact r
    · exact absurd r (by simp)
  obtain ⟨rfl, rfl, rfl, rfl, rfl⟩ := h2 (by decide)
  exact h R k
theorem awake14 (R : Type) (k : Bool → Option R) : Zhu R k = k true := by
  unfold Zhu Zst lett
  have d1 : IsDate (0 / 86400) 1970 1 1 := by
    refine ⟨by decide, by decide, by decide, by decide, by decide⟩
  have d2 : IsDate (951782400 / 86400) 2000 2 29 := by
    refine ⟨by decide, by decide, by decide, by decide, by decide⟩
  rw [fcert_Time_at 0 (by decide) (by decide) d1 (by decide), fcert_Time_at 951782400 (by decide) (by decide) d2 (by decide), Read_nil]
  rw [show stamp 1970 1 1 (0 % 86400) = [49, 57, 55, 48, 48, 49, 48, 49, 48, 48, 48, 48, 48, 48, 90] by decide, show stamp 2000 2 29 (951782400 % 86400) = [50, 48, 48, 48, 48, 50, 50, 57, 48, 48, 48, 48, 48, 48, 90] by decide]
  rfl
theorem few14 (n : Int) (name : Str) (f t : Int) (key : Str) (R : Type) (k : Bool → Option R) : Zmd R n name f t key k = k (decide (name.length ≤ 200) && decide (key.length ≤ 200)) := by
  unfold Zmd Zxr lett; dsimp only
  by_cases h : name.length ≤ 200
  · rw [brT _ _ (by simp only [ts]; omega), decide_eq_true h, Bool.true_and]
    congr 1
    unfold leI
    by_cases h2 : key.length ≤ 200
    · rw [decide_eq_true h2, decide_eq_true (by omega)]
    · rw [decide_eq_false h2, decide_eq_false (by omega)]
  · rw [brF _ _ (by simp only [ts]; omega), decide_eq_false h]; rfl
theorem isCert_head {n : Int} {name : Str} {f t : Int} {key sig s : Str} (h : IsCert n name f t key sig s) : ∃ b : Str, s = wr 48 b ∧ b.length ≤ 65535 := by
  have hl := cert_length h
  obtain ⟨_, _, _, ft, fe, tt, te, _, _, rfl⟩ := h
  refine ⟨_, rfl, ?_⟩
  unfold whoS at hl
  have := wr_length 48 (innS n name ft tt key ++ (algS ++ wr 3 (0 :: sig)))
  omega
theorem law_back (n : Int) (name : Str) (f t : Int) (key seed : Str) (b : Int) (hn : n ≤ 9223372036854775807) (hb0 : 0 ≤ b) (hb1 : b < 256) (R : Type) (k : Bool → Option R) :
    Znm R n name f t key seed b k = k true := by
  unfold Znm Zkw lett
  rw [few14]
  by_cases hf : (decide (name.length ≤ 200) && decide (key.length ≤ 200)) = true
  · rw [hf, show (!true) = false from rfl, br_false]
    rw [Bool.and_eq_true, decide_eq_true_eq, decide_eq_true_eq] at hf
    dsimp only
    by_cases hs : seed.length = 32
    · rw [brF _ _ (by simp only [ts]; omega)]
      obtain ⟨p, pe, ⟨p1, p2, p3⟩, hp⟩ := Z13r seed
      have pe0 := p2 hs
      obtain ⟨s, e, ⟨m1, m2⟩, hm⟩ := fcert_Make_tot n name f t key seed p pe (by omega) hp (fun h => ⟨p1 h, hs⟩)
      refine (hm R _).trans ?_
      by_cases he : e = 0
      · rw [brF _ _ (by simp only [ts]; exact he)]
        obtain ⟨_, sig, hc⟩ := m1 he
        have hl := cert_length hc
        obtain ⟨w, hw, hwl⟩ := isCert_head hc
        have hw2 := wr_length 48 w
        rw [← hw] at hw2
        obtain ⟨n1, name1, f1, t1, key1, e1, ⟨a1, a2, a3, a4⟩, h1⟩ := fcert_Read_tot s (by omega)
        refine (h1 R _).trans ?_
        refine (hp R _).trans ?_
        rcases a4 n name f t p sig hn hc with r | ⟨r, rfl, rfl, rfl, rfl, rfl⟩
        · rw [brT _ _ (by simp only [ts]; omega), brT _ _ (by simp only [ts]; exact r), awake14]
        · rw [brF _ _ (by simp only [ts]; exact r), brF _ _ (by simp only [ts]; exact pe0), brF _ _ (by simp only [ts]), brF _ _ (by simp only [ts]), brF _ _ (by simp only [ts]), brF _ _ (by simp only [ts]), brF _ _ (by simp only [ts])]
          rw [brF _ _ (by simp only [ts]; omega), gdT _ (by simp only [ts, List.length_cons, List.length_nil]; omega)]
          obtain ⟨n2, name2, f2, t2, key2, e2, ⟨b1, b2, b3, b4⟩, h2⟩ := fcert_Read_tot (s ++ [UInt8.ofNat b.toNat]) (by simp only [List.length_append, List.length_cons, List.length_nil]; omega)
          have c2 : e2 ≠ 0 ∧ e2 ≠ 22 := by
            refine ⟨fun h => ?_, fun h => ?_⟩
            all_goals
              obtain ⟨n', name', f', t', key', sig', hc', _⟩ := b3 (by omega)
              obtain ⟨w', hw', hwl'⟩ := isCert_head hc'
              rw [hw, show wr 48 w' = wr 48 w' ++ [] by rw [List.append_nil]] at hw'
              exact absurd (wr_inj hwl hwl' hw').2.2 (by simp)
          have e211 : e2 = 11 := by
            rcases b1 with r | r | r | ⟨_, r⟩
            · exact absurd r c2.1
            · exact absurd r c2.2
            · exact r
            · simp only [List.length_append, List.length_cons, List.length_nil] at r; omega
          obtain ⟨rfl, rfl, rfl, rfl, rfl⟩ := b2 (by omega)
          refine (h2 R _).trans ?_
          rw [gdT _ (by simp only [ts]; omega), gdT _ (by simp only [ts, List.length_cons, List.length_nil, List.length_drop]; omega)]
          have hs1 : s.drop 1 = hdr w.length ++ w := by rw [hw, wr_hdr]; rfl
          have hs0 : s.getD 0 0 = 48 := by rw [hw, wr_hdr]; rfl
          obtain ⟨n3, name3, f3, t3, key3, e3, ⟨c1, c2', c3, c4⟩, h3⟩ := fcert_Read_tot ([UInt8.ofNat b.toNat] ++ s.drop 1) (by simp only [List.length_append, List.length_cons, List.length_nil, List.length_drop]; omega)
          refine (h3 R _).trans ?_
          rw [brT _ _ (by simp only [ts]; exact e211), show ((eqI 0 0) && ((eqS [] []) && ((eqI 0 0) && ((eqI 0 0) && (eqS [] []))))) = true from rfl, br_true, gdT _ (by simp only [ts]; omega), hs0]
          by_cases hb : b = 48
          · rw [brT _ _ (by simp only [ts]; exact hb), awake14]
          · rw [brF _ _ (by simp only [ts]; exact hb)]
            have e311 : e3 = 11 := by
              have no : ¬ (e3 = 0 ∨ e3 = 22) := by
                intro he3
                obtain ⟨n', name', f', t', key', sig', hc', _⟩ := c3 he3
                obtain ⟨w', hw', hwl'⟩ := isCert_head hc'
                rw [wr_hdr] at hw'
                have := congrArg UInt8.toNat (List.cons.inj hw').1
                rw [toNat_ofNat (by omega)] at this
                exact hb (by have h48 : (48 : UInt8).toNat = 48 := rfl; omega)
              rcases c1 with r | r | r | ⟨_, r⟩
              · exact absurd (.inl r) no
              · exact absurd (.inr r) no
              · exact r
              · simp only [List.length_append, List.length_cons, List.length_nil, List.length_drop] at r; omega
            obtain ⟨rfl, rfl, rfl, rfl, rfl⟩ := c2' (by omega)
            rw [brT _ _ (by simp only [ts]; exact e311), show ((eqI 0 0) && ((eqS [] []) && ((eqI 0 0) && ((eqI 0 0) && (eqS [] []))))) = true from rfl, br_true, awake14]
      · rw [brT _ _ (by simp only [ts]; exact he)]
        obtain ⟨rfl, r | ⟨r, r2⟩⟩ := m2 he
        · rw [brT _ _ (by simp only [ts]), brT _ _ (by simp only [ts]; exact r), awake14]
        · rcases r2 with r2 | r2
          · exact absurd pe0 r2
          · rw [brT _ _ (by simp only [ts]), brF _ _ (by simp only [ts]; omega), brT _ _ (by simp only [ts]; exact r), brT _ _ (by simp only [ts]; exact r2), awake14]
    · rw [brT _ _ (by simp only [ts]; omega), awake14]
  · rw [(Bool.not_eq_true _).mp hf, show (!false) = true from rfl, br_true, awake14]
noncomputable section
open Go.Proofs
def Zzf (f : Zsf) : Con := { args := [.sc (.i .i64)], blks := [], shapes := [⟨Str, fun r => (.c (.sc (.str r)), [], 0)⟩], F := fun R x y k => f R (x.1) (fun z0 => k.1 z0) }
def Z10o : Con := Zzf Zrw
theorem Z14o : Z10o = libCon [.sc (.i .i64)] (Str) (fun r => .c (.sc (.str r))) (fun x => true) (fun x => Lib.itoa (x.1)) := rfl
theorem Z148 : ConOK Tryz.prog 46 Z10o := by
 rw [Z14o]
 exact lib_ok (fn := Tryz.f46) (by kernel_rfl) (by kernel_rfl) (by kernel_rfl) (fun _ _ => rfl) Z18p
def Zvb (f : Zmk) : Con := { args := [.sc (.s), .sc (.i .i64)], blks := [], shapes := [⟨Str, fun r => (.c (.sc (.str r)), [], 0)⟩], F := fun R x y k => f R (x.1) (x.2.1) (fun z0 => k.1 z0) }
def Zwd : Con := Zvb Zn2
theorem Z11w : Zwd = libCon [.sc (.s), .sc (.i .i64)] (Str) (fun r => .c (.sc (.str r))) (fun x => repB (x.1) (x.2.1)) (fun x => Lib.repeatL (x.1) ((x.2.1)).toNat) := rfl
theorem Z120 : ConOK Tryz.prog 47 Zwd := by
 rw [Z11w]
 exact lib_ok (fn := Tryz.f47) (by kernel_rfl) (by kernel_rfl) (by kernel_rfl) (fun _ _ => rfl) Z17q
def Zhr (f : Zbj) : Con := { args := [.sc (.s), .sc (.i .u8)], blks := [], shapes := [⟨Int, fun r => (.c (.sc (.int .i64 r)), [], 0)⟩], F := fun R x y k => f R (x.1) (x.2.1) (fun z0 => k.1 z0) }
def Zij : Con := Zhr Zbl
theorem Zrl : Zij = libCon [.sc (.s), .sc (.i .u8)] (Int) (fun r => .c (.sc (.int .i64 r))) (fun x => true) (fun x => Lib.indexByte (x.1) (UInt8.ofNat ((x.2.1)).toNat)) := rfl
theorem Zs3 : ConOK Tryz.prog 236 Zij := by
 rw [Zrl]
 exact lib_ok (fn := Tryz.f236) (by kernel_rfl) (by kernel_rfl) (by kernel_rfl) (fun _ _ => rfl) Z158
def Zay (f : Z80) : Con := { args := [.sc (.s), .sc (.sk [0])], blks := [], shapes := [⟨Int, fun r => (.c (.sc (.int .i64 r)), [], 0)⟩], F := fun R x y k => f R (x.1) (fun z0 => k.1 z0) }
def Zw2 : Con := Zay Z5a
theorem Zpi (g0 : Zbj) : (Zay (Zbb g0)).Says Tryz.prog Tryz.f213 (conL [(236, Zhr g0)]) (pieceL 0 []) .leaf := by
 intro R x y K
 kernel_rfl
theorem Zs7 : ConOK Tryz.prog 213 Zw2 :=
 con_o (Zpi Zbl) (cons_ok ⟨.inl Zs3, trivial⟩) orcs_0
def Zcr (f : Z9h) : Con := { args := [.sc (.s), .sc (.sk [0])], blks := [], shapes := [⟨Str × Str × Bool, fun r => (.tup [.sc (.str r.1), .sc (.str r.2.1), .sc (.bool r.2.2)], [], 0)⟩], F := fun R x y k => f R (x.1) (fun z0 z1 z2 => k.1 (z0, z1, z2)) }
def Zyz : Con := Zcr Z6i
theorem Zs5 (g0 : Z80) : (Zcr (Z8p g0)).Says Tryz.prog Tryz.f175 (conL [(213, Zay g0)]) (pieceL 0 []) (.node .leaf (.node (.node .leaf (.node .leaf (.node (.node (.draw [⟨0, false, [], []⟩, ⟨1, false, [], []⟩, ⟨2, false, [], [0, 1]⟩, ⟨3, false, [], []⟩, ⟨4, false, [], []⟩, ⟨5, false, [], []⟩, ⟨6, false, [], [5]⟩, ⟨7, false, [], [4, 5, 6]⟩, ⟨8, false, [], [3, 4, 5, 6, 7]⟩, ⟨9, false, [], [0, 1, 2]⟩, ⟨10, false, [], [0, 1, 2, 3, 4, 5, 6, 7, 8, 9]⟩, ⟨11, false, [], [0, 1, 2, 3, 4, 5, 6, 7, 8, 9, 10]⟩]) .leaf) .leaf))) .leaf)) := by
 intro R x y K
 kernel_rfl
theorem Zvp : ConOK Tryz.prog 175 Zyz :=
 con_o (Zs5 Z5a) (cons_ok ⟨.inl Zs7, trivial⟩) orcs_0
def Zjk (f : Zev) : Con := { args := [.sc (.s), .sc (.sk [0])], blks := [], shapes := [⟨Str × Str × Bool, fun r => (.tup [.sc (.str r.1), .sc (.str r.2.1), .sc (.bool r.2.2)], [], 0)⟩], F := fun R x y k => f R (x.1) (fun z0 z1 z2 => k.1 (z0, z1, z2)) }
def Z146 : Con := Zjk Z89
theorem Zzo (g0 : Z9h) : (Zjk (Zds g0)).Says Tryz.prog Tryz.f104 (conL [(175, Zcr g0)]) (pieceL 0 []) .leaf := by
 intro R x y K
 kernel_rfl
theorem Z11a : ConOK Tryz.prog 104 Z146 :=
 con_o (Zzo Z6i) (cons_ok ⟨.inl Zvp, trivial⟩) orcs_0
theorem Zo0 : (Z7d).Loops Tryz.prog 23 0 (conL []) (pieceL 0 []) (fsub Tryz.f177 [1, 0, 0, 0]) .leaf [0, 1] [] [0] [] := by
 intro R v next K
 kernel_rfl
theorem Zqn : OrcOK Tryz.prog 23 0 (.loop (fsub Tryz.f177 [1, 0, 0, 0])) (fun R => pieceG 0 (Z7d) R) :=
 piece_l (Zo0) (cons_ok trivial) orcs_0
def Zbk (f : Z8n) : Con := { args := [.sc (.s), .sc (.i .u8)], blks := [], shapes := [⟨Str, fun r => (.c (.sc (.str r)), [], 0)⟩], F := fun R x y k => f R (x.1) (x.2.1) (fun z0 => k.1 z0) }
def Zxl : Con := Zbk Zcv
theorem Zrd : (Zbk (Zii)).Says Tryz.prog Tryz.f177 (conL []) (pieceL 0 [(0, Z7d)]) (.node .leaf (.node (.node (.orc 0 [0, 1] []) .leaf) .leaf)) := by
 intro R x y K
 kernel_rfl
theorem Zt8 : ConOK Tryz.prog 177 Zxl :=
 con_o (Zrd) (cons_ok trivial) (orcs_1 [(0, [1, 0, 0])] ⟨piece_a Zqn, trivial⟩)
theorem Zp3 : (Z7y).Loops Tryz.prog 17 0 (conL []) (pieceL 0 []) (fsub Tryz.f176 [1, 0, 0, 0]) .leaf [0, 1] [] [0] [] := by
 intro R v next K
 kernel_rfl
theorem Zs4 : OrcOK Tryz.prog 17 0 (.loop (fsub Tryz.f176 [1, 0, 0, 0])) (fun R => pieceG 0 (Z7y) R) :=
 piece_l (Zp3) (cons_ok trivial) orcs_0
def Zcf (f : Z9l) : Con := { args := [.sc (.s), .sc (.i .u8)], blks := [], shapes := [⟨Str, fun r => (.c (.sc (.str r)), [], 0)⟩], F := fun R x y k => f R (x.1) (x.2.1) (fun z0 => k.1 z0) }
def Zzk : Con := Zcf Zeg
theorem Zs1 : (Zcf (Zjt)).Says Tryz.prog Tryz.f176 (conL []) (pieceL 0 [(0, Z7y)]) (.node .leaf (.node (.node (.orc 0 [0, 1] []) .leaf) .leaf)) := by
 intro R x y K
 kernel_rfl
theorem Zvl : ConOK Tryz.prog 176 Zzk :=
 con_o (Zs1) (cons_ok trivial) (orcs_1 [(0, [1, 0, 0])] ⟨piece_a Zs4, trivial⟩)
theorem Zp2 : (Z7z).Loops Tryz.prog 21 0 (conL []) (pieceL 0 []) (fsub Tryz.f178 [1, 0, 1, 0, 0]) .leaf [0, 2, 4] [] [2, 3] [] := by
 intro R v next K
 kernel_rfl
theorem Zsi : OrcOK Tryz.prog 21 0 (.loop (fsub Tryz.f178 [1, 0, 1, 0, 0])) (fun R => pieceG 0 (Z7z) R) :=
 piece_l (Zp2) (cons_ok trivial) orcs_0
def Zce (f : Z9j) : Con := { args := [.sc (.s)], blks := [], shapes := [⟨(List (Tup [.bool])) × Bool, fun r => (.tup [.agg [.recs [.bool] r.1 256], .sc (.bool r.2)], [], 0)⟩], F := fun R x y k => f R (x.1) (fun z0 z1 => k.1 (z0, z1)) }
def Zzm : Con := Zce Z9e
theorem Zs8 : (Zce (Zjo)).Says Tryz.prog Tryz.f178 (conL []) (pieceL 0 [(0, Z7z)]) (.node .leaf (.node (.node .leaf (.node (.orc 0 [0, 2, 4] []) .leaf)) .leaf)) := by
 intro R x y K
 kernel_rfl
theorem Zus : ConOK Tryz.prog 178 Zzm :=
 con_o (Zs8) (cons_ok trivial) (orcs_1 [(0, [1, 0, 1, 0])] ⟨piece_a Zsi, trivial⟩)
def Z24 (f : Zi) : Con := { args := [.sc (.ptr 0 0 0 0 0), .sc (.i .u8)], blks := [(false, [.recs [.bool] (some 256)])], shapes := [⟨Bool × (List (Tup [.bool])), fun r => (.c (.sc (.bool r.1)), [(0, ⟨false, [.recs [.bool] r.2 256]⟩)], 0)⟩], F := fun R x y k => f R (x.2.1) (y.1.1) (fun z0 z1 => k.1 (z0, z1)) }
def Zmg : Con := Z24 Zc
theorem Zid : (Z24 (Z6u)).Says Tryz.prog Tryz.f214 (conL []) (pieceL 1 []) .leaf := by
 intro R x y K
 kernel_rfl
theorem Z3s : ConOK Tryz.prog 214 Zmg :=
 con_o (Zid) (cons_ok trivial) orcs_0
theorem Ziz (g0 : Zi) : (Z3a g0).Loops Tryz.prog 22 1 (conL [(214, Z24 g0)]) (pieceL 1 []) (fsub Tryz.f180 [1, 0, 0, 0]) .leaf [0, 1] [] [0] [] := by
 intro R v next K
 kernel_rfl
theorem Zle : OrcOK Tryz.prog 22 1 (.loop (fsub Tryz.f180 [1, 0, 0, 0])) (fun R => pieceG 1 (Z3a Zc) R) :=
 piece_l (Ziz Zc) (cons_ok ⟨.inl Z3s, trivial⟩) orcs_0
def Z8f (f : Z5m) : Con := { args := [.sc (.s), .sc (.ptr 0 0 0 0 0)], blks := [(true, [.recs [.bool] (some 256)])], shapes := [⟨Str × (List (Tup [.bool])), fun r => (.c (.sc (.str r.1)), [(0, ⟨true, [.recs [.bool] r.2 256]⟩)], 0)⟩], F := fun R x y k => f R (x.1) (y.1.1) (fun z0 z1 => k.1 (z0, z1)) }
def Zqz : Con := Z8f Z5j
theorem Zl4 (g0 : Zi) : (Z8f (Z88 g0)).Says Tryz.prog Tryz.f180 (conL [(214, Z24 g0)]) (pieceL 1 [(0, Z3a g0)]) (.node .leaf (.node (.node (.orc 0 [0, 1] []) .leaf) .leaf)) := by
 intro R x y K
 kernel_rfl
theorem Zmn : ConOK Tryz.prog 180 Zqz :=
 con_o (Zl4 Zc) (cons_ok ⟨.inl Z3s, trivial⟩) (orcs_1 [(0, [1, 0, 0])] ⟨piece_a Zle, trivial⟩)
theorem Zk8 (g0 : Zi) : (Z3q g0).Loops Tryz.prog 16 1 (conL [(214, Z24 g0)]) (pieceL 1 []) (fsub Tryz.f179 [1, 0, 0, 0]) .leaf [0, 1] [] [0] [] := by
 intro R v next K
 kernel_rfl
theorem Zm6 : OrcOK Tryz.prog 16 1 (.loop (fsub Tryz.f179 [1, 0, 0, 0])) (fun R => pieceG 1 (Z3q Zc) R) :=
 piece_l (Zk8 Zc) (cons_ok ⟨.inl Z3s, trivial⟩) orcs_0
def Z9a (f : Z63) : Con := { args := [.sc (.s), .sc (.ptr 0 0 0 0 0)], blks := [(true, [.recs [.bool] (some 256)])], shapes := [⟨Str × (List (Tup [.bool])), fun r => (.c (.sc (.str r.1)), [(0, ⟨true, [.recs [.bool] r.2 256]⟩)], 0)⟩], F := fun R x y k => f R (x.1) (y.1.1) (fun z0 z1 => k.1 (z0, z1)) }
def Zsn : Con := Z9a Z61
theorem Zlv (g0 : Zi) : (Z9a (Z9b g0)).Says Tryz.prog Tryz.f179 (conL [(214, Z24 g0)]) (pieceL 1 [(0, Z3q g0)]) (.node .leaf (.node (.node (.orc 0 [0, 1] []) .leaf) .leaf)) := by
 intro R x y K
 kernel_rfl
theorem Zny : ConOK Tryz.prog 179 Zsn :=
 con_o (Zlv Zc) (cons_ok ⟨.inl Z3s, trivial⟩) (orcs_1 [(0, [1, 0, 0])] ⟨piece_a Zm6, trivial⟩)
def Ze9 (f : Z3j) : Con := { args := [.sc (.s), .sc (.s)], blks := [], shapes := [⟨Str, fun r => (.c (.sc (.str r)), [], 0)⟩], F := fun R x y k => f R (x.1) (x.2.1) (fun z0 => k.1 z0) }
def Z16t : Con := Ze9 Z2t
theorem Z127 (g0 : Z8n) (g1 : Z9l) (g2 : Z9j) (g3 : Z5m) (g4 : Z63) : (Ze9 (Zps g0 g1 g2 g3 g4)).Says Tryz.prog Tryz.f106 (conL [(177, Zbk g0), (176, Zcf g1), (178, Zce g2), (180, Z8f g3), (179, Z9a g4)]) (pieceL 0 []) (.node .leaf (.node .leaf (.node (.node .leaf (.node (.node (.draw [⟨0, false, [], []⟩, ⟨1, false, [], []⟩, ⟨2, false, [], [1]⟩, ⟨4, false, [], []⟩, ⟨5, false, [], [4]⟩, ⟨3, true, [], [0, 1, 2]⟩, ⟨6, true, [], [0, 1, 2, 3, 4, 5]⟩, ⟨7, false, [], [0, 1, 2, 3, 4, 5, 6]⟩]) .leaf) .leaf)) .leaf))) := by
 intro R x y K
 kernel_rfl
theorem Zl5 : ConOK Tryz.prog 106 Z16t :=
 con_o (Z127 Zcv Zeg Z9e Z5j Z61) (cons_ok ⟨.inl Zt8, .inl Zvl, .inl Zus, .inl Zmn, .inl Zny, trivial⟩) orcs_0
def Zig (f : Z45) : Con := { args := [.sc (.s)], blks := [], shapes := [⟨Int, fun r => (.tup [.sc (.int .i64 r), .sc (.err true)], [], 0)⟩], F := fun R x y k => f R (x.1) (fun z0 => k.1 z0) }
def Z10j : Con := Zig Z2s
theorem Z14f : Z10j = libCon [.sc (.s)] (Int) (fun r => .tup [.sc (.int .i64 r), .sc (.err true)]) (fun x => atoiB (x.1)) (fun x => atoiV (x.1)) := rfl
theorem Zky : ConOK Tryz.prog 107 Z10j := by
 rw [Z14f]
 exact lib_ok (fn := Tryz.f107) (by kernel_rfl) (by kernel_rfl) (by kernel_rfl) (fun _ _ => rfl) Z18o
theorem Znk : (Z6t).Joins Tryz.prog 25 1 (conL []) (pieceL 1 []) (fsub Tryz.f223 [1, 0, 1]) .leaf [0] [] := by
 intro R v next K
 kernel_rfl
theorem Zpv : OrcOK Tryz.prog 25 1 (fsub Tryz.f223 [1, 0, 1]) (fun R => pieceG 1 (Z6t) R) :=
 piece_j (Znk) (cons_ok trivial) orcs_0
theorem Zn1 : (Z6p).Loops Tryz.prog 25 1 (conL []) (pieceL 1 []) (fsub Tryz.f223 [1, 1, 1, 0, 1, 0, 0]) .leaf [0, 3, 4] [] [3] [] := by
 intro R v next K
 kernel_rfl
theorem Zpj : OrcOK Tryz.prog 25 1 (.loop (fsub Tryz.f223 [1, 1, 1, 0, 1, 0, 0])) (fun R => pieceG 1 (Z6p) R) :=
 piece_l (Zn1) (cons_ok trivial) orcs_0
def Z6z (f : Z2f) : Con := { args := [.sc (.sl 0 1 none)], blks := [(true, [.ints .i64 none])], shapes := [⟨Int × (List Int), fun r => (.c (.sc (.int .i64 r.1)), [(0, ⟨true, [.ints .i64 r.2 r.2.length]⟩)], 0)⟩], F := fun R x y k => f R (y.1.1) (fun z0 z1 => k.1 (z0, z1)) }
def Zwa : Con := Z6z Z59
theorem Zpr : (Z6z (Zhl)).Says Tryz.prog Tryz.f223 (conL []) (pieceL 1 [(0, Z6t), (1, Z6p)]) (.node .leaf (.node (.node .leaf (.orc 0 [0, 7] [])) (.node .leaf (.node (.node .leaf (.node (.orc 1 [0, 3, 4] []) .leaf)) .leaf)))) := by
 intro R x y K
 kernel_rfl
theorem Zfm : ConOK Tryz.prog 223 Zwa :=
 con_o (Zpr) (cons_ok trivial) (orcs_1 [(0, [1, 0, 1]), (1, [1, 1, 1, 0, 1, 0])] ⟨piece_a Zpv, piece_a Zpj, trivial⟩)
theorem Zmj : (Z6r).Joins Tryz.prog 25 1 (conL []) (pieceL 1 []) (fsub Tryz.f224 [1, 0, 1]) .leaf [0] [] := by
 intro R v next K
 kernel_rfl
theorem Zpc : OrcOK Tryz.prog 25 1 (fsub Tryz.f224 [1, 0, 1]) (fun R => pieceG 1 (Z6r) R) :=
 piece_j (Zmj) (cons_ok trivial) orcs_0
theorem Znr : (Z6o).Loops Tryz.prog 25 1 (conL []) (pieceL 1 []) (fsub Tryz.f224 [1, 1, 1, 0, 1, 0, 0]) .leaf [0, 3, 4] [] [3] [] := by
 intro R v next K
 kernel_rfl
theorem Zp8 : OrcOK Tryz.prog 25 1 (.loop (fsub Tryz.f224 [1, 1, 1, 0, 1, 0, 0])) (fun R => pieceG 1 (Z6o) R) :=
 piece_l (Znr) (cons_ok trivial) orcs_0
def Z7a (f : Z2e) : Con := { args := [.sc (.slr 0 1 none)], blks := [(true, [.ints .i64 none])], shapes := [⟨Int × (List Int), fun r => (.c (.sc (.int .i64 r.1)), [(0, ⟨true, [.ints .i64 r.2 r.2.length]⟩)], 0)⟩], F := fun R x y k => f R (x.1.1) (x.1.2) (y.1.1) (fun z0 z1 => k.1 (z0, z1)) }
def Zw6 : Con := Z7a Z5b
theorem Zpu : (Z7a (Zhy)).Says Tryz.prog Tryz.f224 (conL []) (pieceL 1 [(0, Z6r), (1, Z6o)]) (.node .leaf (.node (.node .leaf (.orc 0 [0, 7] [])) (.node .leaf (.node (.node .leaf (.node (.orc 1 [0, 3, 4] []) .leaf)) .leaf)))) := by
 intro R x y K
 kernel_rfl
theorem Zfn : ConOK Tryz.prog 224 Zw6 :=
 con_o (Zpu) (cons_ok trivial) (orcs_1 [(0, [1, 0, 1]), (1, [1, 1, 1, 0, 1, 0])] ⟨piece_a Zpc, piece_a Zp8, trivial⟩)
theorem Zhv : (Z46).Loops Tryz.prog 28 1 (conL []) (pieceL 1 []) (fsub Tryz.f246 [1, 0, 0]) (.node .leaf (.node (.node (.draw [⟨0, false, [], []⟩, ⟨1, false, [], []⟩, ⟨2, false, [], []⟩, ⟨3, false, [], []⟩, ⟨4, false, [], []⟩, ⟨5, false, [], []⟩, ⟨6, false, [0], [4, 5]⟩, ⟨7, false, [0], [4, 5, 6]⟩, ⟨8, false, [], []⟩, ⟨9, false, [], []⟩, ⟨10, false, [0], [8, 9]⟩, ⟨11, false, [0], [8, 9, 10]⟩, ⟨12, false, [0], [0, 1, 4, 5, 6, 7, 8, 9, 10, 11]⟩, ⟨13, true, [0], [0, 1, 4, 5, 6, 7, 8, 9, 10, 11, 12]⟩, ⟨14, false, [0], [0, 1, 2, 3, 4, 5, 6, 7, 8, 9, 10, 11, 12, 13]⟩, ⟨15, true, [0], [0, 1, 2, 3, 4, 5, 6, 7, 8, 9, 10, 11, 12, 13, 14]⟩]) .leaf) .leaf)) [0, 2, 3] [] [] [] := by
 intro R v next K
 kernel_rfl
theorem Zjg : OrcOK Tryz.prog 28 1 (.loop (fsub Tryz.f246 [1, 0, 0])) (fun R => pieceG 1 (Z46) R) :=
 piece_l (Zhv) (cons_ok trivial) orcs_0
def Z1h (f : Z5) : Con := { args := [.sc (.sl 0 1 none)], blks := [(true, [.bytes none])], shapes := [⟨Str, fun r => (.tup [], [(0, ⟨true, [.bytes r r.length]⟩)], 0)⟩], F := fun R x y k => f R (y.1.1) (fun z0 => k.1 z0) }
def Zo4 : Con := Z1h Zn
theorem Zj5 : (Z1h (Zc1)).Says Tryz.prog Tryz.f246 (conL []) (pieceL 1 [(0, Z46)]) (.node .leaf (.node (.orc 0 [0, 2, 3] []) .leaf)) := by
 intro R x y K
 kernel_rfl
theorem Z1z : ConOK Tryz.prog 246 Zo4 :=
 con_o (Zj5) (cons_ok trivial) (orcs_1 [(0, [1, 0])] ⟨piece_a Zjg, trivial⟩)
def Zzj (f : Zrj) : Con := { args := [.sc (.sl 0 1 none), .sc (.s)], blks := [(false, [.strs none])], shapes := [⟨Str, fun r => (.c (.sc (.str r)), [], 0)⟩], F := fun R x y k => f R (x.2.1) (y.1.1) (fun z0 => k.1 z0) }
def Z10k : Con := Zzj Zko
theorem Z14p : Z10k = libConB [.sc (.sl 0 1 none), .sc (.s)] [(false, [.strs none])] (Str) (fun r => .c (.sc (.str r))) (fun x y => joinB (y.1.1) (x.2.1)) (fun x y => Lib.join (y.1.1) (x.2.1)) := rfl
theorem Z147 : ConOK Tryz.prog 112 Z10k := by
 rw [Z14p]
 exact join_con (fn := Tryz.f112) (by kernel_rfl) (by kernel_rfl) (by kernel_rfl) Tryz.strings_Join_none Tryz.strings_Join
def Zb4 (f : Z28) : Con := { args := [.sc (.i .u64), .sc (.i .u64)], blks := [], shapes := [⟨Int × Int, fun r => (.tup [.sc (.int .u64 r.1), .sc (.int .u64 r.2)], [], 0)⟩], F := fun R x y k => f R (x.1) (x.2.1) (fun z0 z1 => k.1 (z0, z1)) }
def Z17s : Con := Zb4 Z1i
theorem Z13p : (Zb4 (Zu0)).Says Tryz.prog Tryz.f162 (conL []) (pieceL 0 []) .leaf := by
 intro R x y K
 kernel_rfl
theorem Zdx : ConOK Tryz.prog 162 Z17s :=
 con_o (Z13p) (cons_ok trivial) orcs_0
def Z4k (f : Zq) : Con := { args := [.sc (.i .u64), .sc (.i .u64), .sc (.i .u64)], blks := [], shapes := [⟨Int × Int, fun r => (.tup [.sc (.int .u64 r.1), .sc (.int .u64 r.2)], [], 0)⟩], F := fun R x y k => f R (x.1) (x.2.1) (x.2.2.1) (fun z0 z1 => k.1 (z0, z1)) }
def Z13h : Con := Z4k Zg
theorem Z16b : Z13h = libCon [.sc (.i .u64), .sc (.i .u64), .sc (.i .u64)] (Int × Int) (fun r => .tup [.sc (.int .u64 r.1), .sc (.int .u64 r.2)]) (fun x => bit1 (x.2.2.1)) (fun x => (add64S (x.1) (x.2.1) (x.2.2.1), add64C (x.1) (x.2.1) (x.2.2.1))) := rfl
theorem Z49 : ConX Tryz.prog 163 Z13h := by
 rw [Z16b]
 exact add64_con (fn := Tryz.f163) (by kernel_rfl) (by kernel_rfl) (by kernel_rfl) (by kernel_rfl) (by kernel_rfl)
def Zvn (f : Zcy) : Con := { args := [.sc (.i .u64), .sc (.i .u64), .sc (.i .u64)], blks := [], shapes := [⟨Int × Int, fun r => (.tup [.sc (.int .u64 r.1), .sc (.int .u64 r.2)], [], 0)⟩], F := fun R x y k => f R (x.1) (x.2.1) (x.2.2.1) (fun z0 z1 => k.1 (z0, z1)) }
def Z13j : Con := Zvn Z8v
theorem Z164 : Z13j = libCon [.sc (.i .u64), .sc (.i .u64), .sc (.i .u64)] (Int × Int) (fun r => .tup [.sc (.int .u64 r.1), .sc (.int .u64 r.2)]) (fun x => bit1 (x.2.2.1)) (fun x => (sub64D (x.1) (x.2.1) (x.2.2.1), sub64B (x.1) (x.2.1) (x.2.2.1))) := rfl
theorem Zyc : ConX Tryz.prog 192 Z13j := by
 rw [Z164]
 exact sub64_con (fn := Tryz.f192) (by kernel_rfl) (by kernel_rfl) (by kernel_rfl) (by kernel_rfl) (by kernel_rfl)
end
noncomputable section
open Go.Proofs
def Zg9 (f : Z4j) : Con := { args := [.sc (.i .i64)], blks := [], shapes := [⟨Bool, fun r => (.c (.sc (.bool r)), [], 0)⟩], F := fun R x y k => f R (x.1) (fun z0 => k.1 z0) }
def Z18s : Con := Zg9 Z4g
theorem Z153 : (Zg9 (Zxc)).Says Tryz.prog Tryz.f173 (conL []) (pieceL 0 []) .leaf := by
 intro R x y K
 kernel_rfl
theorem Zkp : ConOK Tryz.prog 173 Z18s :=
 con_o (Z153) (cons_ok trivial) orcs_0
theorem Z126 : (Zg1).Loops Tryz.prog 60 0 (conL []) (pieceL 0 []) (fsub Tryz.f174 [1, 1, 1, 1, 1, 1, 1, 0, 1, 0, 0]) .leaf [5, 6, 36, 37, 38] [] [5, 6, 51, 52, 53, 54, 55, 56] [] := by
 intro R v next K
 kernel_rfl
theorem Z149 : OrcOK Tryz.prog 60 0 (.loop (fsub Tryz.f174 [1, 1, 1, 1, 1, 1, 1, 0, 1, 0, 0])) (fun R => pieceG 0 (Zg1) R) :=
 piece_l (Z126) (cons_ok trivial) orcs_0
def Zne (f : Zai) : Con := { args := [.sc (.s)], blks := [], shapes := [⟨Int × Int × Int, fun r => (.tup [.sc (.int .i64 r.1), .sc (.int .i64 r.2.1), .sc (.int .i64 r.2.2)], [], 0)⟩], F := fun R x y k => f R (x.1) (fun z0 z1 z2 => k.1 (z0, z1, z2)) }
def Z17w : Con := Zne Z2m
theorem Z13l : (Zne (Zi1)).Says Tryz.prog Tryz.f174 (conL []) (pieceL 0 [(0, Zg1)]) (.node .leaf (.node .leaf (.node .leaf (.node .leaf (.node .leaf (.node .leaf (.node .leaf (.node (.node .leaf (.node (.orc 0 [5, 6, 36, 37, 38] []) .leaf)) .leaf)))))))) := by
 intro R x y K
 kernel_rfl
theorem Zz3 : ConOK Tryz.prog 174 Z17w :=
 con_o (Z13l) (cons_ok trivial) (orcs_1 [(0, [1, 1, 1, 1, 1, 1, 1, 0, 1, 0])] ⟨piece_a Z149, trivial⟩)
theorem Z13t (g0 : Z4j) (g1 : Zai) : (Zqh g0 g1).Joins Tryz.prog 51 0 (conL [(173, Zg9 g0), (174, Zne g1)]) (pieceL 0 []) (fsub Tryz.f103 [1, 1, 1, 0, 1]) .leaf [0, 6, 7, 8] [] := by
 intro R v next K
 kernel_rfl
theorem Z16c : OrcOK Tryz.prog 51 0 (fsub Tryz.f103 [1, 1, 1, 0, 1]) (fun R => pieceG 0 (Zqh Z4g Z2m) R) :=
 piece_j (Z13t Z4g Z2m) (cons_ok ⟨.inl Zkp, .inl Zz3, trivial⟩) orcs_0
def Z10f (f : Zwu) : Con := { args := [.sc (.s)], blks := [], shapes := [⟨Int × Str × Str × Int, fun r => (.tup [.sc (.int .i64 r.1), .sc (.str r.2.1), .sc (.str r.2.2.1), .sc (.int .i64 r.2.2.2)], [], 0)⟩], F := fun R x y k => f R (x.1) (fun z0 z1 z2 z3 => k.1 (z0, z1, z2, z3)) }
def Z18z : Con := Z10f Z7j
theorem Z162 (g0 : Z4j) (g1 : Zai) : (Z10f (Ztk g0 g1)).Says Tryz.prog Tryz.f103 (conL [(173, Zg9 g0), (174, Zne g1)]) (pieceL 0 [(0, Zqh g0 g1)]) (.node .leaf (.node .leaf (.node .leaf (.node (.node .leaf (.orc 0 [0, 6, 7, 8, 33] [])) (.node .leaf (.node (.draw [⟨0, false, [], []⟩, ⟨1, false, [], [0]⟩, ⟨2, false, [], [0, 1]⟩, ⟨3, false, [], []⟩, ⟨4, false, [], []⟩, ⟨5, false, [], []⟩, ⟨6, false, [], []⟩, ⟨7, false, [], [5, 6]⟩, ⟨8, false, [], [3, 4, 5, 6, 7]⟩, ⟨9, false, [], []⟩, ⟨10, false, [], []⟩, ⟨11, false, [], []⟩, ⟨12, false, [], [10, 11]⟩, ⟨13, false, [], [9, 10, 11, 12]⟩, ⟨14, false, [], [0, 1, 2]⟩, ⟨15, false, [], [0, 1, 2, 3, 4, 5, 6, 7, 8, 14]⟩, ⟨16, false, [], [0, 1, 2, 3, 4, 5, 6, 7, 8, 9, 10, 11, 12, 13, 14, 15]⟩, ⟨17, false, [], [0, 1, 2, 3, 4, 5, 6, 7, 8, 9, 10, 11, 12, 13, 14, 15, 16]⟩]) .leaf)))))) := by
 intro R x y K
 kernel_rfl
theorem Z17k : ConOK Tryz.prog 103 Z18z :=
 con_o (Z162 Z4g Z2m) (cons_ok ⟨.inl Zkp, .inl Zz3, trivial⟩) (orcs_1 [(0, [1, 1, 1, 0, 1])] ⟨piece_a Z16c, trivial⟩)
def Zct (f : Z2w) : Con := { args := [.sc (.s)], blks := [], shapes := [⟨Bool, fun r => (.c (.sc (.bool r)), [], 0)⟩], F := fun R x y k => f R (x.1) (fun z0 => k.1 z0) }
def Z18m : Con := Zct Z1u
theorem Z15x : (Zct (Zxx)).Says Tryz.prog Tryz.f105 (conL []) (pieceL 0 []) .leaf := by
 intro R x y K
 kernel_rfl
theorem Zft : ConOK Tryz.prog 105 Z18m :=
 con_o (Z15x) (cons_ok trivial) orcs_0
theorem Z113 (g0 : Z2w) : (Ze4 g0).Loops Tryz.prog 36 0 (conL [(105, Zct g0)]) (pieceL 0 []) (fsub Tryz.f51 [1, 1, 1, 0, 1, 0, 0]) .leaf [4, 23, 24, 25] [] [4] [] := by
 intro R v next K
 kernel_rfl
theorem Z12x : OrcOK Tryz.prog 36 0 (.loop (fsub Tryz.f51 [1, 1, 1, 0, 1, 0, 0])) (fun R => pieceG 0 (Ze4 Z1u) R) :=
 piece_l (Z113 Z1u) (cons_ok ⟨.inl Zft, trivial⟩) orcs_0
def Zso (f : Zmt) : Con := { args := [.sc (.s)], blks := [], shapes := [⟨Int × Int, fun r => (.tup [.sc (.int .i64 r.1), .sc (.int .i64 r.2)], [], 0)⟩], F := fun R x y k => f R (x.1) (fun z0 z1 => k.1 (z0, z1)) }
def Z17i : Con := Zso Zb7
theorem Z12y (g0 : Z2w) : (Zso (Zsu g0)).Says Tryz.prog Tryz.f51 (conL [(105, Zct g0)]) (pieceL 0 [(0, Ze4 g0)]) (.node .leaf (.node .leaf (.node .leaf (.node (.node .leaf (.node (.orc 0 [4, 23, 24, 25] []) .leaf)) .leaf)))) := by
 intro R x y K
 kernel_rfl
theorem Z15v : ConOK Tryz.prog 51 Z17i :=
 con_o (Z12y Z1u) (cons_ok ⟨.inl Zft, trivial⟩) (orcs_1 [(0, [1, 1, 1, 0, 1, 0])] ⟨piece_a Z12x, trivial⟩)
theorem Zw3 (g0 : Z5) : (Zbw g0).Joins Tryz.prog 29 0 (conL [(246, Z1h g0)]) (pieceL 0 []) (fsub Tryz.f225 [1, 1, 0, 1, 0, 0, 1, 0, 0, 1, 0, 1]) .leaf [0, 1, 5, 7, 10, 11] [] := by
 intro R v next K
 kernel_rfl
theorem Zze : OrcOK Tryz.prog 29 0 (fsub Tryz.f225 [1, 1, 0, 1, 0, 0, 1, 0, 0, 1, 0, 1]) (fun R => pieceG 0 (Zbw Zn) R) :=
 piece_j (Zw3 Zn) (cons_ok ⟨.inl Z1z, trivial⟩) orcs_0
theorem Zw4 (g0 : Z5) : (Zc2 g0).Loops Tryz.prog 29 0 (conL [(246, Z1h g0)]) (pieceL 0 [(1, Zbw g0)]) (fsub Tryz.f225 [1, 1, 0, 1, 0, 0]) (.node .leaf (.node (.node (.node .leaf (.node (.node .leaf (.orc 1 [0, 1, 5, 7, 13] [])) .leaf)) .leaf) .leaf)) [0, 1, 5, 6] [(5, .bytes [] 0)] [0, 5] [] := by
 intro R v next K
 kernel_rfl
theorem Zyv : OrcOK Tryz.prog 29 0 (.loop (fsub Tryz.f225 [1, 1, 0, 1, 0, 0])) (fun R => pieceG 0 (Zc2 Zn) R) :=
 piece_l (Zw4 Zn) (cons_ok ⟨.inl Z1z, trivial⟩) (orcs_1 [(1, [1, 0, 0, 1, 0, 1])] ⟨piece_a Zze, trivial⟩)
def Zdq (f : Z4s) : Con := { args := [.sc (.nilsl), .sc (.i .i64)], blks := [], shapes := [⟨Str, fun r => (.c (.sc (.slice 0 1 none none)), [(0, ⟨true, [.bytes r r.length]⟩)], 1)⟩], F := fun R x y k => f R (x.2.1) (fun z0 => k.1 z0) }
def Z14q : Con := Zdq Zam
theorem Zzc (g0 : Z5) : (Zdq (Zsv g0)).Says Tryz.prog Tryz.f225 (conL [(246, Z1h g0)]) (pieceL 0 [(0, Zc2 g0)]) (.node .leaf (.node .leaf (.node (.node .leaf (.node (.orc 0 [0, 1, 5, 6] [(5, .bytes [] 0)]) .leaf)) .leaf))) := by
 intro R x y K
 kernel_rfl
theorem Zok : ConOK Tryz.prog 225 Z14q :=
 con_o (Zzc Zn) (cons_ok ⟨.inl Z1z, trivial⟩) (orcs_1 [(0, [1, 1, 0, 1, 0])] ⟨piece_a Zyv, trivial⟩)
theorem Zvx (g0 : Z5) : (Zc0 g0).Joins Tryz.prog 29 1 (conL [(246, Z1h g0)]) (pieceL 1 []) (fsub Tryz.f225 [1, 1, 0, 1, 0, 0, 1, 0, 0, 1, 0, 1]) .leaf [0, 1, 5, 7, 10, 11] [] := by
 intro R v next K
 kernel_rfl
theorem Zzn : OrcOK Tryz.prog 29 1 (fsub Tryz.f225 [1, 1, 0, 1, 0, 0, 1, 0, 0, 1, 0, 1]) (fun R => pieceG 1 (Zc0 Zn) R) :=
 piece_j (Zvx Zn) (cons_ok ⟨.inl Z1z, trivial⟩) orcs_0
theorem Zwc (g0 : Z5) : (Zbz g0).Loops Tryz.prog 29 1 (conL [(246, Z1h g0)]) (pieceL 1 [(1, Zc0 g0)]) (fsub Tryz.f225 [1, 1, 0, 1, 0, 0]) (.node .leaf (.node (.node (.node .leaf (.node (.node .leaf (.orc 1 [0, 1, 5, 7, 13] [])) .leaf)) .leaf) .leaf)) [0, 1, 5, 6] [(5, .bytes [] 0)] [0, 5] [] := by
 intro R v next K
 kernel_rfl
theorem Zz2 : OrcOK Tryz.prog 29 1 (.loop (fsub Tryz.f225 [1, 1, 0, 1, 0, 0])) (fun R => pieceG 1 (Zbz Zn) R) :=
 piece_l (Zwc Zn) (cons_ok ⟨.inl Z1z, trivial⟩) (orcs_1 [(1, [1, 0, 0, 1, 0, 1])] ⟨piece_a Zzn, trivial⟩)
def Zdt (f : Z4q) : Con := { args := [.sc (.sl 0 1 none), .sc (.i .i64)], blks := [(true, [.bytes none])], shapes := [⟨Str, fun r => (.c (.sc (.slice 1 1 none none)), [(1, ⟨true, [.bytes r r.length]⟩)], 1)⟩], F := fun R x y k => f R (x.2.1) (y.1.1) (fun z0 => k.1 z0) }
def Z141 : Con := Zdt Zb5
theorem Zyu (g0 : Z5) : (Zdt (Zt0 g0)).Says Tryz.prog Tryz.f225 (conL [(246, Z1h g0)]) (pieceL 1 [(0, Zbz g0)]) (.node .leaf (.node .leaf (.node (.node .leaf (.node (.orc 0 [0, 1, 5, 6] [(5, .bytes [] 0)]) .leaf)) .leaf))) := by
 intro R x y K
 kernel_rfl
theorem Zoo : ConOK Tryz.prog 225 Z141 :=
 con_o (Zyu Zn) (cons_ok ⟨.inl Z1z, trivial⟩) (orcs_1 [(0, [1, 1, 0, 1, 0])] ⟨piece_a Zz2, trivial⟩)
theorem Z130 (g0 : Z4j) : (Zng g0).Joins Tryz.prog 48 0 (conL [(173, Zg9 g0)]) (pieceL 0 []) (fsub Tryz.f111 [1, 1, 1, 1, 0]) .leaf [1, 7] [] := by
 intro R v next K
 kernel_rfl
theorem Z15s : OrcOK Tryz.prog 48 0 (fsub Tryz.f111 [1, 1, 1, 1, 0]) (fun R => pieceG 0 (Zng Z4g) R) :=
 piece_j (Z130 Z4g) (cons_ok ⟨.inl Zkp, trivial⟩) orcs_0
def Zaj (f : Z26) : Con := { args := [.sc (.i .i64), .sc (.s)], blks := [], shapes := [⟨Str × Int, fun r => (.tup [.sc (.str r.1), .sc (.int .i64 r.2)], [], 0)⟩], F := fun R x y k => f R (x.1) (x.2.1) (fun z0 z1 => k.1 (z0, z1)) }
def Z18k : Con := Zaj Z1s
theorem Z15d (g0 : Z4j) : (Zaj (Zxs g0)).Says Tryz.prog Tryz.f111 (conL [(173, Zg9 g0)]) (pieceL 0 [(0, Zng g0)]) (.node .leaf (.node .leaf (.node .leaf (.node .leaf (.node (.orc 0 [1, 6, 7] []) .leaf))))) := by
 intro R x y K
 kernel_rfl
theorem Zbq : ConOK Tryz.prog 111 Z18k :=
 con_o (Z15d Z4g) (cons_ok ⟨.inl Zkp, trivial⟩) (orcs_1 [(0, [1, 1, 1, 1, 0])] ⟨piece_a Z15s, trivial⟩)
theorem Z10w (g0 : Z2f) (g1 : Z2e) (g2 : Z4s) (g3 : Z4q) (g4 : Z26) : (Zi3 g0 g1 g2 g3 g4).Loops Tryz.prog 80 1 (conL [(223, Z6z g0), (224, Z7a g1), (225, Zdq g2), (225, Zdt g3), (111, Zaj g4)]) (pieceL 1 []) (fsub Tryz.f186 [1, 1, 1, 0, 1, 0, 0]) .leaf [4, 65, 66, 67] [] [4] [] := by
 intro R v next K
 kernel_rfl
theorem Z12w : OrcOK Tryz.prog 80 1 (.loop (fsub Tryz.f186 [1, 1, 1, 0, 1, 0, 0])) (fun R => pieceG 1 (Zi3 Z59 Z5b Zam Zb5 Z1s) R) :=
 piece_l (Z10w Z59 Z5b Zam Zb5 Z1s) (cons_ok ⟨.inl Zfm, .inl Zfn, .inl Zok, .inl Zoo, .inl Zbq, trivial⟩) orcs_0
def Zrv (f : Zn0) : Con := { args := [.sc (.sl 0 1 none)], blks := [(true, [.ints .i64 none])], shapes := [⟨Str × Int × (List Int), fun r => (.tup [.sc (.str r.1), .sc (.int .i64 r.2.1)], [(0, ⟨true, [.ints .i64 r.2.2 r.2.2.length]⟩)], 0)⟩], F := fun R x y k => f R (y.1.1) (fun z0 z1 z2 => k.1 (z0, z1, z2)) }
def Z17b : Con := Zrv Zud
theorem Z138 (g0 : Z2f) (g1 : Z2e) (g2 : Z4s) (g3 : Z4q) (g4 : Z26) : (Zrv (Z10m g0 g1 g2 g3 g4)).Says Tryz.prog Tryz.f186 (conL [(223, Z6z g0), (224, Z7a g1), (225, Zdq g2), (225, Zdt g3), (111, Zaj g4)]) (pieceL 1 [(0, Zi3 g0 g1 g2 g3 g4)]) (.node .leaf (.node .leaf (.node (.draw [⟨0, false, [], []⟩, ⟨1, false, [0], [0]⟩, ⟨2, false, [0], [0, 1]⟩, ⟨3, false, [], [0, 1, 2]⟩, ⟨4, false, [], []⟩, ⟨5, false, [0], [4]⟩, ⟨6, false, [0], [4, 5]⟩, ⟨7, false, [], [0, 1, 2, 3, 4, 5, 6]⟩, ⟨8, true, [], [0, 1, 2, 3, 4, 5, 6, 7]⟩, ⟨9, false, [], [0, 1, 2, 3, 4, 5, 6, 7, 8]⟩]) (.node (.node .leaf (.node (.orc 0 [4, 65, 66, 67] []) .leaf)) .leaf)))) := by
 intro R x y K
 kernel_rfl
theorem Z156 : ConOK Tryz.prog 186 Z17b :=
 con_o (Z138 Z59 Z5b Zam Zb5 Z1s) (cons_ok ⟨.inl Zfm, .inl Zfn, .inl Zok, .inl Zoo, .inl Zbq, trivial⟩) (orcs_1 [(0, [1, 1, 1, 0, 1, 0])] ⟨piece_a Z12w, trivial⟩)
theorem Z15p (g0 : Z2w) (g1 : Z26) : (Zmx g0 g1).Loops Tryz.prog 32 0 (conL [(105, Zct g0), (111, Zaj g1)]) (pieceL 0 []) (fsub Tryz.f57 [1, 1, 0, 1, 0, 0]) .leaf [0, 3, 8] [] [3] [] := by
 intro R v next K
 kernel_rfl
theorem Z16x : OrcOK Tryz.prog 32 0 (.loop (fsub Tryz.f57 [1, 1, 0, 1, 0, 0])) (fun R => pieceG 0 (Zmx Z1u Z1s) R) :=
 piece_l (Z15p Z1u Z1s) (cons_ok ⟨.inl Zft, .inl Zbq, trivial⟩) orcs_0
theorem Z14z (g0 : Z2w) (g1 : Z26) : (Zme g0 g1).Loops Tryz.prog 32 0 (conL [(105, Zct g0), (111, Zaj g1)]) (pieceL 0 []) (fsub Tryz.f57 [1, 1, 1, 1, 0, 0, 0]) .leaf [5] [] [5] [] := by
 intro R v next K
 kernel_rfl
theorem Z16o : OrcOK Tryz.prog 32 0 (.loop (fsub Tryz.f57 [1, 1, 1, 1, 0, 0, 0])) (fun R => pieceG 0 (Zme Z1u Z1s) R) :=
 piece_l (Z14z Z1u Z1s) (cons_ok ⟨.inl Zft, .inl Zbq, trivial⟩) orcs_0
def Z12h (f : Zzz) : Con := { args := [.sc (.i .i64)], blks := [], shapes := [⟨Str, fun r => (.c (.sc (.str r)), [], 0)⟩], F := fun R x y k => f R (x.1) (fun z0 => k.1 z0) }
def Z192 : Con := Z12h Zv1
theorem Z16r (g0 : Z2w) (g1 : Z26) : (Z12h (Z12m g0 g1)).Says Tryz.prog Tryz.f57 (conL [(105, Zct g0), (111, Zaj g1)]) (pieceL 0 [(0, Zmx g0 g1), (1, Zme g0 g1)]) (.node .leaf (.node .leaf (.node (.node .leaf (.node (.orc 0 [0, 3, 8] []) .leaf)) (.node .leaf (.node (.node (.orc 1 [5] []) .leaf) .leaf))))) := by
 intro R x y K
 kernel_rfl
theorem Z17v : ConOK Tryz.prog 57 Z192 :=
 con_o (Z16r Z1u Z1s) (cons_ok ⟨.inl Zft, .inl Zbq, trivial⟩) (orcs_1 [(0, [1, 1, 0, 1, 0]), (1, [1, 1, 1, 1, 0, 0])] ⟨piece_a Z16x, piece_a Z16o, trivial⟩)
end
noncomputable section
open Go.Proofs
theorem Z128 : (Zfv).Loops Tryz.prog 19 0 (conL []) (pieceL 0 []) (fsub Tryz.f187 [1, 1, 0, 1, 0, 0]) .leaf [0, 3, 5] [] [3] [] := by
 intro R v next K
 kernel_rfl
theorem Z13w : OrcOK Tryz.prog 19 0 (.loop (fsub Tryz.f187 [1, 1, 0, 1, 0, 0])) (fun R => pieceG 0 (Zfv) R) :=
 piece_l (Z128) (cons_ok trivial) orcs_0
def Zvc (f : Zqb) : Con := { args := [.sc (.s)], blks := [], shapes := [⟨Int, fun r => (.c (.sc (.int .u64 r)), [], 0)⟩], F := fun R x y k => f R (x.1) (fun z0 => k.1 z0) }
def Z181 : Con := Zvc Zk4
theorem Z143 : (Zvc (Zu5)).Says Tryz.prog Tryz.f187 (conL []) (pieceL 0 [(0, Zfv)]) (.node .leaf (.node .leaf (.node (.node .leaf (.node (.orc 0 [0, 3, 5] []) .leaf)) .leaf))) := by
 intro R x y K
 kernel_rfl
theorem Z16m : ConOK Tryz.prog 187 Z181 :=
 con_o (Z143) (cons_ok trivial) (orcs_1 [(0, [1, 1, 0, 1, 0])] ⟨piece_a Z13w, trivial⟩)
theorem Zyw : (Zba).Loops Tryz.prog 31 0 (conL []) (pieceL 0 []) (fsub Tryz.f247 [1, 1, 0, 1, 0, 0]) .leaf [1, 2, 3, 5] [] [1, 2, 3] [] := by
 intro R v next K
 kernel_rfl
theorem Z11g : OrcOK Tryz.prog 31 0 (.loop (fsub Tryz.f247 [1, 1, 0, 1, 0, 0])) (fun R => pieceG 0 (Zba) R) :=
 piece_l (Zyw) (cons_ok trivial) orcs_0
def Zgu (f : Z6f) : Con := { args := [.agg [.ints .u64 (some 5)]], blks := [], shapes := [⟨(List Int), fun r => (.c (.agg [.ints .u64 r 5]), [], 0)⟩], F := fun R x y k => f R (x.1.1) (fun z0 => k.1 z0) }
def Z16i : Con := Zgu Z4c
theorem Z10y : (Zgu (Zmi)).Says Tryz.prog Tryz.f247 (conL []) (pieceL 0 [(0, Zba)]) (.node .leaf (.node .leaf (.node (.node .leaf (.node (.orc 0 [1, 2, 3, 5] []) .leaf)) .leaf))) := by
 intro R x y K
 kernel_rfl
theorem Zsw : ConOK Tryz.prog 247 Z16i :=
 con_o (Z10y) (cons_ok trivial) (orcs_1 [(0, [1, 1, 0, 1, 0])] ⟨piece_a Z11g, trivial⟩)
theorem Z121 (g0 : Z6f) : (Zfs g0).Loops Tryz.prog 42 0 (conL [(247, Zgu g0)]) (pieceL 0 []) (fsub Tryz.f226 [1, 1, 1, 1, 0, 1, 0, 0]) (.node .leaf (.node .leaf (.node (.node (.node .leaf (.node (.draw [⟨0, false, [], []⟩, ⟨1, false, [], [0]⟩, ⟨2, false, [2], [0, 1]⟩, ⟨3, false, [2], [0, 1, 2]⟩, ⟨4, false, [], []⟩, ⟨5, false, [2], [4]⟩, ⟨6, false, [2], [4, 5]⟩, ⟨7, false, [], [4, 5, 6]⟩, ⟨8, false, [], [0, 1, 2, 3, 4, 5, 6, 7]⟩, ⟨9, false, [2], [0, 1, 2, 3, 4, 5, 6, 7, 8]⟩, ⟨10, true, [2], [0, 1, 2, 3, 4, 5, 6, 7, 8, 9]⟩]) .leaf)) .leaf) .leaf))) [1, 2, 3, 13] [] [1, 2, 3] [] := by
 intro R v next K
 kernel_rfl
theorem Z145 : OrcOK Tryz.prog 42 0 (.loop (fsub Tryz.f226 [1, 1, 1, 1, 0, 1, 0, 0])) (fun R => pieceG 0 (Zfs Z4c) R) :=
 piece_l (Z121 Z4c) (cons_ok ⟨.inl Zsw, trivial⟩) orcs_0
def Zv9 (f : Zqe) : Con := { args := [.agg [.ints .u64 (some 5)]], blks := [], shapes := [⟨(List Int), fun r => (.c (.agg [.ints .u64 r 5]), [], 0)⟩], F := fun R x y k => f R (x.1.1) (fun z0 => k.1 z0) }
def Z184 : Con := Zv9 Zkd
theorem Z14t (g0 : Z6f) : (Zv9 (Zu1 g0)).Says Tryz.prog Tryz.f226 (conL [(247, Zgu g0)]) (pieceL 0 [(0, Zfs g0)]) (.node .leaf (.node .leaf (.node .leaf (.node .leaf (.node (.node .leaf (.node (.orc 0 [1, 2, 3, 13] []) .leaf)) .leaf))))) := by
 intro R x y K
 kernel_rfl
theorem Z16d : ConOK Tryz.prog 226 Z184 :=
 con_o (Z14t Z4c) (cons_ok ⟨.inl Zsw, trivial⟩) (orcs_1 [(0, [1, 1, 1, 1, 0, 1, 0])] ⟨piece_a Z145, trivial⟩)
def Z2r (f : Ze) : Con := { args := [.agg [.ints .u64 (some 5)]], blks := [], shapes := [⟨(List Int), fun r => (.c (.agg [.ints .u64 r 5]), [], 0)⟩], F := fun R x y k => f R (x.1.1) (fun z0 => k.1 z0) }
def Z171 : Con := Z2r Za
theorem Z11s (g0 : Zqe) : (Z2r (Zp6 g0)).Says Tryz.prog Tryz.f188 (conL [(226, Zv9 g0)]) (pieceL 0 []) .leaf := by
 intro R x y K
 kernel_rfl
theorem Z2v : ConOK Tryz.prog 188 Z171 :=
 con_o (Z11s Zkd) (cons_ok ⟨.inl Z16d, trivial⟩) orcs_0
def Ztf (f : Zep) : Con := { args := [.sc (.s)], blks := [], shapes := [⟨(List Int) × Int, fun r => (.tup [.agg [.ints .u64 r.1 5], .sc (.int .i64 r.2)], [], 0)⟩], F := fun R x y k => f R (x.1) (fun z0 z1 => k.1 (z0, z1)) }
def Z18v : Con := Ztf Zc3
theorem Z16k (g0 : Zqb) (g1 : Ze) : (Ztf (Zzs g0 g1)).Says Tryz.prog Tryz.f114 (conL [(187, Zvc g0), (188, Z2r g1)]) (pieceL 0 []) (.node .leaf (.node .leaf (.node (.draw [⟨0, false, [], []⟩, ⟨2, false, [], []⟩, ⟨3, false, [], [2]⟩, ⟨5, false, [], []⟩, ⟨6, false, [], [5]⟩, ⟨8, false, [], []⟩, ⟨9, false, [], [8]⟩, ⟨1, true, [], [0]⟩, ⟨4, true, [], [0, 1, 2, 3]⟩, ⟨7, true, [], [0, 1, 2, 3, 4, 5, 6]⟩, ⟨10, true, [], [0, 1, 2, 3, 4, 5, 6, 7, 8, 9]⟩, ⟨11, false, [], [0, 1, 2, 3, 4, 5, 6, 7, 8, 9, 10]⟩, ⟨12, false, [], [0, 1, 2, 3, 4, 5, 6, 7, 8, 9, 10, 11]⟩, ⟨13, false, [], [0, 1, 2, 3, 4, 5, 6, 7, 8, 9, 10, 11, 12]⟩, ⟨14, false, [], [0, 1, 2, 3, 4, 5, 6, 7, 8, 9, 10, 11, 12, 13]⟩]) .leaf))) := by
 intro R x y K
 kernel_rfl
theorem Z11z : ConOK Tryz.prog 114 Z18v :=
 con_o (Z16k Zk4 Za) (cons_ok ⟨.inl Z16m, .inl Z2v, trivial⟩) orcs_0
theorem Zvu : (Z92).Loops Tryz.prog 30 0 (conL []) (pieceL 0 []) (fsub Tryz.f115 [1, 1, 0, 1, 0, 0]) (.node .leaf (.node .leaf (.node (.node (.node .leaf (.draw [⟨0, false, [], []⟩, ⟨1, false, [], [0]⟩, ⟨2, false, [1], [0, 1]⟩, ⟨3, false, [1], [0, 1, 2]⟩, ⟨4, false, [], []⟩, ⟨5, false, [], [4]⟩, ⟨6, false, [0], []⟩, ⟨7, false, [0], [4, 5, 6]⟩, ⟨8, false, [0], [4, 5, 6, 7]⟩, ⟨9, false, [], []⟩, ⟨10, false, [], [9]⟩, ⟨11, false, [], [4, 5, 6, 7, 8, 9, 10]⟩, ⟨12, false, [], [4, 5, 6, 7, 8, 9, 10, 11]⟩, ⟨13, false, [], [4, 5, 6, 7, 8, 9, 10, 11, 12]⟩, ⟨14, false, [], []⟩, ⟨15, false, [], [14]⟩, ⟨16, false, [], [4, 5, 6, 7, 8, 9, 10, 11, 12, 13, 14, 15]⟩, ⟨17, false, [], [0, 1, 2, 3, 4, 5, 6, 7, 8, 9, 10, 11, 12, 13, 14, 15, 16]⟩, ⟨18, false, [1], [0, 1, 2, 3, 4, 5, 6, 7, 8, 9, 10, 11, 12, 13, 14, 15, 16, 17]⟩, ⟨19, true, [1], [0, 1, 2, 3, 4, 5, 6, 7, 8, 9, 10, 11, 12, 13, 14, 15, 16, 17, 18]⟩])) .leaf) .leaf))) [1, 3, 5] [] [3] [] := by
 intro R v next K
 kernel_rfl
theorem Zyd : OrcOK Tryz.prog 30 0 (.loop (fsub Tryz.f115 [1, 1, 0, 1, 0, 0])) (fun R => pieceG 0 (Z92) R) :=
 piece_l (Zvu) (cons_ok trivial) orcs_0
def Z7f (f : Z2d) : Con := { args := [.agg [.ints .u64 (some 5)]], blks := [], shapes := [⟨Str, fun r => (.c (.sc (.str r)), [], 0)⟩], F := fun R x y k => f R (x.1.1) (fun z0 => k.1 z0) }
def Z14i : Con := Z7f Z20
theorem Zyl : (Z7f (Zjj)).Says Tryz.prog Tryz.f115 (conL []) (pieceL 0 [(0, Z92)]) (.node .leaf (.node .leaf (.node (.node .leaf (.node (.orc 0 [1, 3, 5] []) .leaf)) .leaf))) := by
 intro R x y K
 kernel_rfl
theorem Zbe : ConOK Tryz.prog 115 Z14i :=
 con_o (Zyl) (cons_ok trivial) (orcs_1 [(0, [1, 1, 0, 1, 0])] ⟨piece_a Zyd, trivial⟩)
def Z5d (f : Z12) : Con := { args := [.agg [.one (.i .u64), .one (.i .u64)], .sc (.i .u64), .sc (.i .u64)], blks := [], shapes := [⟨Int × Int, fun r => (.c (.agg [.one (.int .u64 r.1), .one (.int .u64 r.2)]), [], 0)⟩], F := fun R x y k => f R (x.1.1) (x.1.2.1) (x.2.1) (x.2.2.1) (fun z0 z1 => k.1 (z0, z1)) }
def Z144 : Con := Z5d Zo
theorem Zyy (g0 : Z28) (g1 : Zq) : (Z5d (Zj8 g0 g1)).Says Tryz.prog Tryz.f189 (conL [(162, Zb4 g0), (163, Z4k g1)]) (pieceL 0 []) .leaf := by
 intro R x y K
 kernel_rfl
theorem Z83 : ConOK Tryz.prog 189 Z144 :=
 con_o (Zyy Z1i Zg) (cons_ok ⟨.inl Zdx, .inr Z49, trivial⟩) orcs_0
theorem Zya (g0 : Z12) (g1 : Zq) (g2 : Ze) : (Zez g0 g1 g2).Joins Tryz.prog 100 0 (conL [(189, Z5d g0), (163, Z4k g1), (188, Z2r g2)]) (pieceL 0 []) (fsub Tryz.f116 [1, 1, 0, 1, 0, 0, 1, 1, 0, 0, 1, 1, 0, 0, 1, 1, 0]) (.node (.node .leaf (.node .leaf (.node (.draw [⟨0, false, [], []⟩, ⟨1, false, [], []⟩, ⟨2, false, [], [0, 1]⟩, ⟨3, false, [], []⟩, ⟨4, false, [], []⟩, ⟨5, false, [], [3, 4]⟩, ⟨6, false, [3], [3, 4, 5]⟩, ⟨7, false, [3], [3, 4, 5, 6]⟩, ⟨8, false, [], []⟩, ⟨9, false, [0], []⟩, ⟨10, false, [0], [8, 9]⟩, ⟨11, false, [0], [8, 9, 10]⟩, ⟨12, false, [], []⟩, ⟨13, false, [1], []⟩, ⟨14, false, [1], [12, 13]⟩, ⟨15, false, [1], [12, 13, 14]⟩, ⟨16, true, [], [3, 4, 5, 6, 7, 8, 9, 10, 11, 12, 13, 14, 15]⟩, ⟨17, false, [3], [0, 1, 2, 3, 4, 5, 6, 7, 8, 9, 10, 11, 12, 13, 14, 15, 16]⟩, ⟨18, true, [3], [0, 1, 2, 3, 4, 5, 6, 7, 8, 9, 10, 11, 12, 13, 14, 15, 16, 17]⟩]) (.draw [⟨0, false, [], []⟩, ⟨1, false, [], []⟩, ⟨2, false, [], [0, 1]⟩, ⟨3, false, [], [0, 1, 2]⟩, ⟨4, false, [], []⟩, ⟨5, false, [], []⟩, ⟨6, false, [], [4, 5]⟩, ⟨7, false, [], [4, 5, 6]⟩, ⟨8, false, [3], [4, 5, 6, 7]⟩, ⟨9, false, [3], [4, 5, 6, 7, 8]⟩, ⟨10, false, [], []⟩, ⟨11, false, [0], []⟩, ⟨12, false, [0], [10, 11]⟩, ⟨13, false, [0], [10, 11, 12]⟩, ⟨14, false, [], [10, 11, 12, 13]⟩, ⟨15, false, [], []⟩, ⟨16, false, [1], []⟩, ⟨17, false, [1], [15, 16]⟩, ⟨18, false, [1], [15, 16, 17]⟩, ⟨19, true, [], [4, 5, 6, 7, 8, 9, 10, 11, 12, 13, 14, 15, 16, 17, 18]⟩, ⟨20, false, [3], [0, 1, 2, 3, 4, 5, 6, 7, 8, 9, 10, 11, 12, 13, 14, 15, 16, 17, 18, 19]⟩, ⟨21, true, [3], [0, 1, 2, 3, 4, 5, 6, 7, 8, 9, 10, 11, 12, 13, 14, 15, 16, 17, 18, 19, 20]⟩])))) .leaf) [2, 3, 4, 5, 6, 15, 18] [] := by
 intro R v next K
 kernel_rfl
theorem Z119 : OrcOK Tryz.prog 100 0 (fsub Tryz.f116 [1, 1, 0, 1, 0, 0, 1, 1, 0, 0, 1, 1, 0, 0, 1, 1, 0]) (fun R => pieceG 0 (Zez Zo Zg Za) R) :=
 piece_j (Zya Zo Zg Za) (cons_ok ⟨.inl Z83, .inr Z49, .inl Z2v, trivial⟩) orcs_0
theorem Zza (g0 : Z12) (g1 : Zq) (g2 : Ze) : (Zaw g0 g1 g2).Loops Tryz.prog 100 0 (conL [(189, Z5d g0), (163, Z4k g1), (188, Z2r g2)]) (pieceL 0 [(2, Zez g0 g1 g2)]) (fsub Tryz.f116 [1, 1, 0, 1, 0, 0, 1, 1, 0, 0, 1, 1, 0, 0]) (.node .leaf (.node .leaf (.node (.orc 2 [2, 3, 4, 5, 6, 15, 18] []) .leaf))) [2, 3, 4, 5, 6, 15, 18] [] [2, 3, 4, 5, 15] [] := by
 intro R v next K
 kernel_rfl
theorem Z11n : OrcOK Tryz.prog 100 0 (.loop (fsub Tryz.f116 [1, 1, 0, 1, 0, 0, 1, 1, 0, 0, 1, 1, 0, 0])) (fun R => pieceG 0 (Zaw Zo Zg Za) R) :=
 piece_l (Zza Zo Zg Za) (cons_ok ⟨.inl Z83, .inr Z49, .inl Z2v, trivial⟩) (orcs_1 [(2, [1, 1, 0])] ⟨piece_a Z119, trivial⟩)
theorem Zys (g0 : Z12) (g1 : Zq) (g2 : Ze) : (Zbc g0 g1 g2).Loops Tryz.prog 100 0 (conL [(189, Z5d g0), (163, Z4k g1), (188, Z2r g2)]) (pieceL 0 [(1, Zaw g0 g1 g2)]) (fsub Tryz.f116 [1, 1, 0, 1, 0, 0]) (.node .leaf (.node .leaf (.node (.node (.node .leaf (.node .leaf (.node (.orc 1 [2, 3, 4, 5, 6, 15, 18] []) .leaf))) .leaf) .leaf))) [2, 3, 4, 5, 15] [] [4, 5] [] := by
 intro R v next K
 kernel_rfl
theorem Z116 : OrcOK Tryz.prog 100 0 (.loop (fsub Tryz.f116 [1, 1, 0, 1, 0, 0])) (fun R => pieceG 0 (Zbc Zo Zg Za) R) :=
 piece_l (Zys Zo Zg Za) (cons_ok ⟨.inl Z83, .inr Z49, .inl Z2v, trivial⟩) (orcs_1 [(1, [1, 1, 0, 0, 1, 1, 0])] ⟨piece_a Z11n, trivial⟩)
theorem Zzl (g0 : Z12) (g1 : Zq) (g2 : Ze) : (Zan g0 g1 g2).Loops Tryz.prog 100 0 (conL [(189, Z5d g0), (163, Z4k g1), (188, Z2r g2)]) (pieceL 0 []) (fsub Tryz.f116 [1, 1, 1, 1, 1, 0, 1, 0, 0]) .leaf [4, 8, 9, 66, 67] [] [4, 8, 9] [] := by
 intro R v next K
 kernel_rfl
theorem Z11l : OrcOK Tryz.prog 100 0 (.loop (fsub Tryz.f116 [1, 1, 1, 1, 1, 0, 1, 0, 0])) (fun R => pieceG 0 (Zan Zo Zg Za) R) :=
 piece_l (Zzl Zo Zg Za) (cons_ok ⟨.inl Z83, .inr Z49, .inl Z2v, trivial⟩) orcs_0
def Z1b (f : Z4) : Con := { args := [.agg [.ints .u64 (some 5)], .agg [.ints .u64 (some 5)]], blks := [], shapes := [⟨(List Int), fun r => (.c (.agg [.ints .u64 r 5]), [], 0)⟩], F := fun R x y k => f R (x.1.1) (x.2.1.1) (fun z0 => k.1 z0) }
def Z169 : Con := Z1b Z2
theorem Z10x (g0 : Z12) (g1 : Zq) (g2 : Ze) : (Z1b (Zn4 g0 g1 g2)).Says Tryz.prog Tryz.f116 (conL [(189, Z5d g0), (163, Z4k g1), (188, Z2r g2)]) (pieceL 0 [(0, Zbc g0 g1 g2), (3, Zan g0 g1 g2)]) (.node .leaf (.node .leaf (.node (.node .leaf (.node (.orc 0 [2, 3, 4, 5, 15] []) .leaf)) (.node .leaf (.node .leaf (.node (.node .leaf (.node (.orc 3 [4, 8, 9, 66, 67] []) .leaf)) .leaf)))))) := by
 intro R x y K
 kernel_rfl
theorem Z18 : ConOK Tryz.prog 116 Z169 :=
 con_o (Z10x Zo Zg Za) (cons_ok ⟨.inl Z83, .inr Z49, .inl Z2v, trivial⟩) (orcs_1 [(0, [1, 1, 0, 1, 0]), (3, [1, 1, 1, 1, 1, 0, 1, 0])] ⟨piece_a Z116, piece_a Z11l, trivial⟩)
theorem Zyj (g0 : Ze) : (Zar g0).Loops Tryz.prog 31 0 (conL [(188, Z2r g0)]) (pieceL 0 []) (fsub Tryz.f117 [1, 0, 1, 0, 0]) (.node .leaf (.node .leaf (.node (.node (.node .leaf (.draw [⟨0, false, [], []⟩, ⟨1, false, [0], []⟩, ⟨2, false, [0], [0, 1]⟩, ⟨3, false, [0], [0, 1, 2]⟩, ⟨4, false, [], []⟩, ⟨5, false, [1], []⟩, ⟨6, false, [1], [4, 5]⟩, ⟨7, false, [1], [4, 5, 6]⟩, ⟨8, false, [], [4, 5, 6, 7]⟩, ⟨9, false, [], [0, 1, 2, 3, 4, 5, 6, 7, 8]⟩, ⟨10, false, [0], []⟩, ⟨11, false, [0], [0, 1, 2, 3, 4, 5, 6, 7, 8, 9, 10]⟩, ⟨12, true, [0], [0, 1, 2, 3, 4, 5, 6, 7, 8, 9, 10, 11]⟩])) .leaf) .leaf))) [2, 3, 4, 6] [] [2, 4] [] := by
 intro R v next K
 kernel_rfl
theorem Z11e : OrcOK Tryz.prog 31 0 (.loop (fsub Tryz.f117 [1, 0, 1, 0, 0])) (fun R => pieceG 0 (Zar Za) R) :=
 piece_l (Zyj Za) (cons_ok ⟨.inl Z2v, trivial⟩) orcs_0
def Z32 (f : Zt) : Con := { args := [.agg [.ints .u64 (some 5)], .agg [.ints .u64 (some 5)]], blks := [], shapes := [⟨(List Int), fun r => (.c (.agg [.ints .u64 r 5]), [], 0)⟩], F := fun R x y k => f R (x.1.1) (x.2.1.1) (fun z0 => k.1 z0) }
def Z165 : Con := Z32 Zr
theorem Z11d (g0 : Ze) : (Z32 (Zna g0)).Says Tryz.prog Tryz.f117 (conL [(188, Z2r g0)]) (pieceL 0 [(0, Zar g0)]) (.node .leaf (.node (.node .leaf (.node (.orc 0 [2, 3, 4, 6] []) .leaf)) .leaf)) := by
 intro R x y K
 kernel_rfl
theorem Z3f : ConOK Tryz.prog 117 Z165 :=
 con_o (Z11d Za) (cons_ok ⟨.inl Z2v, trivial⟩) (orcs_1 [(0, [1, 0, 1, 0])] ⟨piece_a Z11e, trivial⟩)
def Z3i (f : Zu) : Con := { args := [.sc (.i .i64)], blks := [], shapes := [⟨(List Int), fun r => (.c (.agg [.ints .u64 r 5]), [], 0)⟩], F := fun R x y k => f R (x.1) (fun z0 => k.1 z0) }
def Z17n : Con := Z3i Zp
theorem Z13b (g0 : Ze) (g1 : Zt) : (Z3i (Zsk g0 g1)).Says Tryz.prog Tryz.f127 (conL [(188, Z2r g0), (117, Z32 g1)]) (pieceL 0 []) .leaf := by
 intro R x y K
 kernel_rfl
theorem Z3r : ConOK Tryz.prog 127 Z17n :=
 con_o (Z13b Za Zr) (cons_ok ⟨.inl Z2v, .inl Z3f, trivial⟩) orcs_0
theorem Ztj (g0 : Z4) : (Z77 g0).Loops Tryz.prog 13 0 (conL [(116, Z1b g0)]) (pieceL 0 []) (fsub Tryz.f191 [1, 0, 1, 0, 0]) .leaf [2, 4, 5, 6] [] [2, 4] [] := by
 intro R v next K
 kernel_rfl
theorem Zw0 : OrcOK Tryz.prog 13 0 (.loop (fsub Tryz.f191 [1, 0, 1, 0, 0])) (fun R => pieceG 0 (Z77 Z2) R) :=
 piece_l (Ztj Z2) (cons_ok ⟨.inl Z18, trivial⟩) orcs_0
def Z4f (f : Z17) : Con := { args := [.agg [.ints .u64 (some 5)], .sc (.i .i64)], blks := [], shapes := [⟨(List Int), fun r => (.c (.agg [.ints .u64 r 5]), [], 0)⟩], F := fun R x y k => f R (x.1.1) (x.2.1) (fun z0 => k.1 z0) }
def Z12f : Con := Z4f Z15
theorem Zvz (g0 : Z4) : (Z4f (Zgi g0)).Says Tryz.prog Tryz.f191 (conL [(116, Z1b g0)]) (pieceL 0 [(0, Z77 g0)]) (.node .leaf (.node (.node .leaf (.node (.orc 0 [2, 4, 5, 6] []) .leaf)) .leaf)) := by
 intro R x y K
 kernel_rfl
theorem Z6h : ConOK Tryz.prog 191 Z12f :=
 con_o (Zvz Z2) (cons_ok ⟨.inl Z18, trivial⟩) (orcs_1 [(0, [1, 0, 1, 0])] ⟨piece_a Zw0, trivial⟩)
def Z86 (f : Z1x) : Con := { args := [.agg [.ints .u64 (some 5)]], blks := [], shapes := [⟨(List Int) × (List Int), fun r => (.tup [.agg [.ints .u64 r.1 5], .agg [.ints .u64 r.2 5]], [], 0)⟩], F := fun R x y k => f R (x.1.1) (fun z0 z1 => k.1 (z0, z1)) }
def Z14y : Con := Z86 Z1r
theorem Z103 (g0 : Z17) (g1 : Z4) : (Z86 (Zl8 g0 g1)).Says Tryz.prog Tryz.f190 (conL [(191, Z4f g0), (116, Z1b g1)]) (pieceL 0 []) (.node .leaf (.node .leaf (.node (.draw [⟨0, false, [3], []⟩, ⟨2, false, [0], []⟩, ⟨4, false, [], []⟩, ⟨1, true, [], [0]⟩, ⟨3, true, [], [0, 1, 2]⟩, ⟨5, true, [4], [0, 1, 2, 3, 4]⟩]) (.node .leaf (.node (.draw [⟨0, false, [5], []⟩, ⟨2, false, [4], []⟩, ⟨4, false, [], []⟩, ⟨1, true, [], [0]⟩, ⟨3, true, [], [0, 1, 2]⟩, ⟨5, true, [6], [0, 1, 2, 3, 4]⟩]) (.node (.draw [⟨0, false, [6], []⟩, ⟨2, false, [6], []⟩, ⟨4, false, [], []⟩, ⟨1, true, [], [0]⟩, ⟨3, true, [], [0, 1, 2]⟩, ⟨5, true, [7], [0, 1, 2, 3, 4]⟩]) (.node (.draw [⟨0, false, [7], []⟩, ⟨2, false, [7], []⟩, ⟨4, false, [], []⟩, ⟨1, true, [], [0]⟩, ⟨3, true, [], [0, 1, 2]⟩, ⟨5, true, [8], [0, 1, 2, 3, 4]⟩]) (.node (.draw [⟨0, false, [8], []⟩, ⟨2, false, [8], []⟩, ⟨4, false, [], []⟩, ⟨1, true, [], [0]⟩, ⟨3, true, [], [0, 1, 2]⟩, ⟨5, true, [9], [0, 1, 2, 3, 4]⟩]) (.node (.draw [⟨0, false, [9], []⟩, ⟨2, false, [7], []⟩, ⟨4, false, [], []⟩, ⟨1, true, [], [0]⟩, ⟨3, true, [], [0, 1, 2]⟩, ⟨5, true, [10], [0, 1, 2, 3, 4]⟩]) (.node (.draw [⟨0, false, [10], []⟩, ⟨2, false, [10], []⟩, ⟨4, false, [], []⟩, ⟨1, true, [], [0]⟩, ⟨3, true, [], [0, 1, 2]⟩, ⟨5, true, [11], [0, 1, 2, 3, 4]⟩]) (.node (.draw [⟨0, false, [11], []⟩, ⟨2, false, [11], []⟩, ⟨4, false, [], []⟩, ⟨1, true, [], [0]⟩, ⟨3, true, [], [0, 1, 2]⟩, ⟨5, true, [12], [0, 1, 2, 3, 4]⟩]) (.node (.draw [⟨0, false, [12], []⟩, ⟨2, false, [10], []⟩, ⟨4, false, [5], []⟩, ⟨1, true, [], [0]⟩, ⟨3, true, [], [0, 1, 2]⟩, ⟨5, true, [1], [0, 1, 2, 3]⟩, ⟨6, true, [2], [0, 1, 2, 3, 4, 5]⟩]) .leaf)))))))))))) := by
 intro R x y K
 kernel_rfl
theorem Zbu : ConOK Tryz.prog 190 Z14y :=
 con_o (Z103 Z15 Z2) (cons_ok ⟨.inl Z6h, .inl Z18, trivial⟩) orcs_0
def Z7c (f : Z25) : Con := { args := [.agg [.ints .u64 (some 5)]], blks := [], shapes := [⟨(List Int), fun r => (.c (.agg [.ints .u64 r 5]), [], 0)⟩], F := fun R x y k => f R (x.1.1) (fun z0 => k.1 z0) }
def Z168 : Con := Z7c Z1y
theorem Z10v (g0 : Z1x) (g1 : Z17) (g2 : Z4) : (Z7c (Znd g0 g1 g2)).Says Tryz.prog Tryz.f121 (conL [(190, Z86 g0), (191, Z4f g1), (116, Z1b g2)]) (pieceL 0 []) (.node .leaf (.node .leaf (.node (.draw [⟨0, false, [2], []⟩, ⟨2, false, [3], []⟩, ⟨1, true, [], [0]⟩, ⟨3, true, [], [0, 1, 2]⟩, ⟨4, true, [1], [0, 1, 2, 3]⟩]) .leaf))) := by
 intro R x y K
 kernel_rfl
theorem Z9q : ConOK Tryz.prog 121 Z168 :=
 con_o (Z10v Z1r Z15 Z2) (cons_ok ⟨.inl Zbu, .inl Z6h, .inl Z18, trivial⟩) orcs_0
theorem Zy5 (g0 : Ze) : (Zaz g0).Loops Tryz.prog 24 0 (conL [(188, Z2r g0)]) (pieceL 0 []) (fsub Tryz.f120 [1, 0, 1, 0, 0]) (.node .leaf (.node .leaf (.node (.node (.node .leaf (.draw [⟨0, false, [], []⟩, ⟨1, false, [0], []⟩, ⟨2, false, [0], [0, 1]⟩, ⟨3, false, [0], [0, 1, 2]⟩, ⟨4, false, [], []⟩, ⟨5, false, [1], []⟩, ⟨6, false, [1], [4, 5]⟩, ⟨7, false, [1], [4, 5, 6]⟩, ⟨8, false, [], [0, 1, 2, 3, 4, 5, 6, 7]⟩, ⟨9, false, [0], []⟩, ⟨10, false, [0], [0, 1, 2, 3, 4, 5, 6, 7, 8, 9]⟩, ⟨11, true, [0], [0, 1, 2, 3, 4, 5, 6, 7, 8, 9, 10]⟩])) .leaf) .leaf))) [2, 3, 4, 6] [] [2, 4] [] := by
 intro R v next K
 kernel_rfl
theorem Z11i : OrcOK Tryz.prog 24 0 (.loop (fsub Tryz.f120 [1, 0, 1, 0, 0])) (fun R => pieceG 0 (Zaz Za) R) :=
 piece_l (Zy5 Za) (cons_ok ⟨.inl Z2v, trivial⟩) orcs_0
def Z9g (f : Z31) : Con := { args := [.agg [.ints .u64 (some 5)], .agg [.ints .u64 (some 5)]], blks := [], shapes := [⟨(List Int), fun r => (.c (.agg [.ints .u64 r 5]), [], 0)⟩], F := fun R x y k => f R (x.1.1) (x.2.1.1) (fun z0 => k.1 z0) }
def Z161 : Con := Z9g Z2q
theorem Z11f (g0 : Ze) : (Z9g (Zms g0)).Says Tryz.prog Tryz.f120 (conL [(188, Z2r g0)]) (pieceL 0 [(0, Zaz g0)]) (.node .leaf (.node (.node .leaf (.node (.orc 0 [2, 3, 4, 6] []) .leaf)) .leaf)) := by
 intro R x y K
 kernel_rfl
theorem Zdj : ConOK Tryz.prog 120 Z161 :=
 con_o (Z11f Za) (cons_ok ⟨.inl Z2v, trivial⟩) (orcs_1 [(0, [1, 0, 1, 0])] ⟨piece_a Z11i, trivial⟩)
theorem Zxj (g0 : Z1x) (g1 : Z17) (g2 : Z4) (g3 : Zu) (g4 : Zt) : (Zdm g0 g1 g2 g3 g4).Joins Tryz.prog 51 0 (conL [(190, Z86 g0), (191, Z4f g1), (116, Z1b g2), (127, Z3i g3), (117, Z32 g4)]) (pieceL 0 []) (fsub Tryz.f122 [1, 1, 1, 0, 1]) (.node (.node .leaf (.draw [⟨0, false, [2], []⟩, ⟨1, false, [3], []⟩, ⟨2, true, [], [1]⟩, ⟨3, true, [], [1, 2]⟩, ⟨4, true, [], [1, 2, 3]⟩, ⟨5, true, [], [0, 1, 2, 3, 4]⟩, ⟨6, true, [2], [0, 1, 2, 3, 4, 5]⟩])) .leaf) [1, 2, 6] [] := by
 intro R v next K
 kernel_rfl
theorem Z10g : OrcOK Tryz.prog 51 0 (fsub Tryz.f122 [1, 1, 1, 0, 1]) (fun R => pieceG 0 (Zdm Z1r Z15 Z2 Zp Zr) R) :=
 piece_j (Zxj Z1r Z15 Z2 Zp Zr) (cons_ok ⟨.inl Zbu, .inl Z6h, .inl Z18, .inl Z3r, .inl Z3f, trivial⟩) orcs_0
theorem Zy0 (g0 : Z1x) (g1 : Z17) (g2 : Z4) (g3 : Zu) (g4 : Zt) : (Zdp g0 g1 g2 g3 g4).Joins Tryz.prog 51 0 (conL [(190, Z86 g0), (191, Z4f g1), (116, Z1b g2), (127, Z3i g3), (117, Z32 g4)]) (pieceL 0 []) (fsub Tryz.f122 [1, 1, 1, 1, 1, 0, 1]) .leaf [2, 6] [] := by
 intro R v next K
 kernel_rfl
theorem Z10e : OrcOK Tryz.prog 51 0 (fsub Tryz.f122 [1, 1, 1, 1, 1, 0, 1]) (fun R => pieceG 0 (Zdp Z1r Z15 Z2 Zp Zr) R) :=
 piece_j (Zy0 Z1r Z15 Z2 Zp Zr) (cons_ok ⟨.inl Zbu, .inl Z6h, .inl Z18, .inl Z3r, .inl Z3f, trivial⟩) orcs_0
def Zfe (f : Z5k) : Con := { args := [.agg [.ints .u64 (some 5)]], blks := [], shapes := [⟨(List Int) × Bool, fun r => (.tup [.agg [.ints .u64 r.1 5], .sc (.bool r.2)], [], 0)⟩], F := fun R x y k => f R (x.1.1) (fun z0 z1 => k.1 (z0, z1)) }
def Z15n : Con := Zfe Z4i
theorem Z104 (g0 : Z1x) (g1 : Z17) (g2 : Z4) (g3 : Zu) (g4 : Zt) : (Zfe (Zkz g0 g1 g2 g3 g4)).Says Tryz.prog Tryz.f122 (conL [(190, Z86 g0), (191, Z4f g1), (116, Z1b g2), (127, Z3i g3), (117, Z32 g4)]) (pieceL 0 [(0, Zdm g0 g1 g2 g3 g4), (1, Zdp g0 g1 g2 g3 g4)]) (.node .leaf (.node .leaf (.node (.draw [⟨0, false, [2], []⟩, ⟨2, false, [0], []⟩, ⟨4, false, [0], []⟩, ⟨6, false, [], []⟩, ⟨1, true, [], [0]⟩, ⟨3, true, [], [0, 1, 2]⟩, ⟨5, true, [], [0, 1, 2, 3, 4]⟩, ⟨7, true, [4], [0, 1, 2, 3, 4, 5, 6]⟩]) (.node (.node (.draw [⟨0, false, [4], []⟩, ⟨1, false, [4], []⟩, ⟨3, false, [0], []⟩, ⟨2, true, [], [0, 1]⟩, ⟨4, false, [], [0, 1, 2, 3]⟩]) (.orc 0 [1, 2, 6, 24] [])) (.node (.node (.draw [⟨0, false, [2], []⟩, ⟨1, false, [2], []⟩, ⟨3, false, [0], []⟩, ⟨2, true, [], [0, 1]⟩, ⟨4, false, [], [0, 1, 2, 3]⟩]) .leaf) (.node (.node .leaf (.orc 1 [2, 6, 46] [])) .leaf)))))) := by
 intro R x y K
 kernel_rfl
theorem Zqy : ConOK Tryz.prog 122 Z15n :=
 con_o (Z104 Z1r Z15 Z2 Zp Zr) (cons_ok ⟨.inl Zbu, .inl Z6h, .inl Z18, .inl Z3r, .inl Z3f, trivial⟩) (orcs_1 [(0, [1, 1, 1, 0, 1]), (1, [1, 1, 1, 1, 1, 0, 1])] ⟨piece_a Z10g, piece_a Z10e, trivial⟩)
end
noncomputable section
open Go.Proofs
def Zga (f : Z62) : Con := { args := [], blks := [], shapes := [⟨(List Int), fun r => (.c (.agg [.ints .u64 r 5]), [], 0)⟩], F := fun R x y k => f R (fun z0 => k.1 z0) }
def Z18t : Con := Zga Z53
theorem Z15b (g0 : Zu) : (Zga (Zxi g0)).Says Tryz.prog Tryz.f118 (conL [(127, Z3i g0)]) (pieceL 0 []) .leaf := by
 intro R x y K
 kernel_rfl
theorem Zkm : ConOK Tryz.prog 118 Z18t :=
 con_o (Z15b Zp) (cons_ok ⟨.inl Z3r, trivial⟩) orcs_0
def Z6j (f : Z1e) : Con := { args := [], blks := [], shapes := [⟨(List Int), fun r => (.c (.agg [.ints .u64 r 5]), [], 0)⟩], F := fun R x y k => f R (fun z0 => k.1 z0) }
def Z174 : Con := Z6j Z1c
theorem Z12a (g0 : Zu) (g1 : Z25) (g2 : Z4) : (Z6j (Zpl g0 g1 g2)).Says Tryz.prog Tryz.f119 (conL [(127, Z3i g0), (121, Z7c g1), (116, Z1b g2)]) (pieceL 0 []) .leaf := by
 intro R x y K
 kernel_rfl
theorem Z8e : ConOK Tryz.prog 119 Z174 :=
 con_o (Z12a Zp Z1y Z2) (cons_ok ⟨.inl Z3r, .inl Z9q, .inl Z18, trivial⟩) orcs_0
def Zho (f : Z6w) : Con := { args := [.agg [.ints .u64 (some 5)], .agg [.ints .u64 (some 5)], .agg [.ints .u64 (some 5)], .agg [.ints .u64 (some 5)]], blks := [], shapes := [⟨(List Int) × (List Int) × (List Int) × (List Int), fun r => (.c (.agg [.ints .u64 r.1 5, .ints .u64 r.2.1 5, .ints .u64 r.2.2.1 5, .ints .u64 r.2.2.2 5]), [], 0)⟩], F := fun R x y k => f R (x.1.1) (x.2.1.1) (x.2.2.1.1) (x.2.2.2.1.1) (fun z0 z1 z2 z3 => k.1 (z0, z1, z2, z3)) }
def Z180 : Con := Zho Z5u
theorem Z13q (g0 : Z62) (g1 : Zt) : (Zho (Zva g0 g1)).Says Tryz.prog Tryz.f123 (conL [(118, Zga g0), (117, Z32 g1)]) (pieceL 0 []) (.node .leaf (.node (.draw [⟨0, false, [0], []⟩, ⟨1, false, [1], []⟩, ⟨4, false, [2], []⟩, ⟨7, false, [3], []⟩, ⟨2, true, [], []⟩, ⟨3, true, [], [1, 2]⟩, ⟨5, true, [], [1, 2, 3]⟩, ⟨6, true, [], [1, 2, 3, 4, 5]⟩, ⟨8, false, [], [0, 1, 2, 3, 4, 5, 6, 7]⟩, ⟨9, true, [4], [0, 1, 2, 3, 4, 5, 6, 7, 8]⟩]) .leaf)) := by
 intro R x y K
 kernel_rfl
theorem Zp4 : ConOK Tryz.prog 123 Z180 :=
 con_o (Z13q Z53 Zr) (cons_ok ⟨.inl Zkm, .inl Z3f, trivial⟩) orcs_0
theorem Z13z (g0 : Zep) (g1 : Z2d) (g2 : Z4) (g3 : Z62) (g4 : Zt) (g5 : Z1e) (g6 : Z31) (g7 : Z25) (g8 : Z5k) (g9 : Z6w) : (Zq8 g0 g1 g2 g3 g4 g5 g6 g7 g8 g9).Joins Tryz.prog 78 0 (conL [(114, Ztf g0), (115, Z7f g1), (116, Z1b g2), (118, Zga g3), (117, Z32 g4), (119, Z6j g5), (120, Z9g g6), (121, Z7c g7), (122, Zfe g8), (123, Zho g9)]) (pieceL 0 []) (fsub Tryz.f58 [1, 1, 1, 1, 1, 1, 1, 1, 1, 1, 0, 1]) .leaf [2, 6, 9] [] := by
 intro R v next K
 kernel_rfl
theorem Z16e : OrcOK Tryz.prog 78 0 (fsub Tryz.f58 [1, 1, 1, 1, 1, 1, 1, 1, 1, 1, 0, 1]) (fun R => pieceG 0 (Zq8 Zc3 Z20 Z2 Z53 Zr Z1c Z2q Z1y Z4i Z5u) R) :=
 piece_j (Z13z Zc3 Z20 Z2 Z53 Zr Z1c Z2q Z1y Z4i Z5u) (cons_ok ⟨.inl Z11z, .inl Zbe, .inl Z18, .inl Zkm, .inl Z3f, .inl Z8e, .inl Zdj, .inl Z9q, .inl Zqy, .inl Zp4, trivial⟩) orcs_0
def Zto (f : Zln) : Con := { args := [.sc (.s)], blks := [], shapes := [⟨(List Int) × (List Int) × (List Int) × (List Int) × Int, fun r => (.tup [.agg [.ints .u64 r.1 5, .ints .u64 r.2.1 5, .ints .u64 r.2.2.1 5, .ints .u64 r.2.2.2.1 5], .sc (.int .i64 r.2.2.2.2)], [], 0)⟩], F := fun R x y k => f R (x.1) (fun z0 z1 z2 z3 z4 => k.1 (z0, z1, z2, z3, z4)) }
def Z18y : Con := Zto Zhj
theorem Z163 (g0 : Zep) (g1 : Z2d) (g2 : Z4) (g3 : Z62) (g4 : Zt) (g5 : Z1e) (g6 : Z31) (g7 : Z25) (g8 : Z5k) (g9 : Z6w) : (Zto (Zzy g0 g1 g2 g3 g4 g5 g6 g7 g8 g9)).Says Tryz.prog Tryz.f58 (conL [(114, Ztf g0), (115, Z7f g1), (116, Z1b g2), (118, Zga g3), (117, Z32 g4), (119, Z6j g5), (120, Z9g g6), (121, Z7c g7), (122, Zfe g8), (123, Zho g9)]) (pieceL 0 [(0, Zq8 g0 g1 g2 g3 g4 g5 g6 g7 g8 g9)]) (.node .leaf (.node .leaf (.node .leaf (.node .leaf (.node .leaf (.node .leaf (.node (.node (.draw [⟨0, false, [2], []⟩, ⟨2, false, [], []⟩, ⟨3, false, [1], [2]⟩, ⟨1, true, [], [0]⟩, ⟨4, false, [], [0, 1, 2, 3]⟩]) .leaf) (.node .leaf (.node (.draw [⟨0, false, [3], []⟩, ⟨4, false, [3], []⟩, ⟨14, false, [], []⟩, ⟨1, true, [], []⟩, ⟨2, true, [], [0, 1]⟩, ⟨3, true, [], [0, 1, 2]⟩, ⟨5, true, [], [0, 1, 2, 3, 4]⟩, ⟨6, true, [], [0, 1, 2, 3, 4, 5]⟩, ⟨7, true, [], [0, 1, 2, 3, 4, 5, 6]⟩, ⟨8, true, [], [0, 1, 2, 3, 4, 5, 6, 7]⟩, ⟨9, true, [], [0, 1, 2, 3, 4, 5, 6, 7, 8]⟩, ⟨10, true, [], [0, 1, 2, 3, 4, 5, 6, 7, 8, 9]⟩, ⟨11, false, [], [0, 1, 2, 3, 4, 5, 6, 7, 8, 9, 10]⟩, ⟨12, false, [], [0, 1, 2, 3, 4, 5, 6, 7, 8, 9, 10, 11]⟩, ⟨13, false, [], [0, 1, 2, 3, 4, 5, 6, 7, 8, 9, 10, 11]⟩, ⟨15, true, [4], [0, 1, 2, 3, 4, 5, 6, 7, 8, 9, 10, 11, 12, 14]⟩, ⟨16, false, [], [0, 1, 2, 3, 4, 5, 6, 7, 8, 9, 10, 11, 12, 13, 14, 15]⟩]) (.node .leaf (.node (.node .leaf (.orc 0 [2, 6, 9, 67] [])) (.node (.draw [⟨0, false, [2], []⟩, ⟨1, false, [1], []⟩, ⟨3, false, [2], []⟩, ⟨4, false, [1], []⟩, ⟨2, true, [], []⟩, ⟨5, true, [], [2, 3, 4]⟩, ⟨6, true, [], [0, 1, 2, 3, 4, 5]⟩, ⟨7, true, [0], [0, 1, 2, 3, 4, 5, 6]⟩, ⟨8, false, [], [0, 1, 2, 3, 4, 5, 6, 7]⟩]) .leaf)))))))))))) := by
 intro R x y K
 kernel_rfl
theorem Z12d : ConOK Tryz.prog 58 Z18y :=
 con_o (Z163 Zc3 Z20 Z2 Z53 Zr Z1c Z2q Z1y Z4i Z5u) (cons_ok ⟨.inl Z11z, .inl Zbe, .inl Z18, .inl Zkm, .inl Z3f, .inl Z8e, .inl Zdj, .inl Z9q, .inl Zqy, .inl Zp4, trivial⟩) (orcs_1 [(0, [1, 1, 1, 1, 1, 1, 1, 1, 1, 1, 0, 1])] ⟨piece_a Z16e, trivial⟩)
def Znc (f : Zg6) : Con := { args := [], blks := [], shapes := [⟨(List Int) × (List Int) × (List Int) × (List Int), fun r => (.c (.agg [.ints .u64 r.1 5, .ints .u64 r.2.1 5, .ints .u64 r.2.2.1 5, .ints .u64 r.2.2.2 5]), [], 0)⟩], F := fun R x y k => f R (fun z0 z1 z2 z3 => k.1 (z0, z1, z2, z3)) }
def Z187 : Con := Znc Zcu
theorem Z140 (g0 : Zu) (g1 : Z25) (g2 : Z4) (g3 : Z2d) (g4 : Zln) : (Znc (Zu7 g0 g1 g2 g3 g4)).Says Tryz.prog Tryz.f60 (conL [(127, Z3i g0), (121, Z7c g1), (116, Z1b g2), (115, Z7f g3), (58, Zto g4)]) (pieceL 0 []) .leaf := by
 intro R x y K
 kernel_rfl
theorem Zzd : ConOK Tryz.prog 60 Z187 :=
 con_o (Z140 Zp Z1y Z2 Z20 Zhj) (cons_ok ⟨.inl Z3r, .inl Z9q, .inl Z18, .inl Zbe, .inl Z12d, trivial⟩) orcs_0
def Zc7 (f : Z7i) : Con := { args := [.agg [.ints .u64 (some 5), .ints .u64 (some 5), .ints .u64 (some 5), .ints .u64 (some 5)]], blks := [], shapes := [⟨(List Int) × (List Int) × (List Int) × (List Int), fun r => (.tup [.agg [.ints .u64 r.1 5], .agg [.ints .u64 r.2.1 5], .agg [.ints .u64 r.2.2.1 5], .agg [.ints .u64 r.2.2.2 5]], [], 0)⟩], F := fun R x y k => f R (x.1.1) (x.1.2.1) (x.1.2.2.1) (x.1.2.2.2.1) (fun z0 z1 z2 z3 => k.1 (z0, z1, z2, z3)) }
def Z12v : Con := Zc7 Z5g
theorem Zxw (g0 : Z62) (g1 : Z31) : (Zc7 (Zh9 g0 g1)).Says Tryz.prog Tryz.f133 (conL [(118, Zga g0), (120, Z9g g1)]) (pieceL 0 []) (.node .leaf (.node (.draw [⟨0, false, [0], []⟩, ⟨1, false, [0], [0]⟩, ⟨2, false, [0], []⟩, ⟨3, false, [0], [2]⟩, ⟨6, false, [0], []⟩, ⟨7, false, [0], [6]⟩, ⟨10, false, [0], []⟩, ⟨11, false, [0], [10]⟩, ⟨4, true, [], []⟩, ⟨5, true, [], [2, 3, 4]⟩, ⟨8, true, [], [2, 3, 4, 5]⟩, ⟨9, true, [], [2, 3, 4, 5, 6, 7, 8]⟩, ⟨12, true, [1], [0, 1, 2, 3, 4, 5, 6, 7, 8, 9]⟩, ⟨13, true, [2], [0, 1, 2, 3, 4, 5, 6, 7, 8, 9, 12]⟩, ⟨14, true, [3], [0, 1, 2, 3, 4, 5, 6, 7, 8, 9, 12, 13]⟩, ⟨15, true, [4], [0, 1, 2, 3, 4, 5, 6, 7, 8, 9, 10, 11, 12, 13, 14]⟩]) .leaf)) := by
 intro R x y K
 kernel_rfl
theorem Znn : ConOK Tryz.prog 133 Z12v :=
 con_o (Zxw Z53 Z2q) (cons_ok ⟨.inl Zkm, .inl Zdj, trivial⟩) orcs_0
def Z7h (f : Z1q) : Con := { args := [.agg [.ints .u64 (some 5), .ints .u64 (some 5), .ints .u64 (some 5), .ints .u64 (some 5)], .agg [.ints .u64 (some 5), .ints .u64 (some 5), .ints .u64 (some 5), .ints .u64 (some 5)], .agg [.ints .u64 (some 5)]], blks := [], shapes := [⟨(List Int) × (List Int) × (List Int) × (List Int), fun r => (.c (.agg [.ints .u64 r.1 5, .ints .u64 r.2.1 5, .ints .u64 r.2.2.1 5, .ints .u64 r.2.2.2 5]), [], 0)⟩], F := fun R x y k => f R (x.1.1) (x.1.2.1) (x.1.2.2.1) (x.1.2.2.2.1) (x.2.1.1) (x.2.1.2.1) (x.2.1.2.2.1) (x.2.1.2.2.2.1) (x.2.2.1.1) (fun z0 z1 z2 z3 => k.1 (z0, z1, z2, z3)) }
def Z13x : Con := Z7h Z1f
theorem Zyq (g0 : Z7i) (g1 : Zt) (g2 : Z4) (g3 : Z31) (g4 : Z6w) : (Z7h (Zje g0 g1 g2 g3 g4)).Says Tryz.prog Tryz.f128 (conL [(133, Zc7 g0), (117, Z32 g1), (116, Z1b g2), (120, Z9g g3), (123, Zho g4)]) (pieceL 0 []) (.node .leaf (.node .leaf (.node .leaf (.node (.draw [⟨0, false, [5], []⟩, ⟨1, false, [4], []⟩, ⟨3, false, [9], []⟩, ⟨4, false, [8], []⟩, ⟨7, false, [], []⟩, ⟨2, true, [], [0, 1]⟩, ⟨5, true, [], [0, 1, 2, 3, 4]⟩, ⟨6, true, [], [0, 1, 2, 3, 4, 5]⟩, ⟨8, true, [12], [0, 1, 2, 3, 4, 5, 6, 7]⟩]) (.node (.draw [⟨0, false, [5], []⟩, ⟨1, false, [4], []⟩, ⟨3, false, [9], []⟩, ⟨4, false, [8], []⟩, ⟨7, false, [], []⟩, ⟨2, true, [], [0, 1]⟩, ⟨5, true, [], [0, 1, 2, 3, 4]⟩, ⟨6, true, [], [0, 1, 2, 3, 4, 5]⟩, ⟨8, true, [13], [0, 1, 2, 3, 4, 5, 6, 7]⟩]) (.node (.draw [⟨0, false, [7], []⟩, ⟨1, false, [2], []⟩, ⟨3, false, [11], []⟩, ⟨5, false, [], []⟩, ⟨2, true, [], [0, 1]⟩, ⟨4, true, [], [0, 1, 2, 3]⟩, ⟨6, true, [14], [0, 1, 2, 3, 4, 5]⟩]) (.node (.draw [⟨0, false, [6], []⟩, ⟨1, false, [6], []⟩, ⟨3, false, [10], []⟩, ⟨5, false, [], []⟩, ⟨2, true, [], [0, 1]⟩, ⟨4, true, [], [0, 1, 2, 3]⟩, ⟨6, true, [15], [0, 1, 2, 3, 4, 5]⟩]) (.node (.draw [⟨0, false, [13], []⟩, ⟨1, false, [12], []⟩, ⟨3, false, [15], []⟩, ⟨4, false, [14], []⟩, ⟨6, false, [15], []⟩, ⟨7, false, [14], []⟩, ⟨9, false, [13], []⟩, ⟨10, false, [12], []⟩, ⟨12, false, [], []⟩, ⟨13, false, [], []⟩, ⟨14, false, [], []⟩, ⟨15, false, [], []⟩, ⟨2, true, [], [0, 1]⟩, ⟨5, true, [], [0, 1, 2, 3, 4]⟩, ⟨8, true, [], [0, 1, 2, 3, 4, 5, 6, 7]⟩, ⟨11, true, [], [0, 1, 2, 3, 4, 5, 6, 7, 8, 9, 10]⟩, ⟨16, true, [16], [0, 1, 2, 3, 4, 5, 6, 7, 8, 9, 10, 11, 12, 13, 14, 15]⟩, ⟨17, true, [17], [0, 1, 2, 3, 4, 5, 6, 7, 8, 9, 10, 11, 12, 13, 14, 15, 16]⟩, ⟨18, true, [18], [0, 1, 2, 3, 4, 5, 6, 7, 8, 9, 10, 11, 12, 13, 14, 15, 16, 17]⟩, ⟨19, true, [19], [0, 1, 2, 3, 4, 5, 6, 7, 8, 9, 10, 11, 12, 13, 14, 15, 16, 17, 18]⟩]) (.node (.draw [⟨0, false, [16], []⟩, ⟨1, false, [17], []⟩, ⟨3, false, [18], []⟩, ⟨4, false, [19], []⟩, ⟨6, false, [17], []⟩, ⟨7, false, [18], []⟩, ⟨9, false, [16], []⟩, ⟨10, false, [19], []⟩, ⟨2, true, [], [0, 1]⟩, ⟨5, true, [], [0, 1, 2, 3, 4]⟩, ⟨8, true, [], [0, 1, 2, 3, 4, 5, 6, 7]⟩, ⟨11, true, [], [0, 1, 2, 3, 4, 5, 6, 7, 8, 9, 10]⟩, ⟨12, true, [], [0, 1, 2, 3, 4, 5, 6, 7, 8, 9, 10, 11]⟩, ⟨13, true, [3], [0, 1, 2, 3, 4, 5, 6, 7, 8, 9, 10, 11, 12]⟩]) .leaf))))))))) := by
 intro R x y K
 kernel_rfl
theorem Zbg : ConOK Tryz.prog 128 Z13x :=
 con_o (Zyq Z5g Zr Z2 Z2q Z5u) (cons_ok ⟨.inl Znn, .inl Z3f, .inl Z18, .inl Zdj, .inl Zp4, trivial⟩) orcs_0
theorem Zw8 (g0 : Z1e) (g1 : Zu) (g2 : Z4) (g3 : Z1q) : (Zbv g0 g1 g2 g3).Joins Tryz.prog 38 0 (conL [(119, Z6j g0), (127, Z3i g1), (116, Z1b g2), (128, Z7h g3)]) (pieceL 0 []) (fsub Tryz.f61 [1, 1, 1, 1, 0, 1, 0, 0, 1, 0]) .leaf [1, 2, 4, 6, 7, 8] [] := by
 intro R v next K
 kernel_rfl
theorem Zyi : OrcOK Tryz.prog 38 0 (fsub Tryz.f61 [1, 1, 1, 1, 0, 1, 0, 0, 1, 0]) (fun R => pieceG 0 (Zbv Z1c Zp Z2 Z1f) R) :=
 piece_j (Zw8 Z1c Zp Z2 Z1f) (cons_ok ⟨.inl Z8e, .inl Z3r, .inl Z18, .inl Zbg, trivial⟩) orcs_0
theorem Zvt (g0 : Z1e) (g1 : Zu) (g2 : Z4) (g3 : Z1q) : (Z99 g0 g1 g2 g3).Loops Tryz.prog 38 0 (conL [(119, Z6j g0), (127, Z3i g1), (116, Z1b g2), (128, Z7h g3)]) (pieceL 0 [(1, Zbv g0 g1 g2 g3)]) (fsub Tryz.f61 [1, 1, 1, 1, 0, 1, 0, 0]) (.node .leaf (.node (.orc 1 [1, 2, 4, 6, 7, 8] []) .leaf)) [1, 2, 4, 6, 7, 8] [] [4, 7] [] := by
 intro R v next K
 kernel_rfl
theorem Zzi : OrcOK Tryz.prog 38 0 (.loop (fsub Tryz.f61 [1, 1, 1, 1, 0, 1, 0, 0])) (fun R => pieceG 0 (Z99 Z1c Zp Z2 Z1f) R) :=
 piece_l (Zvt Z1c Zp Z2 Z1f) (cons_ok ⟨.inl Z8e, .inl Z3r, .inl Z18, .inl Zbg, trivial⟩) (orcs_1 [(1, [1, 0])] ⟨piece_a Zyi, trivial⟩)
def Zdk (f : Z85) : Con := { args := [.agg [.ints .u64 (some 5), .ints .u64 (some 5), .ints .u64 (some 5), .ints .u64 (some 5)], .sc (.s)], blks := [], shapes := [⟨(List Int) × (List Int) × (List Int) × (List Int) × Int, fun r => (.tup [.agg [.ints .u64 r.1 5, .ints .u64 r.2.1 5, .ints .u64 r.2.2.1 5, .ints .u64 r.2.2.2.1 5], .sc (.int .i64 r.2.2.2.2)], [], 0)⟩], F := fun R x y k => f R (x.1.1) (x.1.2.1) (x.1.2.2.1) (x.1.2.2.2.1) (x.2.1) (fun z0 z1 z2 z3 z4 => k.1 (z0, z1, z2, z3, z4)) }
def Z14g : Con := Zdk Z6c
theorem Zyf (g0 : Z1e) (g1 : Zu) (g2 : Z4) (g3 : Z1q) : (Zdk (Zjf g0 g1 g2 g3)).Says Tryz.prog Tryz.f61 (conL [(119, Z6j g0), (127, Z3i g1), (116, Z1b g2), (128, Z7h g3)]) (pieceL 0 [(0, Z99 g0 g1 g2 g3)]) (.node .leaf (.node .leaf (.node .leaf (.node .leaf (.node (.node .leaf (.node (.orc 0 [1, 2, 4, 6, 7, 8] []) .leaf)) .leaf))))) := by
 intro R x y K
 kernel_rfl
theorem Zon : ConOK Tryz.prog 61 Z14g :=
 con_o (Zyf Z1c Zp Z2 Z1f) (cons_ok ⟨.inl Z8e, .inl Z3r, .inl Z18, .inl Zbg, trivial⟩) (orcs_1 [(0, [1, 1, 1, 1, 0, 1, 0])] ⟨piece_a Zzi, trivial⟩)
def Ziy (f : Zf3) : Con := { args := [.agg [.ints .u64 (some 5), .ints .u64 (some 5), .ints .u64 (some 5), .ints .u64 (some 5)]], blks := [], shapes := [⟨(List Int) × (List Int) × (List Int) × (List Int), fun r => (.c (.agg [.ints .u64 r.1 5, .ints .u64 r.2.1 5, .ints .u64 r.2.2.1 5, .ints .u64 r.2.2.2 5]), [], 0)⟩], F := fun R x y k => f R (x.1.1) (x.1.2.1) (x.1.2.2.1) (x.1.2.2.2.1) (fun z0 z1 z2 z3 => k.1 (z0, z1, z2, z3)) }
def Z13m : Con := Ziy Zbd
theorem Zye (g0 : Zt) : (Ziy (Zj0 g0)).Says Tryz.prog Tryz.f64 (conL [(117, Z32 g0)]) (pieceL 0 []) (.node .leaf (.node .leaf (.node (.draw [⟨0, false, [2], []⟩, ⟨1, false, [0], []⟩, ⟨2, false, [0], [1]⟩, ⟨4, false, [0], []⟩, ⟨5, false, [0], [4]⟩, ⟨6, false, [0], []⟩, ⟨7, false, [0], [6]⟩, ⟨8, false, [2], []⟩, ⟨9, false, [0], []⟩, ⟨10, false, [0], [9]⟩, ⟨3, true, [], [0, 1, 2]⟩, ⟨11, true, [], [0, 1, 2, 3, 8, 9, 10]⟩, ⟨12, false, [], [0, 1, 2, 3, 4, 5, 6, 7, 8, 9, 10, 11]⟩, ⟨13, true, [1], [0, 1, 2, 3, 4, 5, 6, 7, 8, 9, 10, 11, 12]⟩]) .leaf))) := by
 intro R x y K
 kernel_rfl
theorem Z114 : ConOK Tryz.prog 64 Z13m :=
 con_o (Zye Zr) (cons_ok ⟨.inl Z3f, trivial⟩) orcs_0
def Zjd (f : Zfd) : Con := { args := [.agg [.ints .u64 (some 5), .ints .u64 (some 5), .ints .u64 (some 5), .ints .u64 (some 5)], .agg [.ints .u64 (some 5), .ints .u64 (some 5), .ints .u64 (some 5), .ints .u64 (some 5)]], blks := [], shapes := [⟨(List Int) × (List Int) × (List Int) × (List Int), fun r => (.c (.agg [.ints .u64 r.1 5, .ints .u64 r.2.1 5, .ints .u64 r.2.2.1 5, .ints .u64 r.2.2.2 5]), [], 0)⟩], F := fun R x y k => f R (x.1.1) (x.1.2.1) (x.1.2.2.1) (x.1.2.2.2.1) (x.2.1.1) (x.2.1.2.1) (x.2.1.2.2.1) (x.2.1.2.2.2.1) (fun z0 z1 z2 z3 => k.1 (z0, z1, z2, z3)) }
def Z14m : Con := Zjd Zax
theorem Zy6 (g0 : Z1e) (g1 : Zu) (g2 : Z4) (g3 : Z1q) : (Zjd (Zj1 g0 g1 g2 g3)).Says Tryz.prog Tryz.f63 (conL [(119, Z6j g0), (127, Z3i g1), (116, Z1b g2), (128, Z7h g3)]) (pieceL 0 []) (.node .leaf (.node (.draw [⟨0, false, [0], []⟩, ⟨1, false, [1], []⟩, ⟨2, true, [], []⟩, ⟨3, true, [], [2]⟩, ⟨4, true, [], [2, 3]⟩, ⟨5, true, [], [0, 1, 2, 3, 4]⟩, ⟨6, true, [2], [0, 1, 2, 3, 4, 5]⟩]) .leaf)) := by
 intro R x y K
 kernel_rfl
theorem Z11o : ConOK Tryz.prog 63 Z14m :=
 con_o (Zy6 Z1c Zp Z2 Z1f) (cons_ok ⟨.inl Z8e, .inl Z3r, .inl Z18, .inl Zbg, trivial⟩) orcs_0
def Zbh (f : Z6n) : Con := { args := [.agg [.ints .u64 (some 5), .ints .u64 (some 5), .ints .u64 (some 5), .ints .u64 (some 5)]], blks := [], shapes := [⟨Str, fun r => (.c (.sc (.str r)), [], 0)⟩], F := fun R x y k => f R (x.1.1) (x.1.2.1) (x.1.2.2.1) (x.1.2.2.2.1) (fun z0 => k.1 z0) }
def Z125 : Con := Zbh Z4m
theorem Zwb (g0 : Z7i) (g1 : Z25) (g2 : Z4) (g3 : Z2d) : (Zbh (Zgf g0 g1 g2 g3)).Says Tryz.prog Tryz.f65 (conL [(133, Zc7 g0), (121, Z7c g1), (116, Z1b g2), (115, Z7f g3)]) (pieceL 0 []) (.node .leaf (.node .leaf (.node .leaf (.node .leaf (.node (.draw [⟨0, false, [], []⟩, ⟨1, false, [6], [0]⟩, ⟨2, false, [6], [0, 1]⟩, ⟨3, false, [1], []⟩, ⟨4, false, [5], []⟩, ⟨5, true, [], [3, 4]⟩, ⟨6, true, [], [3, 4, 5]⟩, ⟨7, false, [], [3, 4, 5, 6]⟩, ⟨8, false, [], [3, 4, 5, 6, 7]⟩, ⟨9, false, [], [3, 4, 5, 6, 7, 8]⟩, ⟨10, false, [], [0, 1, 2, 3, 4, 5, 6, 7, 8, 9]⟩, ⟨11, false, [6], [0, 1, 2, 3, 4, 5, 6, 7, 8, 9, 10]⟩, ⟨12, true, [6], [0, 1, 2, 3, 4, 5, 6, 7, 8, 9, 10, 11]⟩]) .leaf))))) := by
 intro R x y K
 kernel_rfl
theorem Zlj : ConOK Tryz.prog 65 Z125 :=
 con_o (Zwb Z5g Z1y Z2 Z20) (cons_ok ⟨.inl Znn, .inl Z9q, .inl Z18, .inl Zbe, trivial⟩) orcs_0
end
end Go.Ev
