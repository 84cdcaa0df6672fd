/- Plain laws of the Cert functions' pure forms: times. -/
import Derived.Test.YtlomoioolngohaaGreatDoorCertT
import Derived.Test.YtlomoioolngohaaGreatDoorCertAr
set_option linter.unusedVariables false
set_option linter.unusedSimpArgs false
namespace Go.Ev

theorem f24_eq (k : Nat) (hk : k ≤ 18) (n : Int) (h0 : 0 ≤ n) (h1 : n.toNat < 10 ^ (k + 1)) (many : Int) (hm : many = k + 1) (R : Type) (K : Str → Option R) : f24 R n many K = K (dig (k + 1) n.toNat) := by
  obtain ⟨p1, p2⟩ := padded_dig k n.toNat h1
  have hi : Lib.itoa n = Lib.decDigits n.toNat := by unfold Lib.itoa; rw [if_neg (by omega)]
  show gd true (gd (repB [48] (mxI 0 (subI .i64 many (((Lib.itoa n).length : Nat) : Int)))) (gd (catB _ (Lib.itoa n)) (K (_ ++ Lib.itoa n)))) = _
  rw [hi]
  generalize hl : (Lib.decDigits n.toNat).length = l at *
  have e1 : subI .i64 many (l : Int) = many - l := subI_eq (by omega) (by omega)
  have e2 : mxI 0 (many - l) = many - l := by unfold mxI; split <;> omega
  rw [e1, e2]
  have e3 : (many - (l : Int)).toNat = k + 1 - l := by omega
  have e4 : repB [48] (many - l) = true := by
    unfold repB
    simp only [Bool.and_eq_true, decide_eq_true_eq, e3]
    refine ⟨by omega, ?_⟩
    simp only [List.length_singleton]
    omega
  rw [e4, e3]
  have e5 : catB (Lib.repeatL [48] (k + 1 - l)) (Lib.decDigits n.toNat) = true := by
    unfold catB
    rw [decide_eq_true_eq, Lib.repeatL_length, hl]
    simp only [List.length_singleton]
    omega
  show gd (catB _ _) (K _) = _
  rw [e5, p1]
  rfl

theorem br_true {R : Type} (x y : Option R) : br true x y = x := rfl
theorem br_false {R : Type} (x y : Option R) : br false x y = y := rfl
theorem gd_true {R : Type} (x : Option R) : gd true x = x := rfl
/-- A time's text. -/
def stamp (y m d s : Int) : Str :=
  dig 4 y.toNat ++ dig 2 m.toNat ++ dig 2 d.toNat ++ dig 2 (s / 3600).toNat ++ dig 2 (s / 60 % 60).toNat ++ dig 2 (s % 60).toNat ++ [90]
theorem catB_of {a b : Str} (h : a.length + b.length ≤ 9223372036854775807) : catB a b = true := by unfold catB; rw [decide_eq_true_eq]; exact h

theorem f23_eq (days : Int) (h0 : 0 ≤ days) (h1 : days ≤ 2932896) : ∃ y m d, IsDate days y m d ∧ ∀ (R : Type) (K : Int → Int → Int → Option R), f23 R days K = K y m d := by
  have hs := date_spec days h0
  have he := era_spec ((days + 719468) % 146097) (by omega) (by omega)
  have ht : addI .i64 days 719468 = days + 719468 := addI_eq (by omega) (by omega)
  simp only at hs he
  generalize hI : (days + 719468) % 146097 = i at hs he
  generalize hA : (days + 719468) / 146097 = age at hs
  have hi0 : 0 ≤ i := by omega
  have hi1 : i < 146097 := by omega
  have ha0 : 0 ≤ age := by omega
  have ha1 : age ≤ 30 := by omega
  generalize hY : (i - i / 1460 + i / 36524 - i / 146096) / 365 = y at hs he
  obtain ⟨hy0, hy1, hr0, hr1⟩ := he
  generalize hR : i - (365 * y + y / 4 - y / 100) = r at hs hr0 hr1
  have hr2 : r ≤ 365 := by rcases hr1 with h | ⟨h, _⟩ <;> omega
  generalize hM : (5 * r + 2) / 153 = m at hs
  generalize hD : r - (153 * m + 2) / 5 + 1 = d at hs
  obtain ⟨hm0, hm1, s1, s2⟩ := hs
  have v1 : quoI .i64 (addI .i64 days 719468) 146097 = age := by rw [ht, quoI_eq (by omega) (by omega) (by omega), hA]
  have v2 : remI (addI .i64 days 719468) 146097 = i := by rw [ht, remI_eq (by omega), hI]
  have v3 : quoI .i64 (subI .i64 (addI .i64 (subI .i64 i (quoI .i64 i 1460)) (quoI .i64 i 36524)) (quoI .i64 i 146096)) 365 = y := by
    have a1 : quoI .i64 i 1460 = i / 1460 := quoI_eq hi0 (by omega) (by omega)
    have a2 : quoI .i64 i 36524 = i / 36524 := quoI_eq hi0 (by omega) (by omega)
    have a3 : quoI .i64 i 146096 = i / 146096 := quoI_eq hi0 (by omega) (by omega)
    have a4 : subI .i64 i (i / 1460) = i - i / 1460 := subI_eq (by omega) (by omega)
    have a5 : addI .i64 (i - i / 1460) (i / 36524) = i - i / 1460 + i / 36524 := addI_eq (by omega) (by omega)
    have a6 : subI .i64 (i - i / 1460 + i / 36524) (i / 146096) = i - i / 1460 + i / 36524 - i / 146096 := subI_eq (by omega) (by omega)
    have a7 : quoI .i64 (i - i / 1460 + i / 36524 - i / 146096) 365 = y := by rw [quoI_eq (by omega) (by omega) (by omega), hY]
    rw [a1, a2, a3, a4, a5, a6, a7]
  have v4 : subI .i64 i (subI .i64 (addI .i64 (mulI .i64 365 y) (quoI .i64 y 4)) (quoI .i64 y 100)) = r := by
    have a1 : quoI .i64 y 4 = y / 4 := quoI_eq hy0 (by omega) (by omega)
    have a2 : quoI .i64 y 100 = y / 100 := quoI_eq hy0 (by omega) (by omega)
    have a3 : mulI .i64 365 y = 365 * y := mulI_eq (by omega) (by omega)
    have a4 : addI .i64 (365 * y) (y / 4) = 365 * y + y / 4 := addI_eq (by omega) (by omega)
    have a5 : subI .i64 (365 * y + y / 4) (y / 100) = 365 * y + y / 4 - y / 100 := subI_eq (by omega) (by omega)
    have a6 : subI .i64 i (365 * y + y / 4 - y / 100) = r := by rw [subI_eq (by omega) (by omega), hR]
    rw [a1, a2, a3, a4, a5, a6]
  have v5 : quoI .i64 (addI .i64 (mulI .i64 5 r) 2) 153 = m := by
    have a1 : mulI .i64 5 r = 5 * r := mulI_eq (by omega) (by omega)
    have a2 : addI .i64 (5 * r) 2 = 5 * r + 2 := addI_eq (by omega) (by omega)
    rw [a1, a2, quoI_eq (by omega) (by omega) (by omega), hM]
  have v6 : addI .i64 (subI .i64 r (quoI .i64 (addI .i64 (mulI .i64 153 m) 2) 5)) 1 = d := by
    have a1 : mulI .i64 153 m = 153 * m := mulI_eq (by omega) (by omega)
    have a2 : addI .i64 (153 * m) 2 = 153 * m + 2 := addI_eq (by omega) (by omega)
    have a3 : quoI .i64 (153 * m + 2) 5 = (153 * m + 2) / 5 := quoI_eq (by omega) (by omega) (by omega)
    have a4 : subI .i64 r ((153 * m + 2) / 5) = r - (153 * m + 2) / 5 := subI_eq (by omega) (by omega)
    have a5 : addI .i64 (r - (153 * m + 2) / 5) 1 = d := by rw [addI_eq (by omega) (by omega), hD]
    rw [a1, a2, a3, a4, a5]
  have v7 : addI .i64 y (mulI .i64 400 age) = y + 400 * age := by
    have a1 : mulI .i64 400 age = 400 * age := mulI_eq (by omega) (by omega)
    have a2 : addI .i64 y (400 * age) = y + 400 * age := addI_eq (by omega) (by omega)
    rw [a1, a2]
  have main : ∀ (R : Type) (K : Int → Int → Int → Option R), f23 R days K = br (leI 10 m) (K (addI .i64 (y + 400 * age) 1) (subI .i64 m 9) d) (K (y + 400 * age) (addI .i64 m 3) d) := by
    intro R K
    unfold f23 f23g
    simp only [v1, v2, v3, v4, v5, v6, v7]
  by_cases hm : 10 ≤ m
  · refine ⟨y + 400 * age + 1, m - 9, d, s1 hm, fun R K => ?_⟩
    rw [main, show leI 10 m = true by unfold leI; rw [decide_eq_true_eq]; exact hm, br_true, addI_eq (by omega) (by omega), subI_eq (by omega) (by omega)]
  · refine ⟨y + 400 * age, m + 3, d, s2 (by omega), fun R K => ?_⟩
    rw [main, show leI 10 m = false by unfold leI; rw [decide_eq_false_iff_not]; exact hm, br_false, addI_eq (by omega) (by omega)]
theorem f10_bad (n : Int) (h : n < 0 ∨ 253402300799 < n) (R : Type) (K : Str → Int → Option R) : f10 R n K = K [] 1 := by
  unfold f10 f10g
  rcases h with h | h
  · rw [show ltI n 0 = true by unfold ltI; rw [decide_eq_true_eq]; exact h]; rfl
  · rw [show ltI n 0 = false by unfold ltI; rw [decide_eq_false_iff_not]; omega, show ltI 253402300799 n = true by unfold ltI; rw [decide_eq_true_eq]; exact h]; rfl
theorem f10_eq (n : Int) (h0 : 0 ≤ n) (h1 : n ≤ 253402300799) : ∃ y m d, IsDate (n / 86400) y m d ∧ ∀ (R : Type) (K : Str → Int → Option R), f10 R n K = K (stamp y m d (n % 86400)) 0 := by
  obtain ⟨y, m, d, hd, he⟩ := f23_eq (n / 86400) (by omega) (by omega)
  refine ⟨y, m, d, hd, fun R K => ?_⟩
  have hy := hd.year (by omega) (by omega)
  have := hd.m1; have := hd.m2; have := hd.d1; have := hd.day
  unfold f10 f10g
  dsimp only
  rw [show ltI n 0 = false by unfold ltI; rw [decide_eq_false_iff_not]; omega, show ltI 253402300799 n = false by unfold ltI; rw [decide_eq_false_iff_not]; omega, br_false, br_false]
  rw [quoI_eq h0 (by omega) (by omega), remI_eq h0]
  generalize hs : n % 86400 = s
  have hs0 : 0 ≤ s := by omega
  have hs1 : s < 86400 := by omega
  rw [he, quoI_eq hs0 (by omega) (by omega), quoI_eq hs0 (by omega) (by omega), remI_eq (a := s) hs0, remI_eq (a := s / 60) (by omega)]
  rw [f24_eq 3 (by omega) y (by omega) (by omega) 4 (by rfl), f24_eq 1 (by omega) m (by omega) (by omega) 2 (by rfl)]
  rw [catB_of (by simp [dig_length])]
  show f24 R d 2 _ = _
  rw [f24_eq 1 (by omega) d (by omega) (by omega) 2 (by rfl), catB_of (by simp [dig_length])]
  show f24 R (s / 3600) 2 _ = _
  rw [f24_eq 1 (by omega) (s / 3600) (by omega) (by omega) 2 (by rfl), catB_of (by simp [dig_length])]
  show f24 R (s / 60 % 60) 2 _ = _
  rw [f24_eq 1 (by omega) (s / 60 % 60) (by omega) (by omega) 2 (by rfl), catB_of (by simp [dig_length])]
  show f24 R (s % 60) 2 _ = _
  rw [f24_eq 1 (by omega) (s % 60) (by omega) (by omega) 2 (by rfl), catB_of (by simp [dig_length])]
  rw [gd_true, catB_of (by simp [dig_length])]
  rfl

/-! ### The document's reckoning -/
theorem f26_eq (y : Int) (h : 0 ≤ y) (R : Type) (K : Bool → Option R) : f26 R y K = K (decide (leapP y)) := by
  unfold f26 f26g
  rw [remI_eq h, remI_eq h, remI_eq h]
  have e1 : eqI (y % 4) 0 = decide (y % 4 = 0) := rfl
  have e2 : eqI (y % 100) 0 = decide (y % 100 = 0) := rfl
  have e3 : eqI (y % 400) 0 = decide (y % 400 = 0) := rfl
  rw [e1, e2, e3]
  by_cases h1 : y % 4 = 0 <;> by_cases h2 : y % 100 = 0 <;> by_cases h3 : y % 400 = 0 <;> simp [h1, h2, h3, br, leapP]
/-- How many days a month has. -/
def mlen (y m : Int) : Int := monthAt y (m + 1) - monthAt y m
theorem f27_eq (y m : Int) (h : 0 ≤ y) (h1 : 1 ≤ m) (h2 : m ≤ 12) (R : Type) (K : Int → Option R) : f27 R y m K = K (mlen y m) := by
  have hm : m = 1 ∨ m = 2 ∨ m = 3 ∨ m = 4 ∨ m = 5 ∨ m = 6 ∨ m = 7 ∨ m = 8 ∨ m = 9 ∨ m = 10 ∨ m = 11 ∨ m = 12 := by omega
  have rest : ∀ v : Int, eqI m 2 = false → gd (inB (subI .i64 m 1) 12) (K ([31, 28, 31, 30, 31, 30, 31, 31, 30, 31, 30, 31].getD ((subI .i64 m 1).toNat) 0)) = K v → f27 R y m K = K v := by
    intro v e1 e2
    unfold f27 f27g
    rw [e1, br_false]
    exact e2
  rcases hm with rfl | rfl | rfl | rfl | rfl | rfl | rfl | rfl | rfl | rfl | rfl | rfl
  case inr.inl =>
    unfold f27 f27g
    rw [show eqI 2 2 = true from rfl, br_true, f26_eq y h]
    by_cases hl : leapP y
    · simp only [hl, decide_true]
      have : mlen y 2 = 29 := by unfold mlen monthAt cum; simp [hl]
      rw [this]; rfl
    · simp only [hl, decide_false]
      have : mlen y 2 = 28 := by unfold mlen monthAt cum; simp [hl]
      rw [this]; rfl
  all_goals
    refine rest _ rfl ?_
    have e : ∀ (a b : Int), a = b → K a = K b := fun a b e => by rw [e]
    refine e _ _ ?_
    unfold mlen monthAt cum
    by_cases hl : leapP y <;> simp [hl] <;> decide
/-- The years pass. -/
theorem years_loop {R : Type} (s : Int) (Y : Int) (kx : PKsT R f11p0E) : ∀ (n : Nat) (day y : Int), 1 ≤ y → y ≤ Y → Y ≤ 9999 → dayOf Y ≤ day + dayOf y → day + dayOf y < dayOf Y + ylen Y → 0 ≤ day → day ≤ 2932896 → (Y - y).toNat < n →
    runP f11p0T f11p0E (f11p0 f25 f26 f27 f28).step R n ((day, s, y, ()), ()) kx = kx.1 (day + dayOf y - dayOf Y, s, Y)
  | 0, day, y, _, _, _, _, _, _, _, h => by omega
  | n + 1, day, y, hy, hyY, hY, h1, h2, h3, h4, h => by
    have hs : runP f11p0T f11p0E (f11p0 f25 f26 f27 f28).step R (n + 1) ((day, s, y, ()), ()) kx =
        f26 R y (fun r6 => f11l1 f25 f26 f27 f28 R day s y 365 r6 fun y12 y13 y14 y15 => br (ltI y12 y15) (kx.1 (y12, y13, y14)) (runP f11p0T f11p0E (f11p0 f25 f26 f27 f28).step R n ((subI .i64 y12 y15, y13, addI .i64 y14 1, ()), ()) kx)) := rfl
    rw [hs, f26_eq y (by omega)]
    have hj : ∀ (b : Bool) (K : Int → Int → Int → Int → Option R), f11l1 f25 f26 f27 f28 R day s y 365 b K = K day s y (if b then 366 else 365) := by
      intro b K
      cases b <;> rfl
    rw [hj]
    have hyl : (if decide (leapP y) then (366 : Int) else 365) = ylen y := by unfold ylen; by_cases hl : leapP y <;> simp [hl]
    rw [hyl]
    have hb := ylen_bounds y
    by_cases hlt : day < ylen y
    · have : ltI day (ylen y) = true := by unfold ltI; rw [decide_eq_true_eq]; exact hlt
      rw [this, br_true]
      have hyy : y = Y := by
        rcases Int.lt_or_le y Y with hc | hc
        · have := dayOf_next y hy
          have := dayOf_mono (y := y + 1) (z := Y) (by omega) (by omega)
          omega
        · omega
      subst hyy
      rw [show day + dayOf y - dayOf y = day by omega]
    · have : ltI day (ylen y) = false := by unfold ltI; rw [decide_eq_false_iff_not]; exact hlt
      rw [this, br_false]
      have e1 : subI .i64 day (ylen y) = day - ylen y := subI_eq (by omega) (by omega)
      have e2 : addI .i64 y 1 = y + 1 := addI_eq (by omega) (by omega)
      have hne : y ≠ Y := by
        rintro rfl
        omega
      have hn := dayOf_next y hy
      rw [e1, e2, years_loop s Y kx n (day - ylen y) (y + 1) (by omega) (by omega) hY (by omega) (by omega) (by omega) (by omega) (by omega)]
      rw [show day - ylen y + dayOf (y + 1) - dayOf Y = day + dayOf y - dayOf Y by omega]
/-- The months pass. -/
theorem months_loop {R : Type} (s y : Int) (hy : 0 ≤ y) (M : Int) (hM : M ≤ 12) (kx : PKsT R f11p2E) : ∀ (n : Nat) (day m : Int), 1 ≤ m → m ≤ M → monthAt y M ≤ day + monthAt y m → day + monthAt y m < monthAt y (M + 1) → 0 ≤ day → day ≤ 366 → (M - m).toNat < n →
    runP f11p2T f11p2E (f11p2 f25 f26 f27 f28).step R n ((day, s, y, m, ()), ()) kx = kx.1 (day + monthAt y m - monthAt y M, s, y, M)
  | 0, day, m, _, _, _, _, _, _, h => by omega
  | n + 1, day, m, h1, h2, h3, h4, h5, h6, h => by
    have hs : runP f11p2T f11p2E (f11p2 f25 f26 f27 f28).step R (n + 1) ((day, s, y, m, ()), ()) kx =
        f27 R y m (fun r23 => br (leI r23 day) (f27 R y m fun r24 => runP f11p2T f11p2E (f11p2 f25 f26 f27 f28).step R n ((subI .i64 day r24, s, y, addI .i64 m 1, ()), ()) kx) (kx.1 (day, s, y, m))) := rfl
    rw [hs, f27_eq y m hy h1 (by omega)]
    have hb := monthAt_step y m h1 (by omega)
    have hml : mlen y m = monthAt y (m + 1) - monthAt y m := rfl
    have hend := monthAt_le (y := y) (m := m + 1) (n := 13) (by omega) (by omega) (by omega)
    have hpos := monthAt_pos (y := y) (m := m) h1 (by omega)
    have he := monthAt_end y
    have hyb := ylen_bounds y
    by_cases hlt : mlen y m ≤ day
    · have : leI (mlen y m) day = true := by unfold leI; rw [decide_eq_true_eq]; exact hlt
      rw [this, br_true, f27_eq y m hy h1 (by omega)]
      have e1 : subI .i64 day (mlen y m) = day - mlen y m := subI_eq (by omega) (by omega)
      have e2 : addI .i64 m 1 = m + 1 := addI_eq (by omega) (by omega)
      have hne : m ≠ M := by
        rintro rfl
        omega
      rw [e1, e2, months_loop s y hy M hM kx n (day - mlen y m) (m + 1) (by omega) (by omega) (by omega) (by omega) (by omega) (by omega) (by omega)]
      rw [show day - mlen y m + monthAt y (m + 1) - monthAt y M = day + monthAt y m - monthAt y M by omega]
    · have : leI (mlen y m) day = false := by unfold leI; rw [decide_eq_false_iff_not]; exact hlt
      rw [this, br_false]
      have hyy : m = M := by
        rcases Int.lt_or_le m M with hc | hc
        · have := monthAt_le (y := y) (m := m + 1) (n := M) (by omega) (by omega) (by omega)
          omega
        · omega
      subst hyy
      rw [show day + monthAt y m - monthAt y m = day by omega]
/-- The document's digits. -/
theorem digits_loop {R : Type} (many : Nat) (hm : many ≤ 18) (kx : PKsT R f28p0E) : ∀ (j : Nat) (n : Int) (out : Str) (fuel : Nat), 0 ≤ n → n ≤ 9223372036854775807 → j ≤ many → out.length + j ≤ 18 → j < fuel →
    runP f28p0T f28p0E (f28p0).step R fuel ((n, (many : Int), out, ((many - j : Nat) : Int), ()), ()) kx = kx.1 (dig j n.toNat ++ out)
  | 0, n, out, fuel, h0, h1, hj, ho, hf => by
    obtain ⟨f, rfl⟩ : ∃ f, fuel = f + 1 := ⟨fuel - 1, by omega⟩
    show br (ltI ((many - 0 : Nat) : Int) (many : Int)) _ (kx.1 out) = kx.1 out
    rw [show ltI ((many - 0 : Nat) : Int) (many : Int) = false by unfold ltI; rw [decide_eq_false_iff_not]; omega, br_false]
  | j + 1, n, out, fuel, h0, h1, hj, ho, hf => by
    obtain ⟨f, rfl⟩ : ∃ f, fuel = f + 1 := ⟨fuel - 1, by omega⟩
    show br (ltI ((many - (j + 1) : Nat) : Int) (many : Int)) (gd (catB [UInt8.ofNat ((cvtI .u8 (addI .i64 48 (remI n 10))).toNat)] out)
      (runP f28p0T f28p0E (f28p0).step R f ((quoI .i64 n 10, (many : Int), [UInt8.ofNat ((cvtI .u8 (addI .i64 48 (remI n 10))).toNat)] ++ out, addI .i64 ((many - (j + 1) : Nat) : Int) 1, ()), ()) kx)) _ = _
    rw [show ltI ((many - (j + 1) : Nat) : Int) (many : Int) = true by unfold ltI; rw [decide_eq_true_eq]; omega, br_true, catB_of (by simp; omega), gd_true]
    rw [quoI_eq h0 h1 (by omega), remI_eq h0, addI_eq (a := ((many - (j + 1) : Nat) : Int)) (b := 1) (by omega) (by omega), addI_eq (a := 48) (b := n % 10) (by omega) (by omega)]
    have e1 : ((many - (j + 1) : Nat) : Int) + 1 = ((many - j : Nat) : Int) := by omega
    have e2 : cvtI .u8 (48 + n % 10) = 48 + n % 10 := by
      unfold cvtI IntKind.wrap
      simp [IntKind.signed, IntKind.bits]
      omega
    have e3 : (48 + n % 10).toNat = 48 + n.toNat % 10 := by omega
    have e4 : (n / 10).toNat = n.toNat / 10 := by omega
    rw [e1, e2, e3, digits_loop many hm kx j (n / 10) _ f (by omega) (by omega) (by omega) (by simp; omega) (by omega), e4, dig, List.append_assoc]

theorem f28_eq (k : Nat) (hk : k ≤ 18) (n : Int) (h0 : 0 ≤ n) (h1 : n ≤ 9223372036854775807) (many : Int) (hm : many = k) (R : Type) (K : Str → Option R) : f28 R n many K = K (dig k n.toNat) := by
  subst hm
  show runP f28p0T f28p0E (f28p0).step R (f28p0fuel n k [] 0) ((n, (k : Int), [], 0, ()), ()) (fun r => K r, ()) = _
  have := digits_loop (R := R) k hk (fun r => K r, ()) k n [] (f28p0fuel n k [] 0) h0 h1 (Nat.le_refl _) (by simpa using hk) (by unfold f28p0fuel; simp; omega)
  rw [Nat.sub_self] at this
  rw [show ((0 : Nat) : Int) = 0 from rfl] at this
  rw [this, List.append_nil]
theorem f25_eq (n : Int) (R : Type) (K : Bool → Option R) : f25 R n K = K (decide (0 ≤ n ∧ n ≤ 253402300799)) := by
  unfold f25 f25g
  have e1 : leI 0 n = decide (0 ≤ n) := rfl
  have e2 : leI n 253402300799 = decide (n ≤ 253402300799) := rfl
  rw [e1, e2]
  by_cases h1 : 0 ≤ n <;> by_cases h2 : n ≤ 253402300799 <;> simp [h1, h2, br]
theorem f11_bad (n : Int) (h : n < 0 ∨ 253402300799 < n) (R : Type) (K : Str → Int → Option R) : f11 R n K = K [] 1 := by
  unfold f11 f11g
  rw [f25_eq, show decide (0 ≤ n ∧ n ≤ 253402300799) = false by rw [decide_eq_false_iff_not]; omega]
  rfl
theorem f11l0_eq {days s y : Int} (h0 : 0 ≤ days) (h1 : days ≤ 2932896) (hy0 : 1970 ≤ y) (hy1 : y ≤ 9999) (hlo : dayOf y ≤ days) (hhi : days < dayOf y + ylen y) (R : Type) (K : Int → Int → Int → Option R) :
    f11l0 f25 f26 f27 f28 R days s 1970 K = K (days - dayOf y) s y := by
  have e1970 : dayOf 1970 = 0 := by decide
  have := years_loop (R := R) s y (fun r => K r.1 r.2.1 r.2.2, ()) (f11p0fuel days s 1970) days 1970 (by omega) (by omega) (by omega) (by omega) (by omega) (by omega) (by omega) (by
      unfold f11p0fuel
      have : dayOf 1970 + (y - 1970) ≤ dayOf y := by unfold dayOf; omega
      omega)
  rw [e1970, Int.add_zero] at this
  exact this
theorem f11l2_eq {day s y m : Int} (hy : 0 ≤ y) (m1 : 1 ≤ m) (m2 : m ≤ 12) (h0 : 0 ≤ day) (h1 : day ≤ 366) (hlo : monthAt y m ≤ day) (hhi : day < monthAt y (m + 1)) (R : Type) (K : Int → Int → Int → Int → Option R) :
    f11l2 f25 f26 f27 f28 R day s y 1 K = K (day - monthAt y m) s y m := by
  have e : monthAt y 1 = 0 := by unfold monthAt cum; simp
  have hms : 28 * (m - 1) ≤ monthAt y m := by
    have hm : m = 1 ∨ m = 2 ∨ m = 3 ∨ m = 4 ∨ m = 5 ∨ m = 6 ∨ m = 7 ∨ m = 8 ∨ m = 9 ∨ m = 10 ∨ m = 11 ∨ m = 12 := by omega
    unfold monthAt cum
    rcases hm with rfl | rfl | rfl | rfl | rfl | rfl | rfl | rfl | rfl | rfl | rfl | rfl <;> by_cases h : leapP y <;> simp [h]
  have := months_loop (R := R) s y hy m m2 (fun r => K r.1 r.2.1 r.2.2.1 r.2.2.2, ()) (f11p2fuel day s y 1) day 1 (by omega) m1 (by omega) (by omega) h0 h1 (by unfold f11p2fuel; omega)
  rw [e, Int.add_zero] at this
  exact this
noncomputable def tail11 (R : Type) (K : Str → Int → Option R) (y25 y26 y27 y28 : Int) : Option R :=
  f28 R y27 4 fun r29 => f28 R y28 2 fun r30 => gd (catB r29 r30) <| f28 R (addI .i64 y25 1) 2 fun r31 => gd (catB (r29 ++ r30) r31) <|
      f28 R (quoI .i64 y26 3600) 2 fun r32 => gd (catB ((r29 ++ r30) ++ r31) r32) <| f28 R (remI (quoI .i64 y26 60) 60) 2 fun r35 =>
      gd (catB (((r29 ++ r30) ++ r31) ++ r32) r35) <| f28 R (remI y26 60) 2 fun r36 => gd (catB ((((r29 ++ r30) ++ r31) ++ r32) ++ r35) r36) <|
      gd (catB (((((r29 ++ r30) ++ r31) ++ r32) ++ r35) ++ r36) [90]) <| K ((((((r29 ++ r30) ++ r31) ++ r32) ++ r35) ++ r36) ++ [90]) 0
theorem tail11_eq {y m d s : Int} (hy0 : 1970 ≤ y) (hy1 : y ≤ 9999) (m1 : 1 ≤ m) (m2 : m ≤ 12) (d1 : 1 ≤ d) (d31 : d ≤ 31) (hs0 : 0 ≤ s) (hs1 : s < 86400) (R : Type) (K : Str → Int → Option R) : tail11 R K (d - 1) s y m = K (stamp y m d s) 0 := by
  unfold tail11
  have e1 : addI .i64 (d - 1) 1 = d := by rw [addI_eq (by omega) (by omega)]; omega
  have e2 : quoI .i64 s 3600 = s / 3600 := quoI_eq hs0 (by omega) (by omega)
  have e3 : quoI .i64 s 60 = s / 60 := quoI_eq hs0 (by omega) (by omega)
  have e4 : remI (s / 60) 60 = s / 60 % 60 := remI_eq (by omega)
  have e5 : remI s 60 = s % 60 := remI_eq hs0
  rw [e1, e2, e3, e4, e5]
  rw [f28_eq 4 (by omega) y (by omega) (by omega) 4 rfl, f28_eq 2 (by omega) m (by omega) (by omega) 2 rfl, catB_of (by simp [dig_length]), gd_true]
  rw [f28_eq 2 (by omega) d (by omega) (by omega) 2 rfl, catB_of (by simp [dig_length]), gd_true]
  rw [f28_eq 2 (by omega) (s / 3600) (by omega) (by omega) 2 rfl, catB_of (by simp [dig_length]), gd_true]
  rw [f28_eq 2 (by omega) (s / 60 % 60) (by omega) (by omega) 2 rfl, catB_of (by simp [dig_length]), gd_true]
  rw [f28_eq 2 (by omega) (s % 60) (by omega) (by omega) 2 rfl, catB_of (by simp [dig_length]), gd_true, catB_of (by simp [dig_length]), gd_true]
  rfl
theorem f11_eq (n : Int) (h0 : 0 ≤ n) (h1 : n ≤ 253402300799) {y m d : Int} (hd : IsDate (n / 86400) y m d) (R : Type) (K : Str → Int → Option R) : f11 R n K = K (stamp y m d (n % 86400)) 0 := by
  have hy := hd.year (by omega) (by omega)
  have hlo := hd.lo
  have hhi := hd.hi
  have m1 := hd.m1; have m2 := hd.m2; have d1 := hd.d1; have d31 := hd.day
  have hq := hd.eq
  have hd2 := hd.d2
  have e : f11 R n K = f25 R n fun r2 => br (!r2) (K [] 1) (f11l0 f25 f26 f27 f28 R (quoI .i64 n 86400) (remI n 86400) 1970 fun y16 y17 y18 => f11l2 f25 f26 f27 f28 R y16 y17 y18 1 (tail11 R K)) := rfl
  rw [e, f25_eq, show decide (0 ≤ n ∧ n ≤ 253402300799) = true by rw [decide_eq_true_eq]; omega]
  rw [show (!true) = false from rfl, br_false, quoI_eq h0 (by omega) (by omega), remI_eq h0]
  rw [f11l0_eq (by omega) (by omega) hy.1 hy.2 hlo hhi]
  have hyb := ylen_bounds y
  have hpos := monthAt_pos (y := y) (m := m) m1 (by omega)
  rw [f11l2_eq (by omega) m1 m2 (by omega) (by omega) (by omega) (by omega)]
  rw [show n / 86400 - dayOf y - monthAt y m = d - 1 by omega]
  exact tail11_eq hy.1 hy.2 m1 m2 d1 d31 (by omega) (by omega) R K

/-! ### The laws -/
/-- A time's number, as its text has it. -/
def code (y m d s : Int) : Nat := (((((y.toNat * 100 + m.toNat) * 100 + d.toNat) * 100 + (s / 3600).toNat) * 100 + (s / 60 % 60).toNat) * 100 + (s % 60).toNat)
theorem stamp_code {y m d s : Int} (m2 : m ≤ 12) (d31 : d ≤ 31) (hs0 : 0 ≤ s) (hs1 : s < 86400) : stamp y m d s = dig 14 (code y m d s) ++ [90] := by
  unfold stamp code
  have c := fun (a x z : Nat) (h : z < 100) => dig_cat 2 a x z (by simpa using h)
  simp only [show (10 : Nat) ^ 2 = 100 from rfl] at c
  rw [c 12 _ _ (by omega), c 10 _ _ (by omega), c 8 _ _ (by omega), c 6 _ _ (by omega), c 4 _ _ (by omega)]
theorem code_lt {y m d s : Int} (hy : y ≤ 9999) (m2 : m ≤ 12) (d31 : d ≤ 31) (hs0 : 0 ≤ s) (hs1 : s < 86400) : code y m d s < 10 ^ 14 := by
  unfold code; omega
theorem f10_at (n : Int) (h0 : 0 ≤ n) (h1 : n ≤ 253402300799) {y m d : Int} (hd : IsDate (n / 86400) y m d) (hy : 1 ≤ y) (R : Type) (K : Str → Int → Option R) : f10 R n K = K (stamp y m d (n % 86400)) 0 := by
  obtain ⟨y', m', d', hd', he⟩ := f10_eq n h0 h1
  have hy' := hd'.year (by omega) (by omega)
  obtain ⟨rfl, rfl, rfl⟩ := hd.uniq hd' hy (by omega)
  exact he R K
theorem f13_eq (R : Type) (K : Unit → Option R) : f13 R K = K () := rfl
theorem f12_eq (R : Type) (K : Bool → Option R) : f12 R K = K true := by
  unfold f12 f12g
  have d1 : IsDate (0 / 86400) 1970 1 1 := by
    refine ⟨by decide, by decide, by decide, by decide, by decide⟩
  have d2 : IsDate (951782400 / 86400) 2000 2 29 := by
    refine ⟨by decide, by decide, by decide, by decide, by decide⟩
  rw [f10_at 0 (by decide) (by decide) d1 (by decide), f10_at 951782400 (by decide) (by decide) d2 (by decide), f13_eq]
  rw [show stamp 1970 1 1 (0 % 86400) = [49, 57, 55, 48, 48, 49, 48, 49, 48, 48, 48, 48, 48, 48, 90] by decide, show stamp 2000 2 29 (951782400 % 86400) = [50, 48, 48, 48, 48, 50, 50, 57, 48, 48, 48, 48, 48, 48, 90] by decide]
  rfl
theorem eqS_self (a : Str) : eqS a a = true := by unfold eqS; rw [decide_eq_true_eq]
theorem f3_eq (n : Int) (R : Type) (K : Bool → Option R) : f3 R n K = K true := by
  unfold f3 f3g
  by_cases h : 0 ≤ n ∧ n ≤ 253402300799
  · obtain ⟨y, m, d, hd, he⟩ := f10_eq n h.1 h.2
    rw [he, f11_eq n h.1 h.2 hd, eqS_self, br_true, f12_eq]
    rfl
  · rw [f10_bad n (by omega), f11_bad n (by omega), eqS_self, br_true, f12_eq]
    rfl
theorem less_self : ∀ (s : Str), Op.bytesLess s s = false
  | [] => rfl
  | a :: s => by
    show (decide (a < a) || (a == a) && Op.bytesLess s s) = false
    rw [less_self s]
    simp
theorem f4_eq (a b : Int) (R : Type) (K : Bool → Option R) : f4 R a b K = K true := by
  unfold f4 f4g
  dsimp only
  by_cases ha : 0 ≤ a ∧ a ≤ 253402300799
  · obtain ⟨y, m, d, hd, he⟩ := f10_eq a ha.1 ha.2
    by_cases hb : 0 ≤ b ∧ b ≤ 253402300799
    · obtain ⟨y', m', d', hd', he'⟩ := f10_eq b hb.1 hb.2
      rw [he, he']
      have hy := hd.year (by omega) (by omega)
      have hy' := hd'.year (by omega) (by omega)
      have s1 := stamp_code (y := y) (m := m) (d := d) (s := a % 86400) hd.m2 hd.day (by omega) (by omega)
      have s2 := stamp_code (y := y') (m := m') (d := d') (s := b % 86400) hd'.m2 hd'.day (by omega) (by omega)
      have l1 := code_lt (y := y) (m := m) (d := d) (s := a % 86400) hy.2 hd.m2 hd.day (by omega) (by omega)
      have l2 := code_lt (y := y') (m := m') (d := d') (s := b % 86400) hy'.2 hd'.m2 hd'.day (by omega) (by omega)
      have rise : ∀ {a b y m d y' m' d' : Int}, 0 ≤ a → a ≤ 253402300799 → 0 ≤ b → b ≤ 253402300799 → IsDate (a / 86400) y m d → IsDate (b / 86400) y' m' d' → a < b → code y m d (a % 86400) < code y' m' d' (b % 86400) := by
        intro a b y m d y' m' d' a0 a1 b0 b1 hd hd' hlt
        have hy := hd.year (by omega) (by omega)
        have hy' := hd'.year (by omega) (by omega)
        have := hd.m1; have := hd.d1; have := hd'.m1; have := hd'.d1
        by_cases hq : a / 86400 = b / 86400
        · rw [hq] at hd
          obtain ⟨rfl, rfl, rfl⟩ := hd.uniq hd' (by omega) (by omega)
          have : a % 86400 < b % 86400 := by omega
          have : 0 ≤ a % 86400 := by omega
          have : b % 86400 < 86400 := by omega
          generalize a % 86400 = s at *
          generalize b % 86400 = t at *
          have e1 : s / 3600 = s / 60 / 60 := by omega
          have e2 : t / 3600 = t / 60 / 60 := by omega
          unfold code
          rw [e1, e2]
          omega
        · have := hd.rise hd' (by omega) (by omega) (by omega)
          have : 0 ≤ a % 86400 := by omega
          have : a % 86400 < 86400 := by omega
          have : 0 ≤ b % 86400 := by omega
          have : b % 86400 < 86400 := by omega
          generalize a % 86400 = s at *
          generalize b % 86400 = t at *
          unfold code
          omega
      have less : ltS (stamp y m d (a % 86400)) (stamp y' m' d' (b % 86400)) = decide (code y m d (a % 86400) < code y' m' d' (b % 86400)) := by
        unfold ltS
        rw [s1, s2, less_dig 14 _ _ l1 l2, less_self]
        simp
      have same : eqS (stamp y m d (a % 86400)) (stamp y' m' d' (b % 86400)) = decide (code y m d (a % 86400) = code y' m' d' (b % 86400)) := by
        unfold eqS
        refine decide_eq_decide.2 ⟨fun h => ?_, fun h => by rw [s1, s2, h]⟩
        rw [s1, s2] at h
        exact dig_inj 14 _ _ l1 l2 (List.append_inj_left' h rfl)
      have e1 : (ltI a b == ltS (stamp y m d (a % 86400)) (stamp y' m' d' (b % 86400))) = true := by
        rw [less, beq_iff_eq]
        unfold ltI
        refine decide_eq_decide.2 ⟨rise ha.1 ha.2 hb.1 hb.2 hd hd', fun h => ?_⟩
        rcases Int.lt_or_le b a with hc | hc
        · have := rise hb.1 hb.2 ha.1 ha.2 hd' hd hc
          omega
        · by_cases hab : a = b
          · subst hab
            obtain ⟨rfl, rfl, rfl⟩ := hd.uniq hd' (by omega) (by omega)
            omega
          · omega
      have e2 : (eqI a b == eqS (stamp y m d (a % 86400)) (stamp y' m' d' (b % 86400))) = true := by
        rw [same, beq_iff_eq]
        unfold eqI
        refine decide_eq_decide.2 ⟨fun h => ?_, fun h => ?_⟩
        · subst h
          obtain ⟨rfl, rfl, rfl⟩ := hd.uniq hd' (by omega) (by omega)
          rfl
        · rcases Int.lt_or_le a b with hc | hc
          · have := rise ha.1 ha.2 hb.1 hb.2 hd hd' hc
            omega
          · rcases Int.lt_or_le b a with hc2 | hc2
            · have := rise hb.1 hb.2 ha.1 ha.2 hd' hd hc2
              omega
            · omega
      have len1 : eqI (((stamp y m d (a % 86400)).length : Nat) : Int) 15 = true := by rw [s1, List.length_append, dig_length]; rfl
      have len2 : eqI (((stamp y' m' d' (b % 86400)).length : Nat) : Int) 15 = true := by rw [s2, List.length_append, dig_length]; rfl
      rw [e1, e2, len1, len2, f12_eq]
      rfl
    · rw [he, f10_bad b (by omega), f12_eq]
      rfl
  · by_cases hb : 0 ≤ b ∧ b ≤ 253402300799
    · obtain ⟨y', m', d', hd', he'⟩ := f10_eq b hb.1 hb.2
      rw [f10_bad a (by omega), he', f12_eq]
      rfl
    · rw [f10_bad a (by omega), f10_bad b (by omega), f12_eq]
      rfl
end Go.Ev
