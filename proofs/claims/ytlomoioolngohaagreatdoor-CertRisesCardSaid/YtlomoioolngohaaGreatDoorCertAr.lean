/- Plain laws: days and dates, digits. No program in sight. -/
import Derived.Test.YtlomoioolngohaaGreatDoorEv1
import Derived.Lib.ItoaNum
import Derived.Lib.Repeat
set_option linter.unusedVariables false
set_option linter.unusedSimpArgs false
namespace Go.Ev

theorem wrap_i64 {a : Int} (h0 : -9223372036854775808 ≤ a) (h1 : a ≤ 9223372036854775807) : IntKind.wrap .i64 a = a := by
  unfold IntKind.wrap
  simp [IntKind.signed, IntKind.bits]
  omega
theorem addI_eq {a b : Int} (h0 : -9223372036854775808 ≤ a + b) (h1 : a + b ≤ 9223372036854775807) : addI .i64 a b = a + b := wrap_i64 h0 h1
theorem subI_eq {a b : Int} (h0 : -9223372036854775808 ≤ a - b) (h1 : a - b ≤ 9223372036854775807) : subI .i64 a b = a - b := wrap_i64 h0 h1
theorem mulI_eq {a b : Int} (h0 : -9223372036854775808 ≤ a * b) (h1 : a * b ≤ 9223372036854775807) : mulI .i64 a b = a * b := wrap_i64 h0 h1
theorem quoI_eq {a b : Int} (h : 0 ≤ a) (h1 : a ≤ 9223372036854775807) (hb : 0 < b) : quoI .i64 a b = a / b := by
  have e : a.tdiv b = a / b := by rw [Int.tdiv_eq_ediv_of_nonneg h]
  unfold quoI
  rw [e]
  refine wrap_i64 ?_ ?_
  · have := Int.ediv_nonneg h (Int.le_of_lt hb); omega
  · have := Int.ediv_le_self b h; omega
theorem remI_eq {a b : Int} (h : 0 ≤ a) : remI a b = a % b := by
  unfold remI
  rw [Int.tmod_eq_emod_of_nonneg h]

/-! ### Days and dates -/
def leapP (y : Int) : Prop := (y % 4 = 0 ∧ y % 100 ≠ 0) ∨ y % 400 = 0
instance (y : Int) : Decidable (leapP y) := by unfold leapP; infer_instance
/-- The days ahead of a year, from 1970 on. -/
def dayOf (y : Int) : Int := 365 * (y - 1970) + ((y - 1) / 4 - (y - 1) / 100 + (y - 1) / 400) - 477
def ylen (y : Int) : Int := if leapP y then 366 else 365
def cum (m : Int) : Int := if m ≤ 1 then 0 else if m = 2 then 31 else if m = 3 then 59 else if m = 4 then 90 else if m = 5 then 120 else if m = 6 then 151 else if m = 7 then 181 else if m = 8 then 212 else if m = 9 then 243 else if m = 10 then 273 else if m = 11 then 304 else if m = 12 then 334 else 365
/-- The days ahead of a month in its year. -/
def monthAt (y m : Int) : Int := cum m + if 2 < m ∧ leapP y then 1 else 0
theorem dayOf_next (y : Int) (h : 1 ≤ y) : dayOf (y + 1) = dayOf y + ylen y := by
  unfold dayOf ylen
  rcases Classical.em (leapP y) with hl | hl
  · rw [if_pos hl]
    unfold leapP at hl
    omega
  · rw [if_neg hl]
    unfold leapP at hl
    omega
theorem dayOf_mono {y z : Int} (h : 1 ≤ y) (hz : y ≤ z) : dayOf y ≤ dayOf z := by
  unfold dayOf; omega
structure IsDate (days y m d : Int) : Prop where
  m1 : 1 ≤ m
  m2 : m ≤ 12
  d1 : 1 ≤ d
  d2 : monthAt y m + d ≤ monthAt y (m + 1)
  eq : days = dayOf y + monthAt y m + d - 1
theorem monthAt_end (y : Int) : monthAt y 13 = ylen y := by
  unfold monthAt ylen cum
  by_cases h : leapP y <;> simp [h]
/-- Years of 400, in days from March 1 on. -/
theorem era_spec (i : Int) (h0 : 0 ≤ i) (h1 : i < 146097) :
    let y := (i - i / 1460 + i / 36524 - i / 146096) / 365
    let r := i - (365 * y + y / 4 - y / 100)
    0 ≤ y ∧ y ≤ 399 ∧ 0 ≤ r ∧ (r ≤ 364 ∨ (r = 365 ∧ (((y + 1) % 4 = 0 ∧ (y + 1) % 100 ≠ 0) ∨ y = 399))) := by
  by_cases hi : i = 146096
  · subst hi
    decide
  have hs : i / 146096 = 0 := by omega
  rw [hs]
  have hq : i / 36524 = 0 ∨ i / 36524 = 1 ∨ i / 36524 = 2 ∨ i / 36524 = 3 := by omega
  generalize hp : i / 1460 = p
  have hp1 : 1460 * p ≤ i := by omega
  have hp2 : i < 1460 * p + 1460 := by omega
  have key : ∀ q : Int, (q = 0 ∨ q = 1 ∨ q = 2 ∨ q = 3) → 36524 * q ≤ i → i < 36524 * q + 36524 → i / 36524 = q → 
      (let y := (i - p + i / 36524 - 0) / 365
       let r := i - (365 * y + y / 4 - y / 100)
       0 ≤ y ∧ y ≤ 399 ∧ 0 ≤ r ∧ (r ≤ 364 ∨ (r = 365 ∧ (((y + 1) % 4 = 0 ∧ (y + 1) % 100 ≠ 0) ∨ y = 399)))) := by
    intro q hq' g1 g2 hqe
    rw [hqe]
    intro y r
    have hy1 : 365 * y ≤ i - p + q := by omega
    have hy2 : i - p + q < 365 * y + 365 := by omega
    have hc : y / 100 = q := by
      have : 100 * q ≤ y := by omega
      have : y < 100 * q + 100 := by omega
      omega
    generalize hw : y / 4 = w at *
    have hw1 : 4 * w ≤ y := by omega
    have hw2 : y < 4 * w + 4 := by omega
    have hw3 : 25 * q ≤ w := by omega
    have hp0 : 0 ≤ p := by omega
    have hw4 : w ≤ 99 := by omega
    have hd1 : p ≤ w + 1 := by omega
    have hd2 : w ≤ p := by omega
    have hd : p = w ∨ p = w + 1 := by omega
    clear_value y
    have hr : r = i - (365 * y + w - q) := by show i - (365 * y + y / 4 - y / 100) = _; rw [hw, hc]
    clear_value r
    subst hr
    clear hw hp hi hs
    refine ⟨by omega, by omega, by omega, ?_⟩
    by_cases he : i - (365 * y + w - q) ≤ 364
    · exact .inl he
    · right
      have h1 : p = w + 1 := by omega
      have h2 : i = 365 * y + 365 + w - q := by omega
      have h3 : y = 4 * w + 3 := by omega
      refine ⟨by omega, .inl ⟨by omega, ?_⟩⟩
      intro h4
      have h5 : y = 100 * q + 99 := by omega
      omega
  rcases hq with h | h | h | h
  · exact key 0 (by omega) (by omega) (by omega) h
  · exact key 1 (by omega) (by omega) (by omega) h
  · exact key 2 (by omega) (by omega) (by omega) h
  · exact key 3 (by omega) (by omega) (by omega) h

theorem dayOf_leap (y : Int) : dayOf y + (if leapP y then 1 else 0) = 365 * (y - 1970) + (y / 4 - y / 100 + y / 400) - 477 := by
  unfold dayOf
  rcases Classical.em (leapP y) with hl | hl
  · rw [if_pos hl]; unfold leapP at hl; omega
  · rw [if_neg hl]; unfold leapP at hl; omega
theorem late_month {year m d rest days mm : Int} (h1 : 3 ≤ m) (h2 : m ≤ 12) (hmm : m = mm + 3) (hr : 153 * mm ≤ 5 * rest + 2) (hr2 : 5 * rest + 2 < 153 * mm + 153) (hd : d = rest - (153 * mm + 2) / 5 + 1)
    (he : days = 365 * (year - 1970) + (year / 4 - year / 100 + year / 400) - 477 + 59 + rest) : IsDate days year m d := by
  have hl := dayOf_leap year
  have hm : m = 3 ∨ m = 4 ∨ m = 5 ∨ m = 6 ∨ m = 7 ∨ m = 8 ∨ m = 9 ∨ m = 10 ∨ m = 11 ∨ m = 12 := by omega
  have e1 : monthAt year m = cum m + if leapP year then 1 else 0 := by
    unfold monthAt
    by_cases h : leapP year
    · rw [if_pos ⟨by omega, h⟩, if_pos h]
    · rw [if_neg (fun x => h x.2), if_neg h]
  have e2 : monthAt year (m + 1) = cum (m + 1) + if leapP year then 1 else 0 := by
    unfold monthAt
    by_cases h : leapP year
    · rw [if_pos ⟨by omega, h⟩, if_pos h]
    · rw [if_neg (fun x => h x.2), if_neg h]
  have e3 : cum m = 59 + (153 * mm + 2) / 5 ∧ cum (m + 1) = 59 + (if m = 12 then 306 else (153 * (mm + 1) + 2) / 5) := by
    have : mm = m - 3 := by omega
    subst this
    rcases hm with rfl | rfl | rfl | rfl | rfl | rfl | rfl | rfl | rfl | rfl <;> decide
  refine ⟨by omega, h2, by omega, ?_, by omega⟩
  rw [e1, e2, e3.1, e3.2, hd]
  split <;> omega
theorem early_month {year m d rest days mm : Int} (hmm : m = mm - 9) (h1 : mm = 10 ∨ mm = 11) (hr2 : 5 * rest + 2 < 153 * mm + 153) (hr : 153 * mm ≤ 5 * rest + 2) (hd : d = rest - (153 * mm + 2) / 5 + 1)
    (hle : rest ≤ 364 ∨ (rest = 365 ∧ leapP year)) (he : days = dayOf year - 306 + rest) : IsDate days year m d := by
  rcases h1 with rfl | rfl
  · have hm : m = 1 := by omega
    subst hm
    have e1 : monthAt year 1 = 0 := by unfold monthAt cum; simp
    have e2 : monthAt year 2 = 31 := by unfold monthAt cum; simp
    exact ⟨by omega, by omega, by omega, by rw [e1, show (1 : Int) + 1 = 2 from rfl, e2]; omega, by rw [e1]; omega⟩
  · have hm : m = 2 := by omega
    subst hm
    have e1 : monthAt year 2 = 31 := by unfold monthAt cum; simp
    have e2 : monthAt year 3 = 59 + if leapP year then 1 else 0 := by unfold monthAt cum; simp
    refine ⟨by omega, by omega, by omega, ?_, by rw [e1]; omega⟩
    rw [e1, show (2 : Int) + 1 = 3 from rfl, e2]
    rcases hle with h | ⟨h, hl⟩
    · split <;> omega
    · rw [if_pos hl]; omega
/-- cert.date's reckoning. -/
theorem date_spec (days : Int) (h0 : 0 ≤ days) :
    let t := days + 719468
    let i := t % 146097
    let y := (i - i / 1460 + i / 36524 - i / 146096) / 365
    let r := i - (365 * y + y / 4 - y / 100)
    let m := (5 * r + 2) / 153
    let d := r - (153 * m + 2) / 5 + 1
    let year := y + 400 * (t / 146097)
    0 ≤ m ∧ m ≤ 11 ∧ (10 ≤ m → IsDate days (year + 1) (m - 9) d) ∧ (m < 10 → IsDate days year (m + 3) d) := by
  intro t i y r m d year
  obtain ⟨h1, h2, h3, h4⟩ := era_spec i (by omega) (by omega)
  have hm1 : 153 * m ≤ 5 * r + 2 := by omega
  have hm2 : 5 * r + 2 < 153 * m + 153 := by omega
  have h1' : 0 ≤ y := h1
  have h2' : y ≤ 399 := h2
  have h3' : 0 ≤ r := h3
  have h5 : r ≤ 365 := by
    rcases h4 with h | h
    · have : r ≤ 364 := h
      omega
    · have : r = 365 := h.1
      omega
  have hy4 : (y + 400 * (t / 146097)) / 4 = y / 4 + 100 * (t / 146097) := by omega
  have hy100 : (y + 400 * (t / 146097)) / 100 = y / 100 + 4 * (t / 146097) := by omega
  have hy400 : (y + 400 * (t / 146097)) / 400 = t / 146097 := by omega
  have hri : i = r + (365 * y + y / 4 - y / 100) := by omega
  have ht : t = 146097 * (t / 146097) + i := by omega
  have hday : days = t - 719468 := by omega
  refine ⟨by omega, by omega, ?_, ?_⟩
  · intro h10
    refine early_month rfl (by omega) hm2 hm1 rfl ?_ ?_
    · rcases h4 with h | ⟨h, hl⟩
      · exact .inl h
      · refine .inr ⟨h, ?_⟩
        unfold leapP
        rcases hl with ⟨a, b⟩ | a
        · left
          have a' : (y + 1) % 4 = 0 := a
          have b' : (y + 1) % 100 ≠ 0 := b
          refine ⟨by omega, by omega⟩
        · right
          have a' : y = 399 := a
          omega
    · unfold dayOf
      rw [show year + 1 - 1 = y + 400 * (t / 146097) by omega, hy4, hy100, hy400]
      omega
  · intro h10
    refine late_month (by omega) (by omega) rfl hm1 hm2 rfl ?_
    rw [show year = y + 400 * (t / 146097) from rfl, hy4, hy100, hy400]
    omega

theorem monthAt_step (y m : Int) (h1 : 1 ≤ m) (h2 : m ≤ 12) : monthAt y m + 28 ≤ monthAt y (m + 1) := by
  have hm : m = 1 ∨ m = 2 ∨ m = 3 ∨ m = 4 ∨ m = 5 ∨ m = 6 ∨ m = 7 ∨ m = 8 ∨ m = 9 ∨ m = 10 ∨ m = 11 ∨ m = 12 := by omega
  unfold monthAt cum
  rcases hm with rfl | rfl | rfl | rfl | rfl | rfl | rfl | rfl | rfl | rfl | rfl | rfl <;> by_cases h : leapP y <;> simp [h]
theorem monthAt_mono (y : Int) : ∀ (k : Nat) (m : Int), 1 ≤ m → m + k ≤ 13 → monthAt y m ≤ monthAt y (m + k)
  | 0, m, _, _ => by simp
  | k + 1, m, h1, h2 => by
    have := monthAt_mono y k m h1 (by omega)
    have := monthAt_step y (m + k) (by omega) (by omega)
    rw [show m + ((k + 1 : Nat) : Int) = m + k + 1 by omega]
    omega
theorem monthAt_le {y m n : Int} (h1 : 1 ≤ m) (h2 : m ≤ n) (h3 : n ≤ 13) : monthAt y m ≤ monthAt y n := by
  have := monthAt_mono y (n - m).toNat m h1 (by omega)
  rwa [show m + ((n - m).toNat : Int) = n by omega] at this
theorem monthAt_pos {y m : Int} (h1 : 1 ≤ m) (h2 : m ≤ 13) : 0 ≤ monthAt y m := by
  have := monthAt_le (y := y) (Int.le_refl 1) h1 h2
  have e : monthAt y 1 = 0 := by unfold monthAt cum; simp
  omega
theorem IsDate.lo {days y m d : Int} (h : IsDate days y m d) : dayOf y ≤ days := by
  have := monthAt_pos (y := y) h.m1 (by have := h.m2; omega)
  have := h.eq; have := h.d1
  omega
theorem IsDate.hi {days y m d : Int} (h : IsDate days y m d) : days < dayOf y + ylen y := by
  have := monthAt_le (y := y) (m := m + 1) (n := 13) (by have := h.m1; omega) (by have := h.m2; omega) (by omega)
  have := monthAt_end y
  have := h.eq; have := h.d2
  omega
theorem ylen_bounds (y : Int) : 365 ≤ ylen y ∧ ylen y ≤ 366 := by unfold ylen; split <;> omega
theorem dayOf_low {y : Int} (h : y ≤ 1969) : dayOf y + 365 ≤ 0 := by unfold dayOf; omega
theorem IsDate.year {days y m d : Int} (h : IsDate days y m d) (h0 : 0 ≤ days) (h1 : days ≤ 2932896) : 1970 ≤ y ∧ y ≤ 9999 := by
  have a := h.lo
  have b := h.hi
  have c := ylen_bounds y
  constructor
  · rcases Int.lt_or_le y 1970 with hy | hy
    · have e1 : dayOf 1970 = 0 := by decide
      rcases Int.lt_or_le y 1 with hz | hz
      · have : dayOf y + 366 ≤ 0 := by unfold dayOf; omega
        omega
      · have := dayOf_next y hz
        have := dayOf_mono (y := y + 1) (z := 1970) (by omega) (by omega)
        omega
    · exact hy
  · rcases Int.lt_or_le 9999 y with hy | hy
    · have := dayOf_mono (y := 10000) (z := y) (by omega) (by omega)
      have e1 : dayOf 10000 = 2932897 := by decide
      omega
    · exact hy
theorem IsDate.day {days y m d : Int} (h : IsDate days y m d) : d ≤ 31 := by
  have h2 := h.d2
  have hm : m = 1 ∨ m = 2 ∨ m = 3 ∨ m = 4 ∨ m = 5 ∨ m = 6 ∨ m = 7 ∨ m = 8 ∨ m = 9 ∨ m = 10 ∨ m = 11 ∨ m = 12 := by have := h.m1; have := h.m2; omega
  unfold monthAt cum at h2
  rcases hm with rfl | rfl | rfl | rfl | rfl | rfl | rfl | rfl | rfl | rfl | rfl | rfl <;> by_cases hl : leapP y <;> simp [hl] at h2 <;> omega
/-- Days rise as their dates do. -/
theorem IsDate.rise {days y m d days' y' m' d' : Int} (h : IsDate days y m d) (h' : IsDate days' y' m' d') (hy : 1 ≤ y) (hy' : 1 ≤ y') (hlt : days < days') :
    y * 10000 + m * 100 + d < y' * 10000 + m' * 100 + d' := by
  have a := h.lo; have b := h.hi; have a' := h'.lo; have b' := h'.hi
  have := h.m1; have := h.m2; have := h.d1; have := h.day
  have := h'.m1; have := h'.m2; have := h'.d1; have := h'.day
  rcases Int.lt_or_le y' y with hc | hc
  · have e := dayOf_next y' hy'
    have := dayOf_mono (y := y' + 1) (z := y) (by omega) (by omega)
    omega
  · rcases Int.lt_or_le y y' with hc2 | hc2
    · omega
    · have : y' = y := by omega
      subst this
      have e := h.eq; have e' := h'.eq
      rcases Int.lt_or_le m' m with hm | hm
      · have := monthAt_le (y := y') (m := m' + 1) (n := m) (by omega) (by omega) (by omega)
        have := h'.d2
        omega
      · rcases Int.lt_or_le m m' with hm2 | hm2
        · omega
        · have : m' = m := by omega
          subst this
          omega

/-! ### Digits -/
def dig : Nat → Nat → Str
  | 0, _ => []
  | k + 1, n => dig k (n / 10) ++ [UInt8.ofNat (48 + n % 10)]
theorem dig_length : ∀ (k n : Nat), (dig k n).length = k
  | 0, _ => rfl
  | k + 1, n => by simp [dig, dig_length k]
theorem dig_zero : ∀ (k : Nat), dig k 0 = List.replicate k 48
  | 0 => rfl
  | k + 1 => by
    rw [dig, show 0 / 10 = 0 from rfl, dig_zero k, List.replicate_succ']
    rfl
theorem repeat48 : ∀ (k : Nat), Lib.repeatL [48] k = List.replicate k 48
  | 0 => rfl
  | k + 1 => by rw [Lib.repeatL, repeat48 k]; rfl
/-- Noughts ahead of a numeral. -/
theorem padded_dig : ∀ (k n : Nat), n < 10 ^ (k + 1) → Lib.repeatL [48] (k + 1 - (Lib.decDigits n).length) ++ Lib.decDigits n = dig (k + 1) n ∧ (Lib.decDigits n).length ≤ k + 1
  | 0, n, h => by
    have hn : n < 10 := by omega
    rw [Lib.decDigits, dif_pos hn]
    refine ⟨?_, by simp⟩
    simp [dig, Lib.repeatL, Nat.mod_eq_of_lt hn]
  | k + 1, n, h => by
    by_cases hn : n < 10
    · rw [Lib.decDigits, dif_pos hn]
      refine ⟨?_, by simp⟩
      rw [dig, Nat.div_eq_of_lt hn, dig_zero, repeat48, Nat.mod_eq_of_lt hn]
      simp
    · obtain ⟨h1, h2⟩ := padded_dig k (n / 10) (by rw [Nat.div_lt_iff_lt_mul (by omega)]; rw [Nat.pow_succ] at h; exact h)
      rw [Lib.decDigits, dif_neg hn]
      refine ⟨?_, by simp; omega⟩
      rw [dig, ← h1, List.length_append, List.length_singleton, ← List.append_assoc]
      congr 3
      omega
theorem dig_inj : ∀ (k m n : Nat), m < 10 ^ k → n < 10 ^ k → dig k m = dig k n → m = n
  | 0, m, n, hm, hn, _ => by omega
  | k + 1, m, n, hm, hn, h => by
    rw [dig, dig] at h
    obtain ⟨h1, h2⟩ := List.append_inj h (by rw [dig_length, dig_length])
    have := dig_inj k (m / 10) (n / 10) (by rw [Nat.div_lt_iff_lt_mul (by omega)]; rw [Nat.pow_succ] at hm; exact hm) (by rw [Nat.div_lt_iff_lt_mul (by omega)]; rw [Nat.pow_succ] at hn; exact hn) h1
    have h3 : UInt8.ofNat (48 + m % 10) = UInt8.ofNat (48 + n % 10) := by simpa using h2
    have h4 := congrArg UInt8.toNat h3
    simp only [UInt8.toNat_ofNat'] at h4
    omega
theorem dig_cat : ∀ (b a x y : Nat), y < 10 ^ b → dig (a + b) (x * 10 ^ b + y) = dig a x ++ dig b y
  | 0, a, x, y, h => by
    have : y = 0 := by omega
    subst this
    simp [dig]
  | b + 1, a, x, y, h => by
    have e1 : (x * 10 ^ (b + 1) + y) / 10 = x * 10 ^ b + y / 10 := by rw [Nat.pow_succ, ← Nat.mul_assoc]; omega
    have e2 : (x * 10 ^ (b + 1) + y) % 10 = y % 10 := by rw [Nat.pow_succ, ← Nat.mul_assoc]; omega
    rw [← Nat.add_assoc, dig, dig, e1, e2, dig_cat b a x (y / 10) (by rw [Nat.div_lt_iff_lt_mul (by omega)]; rw [Nat.pow_succ] at h; exact h), List.append_assoc]

theorem IsDate.uniq {days y m d y' m' d' : Int} (h : IsDate days y m d) (h' : IsDate days y' m' d') (hy : 1 ≤ y) (hy' : 1 ≤ y') : y = y' ∧ m = m' ∧ d = d' := by
  have a := h.lo; have b := h.hi; have a' := h'.lo; have b' := h'.hi
  have := h.m1; have := h.m2; have := h.d1
  have := h'.m1; have := h'.m2; have := h'.d1
  have e1 := dayOf_next y' hy'
  have e2 := dayOf_next y hy
  have hyy : y = y' := by
    rcases Int.lt_or_le y' y with hc | hc
    · have := dayOf_mono (y := y' + 1) (z := y) (by omega) (by omega)
      omega
    · rcases Int.lt_or_le y y' with hc2 | hc2
      · have := dayOf_mono (y := y + 1) (z := y') (by omega) (by omega)
        omega
      · omega
  subst hyy
  have e := h.eq; have e' := h'.eq
  have hmm : m = m' := by
    rcases Int.lt_or_le m' m with hm | hm
    · have := monthAt_le (y := y) (m := m' + 1) (n := m) (by omega) (by omega) (by omega)
      have := h'.d2
      omega
    · rcases Int.lt_or_le m m' with hm2 | hm2
      · have := monthAt_le (y := y) (m := m + 1) (n := m') (by omega) (by omega) (by omega)
        have := h.d2
        omega
      · omega
  subst hmm
  exact ⟨rfl, rfl, by omega⟩
theorem less_dig : ∀ (k m n : Nat), m < 10 ^ k → n < 10 ^ k → ∀ (s t : Str), Op.bytesLess (dig k m ++ s) (dig k n ++ t) = (decide (m < n) || (decide (m = n) && Op.bytesLess s t))
  | 0, m, n, hm, hn, s, t => by
    have h1 : m = 0 := by omega
    have h2 : n = 0 := by omega
    subst h1; subst h2
    simp [dig]
  | k + 1, m, n, hm, hn, s, t => by
    rw [dig, dig, List.append_assoc, List.append_assoc, less_dig k (m / 10) (n / 10) (by rw [Nat.div_lt_iff_lt_mul (by omega)]; rw [Nat.pow_succ] at hm; exact hm) (by rw [Nat.div_lt_iff_lt_mul (by omega)]; rw [Nat.pow_succ] at hn; exact hn)]
    have e : Op.bytesLess ([UInt8.ofNat (48 + m % 10)] ++ s) ([UInt8.ofNat (48 + n % 10)] ++ t) = (decide (m % 10 < n % 10) || (decide (m % 10 = n % 10) && Op.bytesLess s t)) := by
      show (decide (UInt8.ofNat (48 + m % 10) < UInt8.ofNat (48 + n % 10)) || (UInt8.ofNat (48 + m % 10) == UInt8.ofNat (48 + n % 10)) && Op.bytesLess s t) = _
      have h1 : (UInt8.ofNat (48 + m % 10) < UInt8.ofNat (48 + n % 10)) ↔ m % 10 < n % 10 := by
        rw [UInt8.lt_iff_toNat_lt, UInt8.toNat_ofNat', UInt8.toNat_ofNat']
        omega
      have h2 : (UInt8.ofNat (48 + m % 10) == UInt8.ofNat (48 + n % 10)) = decide (m % 10 = n % 10) := by
        rw [Bool.eq_iff_iff, beq_iff_eq, decide_eq_true_eq]
        constructor
        · intro h
          have := congrArg UInt8.toNat h
          rw [UInt8.toNat_ofNat', UInt8.toNat_ofNat'] at this
          omega
        · intro h; rw [h]
      rw [h2]
      congr 1
      exact decide_eq_decide.2 h1
    rw [e]
    generalize Op.bytesLess s t = b
    rw [Bool.eq_iff_iff]
    simp only [Bool.or_eq_true, Bool.and_eq_true, decide_eq_true_eq]
    constructor
    · rintro (h | ⟨h1, h | ⟨h2, h3⟩⟩)
      · exact .inl (by omega)
      · exact .inl (by omega)
      · exact .inr ⟨by omega, h3⟩
    · rintro (h | ⟨h, h3⟩)
      · rcases Nat.lt_or_ge (m / 10) (n / 10) with h1 | h1
        · exact .inl h1
        · exact .inr ⟨by omega, .inl (by omega)⟩
      · subst h
        exact .inr ⟨rfl, .inr ⟨rfl, h3⟩⟩
end Go.Ev
