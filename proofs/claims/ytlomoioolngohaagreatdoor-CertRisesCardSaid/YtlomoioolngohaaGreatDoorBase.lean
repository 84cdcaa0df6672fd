/- The ambient premise of the program's functions: the library's tables; contracts of library functions. -/
import Derived.Test.YtlomoioolngohaaGreatDoorEv3
import Derived.Test.YtlomoioolngohaaGreatDoorShelf
import Derived.KernelRfl
set_option linter.unusedVariables false
set_option linter.unusedSimpArgs false
namespace Go.Ev
open Go.RowKit Go.Proofs

theorem pow10_at : Tryz.prog.globalNamed "internal/strconv.uint64pow10" = some 0 := by kernel_rfl
noncomputable instance theAmb : Amb where
  ok I w := (∀ k, k < 8 → ¬ I k) ∧ 8 ≤ w.heap.size ∧ Lib.TabIs Tryz.prog w "internal/strconv.uint64pow10" .u64 Lib.pow10Tab
  fr := by
    rintro I w I' w' ⟨h1, h2, h3⟩ hf
    refine ⟨fun k hk hI => ?_, Nat.le_trans h2 hf.size, ?_⟩
    · rcases hf.own k hI with h | h
      · exact h1 k hk h
      · omega
    · unfold Lib.TabIs World.var? at h3 ⊢
      rw [pow10_at] at h3 ⊢
      simp only [Option.bind_some] at h3 ⊢
      rw [hf.same 0 (by omega) (h1 0 (by omega))]
      exact h3
  sub := by
    rintro I I' w ⟨h1, h2, h3⟩ hs
    exact ⟨fun k hk hI => h1 k hk (hs k hI), h2, h3⟩

theorem below_grow (w : World) (k : Nat) (os : Array Obj) : Below w.heap.size w (Go.Sort.grow (w.drewN k) os) :=
  ⟨rfl, rfl, rfl, by simp [Go.Sort.grow, World.drewN], fun j hj => by simp [Go.Sort.grow, World.drewN, Array.getElem?_append, hj]⟩
theorem mk_str (s : Str) : (⟨s.toArray⟩ : ByteArray).data.toList = s := by simp

theorem decDigits_le : ∀ (k u : Nat), u < 10 ^ (k + 1) → (Lib.decDigits u).length ≤ k + 1
  | 0, u, h => by
    rw [Lib.decDigits]
    rw [dif_pos (by omega)]
    simp
  | k + 1, u, h => by
    rw [Lib.decDigits]
    split
    · simp
    · rw [List.length_append]
      have := decDigits_le k (u / 10) (by rw [Nat.div_lt_iff_lt_mul (by omega)]; rw [Nat.pow_succ] at h; exact h)
      simp only [List.length_cons, List.length_nil]
      omega
theorem itoa_le (n : Int) (h0 : -9223372036854775808 ≤ n) (h1 : n ≤ 9223372036854775807) : (Lib.itoa n).length ≤ 21 := by
  unfold Lib.itoa
  split
  · have := decDigits_le 19 n.natAbs (by omega)
    simp only [List.length_cons]
    omega
  · have := decDigits_le 19 n.toNat (by omega)
    omega
theorem indexByte_bounds : ∀ (l : List UInt8) (c : UInt8), -1 ≤ Lib.indexByte l c ∧ Lib.indexByte l c ≤ l.length
  | [], c => by simp [Lib.indexByte]
  | b :: l, c => by
    have := indexByte_bounds l c
    unfold Lib.indexByte
    split
    · simp; omega
    · split
      · simp; omega
      · simp; omega
def repB (s : Str) (n : Int) : Bool := decide (0 ≤ n) && decide (s.length * n.toNat ≤ 140737488355328)
theorem itoa_calls : ∀ (x : ArT [.sc (.i .i64)]) (κ : Map) (I : Nat → Prop) (w : World) (xs : List Value), true = true → All2 (vrel κ) (toArgs [.sc (.i .i64)] x) xs → Amb.ok I w →
    Calls Tryz.prog 46 xs.toArray w fun e w' => ∃ v, e = .returned v ∧ (∀ ι, vrel ι (.s (.str (Lib.itoa x.1))) v) ∧ Below w.heap.size w w' := by
  intro x κ I w xs _ hx hA
  cases hx with
  | cons h1 h2 =>
    cases h2
    obtain ⟨rfl, h0⟩ : _ = Value.int .i64 x.1 ∧ fits .i64 x.1 := h1
    refine (Tryz.strconv_Itoa x.1 h0.1 h0.2 w hA.2.2).mono ?_
    rintro e w' ⟨rfl, k, os, rfl⟩
    refine ⟨_, rfl, fun ι => ⟨rfl, ?_⟩, below_grow _ _ _⟩
    have := itoa_le x.1 h0.1 h0.2
    unfold maxL
    omega
theorem indexByte_calls : ∀ (x : ArT [.sc .s, .sc (.i .u8)]) (κ : Map) (I : Nat → Prop) (w : World) (xs : List Value), true = true → All2 (vrel κ) (toArgs [.sc .s, .sc (.i .u8)] x) xs → Amb.ok I w →
    Calls Tryz.prog 236 xs.toArray w fun e w' => ∃ v, e = .returned v ∧ (∀ ι, vrel ι (.s (.int .i64 (Lib.indexByte x.1 (UInt8.ofNat x.2.1.toNat)))) v) ∧ Below w.heap.size w w' := by
  intro x κ I w xs _ hx hA
  cases hx with
  | cons h1 h2 =>
    cases h2 with
    | cons h3 h4 =>
      cases h4
      obtain ⟨rfl, h0⟩ : _ = Value.string ⟨x.1.toArray⟩ ∧ x.1.length ≤ maxL := h1
      obtain ⟨rfl, h5⟩ : _ = Value.int .u8 x.2.1 ∧ fits .u8 x.2.1 := h3
      refine (Tryz.stringslite_IndexByte ⟨x.1.toArray⟩ x.2.1 w).mono ?_
      rintro e w' ⟨rfl, rfl⟩
      refine ⟨_, rfl, fun ι => ?_, Below.refl _ _⟩
      rw [mk_str]
      refine ⟨rfl, ?_⟩
      have := indexByte_bounds x.1 (UInt8.ofNat x.2.1.toNat)
      have hm : maxL = 9223372036854775807 := rfl
      unfold fits
      have e1 : IntKind.min .i64 = -9223372036854775808 := by decide
      have e2 : IntKind.max .i64 = 9223372036854775807 := by decide
      rw [e1, e2]
      omega
theorem repeat_calls : ∀ (x : ArT [.sc .s, .sc (.i .i64)]) (κ : Map) (I : Nat → Prop) (w : World) (xs : List Value), repB x.1 x.2.1 = true → All2 (vrel κ) (toArgs [.sc .s, .sc (.i .i64)] x) xs → Amb.ok I w →
    Calls Tryz.prog 47 xs.toArray w fun e w' => ∃ v, e = .returned v ∧ (∀ ι, vrel ι (.s (.str (Lib.repeatL x.1 x.2.1.toNat))) v) ∧ Below w.heap.size w w' := by
  intro x κ I w xs hr hx hA
  cases hx with
  | cons h1 h2 =>
    cases h2 with
    | cons h3 h4 =>
      cases h4
      obtain ⟨rfl, h0⟩ : _ = Value.string ⟨x.1.toArray⟩ ∧ x.1.length ≤ maxL := h1
      obtain ⟨rfl, h5⟩ : _ = Value.int .i64 x.2.1 ∧ fits .i64 x.2.1 := h3
      unfold repB at hr
      rw [Bool.and_eq_true, decide_eq_true_eq, decide_eq_true_eq] at hr
      obtain ⟨hr1, hr2⟩ := hr
      have hn : ((x.2.1.toNat : Nat) : Int) = x.2.1 := Int.toNat_of_nonneg hr1
      have e2 : IntKind.max .i64 = 9223372036854775807 := by decide
      have h6 := h5.2
      rw [e2] at h6
      have hsz : (⟨x.1.toArray⟩ : ByteArray).size = x.1.length := by simp [ByteArray.size]
      have := Tryz.strings_Repeat ⟨x.1.toArray⟩ x.2.1.toNat w (by omega) (by rw [hsz]; exact hr2)
      rw [hn, mk_str] at this
      refine this.mono ?_
      rintro e w' ⟨rfl, hb⟩
      refine ⟨_, rfl, fun ι => ⟨rfl, ?_⟩, hb⟩
      rw [Lib.repeatL_length, Nat.mul_comm]
      unfold maxL
      omega
end Go.Ev
