/- Texts CertRow, CertArg, Nums, Plib, Pder, Lder, EvRt, EvUs, Ulib, Hb, Hder, Hder2, Hder3, Pfield, Ppoint, Pscalar of this proof; printed names are shortened. -/
import Derived.Test.YtlomoioolngohaaGreatDoorRows
import Derived.Test.YtlomoioolngohaaGreatDoorP2
import Derived.Lib.LaidU8
import Derived.Lay
import Derived.ProofKit
import Derived.OpenShut
import Derived.LaidByTextLater
import Derived.LaidOnce
import Derived.SevenTiedAt
import Derived.KernelRfl
import Derived.Test.YtlomoioolngohaaGreatDoorCards
import Derived.Test.YtlomoioolngohaaGreatDoorTie
import Derived.ChangeMaps5
import Derived.Deep.Modes
set_option linter.unusedVariables false
set_option linter.unusedSimpArgs false
set_option maxRecDepth 100000
set_option maxHeartbeats 2000000
namespace Go.Ev
open Go.RowKit Go.Proofs
def laid7 : List (String × DataW Unit) := Go.Proofs.YtlomoioolngohaaGreatDoor.Rows.certTimesRow.laid
theorem amb_of_laid {W : World} (h : laidMetH Tryz.prog laid7 W) : Amb.ok (fun _ => False) W := by
  rw [MakeChecks.laidMetH_plain _ _ _ (by kernel_rfl)] at h
  have size : ∀ {n : String} {d : DataW Unit} {g : Nat}, (n, d) ∈ laid7 → Tryz.prog.globalNamed n = some g → g < W.heap.size := by
    intro n d g hm hg
    obtain ⟨g', t, cs, fuel, p, h1, h2, h3, h4⟩ := Lib.laidMet.reads h hm
    obtain rfl := Option.some.inj (hg.symm.trans h1)
    unfold World.var? at h3
    rw [h1] at h3
    simp only [Option.bind_some] at h3
    cases hb : W.heap[g]? with
    | none => rw [hb] at h3; cases h3
    | some o => exact (Array.getElem?_eq_some_iff.1 hb).1
  have h7 : 7 < W.heap.size := size (n := "math/bits.deBruijn64tab") (d := Go.Proofs.YtlomoioolngohaaGreatDoor.Rows.laid_math_bits_deBruijn64tab) (.tail _ (.head _)) (by kernel_rfl)
  refine ⟨fun _ _ h => h, h7, ?_⟩
  obtain ⟨g, t, cs, fuel, p, h1, h2, h3, h4⟩ := Lib.laidMet.reads (n := "internal/strconv.uint64pow10") (d := Go.Proofs.YtlomoioolngohaaGreatDoor.Rows.laid_internal_strconv_uint64pow10) h (.tail _ (.tail _ (.head _)))
  obtain rfl := Option.some.inj (Z17m.symm.trans h1)
  have hd : (Go.Proofs.YtlomoioolngohaaGreatDoor.Rows.laid_internal_strconv_uint64pow10 : DataW Unit) = Lib.tabData .u64 Lib.pow10Tab := rfl
  rw [hd] at h4
  have ht : (Tryz.prog.globals[0]?).map (·.type) = some 247 := by kernel_rfl
  obtain rfl := Option.some.inj (ht.symm.trans h2)
  unfold Lib.TabIs
  rw [h3, ← Lib.cells_of_tab (n := 20) (e := 73) (by kernel_rfl) (by kernel_rfl) (by kernel_rfl) (by kernel_rfl) h4]
def isTrue : AVal → Eff → Nat → Option Unit := fun v _ _ => match v with
  | .c (.sc (.bool true)) => some ()
  | _ => none
theorem isTrue_spec {v : AVal} {E : Eff} {n : Nat} (h : isTrue v E n = some ()) : v = .s (.bool true) := by
  unfold isTrue at h
  split at h
  · rfl
  · cases h
theorem law_calls {P : Program} {g : FuncId} {c : Con} (hc : ConOK P g c) {args : List AVal} {xs : List Value} {w : World} (hx : All2 (vrel fun _ => none) args xs) (hA : Amb.ok (fun _ => False) w)
    (h : conG c Unit args (fun _ => none) 0 isTrue = some ()) : Calls P g xs.toArray w fun e w' => e = .returned (.bool true) ∧ Below w.heap.size w w' := by
  obtain ⟨_, hcall⟩ := hc Unit args (fun _ => none) 0 isTrue () h
  have hs : HSim (fun _ => none) (fun _ => False) 0 (fun _ => none) w :=
    ⟨fun _ _ => ⟨rfl, rfl⟩, (fun _ _ h => by cases h), (fun _ _ _ _ _ _ _ _ h => by cases h), (fun _ h => h.elim)⟩
  refine (hcall _ _ w xs hx hs hA).mono ?_
  rintro e w' ⟨v, E, cnt, x, ι', I', k1, rfl, k2, k3, k4, k5⟩
  rw [isTrue_spec k1] at k2
  have : x = .bool true := k2
  subst this
  exact ⟨rfl, k5.os, k5.tape, k5.output, k5.size, fun k hk => k5.same k hk (fun h => h)⟩
open Go.RowKit Go.Proofs Go.WideShapes Go.ChangeShapes Go.ChangeMaps
theorem strRel (ι : Map) (s : ByteArray) (hs : s.size ≤ maxLen) : srel ι (.str s.data.toList) (.string s) := by
  refine ⟨by simp, ?_⟩
  have e : s.data.toList.length = s.size := Array.length_toList
  have : maxLen ≤ maxL := by decide
  omega
theorem open_cert {H : Type} {enc : TypeId × Value → H} {W : World} {sp : Nat → Bool} {held : Bool} {r : Reach} {b0 : Nat} {v : Value} {d : DataW H} {ps : List MemPlace}
    (hval : Value.okWide Tryz.prog W r b0 29 v) (hd : DataW.Trod enc Tryz.prog W 0 sp held 29 v d ps) :
    ∃ (n : Int) (name : ByteArray) (f t : Int) (key : ByteArray), fits .i64 n ∧ v = .agg #[.int .i64 n, .string name, .int .i64 f, .int .i64 t, .string key] ∧ ps = [] ∧
      vrel (fun _ => none) (.c (.agg [.one (.int .i64 n), .one (.str name.data.toList), .one (.int .i64 f), .one (.int .i64 t), .one (.str key.data.toList)])) v := by
  obtain ⟨cs, rfl, hsz⟩ := okWide_struct Tryz.underlying29 hval
  obtain ⟨fuel, hf⟩ := hd
  obtain ⟨xs, n, _, hx, hl, hlen, hfs⟩ := DataW.trod_struct Tryz.underlying29 hf
  have hc : Tryz.prog.cellsOf 29 = 5 := by kernel_rfl
  have c3 : Tryz.prog.cellsOf 3 = 1 := by kernel_rfl
  have c9 : Tryz.prog.cellsOf 9 = 1 := by kernel_rfl
  rw [hc] at hsz
  obtain ⟨l⟩ := cs
  match l, hsz with
  | [v0, v1, v2, v3, v4], _ =>
    match xs, hlen with
    | [y0, y1, y2, y3, y4], _ =>
      have g0 : DataW.trod enc Tryz.prog W 0 sp held n 3 [v0] = some y0 := by have h : DataW.trod enc Tryz.prog W 0 sp held n 3 (([v0, v1, v2, v3, v4].drop 0).take (Tryz.prog.cellsOf 3)) = some y0 := hfs 0 _ rfl; rw [c3] at h; exact h
      have g1 : DataW.trod enc Tryz.prog W 0 sp held n 9 [v1] = some y1 := by have h : DataW.trod enc Tryz.prog W 0 sp held n 9 (([v0, v1, v2, v3, v4].drop 1).take (Tryz.prog.cellsOf 9)) = some y1 := hfs 1 _ rfl; rw [c9] at h; exact h
      have g2 : DataW.trod enc Tryz.prog W 0 sp held n 3 [v2] = some y2 := by have h : DataW.trod enc Tryz.prog W 0 sp held n 3 (([v0, v1, v2, v3, v4].drop 2).take (Tryz.prog.cellsOf 3)) = some y2 := hfs 2 _ rfl; rw [c3] at h; exact h
      have g3 : DataW.trod enc Tryz.prog W 0 sp held n 3 [v3] = some y3 := by have h : DataW.trod enc Tryz.prog W 0 sp held n 3 (([v0, v1, v2, v3, v4].drop 3).take (Tryz.prog.cellsOf 3)) = some y3 := hfs 3 _ rfl; rw [c3] at h; exact h
      have g4 : DataW.trod enc Tryz.prog W 0 sp held n 9 [v4] = some y4 := by have h : DataW.trod enc Tryz.prog W 0 sp held n 9 (([v0, v1, v2, v3, v4].drop 4).take (Tryz.prog.cellsOf 9)) = some y4 := hfs 4 _ rfl; rw [c9] at h; exact h
      obtain ⟨a0, e0, z0, w0⟩ := DataW.trod_int Tryz.underlying3 g0
      obtain ⟨a1, e1, z1, w1⟩ := DataW.trod_string Tryz.underlying9 g1
      obtain ⟨a2, e2, z2, w2⟩ := DataW.trod_int Tryz.underlying3 g2
      obtain ⟨a3, e3, z3, w3⟩ := DataW.trod_int Tryz.underlying3 g3
      obtain ⟨a4, e4, z4, w4⟩ := DataW.trod_string Tryz.underlying9 g4
      obtain rfl := (List.cons.inj e0).1
      obtain rfl := (List.cons.inj e1).1
      obtain rfl := (List.cons.inj e2).1
      obtain rfl := (List.cons.inj e3).1
      obtain rfl := (List.cons.inj e4).1
      subst z0; subst z1; subst z2; subst z3; subst z4
      simp only [Prod.mk.injEq] at hx
      have F : ∀ a : Int, (Lit.int .i64 a).wf = true → fits .i64 a := fun a h => by simpa [Lit.wf, fits] using h
      refine ⟨a0, a1, a2, a3, a4, F a0 w0, rfl, by rw [hx.2]; rfl, ?_, _, rfl, ?_⟩
      · intro s hs
        simp only [List.mem_cons, List.not_mem_nil, or_false] at hs
        rcases hs with rfl | rfl | rfl | rfl | rfl <;> trivial
      · exact .cons ⟨⟨rfl, F _ w0⟩, rfl, rfl⟩ (.cons ⟨strRel _ a1 w1, rfl, rfl⟩ (.cons ⟨⟨rfl, F _ w2⟩, rfl, rfl⟩ (.cons ⟨⟨rfl, F _ w3⟩, rfl, rfl⟩ (.cons ⟨strRel _ a4 w4, rfl, rfl⟩ .nil))))
theorem cert_again {H : Type} {enc : TypeId × Value → H} {W W' : World} {sp sp' : Nat → Bool} {held held' : Bool} {v : Value} {d : DataW H} (hd : DataW.Trod enc Tryz.prog W 0 sp held 29 v d []) : DataW.Trod enc Tryz.prog W' 0 sp' held' 29 v d [] :=
  Trod_any (by kernel_rfl) (by kernel_rfl) (of_decide_eq_true (by kernel_rfl)) (by kernel_rfl) (by kernel_rfl) hd (fun _ h => by cases h)
abbrev Zn3 : Nat := 110
abbrev Zb : Nat := 160
abbrev Zd : Nat := 206
noncomputable section
abbrev Zsf := (R : Type) → Int → (Str → Option R) → Option R
def Zrw (R : Type) (a0 : Int) (k0 : Str → Option R) : Option R :=
 gd (true) (k0 (Lib.itoa a0))
abbrev Zmk := (R : Type) → Str → Int → (Str → Option R) → Option R
def Zn2 (R : Type) (a0 : Str) (a1 : Int) (k0 : Str → Option R) : Option R :=
 gd (repB a0 a1) (k0 (Lib.repeatL a0 (a1).toNat))
abbrev Zbj := (R : Type) → Str → Int → (Int → Option R) → Option R
def Zbl (R : Type) (a0 : Str) (a1 : Int) (k0 : Int → Option R) : Option R :=
 gd (true) (k0 (Lib.indexByte a0 (UInt8.ofNat (a1).toNat)))
abbrev Z80 := (R : Type) → Str → (Int → Option R) → Option R
def Zbb (g0 : Zbj) (R : Type) (a1 : Str) (k0 : Int → Option R) : Option R :=
 br (eqS [0] a1)
 (k0 0)
 (g0 R a1 0 fun r2 =>
 k0 r2)
def Z5a : Z80 := Zbb Zbl
abbrev Z9h := (R : Type) → Str → (Str → Str → Bool → Option R) → Option R
def Z8p (g0 : Z80) (R : Type) (a1 : Str) (k0 : Str → Str → Bool → Option R) : Option R :=
 g0 R a1 fun r2 =>
 br (leI 0 r2)
 (gd (leB r2 a1.length) <|
 gd (leB (addI .i64 r2 1) a1.length) <|
 lett (a1.drop ((addI .i64 r2 1).toNat)) fun (v3 : Str) =>
 k0 (a1.take r2.toNat) v3 true)
 (k0 a1 ([] : Str) false)
def Z6i : Z9h := Z8p Z5a
abbrev Zev := (R : Type) → Str → (Str → Str → Bool → Option R) → Option R
def Zds (g0 : Z9h) (R : Type) (a1 : Str) (k0 : Str → Str → Bool → Option R) : Option R :=
 g0 R a1 fun r2 r3 r4 =>
 k0 r2 r3 r4
def Z89 : Zev := Zds Z6i
def Zh4 : StK := ⟨[(0, .sc (.s)), (1, .sc (.i .u8))], []⟩
def Zh1 : List PShape := [⟨Str, fun r => (.exit 0, ⟨[(0, .c (.sc (.str r)))], [], 0⟩)⟩]
def Zpm (R : Type) (x3 : Str) (x4 : Int) (next : Str → Int → Option R) (k0 : Str → Option R) : Option R :=
 lett (((x3.length : Nat) : Int)) fun (v5 : Int) =>
 br (ltI 0 v5)
 (lett (((x3.length : Nat) : Int)) fun (v6 : Int) =>
 gd (inB (subI .i64 v6 1) x3.length) <|
 lett (((x3.getD ((subI .i64 v6 1).toNat) 0).toNat : Int)) fun (v7 : Int) =>
 br (eqI v7 x4)
 (lett (((x3.length : Nat) : Int)) fun (v8 : Int) =>
 gd (leB (subI .i64 v8 1) x3.length) <|
 lett (x3.take ((subI .i64 v8 1).toNat)) fun (v9 : Str) =>
 next v9 x4)
 (k0 x3))
 (k0 x3)
def Zea (x3 : Str) (x4 : Int) : Nat := 100000 + (x3.length + x4.toNat)
def Z7d : Piece := { T := Zh4, shapes := Zh1, step := fun R x next k => Zpm R (x.1.1) (x.1.2.1) (fun x3 x4 => next ((x3, x4, ()), (()))) (fun z0 => k.1 z0), fuel := fun x => Zea (x.1.1) (x.1.2.1) }
def Zty (R : Type) (x3 : Str) (x4 : Int) (k0 : Str → Option R) : Option R :=
 runP Zh4 Zh1 (Z7d).step R (Zea x3 x4) ((x3, x4, ()), (())) (fun r => k0 (r), ())
abbrev Z8n := (R : Type) → Str → Int → (Str → Option R) → Option R
def Zii (R : Type) (a1 : Str) (a2 : Int) (k0 : Str → Option R) : Option R :=
 Zty R a1 a2 fun y10 =>
 k0 y10
def Zcv : Z8n := Zii
def Zhb : StK := ⟨[(0, .sc (.s)), (1, .sc (.i .u8))], []⟩
def Zhk : List PShape := [⟨Str, fun r => (.exit 0, ⟨[(0, .c (.sc (.str r)))], [], 0⟩)⟩]
def Zr9 (R : Type) (x3 : Str) (x4 : Int) (next : Str → Int → Option R) (k0 : Str → Option R) : Option R :=
 lett (((x3.length : Nat) : Int)) fun (v5 : Int) =>
 br (ltI 0 v5)
 (gd (inB 0 x3.length) <|
 lett (((x3.getD 0 0).toNat : Int)) fun (v6 : Int) =>
 br (eqI v6 x4)
 (gd (leB 1 x3.length) <|
 next (x3.drop 1) x4)
 (k0 x3))
 (k0 x3)
def Zet (x3 : Str) (x4 : Int) : Nat := 100000 + (x3.length + x4.toNat)
def Z7y : Piece := { T := Zhb, shapes := Zhk, step := fun R x next k => Zr9 R (x.1.1) (x.1.2.1) (fun x3 x4 => next ((x3, x4, ()), (()))) (fun z0 => k.1 z0), fuel := fun x => Zet (x.1.1) (x.1.2.1) }
def Zw5 (R : Type) (x3 : Str) (x4 : Int) (k0 : Str → Option R) : Option R :=
 runP Zhb Zhk (Z7y).step R (Zet x3 x4) ((x3, x4, ()), (())) (fun r => k0 (r), ())
abbrev Z9l := (R : Type) → Str → Int → (Str → Option R) → Option R
def Zjt (R : Type) (a1 : Str) (a2 : Int) (k0 : Str → Option R) : Option R :=
 Zw5 R a1 a2 fun y7 =>
 k0 y7
def Zeg : Z9l := Zjt
def Zhp : StK := ⟨[(0, .sc (.s)), (2, .sc (.ptr 0 0 0 0 0)), (4, .sc (.i .i64))], [(true, [.recs [.bool] (some 256)])]⟩
def Zht : List PShape := [⟨Bool × (List (Tup [.bool])), fun r => (.ret, ⟨[(2, .c (.sc (.ptr 0 0 0 0 0))), (3, .c (.sc (.bool r.1)))], [(0, ⟨true, [.recs [.bool] r.2 256]⟩)], 1⟩)⟩, ⟨(List (Tup [.bool])), fun r => (.exit 0, ⟨[(2, .c (.sc (.ptr 0 0 0 0 0)))], [(0, ⟨true, [.recs [.bool] r 256]⟩)], 1⟩)⟩]
def Zqs (R : Type) (x3 : Str) (x4 : Int) (x5 : List (Tup [.bool])) (next : Str → Int → (List (Tup [.bool])) → Option R) (k0 : Bool → (List (Tup [.bool])) → Option R) (k1 : (List (Tup [.bool])) → Option R) : Option R :=
 lett (((x3.length : Nat) : Int)) fun (v6 : Int) =>
 br (ltI x4 v6)
 (gd (inB x4 x3.length) <|
 lett (((x3.getD x4.toNat 0).toNat : Int)) fun (v7 : Int) =>
 br (leI 128 v7)
 (k0 false x5)
 (gd (inB v7 256) <|
 lett (x5.set v7.toNat (true, ())) fun (v8 : List (Tup [.bool])) =>
 next x3 (addI .i64 x4 1) v8))
 (k1 x5)
def Zes (x3 : Str) (x4 : Int) (x5 : List (Tup [.bool])) : Nat := 100000 + (x3.length + x4.toNat + x5.length)
def Z7z : Piece := { T := Zhp, shapes := Zht, step := fun R x next k => Zqs R (x.1.1) (x.1.2.2.1) (x.2.1.1) (fun x3 x4 x5 => next ((x3, (), x4, ()), ((x5, ()), ()))) (fun z0 z1 => k.1 (z0, z1)) (fun z0 => k.2.1 z0), fuel := fun x => Zes (x.1.1) (x.1.2.2.1) (x.2.1.1) }
def Zvs (R : Type) (x3 : Str) (x4 : Int) (x5 : List (Tup [.bool])) (k0 : Bool → (List (Tup [.bool])) → Option R) (k1 : (List (Tup [.bool])) → Option R) : Option R :=
 runP Zhp Zht (Z7z).step R (Zes x3 x4 x5) ((x3, (), x4, ()), ((x5, ()), ())) (fun r => k0 (r.1) (r.2), fun r => k1 (r), ())
abbrev Z9j := (R : Type) → Str → ((List (Tup [.bool])) → Bool → Option R) → Option R
def Zjo (R : Type) (a1 : Str) (k0 : (List (Tup [.bool])) → Bool → Option R) : Option R :=
 lett (List.replicate 256 (tupD [.bool])) fun (v2 : List (Tup [.bool])) =>
 Zvs R a1 0 v2
 (fun y9 y10 =>
 k0 y10 y9)
 (fun y11 =>
 k0 y11 true)
def Z9e : Z9j := Zjo
abbrev Zi := (R : Type) → Int → (List (Tup [.bool])) → (Bool → (List (Tup [.bool])) → Option R) → Option R
def Z6u (R : Type) (a1 : Int) (a2 : List (Tup [.bool])) (k0 : Bool → (List (Tup [.bool])) → Option R) : Option R :=
 gd (inB a1 256) <|
 lett ((a2.getD a1.toNat (tupD [.bool])).1) fun (v3 : Bool) =>
 k0 v3 a2
def Zc : Zi := Z6u
def Z75 : StK := ⟨[(0, .sc (.s)), (1, .sc (.ptr 0 0 0 0 0))], [(true, [.recs [.bool] (some 256)])]⟩
def Z76 : List PShape := [⟨Str × (List (Tup [.bool])), fun r => (.exit 0, ⟨[(0, .c (.sc (.str r.1)))], [(0, ⟨true, [.recs [.bool] r.2 256]⟩)], 1⟩)⟩]
def Z5q (g0 : Zi) (R : Type) (x3 : Str) (x4 : List (Tup [.bool])) (next : Str → (List (Tup [.bool])) → Option R) (k0 : Str → (List (Tup [.bool])) → Option R) : Option R :=
 lett (((x3.length : Nat) : Int)) fun (v5 : Int) =>
 br (ltI 0 v5)
 (lett (((x3.length : Nat) : Int)) fun (v6 : Int) =>
 gd (inB (subI .i64 v6 1) x3.length) <|
 lett (((x3.getD ((subI .i64 v6 1).toNat) 0).toNat : Int)) fun (v7 : Int) =>
 g0 R v7 x4 fun r8 r9 =>
 br (!r8)
 (k0 x3 x4)
 (lett (((x3.length : Nat) : Int)) fun (v10 : Int) =>
 gd (leB (subI .i64 v10 1) x3.length) <|
 lett (x3.take ((subI .i64 v10 1).toNat)) fun (v11 : Str) =>
 next v11 x4))
 (k0 x3 x4)
def Z2o (x3 : Str) (x4 : List (Tup [.bool])) : Nat := 100000 + (x3.length + x4.length)
def Z3a (g0 : Zi) : Piece := { T := Z75, shapes := Z76, step := fun R x next k => Z5q g0 R (x.1.1) (x.2.1.1) (fun x3 x4 => next ((x3, (), ()), ((x4, ()), ()))) (fun z0 z1 => k.1 (z0, z1)), fuel := fun x => Z2o (x.1.1) (x.2.1.1) }
def Zd2 (g0 : Zi) (R : Type) (x3 : Str) (x4 : List (Tup [.bool])) (k0 : Str → (List (Tup [.bool])) → Option R) : Option R :=
 runP Z75 Z76 (Z3a g0).step R (Z2o x3 x4) ((x3, (), ()), ((x4, ()), ())) (fun r => k0 (r.1) (r.2), ())
abbrev Z5m := (R : Type) → Str → (List (Tup [.bool])) → (Str → (List (Tup [.bool])) → Option R) → Option R
def Z88 (g0 : Zi) (R : Type) (a1 : Str) (a2 : List (Tup [.bool])) (k0 : Str → (List (Tup [.bool])) → Option R) : Option R :=
 Zd2 g0 R a1 a2 fun y12 y13 =>
 k0 y12 y13
def Z5j : Z5m := Z88 Zc
def Z7p : StK := ⟨[(0, .sc (.s)), (1, .sc (.ptr 0 0 0 0 0))], [(true, [.recs [.bool] (some 256)])]⟩
def Z7v : List PShape := [⟨Str × (List (Tup [.bool])), fun r => (.exit 0, ⟨[(0, .c (.sc (.str r.1)))], [(0, ⟨true, [.recs [.bool] r.2 256]⟩)], 1⟩)⟩]
def Z6b (g0 : Zi) (R : Type) (x3 : Str) (x4 : List (Tup [.bool])) (next : Str → (List (Tup [.bool])) → Option R) (k0 : Str → (List (Tup [.bool])) → Option R) : Option R :=
 lett (((x3.length : Nat) : Int)) fun (v5 : Int) =>
 br (ltI 0 v5)
 (gd (inB 0 x3.length) <|
 lett (((x3.getD 0 0).toNat : Int)) fun (v6 : Int) =>
 g0 R v6 x4 fun r7 r8 =>
 br (!r7)
 (k0 x3 x4)
 (gd (leB 1 x3.length) <|
 next (x3.drop 1) x4))
 (k0 x3 x4)
def Z2u (x3 : Str) (x4 : List (Tup [.bool])) : Nat := 100000 + (x3.length + x4.length)
def Z3q (g0 : Zi) : Piece := { T := Z7p, shapes := Z7v, step := fun R x next k => Z6b g0 R (x.1.1) (x.2.1.1) (fun x3 x4 => next ((x3, (), ()), ((x4, ()), ()))) (fun z0 z1 => k.1 (z0, z1)), fuel := fun x => Z2u (x.1.1) (x.2.1.1) }
def Ze5 (g0 : Zi) (R : Type) (x3 : Str) (x4 : List (Tup [.bool])) (k0 : Str → (List (Tup [.bool])) → Option R) : Option R :=
 runP Z7p Z7v (Z3q g0).step R (Z2u x3 x4) ((x3, (), ()), ((x4, ()), ())) (fun r => k0 (r.1) (r.2), ())
abbrev Z63 := (R : Type) → Str → (List (Tup [.bool])) → (Str → (List (Tup [.bool])) → Option R) → Option R
def Z9b (g0 : Zi) (R : Type) (a1 : Str) (a2 : List (Tup [.bool])) (k0 : Str → (List (Tup [.bool])) → Option R) : Option R :=
 Ze5 g0 R a1 a2 fun y9 y10 =>
 k0 y9 y10
def Z61 : Z63 := Z9b Zc
abbrev Z3j := (R : Type) → Str → Str → (Str → Option R) → Option R
def Zps (g0 : Z8n) (g1 : Z9l) (g2 : Z9j) (g3 : Z5m) (g4 : Z63) (R : Type) (a1 a2 : Str) (k0 : Str → Option R) : Option R :=
 br (eqS a1 [])
 (k0 a1)
 (br (eqS a2 [])
 (k0 a1)
 (lett (((a2.length : Nat) : Int)) fun (v3 : Int) =>
 br (eqI v3 1)
 (gd (inB 0 a2.length) <|
 lett (((a2.getD 0 0).toNat : Int)) fun (v4 : Int) =>
 br (ltI v4 128)
 (gd (inB 0 a2.length) <|
 lett (((a2.getD 0 0).toNat : Int)) fun (v5 : Int) =>
 gd (inB 0 a2.length) <|
 lett (((a2.getD 0 0).toNat : Int)) fun (v6 : Int) =>
 g0 R a1 v5 fun r7 =>
 g1 R r7 v6 fun r8 =>
 k0 r8)
 (g2 R a2 fun r9 r10 =>
 lett (List.replicate 256 (tupD [.bool])) fun (v11 : List (Tup [.bool])) =>
 br (r10)
 (g3 R a1 r9 fun r12 r13 =>
 g4 R r12 r13 fun r14 r15 =>
 k0 r14)
 (none)))
 (g2 R a2 fun r16 r17 =>
 lett (List.replicate 256 (tupD [.bool])) fun (v18 : List (Tup [.bool])) =>
 br (r17)
 (g3 R a1 r16 fun r19 r20 =>
 g4 R r19 r20 fun r21 r22 =>
 k0 r21)
 (none))))
def Z2t : Z3j := Zps Zcv Zeg Z9e Z5j Z61
abbrev Z45 := (R : Type) → Str → (Int → Option R) → Option R
def Z2s (R : Type) (a0 : Str) (k0 : Int → Option R) : Option R :=
 gd (atoiB a0) (k0 (atoiV a0))
def Zfp : StK := ⟨[(0, .sc (.sl 0 1 none)), (7, .sc (.b))], [(true, [.ints .i64 none])]⟩
def Zfr : List PShape := [⟨(List Int), fun r => (.normal, ⟨[(0, .c (.sc (.slice 0 1 none none)))], [(0, ⟨true, [.ints .i64 r r.length]⟩)], 1⟩)⟩]
def Zoc (R : Type) (x3 : Bool) (x4 : List Int) (k0 : (List Int) → Option R) : Option R :=
 br (x3)
 (none)
 (k0 x4)
def Zdi (x3 : Bool) (x4 : List Int) : Nat := 1
def Z6t : Piece := { T := Zfp, shapes := Zfr, step := fun R x next k => Zoc R (x.1.2.1) (x.2.1.1) (fun z0 => k.1 z0), fuel := fun x => Zdi (x.1.2.1) (x.2.1.1) }
def Ztt (R : Type) (x3 : Bool) (x4 : List Int) (k0 : (List Int) → Option R) : Option R :=
 runP Zfp Zfr (Z6t).step R (Zdi x3 x4) (((), x3, ()), ((x4, ()), ())) (fun r => k0 (r), ())
def Zfk : StK := ⟨[(0, .sc (.sl 0 1 none)), (3, .sc (.i .i64)), (4, .sc (.i .i64))], [(true, [.ints .i64 none])]⟩
def Zfz : List PShape := [⟨Int × (List Int), fun r => (.exit 0, ⟨[(3, .c (.sc (.int .i64 r.1)))], [(0, ⟨true, [.ints .i64 r.2 r.2.length]⟩)], 1⟩)⟩]
def Zo6 (R : Type) (x6 x7 : Int) (x8 : List Int) (next : Int → Int → (List Int) → Option R) (k0 : Int → (List Int) → Option R) : Option R :=
 lett (((x8.length : Nat) : Int)) fun (v9 : Int) =>
 br (ltI x7 v9)
 (gd (inB x7 x8.length) <|
 lett (mnI x6 (x8.getD x7.toNat 0)) fun (v10 : Int) =>
 next v10 (addI .i64 x7 1) x8)
 (k0 x6 x8)
def Zda (x6 x7 : Int) (x8 : List Int) : Nat := 100000 + (x6.toNat + x7.toNat + x8.length)
def Z6p : Piece := { T := Zfk, shapes := Zfz, step := fun R x next k => Zo6 R (x.1.2.1) (x.1.2.2.1) (x.2.1.1) (fun x6 x7 x8 => next (((), x6, x7, ()), ((x8, ()), ()))) (fun z0 z1 => k.1 (z0, z1)), fuel := fun x => Zda (x.1.2.1) (x.1.2.2.1) (x.2.1.1) }
def Ztb (R : Type) (x6 x7 : Int) (x8 : List Int) (k0 : Int → (List Int) → Option R) : Option R :=
 runP Zfk Zfz (Z6p).step R (Zda x6 x7 x8) (((), x6, x7, ()), ((x8, ()), ())) (fun r => k0 (r.1) (r.2), ())
abbrev Z2f := (R : Type) → (List Int) → (Int → (List Int) → Option R) → Option R
def Zhl (R : Type) (a1 : List Int) (k0 : Int → (List Int) → Option R) : Option R :=
 lett (((a1.length : Nat) : Int)) fun (v2 : Int) =>
 Ztt R (ltI v2 1) a1 fun y5 =>
 gd (inB 0 y5.length) <|
 Ztb R (y5.getD 0 0) 1 y5 fun y11 y12 =>
 k0 y11 y12
def Z59 : Z2f := Zhl
def Zfw : StK := ⟨[(0, .sc (.slr 0 1 none)), (7, .sc (.b))], [(true, [.ints .i64 none])]⟩
def Zfo : List PShape := [⟨Nat × Nat × (List Int), fun r => (.normal, ⟨[(0, .c (.sc (.slice 0 1 (some (r.1, r.2.1)) none)))], [(0, ⟨true, [.ints .i64 r.2.2 r.2.2.length]⟩)], 1⟩)⟩]
def Zof (R : Type) (x4 x5 : Nat) (x6 : Bool) (x7 : List Int) (k0 : Nat → Nat → (List Int) → Option R) : Option R :=
 br (x6)
 (none)
 (k0 x4 x5 x7)
def Zd8 (x4 x5 : Nat) (x6 : Bool) (x7 : List Int) : Nat := 1
def Z6r : Piece := { T := Zfw, shapes := Zfo, step := fun R x next k => Zof R (x.1.1.1) (x.1.1.2) (x.1.2.1) (x.2.1.1) (fun z0 z1 z2 => k.1 (z0, z1, z2)), fuel := fun x => Zd8 (x.1.1.1) (x.1.1.2) (x.1.2.1) (x.2.1.1) }
def Ztn (R : Type) (x4 x5 : Nat) (x6 : Bool) (x7 : List Int) (k0 : Nat → Nat → (List Int) → Option R) : Option R :=
 runP Zfw Zfo (Z6r).step R (Zd8 x4 x5 x6 x7) (((x4, x5), x6, ()), ((x7, ()), ())) (fun r => k0 (r.1) (r.2.1) (r.2.2), ())
def Zfq : StK := ⟨[(0, .sc (.slr 0 1 none)), (3, .sc (.i .i64)), (4, .sc (.i .i64))], [(true, [.ints .i64 none])]⟩
def Zfl : List PShape := [⟨Int × (List Int), fun r => (.exit 0, ⟨[(3, .c (.sc (.int .i64 r.1)))], [(0, ⟨true, [.ints .i64 r.2 r.2.length]⟩)], 1⟩)⟩]
def Zoh (R : Type) (x11 x12 : Nat) (x13 x14 : Int) (x15 : List Int) (next : Nat → Nat → Int → Int → (List Int) → Option R) (k0 : Int → (List Int) → Option R) : Option R :=
 lett (ltI x14 ((x12 : Nat) : Int)) fun (v16 : Bool) =>
 br (v16)
 (gd (inB x14 x12) <|
 lett (x15.getD (x11 + x14.toNat) 0) fun (v17 : Int) =>
 next x11 x12 (mxI x13 v17) (addI .i64 x14 1) x15)
 (k0 x13 x15)
def Zdf (x11 x12 : Nat) (x13 x14 : Int) (x15 : List Int) : Nat := 100000 + (x11 + x12 + x13.toNat + x14.toNat + x15.length)
def Z6o : Piece := { T := Zfq, shapes := Zfl, step := fun R x next k => Zoh R (x.1.1.1) (x.1.1.2) (x.1.2.1) (x.1.2.2.1) (x.2.1.1) (fun x11 x12 x13 x14 x15 => next (((x11, x12), x13, x14, ()), ((x15, ()), ()))) (fun z0 z1 => k.1 (z0, z1)), fuel := fun x => Zdf (x.1.1.1) (x.1.1.2) (x.1.2.1) (x.1.2.2.1) (x.2.1.1) }
def Ztp (R : Type) (x11 x12 : Nat) (x13 x14 : Int) (x15 : List Int) (k0 : Int → (List Int) → Option R) : Option R :=
 runP Zfq Zfl (Z6o).step R (Zdf x11 x12 x13 x14 x15) (((x11, x12), x13, x14, ()), ((x15, ()), ())) (fun r => k0 (r.1) (r.2), ())
abbrev Z2e := (R : Type) → Nat → Nat → (List Int) → (Int → (List Int) → Option R) → Option R
def Zhy (R : Type) (a1 a2 : Nat) (a3 : List Int) (k0 : Int → (List Int) → Option R) : Option R :=
 Ztn R a1 a2 (ltI ((a2 : Nat) : Int) 1) a3 fun y8 y9 y10 =>
 gd (inB 0 y9) <|
 Ztp R y8 y9 (y10.getD (y8 + 0) 0) 1 y10 fun y18 y19 =>
 k0 y18 y19
def Z5b : Z2e := Zhy
def Zau : StK := ⟨[(0, .sc (.sl 0 1 none)), (2, .sc (.i .i64)), (3, .sc (.i .i64))], [(true, [.bytes none])]⟩
def Zas : List PShape := [⟨Str, fun r => (.exit 0, ⟨[], [(0, ⟨true, [.bytes r r.length]⟩)], 1⟩)⟩]
def Zi8 (R : Type) (x3 x4 : Int) (x5 : Str) (next : Int → Int → Str → Option R) (k0 : Str → Option R) : Option R :=
 br (ltI x3 x4)
 (gd (inB x4 x5.length) <|
 lett (((x5.getD x4.toNat 0).toNat : Int)) fun (v6 : Int) =>
 gd (inB x3 x5.length) <|
 lett (((x5.getD x3.toNat 0).toNat : Int)) fun (v7 : Int) =>
 gd (inB x3 x5.length) <|
 lett (x5.set x3.toNat (UInt8.ofNat v6.toNat)) fun (v8 : Str) =>
 gd (inB x4 v8.length) <|
 lett (v8.set x4.toNat (UInt8.ofNat v7.toNat)) fun (v9 : Str) =>
 next (addI .i64 x3 1) (subI .i64 x4 1) v9)
 (k0 x5)
def Z9m (x3 x4 : Int) (x5 : Str) : Nat := 100000 + (x3.toNat + x4.toNat + x5.length)
def Z46 : Piece := { T := Zau, shapes := Zas, step := fun R x next k => Zi8 R (x.1.2.1) (x.1.2.2.1) (x.2.1.1) (fun x3 x4 x5 => next (((), x3, x4, ()), ((x5, ()), ()))) (fun z0 => k.1 z0), fuel := fun x => Z9m (x.1.2.1) (x.1.2.2.1) (x.2.1.1) }
def Zlq (R : Type) (x3 x4 : Int) (x5 : Str) (k0 : Str → Option R) : Option R :=
 runP Zau Zas (Z46).step R (Z9m x3 x4 x5) (((), x3, x4, ()), ((x5, ()), ())) (fun r => k0 (r), ())
abbrev Z5 := (R : Type) → Str → (Str → Option R) → Option R
def Zc1 (R : Type) (a1 : Str) (k0 : Str → Option R) : Option R :=
 lett (((a1.length : Nat) : Int)) fun (v2 : Int) =>
 Zlq R 0 (subI .i64 v2 1) a1 fun y10 =>
 k0 y10
def Zn : Z5 := Zc1
abbrev Zrj := (R : Type) → Str → (List Str) → (Str → Option R) → Option R
def Zko (R : Type) (a0 : Str) (a1 : List Str) (k0 : Str → Option R) : Option R :=
 gd (joinB a1 a0) (k0 (Lib.join a1 a0))
abbrev Z28 := (R : Type) → Int → Int → (Int → Int → Option R) → Option R
def Zu0 (R : Type) (a1 a2 : Int) (k0 : Int → Int → Option R) : Option R :=
 lett (mulI .u64 (andI .u64 a1 4294967295) (andI .u64 a2 4294967295)) fun (v3 : Int) =>
 lett (mulI .u64 (shrI .u64 a1 32) (andI .u64 a2 4294967295)) fun (v4 : Int) =>
 lett (addI .u64 v4 (shrI .u64 v3 32)) fun (v5 : Int) =>
 lett (mulI .u64 (andI .u64 a1 4294967295) (shrI .u64 a2 32)) fun (v6 : Int) =>
 lett (addI .u64 (andI .u64 v5 4294967295) v6) fun (v7 : Int) =>
 lett (mulI .u64 (shrI .u64 a1 32) (shrI .u64 a2 32)) fun (v8 : Int) =>
 lett (addI .u64 v8 (shrI .u64 v5 32)) fun (v9 : Int) =>
 lett (addI .u64 v9 (shrI .u64 v7 32)) fun (v10 : Int) =>
 k0 v10 (mulI .u64 a1 a2)
def Z1i : Z28 := Zu0
abbrev Zq := (R : Type) → Int → Int → Int → (Int → Int → Option R) → Option R
def Zg (R : Type) (a0 a1 a2 : Int) (k0 : Int → Int → Option R) : Option R :=
 gd (bit1 a2) (k0 (add64S a0 a1 a2) (add64C a0 a1 a2))
abbrev Zcy := (R : Type) → Int → Int → Int → (Int → Int → Option R) → Option R
def Z8v (R : Type) (a0 a1 a2 : Int) (k0 : Int → Int → Option R) : Option R :=
 gd (bit1 a2) (k0 (sub64D a0 a1 a2) (sub64B a0 a1 a2))
end
noncomputable section
abbrev Z4j := (R : Type) → Int → (Bool → Option R) → Option R
def Zxc (R : Type) (a1 : Int) (k0 : Bool → Option R) : Option R :=
 br (leI 0 a1)
 (br (ltI a1 256)
 (lett (!(eqI (andI .i64 a1 31) 31)) fun (v2 : Bool) =>
 k0 v2)
 (k0 false))
 (k0 false)
def Z4g : Z4j := Zxc
def Zpe : StK := ⟨[(5, .sc (.i .i64)), (6, .sc (.i .i64)), (36, .sc (.sl 0 1 none)), (37, .sc (.i .i64)), (38, .sc (.i .i64))], [(true, [.bytes none])]⟩
def Zpk : List PShape := [⟨Int × Int, fun r => (.exit 1, ⟨[(5, .c (.sc (.int .i64 r.1))), (6, .c (.sc (.int .i64 r.2)))], [], 0⟩)⟩]
def Zdl (R : Type) (x8 x9 x10 x11 : Int) (x12 : Str) (next : Int → Int → Int → Int → Str → Option R) (k0 : Int → Int → Option R) : Option R :=
 br (ltI x11 x10)
 (gd (inB x11 x12.length) <|
 lett (((x12.getD x11.toNat 0).toNat : Int)) fun (v13 : Int) =>
 lett (orI .i64 (shlI .i64 x8 8) (cvtI .i64 v13)) fun (v14 : Int) =>
 next v14 x9 x10 (addI .i64 x11 1) x12)
 (k0 x8 x9)
def Z9r (x8 x9 x10 x11 : Int) (x12 : Str) : Nat := 100000 + (x8.toNat + x9.toNat + x10.toNat + x11.toNat + x12.length)
def Zg1 : Piece := { T := Zpe, shapes := Zpk, step := fun R x next k => Zdl R (x.1.1) (x.1.2.1) (x.1.2.2.2.1) (x.1.2.2.2.2.1) (x.2.1.1) (fun x8 x9 x10 x11 x12 => next ((x8, x9, (), x10, x11, ()), ((x12, ()), ()))) (fun z0 z1 => k.1 (z0, z1)), fuel := fun x => Z9r (x.1.1) (x.1.2.1) (x.1.2.2.2.1) (x.1.2.2.2.2.1) (x.2.1.1) }
def Zkn (R : Type) (x8 x9 x10 x11 : Int) (x12 : Str) (k0 : Int → Int → Option R) : Option R :=
 runP Zpe Zpk (Zg1).step R (Z9r x8 x9 x10 x11 x12) ((x8, x9, (), x10, x11, ()), ((x12, ()), ())) (fun r => k0 (r.1) (r.2), ())
abbrev Zai := (R : Type) → Str → (Int → Int → Int → Option R) → Option R
def Zi1 (R : Type) (a1 : Str) (k0 : Int → Int → Int → Option R) : Option R :=
 lett (((a1.length : Nat) : Int)) fun (v2 : Int) =>
 br (ltI v2 2)
 (k0 0 0 10)
 (gd (inB 1 a1.length) <|
 lett (((a1.getD 1 0).toNat : Int)) fun (v3 : Int) =>
 br (ltI (cvtI .i64 v3) 128)
 (k0 (cvtI .i64 v3) 2 0)
 (br (eqI (cvtI .i64 v3) 128)
 (k0 0 0 11)
 (br (ltI 130 (cvtI .i64 v3))
 (k0 0 0 11)
 (lett (andI .i64 (cvtI .i64 v3) 3) fun (v4 : Int) =>
 lett (((a1.length : Nat) : Int)) fun (v5 : Int) =>
 br (ltI v5 (addI .i64 2 v4))
 (k0 0 0 10)
 (gd (leB (addI .i64 2 v4) a1.length) <|
 gd (leB 2 ((addI .i64 2 v4).toNat)) <|
 lett ((a1.take ((addI .i64 2 v4).toNat)).drop 2) fun (v6 : Str) =>
 lett (((v6.length : Nat) : Int)) fun (v7 : Int) =>
 Zkn R 0 (addI .i64 2 v4) v7 0 v6 fun y15 y16 =>
 br (ltI y15 128)
 (k0 0 0 11)
 (br (eqI y16 4)
 (br (ltI y15 256)
 (k0 0 0 11)
 (k0 y15 y16 0))
 (k0 y15 y16 0)))))))
def Z2m : Zai := Zi1
def Z12g : StK := ⟨[(0, .sc (.s)), (6, .sc (.i .i64)), (7, .sc (.i .i64)), (8, .sc (.i .i64)), (33, .sc (.b))], []⟩
def Z11u : List PShape := [⟨Str × Int × Int × Int, fun r => (.normal, ⟨[(0, .c (.sc (.str r.1))), (6, .c (.sc (.int .i64 r.2.1))), (7, .c (.sc (.int .i64 r.2.2.1))), (8, .c (.sc (.int .i64 r.2.2.2)))], [], 0⟩)⟩]
def Z15a (g0 : Z4j) (g1 : Zai) (R : Type) (x8 : Str) (x9 x10 x11 : Int) (x12 : Bool) (k0 : Str → Int → Int → Int → Option R) : Option R :=
 br (x12)
 (k0 x8 x9 x10 10)
 (k0 x8 x9 x10 x11)
def Zwt (x8 : Str) (x9 x10 x11 : Int) (x12 : Bool) : Nat := 1
def Zqh (g0 : Z4j) (g1 : Zai) : Piece := { T := Z12g, shapes := Z11u, step := fun R x next k => Z15a g0 g1 R (x.1.1) (x.1.2.1) (x.1.2.2.1) (x.1.2.2.2.1) (x.1.2.2.2.2.1) (fun z0 z1 z2 z3 => k.1 (z0, z1, z2, z3)), fuel := fun x => Zwt (x.1.1) (x.1.2.1) (x.1.2.2.1) (x.1.2.2.2.1) (x.1.2.2.2.2.1) }
def Zxy (g0 : Z4j) (g1 : Zai) (R : Type) (x8 : Str) (x9 x10 x11 : Int) (x12 : Bool) (k0 : Str → Int → Int → Int → Option R) : Option R :=
 runP Z12g Z11u (Zqh g0 g1).step R (Zwt x8 x9 x10 x11 x12) ((x8, x9, x10, x11, x12, ()), (())) (fun r => k0 (r.1) (r.2.1) (r.2.2.1) (r.2.2.2), ())
abbrev Zwu := (R : Type) → Str → (Int → Str → Str → Int → Option R) → Option R
def Ztk (g0 : Z4j) (g1 : Zai) (R : Type) (a1 : Str) (k0 : Int → Str → Str → Int → Option R) : Option R :=
 br (eqS a1 [])
 (k0 0 ([] : Str) ([] : Str) 10)
 (gd (inB 0 a1.length) <|
 lett (((a1.getD 0 0).toNat : Int)) fun (v2 : Int) =>
 g0 R (cvtI .i64 v2) fun r3 =>
 br (!r3)
 (k0 0 ([] : Str) ([] : Str) 11)
 (g1 R a1 fun r4 r5 r6 =>
 br (eqI r6 0)
 (lett (((a1.length : Nat) : Int)) fun (v7 : Int) =>
 Zxy g0 g1 R a1 r4 r5 r6 (ltI (subI .i64 v7 r5) r4) fun y13 y14 y15 y16 =>
 br (!(eqI y16 0))
 (k0 0 ([] : Str) ([] : Str) y16)
 (gd (inB 0 y13.length) <|
 lett (((y13.getD 0 0).toNat : Int)) fun (v17 : Int) =>
 gd (leB (addI .i64 y15 y14) y13.length) <|
 gd (leB y15 ((addI .i64 y15 y14).toNat)) <|
 lett ((y13.take ((addI .i64 y15 y14).toNat)).drop y15.toNat) fun (v18 : Str) =>
 gd (leB (addI .i64 y15 y14) y13.length) <|
 lett (y13.drop ((addI .i64 y15 y14).toNat)) fun (v19 : Str) =>
 k0 (cvtI .i64 v17) v18 v19 0))
 (Zxy g0 g1 R a1 r4 r5 r6 false fun y20 y21 y22 y23 =>
 br (!(eqI y23 0))
 (k0 0 ([] : Str) ([] : Str) y23)
 (gd (inB 0 y20.length) <|
 lett (((y20.getD 0 0).toNat : Int)) fun (v24 : Int) =>
 gd (leB (addI .i64 y22 y21) y20.length) <|
 gd (leB y22 ((addI .i64 y22 y21).toNat)) <|
 lett ((y20.take ((addI .i64 y22 y21).toNat)).drop y22.toNat) fun (v25 : Str) =>
 gd (leB (addI .i64 y22 y21) y20.length) <|
 lett (y20.drop ((addI .i64 y22 y21).toNat)) fun (v26 : Str) =>
 k0 (cvtI .i64 v24) v25 v26 0))))
def Z7j : Zwu := Ztk Z4g Z2m
abbrev Z2w := (R : Type) → Str → (Bool → Option R) → Option R
def Zxx (R : Type) (a1 : Str) (k0 : Bool → Option R) : Option R :=
 lett (((a1.length : Nat) : Int)) fun (v2 : Int) =>
 br (ltI 1 v2)
 (gd (inB 0 a1.length) <|
 lett (((a1.getD 0 0).toNat : Int)) fun (v3 : Int) =>
 br (eqI v3 0)
 (gd (inB 1 a1.length) <|
 lett (((a1.getD 1 0).toNat : Int)) fun (v4 : Int) =>
 br (eqI (shrI .u8 v4 7) 0)
 (k0 true)
 (gd (inB 0 a1.length) <|
 lett (((a1.getD 0 0).toNat : Int)) fun (v5 : Int) =>
 br (eqI v5 255)
 (gd (inB 1 a1.length) <|
 lett (((a1.getD 1 0).toNat : Int)) fun (v6 : Int) =>
 k0 (eqI (shrI .u8 v6 7) 1))
 (k0 false)))
 (gd (inB 0 a1.length) <|
 lett (((a1.getD 0 0).toNat : Int)) fun (v7 : Int) =>
 br (eqI v7 255)
 (gd (inB 1 a1.length) <|
 lett (((a1.getD 1 0).toNat : Int)) fun (v8 : Int) =>
 k0 (eqI (shrI .u8 v8 7) 1))
 (k0 false)))
 (k0 false)
def Z1u : Z2w := Zxx
def Zmm : StK := ⟨[(4, .sc (.i .i64)), (23, .sc (.sl 0 1 none)), (24, .sc (.i .i64)), (25, .sc (.i .i64))], [(true, [.bytes none])]⟩
def Zmf : List PShape := [⟨Int, fun r => (.exit 1, ⟨[(4, .c (.sc (.int .i64 r)))], [], 0⟩)⟩]
def Zbx (g0 : Z2w) (R : Type) (x6 x7 x8 : Int) (x9 : Str) (next : Int → Int → Int → Str → Option R) (k0 : Int → Option R) : Option R :=
 br (ltI x8 x7)
 (gd (inB x8 x9.length) <|
 lett (((x9.getD x8.toNat 0).toNat : Int)) fun (v10 : Int) =>
 lett (orI .i64 (shlI .i64 x6 8) (cvtI .i64 v10)) fun (v11 : Int) =>
 next v11 x7 (addI .i64 x8 1) x9)
 (k0 x6)
def Z93 (x6 x7 x8 : Int) (x9 : Str) : Nat := 100000 + (x6.toNat + x7.toNat + x8.toNat + x9.length)
def Ze4 (g0 : Z2w) : Piece := { T := Zmm, shapes := Zmf, step := fun R x next k => Zbx g0 R (x.1.1) (x.1.2.2.1) (x.1.2.2.2.1) (x.2.1.1) (fun x6 x7 x8 x9 => next ((x6, (), x7, x8, ()), ((x9, ()), ()))) (fun z0 => k.1 z0), fuel := fun x => Z93 (x.1.1) (x.1.2.2.1) (x.1.2.2.2.1) (x.2.1.1) }
def Zym (g0 : Z2w) (R : Type) (x6 x7 x8 : Int) (x9 : Str) (k0 : Int → Option R) : Option R :=
 runP Zmm Zmf (Ze4 g0).step R (Z93 x6 x7 x8 x9) ((x6, (), x7, x8, ()), ((x9, ()), ())) (fun r => k0 (r), ())
abbrev Zmt := (R : Type) → Str → (Int → Int → Option R) → Option R
def Zsu (g0 : Z2w) (R : Type) (a1 : Str) (k0 : Int → Int → Option R) : Option R :=
 br (eqS a1 [])
 (k0 0 10)
 (g0 R a1 fun r2 =>
 br (r2)
 (k0 0 11)
 (lett (((a1.length : Nat) : Int)) fun (v3 : Int) =>
 br (ltI 8 v3)
 (k0 0 13)
 (gd (inB 0 a1.length) <|
 lett (((a1.getD 0 0).toNat : Int)) fun (v4 : Int) =>
 gd (leB 1 a1.length) <|
 lett ((((a1.drop 1).length : Nat) : Int)) fun (v5 : Int) =>
 Zym g0 R (cvtI .i64 (cvtI .i8 v4)) v5 0 (a1.drop 1) fun y12 =>
 k0 y12 0)))
def Zb7 : Zmt := Zsu Z1u
def Zoq : StK := ⟨[(0, .sc (.nilsl)), (1, .sc (.i .i64)), (5, .sc (.sl 0 1 none)), (7, .sc (.i .u8)), (13, .sc (.b))], [(true, [.bytes none])]⟩
def Zom : List PShape := [⟨Int × Int × Str, fun r => (.normal, ⟨[(0, .c (.sc (.nilsl))), (1, .c (.sc (.int .i64 r.1))), (5, .c (.sc (.slice 0 1 none none))), (7, .c (.sc (.int .u8 r.2.1)))], [(0, ⟨true, [.bytes r.2.2 r.2.2.length]⟩)], 1⟩)⟩]
def Zy1 (g0 : Z5) (R : Type) (x14 x15 : Int) (x16 : Bool) (x17 : Str) (k0 : Int → Int → Str → Option R) : Option R :=
 br (x16)
 (k0 x14 0 x17)
 (k0 x14 x15 x17)
def Zkf (x14 x15 : Int) (x16 : Bool) (x17 : Str) : Nat := 1
def Zbw (g0 : Z5) : Piece := { T := Zoq, shapes := Zom, step := fun R x next k => Zy1 g0 R (x.1.2.1) (x.1.2.2.2.1) (x.1.2.2.2.2.1) (x.2.1.1) (fun z0 z1 z2 => k.1 (z0, z1, z2)), fuel := fun x => Zkf (x.1.2.1) (x.1.2.2.2.1) (x.1.2.2.2.2.1) (x.2.1.1) }
def Zrf (g0 : Z5) (R : Type) (x14 x15 : Int) (x16 : Bool) (x17 : Str) (k0 : Int → Int → Str → Option R) : Option R :=
 runP Zoq Zom (Zbw g0).step R (Zkf x14 x15 x16 x17) (((), x14, (), x15, x16, ()), ((x17, ()), ())) (fun r => k0 (r.1) (r.2.1) (r.2.2), ())
def Zoj : StK := ⟨[(0, .sc (.nilsl)), (1, .sc (.i .i64)), (5, .sc (.sl 0 1 none)), (6, .sc (.b))], [(true, [.bytes none])]⟩
def Zot : List PShape := [⟨Str, fun r => (.exit 0, ⟨[(0, .c (.sc (.nilsl))), (5, .c (.sc (.slice 0 1 none none)))], [(0, ⟨true, [.bytes r r.length]⟩)], 1⟩)⟩]
def Zxo (g0 : Z5) (R : Type) (x11 : Int) (x12 : Bool) (x13 : Str) (next : Int → Bool → Str → Option R) (k0 : Str → Option R) : Option R :=
 br (x12)
 (Zrf g0 R x11 128 x12 x13 fun y18 y19 y20 =>
 lett (cvtI .u8 (andI .i64 y18 127)) fun (v21 : Int) =>
 lett ([UInt8.ofNat ((orI .u8 y19 v21).toNat)]) fun (v22 : Str) =>
 gd (appB y20.length v22.length 1) <|
 next (shrI .i64 y18 7) false (y20 ++ v22))
 (br (ltI 0 x11)
 (Zrf g0 R x11 128 x12 x13 fun y23 y24 y25 =>
 lett (cvtI .u8 (andI .i64 y23 127)) fun (v26 : Int) =>
 lett ([UInt8.ofNat ((orI .u8 y24 v26).toNat)]) fun (v27 : Str) =>
 gd (appB y25.length v27.length 1) <|
 next (shrI .i64 y23 7) false (y25 ++ v27))
 (k0 x13))
def Zk6 (x11 : Int) (x12 : Bool) (x13 : Str) : Nat := 100000 + (x11.toNat + x13.length)
def Zc2 (g0 : Z5) : Piece := { T := Zoj, shapes := Zot, step := fun R x next k => Zxo g0 R (x.1.2.1) (x.1.2.2.2.1) (x.2.1.1) (fun x11 x12 x13 => next (((), x11, (), x12, ()), ((x13, ()), ()))) (fun z0 => k.1 z0), fuel := fun x => Zk6 (x.1.2.1) (x.1.2.2.2.1) (x.2.1.1) }
def Z12l (g0 : Z5) (R : Type) (x11 : Int) (x12 : Bool) (x13 : Str) (k0 : Str → Option R) : Option R :=
 runP Zoj Zot (Zc2 g0).step R (Zk6 x11 x12 x13) (((), x11, (), x12, ()), ((x13, ()), ())) (fun r => k0 (r), ())
abbrev Z4s := (R : Type) → Int → (Str → Option R) → Option R
def Zsv (g0 : Z5) (R : Type) (a1 : Int) (k0 : Str → Option R) : Option R :=
 Z12l g0 R a1 true ([] : Str) fun y28 =>
 g0 R y28 fun r29 =>
 gd (appB 0 r29.length 1) <|
 k0 (([] : Str) ++ r29)
def Zam : Z4s := Zsv Zn
def Zop : StK := ⟨[(0, .sc (.sl 0 1 none)), (1, .sc (.i .i64)), (5, .sc (.sl 1 1 none)), (7, .sc (.i .u8)), (13, .sc (.b))], [(true, [.bytes none]), (true, [.bytes none])]⟩
def Zor : List PShape := [⟨Int × Int × Str × Str, fun r => (.normal, ⟨[(0, .c (.sc (.slice 0 1 none none))), (1, .c (.sc (.int .i64 r.1))), (5, .c (.sc (.slice 1 1 none none))), (7, .c (.sc (.int .u8 r.2.1)))], [(0, ⟨true, [.bytes r.2.2.1 r.2.2.1.length]⟩), (1, ⟨true, [.bytes r.2.2.2 r.2.2.2.length]⟩)], 2⟩)⟩]
def Zx7 (g0 : Z5) (R : Type) (x19 x20 : Int) (x21 : Bool) (x22 x23 : Str) (k0 : Int → Int → Str → Str → Option R) : Option R :=
 br (x21)
 (k0 x19 0 x22 x23)
 (k0 x19 x20 x22 x23)
def Zk0 (x19 x20 : Int) (x21 : Bool) (x22 x23 : Str) : Nat := 1
def Zc0 (g0 : Z5) : Piece := { T := Zop, shapes := Zor, step := fun R x next k => Zx7 g0 R (x.1.2.1) (x.1.2.2.2.1) (x.1.2.2.2.2.1) (x.2.1.1) (x.2.2.1.1) (fun z0 z1 z2 z3 => k.1 (z0, z1, z2, z3)), fuel := fun x => Zk0 (x.1.2.1) (x.1.2.2.2.1) (x.1.2.2.2.2.1) (x.2.1.1) (x.2.2.1.1) }
def Zqu (g0 : Z5) (R : Type) (x19 x20 : Int) (x21 : Bool) (x22 x23 : Str) (k0 : Int → Int → Str → Str → Option R) : Option R :=
 runP Zop Zor (Zc0 g0).step R (Zk0 x19 x20 x21 x22 x23) (((), x19, (), x20, x21, ()), ((x22, ()), (x23, ()), ())) (fun r => k0 (r.1) (r.2.1) (r.2.2.1) (r.2.2.2), ())
def Zos : StK := ⟨[(0, .sc (.sl 0 1 none)), (1, .sc (.i .i64)), (5, .sc (.sl 1 1 none)), (6, .sc (.b))], [(true, [.bytes none]), (true, [.bytes none])]⟩
def Zov : List PShape := [⟨Str × Str, fun r => (.exit 0, ⟨[(0, .c (.sc (.slice 0 1 none none))), (5, .c (.sc (.slice 1 1 none none)))], [(0, ⟨true, [.bytes r.1 r.1.length]⟩), (1, ⟨true, [.bytes r.2 r.2.length]⟩)], 2⟩)⟩]
def Zxu (g0 : Z5) (R : Type) (x15 : Int) (x16 : Bool) (x17 x18 : Str) (next : Int → Bool → Str → Str → Option R) (k0 : Str → Str → Option R) : Option R :=
 br (x16)
 (Zqu g0 R x15 128 x16 x17 x18 fun y24 y25 y26 y27 =>
 lett (cvtI .u8 (andI .i64 y24 127)) fun (v28 : Int) =>
 lett ([UInt8.ofNat ((orI .u8 y25 v28).toNat)]) fun (v29 : Str) =>
 gd (appB y27.length v29.length 1) <|
 next (shrI .i64 y24 7) false y26 (y27 ++ v29))
 (br (ltI 0 x15)
 (Zqu g0 R x15 128 x16 x17 x18 fun y30 y31 y32 y33 =>
 lett (cvtI .u8 (andI .i64 y30 127)) fun (v34 : Int) =>
 lett ([UInt8.ofNat ((orI .u8 y31 v34).toNat)]) fun (v35 : Str) =>
 gd (appB y33.length v35.length 1) <|
 next (shrI .i64 y30 7) false y32 (y33 ++ v35))
 (k0 x17 x18))
def Zkb (x15 : Int) (x16 : Bool) (x17 x18 : Str) : Nat := 100000 + (x15.toNat + x17.length + x18.length)
def Zbz (g0 : Z5) : Piece := { T := Zos, shapes := Zov, step := fun R x next k => Zxu g0 R (x.1.2.1) (x.1.2.2.2.1) (x.2.1.1) (x.2.2.1.1) (fun x15 x16 x17 x18 => next (((), x15, (), x16, ()), ((x17, ()), (x18, ()), ()))) (fun z0 z1 => k.1 (z0, z1)), fuel := fun x => Zkb (x.1.2.1) (x.1.2.2.2.1) (x.2.1.1) (x.2.2.1.1) }
def Z129 (g0 : Z5) (R : Type) (x15 : Int) (x16 : Bool) (x17 x18 : Str) (k0 : Str → Str → Option R) : Option R :=
 runP Zos Zov (Zbz g0).step R (Zkb x15 x16 x17 x18) (((), x15, (), x16, ()), ((x17, ()), (x18, ()), ())) (fun r => k0 (r.1) (r.2), ())
abbrev Z4q := (R : Type) → Int → Str → (Str → Option R) → Option R
def Zt0 (g0 : Z5) (R : Type) (a1 : Int) (a2 : Str) (k0 : Str → Option R) : Option R :=
 Z129 g0 R a1 true a2 ([] : Str) fun y36 y37 =>
 g0 R y37 fun r38 =>
 gd (appB y36.length r38.length 1) <|
 k0 (y36 ++ r38)
def Zb5 : Z4q := Zt0 Zn
def Z10i : StK := ⟨[(1, .sc (.s)), (6, .sc (.i .i64)), (7, .sc (.sl 0 1 none))], [(true, [.bytes none])]⟩
def Z10n : List PShape := [⟨Str × Str, fun r => (.normal, ⟨[(1, .c (.sc (.str r.1))), (7, .c (.sc (.slice 0 1 none none)))], [(0, ⟨true, [.bytes r.2 r.2.length]⟩)], 1⟩)⟩]
def Zl9 (g0 : Z4j) (R : Type) (x6 : Str) (x7 : Int) (x8 : Str) (k0 : Str → Str → Option R) : Option R :=
 br (ltI x7 128)
 (lett ([UInt8.ofNat ((cvtI .u8 x7).toNat)]) fun (v9 : Str) =>
 gd (appB x8.length v9.length 1) <|
 k0 x6 (x8 ++ v9))
 (br (ltI x7 256)
 (lett ([UInt8.ofNat 129, UInt8.ofNat ((cvtI .u8 x7).toNat)]) fun (v10 : Str) =>
 gd (appB x8.length v10.length 1) <|
 k0 x6 (x8 ++ v10))
 (lett (cvtI .u8 (shrI .i64 x7 8)) fun (v11 : Int) =>
 lett ([UInt8.ofNat 130, UInt8.ofNat v11.toNat, UInt8.ofNat ((cvtI .u8 x7).toNat)]) fun (v12 : Str) =>
 gd (appB x8.length v12.length 1) <|
 k0 x6 (x8 ++ v12)))
def Zug (x6 : Str) (x7 : Int) (x8 : Str) : Nat := 1
def Zng (g0 : Z4j) : Piece := { T := Z10i, shapes := Z10n, step := fun R x next k => Zl9 g0 R (x.1.1) (x.1.2.1) (x.2.1.1) (fun z0 z1 => k.1 (z0, z1)), fuel := fun x => Zug (x.1.1) (x.1.2.1) (x.2.1.1) }
def Z12k (g0 : Z4j) (R : Type) (x6 : Str) (x7 : Int) (x8 : Str) (k0 : Str → Str → Option R) : Option R :=
 runP Z10i Z10n (Zng g0).step R (Zug x6 x7 x8) ((x6, x7, (), ()), ((x8, ()), ())) (fun r => k0 (r.1) (r.2), ())
abbrev Z26 := (R : Type) → Int → Str → (Str → Int → Option R) → Option R
def Zxs (g0 : Z4j) (R : Type) (a1 : Int) (a2 : Str) (k0 : Str → Int → Option R) : Option R :=
 lett (((a2.length : Nat) : Int)) fun (v3 : Int) =>
 g0 R a1 fun r4 =>
 br (!r4)
 (k0 ([] : Str) 1)
 (br (ltI 65535 v3)
 (k0 ([] : Str) 13)
 (lett ([UInt8.ofNat ((cvtI .u8 a1).toNat)]) fun (v5 : Str) =>
 Z12k g0 R a2 v3 v5 fun y13 y14 =>
 gd (catB y14 y13) <|
 k0 (y14 ++ y13) 0))
def Z1s : Z26 := Zxs Z4g
def Zwl : StK := ⟨[(4, .sc (.sl 1 1 none)), (65, .sc (.slr 0 1 none)), (66, .sc (.i .i64)), (67, .sc (.i .i64))], [(true, [.ints .i64 none]), (true, [.bytes none])]⟩
def Zwg : List PShape := [⟨(List Int) × Str, fun r => (.exit 1, ⟨[(4, .c (.sc (.slice 1 1 none none)))], [(0, ⟨true, [.ints .i64 r.1 r.1.length]⟩), (1, ⟨true, [.bytes r.2 r.2.length]⟩)], 2⟩)⟩]
def Z11q (g0 : Z2f) (g1 : Z2e) (g2 : Z4s) (g3 : Z4q) (g4 : Z26) (R : Type) (x14 x15 : Nat) (x16 x17 : Int) (x18 : List Int) (x19 : Str) (next : Nat → Nat → Int → Int → (List Int) → Str → Option R) (k0 : (List Int) → Str → Option R) : Option R :=
 br (ltI x17 x16)
 (gd (inB x17 x15) <|
 lett (x18.getD (x14 + x17.toNat) 0) fun (v20 : Int) =>
 g3 R v20 x19 fun r21 =>
 next x14 x15 x16 (addI .i64 x17 1) x18 r21)
 (k0 x18 x19)
def Zre (x14 x15 : Nat) (x16 x17 : Int) (x18 : List Int) (x19 : Str) : Nat := 100000 + (x14 + x15 + x16.toNat + x17.toNat + x18.length + x19.length)
def Zi3 (g0 : Z2f) (g1 : Z2e) (g2 : Z4s) (g3 : Z4q) (g4 : Z26) : Piece := { T := Zwl, shapes := Zwg, step := fun R x next k => Z11q g0 g1 g2 g3 g4 R (x.1.2.1.1) (x.1.2.1.2) (x.1.2.2.1) (x.1.2.2.2.1) (x.2.1.1) (x.2.2.1.1) (fun x14 x15 x16 x17 x18 x19 => next (((), (x14, x15), x16, x17, ()), ((x18, ()), (x19, ()), ()))) (fun z0 z1 => k.1 (z0, z1)), fuel := fun x => Zre (x.1.2.1.1) (x.1.2.1.2) (x.1.2.2.1) (x.1.2.2.2.1) (x.2.1.1) (x.2.2.1.1) }
def Zif (g0 : Z2f) (g1 : Z2e) (g2 : Z4s) (g3 : Z4q) (g4 : Z26) (R : Type) (x14 x15 : Nat) (x16 x17 : Int) (x18 : List Int) (x19 : Str) (k0 : (List Int) → Str → Option R) : Option R :=
 runP Zwl Zwg (Zi3 g0 g1 g2 g3 g4).step R (Zre x14 x15 x16 x17 x18 x19) (((), (x14, x15), x16, x17, ()), ((x18, ()), (x19, ()), ())) (fun r => k0 (r.1) (r.2), ())
abbrev Zn0 := (R : Type) → (List Int) → (Str → Int → (List Int) → Option R) → Option R
def Z10m (g0 : Z2f) (g1 : Z2e) (g2 : Z4s) (g3 : Z4q) (g4 : Z26) (R : Type) (a1 : List Int) (k0 : Str → Int → (List Int) → Option R) : Option R :=
 lett (((a1.length : Nat) : Int)) fun (v2 : Int) =>
 br (ltI v2 2)
 (k0 ([] : Str) 1 a1)
 (g0 R a1 fun r3 r4 =>
 br (ltI r3 0)
 (k0 ([] : Str) 1 r4)
 (gd (inB 0 r4.length) <|
 br (ltI 2 (r4.getD 0 0))
 (k0 ([] : Str) 1 r4)
 (gd (inB 0 r4.length) <|
 br (ltI (r4.getD 0 0) 2)
 (gd (inB 1 r4.length) <|
 br (ltI 39 (r4.getD 1 0))
 (k0 ([] : Str) 1 r4)
 (gd (inB 1 r4.length) <|
 lett (ltI 1000000 (r4.getD 1 0)) fun (v5 : Bool) =>
 br (v5)
 (k0 ([] : Str) 1 r4)
 (lett (((r4.length : Nat) : Int)) fun (v6 : Int) =>
 br (ltI 20 v6)
 (k0 ([] : Str) 13 r4)
 (lett (((r4.length : Nat) : Int)) fun (v7 : Int) =>
 br (ltI 2 v7)
 (gd (leB 2 r4.length) <|
 g1 R 2 (r4.length - 2) r4 fun r8 r9 =>
 br (ltI 268435455 r8)
 (k0 ([] : Str) 13 r9)
 (gd (inB 0 r9.length) <|
 lett (mulI .i64 40 (r9.getD 0 0)) fun (v10 : Int) =>
 gd (inB 1 r9.length) <|
 lett (addI .i64 v10 (r9.getD 1 0)) fun (v11 : Int) =>
 g2 R v11 fun r12 =>
 gd (leB 2 r9.length) <|
 lett (((r9.length - 2 : Nat) : Int)) fun (v13 : Int) =>
 Zif g0 g1 g2 g3 g4 R 2 (r9.length - 2) v13 0 r9 r12 fun y22 y23 =>
 g4 R 6 y23 fun r24 r25 =>
 k0 r24 r25 y22))
 (gd (inB 0 r4.length) <|
 lett (mulI .i64 40 (r4.getD 0 0)) fun (v26 : Int) =>
 gd (inB 1 r4.length) <|
 lett (addI .i64 v26 (r4.getD 1 0)) fun (v27 : Int) =>
 g2 R v27 fun r28 =>
 gd (leB 2 r4.length) <|
 lett (((r4.length - 2 : Nat) : Int)) fun (v29 : Int) =>
 Zif g0 g1 g2 g3 g4 R 2 (r4.length - 2) v29 0 r4 r28 fun y30 y31 =>
 g4 R 6 y31 fun r32 r33 =>
 k0 r32 r33 y30)))))
 (gd (inB 1 r4.length) <|
 lett (ltI 1000000 (r4.getD 1 0)) fun (v34 : Bool) =>
 br (v34)
 (k0 ([] : Str) 1 r4)
 (lett (((r4.length : Nat) : Int)) fun (v35 : Int) =>
 br (ltI 20 v35)
 (k0 ([] : Str) 13 r4)
 (lett (((r4.length : Nat) : Int)) fun (v36 : Int) =>
 br (ltI 2 v36)
 (gd (leB 2 r4.length) <|
 g1 R 2 (r4.length - 2) r4 fun r37 r38 =>
 br (ltI 268435455 r37)
 (k0 ([] : Str) 13 r38)
 (gd (inB 0 r38.length) <|
 lett (mulI .i64 40 (r38.getD 0 0)) fun (v39 : Int) =>
 gd (inB 1 r38.length) <|
 lett (addI .i64 v39 (r38.getD 1 0)) fun (v40 : Int) =>
 g2 R v40 fun r41 =>
 gd (leB 2 r38.length) <|
 lett (((r38.length - 2 : Nat) : Int)) fun (v42 : Int) =>
 Zif g0 g1 g2 g3 g4 R 2 (r38.length - 2) v42 0 r38 r41 fun y43 y44 =>
 g4 R 6 y44 fun r45 r46 =>
 k0 r45 r46 y43))
 (gd (inB 0 r4.length) <|
 lett (mulI .i64 40 (r4.getD 0 0)) fun (v47 : Int) =>
 gd (inB 1 r4.length) <|
 lett (addI .i64 v47 (r4.getD 1 0)) fun (v48 : Int) =>
 g2 R v48 fun r49 =>
 gd (leB 2 r4.length) <|
 lett (((r4.length - 2 : Nat) : Int)) fun (v50 : Int) =>
 Zif g0 g1 g2 g3 g4 R 2 (r4.length - 2) v50 0 r4 r49 fun y51 y52 =>
 g4 R 6 y52 fun r53 r54 =>
 k0 r53 r54 y51)))))))
def Zud : Zn0 := Z10m Z59 Z5b Zam Zb5 Z1s
def Zxg : StK := ⟨[(0, .sc (.i .i64)), (3, .sc (.ptr 0 0 0 0 0)), (8, .sc (.i .i64))], [(true, [.bytes (some 8)])]⟩
def Zxt : List PShape := [⟨Str, fun r => (.exit 0, ⟨[(3, .c (.sc (.ptr 0 0 0 0 0)))], [(0, ⟨true, [.bytes r 8]⟩)], 1⟩)⟩]
def Zi2 (g0 : Z2w) (g1 : Z26) (R : Type) (x3 x4 : Int) (x5 : Str) (next : Int → Int → Str → Option R) (k0 : Str → Option R) : Option R :=
 br (ltI x4 8)
 (lett (subI .i64 56 (mulI .i64 8 x4)) fun (v6 : Int) =>
 gd (leI 0 v6) <|
 lett (cvtI .u8 (shrI .i64 x3 v6)) fun (v7 : Int) =>
 gd (inB x4 8) <|
 lett (x5.set x4.toNat (UInt8.ofNat v7.toNat)) fun (v8 : Str) =>
 next x3 (addI .i64 x4 1) v8)
 (k0 x5)
def Zen (x3 x4 : Int) (x5 : Str) : Nat := 100000 + (x3.toNat + x4.toNat + x5.length)
def Zmx (g0 : Z2w) (g1 : Z26) : Piece := { T := Zxg, shapes := Zxt, step := fun R x next k => Zi2 g0 g1 R (x.1.1) (x.1.2.2.1) (x.2.1.1) (fun x3 x4 x5 => next ((x3, (), x4, ()), ((x5, ()), ()))) (fun z0 => k.1 z0), fuel := fun x => Zen (x.1.1) (x.1.2.2.1) (x.2.1.1) }
def Z155 (g0 : Z2w) (g1 : Z26) (R : Type) (x3 x4 : Int) (x5 : Str) (k0 : Str → Option R) : Option R :=
 runP Zxg Zxt (Zmx g0 g1).step R (Zen x3 x4 x5) ((x3, (), x4, ()), ((x5, ()), ())) (fun r => k0 (r), ())
def Zxb : StK := ⟨[(5, .sc (.s))], []⟩
def Zx5 : List PShape := [⟨Str, fun r => (.exit 2, ⟨[(5, .c (.sc (.str r)))], [], 0⟩)⟩]
def Zpo (g0 : Z2w) (g1 : Z26) (R : Type) (x10 : Str) (next : Str → Option R) (k0 : Str → Option R) : Option R :=
 g0 R x10 fun r11 =>
 br (r11)
 (gd (leB 1 x10.length) <|
 next (x10.drop 1))
 (k0 x10)
def Zic (x10 : Str) : Nat := 100000 + (x10.length)
def Zme (g0 : Z2w) (g1 : Z26) : Piece := { T := Zxb, shapes := Zx5, step := fun R x next k => Zpo g0 g1 R (x.1.1) (fun x10 => next ((x10, ()), (()))) (fun z0 => k.1 z0), fuel := fun x => Zic (x.1.1) }
def Zzv (g0 : Z2w) (g1 : Z26) (R : Type) (x10 : Str) (k0 : Str → Option R) : Option R :=
 runP Zxb Zx5 (Zme g0 g1).step R (Zic x10) ((x10, ()), (())) (fun r => k0 (r), ())
abbrev Zzz := (R : Type) → Int → (Str → Option R) → Option R
def Z12m (g0 : Z2w) (g1 : Z26) (R : Type) (a1 : Int) (k0 : Str → Option R) : Option R :=
 lett (List.replicate 8 (0 : UInt8)) fun (v2 : Str) =>
 Z155 g0 g1 R a1 0 v2 fun y9 =>
 Zzv g0 g1 R ((y9.drop 0).take 8) fun y12 =>
 g1 R 2 y12 fun r13 r14 =>
 k0 r13
def Zv1 : Zzz := Z12m Z1u Z1s
end
noncomputable section
def Zkq (R : Type) (n : Nat) (x8 x9 x10 x11 : Int) (x12 : Str) (k0 : Int → Int → Option R) : Option R :=
 runP Zpe Zpk (Zg1).step R n ((x8, x9, (), x10, x11, ()), ((x12, ()), ())) (fun r => k0 (r.1) (r.2), ())
theorem Zrb (R : Type) (n : Nat) (x8 x9 x10 x11 : Int) (x12 : Str) (k0 : Int → Int → Option R) : Zkq R (n + 1) x8 x9 x10 x11 x12 k0 = Zdl R x8 x9 x10 x11 x12 (fun x8 x9 x10 x11 x12 => Zkq R n x8 x9 x10 x11 x12 k0) k0 := rfl
theorem Z15g (R : Type) (x8 x9 x10 x11 : Int) (x12 : Str) (k0 : Int → Int → Option R) : Zkn R x8 x9 x10 x11 x12 k0 = Zkq R (Z9r x8 x9 x10 x11 x12) x8 x9 x10 x11 x12 k0 := rfl
def Zi7 (R : Type) (n : Nat) (x6 x7 x8 : Int) (x9 : Str) (k0 : Int → Option R) : Option R :=
 runP Zmm Zmf (Ze4 Z1u).step R n ((x6, (), x7, x8, ()), ((x9, ()), ())) (fun r => k0 (r), ())
theorem Zoi (R : Type) (n : Nat) (x6 x7 x8 : Int) (x9 : Str) (k0 : Int → Option R) : Zi7 R (n + 1) x6 x7 x8 x9 k0 = Zbx Z1u R x6 x7 x8 x9 (fun x6 x7 x8 x9 => Zi7 R n x6 x7 x8 x9 k0) k0 := rfl
theorem Z13v (R : Type) (x6 x7 x8 : Int) (x9 : Str) (k0 : Int → Option R) : Zym Z1u R x6 x7 x8 x9 k0 = Zi7 R (Z93 x6 x7 x8 x9) x6 x7 x8 x9 k0 := rfl
def Ztg (R : Type) (n : Nat) (x3 x4 : Int) (x5 : Str) (k0 : Str → Option R) : Option R :=
 runP Zxg Zxt (Zmx Z1u Z1s).step R n ((x3, (), x4, ()), ((x5, ()), ())) (fun r => k0 (r), ())
theorem Zwi (R : Type) (n : Nat) (x3 x4 : Int) (x5 : Str) (k0 : Str → Option R) : Ztg R (n + 1) x3 x4 x5 k0 = Zi2 Z1u Z1s R x3 x4 x5 (fun x3 x4 x5 => Ztg R n x3 x4 x5 k0) k0 := rfl
theorem Z17f (R : Type) (x3 x4 : Int) (x5 : Str) (k0 : Str → Option R) : Z155 Z1u Z1s R x3 x4 x5 k0 = Ztg R (Zen x3 x4 x5) x3 x4 x5 k0 := rfl
def Zt9 (R : Type) (n : Nat) (x10 : Str) (k0 : Str → Option R) : Option R :=
 runP Zxb Zx5 (Zme Z1u Z1s).step R n ((x10, ()), (())) (fun r => k0 (r), ())
theorem Z151 (R : Type) (n : Nat) (x10 : Str) (k0 : Str → Option R) : Zt9 R (n + 1) x10 k0 = Zpo Z1u Z1s R x10 (fun x10 => Zt9 R n x10 k0) k0 := rfl
theorem Z17j (R : Type) (x10 : Str) (k0 : Str → Option R) : Zzv Z1u Z1s R x10 k0 = Zt9 R (Zic x10) x10 k0 := rfl
end
structure Rot (n : Int) (l : List Int) : Prop where
  r0 : 0 ≤ l.getD 0 0 ∧ l.getD 0 0 ≤ n
  r1 : 0 ≤ l.getD 1 0 ∧ l.getD 1 0 ≤ n
  r2 : 0 ≤ l.getD 2 0 ∧ l.getD 2 0 ≤ n
instance (n : Int) (l : List Int) : Decidable (Rot n l) :=
  decidable_of_iff ((0 ≤ l.getD 0 0 ∧ l.getD 0 0 ≤ n) ∧ (0 ≤ l.getD 1 0 ∧ l.getD 1 0 ≤ n) ∧ (0 ≤ l.getD 2 0 ∧ l.getD 2 0 ≤ n)) ⟨fun h => ⟨h.1, h.2.1, h.2.2⟩, fun h => ⟨h.r0, h.r1, h.r2⟩⟩
theorem getD_len {l : List Str} {B : Nat} (h : ∀ t ∈ l, t.length ≤ B) (i : Nat) : (l.getD i []).length ≤ B := by
  rw [List.getD_eq_getElem?_getD]
  cases hx : l[i]? with
  | none => simp
  | some x => exact h x (List.mem_of_getElem? hx)
section
variable {A0 : Type}
abbrev F_1 (A0 : Type) := (R : Type) → (A0 → Option R) → Option R
def T_1 (G : F_1 A0) (Q0 : A0 → Prop) : Prop := (∃ v0, Q0 v0 ∧ ∀ R k0, G R k0 = k0 v0)
variable {G H : F_1 A0} {Q0 : A0 → Prop}
theorem T_1.of (h : Tot (fun R (k : (A0) → Option R) => G R (fun v0 => k (v0))) (fun p => Q0 p)) : T_1 G Q0 := by
 obtain ⟨v0, hq, e⟩ := h
 · exact ⟨v0, hq, fun R k0 => e R (fun p => k0 p)⟩
theorem T_1.bind {B : Type} {Q : B → Prop} {X0 : A0 → (R : Type) → (B → Option R) → Option R} (h : T_1 G Q0) (h0 : ∀ v0, Q0 v0 → Tot (X0 v0) Q) : Tot (fun R k => G R (fun v0 => X0 v0 R k)) Q := by
 rcases h with ⟨v0, hq, e⟩
 · obtain ⟨v, hv, e2⟩ := h0 v0 hq
   exact ⟨v, hv, fun R k => (e R _).trans (e2 R k)⟩
end
section
variable {A0 A1 : Type}
abbrev F_2 (A0 A1 : Type) := (R : Type) → (A0 → A1 → Option R) → Option R
def T_2 (G : F_2 A0 A1) (Q0 : A0 → A1 → Prop) : Prop := (∃ v0 v1, Q0 v0 v1 ∧ ∀ R k0, G R k0 = k0 v0 v1)
variable {G H : F_2 A0 A1} {Q0 : A0 → A1 → Prop}
theorem T_2.of (h : Tot (fun R (k : (A0 × A1) → Option R) => G R (fun v0 v1 => k ((v0, v1)))) (fun p => Q0 p.1 p.2)) : T_2 G Q0 := by
 obtain ⟨⟨v0, v1⟩, hq, e⟩ := h
 · exact ⟨v0, v1, hq, fun R k0 => e R (fun p => k0 p.1 p.2)⟩
theorem T_2.bind {B : Type} {Q : B → Prop} {X0 : A0 → A1 → (R : Type) → (B → Option R) → Option R} (h : T_2 G Q0) (h0 : ∀ v0 v1, Q0 v0 v1 → Tot (X0 v0 v1) Q) : Tot (fun R k => G R (fun v0 v1 => X0 v0 v1 R k)) Q := by
 rcases h with ⟨v0, v1, hq, e⟩
 · obtain ⟨v, hv, e2⟩ := h0 v0 v1 hq
   exact ⟨v, hv, fun R k => (e R _).trans (e2 R k)⟩
theorem T_2.congr (h : ∀ R k0, G R k0 = H R k0) (t : T_2 H Q0) : T_2 G Q0 := by
 have e : G = H := by funext R k0; exact h R k0
 rw [e]; exact t
end
section
variable {A0 A1 A2 A3 : Type}
abbrev Z194 (A0 A1 A2 A3 : Type) := (R : Type) → (A0 → A1 → A2 → Option R) → (A3 → Option R) → Option R
def Zwe (G : Z194 A0 A1 A2 A3) (Q0 : A0 → A1 → A2 → Prop) (Q1 : A3 → Prop) : Prop := (∃ v0 v1 v2, Q0 v0 v1 v2 ∧ ∀ R k0 k1, G R k0 k1 = k0 v0 v1 v2) ∨ (∃ v3, Q1 v3 ∧ ∀ R k0 k1, G R k0 k1 = k1 v3)
variable {G H : Z194 A0 A1 A2 A3} {Q0 : A0 → A1 → A2 → Prop} {Q1 : A3 → Prop}
theorem Zwe.of (h : Tot (fun R (k : (A0 × A1 × A2) ⊕ (A3) → Option R) => G R (fun v0 v1 v2 => k (.inl (v0, v1, v2))) (fun v3 => k (.inr (v3)))) (Sum.elim (fun p => Q0 p.1 p.2.1 p.2.2) (fun p => Q1 p))) : Zwe G Q0 Q1 := by
 obtain ⟨v, hq, e⟩ := h
 rcases v with ⟨v0, v1, v2⟩ | v3
 · exact Or.inl ⟨v0, v1, v2, hq, fun R k0 k1 => e R (Sum.elim (fun p => k0 p.1 p.2.1 p.2.2) (fun p => k1 p))⟩
 · exact Or.inr (⟨v3, hq, fun R k0 k1 => e R (Sum.elim (fun p => k0 p.1 p.2.1 p.2.2) (fun p => k1 p))⟩)
end
section
variable {A0 A1 A2 A3 A4 A5 A6 : Type}
abbrev Z197 (A0 A1 A2 A3 A4 A5 A6 : Type) := (R : Type) → (A0 → A1 → A2 → A3 → Option R) → (A4 → A5 → A6 → Option R) → Option R
def Zwz (G : Z197 A0 A1 A2 A3 A4 A5 A6) (Q0 : A0 → A1 → A2 → A3 → Prop) (Q1 : A4 → A5 → A6 → Prop) : Prop := (∃ v0 v1 v2 v3, Q0 v0 v1 v2 v3 ∧ ∀ R k0 k1, G R k0 k1 = k0 v0 v1 v2 v3) ∨ (∃ v4 v5 v6, Q1 v4 v5 v6 ∧ ∀ R k0 k1, G R k0 k1 = k1 v4 v5 v6)
variable {G H : Z197 A0 A1 A2 A3 A4 A5 A6} {Q0 : A0 → A1 → A2 → A3 → Prop} {Q1 : A4 → A5 → A6 → Prop}
theorem Zwz.of (h : Tot (fun R (k : (A0 × A1 × A2 × A3) ⊕ (A4 × A5 × A6) → Option R) => G R (fun v0 v1 v2 v3 => k (.inl (v0, v1, v2, v3))) (fun v4 v5 v6 => k (.inr ((v4, v5, v6))))) (Sum.elim (fun p => Q0 p.1 p.2.1 p.2.2.1 p.2.2.2) (fun p => Q1 p.1 p.2.1 p.2.2))) : Zwz G Q0 Q1 := by
 obtain ⟨v, hq, e⟩ := h
 rcases v with ⟨v0, v1, v2, v3⟩ | ⟨v4, v5, v6⟩
 · exact Or.inl ⟨v0, v1, v2, v3, hq, fun R k0 k1 => e R (Sum.elim (fun p => k0 p.1 p.2.1 p.2.2.1 p.2.2.2) (fun p => k1 p.1 p.2.1 p.2.2))⟩
 · exact Or.inr (⟨v4, v5, v6, hq, fun R k0 k1 => e R (Sum.elim (fun p => k0 p.1 p.2.1 p.2.2.1 p.2.2.2) (fun p => k1 p.1 p.2.1 p.2.2))⟩)
end
section
variable {A0 A1 A2 : Type}
abbrev F_3 (A0 A1 A2 : Type) := (R : Type) → (A0 → A1 → A2 → Option R) → Option R
def T_3 (G : F_3 A0 A1 A2) (Q0 : A0 → A1 → A2 → Prop) : Prop := (∃ v0 v1 v2, Q0 v0 v1 v2 ∧ ∀ R k0, G R k0 = k0 v0 v1 v2)
variable {G H : F_3 A0 A1 A2} {Q0 : A0 → A1 → A2 → Prop}
theorem T_3.of (h : Tot (fun R (k : (A0 × A1 × A2) → Option R) => G R (fun v0 v1 v2 => k ((v0, v1, v2)))) (fun p => Q0 p.1 p.2.1 p.2.2)) : T_3 G Q0 := by
 obtain ⟨⟨v0, v1, v2⟩, hq, e⟩ := h
 · exact ⟨v0, v1, v2, hq, fun R k0 => e R (fun p => k0 p.1 p.2.1 p.2.2)⟩
theorem T_3.bind {B : Type} {Q : B → Prop} {X0 : A0 → A1 → A2 → (R : Type) → (B → Option R) → Option R} (h : T_3 G Q0) (h0 : ∀ v0 v1 v2, Q0 v0 v1 v2 → Tot (X0 v0 v1 v2) Q) : Tot (fun R k => G R (fun v0 v1 v2 => X0 v0 v1 v2 R k)) Q := by
 rcases h with ⟨v0, v1, v2, hq, e⟩
 · obtain ⟨v, hv, e2⟩ := h0 v0 v1 v2 hq
   exact ⟨v, hv, fun R k => (e R _).trans (e2 R k)⟩
theorem T_3.congr (h : ∀ R k0, G R k0 = H R k0) (t : T_3 H Q0) : T_3 G Q0 := by
 have e : G = H := by funext R k0; exact h R k0
 rw [e]; exact t
end
section
variable {A0 A1 A2 A3 A4 A5 A6 : Type}
abbrev F_7 (A0 A1 A2 A3 A4 A5 A6 : Type) := (R : Type) → (A0 → A1 → A2 → A3 → A4 → A5 → A6 → Option R) → Option R
def T_7 (G : F_7 A0 A1 A2 A3 A4 A5 A6) (Q0 : A0 → A1 → A2 → A3 → A4 → A5 → A6 → Prop) : Prop := (∃ v0 v1 v2 v3 v4 v5 v6, Q0 v0 v1 v2 v3 v4 v5 v6 ∧ ∀ R k0, G R k0 = k0 v0 v1 v2 v3 v4 v5 v6)
variable {G H : F_7 A0 A1 A2 A3 A4 A5 A6} {Q0 : A0 → A1 → A2 → A3 → A4 → A5 → A6 → Prop}
theorem T_7.of (h : Tot (fun R (k : (A0 × A1 × A2 × A3 × A4 × A5 × A6) → Option R) => G R (fun v0 v1 v2 v3 v4 v5 v6 => k ((v0, v1, v2, v3, v4, v5, v6)))) (fun p => Q0 p.1 p.2.1 p.2.2.1 p.2.2.2.1 p.2.2.2.2.1 p.2.2.2.2.2.1 p.2.2.2.2.2.2)) : T_7 G Q0 := by
 obtain ⟨⟨v0, v1, v2, v3, v4, v5, v6⟩, hq, e⟩ := h
 · exact ⟨v0, v1, v2, v3, v4, v5, v6, hq, fun R k0 => e R (fun p => k0 p.1 p.2.1 p.2.2.1 p.2.2.2.1 p.2.2.2.2.1 p.2.2.2.2.2.1 p.2.2.2.2.2.2)⟩
theorem T_7.bind {B : Type} {Q : B → Prop} {X0 : A0 → A1 → A2 → A3 → A4 → A5 → A6 → (R : Type) → (B → Option R) → Option R} (h : T_7 G Q0) (h0 : ∀ v0 v1 v2 v3 v4 v5 v6, Q0 v0 v1 v2 v3 v4 v5 v6 → Tot (X0 v0 v1 v2 v3 v4 v5 v6) Q) : Tot (fun R k => G R (fun v0 v1 v2 v3 v4 v5 v6 => X0 v0 v1 v2 v3 v4 v5 v6 R k)) Q := by
 rcases h with ⟨v0, v1, v2, v3, v4, v5, v6, hq, e⟩
 · obtain ⟨v, hv, e2⟩ := h0 v0 v1 v2 v3 v4 v5 v6 hq
   exact ⟨v, hv, fun R k => (e R _).trans (e2 R k)⟩
theorem T_7.congr (h : ∀ R k0, G R k0 = H R k0) (t : T_7 H Q0) : T_7 G Q0 := by
 have e : G = H := by funext R k0; exact h R k0
 rw [e]; exact t
end
section
variable {A0 A1 A2 A3 A4 A5 A6 A7 A8 A9 A10 A11 : Type}
abbrev Z19b (A0 A1 A2 A3 A4 A5 A6 A7 A8 A9 A10 A11 : Type) := (R : Type) → (A0 → A1 → A2 → A3 → A4 → A5 → A6 → Option R) → (A7 → A8 → A9 → A10 → A11 → Option R) → Option R
def Z12q (G : Z19b A0 A1 A2 A3 A4 A5 A6 A7 A8 A9 A10 A11) (Q0 : A0 → A1 → A2 → A3 → A4 → A5 → A6 → Prop) (Q1 : A7 → A8 → A9 → A10 → A11 → Prop) : Prop := (∃ v0 v1 v2 v3 v4 v5 v6, Q0 v0 v1 v2 v3 v4 v5 v6 ∧ ∀ R k0 k1, G R k0 k1 = k0 v0 v1 v2 v3 v4 v5 v6) ∨ (∃ v7 v8 v9 v10 v11, Q1 v7 v8 v9 v10 v11 ∧ ∀ R k0 k1, G R k0 k1 = k1 v7 v8 v9 v10 v11)
variable {G H : Z19b A0 A1 A2 A3 A4 A5 A6 A7 A8 A9 A10 A11} {Q0 : A0 → A1 → A2 → A3 → A4 → A5 → A6 → Prop} {Q1 : A7 → A8 → A9 → A10 → A11 → Prop}
theorem Z12q.of (h : Tot (fun R (k : (A0 × A1 × A2 × A3 × A4 × A5 × A6) ⊕ (A7 × A8 × A9 × A10 × A11) → Option R) => G R (fun v0 v1 v2 v3 v4 v5 v6 => k (.inl (v0, v1, v2, v3, v4, v5, v6))) (fun v7 v8 v9 v10 v11 => k (.inr ((v7, v8, v9, v10, v11))))) (Sum.elim (fun p => Q0 p.1 p.2.1 p.2.2.1 p.2.2.2.1 p.2.2.2.2.1 p.2.2.2.2.2.1 p.2.2.2.2.2.2) (fun p => Q1 p.1 p.2.1 p.2.2.1 p.2.2.2.1 p.2.2.2.2))) : Z12q G Q0 Q1 := by
 obtain ⟨v, hq, e⟩ := h
 rcases v with ⟨v0, v1, v2, v3, v4, v5, v6⟩ | ⟨v7, v8, v9, v10, v11⟩
 · exact Or.inl ⟨v0, v1, v2, v3, v4, v5, v6, hq, fun R k0 k1 => e R (Sum.elim (fun p => k0 p.1 p.2.1 p.2.2.1 p.2.2.2.1 p.2.2.2.2.1 p.2.2.2.2.2.1 p.2.2.2.2.2.2) (fun p => k1 p.1 p.2.1 p.2.2.1 p.2.2.2.1 p.2.2.2.2))⟩
 · exact Or.inr (⟨v7, v8, v9, v10, v11, hq, fun R k0 k1 => e R (Sum.elim (fun p => k0 p.1 p.2.1 p.2.2.1 p.2.2.2.1 p.2.2.2.2.1 p.2.2.2.2.2.1 p.2.2.2.2.2.2) (fun p => k1 p.1 p.2.1 p.2.2.1 p.2.2.2.1 p.2.2.2.2))⟩)
end
section
variable {A0 A1 A2 A3 A4 : Type}
abbrev F_5 (A0 A1 A2 A3 A4 : Type) := (R : Type) → (A0 → A1 → A2 → A3 → A4 → Option R) → Option R
def T_5 (G : F_5 A0 A1 A2 A3 A4) (Q0 : A0 → A1 → A2 → A3 → A4 → Prop) : Prop := (∃ v0 v1 v2 v3 v4, Q0 v0 v1 v2 v3 v4 ∧ ∀ R k0, G R k0 = k0 v0 v1 v2 v3 v4)
variable {G H : F_5 A0 A1 A2 A3 A4} {Q0 : A0 → A1 → A2 → A3 → A4 → Prop}
theorem T_5.of (h : Tot (fun R (k : (A0 × A1 × A2 × A3 × A4) → Option R) => G R (fun v0 v1 v2 v3 v4 => k ((v0, v1, v2, v3, v4)))) (fun p => Q0 p.1 p.2.1 p.2.2.1 p.2.2.2.1 p.2.2.2.2)) : T_5 G Q0 := by
 obtain ⟨⟨v0, v1, v2, v3, v4⟩, hq, e⟩ := h
 · exact ⟨v0, v1, v2, v3, v4, hq, fun R k0 => e R (fun p => k0 p.1 p.2.1 p.2.2.1 p.2.2.2.1 p.2.2.2.2)⟩
theorem T_5.bind {B : Type} {Q : B → Prop} {X0 : A0 → A1 → A2 → A3 → A4 → (R : Type) → (B → Option R) → Option R} (h : T_5 G Q0) (h0 : ∀ v0 v1 v2 v3 v4, Q0 v0 v1 v2 v3 v4 → Tot (X0 v0 v1 v2 v3 v4) Q) : Tot (fun R k => G R (fun v0 v1 v2 v3 v4 => X0 v0 v1 v2 v3 v4 R k)) Q := by
 rcases h with ⟨v0, v1, v2, v3, v4, hq, e⟩
 · obtain ⟨v, hv, e2⟩ := h0 v0 v1 v2 v3 v4 hq
   exact ⟨v, hv, fun R k => (e R _).trans (e2 R k)⟩
end
section
variable {A0 A1 A2 A3 A4 A5 A6 : Type}
abbrev Z19c (A0 A1 A2 A3 A4 A5 A6 : Type) := (R : Type) → (A0 → A1 → A2 → A3 → A4 → Option R) → (A5 → A6 → Option R) → Option R
def Z177 (G : Z19c A0 A1 A2 A3 A4 A5 A6) (Q0 : A0 → A1 → A2 → A3 → A4 → Prop) (Q1 : A5 → A6 → Prop) : Prop := (∃ v0 v1 v2 v3 v4, Q0 v0 v1 v2 v3 v4 ∧ ∀ R k0 k1, G R k0 k1 = k0 v0 v1 v2 v3 v4) ∨ (∃ v5 v6, Q1 v5 v6 ∧ ∀ R k0 k1, G R k0 k1 = k1 v5 v6)
variable {G H : Z19c A0 A1 A2 A3 A4 A5 A6} {Q0 : A0 → A1 → A2 → A3 → A4 → Prop} {Q1 : A5 → A6 → Prop}
theorem Z177.of (h : Tot (fun R (k : (A0 × A1 × A2 × A3 × A4) ⊕ (A5 × A6) → Option R) => G R (fun v0 v1 v2 v3 v4 => k (.inl (v0, v1, v2, v3, v4))) (fun v5 v6 => k (.inr ((v5, v6))))) (Sum.elim (fun p => Q0 p.1 p.2.1 p.2.2.1 p.2.2.2.1 p.2.2.2.2) (fun p => Q1 p.1 p.2))) : Z177 G Q0 Q1 := by
 obtain ⟨v, hq, e⟩ := h
 rcases v with ⟨v0, v1, v2, v3, v4⟩ | ⟨v5, v6⟩
 · exact Or.inl ⟨v0, v1, v2, v3, v4, hq, fun R k0 k1 => e R (Sum.elim (fun p => k0 p.1 p.2.1 p.2.2.1 p.2.2.2.1 p.2.2.2.2) (fun p => k1 p.1 p.2))⟩
 · exact Or.inr (⟨v5, v6, hq, fun R k0 k1 => e R (Sum.elim (fun p => k0 p.1 p.2.1 p.2.2.1 p.2.2.2.1 p.2.2.2.2) (fun p => k1 p.1 p.2))⟩)
end
section
variable {A0 A1 A2 A3 A4 A5 A6 A7 : Type}
abbrev Z196 (A0 A1 A2 A3 A4 A5 A6 A7 : Type) := (R : Type) → (A0 → A1 → A2 → A3 → A4 → Option R) → (A5 → A6 → A7 → Option R) → Option R
def Zwk (G : Z196 A0 A1 A2 A3 A4 A5 A6 A7) (Q0 : A0 → A1 → A2 → A3 → A4 → Prop) (Q1 : A5 → A6 → A7 → Prop) : Prop := (∃ v0 v1 v2 v3 v4, Q0 v0 v1 v2 v3 v4 ∧ ∀ R k0 k1, G R k0 k1 = k0 v0 v1 v2 v3 v4) ∨ (∃ v5 v6 v7, Q1 v5 v6 v7 ∧ ∀ R k0 k1, G R k0 k1 = k1 v5 v6 v7)
variable {G H : Z196 A0 A1 A2 A3 A4 A5 A6 A7} {Q0 : A0 → A1 → A2 → A3 → A4 → Prop} {Q1 : A5 → A6 → A7 → Prop}
theorem Zwk.of (h : Tot (fun R (k : (A0 × A1 × A2 × A3 × A4) ⊕ (A5 × A6 × A7) → Option R) => G R (fun v0 v1 v2 v3 v4 => k (.inl (v0, v1, v2, v3, v4))) (fun v5 v6 v7 => k (.inr ((v5, v6, v7))))) (Sum.elim (fun p => Q0 p.1 p.2.1 p.2.2.1 p.2.2.2.1 p.2.2.2.2) (fun p => Q1 p.1 p.2.1 p.2.2))) : Zwk G Q0 Q1 := by
 obtain ⟨v, hq, e⟩ := h
 rcases v with ⟨v0, v1, v2, v3, v4⟩ | ⟨v5, v6, v7⟩
 · exact Or.inl ⟨v0, v1, v2, v3, v4, hq, fun R k0 k1 => e R (Sum.elim (fun p => k0 p.1 p.2.1 p.2.2.1 p.2.2.2.1 p.2.2.2.2) (fun p => k1 p.1 p.2.1 p.2.2))⟩
 · exact Or.inr (⟨v5, v6, v7, hq, fun R k0 k1 => e R (Sum.elim (fun p => k0 p.1 p.2.1 p.2.2.1 p.2.2.2.1 p.2.2.2.2) (fun p => k1 p.1 p.2.1 p.2.2))⟩)
end
section
variable {A0 A1 A2 A3 A4 A5 : Type}
abbrev Z199 (A0 A1 A2 A3 A4 A5 : Type) := (R : Type) → (A0 → A1 → A2 → A3 → Option R) → (A4 → A5 → Option R) → Option R
def Zqa (G : Z199 A0 A1 A2 A3 A4 A5) (Q0 : A0 → A1 → A2 → A3 → Prop) (Q1 : A4 → A5 → Prop) : Prop := (∃ v0 v1 v2 v3, Q0 v0 v1 v2 v3 ∧ ∀ R k0 k1, G R k0 k1 = k0 v0 v1 v2 v3) ∨ (∃ v4 v5, Q1 v4 v5 ∧ ∀ R k0 k1, G R k0 k1 = k1 v4 v5)
variable {G H : Z199 A0 A1 A2 A3 A4 A5} {Q0 : A0 → A1 → A2 → A3 → Prop} {Q1 : A4 → A5 → Prop}
theorem Zqa.of (h : Tot (fun R (k : (A0 × A1 × A2 × A3) ⊕ (A4 × A5) → Option R) => G R (fun v0 v1 v2 v3 => k (.inl (v0, v1, v2, v3))) (fun v4 v5 => k (.inr ((v4, v5))))) (Sum.elim (fun p => Q0 p.1 p.2.1 p.2.2.1 p.2.2.2) (fun p => Q1 p.1 p.2))) : Zqa G Q0 Q1 := by
 obtain ⟨v, hq, e⟩ := h
 rcases v with ⟨v0, v1, v2, v3⟩ | ⟨v4, v5⟩
 · exact Or.inl ⟨v0, v1, v2, v3, hq, fun R k0 k1 => e R (Sum.elim (fun p => k0 p.1 p.2.1 p.2.2.1 p.2.2.2) (fun p => k1 p.1 p.2))⟩
 · exact Or.inr (⟨v4, v5, hq, fun R k0 k1 => e R (Sum.elim (fun p => k0 p.1 p.2.1 p.2.2.1 p.2.2.2) (fun p => k1 p.1 p.2))⟩)
end
section
variable {A0 A1 A2 A3 : Type}
abbrev F_4 (A0 A1 A2 A3 : Type) := (R : Type) → (A0 → A1 → A2 → A3 → Option R) → Option R
def T_4 (G : F_4 A0 A1 A2 A3) (Q0 : A0 → A1 → A2 → A3 → Prop) : Prop := (∃ v0 v1 v2 v3, Q0 v0 v1 v2 v3 ∧ ∀ R k0, G R k0 = k0 v0 v1 v2 v3)
variable {G H : F_4 A0 A1 A2 A3} {Q0 : A0 → A1 → A2 → A3 → Prop}
theorem T_4.of (h : Tot (fun R (k : (A0 × A1 × A2 × A3) → Option R) => G R (fun v0 v1 v2 v3 => k ((v0, v1, v2, v3)))) (fun p => Q0 p.1 p.2.1 p.2.2.1 p.2.2.2)) : T_4 G Q0 := by
 obtain ⟨⟨v0, v1, v2, v3⟩, hq, e⟩ := h
 · exact ⟨v0, v1, v2, v3, hq, fun R k0 => e R (fun p => k0 p.1 p.2.1 p.2.2.1 p.2.2.2)⟩
theorem T_4.bind {B : Type} {Q : B → Prop} {X0 : A0 → A1 → A2 → A3 → (R : Type) → (B → Option R) → Option R} (h : T_4 G Q0) (h0 : ∀ v0 v1 v2 v3, Q0 v0 v1 v2 v3 → Tot (X0 v0 v1 v2 v3) Q) : Tot (fun R k => G R (fun v0 v1 v2 v3 => X0 v0 v1 v2 v3 R k)) Q := by
 rcases h with ⟨v0, v1, v2, v3, hq, e⟩
 · obtain ⟨v, hv, e2⟩ := h0 v0 v1 v2 v3 hq
   exact ⟨v, hv, fun R k => (e R _).trans (e2 R k)⟩
end
section
variable {A0 A1 A2 A3 A4 A5 : Type}
abbrev F_6 (A0 A1 A2 A3 A4 A5 : Type) := (R : Type) → (A0 → A1 → A2 → A3 → A4 → A5 → Option R) → Option R
def T_6 (G : F_6 A0 A1 A2 A3 A4 A5) (Q0 : A0 → A1 → A2 → A3 → A4 → A5 → Prop) : Prop := (∃ v0 v1 v2 v3 v4 v5, Q0 v0 v1 v2 v3 v4 v5 ∧ ∀ R k0, G R k0 = k0 v0 v1 v2 v3 v4 v5)
variable {G H : F_6 A0 A1 A2 A3 A4 A5} {Q0 : A0 → A1 → A2 → A3 → A4 → A5 → Prop}
theorem T_6.of (h : Tot (fun R (k : (A0 × A1 × A2 × A3 × A4 × A5) → Option R) => G R (fun v0 v1 v2 v3 v4 v5 => k ((v0, v1, v2, v3, v4, v5)))) (fun p => Q0 p.1 p.2.1 p.2.2.1 p.2.2.2.1 p.2.2.2.2.1 p.2.2.2.2.2)) : T_6 G Q0 := by
 obtain ⟨⟨v0, v1, v2, v3, v4, v5⟩, hq, e⟩ := h
 · exact ⟨v0, v1, v2, v3, v4, v5, hq, fun R k0 => e R (fun p => k0 p.1 p.2.1 p.2.2.1 p.2.2.2.1 p.2.2.2.2.1 p.2.2.2.2.2)⟩
theorem T_6.bind {B : Type} {Q : B → Prop} {X0 : A0 → A1 → A2 → A3 → A4 → A5 → (R : Type) → (B → Option R) → Option R} (h : T_6 G Q0) (h0 : ∀ v0 v1 v2 v3 v4 v5, Q0 v0 v1 v2 v3 v4 v5 → Tot (X0 v0 v1 v2 v3 v4 v5) Q) : Tot (fun R k => G R (fun v0 v1 v2 v3 v4 v5 => X0 v0 v1 v2 v3 v4 v5 R k)) Q := by
 rcases h with ⟨v0, v1, v2, v3, v4, v5, hq, e⟩
 · obtain ⟨v, hv, e2⟩ := h0 v0 v1 v2 v3 v4 v5 hq
   exact ⟨v, hv, fun R k => (e R _).trans (e2 R k)⟩
theorem T_6.congr (h : ∀ R k0, G R k0 = H R k0) (t : T_6 H Q0) : T_6 G Q0 := by
 have e : G = H := by funext R k0; exact h R k0
 rw [e]; exact t
end
section
variable {A0 A1 A2 A3 A4 A5 A6 A7 A8 A9 A10 A11 A12 A13 A14 : Type}
abbrev F_15 (A0 A1 A2 A3 A4 A5 A6 A7 A8 A9 A10 A11 A12 A13 A14 : Type) := (R : Type) → (A0 → A1 → A2 → A3 → A4 → A5 → A6 → A7 → A8 → A9 → A10 → A11 → A12 → A13 → A14 → Option R) → Option R
def T_15 (G : F_15 A0 A1 A2 A3 A4 A5 A6 A7 A8 A9 A10 A11 A12 A13 A14) (Q0 : A0 → A1 → A2 → A3 → A4 → A5 → A6 → A7 → A8 → A9 → A10 → A11 → A12 → A13 → A14 → Prop) : Prop := (∃ v0 v1 v2 v3 v4 v5 v6 v7 v8 v9 v10 v11 v12 v13 v14, Q0 v0 v1 v2 v3 v4 v5 v6 v7 v8 v9 v10 v11 v12 v13 v14 ∧ ∀ R k0, G R k0 = k0 v0 v1 v2 v3 v4 v5 v6 v7 v8 v9 v10 v11 v12 v13 v14)
variable {G H : F_15 A0 A1 A2 A3 A4 A5 A6 A7 A8 A9 A10 A11 A12 A13 A14} {Q0 : A0 → A1 → A2 → A3 → A4 → A5 → A6 → A7 → A8 → A9 → A10 → A11 → A12 → A13 → A14 → Prop}
theorem T_15.of (h : Tot (fun R (k : (A0 × A1 × A2 × A3 × A4 × A5 × A6 × A7 × A8 × A9 × A10 × A11 × A12 × A13 × A14) → Option R) => G R (fun v0 v1 v2 v3 v4 v5 v6 v7 v8 v9 v10 v11 v12 v13 v14 => k ((v0, v1, v2, v3, v4, v5, v6, v7, v8, v9, v10, v11, v12, v13, v14)))) (fun p => Q0 p.1 p.2.1 p.2.2.1 p.2.2.2.1 p.2.2.2.2.1 p.2.2.2.2.2.1 p.2.2.2.2.2.2.1 p.2.2.2.2.2.2.2.1 p.2.2.2.2.2.2.2.2.1 p.2.2.2.2.2.2.2.2.2.1 p.2.2.2.2.2.2.2.2.2.2.1 p.2.2.2.2.2.2.2.2.2.2.2.1 p.2.2.2.2.2.2.2.2.2.2.2.2.1 p.2.2.2.2.2.2.2.2.2.2.2.2.2.1 p.2.2.2.2.2.2.2.2.2.2.2.2.2.2)) : T_15 G Q0 := by
 obtain ⟨⟨v0, v1, v2, v3, v4, v5, v6, v7, v8, v9, v10, v11, v12, v13, v14⟩, hq, e⟩ := h
 · exact ⟨v0, v1, v2, v3, v4, v5, v6, v7, v8, v9, v10, v11, v12, v13, v14, hq, fun R k0 => e R (fun p => k0 p.1 p.2.1 p.2.2.1 p.2.2.2.1 p.2.2.2.2.1 p.2.2.2.2.2.1 p.2.2.2.2.2.2.1 p.2.2.2.2.2.2.2.1 p.2.2.2.2.2.2.2.2.1 p.2.2.2.2.2.2.2.2.2.1 p.2.2.2.2.2.2.2.2.2.2.1 p.2.2.2.2.2.2.2.2.2.2.2.1 p.2.2.2.2.2.2.2.2.2.2.2.2.1 p.2.2.2.2.2.2.2.2.2.2.2.2.2.1 p.2.2.2.2.2.2.2.2.2.2.2.2.2.2)⟩
theorem T_15.bind {B : Type} {Q : B → Prop} {X0 : A0 → A1 → A2 → A3 → A4 → A5 → A6 → A7 → A8 → A9 → A10 → A11 → A12 → A13 → A14 → (R : Type) → (B → Option R) → Option R} (h : T_15 G Q0) (h0 : ∀ v0 v1 v2 v3 v4 v5 v6 v7 v8 v9 v10 v11 v12 v13 v14, Q0 v0 v1 v2 v3 v4 v5 v6 v7 v8 v9 v10 v11 v12 v13 v14 → Tot (X0 v0 v1 v2 v3 v4 v5 v6 v7 v8 v9 v10 v11 v12 v13 v14) Q) : Tot (fun R k => G R (fun v0 v1 v2 v3 v4 v5 v6 v7 v8 v9 v10 v11 v12 v13 v14 => X0 v0 v1 v2 v3 v4 v5 v6 v7 v8 v9 v10 v11 v12 v13 v14 R k)) Q := by
 rcases h with ⟨v0, v1, v2, v3, v4, v5, v6, v7, v8, v9, v10, v11, v12, v13, v14, hq, e⟩
 · obtain ⟨v, hv, e2⟩ := h0 v0 v1 v2 v3 v4 v5 v6 v7 v8 v9 v10 v11 v12 v13 v14 hq
   exact ⟨v, hv, fun R k => (e R _).trans (e2 R k)⟩
theorem T_15.congr (h : ∀ R k0, G R k0 = H R k0) (t : T_15 H Q0) : T_15 G Q0 := by
 have e : G = H := by funext R k0; exact h R k0
 rw [e]; exact t
end
section
variable {A0 A1 A2 A3 A4 A5 A6 A7 A8 A9 A10 A11 A12 A13 A14 A15 A16 A17 A18 A19 A20 A21 A22 : Type}
abbrev Z18x (A0 A1 A2 A3 A4 A5 A6 A7 A8 A9 A10 A11 A12 A13 A14 A15 A16 A17 A18 A19 A20 A21 A22 : Type) := (R : Type) → (A0 → A1 → A2 → A3 → A4 → A5 → A6 → A7 → A8 → A9 → A10 → A11 → A12 → A13 → A14 → Option R) → (A15 → A16 → A17 → A18 → A19 → A20 → A21 → A22 → Option R) → Option R
def Z14v (G : Z18x A0 A1 A2 A3 A4 A5 A6 A7 A8 A9 A10 A11 A12 A13 A14 A15 A16 A17 A18 A19 A20 A21 A22) (Q0 : A0 → A1 → A2 → A3 → A4 → A5 → A6 → A7 → A8 → A9 → A10 → A11 → A12 → A13 → A14 → Prop) (Q1 : A15 → A16 → A17 → A18 → A19 → A20 → A21 → A22 → Prop) : Prop := (∃ v0 v1 v2 v3 v4 v5 v6 v7 v8 v9 v10 v11 v12 v13 v14, Q0 v0 v1 v2 v3 v4 v5 v6 v7 v8 v9 v10 v11 v12 v13 v14 ∧ ∀ R k0 k1, G R k0 k1 = k0 v0 v1 v2 v3 v4 v5 v6 v7 v8 v9 v10 v11 v12 v13 v14) ∨ (∃ v15 v16 v17 v18 v19 v20 v21 v22, Q1 v15 v16 v17 v18 v19 v20 v21 v22 ∧ ∀ R k0 k1, G R k0 k1 = k1 v15 v16 v17 v18 v19 v20 v21 v22)
variable {G H : Z18x A0 A1 A2 A3 A4 A5 A6 A7 A8 A9 A10 A11 A12 A13 A14 A15 A16 A17 A18 A19 A20 A21 A22} {Q0 : A0 → A1 → A2 → A3 → A4 → A5 → A6 → A7 → A8 → A9 → A10 → A11 → A12 → A13 → A14 → Prop} {Q1 : A15 → A16 → A17 → A18 → A19 → A20 → A21 → A22 → Prop}
theorem Z14v.of (h : Tot (fun R (k : (A0 × A1 × A2 × A3 × A4 × A5 × A6 × A7 × A8 × A9 × A10 × A11 × A12 × A13 × A14) ⊕ (A15 × A16 × A17 × A18 × A19 × A20 × A21 × A22) → Option R) => G R (fun v0 v1 v2 v3 v4 v5 v6 v7 v8 v9 v10 v11 v12 v13 v14 => k (.inl (v0, v1, v2, v3, v4, v5, v6, v7, v8, v9, v10, v11, v12, v13, v14))) (fun v15 v16 v17 v18 v19 v20 v21 v22 => k (.inr ((v15, v16, v17, v18, v19, v20, v21, v22))))) (Sum.elim (fun p => Q0 p.1 p.2.1 p.2.2.1 p.2.2.2.1 p.2.2.2.2.1 p.2.2.2.2.2.1 p.2.2.2.2.2.2.1 p.2.2.2.2.2.2.2.1 p.2.2.2.2.2.2.2.2.1 p.2.2.2.2.2.2.2.2.2.1 p.2.2.2.2.2.2.2.2.2.2.1 p.2.2.2.2.2.2.2.2.2.2.2.1 p.2.2.2.2.2.2.2.2.2.2.2.2.1 p.2.2.2.2.2.2.2.2.2.2.2.2.2.1 p.2.2.2.2.2.2.2.2.2.2.2.2.2.2) (fun p => Q1 p.1 p.2.1 p.2.2.1 p.2.2.2.1 p.2.2.2.2.1 p.2.2.2.2.2.1 p.2.2.2.2.2.2.1 p.2.2.2.2.2.2.2))) : Z14v G Q0 Q1 := by
 obtain ⟨v, hq, e⟩ := h
 rcases v with ⟨v0, v1, v2, v3, v4, v5, v6, v7, v8, v9, v10, v11, v12, v13, v14⟩ | ⟨v15, v16, v17, v18, v19, v20, v21, v22⟩
 · exact Or.inl ⟨v0, v1, v2, v3, v4, v5, v6, v7, v8, v9, v10, v11, v12, v13, v14, hq, fun R k0 k1 => e R (Sum.elim (fun p => k0 p.1 p.2.1 p.2.2.1 p.2.2.2.1 p.2.2.2.2.1 p.2.2.2.2.2.1 p.2.2.2.2.2.2.1 p.2.2.2.2.2.2.2.1 p.2.2.2.2.2.2.2.2.1 p.2.2.2.2.2.2.2.2.2.1 p.2.2.2.2.2.2.2.2.2.2.1 p.2.2.2.2.2.2.2.2.2.2.2.1 p.2.2.2.2.2.2.2.2.2.2.2.2.1 p.2.2.2.2.2.2.2.2.2.2.2.2.2.1 p.2.2.2.2.2.2.2.2.2.2.2.2.2.2) (fun p => k1 p.1 p.2.1 p.2.2.1 p.2.2.2.1 p.2.2.2.2.1 p.2.2.2.2.2.1 p.2.2.2.2.2.2.1 p.2.2.2.2.2.2.2))⟩
 · exact Or.inr (⟨v15, v16, v17, v18, v19, v20, v21, v22, hq, fun R k0 k1 => e R (Sum.elim (fun p => k0 p.1 p.2.1 p.2.2.1 p.2.2.2.1 p.2.2.2.2.1 p.2.2.2.2.2.1 p.2.2.2.2.2.2.1 p.2.2.2.2.2.2.2.1 p.2.2.2.2.2.2.2.2.1 p.2.2.2.2.2.2.2.2.2.1 p.2.2.2.2.2.2.2.2.2.2.1 p.2.2.2.2.2.2.2.2.2.2.2.1 p.2.2.2.2.2.2.2.2.2.2.2.2.1 p.2.2.2.2.2.2.2.2.2.2.2.2.2.1 p.2.2.2.2.2.2.2.2.2.2.2.2.2.2) (fun p => k1 p.1 p.2.1 p.2.2.1 p.2.2.2.1 p.2.2.2.2.1 p.2.2.2.2.2.1 p.2.2.2.2.2.2.1 p.2.2.2.2.2.2.2))⟩)
end
section
variable {A0 A1 A2 A3 A4 A5 A6 A7 : Type}
abbrev F_8 (A0 A1 A2 A3 A4 A5 A6 A7 : Type) := (R : Type) → (A0 → A1 → A2 → A3 → A4 → A5 → A6 → A7 → Option R) → Option R
def T_8 (G : F_8 A0 A1 A2 A3 A4 A5 A6 A7) (Q0 : A0 → A1 → A2 → A3 → A4 → A5 → A6 → A7 → Prop) : Prop := (∃ v0 v1 v2 v3 v4 v5 v6 v7, Q0 v0 v1 v2 v3 v4 v5 v6 v7 ∧ ∀ R k0, G R k0 = k0 v0 v1 v2 v3 v4 v5 v6 v7)
variable {G H : F_8 A0 A1 A2 A3 A4 A5 A6 A7} {Q0 : A0 → A1 → A2 → A3 → A4 → A5 → A6 → A7 → Prop}
theorem T_8.of (h : Tot (fun R (k : (A0 × A1 × A2 × A3 × A4 × A5 × A6 × A7) → Option R) => G R (fun v0 v1 v2 v3 v4 v5 v6 v7 => k ((v0, v1, v2, v3, v4, v5, v6, v7)))) (fun p => Q0 p.1 p.2.1 p.2.2.1 p.2.2.2.1 p.2.2.2.2.1 p.2.2.2.2.2.1 p.2.2.2.2.2.2.1 p.2.2.2.2.2.2.2)) : T_8 G Q0 := by
 obtain ⟨⟨v0, v1, v2, v3, v4, v5, v6, v7⟩, hq, e⟩ := h
 · exact ⟨v0, v1, v2, v3, v4, v5, v6, v7, hq, fun R k0 => e R (fun p => k0 p.1 p.2.1 p.2.2.1 p.2.2.2.1 p.2.2.2.2.1 p.2.2.2.2.2.1 p.2.2.2.2.2.2.1 p.2.2.2.2.2.2.2)⟩
theorem T_8.bind {B : Type} {Q : B → Prop} {X0 : A0 → A1 → A2 → A3 → A4 → A5 → A6 → A7 → (R : Type) → (B → Option R) → Option R} (h : T_8 G Q0) (h0 : ∀ v0 v1 v2 v3 v4 v5 v6 v7, Q0 v0 v1 v2 v3 v4 v5 v6 v7 → Tot (X0 v0 v1 v2 v3 v4 v5 v6 v7) Q) : Tot (fun R k => G R (fun v0 v1 v2 v3 v4 v5 v6 v7 => X0 v0 v1 v2 v3 v4 v5 v6 v7 R k)) Q := by
 rcases h with ⟨v0, v1, v2, v3, v4, v5, v6, v7, hq, e⟩
 · obtain ⟨v, hv, e2⟩ := h0 v0 v1 v2 v3 v4 v5 v6 v7 hq
   exact ⟨v, hv, fun R k => (e R _).trans (e2 R k)⟩
end
section
variable {A0 A1 A2 A3 A4 : Type}
abbrev Z19a (A0 A1 A2 A3 A4 : Type) := (R : Type) → (A0 → A1 → A2 → A3 → Option R) → (A4 → Option R) → Option R
def Z178 (G : Z19a A0 A1 A2 A3 A4) (Q0 : A0 → A1 → A2 → A3 → Prop) (Q1 : A4 → Prop) : Prop := (∃ v0 v1 v2 v3, Q0 v0 v1 v2 v3 ∧ ∀ R k0 k1, G R k0 k1 = k0 v0 v1 v2 v3) ∨ (∃ v4, Q1 v4 ∧ ∀ R k0 k1, G R k0 k1 = k1 v4)
variable {G H : Z19a A0 A1 A2 A3 A4} {Q0 : A0 → A1 → A2 → A3 → Prop} {Q1 : A4 → Prop}
theorem Z178.of (h : Tot (fun R (k : (A0 × A1 × A2 × A3) ⊕ (A4) → Option R) => G R (fun v0 v1 v2 v3 => k (.inl (v0, v1, v2, v3))) (fun v4 => k (.inr (v4)))) (Sum.elim (fun p => Q0 p.1 p.2.1 p.2.2.1 p.2.2.2) (fun p => Q1 p))) : Z178 G Q0 Q1 := by
 obtain ⟨v, hq, e⟩ := h
 rcases v with ⟨v0, v1, v2, v3⟩ | v4
 · exact Or.inl ⟨v0, v1, v2, v3, hq, fun R k0 k1 => e R (Sum.elim (fun p => k0 p.1 p.2.1 p.2.2.1 p.2.2.2) (fun p => k1 p))⟩
 · exact Or.inr (⟨v4, hq, fun R k0 k1 => e R (Sum.elim (fun p => k0 p.1 p.2.1 p.2.2.1 p.2.2.2) (fun p => k1 p))⟩)
end
section
variable {A0 A1 A2 A3 A4 A5 A6 A7 A8 : Type}
abbrev Z198 (A0 A1 A2 A3 A4 A5 A6 A7 A8 : Type) := (R : Type) → (A0 → A1 → A2 → A3 → A4 → Option R) → (A5 → A6 → A7 → A8 → Option R) → Option R
def Z176 (G : Z198 A0 A1 A2 A3 A4 A5 A6 A7 A8) (Q0 : A0 → A1 → A2 → A3 → A4 → Prop) (Q1 : A5 → A6 → A7 → A8 → Prop) : Prop := (∃ v0 v1 v2 v3 v4, Q0 v0 v1 v2 v3 v4 ∧ ∀ R k0 k1, G R k0 k1 = k0 v0 v1 v2 v3 v4) ∨ (∃ v5 v6 v7 v8, Q1 v5 v6 v7 v8 ∧ ∀ R k0 k1, G R k0 k1 = k1 v5 v6 v7 v8)
variable {G H : Z198 A0 A1 A2 A3 A4 A5 A6 A7 A8} {Q0 : A0 → A1 → A2 → A3 → A4 → Prop} {Q1 : A5 → A6 → A7 → A8 → Prop}
theorem Z176.of (h : Tot (fun R (k : (A0 × A1 × A2 × A3 × A4) ⊕ (A5 × A6 × A7 × A8) → Option R) => G R (fun v0 v1 v2 v3 v4 => k (.inl (v0, v1, v2, v3, v4))) (fun v5 v6 v7 v8 => k (.inr ((v5, v6, v7, v8))))) (Sum.elim (fun p => Q0 p.1 p.2.1 p.2.2.1 p.2.2.2.1 p.2.2.2.2) (fun p => Q1 p.1 p.2.1 p.2.2.1 p.2.2.2))) : Z176 G Q0 Q1 := by
 obtain ⟨v, hq, e⟩ := h
 rcases v with ⟨v0, v1, v2, v3, v4⟩ | ⟨v5, v6, v7, v8⟩
 · exact Or.inl ⟨v0, v1, v2, v3, v4, hq, fun R k0 k1 => e R (Sum.elim (fun p => k0 p.1 p.2.1 p.2.2.1 p.2.2.2.1 p.2.2.2.2) (fun p => k1 p.1 p.2.1 p.2.2.1 p.2.2.2))⟩
 · exact Or.inr (⟨v5, v6, v7, v8, hq, fun R k0 k1 => e R (Sum.elim (fun p => k0 p.1 p.2.1 p.2.2.1 p.2.2.2.1 p.2.2.2.2) (fun p => k1 p.1 p.2.1 p.2.2.1 p.2.2.2))⟩)
end
section
variable {A0 A1 A2 A3 A4 A5 A6 A7 A8 A9 A10 A11 A12 A13 A14 A15 A16 A17 : Type}
abbrev Z190 (A0 A1 A2 A3 A4 A5 A6 A7 A8 A9 A10 A11 A12 A13 A14 A15 A16 A17 : Type) := (R : Type) → (A0 → A1 → A2 → A3 → A4 → A5 → A6 → A7 → A8 → A9 → A10 → Option R) → (A11 → A12 → A13 → A14 → A15 → A16 → A17 → Option R) → Option R
def Z14x (G : Z190 A0 A1 A2 A3 A4 A5 A6 A7 A8 A9 A10 A11 A12 A13 A14 A15 A16 A17) (Q0 : A0 → A1 → A2 → A3 → A4 → A5 → A6 → A7 → A8 → A9 → A10 → Prop) (Q1 : A11 → A12 → A13 → A14 → A15 → A16 → A17 → Prop) : Prop := (∃ v0 v1 v2 v3 v4 v5 v6 v7 v8 v9 v10, Q0 v0 v1 v2 v3 v4 v5 v6 v7 v8 v9 v10 ∧ ∀ R k0 k1, G R k0 k1 = k0 v0 v1 v2 v3 v4 v5 v6 v7 v8 v9 v10) ∨ (∃ v11 v12 v13 v14 v15 v16 v17, Q1 v11 v12 v13 v14 v15 v16 v17 ∧ ∀ R k0 k1, G R k0 k1 = k1 v11 v12 v13 v14 v15 v16 v17)
variable {G H : Z190 A0 A1 A2 A3 A4 A5 A6 A7 A8 A9 A10 A11 A12 A13 A14 A15 A16 A17} {Q0 : A0 → A1 → A2 → A3 → A4 → A5 → A6 → A7 → A8 → A9 → A10 → Prop} {Q1 : A11 → A12 → A13 → A14 → A15 → A16 → A17 → Prop}
theorem Z14x.of (h : Tot (fun R (k : (A0 × A1 × A2 × A3 × A4 × A5 × A6 × A7 × A8 × A9 × A10) ⊕ (A11 × A12 × A13 × A14 × A15 × A16 × A17) → Option R) => G R (fun v0 v1 v2 v3 v4 v5 v6 v7 v8 v9 v10 => k (.inl (v0, v1, v2, v3, v4, v5, v6, v7, v8, v9, v10))) (fun v11 v12 v13 v14 v15 v16 v17 => k (.inr ((v11, v12, v13, v14, v15, v16, v17))))) (Sum.elim (fun p => Q0 p.1 p.2.1 p.2.2.1 p.2.2.2.1 p.2.2.2.2.1 p.2.2.2.2.2.1 p.2.2.2.2.2.2.1 p.2.2.2.2.2.2.2.1 p.2.2.2.2.2.2.2.2.1 p.2.2.2.2.2.2.2.2.2.1 p.2.2.2.2.2.2.2.2.2.2) (fun p => Q1 p.1 p.2.1 p.2.2.1 p.2.2.2.1 p.2.2.2.2.1 p.2.2.2.2.2.1 p.2.2.2.2.2.2))) : Z14x G Q0 Q1 := by
 obtain ⟨v, hq, e⟩ := h
 rcases v with ⟨v0, v1, v2, v3, v4, v5, v6, v7, v8, v9, v10⟩ | ⟨v11, v12, v13, v14, v15, v16, v17⟩
 · exact Or.inl ⟨v0, v1, v2, v3, v4, v5, v6, v7, v8, v9, v10, hq, fun R k0 k1 => e R (Sum.elim (fun p => k0 p.1 p.2.1 p.2.2.1 p.2.2.2.1 p.2.2.2.2.1 p.2.2.2.2.2.1 p.2.2.2.2.2.2.1 p.2.2.2.2.2.2.2.1 p.2.2.2.2.2.2.2.2.1 p.2.2.2.2.2.2.2.2.2.1 p.2.2.2.2.2.2.2.2.2.2) (fun p => k1 p.1 p.2.1 p.2.2.1 p.2.2.2.1 p.2.2.2.2.1 p.2.2.2.2.2.1 p.2.2.2.2.2.2))⟩
 · exact Or.inr (⟨v11, v12, v13, v14, v15, v16, v17, hq, fun R k0 k1 => e R (Sum.elim (fun p => k0 p.1 p.2.1 p.2.2.1 p.2.2.2.1 p.2.2.2.2.1 p.2.2.2.2.2.1 p.2.2.2.2.2.2.1 p.2.2.2.2.2.2.2.1 p.2.2.2.2.2.2.2.2.1 p.2.2.2.2.2.2.2.2.2.1 p.2.2.2.2.2.2.2.2.2.2) (fun p => k1 p.1 p.2.1 p.2.2.1 p.2.2.2.1 p.2.2.2.2.1 p.2.2.2.2.2.1 p.2.2.2.2.2.2))⟩)
end
section
variable {A0 A1 A2 A3 A4 A5 : Type}
abbrev Z195 (A0 A1 A2 A3 A4 A5 : Type) := (R : Type) → (A0 → A1 → A2 → A3 → A4 → Option R) → (A5 → Option R) → Option R
def Z179 (G : Z195 A0 A1 A2 A3 A4 A5) (Q0 : A0 → A1 → A2 → A3 → A4 → Prop) (Q1 : A5 → Prop) : Prop := (∃ v0 v1 v2 v3 v4, Q0 v0 v1 v2 v3 v4 ∧ ∀ R k0 k1, G R k0 k1 = k0 v0 v1 v2 v3 v4) ∨ (∃ v5, Q1 v5 ∧ ∀ R k0 k1, G R k0 k1 = k1 v5)
variable {G H : Z195 A0 A1 A2 A3 A4 A5} {Q0 : A0 → A1 → A2 → A3 → A4 → Prop} {Q1 : A5 → Prop}
theorem Z179.of (h : Tot (fun R (k : (A0 × A1 × A2 × A3 × A4) ⊕ (A5) → Option R) => G R (fun v0 v1 v2 v3 v4 => k (.inl (v0, v1, v2, v3, v4))) (fun v5 => k (.inr (v5)))) (Sum.elim (fun p => Q0 p.1 p.2.1 p.2.2.1 p.2.2.2.1 p.2.2.2.2) (fun p => Q1 p))) : Z179 G Q0 Q1 := by
 obtain ⟨v, hq, e⟩ := h
 rcases v with ⟨v0, v1, v2, v3, v4⟩ | v5
 · exact Or.inl ⟨v0, v1, v2, v3, v4, hq, fun R k0 k1 => e R (Sum.elim (fun p => k0 p.1 p.2.1 p.2.2.1 p.2.2.2.1 p.2.2.2.2) (fun p => k1 p))⟩
 · exact Or.inr (⟨v5, hq, fun R k0 k1 => e R (Sum.elim (fun p => k0 p.1 p.2.1 p.2.2.1 p.2.2.2.1 p.2.2.2.2) (fun p => k1 p))⟩)
end
section
variable {A0 A1 A2 A3 A4 A5 A6 A7 A8 A9 A10 A11 A12 A13 A14 A15 A16 A17 : Type}
abbrev Z19d (A0 A1 A2 A3 A4 A5 A6 A7 A8 A9 A10 A11 A12 A13 A14 A15 A16 A17 : Type) := (R : Type) → (A0 → A1 → A2 → A3 → A4 → A5 → A6 → A7 → A8 → A9 → Option R) → (A10 → A11 → A12 → A13 → A14 → A15 → A16 → A17 → Option R) → Option R
variable {G H : Z19d A0 A1 A2 A3 A4 A5 A6 A7 A8 A9 A10 A11 A12 A13 A14 A15 A16 A17} {Q0 : A0 → A1 → A2 → A3 → A4 → A5 → A6 → A7 → A8 → A9 → Prop} {Q1 : A10 → A11 → A12 → A13 → A14 → A15 → A16 → A17 → Prop}
end
section
variable {A0 A1 A2 A3 A4 A5 A6 A7 A8 : Type}
abbrev F_9 (A0 A1 A2 A3 A4 A5 A6 A7 A8 : Type) := (R : Type) → (A0 → A1 → A2 → A3 → A4 → A5 → A6 → A7 → A8 → Option R) → Option R
def T_9 (G : F_9 A0 A1 A2 A3 A4 A5 A6 A7 A8) (Q0 : A0 → A1 → A2 → A3 → A4 → A5 → A6 → A7 → A8 → Prop) : Prop := (∃ v0 v1 v2 v3 v4 v5 v6 v7 v8, Q0 v0 v1 v2 v3 v4 v5 v6 v7 v8 ∧ ∀ R k0, G R k0 = k0 v0 v1 v2 v3 v4 v5 v6 v7 v8)
variable {G H : F_9 A0 A1 A2 A3 A4 A5 A6 A7 A8} {Q0 : A0 → A1 → A2 → A3 → A4 → A5 → A6 → A7 → A8 → Prop}
theorem T_9.of (h : Tot (fun R (k : (A0 × A1 × A2 × A3 × A4 × A5 × A6 × A7 × A8) → Option R) => G R (fun v0 v1 v2 v3 v4 v5 v6 v7 v8 => k ((v0, v1, v2, v3, v4, v5, v6, v7, v8)))) (fun p => Q0 p.1 p.2.1 p.2.2.1 p.2.2.2.1 p.2.2.2.2.1 p.2.2.2.2.2.1 p.2.2.2.2.2.2.1 p.2.2.2.2.2.2.2.1 p.2.2.2.2.2.2.2.2)) : T_9 G Q0 := by
 obtain ⟨⟨v0, v1, v2, v3, v4, v5, v6, v7, v8⟩, hq, e⟩ := h
 · exact ⟨v0, v1, v2, v3, v4, v5, v6, v7, v8, hq, fun R k0 => e R (fun p => k0 p.1 p.2.1 p.2.2.1 p.2.2.2.1 p.2.2.2.2.1 p.2.2.2.2.2.1 p.2.2.2.2.2.2.1 p.2.2.2.2.2.2.2.1 p.2.2.2.2.2.2.2.2)⟩
theorem T_9.bind {B : Type} {Q : B → Prop} {X0 : A0 → A1 → A2 → A3 → A4 → A5 → A6 → A7 → A8 → (R : Type) → (B → Option R) → Option R} (h : T_9 G Q0) (h0 : ∀ v0 v1 v2 v3 v4 v5 v6 v7 v8, Q0 v0 v1 v2 v3 v4 v5 v6 v7 v8 → Tot (X0 v0 v1 v2 v3 v4 v5 v6 v7 v8) Q) : Tot (fun R k => G R (fun v0 v1 v2 v3 v4 v5 v6 v7 v8 => X0 v0 v1 v2 v3 v4 v5 v6 v7 v8 R k)) Q := by
 rcases h with ⟨v0, v1, v2, v3, v4, v5, v6, v7, v8, hq, e⟩
 · obtain ⟨v, hv, e2⟩ := h0 v0 v1 v2 v3 v4 v5 v6 v7 v8 hq
   exact ⟨v, hv, fun R k => (e R _).trans (e2 R k)⟩
end
section
variable {A0 A1 A2 A3 A4 A5 A6 A7 A8 A9 A10 A11 A12 A13 A14 A15 A16 A17 A18 A19 A20 A21 A22 A23 A24 A25 A26 A27 A28 : Type}
abbrev Z18b (A0 A1 A2 A3 A4 A5 A6 A7 A8 A9 A10 A11 A12 A13 A14 A15 A16 A17 A18 A19 A20 A21 A22 A23 A24 A25 A26 A27 A28 : Type) := (R : Type) → (A0 → A1 → A2 → A3 → A4 → A5 → A6 → A7 → A8 → A9 → A10 → A11 → A12 → A13 → A14 → A15 → Option R) → (A16 → A17 → A18 → A19 → A20 → A21 → A22 → A23 → A24 → A25 → A26 → A27 → A28 → Option R) → Option R
def Z12o (G : Z18b A0 A1 A2 A3 A4 A5 A6 A7 A8 A9 A10 A11 A12 A13 A14 A15 A16 A17 A18 A19 A20 A21 A22 A23 A24 A25 A26 A27 A28) (Q0 : A0 → A1 → A2 → A3 → A4 → A5 → A6 → A7 → A8 → A9 → A10 → A11 → A12 → A13 → A14 → A15 → Prop) (Q1 : A16 → A17 → A18 → A19 → A20 → A21 → A22 → A23 → A24 → A25 → A26 → A27 → A28 → Prop) : Prop := (∃ v0 v1 v2 v3 v4 v5 v6 v7 v8 v9 v10 v11 v12 v13 v14 v15, Q0 v0 v1 v2 v3 v4 v5 v6 v7 v8 v9 v10 v11 v12 v13 v14 v15 ∧ ∀ R k0 k1, G R k0 k1 = k0 v0 v1 v2 v3 v4 v5 v6 v7 v8 v9 v10 v11 v12 v13 v14 v15) ∨ (∃ v16 v17 v18 v19 v20 v21 v22 v23 v24 v25 v26 v27 v28, Q1 v16 v17 v18 v19 v20 v21 v22 v23 v24 v25 v26 v27 v28 ∧ ∀ R k0 k1, G R k0 k1 = k1 v16 v17 v18 v19 v20 v21 v22 v23 v24 v25 v26 v27 v28)
variable {G H : Z18b A0 A1 A2 A3 A4 A5 A6 A7 A8 A9 A10 A11 A12 A13 A14 A15 A16 A17 A18 A19 A20 A21 A22 A23 A24 A25 A26 A27 A28} {Q0 : A0 → A1 → A2 → A3 → A4 → A5 → A6 → A7 → A8 → A9 → A10 → A11 → A12 → A13 → A14 → A15 → Prop} {Q1 : A16 → A17 → A18 → A19 → A20 → A21 → A22 → A23 → A24 → A25 → A26 → A27 → A28 → Prop}
theorem Z12o.of (h : Tot (fun R (k : (A0 × A1 × A2 × A3 × A4 × A5 × A6 × A7 × A8 × A9 × A10 × A11 × A12 × A13 × A14 × A15) ⊕ (A16 × A17 × A18 × A19 × A20 × A21 × A22 × A23 × A24 × A25 × A26 × A27 × A28) → Option R) => G R (fun v0 v1 v2 v3 v4 v5 v6 v7 v8 v9 v10 v11 v12 v13 v14 v15 => k (.inl (v0, v1, v2, v3, v4, v5, v6, v7, v8, v9, v10, v11, v12, v13, v14, v15))) (fun v16 v17 v18 v19 v20 v21 v22 v23 v24 v25 v26 v27 v28 => k (.inr ((v16, v17, v18, v19, v20, v21, v22, v23, v24, v25, v26, v27, v28))))) (Sum.elim (fun p => Q0 p.1 p.2.1 p.2.2.1 p.2.2.2.1 p.2.2.2.2.1 p.2.2.2.2.2.1 p.2.2.2.2.2.2.1 p.2.2.2.2.2.2.2.1 p.2.2.2.2.2.2.2.2.1 p.2.2.2.2.2.2.2.2.2.1 p.2.2.2.2.2.2.2.2.2.2.1 p.2.2.2.2.2.2.2.2.2.2.2.1 p.2.2.2.2.2.2.2.2.2.2.2.2.1 p.2.2.2.2.2.2.2.2.2.2.2.2.2.1 p.2.2.2.2.2.2.2.2.2.2.2.2.2.2.1 p.2.2.2.2.2.2.2.2.2.2.2.2.2.2.2) (fun p => Q1 p.1 p.2.1 p.2.2.1 p.2.2.2.1 p.2.2.2.2.1 p.2.2.2.2.2.1 p.2.2.2.2.2.2.1 p.2.2.2.2.2.2.2.1 p.2.2.2.2.2.2.2.2.1 p.2.2.2.2.2.2.2.2.2.1 p.2.2.2.2.2.2.2.2.2.2.1 p.2.2.2.2.2.2.2.2.2.2.2.1 p.2.2.2.2.2.2.2.2.2.2.2.2))) : Z12o G Q0 Q1 := by
 obtain ⟨v, hq, e⟩ := h
 rcases v with ⟨v0, v1, v2, v3, v4, v5, v6, v7, v8, v9, v10, v11, v12, v13, v14, v15⟩ | ⟨v16, v17, v18, v19, v20, v21, v22, v23, v24, v25, v26, v27, v28⟩
 · exact Or.inl ⟨v0, v1, v2, v3, v4, v5, v6, v7, v8, v9, v10, v11, v12, v13, v14, v15, hq, fun R k0 k1 => e R (Sum.elim (fun p => k0 p.1 p.2.1 p.2.2.1 p.2.2.2.1 p.2.2.2.2.1 p.2.2.2.2.2.1 p.2.2.2.2.2.2.1 p.2.2.2.2.2.2.2.1 p.2.2.2.2.2.2.2.2.1 p.2.2.2.2.2.2.2.2.2.1 p.2.2.2.2.2.2.2.2.2.2.1 p.2.2.2.2.2.2.2.2.2.2.2.1 p.2.2.2.2.2.2.2.2.2.2.2.2.1 p.2.2.2.2.2.2.2.2.2.2.2.2.2.1 p.2.2.2.2.2.2.2.2.2.2.2.2.2.2.1 p.2.2.2.2.2.2.2.2.2.2.2.2.2.2.2) (fun p => k1 p.1 p.2.1 p.2.2.1 p.2.2.2.1 p.2.2.2.2.1 p.2.2.2.2.2.1 p.2.2.2.2.2.2.1 p.2.2.2.2.2.2.2.1 p.2.2.2.2.2.2.2.2.1 p.2.2.2.2.2.2.2.2.2.1 p.2.2.2.2.2.2.2.2.2.2.1 p.2.2.2.2.2.2.2.2.2.2.2.1 p.2.2.2.2.2.2.2.2.2.2.2.2))⟩
 · exact Or.inr (⟨v16, v17, v18, v19, v20, v21, v22, v23, v24, v25, v26, v27, v28, hq, fun R k0 k1 => e R (Sum.elim (fun p => k0 p.1 p.2.1 p.2.2.1 p.2.2.2.1 p.2.2.2.2.1 p.2.2.2.2.2.1 p.2.2.2.2.2.2.1 p.2.2.2.2.2.2.2.1 p.2.2.2.2.2.2.2.2.1 p.2.2.2.2.2.2.2.2.2.1 p.2.2.2.2.2.2.2.2.2.2.1 p.2.2.2.2.2.2.2.2.2.2.2.1 p.2.2.2.2.2.2.2.2.2.2.2.2.1 p.2.2.2.2.2.2.2.2.2.2.2.2.2.1 p.2.2.2.2.2.2.2.2.2.2.2.2.2.2.1 p.2.2.2.2.2.2.2.2.2.2.2.2.2.2.2) (fun p => k1 p.1 p.2.1 p.2.2.1 p.2.2.2.1 p.2.2.2.2.1 p.2.2.2.2.2.1 p.2.2.2.2.2.2.1 p.2.2.2.2.2.2.2.1 p.2.2.2.2.2.2.2.2.1 p.2.2.2.2.2.2.2.2.2.1 p.2.2.2.2.2.2.2.2.2.2.1 p.2.2.2.2.2.2.2.2.2.2.2.1 p.2.2.2.2.2.2.2.2.2.2.2.2))⟩)
end
section
variable {A0 A1 A2 A3 A4 A5 A6 A7 A8 A9 A10 A11 A12 : Type}
abbrev F_13 (A0 A1 A2 A3 A4 A5 A6 A7 A8 A9 A10 A11 A12 : Type) := (R : Type) → (A0 → A1 → A2 → A3 → A4 → A5 → A6 → A7 → A8 → A9 → A10 → A11 → A12 → Option R) → Option R
def T_13 (G : F_13 A0 A1 A2 A3 A4 A5 A6 A7 A8 A9 A10 A11 A12) (Q0 : A0 → A1 → A2 → A3 → A4 → A5 → A6 → A7 → A8 → A9 → A10 → A11 → A12 → Prop) : Prop := (∃ v0 v1 v2 v3 v4 v5 v6 v7 v8 v9 v10 v11 v12, Q0 v0 v1 v2 v3 v4 v5 v6 v7 v8 v9 v10 v11 v12 ∧ ∀ R k0, G R k0 = k0 v0 v1 v2 v3 v4 v5 v6 v7 v8 v9 v10 v11 v12)
variable {G H : F_13 A0 A1 A2 A3 A4 A5 A6 A7 A8 A9 A10 A11 A12} {Q0 : A0 → A1 → A2 → A3 → A4 → A5 → A6 → A7 → A8 → A9 → A10 → A11 → A12 → Prop}
theorem T_13.bind {B : Type} {Q : B → Prop} {X0 : A0 → A1 → A2 → A3 → A4 → A5 → A6 → A7 → A8 → A9 → A10 → A11 → A12 → (R : Type) → (B → Option R) → Option R} (h : T_13 G Q0) (h0 : ∀ v0 v1 v2 v3 v4 v5 v6 v7 v8 v9 v10 v11 v12, Q0 v0 v1 v2 v3 v4 v5 v6 v7 v8 v9 v10 v11 v12 → Tot (X0 v0 v1 v2 v3 v4 v5 v6 v7 v8 v9 v10 v11 v12) Q) : Tot (fun R k => G R (fun v0 v1 v2 v3 v4 v5 v6 v7 v8 v9 v10 v11 v12 => X0 v0 v1 v2 v3 v4 v5 v6 v7 v8 v9 v10 v11 v12 R k)) Q := by
 rcases h with ⟨v0, v1, v2, v3, v4, v5, v6, v7, v8, v9, v10, v11, v12, hq, e⟩
 · obtain ⟨v, hv, e2⟩ := h0 v0 v1 v2 v3 v4 v5 v6 v7 v8 v9 v10 v11 v12 hq
   exact ⟨v, hv, fun R k => (e R _).trans (e2 R k)⟩
end
section
variable {A0 A1 A2 A3 A4 A5 A6 A7 A8 A9 A10 A11 A12 A13 A14 A15 A16 A17 A18 A19 A20 A21 A22 A23 A24 A25 A26 : Type}
abbrev Z18e (A0 A1 A2 A3 A4 A5 A6 A7 A8 A9 A10 A11 A12 A13 A14 A15 A16 A17 A18 A19 A20 A21 A22 A23 A24 A25 A26 : Type) := (R : Type) → (A0 → A1 → A2 → A3 → A4 → A5 → A6 → A7 → A8 → A9 → A10 → A11 → A12 → Option R) → (A13 → A14 → A15 → A16 → A17 → A18 → A19 → A20 → A21 → A22 → A23 → A24 → A25 → A26 → Option R) → Option R
def Zbr (G : Z18e A0 A1 A2 A3 A4 A5 A6 A7 A8 A9 A10 A11 A12 A13 A14 A15 A16 A17 A18 A19 A20 A21 A22 A23 A24 A25 A26) (Q0 : A0 → A1 → A2 → A3 → A4 → A5 → A6 → A7 → A8 → A9 → A10 → A11 → A12 → Prop) (Q1 : A13 → A14 → A15 → A16 → A17 → A18 → A19 → A20 → A21 → A22 → A23 → A24 → A25 → A26 → Prop) : Prop := (∃ v0 v1 v2 v3 v4 v5 v6 v7 v8 v9 v10 v11 v12, Q0 v0 v1 v2 v3 v4 v5 v6 v7 v8 v9 v10 v11 v12 ∧ ∀ R k0 k1, G R k0 k1 = k0 v0 v1 v2 v3 v4 v5 v6 v7 v8 v9 v10 v11 v12) ∨ (∃ v13 v14 v15 v16 v17 v18 v19 v20 v21 v22 v23 v24 v25 v26, Q1 v13 v14 v15 v16 v17 v18 v19 v20 v21 v22 v23 v24 v25 v26 ∧ ∀ R k0 k1, G R k0 k1 = k1 v13 v14 v15 v16 v17 v18 v19 v20 v21 v22 v23 v24 v25 v26)
variable {G H : Z18e A0 A1 A2 A3 A4 A5 A6 A7 A8 A9 A10 A11 A12 A13 A14 A15 A16 A17 A18 A19 A20 A21 A22 A23 A24 A25 A26} {Q0 : A0 → A1 → A2 → A3 → A4 → A5 → A6 → A7 → A8 → A9 → A10 → A11 → A12 → Prop} {Q1 : A13 → A14 → A15 → A16 → A17 → A18 → A19 → A20 → A21 → A22 → A23 → A24 → A25 → A26 → Prop}
theorem Zbr.of (h : Tot (fun R (k : (A0 × A1 × A2 × A3 × A4 × A5 × A6 × A7 × A8 × A9 × A10 × A11 × A12) ⊕ (A13 × A14 × A15 × A16 × A17 × A18 × A19 × A20 × A21 × A22 × A23 × A24 × A25 × A26) → Option R) => G R (fun v0 v1 v2 v3 v4 v5 v6 v7 v8 v9 v10 v11 v12 => k (.inl (v0, v1, v2, v3, v4, v5, v6, v7, v8, v9, v10, v11, v12))) (fun v13 v14 v15 v16 v17 v18 v19 v20 v21 v22 v23 v24 v25 v26 => k (.inr ((v13, v14, v15, v16, v17, v18, v19, v20, v21, v22, v23, v24, v25, v26))))) (Sum.elim (fun p => Q0 p.1 p.2.1 p.2.2.1 p.2.2.2.1 p.2.2.2.2.1 p.2.2.2.2.2.1 p.2.2.2.2.2.2.1 p.2.2.2.2.2.2.2.1 p.2.2.2.2.2.2.2.2.1 p.2.2.2.2.2.2.2.2.2.1 p.2.2.2.2.2.2.2.2.2.2.1 p.2.2.2.2.2.2.2.2.2.2.2.1 p.2.2.2.2.2.2.2.2.2.2.2.2) (fun p => Q1 p.1 p.2.1 p.2.2.1 p.2.2.2.1 p.2.2.2.2.1 p.2.2.2.2.2.1 p.2.2.2.2.2.2.1 p.2.2.2.2.2.2.2.1 p.2.2.2.2.2.2.2.2.1 p.2.2.2.2.2.2.2.2.2.1 p.2.2.2.2.2.2.2.2.2.2.1 p.2.2.2.2.2.2.2.2.2.2.2.1 p.2.2.2.2.2.2.2.2.2.2.2.2.1 p.2.2.2.2.2.2.2.2.2.2.2.2.2))) : Zbr G Q0 Q1 := by
 obtain ⟨v, hq, e⟩ := h
 rcases v with ⟨v0, v1, v2, v3, v4, v5, v6, v7, v8, v9, v10, v11, v12⟩ | ⟨v13, v14, v15, v16, v17, v18, v19, v20, v21, v22, v23, v24, v25, v26⟩
 · exact Or.inl ⟨v0, v1, v2, v3, v4, v5, v6, v7, v8, v9, v10, v11, v12, hq, fun R k0 k1 => e R (Sum.elim (fun p => k0 p.1 p.2.1 p.2.2.1 p.2.2.2.1 p.2.2.2.2.1 p.2.2.2.2.2.1 p.2.2.2.2.2.2.1 p.2.2.2.2.2.2.2.1 p.2.2.2.2.2.2.2.2.1 p.2.2.2.2.2.2.2.2.2.1 p.2.2.2.2.2.2.2.2.2.2.1 p.2.2.2.2.2.2.2.2.2.2.2.1 p.2.2.2.2.2.2.2.2.2.2.2.2) (fun p => k1 p.1 p.2.1 p.2.2.1 p.2.2.2.1 p.2.2.2.2.1 p.2.2.2.2.2.1 p.2.2.2.2.2.2.1 p.2.2.2.2.2.2.2.1 p.2.2.2.2.2.2.2.2.1 p.2.2.2.2.2.2.2.2.2.1 p.2.2.2.2.2.2.2.2.2.2.1 p.2.2.2.2.2.2.2.2.2.2.2.1 p.2.2.2.2.2.2.2.2.2.2.2.2.1 p.2.2.2.2.2.2.2.2.2.2.2.2.2))⟩
 · exact Or.inr (⟨v13, v14, v15, v16, v17, v18, v19, v20, v21, v22, v23, v24, v25, v26, hq, fun R k0 k1 => e R (Sum.elim (fun p => k0 p.1 p.2.1 p.2.2.1 p.2.2.2.1 p.2.2.2.2.1 p.2.2.2.2.2.1 p.2.2.2.2.2.2.1 p.2.2.2.2.2.2.2.1 p.2.2.2.2.2.2.2.2.1 p.2.2.2.2.2.2.2.2.2.1 p.2.2.2.2.2.2.2.2.2.2.1 p.2.2.2.2.2.2.2.2.2.2.2.1 p.2.2.2.2.2.2.2.2.2.2.2.2) (fun p => k1 p.1 p.2.1 p.2.2.1 p.2.2.2.1 p.2.2.2.2.1 p.2.2.2.2.2.1 p.2.2.2.2.2.2.1 p.2.2.2.2.2.2.2.1 p.2.2.2.2.2.2.2.2.1 p.2.2.2.2.2.2.2.2.2.1 p.2.2.2.2.2.2.2.2.2.2.1 p.2.2.2.2.2.2.2.2.2.2.2.1 p.2.2.2.2.2.2.2.2.2.2.2.2.1 p.2.2.2.2.2.2.2.2.2.2.2.2.2))⟩)
theorem Zbr.bind {B : Type} {Q : B → Prop} {X0 : A0 → A1 → A2 → A3 → A4 → A5 → A6 → A7 → A8 → A9 → A10 → A11 → A12 → (R : Type) → (B → Option R) → Option R} {X1 : A13 → A14 → A15 → A16 → A17 → A18 → A19 → A20 → A21 → A22 → A23 → A24 → A25 → A26 → (R : Type) → (B → Option R) → Option R} (h : Zbr G Q0 Q1) (h0 : ∀ v0 v1 v2 v3 v4 v5 v6 v7 v8 v9 v10 v11 v12, Q0 v0 v1 v2 v3 v4 v5 v6 v7 v8 v9 v10 v11 v12 → Tot (X0 v0 v1 v2 v3 v4 v5 v6 v7 v8 v9 v10 v11 v12) Q) (h1 : ∀ v13 v14 v15 v16 v17 v18 v19 v20 v21 v22 v23 v24 v25 v26, Q1 v13 v14 v15 v16 v17 v18 v19 v20 v21 v22 v23 v24 v25 v26 → Tot (X1 v13 v14 v15 v16 v17 v18 v19 v20 v21 v22 v23 v24 v25 v26) Q) : Tot (fun R k => G R (fun v0 v1 v2 v3 v4 v5 v6 v7 v8 v9 v10 v11 v12 => X0 v0 v1 v2 v3 v4 v5 v6 v7 v8 v9 v10 v11 v12 R k) (fun v13 v14 v15 v16 v17 v18 v19 v20 v21 v22 v23 v24 v25 v26 => X1 v13 v14 v15 v16 v17 v18 v19 v20 v21 v22 v23 v24 v25 v26 R k)) Q := by
 rcases h with ⟨v0, v1, v2, v3, v4, v5, v6, v7, v8, v9, v10, v11, v12, hq, e⟩ | ⟨v13, v14, v15, v16, v17, v18, v19, v20, v21, v22, v23, v24, v25, v26, hq, e⟩
 · obtain ⟨v, hv, e2⟩ := h0 v0 v1 v2 v3 v4 v5 v6 v7 v8 v9 v10 v11 v12 hq
   exact ⟨v, hv, fun R k => (e R _ _).trans (e2 R k)⟩
 · obtain ⟨v, hv, e2⟩ := h1 v13 v14 v15 v16 v17 v18 v19 v20 v21 v22 v23 v24 v25 v26 hq
   exact ⟨v, hv, fun R k => (e R _ _).trans (e2 R k)⟩
theorem Zbr.congr (h : ∀ R k0 k1, G R k0 k1 = H R k0 k1) (t : Zbr H Q0 Q1) : Zbr G Q0 Q1 := by
 have e : G = H := by funext R k0 k1; exact h R k0 k1
 rw [e]; exact t
end
section
variable {A0 A1 A2 A3 A4 A5 A6 A7 A8 A9 A10 A11 A12 A13 A14 A15 A16 A17 A18 A19 A20 A21 : Type}
abbrev Z191 (A0 A1 A2 A3 A4 A5 A6 A7 A8 A9 A10 A11 A12 A13 A14 A15 A16 A17 A18 A19 A20 A21 : Type) := (R : Type) → (A0 → A1 → A2 → A3 → A4 → A5 → A6 → A7 → A8 → A9 → A10 → A11 → A12 → Option R) → (A13 → A14 → A15 → A16 → A17 → A18 → A19 → A20 → A21 → Option R) → Option R
def Z15h (G : Z191 A0 A1 A2 A3 A4 A5 A6 A7 A8 A9 A10 A11 A12 A13 A14 A15 A16 A17 A18 A19 A20 A21) (Q0 : A0 → A1 → A2 → A3 → A4 → A5 → A6 → A7 → A8 → A9 → A10 → A11 → A12 → Prop) (Q1 : A13 → A14 → A15 → A16 → A17 → A18 → A19 → A20 → A21 → Prop) : Prop := (∃ v0 v1 v2 v3 v4 v5 v6 v7 v8 v9 v10 v11 v12, Q0 v0 v1 v2 v3 v4 v5 v6 v7 v8 v9 v10 v11 v12 ∧ ∀ R k0 k1, G R k0 k1 = k0 v0 v1 v2 v3 v4 v5 v6 v7 v8 v9 v10 v11 v12) ∨ (∃ v13 v14 v15 v16 v17 v18 v19 v20 v21, Q1 v13 v14 v15 v16 v17 v18 v19 v20 v21 ∧ ∀ R k0 k1, G R k0 k1 = k1 v13 v14 v15 v16 v17 v18 v19 v20 v21)
variable {G H : Z191 A0 A1 A2 A3 A4 A5 A6 A7 A8 A9 A10 A11 A12 A13 A14 A15 A16 A17 A18 A19 A20 A21} {Q0 : A0 → A1 → A2 → A3 → A4 → A5 → A6 → A7 → A8 → A9 → A10 → A11 → A12 → Prop} {Q1 : A13 → A14 → A15 → A16 → A17 → A18 → A19 → A20 → A21 → Prop}
theorem Z15h.of (h : Tot (fun R (k : (A0 × A1 × A2 × A3 × A4 × A5 × A6 × A7 × A8 × A9 × A10 × A11 × A12) ⊕ (A13 × A14 × A15 × A16 × A17 × A18 × A19 × A20 × A21) → Option R) => G R (fun v0 v1 v2 v3 v4 v5 v6 v7 v8 v9 v10 v11 v12 => k (.inl (v0, v1, v2, v3, v4, v5, v6, v7, v8, v9, v10, v11, v12))) (fun v13 v14 v15 v16 v17 v18 v19 v20 v21 => k (.inr ((v13, v14, v15, v16, v17, v18, v19, v20, v21))))) (Sum.elim (fun p => Q0 p.1 p.2.1 p.2.2.1 p.2.2.2.1 p.2.2.2.2.1 p.2.2.2.2.2.1 p.2.2.2.2.2.2.1 p.2.2.2.2.2.2.2.1 p.2.2.2.2.2.2.2.2.1 p.2.2.2.2.2.2.2.2.2.1 p.2.2.2.2.2.2.2.2.2.2.1 p.2.2.2.2.2.2.2.2.2.2.2.1 p.2.2.2.2.2.2.2.2.2.2.2.2) (fun p => Q1 p.1 p.2.1 p.2.2.1 p.2.2.2.1 p.2.2.2.2.1 p.2.2.2.2.2.1 p.2.2.2.2.2.2.1 p.2.2.2.2.2.2.2.1 p.2.2.2.2.2.2.2.2))) : Z15h G Q0 Q1 := by
 obtain ⟨v, hq, e⟩ := h
 rcases v with ⟨v0, v1, v2, v3, v4, v5, v6, v7, v8, v9, v10, v11, v12⟩ | ⟨v13, v14, v15, v16, v17, v18, v19, v20, v21⟩
 · exact Or.inl ⟨v0, v1, v2, v3, v4, v5, v6, v7, v8, v9, v10, v11, v12, hq, fun R k0 k1 => e R (Sum.elim (fun p => k0 p.1 p.2.1 p.2.2.1 p.2.2.2.1 p.2.2.2.2.1 p.2.2.2.2.2.1 p.2.2.2.2.2.2.1 p.2.2.2.2.2.2.2.1 p.2.2.2.2.2.2.2.2.1 p.2.2.2.2.2.2.2.2.2.1 p.2.2.2.2.2.2.2.2.2.2.1 p.2.2.2.2.2.2.2.2.2.2.2.1 p.2.2.2.2.2.2.2.2.2.2.2.2) (fun p => k1 p.1 p.2.1 p.2.2.1 p.2.2.2.1 p.2.2.2.2.1 p.2.2.2.2.2.1 p.2.2.2.2.2.2.1 p.2.2.2.2.2.2.2.1 p.2.2.2.2.2.2.2.2))⟩
 · exact Or.inr (⟨v13, v14, v15, v16, v17, v18, v19, v20, v21, hq, fun R k0 k1 => e R (Sum.elim (fun p => k0 p.1 p.2.1 p.2.2.1 p.2.2.2.1 p.2.2.2.2.1 p.2.2.2.2.2.1 p.2.2.2.2.2.2.1 p.2.2.2.2.2.2.2.1 p.2.2.2.2.2.2.2.2.1 p.2.2.2.2.2.2.2.2.2.1 p.2.2.2.2.2.2.2.2.2.2.1 p.2.2.2.2.2.2.2.2.2.2.2.1 p.2.2.2.2.2.2.2.2.2.2.2.2) (fun p => k1 p.1 p.2.1 p.2.2.1 p.2.2.2.1 p.2.2.2.2.1 p.2.2.2.2.2.1 p.2.2.2.2.2.2.1 p.2.2.2.2.2.2.2.1 p.2.2.2.2.2.2.2.2))⟩)
end
section
variable {A0 A1 A2 A3 A4 A5 A6 A7 A8 A9 A10 A11 A12 A13 A14 A15 A16 A17 A18 A19 A20 A21 A22 A23 A24 : Type}
abbrev Z18g (A0 A1 A2 A3 A4 A5 A6 A7 A8 A9 A10 A11 A12 A13 A14 A15 A16 A17 A18 A19 A20 A21 A22 A23 A24 : Type) := (R : Type) → (A0 → A1 → A2 → A3 → A4 → A5 → A6 → A7 → A8 → A9 → A10 → A11 → A12 → A13 → Option R) → (A14 → A15 → A16 → A17 → A18 → A19 → A20 → A21 → A22 → A23 → A24 → Option R) → Option R
def Z12n (G : Z18g A0 A1 A2 A3 A4 A5 A6 A7 A8 A9 A10 A11 A12 A13 A14 A15 A16 A17 A18 A19 A20 A21 A22 A23 A24) (Q0 : A0 → A1 → A2 → A3 → A4 → A5 → A6 → A7 → A8 → A9 → A10 → A11 → A12 → A13 → Prop) (Q1 : A14 → A15 → A16 → A17 → A18 → A19 → A20 → A21 → A22 → A23 → A24 → Prop) : Prop := (∃ v0 v1 v2 v3 v4 v5 v6 v7 v8 v9 v10 v11 v12 v13, Q0 v0 v1 v2 v3 v4 v5 v6 v7 v8 v9 v10 v11 v12 v13 ∧ ∀ R k0 k1, G R k0 k1 = k0 v0 v1 v2 v3 v4 v5 v6 v7 v8 v9 v10 v11 v12 v13) ∨ (∃ v14 v15 v16 v17 v18 v19 v20 v21 v22 v23 v24, Q1 v14 v15 v16 v17 v18 v19 v20 v21 v22 v23 v24 ∧ ∀ R k0 k1, G R k0 k1 = k1 v14 v15 v16 v17 v18 v19 v20 v21 v22 v23 v24)
variable {G H : Z18g A0 A1 A2 A3 A4 A5 A6 A7 A8 A9 A10 A11 A12 A13 A14 A15 A16 A17 A18 A19 A20 A21 A22 A23 A24} {Q0 : A0 → A1 → A2 → A3 → A4 → A5 → A6 → A7 → A8 → A9 → A10 → A11 → A12 → A13 → Prop} {Q1 : A14 → A15 → A16 → A17 → A18 → A19 → A20 → A21 → A22 → A23 → A24 → Prop}
theorem Z12n.of (h : Tot (fun R (k : (A0 × A1 × A2 × A3 × A4 × A5 × A6 × A7 × A8 × A9 × A10 × A11 × A12 × A13) ⊕ (A14 × A15 × A16 × A17 × A18 × A19 × A20 × A21 × A22 × A23 × A24) → Option R) => G R (fun v0 v1 v2 v3 v4 v5 v6 v7 v8 v9 v10 v11 v12 v13 => k (.inl (v0, v1, v2, v3, v4, v5, v6, v7, v8, v9, v10, v11, v12, v13))) (fun v14 v15 v16 v17 v18 v19 v20 v21 v22 v23 v24 => k (.inr ((v14, v15, v16, v17, v18, v19, v20, v21, v22, v23, v24))))) (Sum.elim (fun p => Q0 p.1 p.2.1 p.2.2.1 p.2.2.2.1 p.2.2.2.2.1 p.2.2.2.2.2.1 p.2.2.2.2.2.2.1 p.2.2.2.2.2.2.2.1 p.2.2.2.2.2.2.2.2.1 p.2.2.2.2.2.2.2.2.2.1 p.2.2.2.2.2.2.2.2.2.2.1 p.2.2.2.2.2.2.2.2.2.2.2.1 p.2.2.2.2.2.2.2.2.2.2.2.2.1 p.2.2.2.2.2.2.2.2.2.2.2.2.2) (fun p => Q1 p.1 p.2.1 p.2.2.1 p.2.2.2.1 p.2.2.2.2.1 p.2.2.2.2.2.1 p.2.2.2.2.2.2.1 p.2.2.2.2.2.2.2.1 p.2.2.2.2.2.2.2.2.1 p.2.2.2.2.2.2.2.2.2.1 p.2.2.2.2.2.2.2.2.2.2))) : Z12n G Q0 Q1 := by
 obtain ⟨v, hq, e⟩ := h
 rcases v with ⟨v0, v1, v2, v3, v4, v5, v6, v7, v8, v9, v10, v11, v12, v13⟩ | ⟨v14, v15, v16, v17, v18, v19, v20, v21, v22, v23, v24⟩
 · exact Or.inl ⟨v0, v1, v2, v3, v4, v5, v6, v7, v8, v9, v10, v11, v12, v13, hq, fun R k0 k1 => e R (Sum.elim (fun p => k0 p.1 p.2.1 p.2.2.1 p.2.2.2.1 p.2.2.2.2.1 p.2.2.2.2.2.1 p.2.2.2.2.2.2.1 p.2.2.2.2.2.2.2.1 p.2.2.2.2.2.2.2.2.1 p.2.2.2.2.2.2.2.2.2.1 p.2.2.2.2.2.2.2.2.2.2.1 p.2.2.2.2.2.2.2.2.2.2.2.1 p.2.2.2.2.2.2.2.2.2.2.2.2.1 p.2.2.2.2.2.2.2.2.2.2.2.2.2) (fun p => k1 p.1 p.2.1 p.2.2.1 p.2.2.2.1 p.2.2.2.2.1 p.2.2.2.2.2.1 p.2.2.2.2.2.2.1 p.2.2.2.2.2.2.2.1 p.2.2.2.2.2.2.2.2.1 p.2.2.2.2.2.2.2.2.2.1 p.2.2.2.2.2.2.2.2.2.2))⟩
 · exact Or.inr (⟨v14, v15, v16, v17, v18, v19, v20, v21, v22, v23, v24, hq, fun R k0 k1 => e R (Sum.elim (fun p => k0 p.1 p.2.1 p.2.2.1 p.2.2.2.1 p.2.2.2.2.1 p.2.2.2.2.2.1 p.2.2.2.2.2.2.1 p.2.2.2.2.2.2.2.1 p.2.2.2.2.2.2.2.2.1 p.2.2.2.2.2.2.2.2.2.1 p.2.2.2.2.2.2.2.2.2.2.1 p.2.2.2.2.2.2.2.2.2.2.2.1 p.2.2.2.2.2.2.2.2.2.2.2.2.1 p.2.2.2.2.2.2.2.2.2.2.2.2.2) (fun p => k1 p.1 p.2.1 p.2.2.1 p.2.2.2.1 p.2.2.2.2.1 p.2.2.2.2.2.1 p.2.2.2.2.2.2.1 p.2.2.2.2.2.2.2.1 p.2.2.2.2.2.2.2.2.1 p.2.2.2.2.2.2.2.2.2.1 p.2.2.2.2.2.2.2.2.2.2))⟩)
end
section
variable {A0 A1 A2 A3 A4 A5 A6 A7 A8 A9 A10 : Type}
abbrev F_11 (A0 A1 A2 A3 A4 A5 A6 A7 A8 A9 A10 : Type) := (R : Type) → (A0 → A1 → A2 → A3 → A4 → A5 → A6 → A7 → A8 → A9 → A10 → Option R) → Option R
def T_11 (G : F_11 A0 A1 A2 A3 A4 A5 A6 A7 A8 A9 A10) (Q0 : A0 → A1 → A2 → A3 → A4 → A5 → A6 → A7 → A8 → A9 → A10 → Prop) : Prop := (∃ v0 v1 v2 v3 v4 v5 v6 v7 v8 v9 v10, Q0 v0 v1 v2 v3 v4 v5 v6 v7 v8 v9 v10 ∧ ∀ R k0, G R k0 = k0 v0 v1 v2 v3 v4 v5 v6 v7 v8 v9 v10)
variable {G H : F_11 A0 A1 A2 A3 A4 A5 A6 A7 A8 A9 A10} {Q0 : A0 → A1 → A2 → A3 → A4 → A5 → A6 → A7 → A8 → A9 → A10 → Prop}
theorem T_11.bind {B : Type} {Q : B → Prop} {X0 : A0 → A1 → A2 → A3 → A4 → A5 → A6 → A7 → A8 → A9 → A10 → (R : Type) → (B → Option R) → Option R} (h : T_11 G Q0) (h0 : ∀ v0 v1 v2 v3 v4 v5 v6 v7 v8 v9 v10, Q0 v0 v1 v2 v3 v4 v5 v6 v7 v8 v9 v10 → Tot (X0 v0 v1 v2 v3 v4 v5 v6 v7 v8 v9 v10) Q) : Tot (fun R k => G R (fun v0 v1 v2 v3 v4 v5 v6 v7 v8 v9 v10 => X0 v0 v1 v2 v3 v4 v5 v6 v7 v8 v9 v10 R k)) Q := by
 rcases h with ⟨v0, v1, v2, v3, v4, v5, v6, v7, v8, v9, v10, hq, e⟩
 · obtain ⟨v, hv, e2⟩ := h0 v0 v1 v2 v3 v4 v5 v6 v7 v8 v9 v10 hq
   exact ⟨v, hv, fun R k => (e R _).trans (e2 R k)⟩
end
section
variable {A0 A1 A2 A3 A4 A5 A6 A7 A8 A9 A10 A11 A12 A13 A14 A15 A16 A17 A18 A19 A20 A21 : Type}
abbrev Z18c (A0 A1 A2 A3 A4 A5 A6 A7 A8 A9 A10 A11 A12 A13 A14 A15 A16 A17 A18 A19 A20 A21 : Type) := (R : Type) → (A0 → A1 → A2 → A3 → A4 → A5 → A6 → A7 → A8 → A9 → A10 → A11 → Option R) → (A12 → A13 → A14 → A15 → A16 → A17 → A18 → A19 → A20 → A21 → Option R) → Option R
def Z12r (G : Z18c A0 A1 A2 A3 A4 A5 A6 A7 A8 A9 A10 A11 A12 A13 A14 A15 A16 A17 A18 A19 A20 A21) (Q0 : A0 → A1 → A2 → A3 → A4 → A5 → A6 → A7 → A8 → A9 → A10 → A11 → Prop) (Q1 : A12 → A13 → A14 → A15 → A16 → A17 → A18 → A19 → A20 → A21 → Prop) : Prop := (∃ v0 v1 v2 v3 v4 v5 v6 v7 v8 v9 v10 v11, Q0 v0 v1 v2 v3 v4 v5 v6 v7 v8 v9 v10 v11 ∧ ∀ R k0 k1, G R k0 k1 = k0 v0 v1 v2 v3 v4 v5 v6 v7 v8 v9 v10 v11) ∨ (∃ v12 v13 v14 v15 v16 v17 v18 v19 v20 v21, Q1 v12 v13 v14 v15 v16 v17 v18 v19 v20 v21 ∧ ∀ R k0 k1, G R k0 k1 = k1 v12 v13 v14 v15 v16 v17 v18 v19 v20 v21)
variable {G H : Z18c A0 A1 A2 A3 A4 A5 A6 A7 A8 A9 A10 A11 A12 A13 A14 A15 A16 A17 A18 A19 A20 A21} {Q0 : A0 → A1 → A2 → A3 → A4 → A5 → A6 → A7 → A8 → A9 → A10 → A11 → Prop} {Q1 : A12 → A13 → A14 → A15 → A16 → A17 → A18 → A19 → A20 → A21 → Prop}
theorem Z12r.of (h : Tot (fun R (k : (A0 × A1 × A2 × A3 × A4 × A5 × A6 × A7 × A8 × A9 × A10 × A11) ⊕ (A12 × A13 × A14 × A15 × A16 × A17 × A18 × A19 × A20 × A21) → Option R) => G R (fun v0 v1 v2 v3 v4 v5 v6 v7 v8 v9 v10 v11 => k (.inl (v0, v1, v2, v3, v4, v5, v6, v7, v8, v9, v10, v11))) (fun v12 v13 v14 v15 v16 v17 v18 v19 v20 v21 => k (.inr ((v12, v13, v14, v15, v16, v17, v18, v19, v20, v21))))) (Sum.elim (fun p => Q0 p.1 p.2.1 p.2.2.1 p.2.2.2.1 p.2.2.2.2.1 p.2.2.2.2.2.1 p.2.2.2.2.2.2.1 p.2.2.2.2.2.2.2.1 p.2.2.2.2.2.2.2.2.1 p.2.2.2.2.2.2.2.2.2.1 p.2.2.2.2.2.2.2.2.2.2.1 p.2.2.2.2.2.2.2.2.2.2.2) (fun p => Q1 p.1 p.2.1 p.2.2.1 p.2.2.2.1 p.2.2.2.2.1 p.2.2.2.2.2.1 p.2.2.2.2.2.2.1 p.2.2.2.2.2.2.2.1 p.2.2.2.2.2.2.2.2.1 p.2.2.2.2.2.2.2.2.2))) : Z12r G Q0 Q1 := by
 obtain ⟨v, hq, e⟩ := h
 rcases v with ⟨v0, v1, v2, v3, v4, v5, v6, v7, v8, v9, v10, v11⟩ | ⟨v12, v13, v14, v15, v16, v17, v18, v19, v20, v21⟩
 · exact Or.inl ⟨v0, v1, v2, v3, v4, v5, v6, v7, v8, v9, v10, v11, hq, fun R k0 k1 => e R (Sum.elim (fun p => k0 p.1 p.2.1 p.2.2.1 p.2.2.2.1 p.2.2.2.2.1 p.2.2.2.2.2.1 p.2.2.2.2.2.2.1 p.2.2.2.2.2.2.2.1 p.2.2.2.2.2.2.2.2.1 p.2.2.2.2.2.2.2.2.2.1 p.2.2.2.2.2.2.2.2.2.2.1 p.2.2.2.2.2.2.2.2.2.2.2) (fun p => k1 p.1 p.2.1 p.2.2.1 p.2.2.2.1 p.2.2.2.2.1 p.2.2.2.2.2.1 p.2.2.2.2.2.2.1 p.2.2.2.2.2.2.2.1 p.2.2.2.2.2.2.2.2.1 p.2.2.2.2.2.2.2.2.2))⟩
 · exact Or.inr (⟨v12, v13, v14, v15, v16, v17, v18, v19, v20, v21, hq, fun R k0 k1 => e R (Sum.elim (fun p => k0 p.1 p.2.1 p.2.2.1 p.2.2.2.1 p.2.2.2.2.1 p.2.2.2.2.2.1 p.2.2.2.2.2.2.1 p.2.2.2.2.2.2.2.1 p.2.2.2.2.2.2.2.2.1 p.2.2.2.2.2.2.2.2.2.1 p.2.2.2.2.2.2.2.2.2.2.1 p.2.2.2.2.2.2.2.2.2.2.2) (fun p => k1 p.1 p.2.1 p.2.2.1 p.2.2.2.1 p.2.2.2.2.1 p.2.2.2.2.2.1 p.2.2.2.2.2.2.1 p.2.2.2.2.2.2.2.1 p.2.2.2.2.2.2.2.2.1 p.2.2.2.2.2.2.2.2.2))⟩)
end
section
variable {A0 A1 A2 A3 A4 A5 A6 A7 A8 A9 : Type}
abbrev F_10 (A0 A1 A2 A3 A4 A5 A6 A7 A8 A9 : Type) := (R : Type) → (A0 → A1 → A2 → A3 → A4 → A5 → A6 → A7 → A8 → A9 → Option R) → Option R
def T_10 (G : F_10 A0 A1 A2 A3 A4 A5 A6 A7 A8 A9) (Q0 : A0 → A1 → A2 → A3 → A4 → A5 → A6 → A7 → A8 → A9 → Prop) : Prop := (∃ v0 v1 v2 v3 v4 v5 v6 v7 v8 v9, Q0 v0 v1 v2 v3 v4 v5 v6 v7 v8 v9 ∧ ∀ R k0, G R k0 = k0 v0 v1 v2 v3 v4 v5 v6 v7 v8 v9)
variable {G H : F_10 A0 A1 A2 A3 A4 A5 A6 A7 A8 A9} {Q0 : A0 → A1 → A2 → A3 → A4 → A5 → A6 → A7 → A8 → A9 → Prop}
theorem T_10.bind {B : Type} {Q : B → Prop} {X0 : A0 → A1 → A2 → A3 → A4 → A5 → A6 → A7 → A8 → A9 → (R : Type) → (B → Option R) → Option R} (h : T_10 G Q0) (h0 : ∀ v0 v1 v2 v3 v4 v5 v6 v7 v8 v9, Q0 v0 v1 v2 v3 v4 v5 v6 v7 v8 v9 → Tot (X0 v0 v1 v2 v3 v4 v5 v6 v7 v8 v9) Q) : Tot (fun R k => G R (fun v0 v1 v2 v3 v4 v5 v6 v7 v8 v9 => X0 v0 v1 v2 v3 v4 v5 v6 v7 v8 v9 R k)) Q := by
 rcases h with ⟨v0, v1, v2, v3, v4, v5, v6, v7, v8, v9, hq, e⟩
 · obtain ⟨v, hv, e2⟩ := h0 v0 v1 v2 v3 v4 v5 v6 v7 v8 v9 hq
   exact ⟨v, hv, fun R k => (e R _).trans (e2 R k)⟩
end
section
variable {A0 A1 A2 A3 A4 A5 A6 A7 A8 A9 A10 A11 A12 A13 A14 A15 A16 A17 A18 A19 : Type}
abbrev Z18f (A0 A1 A2 A3 A4 A5 A6 A7 A8 A9 A10 A11 A12 A13 A14 A15 A16 A17 A18 A19 : Type) := (R : Type) → (A0 → A1 → A2 → A3 → A4 → A5 → A6 → A7 → A8 → A9 → Option R) → (A10 → A11 → A12 → A13 → A14 → A15 → A16 → A17 → A18 → A19 → Option R) → Option R
def Z12s (G : Z18f A0 A1 A2 A3 A4 A5 A6 A7 A8 A9 A10 A11 A12 A13 A14 A15 A16 A17 A18 A19) (Q0 : A0 → A1 → A2 → A3 → A4 → A5 → A6 → A7 → A8 → A9 → Prop) (Q1 : A10 → A11 → A12 → A13 → A14 → A15 → A16 → A17 → A18 → A19 → Prop) : Prop := (∃ v0 v1 v2 v3 v4 v5 v6 v7 v8 v9, Q0 v0 v1 v2 v3 v4 v5 v6 v7 v8 v9 ∧ ∀ R k0 k1, G R k0 k1 = k0 v0 v1 v2 v3 v4 v5 v6 v7 v8 v9) ∨ (∃ v10 v11 v12 v13 v14 v15 v16 v17 v18 v19, Q1 v10 v11 v12 v13 v14 v15 v16 v17 v18 v19 ∧ ∀ R k0 k1, G R k0 k1 = k1 v10 v11 v12 v13 v14 v15 v16 v17 v18 v19)
variable {G H : Z18f A0 A1 A2 A3 A4 A5 A6 A7 A8 A9 A10 A11 A12 A13 A14 A15 A16 A17 A18 A19} {Q0 : A0 → A1 → A2 → A3 → A4 → A5 → A6 → A7 → A8 → A9 → Prop} {Q1 : A10 → A11 → A12 → A13 → A14 → A15 → A16 → A17 → A18 → A19 → Prop}
theorem Z12s.of (h : Tot (fun R (k : (A0 × A1 × A2 × A3 × A4 × A5 × A6 × A7 × A8 × A9) ⊕ (A10 × A11 × A12 × A13 × A14 × A15 × A16 × A17 × A18 × A19) → Option R) => G R (fun v0 v1 v2 v3 v4 v5 v6 v7 v8 v9 => k (.inl (v0, v1, v2, v3, v4, v5, v6, v7, v8, v9))) (fun v10 v11 v12 v13 v14 v15 v16 v17 v18 v19 => k (.inr ((v10, v11, v12, v13, v14, v15, v16, v17, v18, v19))))) (Sum.elim (fun p => Q0 p.1 p.2.1 p.2.2.1 p.2.2.2.1 p.2.2.2.2.1 p.2.2.2.2.2.1 p.2.2.2.2.2.2.1 p.2.2.2.2.2.2.2.1 p.2.2.2.2.2.2.2.2.1 p.2.2.2.2.2.2.2.2.2) (fun p => Q1 p.1 p.2.1 p.2.2.1 p.2.2.2.1 p.2.2.2.2.1 p.2.2.2.2.2.1 p.2.2.2.2.2.2.1 p.2.2.2.2.2.2.2.1 p.2.2.2.2.2.2.2.2.1 p.2.2.2.2.2.2.2.2.2))) : Z12s G Q0 Q1 := by
 obtain ⟨v, hq, e⟩ := h
 rcases v with ⟨v0, v1, v2, v3, v4, v5, v6, v7, v8, v9⟩ | ⟨v10, v11, v12, v13, v14, v15, v16, v17, v18, v19⟩
 · exact Or.inl ⟨v0, v1, v2, v3, v4, v5, v6, v7, v8, v9, hq, fun R k0 k1 => e R (Sum.elim (fun p => k0 p.1 p.2.1 p.2.2.1 p.2.2.2.1 p.2.2.2.2.1 p.2.2.2.2.2.1 p.2.2.2.2.2.2.1 p.2.2.2.2.2.2.2.1 p.2.2.2.2.2.2.2.2.1 p.2.2.2.2.2.2.2.2.2) (fun p => k1 p.1 p.2.1 p.2.2.1 p.2.2.2.1 p.2.2.2.2.1 p.2.2.2.2.2.1 p.2.2.2.2.2.2.1 p.2.2.2.2.2.2.2.1 p.2.2.2.2.2.2.2.2.1 p.2.2.2.2.2.2.2.2.2))⟩
 · exact Or.inr (⟨v10, v11, v12, v13, v14, v15, v16, v17, v18, v19, hq, fun R k0 k1 => e R (Sum.elim (fun p => k0 p.1 p.2.1 p.2.2.1 p.2.2.2.1 p.2.2.2.2.1 p.2.2.2.2.2.1 p.2.2.2.2.2.2.1 p.2.2.2.2.2.2.2.1 p.2.2.2.2.2.2.2.2.1 p.2.2.2.2.2.2.2.2.2) (fun p => k1 p.1 p.2.1 p.2.2.1 p.2.2.2.1 p.2.2.2.2.1 p.2.2.2.2.2.1 p.2.2.2.2.2.2.1 p.2.2.2.2.2.2.2.1 p.2.2.2.2.2.2.2.2.1 p.2.2.2.2.2.2.2.2.2))⟩)
end
section
variable {A0 A1 A2 A3 A4 A5 A6 A7 A8 A9 A10 A11 A12 A13 A14 A15 A16 A17 A18 A19 : Type}
abbrev Z18u (A0 A1 A2 A3 A4 A5 A6 A7 A8 A9 A10 A11 A12 A13 A14 A15 A16 A17 A18 A19 : Type) := (R : Type) → (A0 → A1 → A2 → A3 → A4 → A5 → A6 → A7 → A8 → A9 → A10 → Option R) → (A11 → A12 → A13 → A14 → A15 → A16 → A17 → A18 → A19 → Option R) → Option R
def Zrg (G : Z18u A0 A1 A2 A3 A4 A5 A6 A7 A8 A9 A10 A11 A12 A13 A14 A15 A16 A17 A18 A19) (Q0 : A0 → A1 → A2 → A3 → A4 → A5 → A6 → A7 → A8 → A9 → A10 → Prop) (Q1 : A11 → A12 → A13 → A14 → A15 → A16 → A17 → A18 → A19 → Prop) : Prop := (∃ v0 v1 v2 v3 v4 v5 v6 v7 v8 v9 v10, Q0 v0 v1 v2 v3 v4 v5 v6 v7 v8 v9 v10 ∧ ∀ R k0 k1, G R k0 k1 = k0 v0 v1 v2 v3 v4 v5 v6 v7 v8 v9 v10) ∨ (∃ v11 v12 v13 v14 v15 v16 v17 v18 v19, Q1 v11 v12 v13 v14 v15 v16 v17 v18 v19 ∧ ∀ R k0 k1, G R k0 k1 = k1 v11 v12 v13 v14 v15 v16 v17 v18 v19)
variable {G H : Z18u A0 A1 A2 A3 A4 A5 A6 A7 A8 A9 A10 A11 A12 A13 A14 A15 A16 A17 A18 A19} {Q0 : A0 → A1 → A2 → A3 → A4 → A5 → A6 → A7 → A8 → A9 → A10 → Prop} {Q1 : A11 → A12 → A13 → A14 → A15 → A16 → A17 → A18 → A19 → Prop}
theorem Zrg.of (h : Tot (fun R (k : (A0 × A1 × A2 × A3 × A4 × A5 × A6 × A7 × A8 × A9 × A10) ⊕ (A11 × A12 × A13 × A14 × A15 × A16 × A17 × A18 × A19) → Option R) => G R (fun v0 v1 v2 v3 v4 v5 v6 v7 v8 v9 v10 => k (.inl (v0, v1, v2, v3, v4, v5, v6, v7, v8, v9, v10))) (fun v11 v12 v13 v14 v15 v16 v17 v18 v19 => k (.inr ((v11, v12, v13, v14, v15, v16, v17, v18, v19))))) (Sum.elim (fun p => Q0 p.1 p.2.1 p.2.2.1 p.2.2.2.1 p.2.2.2.2.1 p.2.2.2.2.2.1 p.2.2.2.2.2.2.1 p.2.2.2.2.2.2.2.1 p.2.2.2.2.2.2.2.2.1 p.2.2.2.2.2.2.2.2.2.1 p.2.2.2.2.2.2.2.2.2.2) (fun p => Q1 p.1 p.2.1 p.2.2.1 p.2.2.2.1 p.2.2.2.2.1 p.2.2.2.2.2.1 p.2.2.2.2.2.2.1 p.2.2.2.2.2.2.2.1 p.2.2.2.2.2.2.2.2))) : Zrg G Q0 Q1 := by
 obtain ⟨v, hq, e⟩ := h
 rcases v with ⟨v0, v1, v2, v3, v4, v5, v6, v7, v8, v9, v10⟩ | ⟨v11, v12, v13, v14, v15, v16, v17, v18, v19⟩
 · exact Or.inl ⟨v0, v1, v2, v3, v4, v5, v6, v7, v8, v9, v10, hq, fun R k0 k1 => e R (Sum.elim (fun p => k0 p.1 p.2.1 p.2.2.1 p.2.2.2.1 p.2.2.2.2.1 p.2.2.2.2.2.1 p.2.2.2.2.2.2.1 p.2.2.2.2.2.2.2.1 p.2.2.2.2.2.2.2.2.1 p.2.2.2.2.2.2.2.2.2.1 p.2.2.2.2.2.2.2.2.2.2) (fun p => k1 p.1 p.2.1 p.2.2.1 p.2.2.2.1 p.2.2.2.2.1 p.2.2.2.2.2.1 p.2.2.2.2.2.2.1 p.2.2.2.2.2.2.2.1 p.2.2.2.2.2.2.2.2))⟩
 · exact Or.inr (⟨v11, v12, v13, v14, v15, v16, v17, v18, v19, hq, fun R k0 k1 => e R (Sum.elim (fun p => k0 p.1 p.2.1 p.2.2.1 p.2.2.2.1 p.2.2.2.2.1 p.2.2.2.2.2.1 p.2.2.2.2.2.2.1 p.2.2.2.2.2.2.2.1 p.2.2.2.2.2.2.2.2.1 p.2.2.2.2.2.2.2.2.2.1 p.2.2.2.2.2.2.2.2.2.2) (fun p => k1 p.1 p.2.1 p.2.2.1 p.2.2.2.1 p.2.2.2.2.1 p.2.2.2.2.2.1 p.2.2.2.2.2.2.1 p.2.2.2.2.2.2.2.1 p.2.2.2.2.2.2.2.2))⟩)
end
section
variable {A0 A1 A2 A3 A4 A5 A6 A7 A8 A9 A10 A11 A12 A13 A14 A15 A16 A17 A18 A19 A20 A21 A22 A23 : Type}
abbrev Z18d (A0 A1 A2 A3 A4 A5 A6 A7 A8 A9 A10 A11 A12 A13 A14 A15 A16 A17 A18 A19 A20 A21 A22 A23 : Type) := (R : Type) → (A0 → A1 → A2 → A3 → A4 → A5 → A6 → A7 → A8 → A9 → A10 → A11 → A12 → Option R) → (A13 → A14 → A15 → A16 → A17 → A18 → A19 → A20 → A21 → A22 → A23 → Option R) → Option R
def Z12p (G : Z18d A0 A1 A2 A3 A4 A5 A6 A7 A8 A9 A10 A11 A12 A13 A14 A15 A16 A17 A18 A19 A20 A21 A22 A23) (Q0 : A0 → A1 → A2 → A3 → A4 → A5 → A6 → A7 → A8 → A9 → A10 → A11 → A12 → Prop) (Q1 : A13 → A14 → A15 → A16 → A17 → A18 → A19 → A20 → A21 → A22 → A23 → Prop) : Prop := (∃ v0 v1 v2 v3 v4 v5 v6 v7 v8 v9 v10 v11 v12, Q0 v0 v1 v2 v3 v4 v5 v6 v7 v8 v9 v10 v11 v12 ∧ ∀ R k0 k1, G R k0 k1 = k0 v0 v1 v2 v3 v4 v5 v6 v7 v8 v9 v10 v11 v12) ∨ (∃ v13 v14 v15 v16 v17 v18 v19 v20 v21 v22 v23, Q1 v13 v14 v15 v16 v17 v18 v19 v20 v21 v22 v23 ∧ ∀ R k0 k1, G R k0 k1 = k1 v13 v14 v15 v16 v17 v18 v19 v20 v21 v22 v23)
variable {G H : Z18d A0 A1 A2 A3 A4 A5 A6 A7 A8 A9 A10 A11 A12 A13 A14 A15 A16 A17 A18 A19 A20 A21 A22 A23} {Q0 : A0 → A1 → A2 → A3 → A4 → A5 → A6 → A7 → A8 → A9 → A10 → A11 → A12 → Prop} {Q1 : A13 → A14 → A15 → A16 → A17 → A18 → A19 → A20 → A21 → A22 → A23 → Prop}
theorem Z12p.of (h : Tot (fun R (k : (A0 × A1 × A2 × A3 × A4 × A5 × A6 × A7 × A8 × A9 × A10 × A11 × A12) ⊕ (A13 × A14 × A15 × A16 × A17 × A18 × A19 × A20 × A21 × A22 × A23) → Option R) => G R (fun v0 v1 v2 v3 v4 v5 v6 v7 v8 v9 v10 v11 v12 => k (.inl (v0, v1, v2, v3, v4, v5, v6, v7, v8, v9, v10, v11, v12))) (fun v13 v14 v15 v16 v17 v18 v19 v20 v21 v22 v23 => k (.inr ((v13, v14, v15, v16, v17, v18, v19, v20, v21, v22, v23))))) (Sum.elim (fun p => Q0 p.1 p.2.1 p.2.2.1 p.2.2.2.1 p.2.2.2.2.1 p.2.2.2.2.2.1 p.2.2.2.2.2.2.1 p.2.2.2.2.2.2.2.1 p.2.2.2.2.2.2.2.2.1 p.2.2.2.2.2.2.2.2.2.1 p.2.2.2.2.2.2.2.2.2.2.1 p.2.2.2.2.2.2.2.2.2.2.2.1 p.2.2.2.2.2.2.2.2.2.2.2.2) (fun p => Q1 p.1 p.2.1 p.2.2.1 p.2.2.2.1 p.2.2.2.2.1 p.2.2.2.2.2.1 p.2.2.2.2.2.2.1 p.2.2.2.2.2.2.2.1 p.2.2.2.2.2.2.2.2.1 p.2.2.2.2.2.2.2.2.2.1 p.2.2.2.2.2.2.2.2.2.2))) : Z12p G Q0 Q1 := by
 obtain ⟨v, hq, e⟩ := h
 rcases v with ⟨v0, v1, v2, v3, v4, v5, v6, v7, v8, v9, v10, v11, v12⟩ | ⟨v13, v14, v15, v16, v17, v18, v19, v20, v21, v22, v23⟩
 · exact Or.inl ⟨v0, v1, v2, v3, v4, v5, v6, v7, v8, v9, v10, v11, v12, hq, fun R k0 k1 => e R (Sum.elim (fun p => k0 p.1 p.2.1 p.2.2.1 p.2.2.2.1 p.2.2.2.2.1 p.2.2.2.2.2.1 p.2.2.2.2.2.2.1 p.2.2.2.2.2.2.2.1 p.2.2.2.2.2.2.2.2.1 p.2.2.2.2.2.2.2.2.2.1 p.2.2.2.2.2.2.2.2.2.2.1 p.2.2.2.2.2.2.2.2.2.2.2.1 p.2.2.2.2.2.2.2.2.2.2.2.2) (fun p => k1 p.1 p.2.1 p.2.2.1 p.2.2.2.1 p.2.2.2.2.1 p.2.2.2.2.2.1 p.2.2.2.2.2.2.1 p.2.2.2.2.2.2.2.1 p.2.2.2.2.2.2.2.2.1 p.2.2.2.2.2.2.2.2.2.1 p.2.2.2.2.2.2.2.2.2.2))⟩
 · exact Or.inr (⟨v13, v14, v15, v16, v17, v18, v19, v20, v21, v22, v23, hq, fun R k0 k1 => e R (Sum.elim (fun p => k0 p.1 p.2.1 p.2.2.1 p.2.2.2.1 p.2.2.2.2.1 p.2.2.2.2.2.1 p.2.2.2.2.2.2.1 p.2.2.2.2.2.2.2.1 p.2.2.2.2.2.2.2.2.1 p.2.2.2.2.2.2.2.2.2.1 p.2.2.2.2.2.2.2.2.2.2.1 p.2.2.2.2.2.2.2.2.2.2.2.1 p.2.2.2.2.2.2.2.2.2.2.2.2) (fun p => k1 p.1 p.2.1 p.2.2.1 p.2.2.2.1 p.2.2.2.2.1 p.2.2.2.2.2.1 p.2.2.2.2.2.2.1 p.2.2.2.2.2.2.2.1 p.2.2.2.2.2.2.2.2.1 p.2.2.2.2.2.2.2.2.2.1 p.2.2.2.2.2.2.2.2.2.2))⟩)
end
theorem Zwn (a1 a2 : Int) : T_2 (fun R k0 => Z1i R a1 a2 k0) (fun z0 z1 => True) := by
  refine T_2.of ?_
  delta Z1i Zu0
  refine Tot.lett (fun v3 e_v3 => ?_)
  first | simp (disch := omega) only [ts, *] at e_v3 | skip
  refine Tot.lett (fun v4 e_v4 => ?_)
  first | simp (disch := omega) only [ts, *] at e_v4 | skip
  refine Tot.lett (fun v5 e_v5 => ?_)
  first | simp (disch := omega) only [ts, *] at e_v5 | skip
  refine Tot.lett (fun v6 e_v6 => ?_)
  first | simp (disch := omega) only [ts, *] at e_v6 | skip
  refine Tot.lett (fun v7 e_v7 => ?_)
  first | simp (disch := omega) only [ts, *] at e_v7 | skip
  refine Tot.lett (fun v8 e_v8 => ?_)
  first | simp (disch := omega) only [ts, *] at e_v8 | skip
  refine Tot.lett (fun v9 e_v9 => ?_)
  first | simp (disch := omega) only [ts, *] at e_v9 | skip
  refine Tot.lett (fun v10 e_v10 => ?_)
  first | simp (disch := omega) only [ts, *] at e_v10 | skip
  exact Tot.ret _
theorem Zc5 (a0 a1 a2 : Int) (h0 : autoParam ((bit1 a2) = true) sA._auto_1) : T_2 (fun R k0 => Zg R a0 a1 a2 k0) (fun z0 z1 => (z0 = add64S (a0) (a1) (a2)) ∧ (z1 = add64C (a0) (a1) (a2)) ∧ (0 ≤ z1) ∧ (z1 ≤ 1)) :=
  ⟨add64S (a0) (a1) (a2), add64C (a0) (a1) (a2), ⟨rfl, rfl, add64C_bit.1, add64C_bit.2⟩, fun R k0 => by
    show gd _ _ = _
    rw [h0]
    rfl⟩
theorem Z154 (a0 a1 a2 : Int) (h0 : autoParam ((bit1 a2) = true) sA._auto_1) : T_2 (fun R k0 => Z8v R a0 a1 a2 k0) (fun z0 z1 => (z0 = sub64D (a0) (a1) (a2)) ∧ (z1 = sub64B (a0) (a1) (a2)) ∧ (0 ≤ z1) ∧ (z1 ≤ 1)) :=
  ⟨sub64D (a0) (a1) (a2), sub64B (a0) (a1) (a2), ⟨rfl, rfl, sub64B_bit.1, sub64B_bit.2⟩, fun R k0 => by
    show gd _ _ = _
    rw [h0]
    rfl⟩
theorem br_true {R : Type} (x y : Option R) : br true x y = x := rfl
theorem br_false {R : Type} (x y : Option R) : br false x y = y := rfl
theorem gd_true {R : Type} (x : Option R) : gd true x = x := rfl
theorem brT {R : Type} {b : Bool} (x y : Option R) (h : b = true) : br b x y = x := by subst h; rfl
theorem brF {R : Type} {b : Bool} (x y : Option R) (h : b = false) : br b x y = y := by subst h; rfl
theorem gdT {R : Type} {b : Bool} (x : Option R) (h : b = true) : gd b x = x := by subst h; rfl
theorem catB_of {a b : Str} (h : a.length + b.length ≤ 9223372036854775807) : catB a b = true := by unfold catB; rw [decide_eq_true_eq]; exact h
theorem cvt8 {n : Int} (h0 : 0 ≤ n) : cvtI .u8 n = n % 256 := by
  unfold cvtI IntKind.wrap
  simp [IntKind.signed, IntKind.bits]
theorem shr_eq {k : IntKind} {a : Int} {j : Nat} (h : j ≤ k.bits) : shrI k a (j : Int) = a / 2 ^ j := by
  unfold shrI
  rw [Int.toNat_natCast, Nat.min_eq_left h, Int.fdiv_eq_ediv_of_nonneg _ (Int.pow_nonneg (by omega))]
theorem u8_lt (b : UInt8) : b.toNat < 256 := b.toNat_lt
theorem ofNat_toNat (b : UInt8) : UInt8.ofNat b.toNat = b := by simp
theorem toNat_ofNat {n : Nat} (h : n < 256) : (UInt8.ofNat n).toNat = n := by simp; omega
def wr (t : UInt8) (b : Str) : Str :=
  if b.length < 128 then [t, UInt8.ofNat b.length] ++ b
  else if b.length < 256 then [t, 129, UInt8.ofNat b.length] ++ b
  else [t, 130, UInt8.ofNat (b.length / 256), UInt8.ofNat (b.length % 256)] ++ b
def tagB (t : Int) : Bool := decide (0 ≤ t) && decide (t < 256) && !decide (t % 32 = 31)
theorem and31 (t : Int) (h0 : 0 ≤ t) (h1 : t < 256) : andI .i64 t 31 = t % 32 := by
  have h : ∀ n : Nat, n < 256 → andI .i64 (n : Int) 31 = (n : Int) % 32 := by decide
  have := h t.toNat (by omega)
  rwa [Int.toNat_of_nonneg h0] at this
theorem isTag_eq (t : Int) (R : Type) (k : Bool → Option R) : Z4g R t k = k (tagB t) := by
  unfold Z4g Zxc tagB lett
  by_cases h0 : 0 ≤ t
  · rw [brT _ _ (by simp [ts, h0])]
    by_cases h1 : t < 256
    · rw [brT _ _ (by simp [ts, h1]), and31 t h0 h1]
      simp [h0, h1, eqI]
    · rw [brF _ _ (by simp only [ts]; omega)]
      simp [h1]
  · rw [brF _ _ (by simp only [ts]; omega)]
    simp [h0]
theorem write_ok (t : Int) (b : Str) (ht : tagB t = true) (hb : b.length ≤ 65535) (R : Type) (k : Str → Int → Option R) :
    Z1s R t b k = k (wr (UInt8.ofNat t.toNat) b) 0 := by
  have ht' := ht
  unfold tagB at ht'
  simp only [Bool.and_eq_true, decide_eq_true_eq, Bool.not_eq_true', decide_eq_false_iff_not] at ht'
  unfold Z1s Zxs lett
  dsimp only
  rw [isTag_eq, ht]
  simp only [Bool.not_true, br_false]
  rw [brF _ _ (by simp only [ts]; omega), cvt8 (by omega)]
  rw [show t % 256 = t by omega]
  rw [show ∀ (a : Str) (n : Int) (s : Str) (K : Str → Str → Option R), Z12k Z4g R a n s K = Zl9 Z4g R a n s K from fun a n s K => by kernel_rfl]
  unfold Zl9 lett wr
  dsimp only
  by_cases h1 : b.length < 128
  · rw [brT _ _ (by simp only [ts]; omega), if_pos h1, gdT _ (by simp [ts]), cvt8 (by omega), gdT _ (by simp only [ts]; simp; omega)]
    rw [show (((b.length : Int) % 256).toNat) = b.length by omega]
    rfl
  · rw [brF _ _ (by simp only [ts]; omega), if_neg h1]
    by_cases h2 : b.length < 256
    · rw [brT _ _ (by simp only [ts]; omega), if_pos h2, gdT _ (by simp [ts]), cvt8 (by omega), gdT _ (by simp only [ts]; simp; omega)]
      rw [show (((b.length : Int) % 256).toNat) = b.length by omega]
      rfl
    · have e : shrI .i64 (b.length : Int) 8 = ((b.length / 256 : Nat) : Int) := by
        rw [show (8 : Int) = ((8 : Nat) : Int) from rfl, shr_eq (by decide)]
        omega
      rw [brF _ _ (by simp only [ts]; omega), if_neg h2, e, gdT _ (by simp [ts]), cvt8 (by omega), cvt8 (by omega), gdT _ (by simp only [ts]; simp; omega)]
      rw [show (((b.length : Int) % 256).toNat) = b.length % 256 by omega, show ((((b.length / 256 : Nat) : Int) % 256).toNat) = b.length / 256 by omega]
      rfl
def num (a : Int) (s : Str) : Int := s.foldl (fun x b => x * 256 + (b.toNat : Int)) a
theorem num_step (a : Int) (s : Str) (i : Nat) (h : i < s.length) : num a (s.drop i) = num (a * 256 + ((s.getD i 0).toNat : Int)) (s.drop (i + 1)) := by
  unfold num
  rw [List.drop_eq_getElem_cons h, List.foldl_cons, List.getD_eq_getElem?_getD, List.getElem?_eq_getElem h]
  rfl
theorem num_end (a : Int) (s : Str) (i : Nat) (h : s.length ≤ i) : num a (s.drop i) = a := by
  rw [List.drop_eq_nil_of_le h]; rfl
theorem orShl (x b : Int) (hx0 : -36028797018963968 ≤ x) (hx1 : x < 36028797018963968) (hb0 : 0 ≤ b) (hb1 : b < 256) : orI .i64 (shlI .i64 x 8) b = x * 256 + b := by
  have e : shlI .i64 x 8 = x * 256 := by
    unfold shlI
    rw [show (2 : Int) ^ (min (Int.toNat 8) (IntKind.bits .i64)) = 256 by decide]
    exact wrap_i64' (by omega) (by omega)
  rw [e]
  unfold orI
  rw [show IntKind.bits .i64 = 64 from rfl]
  obtain ⟨b, rfl⟩ : ∃ n : Nat, (n : Int) = b := ⟨b.toNat, by omega⟩
  have h1 : (BitVec.ofInt 64 (x * 256)).toNat = 2 ^ 8 * ((x % 72057594037927936).toNat) := by
    rw [BitVec.toNat_ofInt]
    omega
  have h2 : (BitVec.ofInt 64 (b : Int)).toNat = b := by
    rw [BitVec.toNat_ofInt]
    omega
  rw [BitVec.toNat_or, h1, h2, ← Nat.two_pow_add_eq_or_of_lt (by omega)]
  unfold IntKind.wrap
  simp [IntKind.signed, IntKind.bits]
  omega
def hdr (n : Nat) : Str := if n < 128 then [UInt8.ofNat n] else if n < 256 then [129, UInt8.ofNat n] else [130, UInt8.ofNat (n / 256), UInt8.ofNat (n % 256)]
theorem wr_hdr (t : UInt8) (b : Str) : wr t b = t :: hdr b.length ++ b := by
  unfold wr hdr
  split
  · rfl
  · split <;> rfl
theorem pow256_le {a b : Nat} (h : a ≤ b) : (256 : Int) ^ a ≤ 256 ^ b := by
  have := Nat.pow_le_pow_right (n := 256) (by decide) h
  have e : ∀ n : Nat, (((256 ^ n : Nat)) : Int) = (256 : Int) ^ n := fun n => by simp
  rw [← e, ← e]
  omega
theorem length_loop {R : Type} (at_ : Int) (k : Int → Int → Option R) : ∀ (m n : Nat) (x : Int) (s : Str) (i : Nat), s.length = i + m → m < n → s.length ≤ 100 → 0 ≤ x → x < 256 ^ (6 - m) → m ≤ 6 →
    Zkq R n x at_ (s.length : Int) (i : Int) s k = k (num x (s.drop i)) at_
  | _, 0, _, _, _, _, h, _, _, _, _ => absurd h (Nat.not_lt_zero _)
  | 0, n + 1, x, s, i, hs, _, h2, h0, h1, h6 => by
    rw [Zrb]
    unfold Zdl
    rw [brF _ _ (by simp only [ts]; omega), num_end _ _ _ (by omega)]
  | m + 1, n + 1, x, s, i, hs, hn, h2, h0, h1, h6 => by
    rw [Zrb]
    unfold Zdl lett; dsimp only
    have hb := u8_lt (s.getD i 0)
    have hx : x < 256 ^ 5 := Int.lt_of_lt_of_le h1 (pow256_le (by omega))
    have hp : (256 : Int) ^ (6 - m) = 256 ^ (6 - (m + 1)) * 256 := by
      rw [show 6 - m = 6 - (m + 1) + 1 by omega, Int.pow_succ]
    rw [brT _ _ (by simp only [ts]; omega), gdT _ (by simp only [ts]; omega), Int.toNat_natCast, tcvt (by omega) (by omega), orShl _ _ (by omega) (by omega) (by omega) (by omega), tadd (by omega) (by omega), num_step _ _ _ (by omega)]
    rw [← length_loop at_ k m n (x * 256 + ((s.getD i 0).toNat : Int)) s (i + 1) (by omega) (by omega) h2 (by omega) (by omega) (by omega)]
    simp only [Int.natCast_add, Int.natCast_one]
theorem lengthl0_eq (at_ : Int) (s : Str) (h : s.length ≤ 6) (R : Type) (k : Int → Int → Option R) : Zkn R 0 at_ (s.length : Int) 0 s k = k (num 0 s) at_ := by
  rw [Z15g]
  exact length_loop at_ k s.length (Z9r 0 at_ s.length 0 s) 0 s 0 (by omega) (by unfold Z9r; omega) (by omega) (by omega) (Int.pow_pos (by decide)) h
theorem fder_length_tot (s : Str) (h : s.length ≤ 1000000000) : T_3 (fun R k0 => Z2m R s k0) (fun n a e => (e = 0 → ∃ (t : UInt8) (r : Str), s = t :: hdr n.toNat ++ r ∧ a = 1 + ((hdr n.toNat).length : Int) ∧ 0 ≤ n ∧ n ≤ 65535) ∧
    (e ≠ 0 → (e = 10 ∨ e = 11) ∧ ∀ (t : UInt8) (m : Nat) (r : Str), m ≤ 65535 → s ≠ t :: hdr m ++ r)) := by
  have one : ∀ (t c : UInt8) (r : Str) (t' : UInt8) (m : Nat) (r' : Str), t :: c :: r = t' :: hdr m ++ r' → (m < 128 ∧ c = UInt8.ofNat m) ∨ (128 ≤ m ∧ m < 256 ∧ c = 129 ∧ r = UInt8.ofNat m :: r') ∨ (256 ≤ m ∧ c = 130 ∧ r = UInt8.ofNat (m / 256) :: UInt8.ofNat (m % 256) :: r') := by
    intro t c r t' m r' e
    unfold hdr at e
    split at e
    · left; simp at e; exact ⟨by omega, e.2.1⟩
    · split at e
      · right; left; simp at e; exact ⟨by omega, by omega, e.2.1, e.2.2⟩
      · right; right; simp at e; exact ⟨by omega, e.2.1, e.2.2⟩
  have short : ∀ (s : Str), s.length < 2 → ∀ (t : UInt8) (m : Nat) (r : Str), m ≤ 65535 → s ≠ t :: hdr m ++ r := by
    intro s hs t m r _ e
    rw [e] at hs
    unfold hdr at hs
    split at hs
    · simp at hs; omega
    · split at hs <;> simp at hs <;> omega
  have big : ∀ (m : Nat), m < 256 → UInt8.ofNat m = UInt8.ofNat m ∧ (UInt8.ofNat m).toNat = m := fun m hm => ⟨rfl, toNat_ofNat hm⟩
  match s, h with
  | [], _ => exact ⟨0, 0, 10, ⟨fun h => absurd h (by decide), fun _ => ⟨.inl rfl, short [] (by decide)⟩⟩, fun R k => rfl⟩
  | [t], _ => exact ⟨0, 0, 10, ⟨fun h => absurd h (by decide), fun _ => ⟨.inl rfl, short [t] (by simp)⟩⟩, fun R k => rfl⟩
  | t :: c :: r, h => 
    have hc := u8_lt c
    simp only [List.length_cons] at h
    by_cases c1 : c.toNat < 128
    · refine ⟨c.toNat, 2, 0, ⟨fun _ => ⟨t, r, ?_, ?_, by omega, by omega⟩, fun h => absurd rfl h⟩, fun R k => ?_⟩
      · unfold hdr; rw [Int.toNat_natCast, if_pos c1, ofNat_toNat]; rfl
      · unfold hdr; rw [Int.toNat_natCast, if_pos c1]; rfl
      · unfold Z2m Zi1 lett; dsimp only
        rw [show ((t :: c :: r).getD 1 0) = c from rfl, brF _ _ (by simp [ts]; omega), gdT _ (by simp [ts]; omega), tcvt (by omega) (by omega), brT _ _ (by simp [ts]; omega)]
    · by_cases c2 : c.toNat = 128 ∨ 130 < c.toNat
      · refine ⟨0, 0, 11, ⟨fun h => absurd h (by decide), fun _ => ⟨.inr rfl, fun t' m r' hm e => ?_⟩⟩, fun R k => ?_⟩
        · rcases one _ _ _ _ _ _ e with ⟨h1, h2⟩ | ⟨_, _, h2, _⟩ | ⟨_, h2, _⟩
          · rw [h2, toNat_ofNat (by omega)] at c1; omega
          · subst h2; exact absurd c2 (by decide)
          · subst h2; exact absurd c2 (by decide)
        · unfold Z2m Zi1 lett; dsimp only
          rw [show ((t :: c :: r).getD 1 0) = c from rfl, brF _ _ (by simp [ts]; omega), gdT _ (by simp [ts]; omega), tcvt (by omega) (by omega), brF _ _ (by simp [ts]; omega)]
          by_cases c3 : c.toNat = 128
          · rw [brT _ _ (by simp [ts]; omega)]
          · rw [brF _ _ (by simp [ts]; omega), brT _ _ (by simp [ts]; omega)]
      · have go : ∀ (R : Type) (k : Int → Int → Int → Option R), Z2m R (t :: c :: r) k = br (ltI ((r.length + 1 + 1 : Nat) : Int) (addI .i64 2 (andI .i64 c.toNat 3))) (k 0 0 10)
            (gd (leB (addI .i64 2 (andI .i64 c.toNat 3)) (r.length + 1 + 1)) (gd (leB 2 ((addI .i64 2 (andI .i64 c.toNat 3)).toNat))
              (Zkn R 0 (addI .i64 2 (andI .i64 c.toNat 3)) ((((t :: c :: r).take ((addI .i64 2 (andI .i64 c.toNat 3)).toNat)).drop 2).length : Int) 0 (((t :: c :: r).take ((addI .i64 2 (andI .i64 c.toNat 3)).toNat)).drop 2) fun y15 y16 =>
                br (ltI y15 128) (k 0 0 11) (br (eqI y16 4) (br (ltI y15 256) (k 0 0 11) (k y15 y16 0)) (k y15 y16 0))))) := by
          intro R k
          unfold Z2m Zi1 lett; dsimp only
          rw [show ((t :: c :: r).getD 1 0) = c from rfl, brF _ _ (by simp [ts]; omega), gdT _ (by simp [ts]; omega), tcvt (by omega) (by omega)]
          rw [brF _ _ (by simp [ts]; omega), brF _ _ (by simp [ts]; omega), brF _ _ (by simp [ts]; omega)]
          rfl
        rcases show c = 129 ∨ c = 130 by
            rcases show c.toNat = 129 ∨ c.toNat = 130 by omega with h | h
            · left; rw [← ofNat_toNat c, h]; rfl
            · right; rw [← ofNat_toNat c, h]; rfl with rfl | rfl
        · have ea : addI .i64 2 (andI .i64 ((129 : UInt8).toNat : Int) 3) = 3 := by decide
          simp only [ea] at go
          match r, h with
          | [], _ =>
            refine ⟨0, 0, 10, ⟨fun h => absurd h (by decide), fun _ => ⟨.inl rfl, fun t' m r' hm e => ?_⟩⟩, fun R k => ?_⟩
            · rcases one _ _ _ _ _ _ e with ⟨h1, h2⟩ | ⟨_, _, _, h2⟩ | ⟨_, h2, _⟩
              · have := congrArg UInt8.toNat h2; rw [toNat_ofNat (by omega)] at this; exact absurd this (by simp; omega)
              · exact absurd h2 (by simp)
              · exact absurd h2 (by decide)
            · exact (go R k).trans rfl
          | a :: r, h =>
            have ha := u8_lt a
            have go' : ∀ (R : Type) (k : Int → Int → Int → Option R), Z2m R (t :: 129 :: a :: r) k = br (ltI (a.toNat : Int) 128) (k 0 0 11) (k a.toNat 3 0) := by
              intro R k
              rw [go, brF _ _ (by simp [ts]; omega), gdT _ (by simp [ts]; omega), gdT _ (by decide)]
              rw [show ((t :: 129 :: a :: r).take (Int.toNat 3)).drop 2 = [a] from rfl, lengthl0_eq _ _ (by simp)]
              rw [show num 0 [a] = (a.toNat : Int) by simp [num]]
              rfl
            by_cases a1 : a.toNat < 128
            · refine ⟨0, 0, 11, ⟨fun h => absurd h (by decide), fun _ => ⟨.inr rfl, fun t' m r' hm e => ?_⟩⟩, fun R k => ?_⟩
              · rcases one _ _ _ _ _ _ e with ⟨h1, h2⟩ | ⟨m1, m2, _, h2⟩ | ⟨_, h2, _⟩
                · have := congrArg UInt8.toNat h2; rw [toNat_ofNat (by omega)] at this; exact absurd this (by simp; omega)
                · have := congrArg UInt8.toNat (List.cons.inj h2).1; rw [toNat_ofNat (by omega)] at this; omega
                · exact absurd h2 (by decide)
              · show Z2m _ _ _ = _
                rw [go', brT _ _ (by simp only [ts]; omega)]
            · refine ⟨a.toNat, 3, 0, ⟨fun _ => ⟨t, r, ?_, ?_, by omega, by omega⟩, fun h => absurd rfl h⟩, fun R k => ?_⟩
              · unfold hdr; rw [Int.toNat_natCast, if_neg a1, if_pos ha, ofNat_toNat]; rfl
              · unfold hdr; rw [Int.toNat_natCast, if_neg a1, if_pos ha]; rfl
              · show Z2m _ _ _ = _
                rw [go', brF _ _ (by simp only [ts]; omega)]
        · have ea : addI .i64 2 (andI .i64 ((130 : UInt8).toNat : Int) 3) = 4 := by decide
          simp only [ea] at go
          have no : r.length < 2 → ∀ (t' : UInt8) (m : Nat) (r' : Str), m ≤ 65535 → t :: 130 :: r ≠ t' :: hdr m ++ r' := by
            intro hr t' m r' hm e
            rcases one _ _ _ _ _ _ e with ⟨h1, h2⟩ | ⟨_, _, h2, _⟩ | ⟨_, _, h2⟩
            · have := congrArg UInt8.toNat h2; rw [toNat_ofNat (by omega)] at this; exact absurd this (by simp; omega)
            · exact absurd h2 (by decide)
            · rw [h2] at hr; simp at hr; omega
          match r, h, no with
          | [], _, no => exact ⟨0, 0, 10, ⟨fun h => absurd h (by decide), fun _ => ⟨.inl rfl, no (by decide)⟩⟩, fun R k => (go R k).trans rfl⟩
          | [a], _, no => exact ⟨0, 0, 10, ⟨fun h => absurd h (by decide), fun _ => ⟨.inl rfl, no (by simp)⟩⟩, fun R k => (go R k).trans rfl⟩
          | a :: b :: r, h, _ =>
            have ha := u8_lt a
            have hb := u8_lt b
            have go' : ∀ (R : Type) (k : Int → Int → Int → Option R), Z2m R (t :: 130 :: a :: b :: r) k = br (ltI ((a.toNat : Int) * 256 + b.toNat) 128) (k 0 0 11) (br (ltI ((a.toNat : Int) * 256 + b.toNat) 256) (k 0 0 11) (k ((a.toNat : Int) * 256 + b.toNat) 4 0)) := by
              intro R k
              simp only [List.length_cons] at h
              rw [go, brF _ _ (by simp [ts]; omega), gdT _ (by simp [ts]; omega), gdT _ (by decide)]
              rw [show ((t :: 130 :: a :: b :: r).take (Int.toNat 4)).drop 2 = [a, b] from rfl, lengthl0_eq _ _ (by simp)]
              rw [show num 0 [a, b] = (a.toNat : Int) * 256 + b.toNat by simp [num]]
              rfl
            by_cases a1 : a.toNat * 256 + b.toNat < 256
            · refine ⟨0, 0, 11, ⟨fun h => absurd h (by decide), fun _ => ⟨.inr rfl, fun t' m r' hm e => ?_⟩⟩, fun R k => ?_⟩
              · rcases one _ _ _ _ _ _ e with ⟨h1, h2⟩ | ⟨_, _, h2, _⟩ | ⟨m1, _, h2⟩
                · have := congrArg UInt8.toNat h2; rw [toNat_ofNat (by omega)] at this; exact absurd this (by simp; omega)
                · exact absurd h2 (by decide)
                · have e1 := congrArg UInt8.toNat (List.cons.inj h2).1
                  have e2 := congrArg UInt8.toNat (List.cons.inj (List.cons.inj h2).2).1
                  rw [toNat_ofNat (by omega)] at e1 e2
                  omega
              · show Z2m _ _ _ = _
                rw [go']
                by_cases a2 : a.toNat * 256 + b.toNat < 128
                · rw [brT _ _ (by simp only [ts]; omega)]
                · rw [brF _ _ (by simp only [ts]; omega), brT _ _ (by simp only [ts]; omega)]
            · refine ⟨(a.toNat : Int) * 256 + b.toNat, 4, 0, ⟨fun _ => ⟨t, r, ?_, ?_, by omega, by omega⟩, fun h => absurd rfl h⟩, fun R k => ?_⟩
              · rw [show ((a.toNat : Int) * 256 + b.toNat).toNat = a.toNat * 256 + b.toNat by omega]
                unfold hdr
                rw [if_neg (by omega), if_neg (by omega), show (a.toNat * 256 + b.toNat) / 256 = a.toNat by omega, show (a.toNat * 256 + b.toNat) % 256 = b.toNat by omega, ofNat_toNat, ofNat_toNat]
                rfl
              · rw [show ((a.toNat : Int) * 256 + b.toNat).toNat = a.toNat * 256 + b.toNat by omega]
                unfold hdr
                rw [if_neg (by omega), if_neg (by omega)]
                rfl
              · show Z2m _ _ _ = _
                rw [go', brF _ _ (by simp only [ts]; omega), brF _ _ (by simp only [ts]; omega)]
theorem hdr_len (n : Nat) : 1 ≤ (hdr n).length ∧ (hdr n).length ≤ 3 := by
  unfold hdr
  split
  · simp
  · split <;> simp
theorem hdr_inj {m n : Nat} {r q : Str} (hm : m ≤ 65535) (hn : n ≤ 65535) (e : hdr m ++ r = hdr n ++ q) : m = n ∧ r = q := by
  have tn : ∀ a b : Nat, a < 256 → b < 256 → UInt8.ofNat a = UInt8.ofNat b → a = b := fun a b ha hb h => by
    have := congrArg UInt8.toNat h; rwa [toNat_ofNat ha, toNat_ofNat hb] at this
  have c1 : (129 : UInt8) = UInt8.ofNat 129 := rfl
  have c2 : (130 : UInt8) = UInt8.ofNat 130 := rfl
  unfold hdr at e
  by_cases m1 : m < 128
  · rw [if_pos m1] at e
    by_cases n1 : n < 128
    · rw [if_pos n1] at e
      exact ⟨tn _ _ (by omega) (by omega) (List.cons.inj e).1, (List.cons.inj e).2⟩
    · rw [if_neg n1] at e
      by_cases n2 : n < 256
      · rw [if_pos n2] at e
        have := tn _ _ (by omega) (by omega) ((List.cons.inj e).1.trans c1); omega
      · rw [if_neg n2] at e
        have := tn _ _ (by omega) (by omega) ((List.cons.inj e).1.trans c2); omega
  · rw [if_neg m1] at e
    by_cases m2 : m < 256
    · rw [if_pos m2] at e
      by_cases n1 : n < 128
      · rw [if_pos n1] at e
        have := tn _ _ (by omega) (by omega) (c1.symm.trans (List.cons.inj e).1); omega
      · rw [if_neg n1] at e
        by_cases n2 : n < 256
        · rw [if_pos n2] at e
          have e2 := (List.cons.inj e).2
          exact ⟨tn _ _ (by omega) (by omega) (List.cons.inj e2).1, (List.cons.inj e2).2⟩
        · rw [if_neg n2] at e
          exact absurd (List.cons.inj e).1 (by decide)
    · rw [if_neg m2] at e
      by_cases n1 : n < 128
      · rw [if_pos n1] at e
        have := tn _ _ (by omega) (by omega) (c2.symm.trans (List.cons.inj e).1); omega
      · rw [if_neg n1] at e
        by_cases n2 : n < 256
        · rw [if_pos n2] at e
          exact absurd (List.cons.inj e).1 (by decide)
        · rw [if_neg n2] at e
          have e2 := (List.cons.inj e).2
          have e3 := (List.cons.inj e2).2
          have h1 := tn _ _ (by omega) (by omega) (List.cons.inj e2).1
          have h2 := tn _ _ (by omega) (by omega) (List.cons.inj e3).1
          exact ⟨by omega, (List.cons.inj e3).2⟩
theorem wr_inj {s t : UInt8} {a b r q : Str} (ha : a.length ≤ 65535) (hb : b.length ≤ 65535) (e : wr s a ++ r = wr t b ++ q) : s = t ∧ a = b ∧ r = q := by
  rw [wr_hdr, wr_hdr, List.cons_append, List.cons_append, List.cons_append, List.cons_append] at e
  obtain ⟨e1, e2⟩ := List.cons.inj e
  rw [List.append_assoc, List.append_assoc] at e2
  obtain ⟨e3, e4⟩ := hdr_inj ha hb e2
  obtain ⟨e5, e6⟩ := List.append_inj e4 e3
  exact ⟨e1, e5, e6⟩
theorem wr_length (t : UInt8) (b : Str) : b.length + 2 ≤ (wr t b).length ∧ (wr t b).length ≤ b.length + 4 := by
  rw [wr_hdr]
  have := hdr_len b.length
  simp only [List.length_append, List.length_cons]
  omega
theorem read_join (s : Str) (n a e : Int) (b : Bool) (R : Type) (k : Str → Int → Int → Int → Option R) : Zxy Z4g Z2m R s n a e b k = k s n a (if b then 10 else e) := by
  cases b <;> rfl
theorem fder_Read_tot (s : Str) (h : s.length ≤ 1000000000) : T_4 (fun R k0 => Z7j R s k0) (fun t b r e => (e = 0 → tagB t = true ∧ s = wr (UInt8.ofNat t.toNat) b ++ r ∧ b.length ≤ 65535) ∧
    (e ≠ 0 → t = 0 ∧ b = [] ∧ r = [] ∧ (e = 10 ∨ e = 11) ∧ ∀ (t' : Int) (b' r' : Str), tagB t' = true → b'.length ≤ 65535 → s ≠ wr (UInt8.ofNat t'.toNat) b' ++ r')) := by
  match s, h with
  | [], _ =>
    refine ⟨0, [], [], 10, ⟨fun h => absurd h (by decide), fun _ => ⟨rfl, rfl, rfl, .inl rfl, fun t' b' r' _ _ e => ?_⟩⟩, fun R k => rfl⟩
    have := congrArg List.length e
    have := wr_length (UInt8.ofNat t'.toNat) b'
    simp only [List.length_append, List.length_nil] at *
    omega
  | c :: s, h =>
    have hc := u8_lt c
    have tagc : ∀ (t' : Int) (b' r' : Str), tagB t' = true → b'.length ≤ 65535 → c :: s = wr (UInt8.ofNat t'.toNat) b' ++ r' → t' = c.toNat := by
      intro t' b' r' ht _ e
      rw [wr_hdr] at e
      have e1 := congrArg UInt8.toNat (List.cons.inj e).1
      unfold tagB at ht
      simp only [Bool.and_eq_true, decide_eq_true_eq] at ht
      rw [toNat_ofNat (by omega)] at e1
      omega
    by_cases ht : tagB c.toNat = true
    · obtain ⟨n, a, e, ⟨p1, p2⟩, hl⟩ := fder_length_tot (c :: s) h
      have go : ∀ (R : Type) (k : Int → Str → Str → Int → Option R), Z7j R (c :: s) k = br (eqI e 0)
          (br (!(eqI (if ltI (subI .i64 ((c :: s).length : Int) a) n then 10 else e) 0)) (k 0 [] [] (if ltI (subI .i64 ((c :: s).length : Int) a) n then 10 else e))
            (gd (leB (addI .i64 a n) (c :: s).length) (gd (leB a ((addI .i64 a n).toNat)) (gd (leB (addI .i64 a n) (c :: s).length) (k (c.toNat : Int) (((c :: s).take ((addI .i64 a n).toNat)).drop a.toNat) ((c :: s).drop ((addI .i64 a n).toNat)) 0)))))
          (k 0 [] [] e) := by
        intro R k
        unfold Z7j Ztk lett; dsimp only
        rw [show eqS (c :: s) [] = false by unfold eqS; simp, br_false, gdT _ (by simp [ts] <;> omega), show (c :: s).getD 0 0 = c from rfl, tcvt (by omega) (by omega), isTag_eq, ht]
        rw [show (!true) = false from rfl, br_false]
        refine (hl R _).trans ?_
        by_cases he : e = 0
        · rw [brT _ _ (by simp only [ts]; exact he), brT _ _ (by simp only [ts]; exact he), read_join, gdT _ (by simp [ts] <;> omega), show (c :: s).getD 0 0 = c from rfl, tcvt (by omega) (by omega)]
        · rw [brF _ _ (by simp only [ts]; exact he), brF _ _ (by simp only [ts]; exact he), read_join]
          rw [if_neg (by decide), brT _ _ (by simp only [ts]; exact he)]
      by_cases he : e = 0
      · obtain ⟨t, r, hs, ha, hn0, hn1⟩ := p1 he
        subst he
        obtain ⟨rfl, rfl⟩ : c = t ∧ s = hdr n.toNat ++ r := ⟨(List.cons.inj hs).1, (List.cons.inj hs).2⟩
        have hh := hdr_len n.toNat
        simp only [List.length_cons, List.length_append] at h
        by_cases hlt : (r.length : Int) < n
        · refine ⟨0, [], [], 10, ⟨fun h => absurd h (by decide), fun _ => ⟨rfl, rfl, rfl, .inl rfl, fun t' b' r' ht' hb' e => ?_⟩⟩, fun R k => ?_⟩
          · rw [wr_hdr] at e
            have e2 : hdr n.toNat ++ r = hdr b'.length ++ b' ++ r' := (List.cons.inj e).2
            rw [List.append_assoc] at e2
            obtain ⟨e3, e4⟩ := hdr_inj (by omega) hb' e2
            rw [e4] at hlt
            simp only [List.length_append] at hlt
            omega
          · show Z7j _ _ _ = _
            rw [go, brT _ _ (by decide), if_pos (by simp only [ts, List.length_cons, List.length_append]; rw [tsub (by omega) (by omega)]; omega)]
            rfl
        · refine ⟨c.toNat, r.take n.toNat, r.drop n.toNat, 0, ⟨fun _ => ⟨ht, ?_, ?_⟩, fun h => absurd rfl h⟩, fun R k => ?_⟩
          · rw [wr_hdr, Int.toNat_natCast, ofNat_toNat, List.length_take, Nat.min_eq_left (by omega), List.cons_append, List.cons_append, List.append_assoc, List.take_append_drop]
          · rw [List.length_take]; omega
          · show Z7j _ _ _ = _
            have ea : addI .i64 a n = a + n := tadd (by omega) (by omega)
            rw [go, brT _ _ (by decide), if_neg (by simp only [ts, List.length_cons, List.length_append, Bool.not_eq_true]; rw [tsub (by omega) (by omega)]; omega), ea]
            rw [brF _ _ (by decide), gdT _ (by simp only [ts, List.length_cons, List.length_append]; omega), gdT _ (by simp only [ts]; omega), gdT _ (by simp only [ts, List.length_cons, List.length_append]; omega)]
            rw [show (a + n).toNat = (c :: hdr n.toNat).length + n.toNat by simp only [List.length_cons]; omega, show a.toNat = (c :: hdr n.toNat).length by simp only [List.length_cons]; omega]
            rw [show c :: (hdr n.toNat ++ r) = (c :: hdr n.toNat) ++ r from rfl, List.take_length_add_append, List.drop_length_add_append, List.drop_left]
      · obtain ⟨q1, q2⟩ := p2 he
        refine ⟨0, [], [], e, ⟨fun h => absurd h he, fun _ => ⟨rfl, rfl, rfl, q1, fun t' b' r' ht' hb' e' => ?_⟩⟩, fun R k => ?_⟩
        · rw [wr_hdr] at e'
          rw [show UInt8.ofNat t'.toNat :: hdr b'.length ++ b' ++ r' = UInt8.ofNat t'.toNat :: hdr b'.length ++ (b' ++ r') by simp] at e'
          exact q2 _ _ _ hb' e'
        · show Z7j _ _ _ = _
          rw [go, brF _ _ (by simp only [ts]; exact he)]
    · have ht := (Bool.not_eq_true _).mp ht
      refine ⟨0, [], [], 11, ⟨fun h => absurd h (by decide), fun _ => ⟨rfl, rfl, rfl, .inr rfl, fun t' b' r' ht' hb' e => ?_⟩⟩, fun R k => ?_⟩
      · rw [tagc t' b' r' ht' hb' e, ht] at ht'
        exact absurd ht' (by decide)
      · show Z7j _ _ _ = _
        unfold Z7j Ztk lett; dsimp only
        rw [show eqS (c :: s) [] = false by unfold eqS; simp, br_false, gdT _ (by simp [ts] <;> omega), show (c :: s).getD 0 0 = c from rfl, tcvt (by omega) (by omega), isTag_eq, ht]
        rfl
theorem read_wr (t : Int) (b r : Str) (ht : tagB t = true) (hb : b.length ≤ 65535) (hr : r.length ≤ 900000000) (R : Type) (k : Int → Str → Str → Int → Option R) :
    Z7j R (wr (UInt8.ofNat t.toNat) b ++ r) k = k t b r 0 := by
  have hl := wr_length (UInt8.ofNat t.toNat) b
  obtain ⟨t', b', r', e, ⟨p1, p2⟩, hf⟩ := fder_Read_tot (wr (UInt8.ofNat t.toNat) b ++ r) (by rw [List.length_append]; omega)
  by_cases he : e = 0
  · obtain ⟨q1, q2, q3⟩ := p1 he
    obtain ⟨e1, rfl, rfl⟩ := wr_inj hb q3 q2
    have e2 := congrArg UInt8.toNat e1
    unfold tagB at ht q1
    simp only [Bool.and_eq_true, decide_eq_true_eq] at ht q1
    rw [toNat_ofNat (by omega), toNat_ofNat (by omega)] at e2
    obtain rfl : t = t' := by omega
    subst he
    exact hf R k
  · exact absurd rfl ((p2 he).2.2.2.2 t b r ht hb)
def spareB : Str → Bool
  | a :: b :: _ => (decide (a.toNat = 0) && decide (b.toNat < 128)) || (decide (a.toNat = 255) && decide (128 ≤ b.toNat))
  | _ => false
theorem shr7 (b : Nat) : shrI .u8 (b : Int) 7 = ((b / 128 : Nat) : Int) := by
  rw [show (7 : Int) = ((7 : Nat) : Int) from rfl, shr_eq (by decide)]
  omega
theorem spare_eq (s : Str) (hs : s.length ≤ 1000000000) (R : Type) (k : Bool → Option R) : Z1u R s k = k (spareB s) := by
  match s, hs with
  | [], _ => rfl
  | [_], _ => rfl
  | a :: b :: r, hs =>
    have ha := u8_lt a
    have hb := u8_lt b
    have e0 : (a :: b :: r).getD 0 0 = a := rfl
    have e1 : (a :: b :: r).getD 1 0 = b := rfl
    have i0 : inB 0 (a :: b :: r).length = true := by simp [ts] <;> omega
    have i1 : inB 1 (a :: b :: r).length = true := by simp [ts] <;> omega
    unfold Z1u Zxx lett spareB; dsimp only
    rw [brT _ _ (by simp [ts] <;> omega)]
    simp only [e0, e1, i0, i1, gd_true, shr7]
    by_cases h1 : a.toNat = 0
    · rw [brT _ _ (by simp only [ts]; omega)]
      by_cases h2 : b.toNat < 128
      · rw [brT _ _ (by simp only [ts]; omega)]
        simp [h1, h2]
      · rw [brF _ _ (by simp only [ts]; omega), brF _ _ (by simp only [ts]; omega)]
        simp [h1, h2]
    · rw [brF _ _ (by simp only [ts]; omega)]
      by_cases h2 : a.toNat = 255
      · rw [brT _ _ (by simp only [ts]; omega)]
        congr 1
        unfold eqI
        by_cases h3 : 128 ≤ b.toNat
        · rw [show b.toNat / 128 = 1 by omega]; simp [h1, h2, h3]
        · rw [show b.toNat / 128 = 0 by omega]; simp [h1, h2, h3]
      · rw [brF _ _ (by simp only [ts]; omega)]
        simp [h1, h2]
def sg (b : UInt8) : Int := if b.toNat < 128 then (b.toNat : Int) else (b.toNat : Int) - 256
def sval : Str → Int
  | [] => 0
  | b :: r => num (sg b) r
theorem sg_bounds (b : UInt8) : -128 ≤ sg b ∧ sg b ≤ 127 := by
  have := u8_lt b
  unfold sg
  split <;> omega
theorem sval_drop (a b : UInt8) (r : Str) (h : spareB (a :: b :: r) = true) : sval (b :: r) = sval (a :: b :: r) := by
  have hb := u8_lt b
  have e : sval (a :: b :: r) = num (sg a * 256 + (b.toNat : Int)) r := rfl
  have e2 : sval (b :: r) = num (sg b) r := rfl
  rw [e, e2]
  congr 1
  unfold spareB at h
  unfold sg
  simp only [Bool.or_eq_true, Bool.and_eq_true, decide_eq_true_eq] at h
  rcases h with ⟨h1, h2⟩ | ⟨h1, h2⟩
  · rw [if_pos h2, if_pos (by omega)]; omega
  · rw [if_neg (by omega), if_neg (by omega)]; omega
theorem readInt_loop {R : Type} (k : Int → Option R) : ∀ (m n : Nat) (x : Int) (s : Str) (i : Nat), s.length = i + m → m < n → s.length ≤ 1000000000 ∧ m ≤ 7 → -(128 * 256 ^ (7 - m)) ≤ x → x < 128 * 256 ^ (7 - m) →
    Zi7 R n x (s.length : Int) (i : Int) s k = k (num x (s.drop i))
  | _, 0, _, _, _, _, h, _, _, _ => absurd h (Nat.not_lt_zero _)
  | 0, n + 1, x, s, i, hs, _, h2, h0, h1 => by
    rw [Zoi]
    unfold Zbx
    rw [brF _ _ (by simp only [ts]; omega), num_end _ _ _ (by omega)]
  | m + 1, n + 1, x, s, i, hs, hn, h2, h0, h1 => by
    rw [Zoi]
    unfold Zbx lett; dsimp only
    have hb := u8_lt (s.getD i 0)
    have hx : (256 : Int) ^ (7 - (m + 1)) ≤ 256 ^ 6 := pow256_le (by omega)
    have hp : (256 : Int) ^ (7 - m) = 256 ^ (7 - (m + 1)) * 256 := by
      rw [show 7 - m = 7 - (m + 1) + 1 by omega, Int.pow_succ]
    rw [brT _ _ (by simp only [ts]; omega), gdT _ (by simp only [ts]; omega), Int.toNat_natCast, tcvt (by omega) (by omega), orShl _ _ (by omega) (by omega) (by omega) (by omega), tadd (by omega) (by omega), num_step _ _ _ (by omega)]
    rw [← readInt_loop k m n (x * 256 + ((s.getD i 0).toNat : Int)) s (i + 1) (by omega) (by omega) ⟨h2.1, by omega⟩ (by omega) (by omega)]
    simp only [Int.natCast_add, Int.natCast_one]
theorem readInt_eq (s : Str) (hs : s.length ≤ 1000000000) (R : Type) (k : Int → Int → Option R) : Zb7 R s k =
    (if s = [] then k 0 10 else if spareB s then k 0 11 else if 8 < s.length then k 0 13 else k (sval s) 0) := by
  match s, hs with
  | [], _ => rfl
  | b :: r, hs =>
    have hb := u8_lt b
    simp only [List.length_cons] at hs
    unfold Zb7 Zsu lett; dsimp only
    rw [if_neg (by simp), show eqS (b :: r) [] = false by unfold eqS; simp, br_false, spare_eq _ (by simp; omega)]
    cases hsp : spareB (b :: r) with
    | true => rfl
    | false =>
      rw [br_false, if_neg (by decide)]
      by_cases h8 : 8 < (b :: r).length
      · have h8' : 8 < r.length + 1 := h8
        rw [brT _ _ (by simp only [ts]; omega), if_pos h8]
      · have h8' : ¬ 8 < r.length + 1 := h8
        rw [brF _ _ (by simp only [ts]; omega), if_neg h8, gdT _ (by simp [ts] <;> omega), gdT _ (by simp [ts] <;> omega)]
        rw [show (b :: r).getD 0 0 = b from rfl, show (b :: r).drop 1 = r from rfl]
        have e8 : cvtI .i64 (cvtI .i8 (b.toNat : Int)) = sg b := by
          unfold cvtI IntKind.wrap sg
          simp [IntKind.signed, IntKind.bits]
          split <;> omega
        rw [e8, Z13v]
        have hg := sg_bounds b
        simp only [List.length_cons] at h8
        have := readInt_loop (fun y => k y 0) r.length (Z93 (sg b) r.length 0 r) (sg b) r 0 (by omega) (by unfold Z93; omega) ⟨by omega, by omega⟩
          (Int.le_trans (by have := Int.pow_pos (n := 256) (m := 7 - r.length) (by decide); omega) hg.1) (Int.lt_of_le_of_lt hg.2 (by have := Int.pow_pos (n := 256) (m := 7 - r.length) (by decide); omega))
        exact this
def bt (n : Int) (j : Nat) : UInt8 := UInt8.ofNat ((n / 2 ^ (56 - 8 * j)) % 256).toNat
def b8 (n : Int) : Str := [bt n 0, bt n 1, bt n 2, bt n 3, bt n 4, bt n 5, bt n 6, bt n 7]
theorem bt_toNat (n : Int) (j : Nat) : ((bt n j).toNat : Int) = (n / 2 ^ (56 - 8 * j)) % 256 := by
  unfold bt
  rw [toNat_ofNat (by omega)]
  omega
theorem sval_b8 (n : Int) (h0 : -9223372036854775808 ≤ n) (h1 : n ≤ 9223372036854775807) : sval (b8 n) = n := by
  have e0 := bt_toNat n 0; have e1 := bt_toNat n 1; have e2 := bt_toNat n 2; have e3 := bt_toNat n 3
  have e4 := bt_toNat n 4; have e5 := bt_toNat n 5; have e6 := bt_toNat n 6; have e7 := bt_toNat n 7
  have e : sval (b8 n) = ((((((((sg (bt n 0)) * 256 + (bt n 1).toNat) * 256 + (bt n 2).toNat) * 256 + (bt n 3).toNat) * 256 + (bt n 4).toNat) * 256 + (bt n 5).toNat) * 256 + (bt n 6).toNat) * 256 + (bt n 7).toNat : Int) := rfl
  simp only [Nat.reduceMul, Nat.reduceSub, Int.reducePow, Int.ediv_one, Int.pow_zero] at e0 e1 e2 e3 e4 e5 e6 e7
  have step : ∀ c : Int, 0 < c → n / (c * 256) * 256 + n / c % 256 = n / c := by
    intro c hc
    rw [← Int.ediv_ediv_of_nonneg (by omega)]
    omega
  have s0 : sg (bt n 0) = n / 72057594037927936 := by
    have a1 : -128 ≤ n / 72057594037927936 := by omega
    have a2 : n / 72057594037927936 ≤ 127 := by omega
    generalize n / 72057594037927936 = q at *
    unfold sg
    split <;> omega
  rw [e, s0, e1, e2, e3, e4, e5, e6, e7]
  have q1 := step 281474976710656 (by decide)
  have q2 := step 1099511627776 (by decide)
  have q3 := step 4294967296 (by decide)
  have q4 := step 16777216 (by decide)
  have q5 := step 65536 (by decide)
  have q6 := step 256 (by decide)
  have q7 := step 1 (by decide)
  simp only [Int.reduceMul, Int.ediv_one] at q1 q2 q3 q4 q5 q6 q7
  rw [q1, q2, q3, q4, q5, q6, q7]
def strip : Str → Str
  | [] => []
  | a :: r => if spareB (a :: r) then strip r else a :: r
theorem int_bytes {R : Type} (k : Str → Option R) (x : Int) : ∀ (m n i : Nat) (s : Str), i + m = 8 → m < n → s.length = 8 → s.take i = (b8 x).take i → Ztg R n x (i : Int) s k = k (b8 x)
  | _, 0, _, _, _, h, _, _ => absurd h (Nat.not_lt_zero _)
  | 0, n + 1, i, s, hi, _, hs, ht => by
    rw [Zwi]
    unfold Zi2
    rw [brF _ _ (by simp only [ts]; omega)]
    rw [List.take_of_length_le (by omega), List.take_of_length_le (by simp [b8]; omega)] at ht
    rw [ht]
  | m + 1, n + 1, i, s, hi, hn, hs, ht => by
    rw [Zwi]
    unfold Zi2 lett; dsimp only
    have e1 : subI .i64 56 (mulI .i64 8 (i : Int)) = ((56 - 8 * i : Nat) : Int) := by
      rw [tmul (by omega) (by omega), tsub (by omega) (by omega)]; omega
    rw [brT _ _ (by simp only [ts]; omega), e1, gdT _ (by simp only [ts]; omega), gdT _ (by simp only [ts]; omega), shr_eq (by show 56 - 8 * i ≤ 64; omega), tadd (by omega) (by omega), Int.toNat_natCast]
    have e2 : UInt8.ofNat (cvtI .u8 (x / 2 ^ (56 - 8 * i))).toNat = bt x i := by
      unfold bt
      congr 2
    rw [e2]
    have := int_bytes k x m n (i + 1) (s.set i (bt x i)) (by omega) (by omega) (by rw [List.length_set]; exact hs) ?_
    · rw [← this]; simp only [Int.natCast_add, Int.natCast_one]
    · rw [List.take_succ_eq_append_getElem (by rw [List.length_set]; omega), List.take_succ_eq_append_getElem (by simp [b8]; omega), List.getElem_set_self, List.take_set_of_le (by omega), ht]
      congr 2
      have : i = 0 ∨ i = 1 ∨ i = 2 ∨ i = 3 ∨ i = 4 ∨ i = 5 ∨ i = 6 ∨ i = 7 := by omega
      rcases this with rfl | rfl | rfl | rfl | rfl | rfl | rfl | rfl <;> rfl
theorem int_strip {R : Type} (k : Str → Option R) : ∀ (m n : Nat) (s : Str), s.length = m → m ≤ 1000000000 → m < n → s ≠ [] →
    Zt9 R n s k = k (strip s)
  | _, 0, _, _, _, h, _ => absurd h (Nat.not_lt_zero _)
  | 0, _ + 1, s, h, _, _, h0 => absurd (List.length_eq_zero_iff.mp h) h0
  | m + 1, n + 1, a :: r, hm, h8, hn, _ => by
    rw [Z151]
    unfold Zpo; dsimp only
    simp only [List.length_cons] at hm
    rw [spare_eq _ (by simp; omega), strip]
    cases hsp : spareB (a :: r) with
    | false => rw [br_false]; rfl
    | true =>
      rw [br_true, gdT _ (by simp [ts] <;> omega)]
      cases r with
      | nil => exact absurd hsp (by simp [spareB])
      | cons b r => exact int_strip k m n (b :: r) (by omega) (by omega) (by omega) (by simp)
theorem strip_spec : ∀ (s : Str), s ≠ [] → sval (strip s) = sval s ∧ spareB (strip s) = false ∧ strip s ≠ [] ∧ (strip s).length ≤ s.length
  | [], h => absurd rfl h
  | a :: r, _ => by
    rw [strip]
    cases hsp : spareB (a :: r) with
    | false => exact ⟨rfl, hsp, by simp, Nat.le_refl _⟩
    | true =>
      cases r with
      | nil => exact absurd hsp (by simp [spareB])
      | cons b r =>
        obtain ⟨h1, h2, h3, h4⟩ := strip_spec (b :: r) (by simp)
        exact ⟨h1.trans (sval_drop a b r hsp), h2, h3, by simp only [List.length_cons] at *; exact Nat.le_succ_of_le h4⟩
def intS (n : Int) : Str := strip (b8 n)
theorem intS_spec (n : Int) (h0 : -9223372036854775808 ≤ n) (h1 : n ≤ 9223372036854775807) : sval (intS n) = n ∧ spareB (intS n) = false ∧ intS n ≠ [] ∧ (intS n).length ≤ 8 := by
  obtain ⟨a, b, c, d⟩ := strip_spec (b8 n) (by simp [b8])
  exact ⟨a.trans (sval_b8 n h0 h1), b, c, d⟩
theorem int_eq (n : Int) (R : Type) (k : Str → Option R) : Zv1 R n k = k (wr 2 (intS n)) := by
  unfold Zv1 Z12m lett; dsimp only
  rw [Z17f]
  have := int_bytes (R := R) (fun y9 => Zzv Z1u Z1s R ((y9.drop 0).take 8) fun y12 => Z1s R 2 y12 fun r13 r14 => k r13) n 8 (Zen n 0 (List.replicate 8 0)) 0 (List.replicate 8 0) (by omega) (by unfold Zen; omega) (by decide) (by rfl)
  refine this.trans ?_
  rw [show ((b8 n).drop 0).take 8 = b8 n from rfl, Z17j, int_strip _ 8 _ (b8 n) rfl (by decide) (by unfold Zic; omega) (by simp [b8]), write_ok 2 _ (by decide)]
  · rfl
  · have := (strip_spec (b8 n) (by simp [b8])).2.2.2
    rw [show (b8 n).length = 8 from rfl] at this
    omega
theorem readInt_intS (n : Int) (h0 : -9223372036854775808 ≤ n) (h1 : n ≤ 9223372036854775807) (R : Type) (k : Int → Int → Option R) : Zb7 R (intS n) k = k n 0 := by
  obtain ⟨a, b, c, d⟩ := intS_spec n h0 h1
  rw [readInt_eq _ (by omega), if_neg c, b, if_neg (by decide), if_neg (by omega), a]
noncomputable section
def Zp9 : StK := ⟨[(0, .sc (.s)), (3, .sc (.i .u64)), (5, .sc (.i .i64))], []⟩
def Zq4 : List PShape := [⟨Int, fun r => (.exit 0, ⟨[(3, .c (.sc (.int .u64 r)))], [], 0⟩)⟩]
def Zjn (R : Type) (x2 : Str) (x3 x4 : Int) (next : Str → Int → Int → Option R) (k0 : Int → Option R) : Option R :=
 br (ltI x4 8)
 (gd (inB x4 x2.length) <|
 lett (((x2.getD x4.toNat 0).toNat : Int)) fun (v5 : Int) =>
 gd (leI 0 (mulI .i64 8 x4)) <|
 lett (shlI .u64 (cvtI .u64 v5) (mulI .i64 8 x4)) fun (v6 : Int) =>
 next x2 (orI .u64 x3 v6) (addI .i64 x4 1))
 (k0 x3)
def Zdo (x2 : Str) (x3 x4 : Int) : Nat := 100000 + (x2.length + x3.toNat + x4.toNat)
def Zfv : Piece := { T := Zp9, shapes := Zq4, step := fun R x next k => Zjn R (x.1.1) (x.1.2.1) (x.1.2.2.1) (fun x2 x3 x4 => next ((x2, x3, x4, ()), (()))) (fun z0 => k.1 z0), fuel := fun x => Zdo (x.1.1) (x.1.2.1) (x.1.2.2.1) }
def Z10q (R : Type) (x2 : Str) (x3 x4 : Int) (k0 : Int → Option R) : Option R :=
 runP Zp9 Zq4 (Zfv).step R (Zdo x2 x3 x4) ((x2, x3, x4, ()), (())) (fun r => k0 (r), ())
abbrev Zqb := (R : Type) → Str → (Int → Option R) → Option R
def Zu5 (R : Type) (a1 : Str) (k0 : Int → Option R) : Option R :=
 Z10q R a1 0 0 fun y7 =>
 k0 y7
def Zk4 : Zqb := Zu5
def Ziv : StK := ⟨[(1, .sc (.ptr 0 0 0 0 0)), (2, .sc (.ptr 1 0 0 0 0)), (3, .sc (.i .u64)), (5, .sc (.i .i64))], [(true, [.ints .u64 (some 5)]), (true, [.ints .u64 (some 5)])]⟩
def Zjc : List PShape := [⟨Int × (List Int) × (List Int), fun r => (.exit 0, ⟨[(1, .c (.sc (.ptr 0 0 0 0 0))), (2, .c (.sc (.ptr 1 0 0 0 0))), (3, .c (.sc (.int .u64 r.1)))], [(0, ⟨true, [.ints .u64 r.2.1 5]⟩), (1, ⟨true, [.ints .u64 r.2.2 5]⟩)], 2⟩)⟩]
def Zf8 (R : Type) (x3 x4 : Int) (x5 x6 : List Int) (next : Int → Int → (List Int) → (List Int) → Option R) (k0 : Int → (List Int) → (List Int) → Option R) : Option R :=
 br (ltI x4 5)
 (gd (inB x4 5) <|
 lett (addI .u64 (x5.getD x4.toNat 0) x3) fun (v7 : Int) =>
 gd (inB x4 5) <|
 gd (inB x4 5) <|
 lett ((x5.set x4.toNat v7).getD x4.toNat 0) fun (v8 : Int) =>
 gd (inB x4 5) <|
 lett ((x5.set x4.toNat v7).getD x4.toNat 0) fun (v9 : Int) =>
 lett (andI .u64 v9 2251799813685247) fun (v10 : Int) =>
 gd (inB x4 5) <|
 lett ((x5.set x4.toNat v7).set x4.toNat v10) fun (v11 : List Int) =>
 next (shrI .u64 v8 51) (addI .i64 x4 1) v11 x6)
 (k0 x3 x5 x6)
def Za4 (x3 x4 : Int) (x5 x6 : List Int) : Nat := 100000 + (x3.toNat + x4.toNat + x5.length + x6.length)
def Zba : Piece := { T := Ziv, shapes := Zjc, step := fun R x next k => Zf8 R (x.1.2.2.1) (x.1.2.2.2.1) (x.2.1.1) (x.2.2.1.1) (fun x3 x4 x5 x6 => next (((), (), x3, x4, ()), ((x5, ()), (x6, ()), ()))) (fun z0 z1 z2 => k.1 (z0, z1, z2)), fuel := fun x => Za4 (x.1.2.2.1) (x.1.2.2.2.1) (x.2.1.1) (x.2.2.1.1) }
def Zu9 (R : Type) (x3 x4 : Int) (x5 x6 : List Int) (k0 : Int → (List Int) → (List Int) → Option R) : Option R :=
 runP Ziv Zjc (Zba).step R (Za4 x3 x4 x5 x6) (((), (), x3, x4, ()), ((x5, ()), (x6, ()), ())) (fun r => k0 (r.1) (r.2.1) (r.2.2), ())
abbrev Z6f := (R : Type) → (List Int) → ((List Int) → Option R) → Option R
def Zmi (R : Type) (a1 : List Int) (k0 : (List Int) → Option R) : Option R :=
 lett (List.replicate 5 (0 : Int)) fun (v2 : List Int) =>
 Zu9 R 0 0 a1 v2 fun y12 y13 y14 =>
 lett (addI .u64 (y13.getD 0 0) (mulI .u64 19 y12)) fun (v15 : Int) =>
 k0 (y13.set 0 v15)
def Z4c : Z6f := Zmi
def Zq2 : StK := ⟨[(1, .sc (.ptr 0 0 0 0 0)), (2, .sc (.ptr 1 0 0 0 0)), (3, .sc (.ptr 2 0 0 0 0)), (13, .sc (.i .i64))], [(true, [.ints .u64 (some 5)]), (true, [.ints .u64 (some 5)]), (true, [.ints .u64 (some 5)])]⟩
def Zpw : List PShape := [⟨(List Int) × (List Int) × (List Int), fun r => (.exit 0, ⟨[(1, .c (.sc (.ptr 0 0 0 0 0))), (2, .c (.sc (.ptr 1 0 0 0 0))), (3, .c (.sc (.ptr 2 0 0 0 0)))], [(0, ⟨true, [.ints .u64 r.1 5]⟩), (1, ⟨true, [.ints .u64 r.2.1 5]⟩), (2, ⟨true, [.ints .u64 r.2.2 5]⟩)], 3⟩)⟩]
def Ziu (g0 : Z6f) (R : Type) (x7 : Int) (x8 x9 x10 : List Int) (next : Int → (List Int) → (List Int) → (List Int) → Option R) (k0 : (List Int) → (List Int) → (List Int) → Option R) : Option R :=
 br (ltI x7 4)
 (gd (inB (addI .i64 x7 1) 5) <|
 lett (x10.getD ((addI .i64 x7 1).toNat) 0) fun (v11 : Int) =>
 gd (inB x7 5) <|
 lett (shrI .u64 (x10.getD x7.toNat 0) 51) fun (v12 : Int) =>
 gd (inB (addI .i64 x7 1) 5) <|
 lett (x10.set ((addI .i64 x7 1).toNat) (addI .u64 v11 v12)) fun (v13 : List Int) =>
 gd (inB x7 5) <|
 lett (andI .u64 (v13.getD x7.toNat 0) 2251799813685247) fun (v14 : Int) =>
 gd (inB x7 5) <|
 next (addI .i64 x7 1) x8 x9 (v13.set x7.toNat v14))
 (k0 x8 x9 x10)
def Zdr (x7 : Int) (x8 x9 x10 : List Int) : Nat := 100000 + (x7.toNat + x8.length + x9.length + x10.length)
def Zfs (g0 : Z6f) : Piece := { T := Zq2, shapes := Zpw, step := fun R x next k => Ziu g0 R (x.1.2.2.2.1) (x.2.1.1) (x.2.2.1.1) (x.2.2.2.1.1) (fun x7 x8 x9 x10 => next (((), (), (), x7, ()), ((x8, ()), (x9, ()), (x10, ()), ()))) (fun z0 z1 z2 => k.1 (z0, z1, z2)), fuel := fun x => Zdr (x.1.2.2.2.1) (x.2.1.1) (x.2.2.1.1) (x.2.2.2.1.1) }
def Z10p (g0 : Z6f) (R : Type) (x7 : Int) (x8 x9 x10 : List Int) (k0 : (List Int) → (List Int) → (List Int) → Option R) : Option R :=
 runP Zq2 Zpw (Zfs g0).step R (Zdr x7 x8 x9 x10) (((), (), (), x7, ()), ((x8, ()), (x9, ()), (x10, ()), ())) (fun r => k0 (r.1) (r.2.1) (r.2.2), ())
abbrev Zqe := (R : Type) → (List Int) → ((List Int) → Option R) → Option R
def Zu1 (g0 : Z6f) (R : Type) (a1 : List Int) (k0 : (List Int) → Option R) : Option R :=
 lett (List.replicate 5 (0 : Int)) fun (v2 : List Int) =>
 g0 R a1 fun r3 =>
 g0 R r3 fun r4 =>
 lett (List.replicate 5 (0 : Int)) fun (v5 : List Int) =>
 lett (addI .u64 (r4.getD 0 0) 19) fun (v6 : Int) =>
 Z10p g0 R 0 r4 v2 (r4.set 0 v6) fun y15 y16 y17 =>
 lett (shrI .u64 (y17.getD 4 0) 51) fun (v18 : Int) =>
 br (ltI 0 v18)
 (lett (andI .u64 (y17.getD 4 0) 2251799813685247) fun (v19 : Int) =>
 k0 (y17.set 4 v19))
 (k0 y15)
def Zkd : Zqe := Zu1 Z4c
abbrev Ze := (R : Type) → (List Int) → ((List Int) → Option R) → Option R
def Zp6 (g0 : Zqe) (R : Type) (a1 : List Int) (k0 : (List Int) → Option R) : Option R :=
 lett (List.replicate 5 (0 : Int)) fun (v2 : List Int) =>
 g0 R a1 fun r3 =>
 k0 r3
def Za : Ze := Zp6 Zkd
abbrev Zep := (R : Type) → Str → ((List Int) → Int → Option R) → Option R
def Zzs (g0 : Zqb) (g1 : Ze) (R : Type) (a1 : Str) (k0 : (List Int) → Int → Option R) : Option R :=
 lett (List.replicate 5 (0 : Int)) fun (v2 : List Int) =>
 lett (((a1.length : Nat) : Int)) fun (v3 : Int) =>
 br (!(eqI v3 32))
 (lett (List.replicate 5 (0 : Int)) fun (v4 : List Int) =>
 k0 v4 1)
 (gd (leB 8 a1.length) <|
 gd (leB 16 a1.length) <|
 gd (leB 24 a1.length) <|
 g0 R a1 fun r5 =>
 g0 R (a1.drop 8) fun r6 =>
 g0 R (a1.drop 16) fun r7 =>
 g0 R (a1.drop 24) fun r8 =>
 lett (andI .u64 r5 2251799813685247) fun (v9 : Int) =>
 lett (orI .u64 (shrI .u64 r5 51) (shlI .u64 r6 13)) fun (v10 : Int) =>
 lett (andI .u64 v10 2251799813685247) fun (v11 : Int) =>
 lett (orI .u64 (shrI .u64 r6 38) (shlI .u64 r7 26)) fun (v12 : Int) =>
 lett (andI .u64 v12 2251799813685247) fun (v13 : Int) =>
 lett (orI .u64 (shrI .u64 r7 25) (shlI .u64 r8 39)) fun (v14 : Int) =>
 lett (andI .u64 v14 2251799813685247) fun (v15 : Int) =>
 g1 R ((((((List.replicate 5 (0 : Int)).set 0 v9).set 1 v11).set 2 v13).set 3 v15).set 4 (shrI .u64 r8 12)) fun r16 =>
 k0 r16 0)
def Zc3 : Zep := Zzs Zk4 Za
def Zgq : StK := ⟨[(1, .sc (.ptr 0 0 0 0 0)), (3, .sc (.ptr 1 0 0 0 0)), (5, .sc (.i .i64))], [(true, [.ints .u64 (some 5)]), (true, [.bytes (some 32)])]⟩
def Zgm : List PShape := [⟨Str, fun r => (.exit 0, ⟨[(3, .c (.sc (.ptr 0 0 0 0 0)))], [(0, ⟨true, [.bytes r 32]⟩)], 1⟩)⟩]
def Zcc (R : Type) (x3 : Int) (x4 : List Int) (x5 : Str) (next : Int → (List Int) → Str → Option R) (k0 : Str → Option R) : Option R :=
 br (ltI x3 255)
 (gd (inB (quoI .i64 x3 8) 32) <|
 lett (((x5.getD ((quoI .i64 x3 8).toNat) 0).toNat : Int)) fun (v6 : Int) =>
 gd (inB (quoI .i64 x3 51) 5) <|
 lett (x4.getD ((quoI .i64 x3 51).toNat) 0) fun (v7 : Int) =>
 gd (leI 0 (remI x3 51)) <|
 lett (shrI .u64 v7 (remI x3 51)) fun (v8 : Int) =>
 lett (cvtI .u8 (andI .u64 v8 1)) fun (v9 : Int) =>
 gd (leI 0 (remI x3 8)) <|
 lett (orI .u8 v6 (shlI .u8 v9 (remI x3 8))) fun (v10 : Int) =>
 gd (inB (quoI .i64 x3 8) 32) <|
 lett (x5.set ((quoI .i64 x3 8).toNat) (UInt8.ofNat v10.toNat)) fun (v11 : Str) =>
 next (addI .i64 x3 1) x4 v11)
 (k0 x5)
def Z8s (x3 : Int) (x4 : List Int) (x5 : Str) : Nat := 100000 + (x3.toNat + x4.length + x5.length)
def Z92 : Piece := { T := Zgq, shapes := Zgm, step := fun R x next k => Zcc R (x.1.2.2.1) (x.2.1.1) (x.2.2.1.1) (fun x3 x4 x5 => next (((), (), x3, ()), ((x4, ()), (x5, ()), ()))) (fun z0 => k.1 z0), fuel := fun x => Z8s (x.1.2.2.1) (x.2.1.1) (x.2.2.1.1) }
def Zr0 (R : Type) (x3 : Int) (x4 : List Int) (x5 : Str) (k0 : Str → Option R) : Option R :=
 runP Zgq Zgm (Z92).step R (Z8s x3 x4 x5) (((), (), x3, ()), ((x4, ()), (x5, ()), ())) (fun r => k0 (r), ())
abbrev Z2d := (R : Type) → (List Int) → (Str → Option R) → Option R
def Zjj (R : Type) (a1 : List Int) (k0 : Str → Option R) : Option R :=
 lett (List.replicate 32 (0 : UInt8)) fun (v2 : Str) =>
 Zr0 R 0 a1 v2 fun y12 =>
 k0 ((y12.drop 0).take 32)
def Z20 : Z2d := Zjj
abbrev Z12 := (R : Type) → Int → Int → Int → Int → (Int → Int → Option R) → Option R
def Zj8 (g0 : Z28) (g1 : Zq) (R : Type) (a1 a2 a3 a4 : Int) (k0 : Int → Int → Option R) : Option R :=
 g0 R a3 a4 fun r5 r6 =>
 g1 R a2 r6 0 fun r7 r8 =>
 lett (addI .u64 a1 (addI .u64 r5 r8)) fun (v9 : Int) =>
 k0 v9 r7
def Zo : Z12 := Zj8 Z1i Zg
def Zsy : StK := ⟨[(2, .sc (.ptr 0 0 0 0 0)), (3, .sc (.ptr 1 0 0 0 0)), (4, .sc (.ptr 2 0 0 0 0)), (5, .sc (.ptr 3 0 0 0 0)), (6, .sc (.i .i64)), (15, .sc (.i .i64)), (18, .sc (.i .i64))], [(true, [.ints .u64 (some 5)]), (true, [.ints .u64 (some 5)]), (true, [.ints .u64 (some 5)]), (true, [.recs [.int .u64, .int .u64] (some 5)])]⟩
def Zt4 : List PShape := [⟨Int × Int × Int × (List Int) × (List Int) × (List Int) × (List (Tup [.int .u64, .int .u64])), fun r => (.normal, ⟨[(2, .c (.sc (.ptr 0 0 0 0 0))), (3, .c (.sc (.ptr 1 0 0 0 0))), (4, .c (.sc (.ptr 2 0 0 0 0))), (5, .c (.sc (.ptr 3 0 0 0 0))), (6, .c (.sc (.int .i64 r.1))), (15, .c (.sc (.int .i64 r.2.1))), (18, .c (.sc (.int .i64 r.2.2.1)))], [(0, ⟨true, [.ints .u64 r.2.2.2.1 5]⟩), (1, ⟨true, [.ints .u64 r.2.2.2.2.1 5]⟩), (2, ⟨true, [.ints .u64 r.2.2.2.2.2.1 5]⟩), (3, ⟨true, [.recs [.int .u64, .int .u64] r.2.2.2.2.2.2 5]⟩)], 4⟩)⟩]
def Zfc (g0 : Z12) (g1 : Zq) (g2 : Ze) (R : Type) (x17 x18 x19 : Int) (x20 x21 x22 : List Int) (x23 : List (Tup [.int .u64, .int .u64])) (k0 : Int → Int → Int → (List Int) → (List Int) → (List Int) → (List (Tup [.int .u64, .int .u64])) → Option R) : Option R :=
 lett (ltI (addI .i64 x17 x19) 5) fun (v24 : Bool) =>
 br (v24)
 (gd (inB (addI .i64 x17 x19) 5) <|
 gd (inB x17 5) <|
 gd (inB x19 5) <|
 g0 R ((x23.getD ((addI .i64 x17 x19).toNat) (tupD [.int .u64, .int .u64])).1) ((x23.getD ((addI .i64 x17 x19).toNat) (tupD [.int .u64, .int .u64])).2.1) (x20.getD x17.toNat 0) (x21.getD x19.toNat 0) fun r25 r26 =>
 gd (inB (addI .i64 x17 x19) 5) <|
 lett (x23.set ((addI .i64 x17 x19).toNat) (r25, r26, ())) fun (v27 : List (Tup [.int .u64, .int .u64])) =>
 k0 x17 x18 x19 x20 x21 x22 v27)
 (lett (subI .i64 (addI .i64 x17 x19) 5) fun (v28 : Int) =>
 lett (subI .i64 (addI .i64 x17 x19) 5) fun (v29 : Int) =>
 gd (inB v29 5) <|
 gd (inB x17 5) <|
 lett (mulI .u64 19 (x20.getD x17.toNat 0)) fun (v30 : Int) =>
 gd (inB x19 5) <|
 g0 R ((x23.getD v29.toNat (tupD [.int .u64, .int .u64])).1) ((x23.getD v29.toNat (tupD [.int .u64, .int .u64])).2.1) v30 (x21.getD x19.toNat 0) fun r31 r32 =>
 gd (inB v28 5) <|
 lett (x23.set v28.toNat (r31, r32, ())) fun (v33 : List (Tup [.int .u64, .int .u64])) =>
 k0 x17 x18 x19 x20 x21 x22 v33)
def Znj (x17 x18 x19 : Int) (x20 x21 x22 : List Int) (x23 : List (Tup [.int .u64, .int .u64])) : Nat := 1
def Zez (g0 : Z12) (g1 : Zq) (g2 : Ze) : Piece := { T := Zsy, shapes := Zt4, step := fun R x next k => Zfc g0 g1 g2 R (x.1.2.2.2.2.1) (x.1.2.2.2.2.2.1) (x.1.2.2.2.2.2.2.1) (x.2.1.1) (x.2.2.1.1) (x.2.2.2.1.1) (x.2.2.2.2.1.1) (fun z0 z1 z2 z3 z4 z5 z6 => k.1 (z0, z1, z2, z3, z4, z5, z6)), fuel := fun x => Znj (x.1.2.2.2.2.1) (x.1.2.2.2.2.2.1) (x.1.2.2.2.2.2.2.1) (x.2.1.1) (x.2.2.1.1) (x.2.2.2.1.1) (x.2.2.2.2.1.1) }
def Ztv (g0 : Z12) (g1 : Zq) (g2 : Ze) (R : Type) (x17 x18 x19 : Int) (x20 x21 x22 : List Int) (x23 : List (Tup [.int .u64, .int .u64])) (k0 : Int → Int → Int → (List Int) → (List Int) → (List Int) → (List (Tup [.int .u64, .int .u64])) → Option R) : Option R :=
 runP Zsy Zt4 (Zez g0 g1 g2).step R (Znj x17 x18 x19 x20 x21 x22 x23) (((), (), (), (), x17, x18, x19, ()), ((x20, ()), (x21, ()), (x22, ()), (x23, ()), ())) (fun r => k0 (r.1) (r.2.1) (r.2.2.1) (r.2.2.2.1) (r.2.2.2.2.1) (r.2.2.2.2.2.1) (r.2.2.2.2.2.2), ())
def Zjl : StK := ⟨[(2, .sc (.ptr 0 0 0 0 0)), (3, .sc (.ptr 1 0 0 0 0)), (4, .sc (.ptr 2 0 0 0 0)), (5, .sc (.ptr 3 0 0 0 0)), (6, .sc (.i .i64)), (15, .sc (.i .i64)), (18, .sc (.i .i64))], [(true, [.ints .u64 (some 5)]), (true, [.ints .u64 (some 5)]), (true, [.ints .u64 (some 5)]), (true, [.recs [.int .u64, .int .u64] (some 5)])]⟩
def Zim : List PShape := [⟨Int × (List Int) × (List Int) × (List Int) × (List (Tup [.int .u64, .int .u64])), fun r => (.exit 2, ⟨[(2, .c (.sc (.ptr 0 0 0 0 0))), (3, .c (.sc (.ptr 1 0 0 0 0))), (4, .c (.sc (.ptr 2 0 0 0 0))), (5, .c (.sc (.ptr 3 0 0 0 0))), (15, .c (.sc (.int .i64 r.1)))], [(0, ⟨true, [.ints .u64 r.2.1 5]⟩), (1, ⟨true, [.ints .u64 r.2.2.1 5]⟩), (2, ⟨true, [.ints .u64 r.2.2.2.1 5]⟩), (3, ⟨true, [.recs [.int .u64, .int .u64] r.2.2.2.2 5]⟩)], 4⟩)⟩]
def Zfb (g0 : Z12) (g1 : Zq) (g2 : Ze) (R : Type) (x10 x11 x12 : Int) (x13 x14 x15 : List Int) (x16 : List (Tup [.int .u64, .int .u64])) (next : Int → Int → Int → (List Int) → (List Int) → (List Int) → (List (Tup [.int .u64, .int .u64])) → Option R) (k0 : Int → (List Int) → (List Int) → (List Int) → (List (Tup [.int .u64, .int .u64])) → Option R) : Option R :=
 br (ltI x12 5)
 (Ztv g0 g1 g2 R x10 x11 x12 x13 x14 x15 x16 fun y34 y35 y36 y37 y38 y39 y40 =>
 next y34 y35 (addI .i64 y36 1) y37 y38 y39 y40)
 (k0 x11 x13 x14 x15 x16)
def Zad (x10 x11 x12 : Int) (x13 x14 x15 : List Int) (x16 : List (Tup [.int .u64, .int .u64])) : Nat := 100000 + (x10.toNat + x11.toNat + x12.toNat + x13.length + x14.length + x15.length + x16.length)
def Zaw (g0 : Z12) (g1 : Zq) (g2 : Ze) : Piece := { T := Zjl, shapes := Zim, step := fun R x next k => Zfb g0 g1 g2 R (x.1.2.2.2.2.1) (x.1.2.2.2.2.2.1) (x.1.2.2.2.2.2.2.1) (x.2.1.1) (x.2.2.1.1) (x.2.2.2.1.1) (x.2.2.2.2.1.1) (fun x10 x11 x12 x13 x14 x15 x16 => next (((), (), (), (), x10, x11, x12, ()), ((x13, ()), (x14, ()), (x15, ()), (x16, ()), ()))) (fun z0 z1 z2 z3 z4 => k.1 (z0, z1, z2, z3, z4)), fuel := fun x => Zad (x.1.2.2.2.2.1) (x.1.2.2.2.2.2.1) (x.1.2.2.2.2.2.2.1) (x.2.1.1) (x.2.2.1.1) (x.2.2.2.1.1) (x.2.2.2.2.1.1) }
def Zui (g0 : Z12) (g1 : Zq) (g2 : Ze) (R : Type) (x10 x11 x12 : Int) (x13 x14 x15 : List Int) (x16 : List (Tup [.int .u64, .int .u64])) (k0 : Int → (List Int) → (List Int) → (List Int) → (List (Tup [.int .u64, .int .u64])) → Option R) : Option R :=
 runP Zjl Zim (Zaw g0 g1 g2).step R (Zad x10 x11 x12 x13 x14 x15 x16) (((), (), (), (), x10, x11, x12, ()), ((x13, ()), (x14, ()), (x15, ()), (x16, ()), ())) (fun r => k0 (r.1) (r.2.1) (r.2.2.1) (r.2.2.2.1) (r.2.2.2.2), ())
def Zix : StK := ⟨[(2, .sc (.ptr 0 0 0 0 0)), (3, .sc (.ptr 1 0 0 0 0)), (4, .sc (.ptr 2 0 0 0 0)), (5, .sc (.ptr 3 0 0 0 0)), (15, .sc (.i .i64))], [(true, [.ints .u64 (some 5)]), (true, [.ints .u64 (some 5)]), (true, [.ints .u64 (some 5)]), (true, [.recs [.int .u64, .int .u64] (some 5)])]⟩
def Zja : List PShape := [⟨(List Int) × (List (Tup [.int .u64, .int .u64])), fun r => (.exit 0, ⟨[(4, .c (.sc (.ptr 0 0 0 0 0))), (5, .c (.sc (.ptr 1 0 0 0 0)))], [(0, ⟨true, [.ints .u64 r.1 5]⟩), (1, ⟨true, [.recs [.int .u64, .int .u64] r.2 5]⟩)], 2⟩)⟩]
def Zfa (g0 : Z12) (g1 : Zq) (g2 : Ze) (R : Type) (x5 : Int) (x6 x7 x8 : List Int) (x9 : List (Tup [.int .u64, .int .u64])) (next : Int → (List Int) → (List Int) → (List Int) → (List (Tup [.int .u64, .int .u64])) → Option R) (k0 : (List Int) → (List (Tup [.int .u64, .int .u64])) → Option R) : Option R :=
 br (ltI x5 5)
 (Zui g0 g1 g2 R x5 x5 0 x6 x7 x8 x9 fun y41 y42 y43 y44 y45 =>
 next (addI .i64 y41 1) y42 y43 y44 y45)
 (k0 x8 x9)
def Z9w (x5 : Int) (x6 x7 x8 : List Int) (x9 : List (Tup [.int .u64, .int .u64])) : Nat := 100000 + (x5.toNat + x6.length + x7.length + x8.length + x9.length)
def Zbc (g0 : Z12) (g1 : Zq) (g2 : Ze) : Piece := { T := Zix, shapes := Zja, step := fun R x next k => Zfa g0 g1 g2 R (x.1.2.2.2.2.1) (x.2.1.1) (x.2.2.1.1) (x.2.2.2.1.1) (x.2.2.2.2.1.1) (fun x5 x6 x7 x8 x9 => next (((), (), (), (), x5, ()), ((x6, ()), (x7, ()), (x8, ()), (x9, ()), ()))) (fun z0 z1 => k.1 (z0, z1)), fuel := fun x => Z9w (x.1.2.2.2.2.1) (x.2.1.1) (x.2.2.1.1) (x.2.2.2.1.1) (x.2.2.2.2.1.1) }
def Zu3 (g0 : Z12) (g1 : Zq) (g2 : Ze) (R : Type) (x5 : Int) (x6 x7 x8 : List Int) (x9 : List (Tup [.int .u64, .int .u64])) (k0 : (List Int) → (List (Tup [.int .u64, .int .u64])) → Option R) : Option R :=
 runP Zix Zja (Zbc g0 g1 g2).step R (Z9w x5 x6 x7 x8 x9) (((), (), (), (), x5, ()), ((x6, ()), (x7, ()), (x8, ()), (x9, ()), ())) (fun r => k0 (r.1) (r.2), ())
def Zji : StK := ⟨[(4, .sc (.ptr 0 0 0 0 0)), (8, .sc (.ptr 1 0 0 0 0)), (9, .sc (.i .u64)), (66, .agg [.recs [.int .u64, .int .u64] (some 5)]), (67, .sc (.i .i64))], [(true, [.ints .u64 (some 5)]), (true, [.ints .u64 (some 5)])]⟩
def Zj7 : List PShape := [⟨Int × (List Int) × (List Int), fun r => (.exit 4, ⟨[(4, .c (.sc (.ptr 0 0 0 0 0))), (8, .c (.sc (.ptr 1 0 0 0 0))), (9, .c (.sc (.int .u64 r.1)))], [(0, ⟨true, [.ints .u64 r.2.1 5]⟩), (1, ⟨true, [.ints .u64 r.2.2 5]⟩)], 2⟩)⟩]
def Zex (g0 : Z12) (g1 : Zq) (g2 : Ze) (R : Type) (x49 : Int) (x50 : List (Tup [.int .u64, .int .u64])) (x51 : Int) (x52 x53 : List Int) (next : Int → (List (Tup [.int .u64, .int .u64])) → Int → (List Int) → (List Int) → Option R) (k0 : Int → (List Int) → (List Int) → Option R) : Option R :=
 br (ltI x51 5)
 (gd (inB x51 5) <|
 lett ((x50.getD x51.toNat (tupD [.int .u64, .int .u64])).1) fun (v54 : Int) =>
 lett ((x50.getD x51.toNat (tupD [.int .u64, .int .u64])).2.1) fun (v55 : Int) =>
 g1 R v55 x49 0 fun r56 r57 =>
 lett (andI .u64 r56 2251799813685247) fun (v58 : Int) =>
 gd (inB x51 5) <|
 lett (shlI .u64 (addI .u64 v54 r57) 13) fun (v59 : Int) =>
 lett (orI .u64 v59 (shrI .u64 r56 51)) fun (v60 : Int) =>
 next v60 x50 (addI .i64 x51 1) x52 (x53.set x51.toNat v58))
 (k0 x49 x52 x53)
def Zaf (x49 : Int) (x50 : List (Tup [.int .u64, .int .u64])) (x51 : Int) (x52 x53 : List Int) : Nat := 100000 + (x49.toNat + x50.length + x51.toNat + x52.length + x53.length)
def Zan (g0 : Z12) (g1 : Zq) (g2 : Ze) : Piece := { T := Zji, shapes := Zj7, step := fun R x next k => Zex g0 g1 g2 R (x.1.2.2.1) (x.1.2.2.2.1.1) (x.1.2.2.2.2.1) (x.2.1.1) (x.2.2.1.1) (fun x49 x50 x51 x52 x53 => next (((), (), x49, (x50, ()), x51, ()), ((x52, ()), (x53, ()), ()))) (fun z0 z1 z2 => k.1 (z0, z1, z2)), fuel := fun x => Zaf (x.1.2.2.1) (x.1.2.2.2.1.1) (x.1.2.2.2.2.1) (x.2.1.1) (x.2.2.1.1) }
def Zv4 (g0 : Z12) (g1 : Zq) (g2 : Ze) (R : Type) (x49 : Int) (x50 : List (Tup [.int .u64, .int .u64])) (x51 : Int) (x52 x53 : List Int) (k0 : Int → (List Int) → (List Int) → Option R) : Option R :=
 runP Zji Zj7 (Zan g0 g1 g2).step R (Zaf x49 x50 x51 x52 x53) (((), (), x49, (x50, ()), x51, ()), ((x52, ()), (x53, ()), ())) (fun r => k0 (r.1) (r.2.1) (r.2.2), ())
abbrev Z4 := (R : Type) → (List Int) → (List Int) → ((List Int) → Option R) → Option R
def Zn4 (g0 : Z12) (g1 : Zq) (g2 : Ze) (R : Type) (a1 a2 : List Int) (k0 : (List Int) → Option R) : Option R :=
 lett (List.replicate 5 (0 : Int)) fun (v3 : List Int) =>
 lett (List.replicate 5 (tupD [.int .u64, .int .u64])) fun (v4 : List (Tup [.int .u64, .int .u64])) =>
 Zu3 g0 g1 g2 R 0 a1 a2 v3 v4 fun y46 y47 =>
 lett (List.replicate 5 (0 : Int)) fun (v48 : List Int) =>
 Zv4 g0 g1 g2 R 0 y47 0 y46 v48 fun y61 y62 y63 =>
 lett (addI .u64 (y63.getD 0 0) (mulI .u64 19 y61)) fun (v64 : Int) =>
 g2 R (y63.set 0 v64) fun r65 =>
 k0 r65
def Z2 : Z4 := Zn4 Zo Zg Za
def Zio : StK := ⟨[(2, .sc (.ptr 0 0 0 0 0)), (3, .sc (.ptr 1 0 0 0 0)), (4, .sc (.ptr 2 0 0 0 0)), (6, .sc (.i .i64))], [(true, [.ints .u64 (some 5)]), (true, [.ints .u64 (some 5)]), (true, [.ints .u64 (some 5)])]⟩
def Zjh : List PShape := [⟨(List Int) × (List Int), fun r => (.exit 0, ⟨[(2, .c (.sc (.ptr 0 0 0 0 0))), (4, .c (.sc (.ptr 1 0 0 0 0)))], [(0, ⟨true, [.ints .u64 r.1 5]⟩), (1, ⟨true, [.ints .u64 r.2 5]⟩)], 2⟩)⟩]
def Zfh (g0 : Ze) (R : Type) (x4 : Int) (x5 x6 x7 : List Int) (next : Int → (List Int) → (List Int) → (List Int) → Option R) (k0 : (List Int) → (List Int) → Option R) : Option R :=
 br (ltI x4 5)
 (gd (inB x4 5) <|
 gd (inB x4 5) <|
 lett (subI .u64 4503599627370494 (x6.getD x4.toNat 0)) fun (v8 : Int) =>
 lett (addI .u64 (x5.getD x4.toNat 0) v8) fun (v9 : Int) =>
 gd (inB x4 5) <|
 next (addI .i64 x4 1) (x5.set x4.toNat v9) x6 x7)
 (k0 x5 x7)
def Za7 (x4 : Int) (x5 x6 x7 : List Int) : Nat := 100000 + (x4.toNat + x5.length + x6.length + x7.length)
def Zar (g0 : Ze) : Piece := { T := Zio, shapes := Zjh, step := fun R x next k => Zfh g0 R (x.1.2.2.2.1) (x.2.1.1) (x.2.2.1.1) (x.2.2.2.1.1) (fun x4 x5 x6 x7 => next (((), (), (), x4, ()), ((x5, ()), (x6, ()), (x7, ()), ()))) (fun z0 z1 => k.1 (z0, z1)), fuel := fun x => Za7 (x.1.2.2.2.1) (x.2.1.1) (x.2.2.1.1) (x.2.2.2.1.1) }
def Zum (g0 : Ze) (R : Type) (x4 : Int) (x5 x6 x7 : List Int) (k0 : (List Int) → (List Int) → Option R) : Option R :=
 runP Zio Zjh (Zar g0).step R (Za7 x4 x5 x6 x7) (((), (), (), x4, ()), ((x5, ()), (x6, ()), (x7, ()), ())) (fun r => k0 (r.1) (r.2), ())
abbrev Zt := (R : Type) → (List Int) → (List Int) → ((List Int) → Option R) → Option R
def Zna (g0 : Ze) (R : Type) (a1 a2 : List Int) (k0 : (List Int) → Option R) : Option R :=
 lett (List.replicate 5 (0 : Int)) fun (v3 : List Int) =>
 Zum g0 R 0 a1 a2 v3 fun y10 y11 =>
 lett (subI .u64 (y10.getD 0 0) 36) fun (v12 : Int) =>
 g0 R (y10.set 0 v12) fun r13 =>
 k0 r13
def Zr : Zt := Zna Za
abbrev Zu := (R : Type) → Int → ((List Int) → Option R) → Option R
def Zsk (g0 : Ze) (g1 : Zt) (R : Type) (a1 : Int) (k0 : (List Int) → Option R) : Option R :=
 lett (List.replicate 5 (0 : Int)) fun (v2 : List Int) =>
 br (ltI a1 0)
 (lett (subI .i64 0 (addI .i64 a1 1)) fun (v3 : Int) =>
 lett (addI .u64 (cvtI .u64 v3) 1) fun (v4 : Int) =>
 lett (andI .u64 v4 2251799813685247) fun (v5 : Int) =>
 g0 R (((List.replicate 5 (0 : Int)).set 0 v5).set 1 (shrI .u64 v4 51)) fun r6 =>
 g1 R (List.replicate 5 (0 : Int)) r6 fun r7 =>
 k0 r7)
 (lett (andI .u64 (cvtI .u64 a1) 2251799813685247) fun (v8 : Int) =>
 lett (shrI .u64 (cvtI .u64 a1) 51) fun (v9 : Int) =>
 g0 R (((List.replicate 5 (0 : Int)).set 0 v8).set 1 v9) fun r10 =>
 k0 r10)
def Zp : Zu := Zsk Za Zr
def Ze8 : StK := ⟨[(2, .sc (.ptr 0 0 0 0 0)), (4, .sc (.ptr 1 0 0 0 0)), (5, .sc (.i .i64)), (6, .sc (.i .i64))], [(true, [.ints .u64 (some 5)]), (true, [.ints .u64 (some 5)])]⟩
def Zeh : List PShape := [⟨(List Int) × (List Int), fun r => (.exit 0, ⟨[(2, .c (.sc (.ptr 0 0 0 0 0))), (4, .c (.sc (.ptr 1 0 0 0 0)))], [(0, ⟨true, [.ints .u64 r.1 5]⟩), (1, ⟨true, [.ints .u64 r.2 5]⟩)], 2⟩)⟩]
def Zb2 (g0 : Z4) (R : Type) (x4 x5 : Int) (x6 x7 : List Int) (next : Int → Int → (List Int) → (List Int) → Option R) (k0 : (List Int) → (List Int) → Option R) : Option R :=
 br (ltI x5 x4)
 (g0 R x6 x6 fun r8 =>
 next x4 (addI .i64 x5 1) r8 x7)
 (k0 x6 x7)
def Z71 (x4 x5 : Int) (x6 x7 : List Int) : Nat := 100000 + (x4.toNat + x5.toNat + x6.length + x7.length)
def Z77 (g0 : Z4) : Piece := { T := Ze8, shapes := Zeh, step := fun R x next k => Zb2 g0 R (x.1.2.2.1) (x.1.2.2.2.1) (x.2.1.1) (x.2.2.1.1) (fun x4 x5 x6 x7 => next (((), (), x4, x5, ()), ((x6, ()), (x7, ()), ()))) (fun z0 z1 => k.1 (z0, z1)), fuel := fun x => Z71 (x.1.2.2.1) (x.1.2.2.2.1) (x.2.1.1) (x.2.2.1.1) }
def Zmc (g0 : Z4) (R : Type) (x4 x5 : Int) (x6 x7 : List Int) (k0 : (List Int) → (List Int) → Option R) : Option R :=
 runP Ze8 Zeh (Z77 g0).step R (Z71 x4 x5 x6 x7) (((), (), x4, x5, ()), ((x6, ()), (x7, ()), ())) (fun r => k0 (r.1) (r.2), ())
abbrev Z17 := (R : Type) → (List Int) → Int → ((List Int) → Option R) → Option R
def Zgi (g0 : Z4) (R : Type) (a1 : List Int) (a2 : Int) (k0 : (List Int) → Option R) : Option R :=
 lett (List.replicate 5 (0 : Int)) fun (v3 : List Int) =>
 Zmc g0 R a2 0 a1 v3 fun y9 y10 =>
 k0 y9
def Z15 : Z17 := Zgi Z2
abbrev Z1x := (R : Type) → (List Int) → ((List Int) → (List Int) → Option R) → Option R
def Zl8 (g0 : Z17) (g1 : Z4) (R : Type) (a1 : List Int) (k0 : (List Int) → (List Int) → Option R) : Option R :=
 lett (List.replicate 5 (0 : Int)) fun (v2 : List Int) =>
 lett (List.replicate 5 (0 : Int)) fun (v3 : List Int) =>
 g0 R a1 1 fun r4 =>
 lett (List.replicate 5 (0 : Int)) fun (v5 : List Int) =>
 lett (List.replicate 5 (0 : Int)) fun (v6 : List Int) =>
 g0 R r4 2 fun r7 =>
 g1 R r7 a1 fun r8 =>
 g1 R r8 r4 fun r9 =>
 lett (List.replicate 5 (0 : Int)) fun (v10 : List Int) =>
 lett (List.replicate 5 (0 : Int)) fun (v11 : List Int) =>
 g0 R r9 1 fun r12 =>
 g1 R r12 r8 fun r13 =>
 lett (List.replicate 5 (0 : Int)) fun (v14 : List Int) =>
 g0 R r13 5 fun r15 =>
 g1 R r15 r13 fun r16 =>
 lett (List.replicate 5 (0 : Int)) fun (v17 : List Int) =>
 g0 R r16 10 fun r18 =>
 g1 R r18 r16 fun r19 =>
 lett (List.replicate 5 (0 : Int)) fun (v20 : List Int) =>
 g0 R r19 20 fun r21 =>
 g1 R r21 r19 fun r22 =>
 lett (List.replicate 5 (0 : Int)) fun (v23 : List Int) =>
 g0 R r22 10 fun r24 =>
 g1 R r24 r16 fun r25 =>
 lett (List.replicate 5 (0 : Int)) fun (v26 : List Int) =>
 g0 R r25 50 fun r27 =>
 g1 R r27 r25 fun r28 =>
 lett (List.replicate 5 (0 : Int)) fun (v29 : List Int) =>
 g0 R r28 100 fun r30 =>
 g1 R r30 r28 fun r31 =>
 g0 R r31 50 fun r32 =>
 g1 R r32 r25 fun r33 =>
 k0 r33 r9
def Z1r : Z1x := Zl8 Z15 Z2
abbrev Z25 := (R : Type) → (List Int) → ((List Int) → Option R) → Option R
def Znd (g0 : Z1x) (g1 : Z17) (g2 : Z4) (R : Type) (a1 : List Int) (k0 : (List Int) → Option R) : Option R :=
 lett (List.replicate 5 (0 : Int)) fun (v2 : List Int) =>
 g0 R a1 fun r3 r4 =>
 lett (List.replicate 5 (0 : Int)) fun (v5 : List Int) =>
 lett (List.replicate 5 (0 : Int)) fun (v6 : List Int) =>
 g1 R r3 5 fun r7 =>
 g2 R r7 r4 fun r8 =>
 k0 r8
def Z1y : Z25 := Znd Z1r Z15 Z2
def Zis : StK := ⟨[(2, .sc (.ptr 0 0 0 0 0)), (3, .sc (.ptr 1 0 0 0 0)), (4, .sc (.ptr 2 0 0 0 0)), (6, .sc (.i .i64))], [(true, [.ints .u64 (some 5)]), (true, [.ints .u64 (some 5)]), (true, [.ints .u64 (some 5)])]⟩
def Zj3 : List PShape := [⟨(List Int) × (List Int), fun r => (.exit 0, ⟨[(2, .c (.sc (.ptr 0 0 0 0 0))), (4, .c (.sc (.ptr 1 0 0 0 0)))], [(0, ⟨true, [.ints .u64 r.1 5]⟩), (1, ⟨true, [.ints .u64 r.2 5]⟩)], 2⟩)⟩]
def Zfg (g0 : Ze) (R : Type) (x4 : Int) (x5 x6 x7 : List Int) (next : Int → (List Int) → (List Int) → (List Int) → Option R) (k0 : (List Int) → (List Int) → Option R) : Option R :=
 br (ltI x4 5)
 (gd (inB x4 5) <|
 gd (inB x4 5) <|
 lett (addI .u64 (x5.getD x4.toNat 0) (x6.getD x4.toNat 0)) fun (v8 : Int) =>
 gd (inB x4 5) <|
 next (addI .i64 x4 1) (x5.set x4.toNat v8) x6 x7)
 (k0 x5 x7)
def Zae (x4 : Int) (x5 x6 x7 : List Int) : Nat := 100000 + (x4.toNat + x5.length + x6.length + x7.length)
def Zaz (g0 : Ze) : Piece := { T := Zis, shapes := Zj3, step := fun R x next k => Zfg g0 R (x.1.2.2.2.1) (x.2.1.1) (x.2.2.1.1) (x.2.2.2.1.1) (fun x4 x5 x6 x7 => next (((), (), (), x4, ()), ((x5, ()), (x6, ()), (x7, ()), ()))) (fun z0 z1 => k.1 (z0, z1)), fuel := fun x => Zae (x.1.2.2.2.1) (x.2.1.1) (x.2.2.1.1) (x.2.2.2.1.1) }
def Zvd (g0 : Ze) (R : Type) (x4 : Int) (x5 x6 x7 : List Int) (k0 : (List Int) → (List Int) → Option R) : Option R :=
 runP Zis Zj3 (Zaz g0).step R (Zae x4 x5 x6 x7) (((), (), (), x4, ()), ((x5, ()), (x6, ()), (x7, ()), ())) (fun r => k0 (r.1) (r.2), ())
abbrev Z31 := (R : Type) → (List Int) → (List Int) → ((List Int) → Option R) → Option R
def Zms (g0 : Ze) (R : Type) (a1 a2 : List Int) (k0 : (List Int) → Option R) : Option R :=
 lett (List.replicate 5 (0 : Int)) fun (v3 : List Int) =>
 Zvd g0 R 0 a1 a2 v3 fun y9 y10 =>
 g0 R y9 fun r11 =>
 k0 r11
def Z2q : Z31 := Zms Za
def Zrc : StK := ⟨[(1, .sc (.ptr 0 0 0 0 0)), (2, .sc (.ptr 1 0 0 0 0)), (6, .sc (.ptr 2 0 0 0 0)), (24, .sc (.b))], [(true, [.ints .u64 (some 5)]), (true, [.ints .u64 (some 5)]), (true, [.ints .u64 (some 5)])]⟩
def Zqw : List PShape := [⟨(List Int) × (List Int) × (List Int), fun r => (.normal, ⟨[(1, .c (.sc (.ptr 0 0 0 0 0))), (2, .c (.sc (.ptr 1 0 0 0 0))), (6, .c (.sc (.ptr 2 0 0 0 0)))], [(0, ⟨true, [.ints .u64 r.1 5]⟩), (1, ⟨true, [.ints .u64 r.2.1 5]⟩), (2, ⟨true, [.ints .u64 r.2.2 5]⟩)], 3⟩)⟩]
def Zdz (g0 : Z1x) (g1 : Z17) (g2 : Z4) (g3 : Zu) (g4 : Zt) (R : Type) (x12 : Bool) (x13 x14 x15 : List Int) (k0 : (List Int) → (List Int) → (List Int) → Option R) : Option R :=
 br (x12)
 (g3 R 2 fun r16 =>
 g0 R r16 fun r17 r18 =>
 lett (List.replicate 5 (0 : Int)) fun (v19 : List Int) =>
 lett (List.replicate 5 (0 : Int)) fun (v20 : List Int) =>
 g1 R r17 3 fun r21 =>
 g3 R 8 fun r22 =>
 g2 R r21 r22 fun r23 =>
 g2 R x15 r23 fun r24 =>
 k0 x13 x14 r24)
 (k0 x13 x14 x15)
def Zll (x12 : Bool) (x13 x14 x15 : List Int) : Nat := 1
def Zdm (g0 : Z1x) (g1 : Z17) (g2 : Z4) (g3 : Zu) (g4 : Zt) : Piece := { T := Zrc, shapes := Zqw, step := fun R x next k => Zdz g0 g1 g2 g3 g4 R (x.1.2.2.2.1) (x.2.1.1) (x.2.2.1.1) (x.2.2.2.1.1) (fun z0 z1 z2 => k.1 (z0, z1, z2)), fuel := fun x => Zll (x.1.2.2.2.1) (x.2.1.1) (x.2.2.1.1) (x.2.2.2.1.1) }
def Zsz (g0 : Z1x) (g1 : Z17) (g2 : Z4) (g3 : Zu) (g4 : Zt) (R : Type) (x12 : Bool) (x13 x14 x15 : List Int) (k0 : (List Int) → (List Int) → (List Int) → Option R) : Option R :=
 runP Zrc Zqw (Zdm g0 g1 g2 g3 g4).step R (Zll x12 x13 x14 x15) (((), (), (), x12, ()), ((x13, ()), (x14, ()), (x15, ()), ())) (fun r => k0 (r.1) (r.2.1) (r.2.2), ())
def Zqx : StK := ⟨[(2, .sc (.ptr 0 0 0 0 0)), (6, .sc (.ptr 1 0 0 0 0)), (46, .sc (.b))], [(true, [.ints .u64 (some 5)]), (true, [.ints .u64 (some 5)])]⟩
def Zr3 : List PShape := [⟨(List Int) × (List Int), fun r => (.normal, ⟨[(2, .c (.sc (.ptr 0 0 0 0 0))), (6, .c (.sc (.ptr 1 0 0 0 0)))], [(0, ⟨true, [.ints .u64 r.1 5]⟩), (1, ⟨true, [.ints .u64 r.2 5]⟩)], 2⟩)⟩]
def Ze2 (g0 : Z1x) (g1 : Z17) (g2 : Z4) (g3 : Zu) (g4 : Zt) (R : Type) (x31 : Bool) (x32 x33 : List Int) (k0 : (List Int) → (List Int) → Option R) : Option R :=
 br (x31)
 (g4 R (List.replicate 5 (0 : Int)) x33 fun r34 =>
 k0 x32 r34)
 (k0 x32 x33)
def Zlm (x31 : Bool) (x32 x33 : List Int) : Nat := 1
def Zdp (g0 : Z1x) (g1 : Z17) (g2 : Z4) (g3 : Zu) (g4 : Zt) : Piece := { T := Zqx, shapes := Zr3, step := fun R x next k => Ze2 g0 g1 g2 g3 g4 R (x.1.2.2.1) (x.2.1.1) (x.2.2.1.1) (fun z0 z1 => k.1 (z0, z1)), fuel := fun x => Zlm (x.1.2.2.1) (x.2.1.1) (x.2.2.1.1) }
def Zt1 (g0 : Z1x) (g1 : Z17) (g2 : Z4) (g3 : Zu) (g4 : Zt) (R : Type) (x31 : Bool) (x32 x33 : List Int) (k0 : (List Int) → (List Int) → Option R) : Option R :=
 runP Zqx Zr3 (Zdp g0 g1 g2 g3 g4).step R (Zlm x31 x32 x33) (((), (), x31, ()), ((x32, ()), (x33, ()), ())) (fun r => k0 (r.1) (r.2), ())
abbrev Z5k := (R : Type) → (List Int) → ((List Int) → Bool → Option R) → Option R
def Zkz (g0 : Z1x) (g1 : Z17) (g2 : Z4) (g3 : Zu) (g4 : Zt) (R : Type) (a1 : List Int) (k0 : (List Int) → Bool → Option R) : Option R :=
 lett (List.replicate 5 (0 : Int)) fun (v2 : List Int) =>
 g0 R a1 fun r3 r4 =>
 lett (List.replicate 5 (0 : Int)) fun (v5 : List Int) =>
 lett (List.replicate 5 (0 : Int)) fun (v6 : List Int) =>
 lett (List.replicate 5 (0 : Int)) fun (v7 : List Int) =>
 g1 R r3 2 fun r8 =>
 g2 R r8 a1 fun r9 =>
 g2 R r9 a1 fun r10 =>
 g2 R r10 r10 fun r11 =>
 Zsz g0 g1 g2 g3 g4 R (!(eqL r11 a1)) a1 v2 r10 fun y25 y26 y27 =>
 g2 R y27 y27 fun r28 =>
 br (!(eqL r28 y25))
 (lett (List.replicate 5 (0 : Int)) fun (v29 : List Int) =>
 k0 v29 false)
 (lett (andI .u64 (y27.getD 0 0) 1) fun (v30 : Int) =>
 Zt1 g0 g1 g2 g3 g4 R (eqI v30 1) y26 y27 fun y35 y36 =>
 k0 y36 true)
def Z4i : Z5k := Zkz Z1r Z15 Z2 Zp Zr
end
noncomputable section
abbrev Z62 := (R : Type) → ((List Int) → Option R) → Option R
def Zxi (g0 : Zu) (R : Type) (k0 : (List Int) → Option R) : Option R :=
 lett (List.replicate 5 (0 : Int)) fun (v1 : List Int) =>
 g0 R 1 fun r2 =>
 k0 r2
def Z53 : Z62 := Zxi Zp
abbrev Z1e := (R : Type) → ((List Int) → Option R) → Option R
def Zpl (g0 : Zu) (g1 : Z25) (g2 : Z4) (R : Type) (k0 : (List Int) → Option R) : Option R :=
 lett (List.replicate 5 (0 : Int)) fun (v1 : List Int) =>
 g0 R (-121665) fun r2 =>
 g0 R 121666 fun r3 =>
 g1 R r3 fun r4 =>
 g2 R r2 r4 fun r5 =>
 k0 r5
def Z1c : Z1e := Zpl Zp Z1y Z2
abbrev Z6w := (R : Type) → (List Int) → (List Int) → (List Int) → (List Int) → ((List Int) → (List Int) → (List Int) → (List Int) → Option R) → Option R
def Zva (g0 : Z62) (g1 : Zt) (R : Type) (a1 a2 a3 a4 : List Int) (k0 : (List Int) → (List Int) → (List Int) → (List Int) → Option R) : Option R :=
 lett (List.replicate 5 (0 : Int)) fun (v5 : List Int) =>
 lett (List.replicate 5 (0 : Int)) fun (v6 : List Int) =>
 lett (List.replicate 5 (0 : Int)) fun (v7 : List Int) =>
 lett (List.replicate 5 (0 : Int)) fun (v8 : List Int) =>
 g0 R fun r9 =>
 g1 R a2 r9 fun r10 =>
 g0 R fun r11 =>
 g1 R a3 r11 fun r12 =>
 k0 a1 r10 r12 a4
def Z5u : Z6w := Zva Z53 Zr
def Z11r : StK := ⟨[(2, .sc (.ptr 0 0 0 0 0)), (6, .sc (.ptr 1 0 0 0 0)), (9, .sc (.ptr 2 0 0 0 0)), (67, .sc (.b))], [(true, [.ints .u64 (some 5), .ints .u64 (some 5), .ints .u64 (some 5), .ints .u64 (some 5)]), (true, [.ints .u64 (some 5)]), (true, [.ints .u64 (some 5)])]⟩
def Z11x : List PShape := [⟨(List Int) × (List Int) × (List Int) × (List Int) × (List Int) × (List Int), fun r => (.normal, ⟨[(2, .c (.sc (.ptr 0 0 0 0 0))), (6, .c (.sc (.ptr 1 0 0 0 0))), (9, .c (.sc (.ptr 2 0 0 0 0)))], [(0, ⟨true, [.ints .u64 r.1 5, .ints .u64 r.2.1 5, .ints .u64 r.2.2.1 5, .ints .u64 r.2.2.2.1 5]⟩), (1, ⟨true, [.ints .u64 r.2.2.2.2.1 5]⟩), (2, ⟨true, [.ints .u64 r.2.2.2.2.2 5]⟩)], 3⟩)⟩]
def Zn9 (g0 : Zep) (g1 : Z2d) (g2 : Z4) (g3 : Z62) (g4 : Zt) (g5 : Z1e) (g6 : Z31) (g7 : Z25) (g8 : Z5k) (g9 : Z6w) (R : Type) (x44 : Bool) (x45 x46 x47 x48 x49 x50 : List Int) (k0 : (List Int) → (List Int) → (List Int) → (List Int) → (List Int) → (List Int) → Option R) : Option R :=
 br (x44)
 (g4 R (List.replicate 5 (0 : Int)) x50 fun r51 =>
 k0 x45 x46 x47 x48 x49 r51)
 (k0 x45 x46 x47 x48 x49 x50)
def Zws (x44 : Bool) (x45 x46 x47 x48 x49 x50 : List Int) : Nat := 1
def Zq8 (g0 : Zep) (g1 : Z2d) (g2 : Z4) (g3 : Z62) (g4 : Zt) (g5 : Z1e) (g6 : Z31) (g7 : Z25) (g8 : Z5k) (g9 : Z6w) : Piece := { T := Z11r, shapes := Z11x, step := fun R x next k => Zn9 g0 g1 g2 g3 g4 g5 g6 g7 g8 g9 R (x.1.2.2.2.1) (x.2.1.1) (x.2.1.2.1) (x.2.1.2.2.1) (x.2.1.2.2.2.1) (x.2.2.1.1) (x.2.2.2.1.1) (fun z0 z1 z2 z3 z4 z5 => k.1 (z0, z1, z2, z3, z4, z5)), fuel := fun x => Zws (x.1.2.2.2.1) (x.2.1.1) (x.2.1.2.1) (x.2.1.2.2.1) (x.2.1.2.2.2.1) (x.2.2.1.1) (x.2.2.2.1.1) }
def Zxe (g0 : Zep) (g1 : Z2d) (g2 : Z4) (g3 : Z62) (g4 : Zt) (g5 : Z1e) (g6 : Z31) (g7 : Z25) (g8 : Z5k) (g9 : Z6w) (R : Type) (x44 : Bool) (x45 x46 x47 x48 x49 x50 : List Int) (k0 : (List Int) → (List Int) → (List Int) → (List Int) → (List Int) → (List Int) → Option R) : Option R :=
 runP Z11r Z11x (Zq8 g0 g1 g2 g3 g4 g5 g6 g7 g8 g9).step R (Zws x44 x45 x46 x47 x48 x49 x50) (((), (), (), x44, ()), ((x45, x46, x47, x48, ()), (x49, ()), (x50, ()), ())) (fun r => k0 (r.1) (r.2.1) (r.2.2.1) (r.2.2.2.1) (r.2.2.2.2.1) (r.2.2.2.2.2), ())
abbrev Zln := (R : Type) → Str → ((List Int) → (List Int) → (List Int) → (List Int) → Int → Option R) → Option R
def Zzy (g0 : Zep) (g1 : Z2d) (g2 : Z4) (g3 : Z62) (g4 : Zt) (g5 : Z1e) (g6 : Z31) (g7 : Z25) (g8 : Z5k) (g9 : Z6w) (R : Type) (a1 : Str) (k0 : (List Int) → (List Int) → (List Int) → (List Int) → Int → Option R) : Option R :=
 lett (List.replicate 5 (0 : Int)) fun (v2 : List Int) =>
 lett (List.replicate 5 (0 : Int)) fun (v3 : List Int) =>
 lett (List.replicate 5 (0 : Int)) fun (v4 : List Int) =>
 lett (List.replicate 5 (0 : Int)) fun (v5 : List Int) =>
 lett (((a1.length : Nat) : Int)) fun (v6 : Int) =>
 br (!(eqI v6 32))
 (lett (List.replicate 5 (0 : Int)) fun (v7 : List Int) =>
 lett (List.replicate 5 (0 : Int)) fun (v8 : List Int) =>
 lett (List.replicate 5 (0 : Int)) fun (v9 : List Int) =>
 lett (List.replicate 5 (0 : Int)) fun (v10 : List Int) =>
 k0 v7 v8 v9 v10 1)
 (gd (inB 31 a1.length) <|
 lett (((a1.getD 31 0).toNat : Int)) fun (v11 : Int) =>
 gd (inB 31 a1.length) <|
 lett (((a1.getD 31 0).toNat : Int)) fun (v12 : Int) =>
 gd (inB 31 a1.length) <|
 lett (a1.set 31 (UInt8.ofNat ((andI .u8 v12 127).toNat))) fun (v13 : Str) =>
 g0 R v13 fun r14 r15 =>
 lett (List.replicate 5 (0 : Int)) fun (v16 : List Int) =>
 g1 R r14 fun r17 =>
 br (!(eqS r17 v13))
 (lett (List.replicate 5 (0 : Int)) fun (v18 : List Int) =>
 lett (List.replicate 5 (0 : Int)) fun (v19 : List Int) =>
 lett (List.replicate 5 (0 : Int)) fun (v20 : List Int) =>
 lett (List.replicate 5 (0 : Int)) fun (v21 : List Int) =>
 k0 v18 v19 v20 v21 21)
 (g2 R r14 r14 fun r22 =>
 lett (List.replicate 5 (0 : Int)) fun (v23 : List Int) =>
 lett (List.replicate 5 (0 : Int)) fun (v24 : List Int) =>
 g3 R fun r25 =>
 g4 R r22 r25 fun r26 =>
 g5 R fun r27 =>
 g2 R r27 r22 fun r28 =>
 g3 R fun r29 =>
 g6 R r28 r29 fun r30 =>
 g7 R r30 fun r31 =>
 g2 R r26 r31 fun r32 =>
 g8 R r32 fun r33 r34 =>
 br (!r34)
 (lett (List.replicate 5 (0 : Int)) fun (v35 : List Int) =>
 lett (List.replicate 5 (0 : Int)) fun (v36 : List Int) =>
 lett (List.replicate 5 (0 : Int)) fun (v37 : List Int) =>
 lett (List.replicate 5 (0 : Int)) fun (v38 : List Int) =>
 k0 v35 v36 v37 v38 21)
 (br (eqI (shrI .u8 v11 7) 1)
 (lett (eqL r33 (List.replicate 5 (0 : Int))) fun (v39 : Bool) =>
 br (v39)
 (lett (List.replicate 5 (0 : Int)) fun (v40 : List Int) =>
 lett (List.replicate 5 (0 : Int)) fun (v41 : List Int) =>
 lett (List.replicate 5 (0 : Int)) fun (v42 : List Int) =>
 lett (List.replicate 5 (0 : Int)) fun (v43 : List Int) =>
 k0 v40 v41 v42 v43 21)
 (Zxe g0 g1 g2 g3 g4 g5 g6 g7 g8 g9 R (eqI (shrI .u8 v11 7) 1) v2 v3 v4 v5 r14 r33 fun y52 y53 y54 y55 y56 y57 =>
 g3 R fun r58 =>
 g2 R y57 y56 fun r59 =>
 g9 R y57 y56 r58 r59 fun r60 r61 r62 r63 =>
 k0 r60 r61 r62 r63 0))
 (Zxe g0 g1 g2 g3 g4 g5 g6 g7 g8 g9 R (eqI (shrI .u8 v11 7) 1) v2 v3 v4 v5 r14 r33 fun y64 y65 y66 y67 y68 y69 =>
 g3 R fun r70 =>
 g2 R y69 y68 fun r71 =>
 g9 R y69 y68 r70 r71 fun r72 r73 r74 r75 =>
 k0 r72 r73 r74 r75 0))))
def Zhj : Zln := Zzy Zc3 Z20 Z2 Z53 Zr Z1c Z2q Z1y Z4i Z5u
abbrev Zg6 := (R : Type) → ((List Int) → (List Int) → (List Int) → (List Int) → Option R) → Option R
def Zu7 (g0 : Zu) (g1 : Z25) (g2 : Z4) (g3 : Z2d) (g4 : Zln) (R : Type) (k0 : (List Int) → (List Int) → (List Int) → (List Int) → Option R) : Option R :=
 lett (List.replicate 5 (0 : Int)) fun (v1 : List Int) =>
 lett (List.replicate 5 (0 : Int)) fun (v2 : List Int) =>
 lett (List.replicate 5 (0 : Int)) fun (v3 : List Int) =>
 lett (List.replicate 5 (0 : Int)) fun (v4 : List Int) =>
 g0 R 4 fun r5 =>
 g0 R 5 fun r6 =>
 g1 R r6 fun r7 =>
 g2 R r5 r7 fun r8 =>
 g3 R r8 fun r9 =>
 g4 R r9 fun r10 r11 r12 r13 r14 =>
 lett (List.replicate 5 (0 : Int)) fun (v15 : List Int) =>
 lett (List.replicate 5 (0 : Int)) fun (v16 : List Int) =>
 lett (List.replicate 5 (0 : Int)) fun (v17 : List Int) =>
 lett (List.replicate 5 (0 : Int)) fun (v18 : List Int) =>
 k0 r10 r11 r12 r13
def Zcu : Zg6 := Zu7 Zp Z1y Z2 Z20 Zhj
abbrev Z7i := (R : Type) → (List Int) → (List Int) → (List Int) → (List Int) → ((List Int) → (List Int) → (List Int) → (List Int) → Option R) → Option R
def Zh9 (g0 : Z62) (g1 : Z31) (R : Type) (a1 a2 a3 a4 : List Int) (k0 : (List Int) → (List Int) → (List Int) → (List Int) → Option R) : Option R :=
 lett (List.replicate 5 (0 : Int)) fun (v5 : List Int) =>
 lett (List.replicate 5 (0 : Int)) fun (v6 : List Int) =>
 lett (List.replicate 5 (0 : Int)) fun (v7 : List Int) =>
 lett (List.replicate 5 (0 : Int)) fun (v8 : List Int) =>
 g0 R fun r9 =>
 g1 R a2 r9 fun r10 =>
 g0 R fun r11 =>
 g1 R a3 r11 fun r12 =>
 k0 a1 r10 r12 a4
def Z5g : Z7i := Zh9 Z53 Z2q
abbrev Z1q := (R : Type) → (List Int) → (List Int) → (List Int) → (List Int) → (List Int) → (List Int) → (List Int) → (List Int) → (List Int) → ((List Int) → (List Int) → (List Int) → (List Int) → Option R) → Option R
def Zje (g0 : Z7i) (g1 : Zt) (g2 : Z4) (g3 : Z31) (g4 : Z6w) (R : Type) (a1 a2 a3 a4 a5 a6 a7 a8 a9 : List Int) (k0 : (List Int) → (List Int) → (List Int) → (List Int) → Option R) : Option R :=
 lett (List.replicate 5 (0 : Int)) fun (v10 : List Int) =>
 lett (List.replicate 5 (0 : Int)) fun (v11 : List Int) =>
 lett (List.replicate 5 (0 : Int)) fun (v12 : List Int) =>
 lett (List.replicate 5 (0 : Int)) fun (v13 : List Int) =>
 g0 R a1 a2 a3 a4 fun r14 r15 r16 r17 =>
 lett (List.replicate 5 (0 : Int)) fun (v18 : List Int) =>
 lett (List.replicate 5 (0 : Int)) fun (v19 : List Int) =>
 lett (List.replicate 5 (0 : Int)) fun (v20 : List Int) =>
 lett (List.replicate 5 (0 : Int)) fun (v21 : List Int) =>
 g0 R a5 a6 a7 a8 fun r22 r23 r24 r25 =>
 lett (List.replicate 5 (0 : Int)) fun (v26 : List Int) =>
 lett (List.replicate 5 (0 : Int)) fun (v27 : List Int) =>
 lett (List.replicate 5 (0 : Int)) fun (v28 : List Int) =>
 lett (List.replicate 5 (0 : Int)) fun (v29 : List Int) =>
 lett (List.replicate 5 (0 : Int)) fun (v30 : List Int) =>
 g1 R r15 r14 fun r31 =>
 g1 R r23 r22 fun r32 =>
 g2 R r31 r32 fun r33 =>
 lett (List.replicate 5 (0 : Int)) fun (v34 : List Int) =>
 g3 R r15 r14 fun r35 =>
 g3 R r23 r22 fun r36 =>
 g2 R r35 r36 fun r37 =>
 lett (List.replicate 5 (0 : Int)) fun (v38 : List Int) =>
 g2 R r17 a9 fun r39 =>
 g2 R r39 r25 fun r40 =>
 lett (List.replicate 5 (0 : Int)) fun (v41 : List Int) =>
 g3 R r16 r16 fun r42 =>
 g2 R r42 r24 fun r43 =>
 lett (List.replicate 5 (0 : Int)) fun (v44 : List Int) =>
 lett (List.replicate 5 (0 : Int)) fun (v45 : List Int) =>
 lett (List.replicate 5 (0 : Int)) fun (v46 : List Int) =>
 lett (List.replicate 5 (0 : Int)) fun (v47 : List Int) =>
 g1 R r37 r33 fun r48 =>
 g1 R r43 r40 fun r49 =>
 g3 R r43 r40 fun r50 =>
 g3 R r37 r33 fun r51 =>
 g2 R r48 r49 fun r52 =>
 g2 R r50 r51 fun r53 =>
 g2 R r49 r50 fun r54 =>
 g2 R r48 r51 fun r55 =>
 g4 R r52 r53 r54 r55 fun r56 r57 r58 r59 =>
 k0 r56 r57 r58 r59
def Z1f : Z1q := Zje Z5g Zr Z2 Z2q Z5u
def Zow : StK := ⟨[(1, .sc (.s)), (2, .sc (.ptr 0 0 0 0 0)), (4, .sc (.ptr 1 0 0 0 0)), (6, .sc (.ptr 2 0 0 0 0)), (7, .sc (.ptr 3 0 0 0 0)), (8, .sc (.i .i64))], [(true, [.ints .u64 (some 5), .ints .u64 (some 5), .ints .u64 (some 5), .ints .u64 (some 5)]), (true, [.ints .u64 (some 5), .ints .u64 (some 5), .ints .u64 (some 5), .ints .u64 (some 5)]), (true, [.ints .u64 (some 5)]), (true, [.ints .u64 (some 5), .ints .u64 (some 5), .ints .u64 (some 5), .ints .u64 (some 5)])]⟩
def Zol : List PShape := [⟨Str × Int × (List Int) × (List Int) × (List Int) × (List Int) × (List Int) × (List Int) × (List Int) × (List Int) × (List Int) × (List Int) × (List Int) × (List Int) × (List Int), fun r => (.normal, ⟨[(1, .c (.sc (.str r.1))), (2, .c (.sc (.ptr 0 0 0 0 0))), (4, .c (.sc (.ptr 1 0 0 0 0))), (6, .c (.sc (.ptr 2 0 0 0 0))), (7, .c (.sc (.ptr 3 0 0 0 0))), (8, .c (.sc (.int .i64 r.2.1)))], [(0, ⟨true, [.ints .u64 r.2.2.1 5, .ints .u64 r.2.2.2.1 5, .ints .u64 r.2.2.2.2.1 5, .ints .u64 r.2.2.2.2.2.1 5]⟩), (1, ⟨true, [.ints .u64 r.2.2.2.2.2.2.1 5, .ints .u64 r.2.2.2.2.2.2.2.1 5, .ints .u64 r.2.2.2.2.2.2.2.2.1 5, .ints .u64 r.2.2.2.2.2.2.2.2.2.1 5]⟩), (2, ⟨true, [.ints .u64 r.2.2.2.2.2.2.2.2.2.2.1 5]⟩), (3, ⟨true, [.ints .u64 r.2.2.2.2.2.2.2.2.2.2.2.1 5, .ints .u64 r.2.2.2.2.2.2.2.2.2.2.2.2.1 5, .ints .u64 r.2.2.2.2.2.2.2.2.2.2.2.2.2.1 5, .ints .u64 r.2.2.2.2.2.2.2.2.2.2.2.2.2.2 5]⟩)], 4⟩)⟩]
def Zd0 (g0 : Z1e) (g1 : Zu) (g2 : Z4) (g3 : Z1q) (R : Type) (x38 : Str) (x39 : Int) (x40 x41 x42 x43 x44 x45 x46 x47 x48 x49 x50 x51 x52 : List Int) (k0 : Str → Int → (List Int) → (List Int) → (List Int) → (List Int) → (List Int) → (List Int) → (List Int) → (List Int) → (List Int) → (List Int) → (List Int) → (List Int) → (List Int) → Option R) : Option R :=
 g3 R x49 x50 x51 x52 x49 x50 x51 x52 x48 fun r53 r54 r55 r56 =>
 gd (inB (quoI .i64 x39 8) x38.length) <|
 lett (((x38.getD ((quoI .i64 x39 8).toNat) 0).toNat : Int)) fun (v57 : Int) =>
 gd (leI 0 (remI x39 8)) <|
 lett (shrI .u8 v57 (remI x39 8)) fun (v58 : Int) =>
 br (eqI (andI .u8 v58 1) 1)
 (g3 R r53 r54 r55 r56 x40 x41 x42 x43 x48 fun r59 r60 r61 r62 =>
 k0 x38 x39 x40 x41 x42 x43 x44 x45 x46 x47 x48 r59 r60 r61 r62)
 (k0 x38 x39 x40 x41 x42 x43 x44 x45 x46 x47 x48 r53 r54 r55 r56)
def Zjs (x38 : Str) (x39 : Int) (x40 x41 x42 x43 x44 x45 x46 x47 x48 x49 x50 x51 x52 : List Int) : Nat := 1
def Zbv (g0 : Z1e) (g1 : Zu) (g2 : Z4) (g3 : Z1q) : Piece := { T := Zow, shapes := Zol, step := fun R x next k => Zd0 g0 g1 g2 g3 R (x.1.1) (x.1.2.2.2.2.2.1) (x.2.1.1) (x.2.1.2.1) (x.2.1.2.2.1) (x.2.1.2.2.2.1) (x.2.2.1.1) (x.2.2.1.2.1) (x.2.2.1.2.2.1) (x.2.2.1.2.2.2.1) (x.2.2.2.1.1) (x.2.2.2.2.1.1) (x.2.2.2.2.1.2.1) (x.2.2.2.2.1.2.2.1) (x.2.2.2.2.1.2.2.2.1) (fun z0 z1 z2 z3 z4 z5 z6 z7 z8 z9 z10 z11 z12 z13 z14 => k.1 (z0, z1, z2, z3, z4, z5, z6, z7, z8, z9, z10, z11, z12, z13, z14)), fuel := fun x => Zjs (x.1.1) (x.1.2.2.2.2.2.1) (x.2.1.1) (x.2.1.2.1) (x.2.1.2.2.1) (x.2.1.2.2.2.1) (x.2.2.1.1) (x.2.2.1.2.1) (x.2.2.1.2.2.1) (x.2.2.1.2.2.2.1) (x.2.2.2.1.1) (x.2.2.2.2.1.1) (x.2.2.2.2.1.2.1) (x.2.2.2.2.1.2.2.1) (x.2.2.2.2.1.2.2.2.1) }
def Zra (g0 : Z1e) (g1 : Zu) (g2 : Z4) (g3 : Z1q) (R : Type) (x38 : Str) (x39 : Int) (x40 x41 x42 x43 x44 x45 x46 x47 x48 x49 x50 x51 x52 : List Int) (k0 : Str → Int → (List Int) → (List Int) → (List Int) → (List Int) → (List Int) → (List Int) → (List Int) → (List Int) → (List Int) → (List Int) → (List Int) → (List Int) → (List Int) → Option R) : Option R :=
 runP Zow Zol (Zbv g0 g1 g2 g3).step R (Zjs x38 x39 x40 x41 x42 x43 x44 x45 x46 x47 x48 x49 x50 x51 x52) ((x38, (), (), (), (), x39, ()), ((x40, x41, x42, x43, ()), (x44, x45, x46, x47, ()), (x48, ()), (x49, x50, x51, x52, ()), ())) (fun r => k0 (r.1) (r.2.1) (r.2.2.1) (r.2.2.2.1) (r.2.2.2.2.1) (r.2.2.2.2.2.1) (r.2.2.2.2.2.2.1) (r.2.2.2.2.2.2.2.1) (r.2.2.2.2.2.2.2.2.1) (r.2.2.2.2.2.2.2.2.2.1) (r.2.2.2.2.2.2.2.2.2.2.1) (r.2.2.2.2.2.2.2.2.2.2.2.1) (r.2.2.2.2.2.2.2.2.2.2.2.2.1) (r.2.2.2.2.2.2.2.2.2.2.2.2.2.1) (r.2.2.2.2.2.2.2.2.2.2.2.2.2.2), ())
def Zge : StK := ⟨[(1, .sc (.s)), (2, .sc (.ptr 0 0 0 0 0)), (4, .sc (.ptr 1 0 0 0 0)), (6, .sc (.ptr 2 0 0 0 0)), (7, .sc (.ptr 3 0 0 0 0)), (8, .sc (.i .i64))], [(true, [.ints .u64 (some 5), .ints .u64 (some 5), .ints .u64 (some 5), .ints .u64 (some 5)]), (true, [.ints .u64 (some 5), .ints .u64 (some 5), .ints .u64 (some 5), .ints .u64 (some 5)]), (true, [.ints .u64 (some 5)]), (true, [.ints .u64 (some 5), .ints .u64 (some 5), .ints .u64 (some 5), .ints .u64 (some 5)])]⟩
def Zgo : List PShape := [⟨(List Int) × (List Int) × (List Int) × (List Int) × (List Int) × (List Int) × (List Int) × (List Int), fun r => (.exit 0, ⟨[(4, .c (.sc (.ptr 0 0 0 0 0))), (7, .c (.sc (.ptr 1 0 0 0 0)))], [(0, ⟨true, [.ints .u64 r.1 5, .ints .u64 r.2.1 5, .ints .u64 r.2.2.1 5, .ints .u64 r.2.2.2.1 5]⟩), (1, ⟨true, [.ints .u64 r.2.2.2.2.1 5, .ints .u64 r.2.2.2.2.2.1 5, .ints .u64 r.2.2.2.2.2.2.1 5, .ints .u64 r.2.2.2.2.2.2.2 5]⟩)], 2⟩)⟩]
def Zcl (g0 : Z1e) (g1 : Zu) (g2 : Z4) (g3 : Z1q) (R : Type) (x23 : Str) (x24 : Int) (x25 x26 x27 x28 x29 x30 x31 x32 x33 x34 x35 x36 x37 : List Int) (next : Str → Int → (List Int) → (List Int) → (List Int) → (List Int) → (List Int) → (List Int) → (List Int) → (List Int) → (List Int) → (List Int) → (List Int) → (List Int) → (List Int) → Option R) (k0 : (List Int) → (List Int) → (List Int) → (List Int) → (List Int) → (List Int) → (List Int) → (List Int) → Option R) : Option R :=
 br (leI 0 x24)
 (Zra g0 g1 g2 g3 R x23 x24 x25 x26 x27 x28 x29 x30 x31 x32 x33 x34 x35 x36 x37 fun y63 y64 y65 y66 y67 y68 y69 y70 y71 y72 y73 y74 y75 y76 y77 =>
 next y63 (subI .i64 y64 1) y65 y66 y67 y68 y69 y70 y71 y72 y73 y74 y75 y76 y77)
 (k0 x29 x30 x31 x32 x34 x35 x36 x37)
def Z8r (x23 : Str) (x24 : Int) (x25 x26 x27 x28 x29 x30 x31 x32 x33 x34 x35 x36 x37 : List Int) : Nat := 100000 + (x23.length + x24.toNat + x25.length + x26.length + x27.length + x28.length + x29.length + x30.length + x31.length + x32.length + x33.length + x34.length + x35.length + x36.length + x37.length)
def Z99 (g0 : Z1e) (g1 : Zu) (g2 : Z4) (g3 : Z1q) : Piece := { T := Zge, shapes := Zgo, step := fun R x next k => Zcl g0 g1 g2 g3 R (x.1.1) (x.1.2.2.2.2.2.1) (x.2.1.1) (x.2.1.2.1) (x.2.1.2.2.1) (x.2.1.2.2.2.1) (x.2.2.1.1) (x.2.2.1.2.1) (x.2.2.1.2.2.1) (x.2.2.1.2.2.2.1) (x.2.2.2.1.1) (x.2.2.2.2.1.1) (x.2.2.2.2.1.2.1) (x.2.2.2.2.1.2.2.1) (x.2.2.2.2.1.2.2.2.1) (fun x23 x24 x25 x26 x27 x28 x29 x30 x31 x32 x33 x34 x35 x36 x37 => next ((x23, (), (), (), (), x24, ()), ((x25, x26, x27, x28, ()), (x29, x30, x31, x32, ()), (x33, ()), (x34, x35, x36, x37, ()), ()))) (fun z0 z1 z2 z3 z4 z5 z6 z7 => k.1 (z0, z1, z2, z3, z4, z5, z6, z7)), fuel := fun x => Z8r (x.1.1) (x.1.2.2.2.2.2.1) (x.2.1.1) (x.2.1.2.1) (x.2.1.2.2.1) (x.2.1.2.2.2.1) (x.2.2.1.1) (x.2.2.1.2.1) (x.2.2.1.2.2.1) (x.2.2.1.2.2.2.1) (x.2.2.2.1.1) (x.2.2.2.2.1.1) (x.2.2.2.2.1.2.1) (x.2.2.2.2.1.2.2.1) (x.2.2.2.2.1.2.2.2.1) }
def Zqv (g0 : Z1e) (g1 : Zu) (g2 : Z4) (g3 : Z1q) (R : Type) (x23 : Str) (x24 : Int) (x25 x26 x27 x28 x29 x30 x31 x32 x33 x34 x35 x36 x37 : List Int) (k0 : (List Int) → (List Int) → (List Int) → (List Int) → (List Int) → (List Int) → (List Int) → (List Int) → Option R) : Option R :=
 runP Zge Zgo (Z99 g0 g1 g2 g3).step R (Z8r x23 x24 x25 x26 x27 x28 x29 x30 x31 x32 x33 x34 x35 x36 x37) ((x23, (), (), (), (), x24, ()), ((x25, x26, x27, x28, ()), (x29, x30, x31, x32, ()), (x33, ()), (x34, x35, x36, x37, ()), ())) (fun r => k0 (r.1) (r.2.1) (r.2.2.1) (r.2.2.2.1) (r.2.2.2.2.1) (r.2.2.2.2.2.1) (r.2.2.2.2.2.2.1) (r.2.2.2.2.2.2.2), ())
abbrev Z85 := (R : Type) → (List Int) → (List Int) → (List Int) → (List Int) → Str → ((List Int) → (List Int) → (List Int) → (List Int) → Int → Option R) → Option R
def Zjf (g0 : Z1e) (g1 : Zu) (g2 : Z4) (g3 : Z1q) (R : Type) (a1 a2 a3 a4 : List Int) (a5 : Str) (k0 : (List Int) → (List Int) → (List Int) → (List Int) → Int → Option R) : Option R :=
 lett (List.replicate 5 (0 : Int)) fun (v6 : List Int) =>
 lett (List.replicate 5 (0 : Int)) fun (v7 : List Int) =>
 lett (List.replicate 5 (0 : Int)) fun (v8 : List Int) =>
 lett (List.replicate 5 (0 : Int)) fun (v9 : List Int) =>
 lett (((a5.length : Nat) : Int)) fun (v10 : Int) =>
 br (!(eqI v10 32))
 (lett (List.replicate 5 (0 : Int)) fun (v11 : List Int) =>
 lett (List.replicate 5 (0 : Int)) fun (v12 : List Int) =>
 lett (List.replicate 5 (0 : Int)) fun (v13 : List Int) =>
 lett (List.replicate 5 (0 : Int)) fun (v14 : List Int) =>
 k0 v11 v12 v13 v14 1)
 (g0 R fun r15 =>
 g1 R 2 fun r16 =>
 g2 R r15 r16 fun r17 =>
 lett (List.replicate 5 (0 : Int)) fun (v18 : List Int) =>
 lett (List.replicate 5 (0 : Int)) fun (v19 : List Int) =>
 lett (List.replicate 5 (0 : Int)) fun (v20 : List Int) =>
 lett (List.replicate 5 (0 : Int)) fun (v21 : List Int) =>
 lett (List.replicate 5 (0 : Int)) fun (v22 : List Int) =>
 Zqv g0 g1 g2 g3 R a5 255 a1 a2 a3 a4 v6 v7 v8 v9 r17 v19 v20 v21 v22 fun y78 y79 y80 y81 y82 y83 y84 y85 =>
 k0 y82 y83 y84 y85 0)
def Z6c : Z85 := Zjf Z1c Zp Z2 Z1f
abbrev Zf3 := (R : Type) → (List Int) → (List Int) → (List Int) → (List Int) → ((List Int) → (List Int) → (List Int) → (List Int) → Option R) → Option R
def Zj0 (g0 : Zt) (R : Type) (a1 a2 a3 a4 : List Int) (k0 : (List Int) → (List Int) → (List Int) → (List Int) → Option R) : Option R :=
 lett (List.replicate 5 (0 : Int)) fun (v5 : List Int) =>
 lett (List.replicate 5 (0 : Int)) fun (v6 : List Int) =>
 lett (List.replicate 5 (0 : Int)) fun (v7 : List Int) =>
 lett (List.replicate 5 (0 : Int)) fun (v8 : List Int) =>
 lett (List.replicate 5 (0 : Int)) fun (v9 : List Int) =>
 g0 R v9 a1 fun r10 =>
 g0 R v9 a4 fun r11 =>
 k0 r10 a2 a3 r11
def Zbd : Zf3 := Zj0 Zr
abbrev Zfd := (R : Type) → (List Int) → (List Int) → (List Int) → (List Int) → (List Int) → (List Int) → (List Int) → (List Int) → ((List Int) → (List Int) → (List Int) → (List Int) → Option R) → Option R
def Zj1 (g0 : Z1e) (g1 : Zu) (g2 : Z4) (g3 : Z1q) (R : Type) (a1 a2 a3 a4 a5 a6 a7 a8 : List Int) (k0 : (List Int) → (List Int) → (List Int) → (List Int) → Option R) : Option R :=
 lett (List.replicate 5 (0 : Int)) fun (v9 : List Int) =>
 lett (List.replicate 5 (0 : Int)) fun (v10 : List Int) =>
 lett (List.replicate 5 (0 : Int)) fun (v11 : List Int) =>
 lett (List.replicate 5 (0 : Int)) fun (v12 : List Int) =>
 g0 R fun r13 =>
 g1 R 2 fun r14 =>
 g2 R r13 r14 fun r15 =>
 g3 R a1 a2 a3 a4 a5 a6 a7 a8 r15 fun r16 r17 r18 r19 =>
 k0 r16 r17 r18 r19
def Zax : Zfd := Zj1 Z1c Zp Z2 Z1f
abbrev Z6n := (R : Type) → (List Int) → (List Int) → (List Int) → (List Int) → (Str → Option R) → Option R
def Zgf (g0 : Z7i) (g1 : Z25) (g2 : Z4) (g3 : Z2d) (R : Type) (a1 a2 a3 a4 : List Int) (k0 : Str → Option R) : Option R :=
 g0 R a1 a2 a3 a4 fun r5 r6 r7 r8 =>
 lett (List.replicate 5 (0 : Int)) fun (v9 : List Int) =>
 lett (List.replicate 5 (0 : Int)) fun (v10 : List Int) =>
 lett (List.replicate 5 (0 : Int)) fun (v11 : List Int) =>
 lett (List.replicate 5 (0 : Int)) fun (v12 : List Int) =>
 g1 R r7 fun r13 =>
 lett (List.replicate 5 (0 : Int)) fun (v14 : List Int) =>
 g2 R r6 r13 fun r15 =>
 g3 R r15 fun r16 =>
 gd (inB 31 r16.length) <|
 lett (((r16.getD 31 0).toNat : Int)) fun (v17 : Int) =>
 g2 R r5 r13 fun r18 =>
 g3 R r18 fun r19 =>
 gd (inB 0 r19.length) <|
 lett (((r19.getD 0 0).toNat : Int)) fun (v20 : Int) =>
 lett (shlI .u8 (andI .u8 v20 1) 7) fun (v21 : Int) =>
 gd (inB 31 r16.length) <|
 lett (r16.set 31 (UInt8.ofNat ((orI .u8 v17 v21).toNat))) fun (v22 : Str) =>
 k0 v22
def Z4m : Z6n := Zgf Z5g Z1y Z2 Z20
end
noncomputable section
def Zkt : StK := ⟨[(0, .sc (.s)), (3, .sc (.sl 0 1 none)), (10, .sc (.i .i64)), (11, .sc (.i .i64))], [(true, [.ints .u64 none])]⟩
def Zlh : List PShape := [⟨(List Int), fun r => (.exit 0, ⟨[(3, .c (.sc (.slice 0 1 none none)))], [(0, ⟨true, [.ints .u64 r r.length]⟩)], 1⟩)⟩]
def Zgd (R : Type) (x5 : Str) (x6 x7 : Int) (x8 : List Int) (next : Str → Int → Int → (List Int) → Option R) (k0 : (List Int) → Option R) : Option R :=
 br (ltI x7 x6)
 (gd (inB (quoI .i64 x7 8) x8.length) <|
 lett (x8.getD ((quoI .i64 x7 8).toNat) 0) fun (v9 : Int) =>
 gd (inB x7 x5.length) <|
 lett (((x5.getD x7.toNat 0).toNat : Int)) fun (v10 : Int) =>
 gd (leI 0 (mulI .i64 8 (remI x7 8))) <|
 lett (shlI .u64 (cvtI .u64 v10) (mulI .i64 8 (remI x7 8))) fun (v11 : Int) =>
 gd (inB (quoI .i64 x7 8) x8.length) <|
 lett (x8.set ((quoI .i64 x7 8).toNat) (orI .u64 v9 v11)) fun (v12 : List Int) =>
 next x5 x6 (addI .i64 x7 1) v12)
 (k0 x8)
def Zbf (x5 : Str) (x6 x7 : Int) (x8 : List Int) : Nat := 100000 + (x5.length + x6.toNat + x7.toNat + x8.length)
def Zc6 : Piece := { T := Zkt, shapes := Zlh, step := fun R x next k => Zgd R (x.1.1) (x.1.2.2.1) (x.1.2.2.2.1) (x.2.1.1) (fun x5 x6 x7 x8 => next ((x5, (), x6, x7, ()), ((x8, ()), ()))) (fun z0 => k.1 z0), fuel := fun x => Zbf (x.1.1) (x.1.2.2.1) (x.1.2.2.2.1) (x.2.1.1) }
def Zwh (R : Type) (x5 : Str) (x6 x7 : Int) (x8 : List Int) (k0 : (List Int) → Option R) : Option R :=
 runP Zkt Zlh (Zc6).step R (Zbf x5 x6 x7 x8) ((x5, (), x6, x7, ()), ((x8, ()), ())) (fun r => k0 (r), ())
abbrev Z1d := (R : Type) → Str → ((List Int) → Option R) → Option R
def Zph (R : Type) (a1 : Str) (k0 : (List Int) → Option R) : Option R :=
 lett (((a1.length : Nat) : Int)) fun (v2 : Int) =>
 gd (makeB (quoI .i64 v2 8) 8) <|
 gd (leB (quoI .i64 v2 8) ((quoI .i64 v2 8).toNat)) <|
 lett (List.replicate ((quoI .i64 v2 8).toNat) (0 : Int)) fun (v3 : List Int) =>
 lett (((a1.length : Nat) : Int)) fun (v4 : Int) =>
 Zwh R a1 v4 0 v3 fun y13 =>
 k0 y13
def Z14 : Z1d := Zph
abbrev Z4t := (R : Type) → ((List Int) → Option R) → Option R
def Zpx (R : Type) (k0 : (List Int) → Option R) : Option R :=
 lett (List.replicate 4 (0 : Int)) fun (v1 : List Int) =>
 lett (((((List.replicate 4 (0 : Int)).set 0 6346243789798364141).set 1 1503914060200516822).set 2 0).set 3 1152921504606846976) fun (v2 : List Int) =>
 k0 v2
def Z3k : Z4t := Zpx
def Zci : StK := ⟨[(2, .sc (.ptr 0 0 0 0 0)), (3, .sc (.ptr 1 0 0 0 0)), (4, .sc (.ptr 2 0 0 0 0)), (6, .sc (.i .u64)), (8, .sc (.i .i64))], [(true, [.ints .u64 (some 4)]), (true, [.ints .u64 (some 4)]), (true, [.ints .u64 (some 4)])]⟩
def Zcb : List PShape := [⟨Int × (List Int) × (List Int), fun r => (.exit 0, ⟨[(2, .c (.sc (.ptr 0 0 0 0 0))), (4, .c (.sc (.ptr 1 0 0 0 0))), (6, .c (.sc (.int .u64 r.1)))], [(0, ⟨true, [.ints .u64 r.2.1 4]⟩), (1, ⟨true, [.ints .u64 r.2.2 4]⟩)], 2⟩)⟩]
def Z9x (g0 : Zcy) (R : Type) (x4 x5 : Int) (x6 x7 x8 : List Int) (next : Int → Int → (List Int) → (List Int) → (List Int) → Option R) (k0 : Int → (List Int) → (List Int) → Option R) : Option R :=
 br (ltI x5 4)
 (gd (inB x5 4) <|
 gd (inB x5 4) <|
 g0 R (x6.getD x5.toNat 0) (x7.getD x5.toNat 0) x4 fun r9 r10 =>
 gd (inB x5 4) <|
 next r10 (addI .i64 x5 1) (x6.set x5.toNat r9) x7 x8)
 (k0 x4 x6 x8)
def Z6q (x4 x5 : Int) (x6 x7 x8 : List Int) : Nat := 100000 + (x4.toNat + x5.toNat + x6.length + x7.length + x8.length)
def Z6m (g0 : Zcy) : Piece := { T := Zci, shapes := Zcb, step := fun R x next k => Z9x g0 R (x.1.2.2.2.1) (x.1.2.2.2.2.1) (x.2.1.1) (x.2.2.1.1) (x.2.2.2.1.1) (fun x4 x5 x6 x7 x8 => next (((), (), (), x4, x5, ()), ((x6, ()), (x7, ()), (x8, ()), ()))) (fun z0 z1 z2 => k.1 (z0, z1, z2)), fuel := fun x => Z6q (x.1.2.2.2.1) (x.1.2.2.2.2.1) (x.2.1.1) (x.2.2.1.1) (x.2.2.2.1.1) }
def Zlo (g0 : Zcy) (R : Type) (x4 x5 : Int) (x6 x7 x8 : List Int) (k0 : Int → (List Int) → (List Int) → Option R) : Option R :=
 runP Zci Zcb (Z6m g0).step R (Z6q x4 x5 x6 x7 x8) (((), (), (), x4, x5, ()), ((x6, ()), (x7, ()), (x8, ()), ())) (fun r => k0 (r.1) (r.2.1) (r.2.2), ())
abbrev Z29 := (R : Type) → (List Int) → (List Int) → ((List Int) → Int → Option R) → Option R
def Zf9 (g0 : Zcy) (R : Type) (a1 a2 : List Int) (k0 : (List Int) → Int → Option R) : Option R :=
 lett (List.replicate 4 (0 : Int)) fun (v3 : List Int) =>
 Zlo g0 R 0 0 a1 a2 v3 fun y11 y12 y13 =>
 k0 y12 y11
def Z1k : Z29 := Zf9 Z8v
abbrev Zkj := (R : Type) → Str → (Bool → Option R) → Option R
def Zq3 (g0 : Z1d) (g1 : Z4t) (g2 : Z29) (R : Type) (a1 : Str) (k0 : Bool → Option R) : Option R :=
 lett (((a1.length : Nat) : Int)) fun (v2 : Int) =>
 br (!(eqI v2 32))
 (k0 false)
 (lett (List.replicate 4 (0 : Int)) fun (v3 : List Int) =>
 g0 R a1 fun r4 =>
 gd (Nat.ble 4 r4.length) <|
 gd (Nat.ble 4 r4.length) <|
 g1 R fun r5 =>
 g2 R ((r4.drop 0).take 4) r5 fun r6 r7 =>
 k0 (eqI r7 1))
def Zg0 : Zkj := Zq3 Z14 Z3k Z1k
def Zcx : StK := ⟨[(1, .sc (.i .u64)), (2, .sc (.ptr 0 0 0 0 0)), (4, .sc (.ptr 1 0 0 0 0)), (8, .sc (.i .i64))], [(true, [.ints .u64 (some 4)]), (true, [.ints .u64 (some 4)])]⟩
def Zco : List PShape := [⟨(List Int) × (List Int), fun r => (.exit 0, ⟨[(2, .c (.sc (.ptr 0 0 0 0 0))), (4, .c (.sc (.ptr 1 0 0 0 0)))], [(0, ⟨true, [.ints .u64 r.1 4]⟩), (1, ⟨true, [.ints .u64 r.2 4]⟩)], 2⟩)⟩]
def Za1 (g0 : Z4t) (g1 : Z29) (R : Type) (x4 x5 : Int) (x6 x7 : List Int) (next : Int → Int → (List Int) → (List Int) → Option R) (k0 : (List Int) → (List Int) → Option R) : Option R :=
 br (ltI x5 4)
 (gd (inB x5 4) <|
 lett (shlI .u64 (x6.getD x5.toNat 0) 1) fun (v8 : Int) =>
 gd (inB x5 4) <|
 lett (shrI .u64 (x6.getD x5.toNat 0) 63) fun (v9 : Int) =>
 gd (inB x5 4) <|
 lett (x6.set x5.toNat (orI .u64 v8 x4)) fun (v10 : List Int) =>
 next v9 (addI .i64 x5 1) v10 x7)
 (k0 x6 x7)
def Z6s (x4 x5 : Int) (x6 x7 : List Int) : Nat := 100000 + (x4.toNat + x5.toNat + x6.length + x7.length)
def Z6e (g0 : Z4t) (g1 : Z29) : Piece := { T := Zcx, shapes := Zco, step := fun R x next k => Za1 g0 g1 R (x.1.1) (x.1.2.2.2.1) (x.2.1.1) (x.2.2.1.1) (fun x4 x5 x6 x7 => next ((x4, (), (), x5, ()), ((x6, ()), (x7, ()), ()))) (fun z0 z1 => k.1 (z0, z1)), fuel := fun x => Z6s (x.1.1) (x.1.2.2.2.1) (x.2.1.1) (x.2.2.1.1) }
def Zlk (g0 : Z4t) (g1 : Z29) (R : Type) (x4 x5 : Int) (x6 x7 : List Int) (k0 : (List Int) → (List Int) → Option R) : Option R :=
 runP Zcx Zco (Z6e g0 g1).step R (Z6s x4 x5 x6 x7) ((x4, (), (), x5, ()), ((x6, ()), (x7, ()), ())) (fun r => k0 (r.1) (r.2), ())
abbrev Z1l := (R : Type) → (List Int) → Int → ((List Int) → Option R) → Option R
def Zf1 (g0 : Z4t) (g1 : Z29) (R : Type) (a1 : List Int) (a2 : Int) (k0 : (List Int) → Option R) : Option R :=
 lett (List.replicate 4 (0 : Int)) fun (v3 : List Int) =>
 Zlk g0 g1 R a2 0 a1 v3 fun y11 y12 =>
 lett (List.replicate 4 (0 : Int)) fun (v13 : List Int) =>
 g0 R fun r14 =>
 g1 R y11 r14 fun r15 r16 =>
 br (eqI r16 0)
 (k0 r15)
 (k0 y11)
def Z19 : Z1l := Zf1 Z3k Z1k
def Zgn : StK := ⟨[(0, .sc (.sl 0 1 none)), (2, .sc (.ptr 1 0 0 0 0)), (3, .sc (.ptr 2 0 0 0 0)), (4, .sc (.i .i64)), (5, .sc (.i .i64))], [(true, [.ints .u64 none]), (true, [.ints .u64 (some 4)]), (true, [.ints .u64 (some 4)])]⟩
def Zgj : List PShape := [⟨Int × (List Int) × (List Int) × (List Int), fun r => (.exit 2, ⟨[(0, .c (.sc (.slice 0 1 none none))), (2, .c (.sc (.ptr 1 0 0 0 0))), (3, .c (.sc (.ptr 2 0 0 0 0))), (4, .c (.sc (.int .i64 r.1)))], [(0, ⟨true, [.ints .u64 r.2.1 r.2.1.length]⟩), (1, ⟨true, [.ints .u64 r.2.2.1 4]⟩), (2, ⟨true, [.ints .u64 r.2.2.2 4]⟩)], 3⟩)⟩]
def Zcg (g0 : Z1l) (R : Type) (x9 x10 : Int) (x11 x12 x13 : List Int) (next : Int → Int → (List Int) → (List Int) → (List Int) → Option R) (k0 : Int → (List Int) → (List Int) → (List Int) → Option R) : Option R :=
 br (leI 0 x10)
 (gd (inB x9 x11.length) <|
 gd (leI 0 x10) <|
 lett (shrI .u64 (x11.getD x9.toNat 0) x10) fun (v14 : Int) =>
 g0 R x13 (andI .u64 v14 1) fun r15 =>
 next x9 (subI .i64 x10 1) x11 x12 r15)
 (k0 x9 x11 x12 x13)
def Z8l (x9 x10 : Int) (x11 x12 x13 : List Int) : Nat := 100000 + (x9.toNat + x10.toNat + x11.length + x12.length + x13.length)
def Z90 (g0 : Z1l) : Piece := { T := Zgn, shapes := Zgj, step := fun R x next k => Zcg g0 R (x.1.2.2.2.1) (x.1.2.2.2.2.1) (x.2.1.1) (x.2.2.1.1) (x.2.2.2.1.1) (fun x9 x10 x11 x12 x13 => next (((), (), (), x9, x10, ()), ((x11, ()), (x12, ()), (x13, ()), ()))) (fun z0 z1 z2 z3 => k.1 (z0, z1, z2, z3)), fuel := fun x => Z8l (x.1.2.2.2.1) (x.1.2.2.2.2.1) (x.2.1.1) (x.2.2.1.1) (x.2.2.2.1.1) }
def Zqo (g0 : Z1l) (R : Type) (x9 x10 : Int) (x11 x12 x13 : List Int) (k0 : Int → (List Int) → (List Int) → (List Int) → Option R) : Option R :=
 runP Zgn Zgj (Z90 g0).step R (Z8l x9 x10 x11 x12 x13) (((), (), (), x9, x10, ()), ((x11, ()), (x12, ()), (x13, ()), ())) (fun r => k0 (r.1) (r.2.1) (r.2.2.1) (r.2.2.2), ())
def Zgk : StK := ⟨[(0, .sc (.sl 0 1 none)), (2, .sc (.ptr 1 0 0 0 0)), (3, .sc (.ptr 2 0 0 0 0)), (4, .sc (.i .i64))], [(true, [.ints .u64 none]), (true, [.ints .u64 (some 4)]), (true, [.ints .u64 (some 4)])]⟩
def Zgg : List PShape := [⟨(List Int) × (List Int) × (List Int), fun r => (.exit 0, ⟨[(2, .c (.sc (.ptr 1 0 0 0 0))), (3, .c (.sc (.ptr 2 0 0 0 0)))], [(0, ⟨true, [.ints .u64 r.1 r.1.length]⟩), (1, ⟨true, [.ints .u64 r.2.1 4]⟩), (2, ⟨true, [.ints .u64 r.2.2 4]⟩)], 3⟩)⟩]
def Zca (g0 : Z1l) (R : Type) (x5 : Int) (x6 x7 x8 : List Int) (next : Int → (List Int) → (List Int) → (List Int) → Option R) (k0 : (List Int) → (List Int) → (List Int) → Option R) : Option R :=
 br (leI 0 x5)
 (Zqo g0 R x5 63 x6 x7 x8 fun y16 y17 y18 y19 =>
 next (subI .i64 y16 1) y17 y18 y19)
 (k0 x6 x7 x8)
def Z8j (x5 : Int) (x6 x7 x8 : List Int) : Nat := 100000 + (x5.toNat + x6.length + x7.length + x8.length)
def Z8y (g0 : Z1l) : Piece := { T := Zgk, shapes := Zgg, step := fun R x next k => Zca g0 R (x.1.2.2.2.1) (x.2.1.1) (x.2.2.1.1) (x.2.2.2.1.1) (fun x5 x6 x7 x8 => next (((), (), (), x5, ()), ((x6, ()), (x7, ()), (x8, ()), ()))) (fun z0 z1 z2 => k.1 (z0, z1, z2)), fuel := fun x => Z8j (x.1.2.2.2.1) (x.2.1.1) (x.2.2.1.1) (x.2.2.2.1.1) }
def Zr4 (g0 : Z1l) (R : Type) (x5 : Int) (x6 x7 x8 : List Int) (k0 : (List Int) → (List Int) → (List Int) → Option R) : Option R :=
 runP Zgk Zgg (Z8y g0).step R (Z8j x5 x6 x7 x8) (((), (), (), x5, ()), ((x6, ()), (x7, ()), (x8, ()), ())) (fun r => k0 (r.1) (r.2.1) (r.2.2), ())
abbrev Z1a := (R : Type) → (List Int) → ((List Int) → (List Int) → Option R) → Option R
def Zjm (g0 : Z1l) (R : Type) (a1 : List Int) (k0 : (List Int) → (List Int) → Option R) : Option R :=
 lett (List.replicate 4 (0 : Int)) fun (v2 : List Int) =>
 lett (List.replicate 4 (0 : Int)) fun (v3 : List Int) =>
 lett (((a1.length : Nat) : Int)) fun (v4 : Int) =>
 Zr4 g0 R (subI .i64 v4 1) a1 v2 v3 fun y20 y21 y22 =>
 k0 y22 y20
def Zv : Z1a := Zjm Z19
def Zbp : StK := ⟨[(1, .sc (.ptr 0 0 0 0 0)), (3, .sc (.ptr 1 0 0 0 0)), (5, .sc (.i .i64))], [(true, [.ints .u64 (some 4)]), (true, [.bytes (some 32)])]⟩
def Zbi : List PShape := [⟨Str, fun r => (.exit 0, ⟨[(3, .c (.sc (.ptr 0 0 0 0 0)))], [(0, ⟨true, [.bytes r 32]⟩)], 1⟩)⟩]
def Z9p (R : Type) (x3 : Int) (x4 : List Int) (x5 : Str) (next : Int → (List Int) → Str → Option R) (k0 : Str → Option R) : Option R :=
 br (ltI x3 32)
 (gd (inB (quoI .i64 x3 8) 4) <|
 lett (x4.getD ((quoI .i64 x3 8).toNat) 0) fun (v6 : Int) =>
 gd (leI 0 (mulI .i64 8 (remI x3 8))) <|
 lett (shrI .u64 v6 (mulI .i64 8 (remI x3 8))) fun (v7 : Int) =>
 gd (inB x3 32) <|
 lett (x5.set x3.toNat (UInt8.ofNat ((cvtI .u8 v7).toNat))) fun (v8 : Str) =>
 next (addI .i64 x3 1) x4 v8)
 (k0 x5)
def Z5y (x3 : Int) (x4 : List Int) (x5 : Str) : Nat := 100000 + (x3.toNat + x4.length + x5.length)
def Z5t : Piece := { T := Zbp, shapes := Zbi, step := fun R x next k => Z9p R (x.1.2.2.1) (x.2.1.1) (x.2.2.1.1) (fun x3 x4 x5 => next (((), (), x3, ()), ((x4, ()), (x5, ()), ()))) (fun z0 => k.1 z0), fuel := fun x => Z5y (x.1.2.2.1) (x.2.1.1) (x.2.2.1.1) }
def Zk2 (R : Type) (x3 : Int) (x4 : List Int) (x5 : Str) (k0 : Str → Option R) : Option R :=
 runP Zbp Zbi (Z5t).step R (Z5y x3 x4 x5) (((), (), x3, ()), ((x4, ()), (x5, ()), ())) (fun r => k0 (r), ())
abbrev Zs := (R : Type) → (List Int) → (Str → Option R) → Option R
def Zem (R : Type) (a1 : List Int) (k0 : Str → Option R) : Option R :=
 lett (List.replicate 32 (0 : UInt8)) fun (v2 : Str) =>
 Zk2 R 0 a1 v2 fun y9 =>
 k0 ((y9.drop 0).take 32)
def Zh : Zs := Zem
abbrev Z96 := (R : Type) → Str → (Str → Int → Option R) → Option R
def Zrq (g0 : Z1d) (g1 : Z1a) (g2 : Zs) (R : Type) (a1 : Str) (k0 : Str → Int → Option R) : Option R :=
 lett (((a1.length : Nat) : Int)) fun (v2 : Int) =>
 br (!(eqI v2 64))
 (k0 ([] : Str) 1)
 (g0 R a1 fun r3 =>
 g1 R r3 fun r4 r5 =>
 g2 R r4 fun r6 =>
 k0 r6 0)
def Z5r : Z96 := Zrq Z14 Zv Zh
def Zip : StK := ⟨[(1, .sc (.s)), (8, .sc (.sl 0 1 none)), (9, .sc (.i .i64)), (10, .sc (.i .u64)), (11, .sc (.i .u64)), (36, .sc (.sl 1 1 none)), (37, .sc (.i .i64)), (38, .sc (.i .i64)), (44, .sc (.sl 2 1 none)), (45, .sc (.i .i64)), (46, .sc (.i .i64))], [(true, [.ints .u64 none]), (true, [.ints .u64 none]), (true, [.ints .u64 none])]⟩
def Zit : List PShape := [⟨Str × Int × Int × Int × Int × (List Int) × (List Int), fun r => (.exit 2, ⟨[(1, .c (.sc (.str r.1))), (8, .c (.sc (.slice 0 1 none none))), (9, .c (.sc (.int .i64 r.2.1))), (11, .c (.sc (.int .u64 r.2.2.1))), (36, .c (.sc (.slice 1 1 none none))), (37, .c (.sc (.int .i64 r.2.2.2.1))), (38, .c (.sc (.int .i64 r.2.2.2.2.1)))], [(0, ⟨true, [.ints .u64 r.2.2.2.2.2.1 r.2.2.2.2.2.1.length]⟩), (1, ⟨true, [.ints .u64 r.2.2.2.2.2.2 r.2.2.2.2.2.2.length]⟩)], 2⟩)⟩]
def Zfj (g0 : Z1d) (g1 : Z28) (g2 : Zq) (g3 : Z1a) (g4 : Zs) (R : Type) (x17 : Str) (x18 x19 x20 x21 x22 x23 x24 : Int) (x25 x26 x27 : List Int) (next : Str → Int → Int → Int → Int → Int → Int → Int → (List Int) → (List Int) → (List Int) → Option R) (k0 : Str → Int → Int → Int → Int → (List Int) → (List Int) → Option R) : Option R :=
 br (ltI x24 x23)
 (gd (inB x24 x27.length) <|
 g1 R x19 (x27.getD x24.toNat 0) fun r28 r29 =>
 g2 R r29 x20 0 fun r30 r31 =>
 gd (inB (addI .i64 x18 x24) x25.length) <|
 lett (x25.getD ((addI .i64 x18 x24).toNat) 0) fun (v32 : Int) =>
 g2 R v32 r30 0 fun r33 r34 =>
 gd (inB (addI .i64 x18 x24) x25.length) <|
 lett (x25.set ((addI .i64 x18 x24).toNat) r33) fun (v35 : List Int) =>
 lett (addI .u64 (addI .u64 r28 r31) r34) fun (v36 : Int) =>
 next x17 x18 x19 v36 x21 x22 x23 (addI .i64 x24 1) v35 x26 x27)
 (k0 x17 x18 x20 x21 x22 x25 x26)
def Z9v (x17 : Str) (x18 x19 x20 x21 x22 x23 x24 : Int) (x25 x26 x27 : List Int) : Nat := 100000 + (x17.length + x18.toNat + x19.toNat + x20.toNat + x21.toNat + x22.toNat + x23.toNat + x24.toNat + x25.length + x26.length + x27.length)
def Zao (g0 : Z1d) (g1 : Z28) (g2 : Zq) (g3 : Z1a) (g4 : Zs) : Piece := { T := Zip, shapes := Zit, step := fun R x next k => Zfj g0 g1 g2 g3 g4 R (x.1.1) (x.1.2.2.1) (x.1.2.2.2.1) (x.1.2.2.2.2.1) (x.1.2.2.2.2.2.2.1) (x.1.2.2.2.2.2.2.2.1) (x.1.2.2.2.2.2.2.2.2.2.1) (x.1.2.2.2.2.2.2.2.2.2.2.1) (x.2.1.1) (x.2.2.1.1) (x.2.2.2.1.1) (fun x17 x18 x19 x20 x21 x22 x23 x24 x25 x26 x27 => next ((x17, (), x18, x19, x20, (), x21, x22, (), x23, x24, ()), ((x25, ()), (x26, ()), (x27, ()), ()))) (fun z0 z1 z2 z3 z4 z5 z6 => k.1 (z0, z1, z2, z3, z4, z5, z6)), fuel := fun x => Z9v (x.1.1) (x.1.2.2.1) (x.1.2.2.2.1) (x.1.2.2.2.2.1) (x.1.2.2.2.2.2.2.1) (x.1.2.2.2.2.2.2.2.1) (x.1.2.2.2.2.2.2.2.2.2.1) (x.1.2.2.2.2.2.2.2.2.2.2.1) (x.2.1.1) (x.2.2.1.1) (x.2.2.2.1.1) }
def Zub (g0 : Z1d) (g1 : Z28) (g2 : Zq) (g3 : Z1a) (g4 : Zs) (R : Type) (x17 : Str) (x18 x19 x20 x21 x22 x23 x24 : Int) (x25 x26 x27 : List Int) (k0 : Str → Int → Int → Int → Int → (List Int) → (List Int) → Option R) : Option R :=
 runP Zip Zit (Zao g0 g1 g2 g3 g4).step R (Z9v x17 x18 x19 x20 x21 x22 x23 x24 x25 x26 x27) ((x17, (), x18, x19, x20, (), x21, x22, (), x23, x24, ()), ((x25, ()), (x26, ()), (x27, ()), ())) (fun r => k0 (r.1) (r.2.1) (r.2.2.1) (r.2.2.2.1) (r.2.2.2.2.1) (r.2.2.2.2.2.1) (r.2.2.2.2.2.2), ())
def Zj4 : StK := ⟨[(1, .sc (.s)), (8, .sc (.sl 0 1 none)), (11, .sc (.i .u64)), (17, .sc (.i .i64)), (36, .sc (.sl 1 1 none)), (37, .sc (.i .i64)), (38, .sc (.i .i64))], [(true, [.ints .u64 none]), (true, [.ints .u64 none])]⟩
def Zj9 : List PShape := [⟨Str × Int × Int × (List Int) × (List Int), fun r => (.exit 4, ⟨[(1, .c (.sc (.str r.1))), (8, .c (.sc (.slice 0 1 none none))), (36, .c (.sc (.slice 1 1 none none))), (37, .c (.sc (.int .i64 r.2.1))), (38, .c (.sc (.int .i64 r.2.2.1)))], [(0, ⟨true, [.ints .u64 r.2.2.2.1 r.2.2.2.1.length]⟩), (1, ⟨true, [.ints .u64 r.2.2.2.2 r.2.2.2.2.length]⟩)], 2⟩)⟩]
def Zf7 (g0 : Z1d) (g1 : Z28) (g2 : Zq) (g3 : Z1a) (g4 : Zs) (R : Type) (x44 : Str) (x45 x46 x47 x48 : Int) (x49 x50 : List Int) (next : Str → Int → Int → Int → Int → (List Int) → (List Int) → Option R) (k0 : Str → Int → Int → (List Int) → (List Int) → Option R) : Option R :=
 lett (((x49.length : Nat) : Int)) fun (v51 : Int) =>
 br (ltI x46 v51)
 (gd (inB x46 x49.length) <|
 g2 R (x49.getD x46.toNat 0) x45 0 fun r52 r53 =>
 gd (inB x46 x49.length) <|
 next x44 r53 (addI .i64 x46 1) x47 x48 (x49.set x46.toNat r52) x50)
 (k0 x44 x47 x48 x49 x50)
def Zag (x44 : Str) (x45 x46 x47 x48 : Int) (x49 x50 : List Int) : Nat := 100000 + (x44.length + x45.toNat + x46.toNat + x47.toNat + x48.toNat + x49.length + x50.length)
def Zaq (g0 : Z1d) (g1 : Z28) (g2 : Zq) (g3 : Z1a) (g4 : Zs) : Piece := { T := Zj4, shapes := Zj9, step := fun R x next k => Zf7 g0 g1 g2 g3 g4 R (x.1.1) (x.1.2.2.1) (x.1.2.2.2.1) (x.1.2.2.2.2.2.1) (x.1.2.2.2.2.2.2.1) (x.2.1.1) (x.2.2.1.1) (fun x44 x45 x46 x47 x48 x49 x50 => next ((x44, (), x45, x46, (), x47, x48, ()), ((x49, ()), (x50, ()), ()))) (fun z0 z1 z2 z3 z4 => k.1 (z0, z1, z2, z3, z4)), fuel := fun x => Zag (x.1.1) (x.1.2.2.1) (x.1.2.2.2.1) (x.1.2.2.2.2.2.1) (x.1.2.2.2.2.2.2.1) (x.2.1.1) (x.2.2.1.1) }
def Zve (g0 : Z1d) (g1 : Z28) (g2 : Zq) (g3 : Z1a) (g4 : Zs) (R : Type) (x44 : Str) (x45 x46 x47 x48 : Int) (x49 x50 : List Int) (k0 : Str → Int → Int → (List Int) → (List Int) → Option R) : Option R :=
 runP Zj4 Zj9 (Zaq g0 g1 g2 g3 g4).step R (Zag x44 x45 x46 x47 x48 x49 x50) ((x44, (), x45, x46, (), x47, x48, ()), ((x49, ()), (x50, ()), ())) (fun r => k0 (r.1) (r.2.1) (r.2.2.1) (r.2.2.2.1) (r.2.2.2.2), ())
def Zin : StK := ⟨[(1, .sc (.s)), (8, .sc (.sl 0 1 none)), (36, .sc (.sl 1 1 none)), (37, .sc (.i .i64)), (38, .sc (.i .i64))], [(true, [.ints .u64 none]), (true, [.ints .u64 none])]⟩
def Ziw : List PShape := [⟨(List Int), fun r => (.exit 0, ⟨[(8, .c (.sc (.slice 0 1 none none)))], [(0, ⟨true, [.ints .u64 r r.length]⟩)], 1⟩)⟩]
def Zf6 (g0 : Z1d) (g1 : Z28) (g2 : Zq) (g3 : Z1a) (g4 : Zs) (R : Type) (x10 : Str) (x11 x12 : Int) (x13 x14 : List Int) (next : Str → Int → Int → (List Int) → (List Int) → Option R) (k0 : (List Int) → Option R) : Option R :=
 br (ltI x12 x11)
 (gd (inB x12 x14.length) <|
 g0 R x10 fun r15 =>
 lett (((r15.length : Nat) : Int)) fun (v16 : Int) =>
 Zub g0 g1 g2 g3 g4 R x10 x12 (x14.getD x12.toNat 0) 0 x11 x12 v16 0 x13 x14 r15 fun y37 y38 y39 y40 y41 y42 y43 =>
 Zve g0 g1 g2 g3 g4 R y37 y39 (addI .i64 y38 4) y40 y41 y42 y43 fun y54 y55 y56 y57 y58 =>
 next y54 y55 (addI .i64 y56 1) y57 y58)
 (k0 x13)
def Zab (x10 : Str) (x11 x12 : Int) (x13 x14 : List Int) : Nat := 100000 + (x10.length + x11.toNat + x12.toNat + x13.length + x14.length)
def Zav (g0 : Z1d) (g1 : Z28) (g2 : Zq) (g3 : Z1a) (g4 : Zs) : Piece := { T := Zin, shapes := Ziw, step := fun R x next k => Zf6 g0 g1 g2 g3 g4 R (x.1.1) (x.1.2.2.2.1) (x.1.2.2.2.2.1) (x.2.1.1) (x.2.2.1.1) (fun x10 x11 x12 x13 x14 => next ((x10, (), (), x11, x12, ()), ((x13, ()), (x14, ()), ()))) (fun z0 => k.1 z0), fuel := fun x => Zab (x.1.1) (x.1.2.2.2.1) (x.1.2.2.2.2.1) (x.2.1.1) (x.2.2.1.1) }
def Zuw (g0 : Z1d) (g1 : Z28) (g2 : Zq) (g3 : Z1a) (g4 : Zs) (R : Type) (x10 : Str) (x11 x12 : Int) (x13 x14 : List Int) (k0 : (List Int) → Option R) : Option R :=
 runP Zin Ziw (Zav g0 g1 g2 g3 g4).step R (Zab x10 x11 x12 x13 x14) ((x10, (), (), x11, x12, ()), ((x13, ()), (x14, ()), ())) (fun r => k0 (r), ())
abbrev Zi5 := (R : Type) → Str → Str → Str → (Str → Int → Option R) → Option R
def Znv (g0 : Z1d) (g1 : Z28) (g2 : Zq) (g3 : Z1a) (g4 : Zs) (R : Type) (a1 a2 a3 : Str) (k0 : Str → Int → Option R) : Option R :=
 lett (((a1.length : Nat) : Int)) fun (v4 : Int) =>
 br (!(eqI v4 32))
 (k0 ([] : Str) 1)
 (lett (((a2.length : Nat) : Int)) fun (v5 : Int) =>
 br (!(eqI v5 32))
 (k0 ([] : Str) 1)
 (lett (((a3.length : Nat) : Int)) fun (v6 : Int) =>
 br (!(eqI v6 32))
 (k0 ([] : Str) 1)
 (g0 R a3 fun r7 =>
 gd (appB r7.length 4 8) <|
 g0 R a1 fun r8 =>
 lett (((r8.length : Nat) : Int)) fun (v9 : Int) =>
 Zuw g0 g1 g2 g3 g4 R a2 v9 0 (r7 ++ [0, 0, 0, 0]) r8 fun y59 =>
 g3 R y59 fun r60 r61 =>
 g4 R r60 fun r62 =>
 k0 r62 0)))
def Zei : Zi5 := Znv Z14 Z1i Zg Zv Zh
end
end Go.Ev
