/- Texts CertRow, CertArg, Nums, Plib, Pder, Lder, EvRt, EvUs, Ulib, Hb, Hder, Hder2, Hder3 of this proof; printed names are shortened. -/
import Derived.Test.YtlomoioolngohaaGreatDoorRows
import Derived.Test.YtlomoioolngohaaGreatDoorP2
import Derived.Lib.LaidU8
import Derived.Lay
import Derived.ProofKit
import Derived.OpenShut
import Derived.LaidByTextLater
import Derived.LaidOnce
import Derived.SevenTiedAt
import Derived.KernelRfl
import Derived.Test.YtlomoioolngohaaGreatDoorCards
import Derived.Test.YtlomoioolngohaaGreatDoorTie
import Derived.ChangeMaps5
import Derived.Deep.Modes
set_option linter.unusedVariables false
set_option linter.unusedSimpArgs false
set_option maxRecDepth 100000
set_option maxHeartbeats 2000000
namespace Go.Ev
open Go.RowKit Go.Proofs
def laid7 : List (String × DataW Unit) := Go.Proofs.YtlomoioolngohaaGreatDoor.Rows.certTimesRow.laid
theorem amb_of_laid {W : World} (h : laidMetH Tryz.prog laid7 W) : Amb.ok (fun _ => False) W := by
  rw [MakeChecks.laidMetH_plain _ _ _ (by kernel_rfl)] at h
  have size : ∀ {n : String} {d : DataW Unit} {g : Nat}, (n, d) ∈ laid7 → Tryz.prog.globalNamed n = some g → g < W.heap.size := by
    intro n d g hm hg
    obtain ⟨g', t, cs, fuel, p, h1, h2, h3, h4⟩ := Lib.laidMet.reads h hm
    obtain rfl := Option.some.inj (hg.symm.trans h1)
    unfold World.var? at h3
    rw [h1] at h3
    simp only [Option.bind_some] at h3
    cases hb : W.heap[g]? with
    | none => rw [hb] at h3; cases h3
    | some o => exact (Array.getElem?_eq_some_iff.1 hb).1
  have h7 : 7 < W.heap.size := size (n := "math/bits.deBruijn64tab") (d := Go.Proofs.YtlomoioolngohaaGreatDoor.Rows.laid_math_bits_deBruijn64tab) (.tail _ (.head _)) (by kernel_rfl)
  refine ⟨fun _ _ h => h, h7, ?_⟩
  obtain ⟨g, t, cs, fuel, p, h1, h2, h3, h4⟩ := Lib.laidMet.reads (n := "internal/strconv.uint64pow10") (d := Go.Proofs.YtlomoioolngohaaGreatDoor.Rows.laid_internal_strconv_uint64pow10) h (.tail _ (.tail _ (.head _)))
  obtain rfl := Option.some.inj (Z1bn.symm.trans h1)
  have hd : (Go.Proofs.YtlomoioolngohaaGreatDoor.Rows.laid_internal_strconv_uint64pow10 : DataW Unit) = Lib.tabData .u64 Lib.pow10Tab := rfl
  rw [hd] at h4
  have ht : (Tryz.prog.globals[0]?).map (·.type) = some 247 := by kernel_rfl
  obtain rfl := Option.some.inj (ht.symm.trans h2)
  unfold Lib.TabIs
  rw [h3, ← Lib.cells_of_tab (n := 20) (e := 73) (by kernel_rfl) (by kernel_rfl) (by kernel_rfl) (by kernel_rfl) h4]
def isTrue : AVal → Eff → Nat → Option Unit := fun v _ _ => match v with
  | .c (.sc (.bool true)) => some ()
  | _ => none
theorem isTrue_spec {v : AVal} {E : Eff} {n : Nat} (h : isTrue v E n = some ()) : v = .s (.bool true) := by
  unfold isTrue at h
  split at h
  · rfl
  · cases h
theorem law_calls {P : Program} {g : FuncId} {c : Con} (hc : ConOK P g c) {args : List AVal} {xs : List Value} {w : World} (hx : All2 (vrel fun _ => none) args xs) (hA : Amb.ok (fun _ => False) w)
    (h : conG c Unit args (fun _ => none) 0 isTrue = some ()) : Calls P g xs.toArray w fun e w' => e = .returned (.bool true) ∧ Below w.heap.size w w' := by
  obtain ⟨_, hcall⟩ := hc Unit args (fun _ => none) 0 isTrue () h
  have hs : HSim (fun _ => none) (fun _ => False) 0 (fun _ => none) w :=
    ⟨fun _ _ => ⟨rfl, rfl⟩, (fun _ _ h => by cases h), (fun _ _ _ _ _ _ _ _ h => by cases h), (fun _ h => h.elim)⟩
  refine (hcall _ _ w xs hx hs hA).mono ?_
  rintro e w' ⟨v, E, cnt, x, ι', I', k1, rfl, k2, k3, k4, k5⟩
  rw [isTrue_spec k1] at k2
  have : x = .bool true := k2
  subst this
  exact ⟨rfl, k5.os, k5.tape, k5.output, k5.size, fun k hk => k5.same k hk (fun h => h)⟩
open Go.RowKit Go.Proofs Go.WideShapes Go.ChangeShapes Go.ChangeMaps
theorem strRel (ι : Map) (s : ByteArray) (hs : s.size ≤ maxLen) : srel ι (.str s.data.toList) (.string s) := by
  refine ⟨by simp, ?_⟩
  have e : s.data.toList.length = s.size := Array.length_toList
  have : maxLen ≤ maxL := by decide
  omega
theorem open_cert {H : Type} {enc : TypeId × Value → H} {W : World} {sp : Nat → Bool} {held : Bool} {r : Reach} {b0 : Nat} {v : Value} {d : DataW H} {ps : List MemPlace}
    (hval : Value.okWide Tryz.prog W r b0 29 v) (hd : DataW.Trod enc Tryz.prog W 0 sp held 29 v d ps) :
    ∃ (n : Int) (name : ByteArray) (f t : Int) (key : ByteArray), fits .i64 n ∧ v = .agg #[.int .i64 n, .string name, .int .i64 f, .int .i64 t, .string key] ∧ ps = [] ∧
      vrel (fun _ => none) (.c (.agg [.one (.int .i64 n), .one (.str name.data.toList), .one (.int .i64 f), .one (.int .i64 t), .one (.str key.data.toList)])) v := by
  obtain ⟨cs, rfl, hsz⟩ := okWide_struct Tryz.underlying29 hval
  obtain ⟨fuel, hf⟩ := hd
  obtain ⟨xs, n, _, hx, hl, hlen, hfs⟩ := DataW.trod_struct Tryz.underlying29 hf
  have hc : Tryz.prog.cellsOf 29 = 5 := by kernel_rfl
  have c3 : Tryz.prog.cellsOf 3 = 1 := by kernel_rfl
  have c9 : Tryz.prog.cellsOf 9 = 1 := by kernel_rfl
  rw [hc] at hsz
  obtain ⟨l⟩ := cs
  match l, hsz with
  | [v0, v1, v2, v3, v4], _ =>
    match xs, hlen with
    | [y0, y1, y2, y3, y4], _ =>
      have g0 : DataW.trod enc Tryz.prog W 0 sp held n 3 [v0] = some y0 := by have h : DataW.trod enc Tryz.prog W 0 sp held n 3 (([v0, v1, v2, v3, v4].drop 0).take (Tryz.prog.cellsOf 3)) = some y0 := hfs 0 _ rfl; rw [c3] at h; exact h
      have g1 : DataW.trod enc Tryz.prog W 0 sp held n 9 [v1] = some y1 := by have h : DataW.trod enc Tryz.prog W 0 sp held n 9 (([v0, v1, v2, v3, v4].drop 1).take (Tryz.prog.cellsOf 9)) = some y1 := hfs 1 _ rfl; rw [c9] at h; exact h
      have g2 : DataW.trod enc Tryz.prog W 0 sp held n 3 [v2] = some y2 := by have h : DataW.trod enc Tryz.prog W 0 sp held n 3 (([v0, v1, v2, v3, v4].drop 2).take (Tryz.prog.cellsOf 3)) = some y2 := hfs 2 _ rfl; rw [c3] at h; exact h
      have g3 : DataW.trod enc Tryz.prog W 0 sp held n 3 [v3] = some y3 := by have h : DataW.trod enc Tryz.prog W 0 sp held n 3 (([v0, v1, v2, v3, v4].drop 3).take (Tryz.prog.cellsOf 3)) = some y3 := hfs 3 _ rfl; rw [c3] at h; exact h
      have g4 : DataW.trod enc Tryz.prog W 0 sp held n 9 [v4] = some y4 := by have h : DataW.trod enc Tryz.prog W 0 sp held n 9 (([v0, v1, v2, v3, v4].drop 4).take (Tryz.prog.cellsOf 9)) = some y4 := hfs 4 _ rfl; rw [c9] at h; exact h
      obtain ⟨a0, e0, z0, w0⟩ := DataW.trod_int Tryz.underlying3 g0
      obtain ⟨a1, e1, z1, w1⟩ := DataW.trod_string Tryz.underlying9 g1
      obtain ⟨a2, e2, z2, w2⟩ := DataW.trod_int Tryz.underlying3 g2
      obtain ⟨a3, e3, z3, w3⟩ := DataW.trod_int Tryz.underlying3 g3
      obtain ⟨a4, e4, z4, w4⟩ := DataW.trod_string Tryz.underlying9 g4
      obtain rfl := (List.cons.inj e0).1
      obtain rfl := (List.cons.inj e1).1
      obtain rfl := (List.cons.inj e2).1
      obtain rfl := (List.cons.inj e3).1
      obtain rfl := (List.cons.inj e4).1
      subst z0; subst z1; subst z2; subst z3; subst z4
      simp only [Prod.mk.injEq] at hx
      have F : ∀ a : Int, (Lit.int .i64 a).wf = true → fits .i64 a := fun a h => by simpa [Lit.wf, fits] using h
      refine ⟨a0, a1, a2, a3, a4, F a0 w0, rfl, by rw [hx.2]; rfl, ?_, _, rfl, ?_⟩
      · intro s hs
        simp only [List.mem_cons, List.not_mem_nil, or_false] at hs
        rcases hs with rfl | rfl | rfl | rfl | rfl <;> trivial
      · exact .cons ⟨⟨rfl, F _ w0⟩, rfl, rfl⟩ (.cons ⟨strRel _ a1 w1, rfl, rfl⟩ (.cons ⟨⟨rfl, F _ w2⟩, rfl, rfl⟩ (.cons ⟨⟨rfl, F _ w3⟩, rfl, rfl⟩ (.cons ⟨strRel _ a4 w4, rfl, rfl⟩ .nil))))
theorem cert_again {H : Type} {enc : TypeId × Value → H} {W W' : World} {sp sp' : Nat → Bool} {held held' : Bool} {v : Value} {d : DataW H} (hd : DataW.Trod enc Tryz.prog W 0 sp held 29 v d []) : DataW.Trod enc Tryz.prog W' 0 sp' held' 29 v d [] :=
  Trod_any (by kernel_rfl) (by kernel_rfl) (of_decide_eq_true (by kernel_rfl)) (by kernel_rfl) (by kernel_rfl) hd (fun _ h => by cases h)
abbrev Zru : Nat := 110
abbrev Zd : Nat := 160
abbrev Zf : Nat := 206
noncomputable section
abbrev Zwt := (R : Type) → Int → (Str → Option R) → Option R
def Zwy (R : Type) (a0 : Int) (k0 : Str → Option R) : Option R :=
 gd (true) (k0 (Lib.itoa a0))
abbrev Zqo := (R : Type) → Str → Int → (Str → Option R) → Option R
def Zrl (R : Type) (a0 : Str) (a1 : Int) (k0 : Str → Option R) : Option R :=
 gd (repB a0 a1) (k0 (Lib.repeatL a0 (a1).toNat))
abbrev Zeh := (R : Type) → Str → Int → (Int → Option R) → Option R
def Zei (R : Type) (a0 : Str) (a1 : Int) (k0 : Int → Option R) : Option R :=
 gd (true) (k0 (Lib.indexByte a0 (UInt8.ofNat (a1).toNat)))
abbrev Za1 := (R : Type) → Str → (Int → Option R) → Option R
def Zdo (g0 : Zeh) (R : Type) (a1 : Str) (k0 : Int → Option R) : Option R :=
 br (eqS [0] a1)
 (k0 0)
 (g0 R a1 0 fun r2 =>
 k0 r2)
def Z6h : Za1 := Zdo Zei
abbrev Zbw := (R : Type) → Str → (Str → Str → Bool → Option R) → Option R
def Zar (g0 : Za1) (R : Type) (a1 : Str) (k0 : Str → Str → Bool → Option R) : Option R :=
 g0 R a1 fun r2 =>
 br (leI 0 r2)
 (gd (leB r2 a1.length) <|
 gd (leB (addI .i64 r2 1) a1.length) <|
 lett (a1.drop ((addI .i64 r2 1).toNat)) fun (v3 : Str) =>
 k0 (a1.take r2.toNat) v3 true)
 (k0 a1 ([] : Str) false)
def Z88 : Zbw := Zar Z6h
abbrev Zi9 := (R : Type) → Str → (Str → Str → Bool → Option R) → Option R
def Zgt (g0 : Zbw) (R : Type) (a1 : Str) (k0 : Str → Str → Bool → Option R) : Option R :=
 g0 R a1 fun r2 r3 r4 =>
 k0 r2 r3 r4
def Zah : Zi9 := Zgt Z88
def Zk1 : StK := ⟨[(0, .sc (.s)), (1, .sc (.i .u8))], []⟩
def Zjx : List PShape := [⟨Str, fun r => (.exit 0, ⟨[(0, .c (.sc (.str r)))], [], 0⟩)⟩]
def Ztw (R : Type) (x3 : Str) (x4 : Int) (next : Str → Int → Option R) (k0 : Str → Option R) : Option R :=
 lett (((x3.length : Nat) : Int)) fun (v5 : Int) =>
 br (ltI 0 v5)
 (lett (((x3.length : Nat) : Int)) fun (v6 : Int) =>
 gd (inB (subI .i64 v6 1) x3.length) <|
 lett (((x3.getD ((subI .i64 v6 1).toNat) 0).toNat : Int)) fun (v7 : Int) =>
 br (eqI v7 x4)
 (lett (((x3.length : Nat) : Int)) fun (v8 : Int) =>
 gd (leB (subI .i64 v8 1) x3.length) <|
 lett (x3.take ((subI .i64 v8 1).toNat)) fun (v9 : Str) =>
 next v9 x4)
 (k0 x3))
 (k0 x3)
def Zh0 (x3 : Str) (x4 : Int) : Nat := 100000 + (x3.length + x4.toNat)
def Z8x : Piece := { T := Zk1, shapes := Zjx, step := fun R x next k => Ztw R (x.1.1) (x.1.2.1) (fun x3 x4 => next ((x3, x4, ()), (()))) (fun z0 => k.1 z0), fuel := fun x => Zh0 (x.1.1) (x.1.2.1) }
def Zyn (R : Type) (x3 : Str) (x4 : Int) (k0 : Str → Option R) : Option R :=
 runP Zk1 Zjx (Z8x).step R (Zh0 x3 x4) ((x3, x4, ()), (())) (fun r => k0 (r), ())
abbrev Zas := (R : Type) → Str → Int → (Str → Option R) → Option R
def Zm0 (R : Type) (a1 : Str) (a2 : Int) (k0 : Str → Option R) : Option R :=
 Zyn R a1 a2 fun y10 =>
 k0 y10
def Zfh : Zas := Zm0
def Zlf : StK := ⟨[(0, .sc (.s)), (1, .sc (.i .u8))], []⟩
def Zl9 : List PShape := [⟨Str, fun r => (.exit 0, ⟨[(0, .c (.sc (.str r)))], [], 0⟩)⟩]
def Zv0 (R : Type) (x3 : Str) (x4 : Int) (next : Str → Int → Option R) (k0 : Str → Option R) : Option R :=
 lett (((x3.length : Nat) : Int)) fun (v5 : Int) =>
 br (ltI 0 v5)
 (gd (inB 0 x3.length) <|
 lett (((x3.getD 0 0).toNat : Int)) fun (v6 : Int) =>
 br (eqI v6 x4)
 (gd (leB 1 x3.length) <|
 next (x3.drop 1) x4)
 (k0 x3))
 (k0 x3)
def Zhr (x3 : Str) (x4 : Int) : Nat := 100000 + (x3.length + x4.toNat)
def Za2 : Piece := { T := Zlf, shapes := Zl9, step := fun R x next k => Zv0 R (x.1.1) (x.1.2.1) (fun x3 x4 => next ((x3, x4, ()), (()))) (fun z0 => k.1 z0), fuel := fun x => Zhr (x.1.1) (x.1.2.1) }
def Zzx (R : Type) (x3 : Str) (x4 : Int) (k0 : Str → Option R) : Option R :=
 runP Zlf Zl9 (Za2).step R (Zhr x3 x4) ((x3, x4, ()), (())) (fun r => k0 (r), ())
abbrev Zbr := (R : Type) → Str → Int → (Str → Option R) → Option R
def Znc (R : Type) (a1 : Str) (a2 : Int) (k0 : Str → Option R) : Option R :=
 Zzx R a1 a2 fun y7 =>
 k0 y7
def Zhh : Zbr := Znc
def Zk8 : StK := ⟨[(0, .sc (.s)), (2, .sc (.ptr 0 0 0 0 0)), (4, .sc (.i .i64))], [(true, [.recs [.bool] (some 256)])]⟩
def Zkk : List PShape := [⟨Bool × (List (Tup [.bool])), fun r => (.ret, ⟨[(2, .c (.sc (.ptr 0 0 0 0 0))), (3, .c (.sc (.bool r.1)))], [(0, ⟨true, [.recs [.bool] r.2 256]⟩)], 1⟩)⟩, ⟨(List (Tup [.bool])), fun r => (.exit 0, ⟨[(2, .c (.sc (.ptr 0 0 0 0 0)))], [(0, ⟨true, [.recs [.bool] r 256]⟩)], 1⟩)⟩]
def Zur (R : Type) (x3 : Str) (x4 : Int) (x5 : List (Tup [.bool])) (next : Str → Int → (List (Tup [.bool])) → Option R) (k0 : Bool → (List (Tup [.bool])) → Option R) (k1 : (List (Tup [.bool])) → Option R) : Option R :=
 lett (((x3.length : Nat) : Int)) fun (v6 : Int) =>
 br (ltI x4 v6)
 (gd (inB x4 x3.length) <|
 lett (((x3.getD x4.toNat 0).toNat : Int)) fun (v7 : Int) =>
 br (leI 128 v7)
 (k0 false x5)
 (gd (inB v7 256) <|
 lett (x5.set v7.toNat (true, ())) fun (v8 : List (Tup [.bool])) =>
 next x3 (addI .i64 x4 1) v8))
 (k1 x5)
def Zhq (x3 : Str) (x4 : Int) (x5 : List (Tup [.bool])) : Nat := 100000 + (x3.length + x4.toNat + x5.length)
def Za0 : Piece := { T := Zk8, shapes := Zkk, step := fun R x next k => Zur R (x.1.1) (x.1.2.2.1) (x.2.1.1) (fun x3 x4 x5 => next ((x3, (), x4, ()), ((x5, ()), ()))) (fun z0 z1 => k.1 (z0, z1)) (fun z0 => k.2.1 z0), fuel := fun x => Zhq (x.1.1) (x.1.2.2.1) (x.2.1.1) }
def Z108 (R : Type) (x3 : Str) (x4 : Int) (x5 : List (Tup [.bool])) (k0 : Bool → (List (Tup [.bool])) → Option R) (k1 : (List (Tup [.bool])) → Option R) : Option R :=
 runP Zk8 Zkk (Za0).step R (Zhq x3 x4 x5) ((x3, (), x4, ()), ((x5, ()), ())) (fun r => k0 (r.1) (r.2), fun r => k1 (r), ())
abbrev Zbq := (R : Type) → Str → ((List (Tup [.bool])) → Bool → Option R) → Option R
def Znb (R : Type) (a1 : Str) (k0 : (List (Tup [.bool])) → Bool → Option R) : Option R :=
 lett (List.replicate 256 (tupD [.bool])) fun (v2 : List (Tup [.bool])) =>
 Z108 R a1 0 v2
 (fun y9 y10 =>
 k0 y10 y9)
 (fun y11 =>
 k0 y11 true)
def Zbu : Zbq := Znb
abbrev Zl := (R : Type) → Int → (List (Tup [.bool])) → (Bool → (List (Tup [.bool])) → Option R) → Option R
def Z8r (R : Type) (a1 : Int) (a2 : List (Tup [.bool])) (k0 : Bool → (List (Tup [.bool])) → Option R) : Option R :=
 gd (inB a1 256) <|
 lett ((a2.getD a1.toNat (tupD [.bool])).1) fun (v3 : Bool) =>
 k0 v3 a2
def Ze : Zl := Z8r
def Z96 : StK := ⟨[(0, .sc (.s)), (1, .sc (.ptr 0 0 0 0 0))], [(true, [.recs [.bool] (some 256)])]⟩
def Z8w : List PShape := [⟨Str × (List (Tup [.bool])), fun r => (.exit 0, ⟨[(0, .c (.sc (.str r.1)))], [(0, ⟨true, [.recs [.bool] r.2 256]⟩)], 1⟩)⟩]
def Z74 (g0 : Zl) (R : Type) (x3 : Str) (x4 : List (Tup [.bool])) (next : Str → (List (Tup [.bool])) → Option R) (k0 : Str → (List (Tup [.bool])) → Option R) : Option R :=
 lett (((x3.length : Nat) : Int)) fun (v5 : Int) =>
 br (ltI 0 v5)
 (lett (((x3.length : Nat) : Int)) fun (v6 : Int) =>
 gd (inB (subI .i64 v6 1) x3.length) <|
 lett (((x3.getD ((subI .i64 v6 1).toNat) 0).toNat : Int)) fun (v7 : Int) =>
 g0 R v7 x4 fun r8 r9 =>
 br (!r8)
 (k0 x3 x4)
 (lett (((x3.length : Nat) : Int)) fun (v10 : Int) =>
 gd (leB (subI .i64 v10 1) x3.length) <|
 lett (x3.take ((subI .i64 v10 1).toNat)) fun (v11 : Str) =>
 next v11 x4))
 (k0 x3 x4)
def Z2v (x3 : Str) (x4 : List (Tup [.bool])) : Nat := 100000 + (x3.length + x4.length)
def Z3m (g0 : Zl) : Piece := { T := Z96, shapes := Z8w, step := fun R x next k => Z74 g0 R (x.1.1) (x.2.1.1) (fun x3 x4 => next ((x3, (), ()), ((x4, ()), ()))) (fun z0 z1 => k.1 (z0, z1)), fuel := fun x => Z2v (x.1.1) (x.2.1.1) }
def Zg8 (g0 : Zl) (R : Type) (x3 : Str) (x4 : List (Tup [.bool])) (k0 : Str → (List (Tup [.bool])) → Option R) : Option R :=
 runP Z96 Z8w (Z3m g0).step R (Z2v x3 x4) ((x3, (), ()), ((x4, ()), ())) (fun r => k0 (r.1) (r.2), ())
abbrev Z6u := (R : Type) → Str → (List (Tup [.bool])) → (Str → (List (Tup [.bool])) → Option R) → Option R
def Zai (g0 : Zl) (R : Type) (a1 : Str) (a2 : List (Tup [.bool])) (k0 : Str → (List (Tup [.bool])) → Option R) : Option R :=
 Zg8 g0 R a1 a2 fun y12 y13 =>
 k0 y12 y13
def Z6x : Z6u := Zai Ze
def Z9w : StK := ⟨[(0, .sc (.s)), (1, .sc (.ptr 0 0 0 0 0))], [(true, [.recs [.bool] (some 256)])]⟩
def Z9x : List PShape := [⟨Str × (List (Tup [.bool])), fun r => (.exit 0, ⟨[(0, .c (.sc (.str r.1)))], [(0, ⟨true, [.recs [.bool] r.2 256]⟩)], 1⟩)⟩]
def Z7u (g0 : Zl) (R : Type) (x3 : Str) (x4 : List (Tup [.bool])) (next : Str → (List (Tup [.bool])) → Option R) (k0 : Str → (List (Tup [.bool])) → Option R) : Option R :=
 lett (((x3.length : Nat) : Int)) fun (v5 : Int) =>
 br (ltI 0 v5)
 (gd (inB 0 x3.length) <|
 lett (((x3.getD 0 0).toNat : Int)) fun (v6 : Int) =>
 g0 R v6 x4 fun r7 r8 =>
 br (!r7)
 (k0 x3 x4)
 (gd (leB 1 x3.length) <|
 next (x3.drop 1) x4))
 (k0 x3 x4)
def Z34 (x3 : Str) (x4 : List (Tup [.bool])) : Nat := 100000 + (x3.length + x4.length)
def Z3z (g0 : Zl) : Piece := { T := Z9w, shapes := Z9x, step := fun R x next k => Z7u g0 R (x.1.1) (x.2.1.1) (fun x3 x4 => next ((x3, (), ()), ((x4, ()), ()))) (fun z0 z1 => k.1 (z0, z1)), fuel := fun x => Z34 (x.1.1) (x.2.1.1) }
def Zgx (g0 : Zl) (R : Type) (x3 : Str) (x4 : List (Tup [.bool])) (k0 : Str → (List (Tup [.bool])) → Option R) : Option R :=
 runP Z9w Z9x (Z3z g0).step R (Z34 x3 x4) ((x3, (), ()), ((x4, ()), ())) (fun r => k0 (r.1) (r.2), ())
abbrev Z7e := (R : Type) → Str → (List (Tup [.bool])) → (Str → (List (Tup [.bool])) → Option R) → Option R
def Zbf (g0 : Zl) (R : Type) (a1 : Str) (a2 : List (Tup [.bool])) (k0 : Str → (List (Tup [.bool])) → Option R) : Option R :=
 Zgx g0 R a1 a2 fun y9 y10 =>
 k0 y9 y10
def Z7d : Z7e := Zbf Ze
abbrev Z3w := (R : Type) → Str → Str → (Str → Option R) → Option R
def Zth (g0 : Zas) (g1 : Zbr) (g2 : Zbq) (g3 : Z6u) (g4 : Z7e) (R : Type) (a1 a2 : Str) (k0 : Str → Option R) : Option R :=
 br (eqS a1 [])
 (k0 a1)
 (br (eqS a2 [])
 (k0 a1)
 (lett (((a2.length : Nat) : Int)) fun (v3 : Int) =>
 br (eqI v3 1)
 (gd (inB 0 a2.length) <|
 lett (((a2.getD 0 0).toNat : Int)) fun (v4 : Int) =>
 br (ltI v4 128)
 (gd (inB 0 a2.length) <|
 lett (((a2.getD 0 0).toNat : Int)) fun (v5 : Int) =>
 gd (inB 0 a2.length) <|
 lett (((a2.getD 0 0).toNat : Int)) fun (v6 : Int) =>
 g0 R a1 v5 fun r7 =>
 g1 R r7 v6 fun r8 =>
 k0 r8)
 (g2 R a2 fun r9 r10 =>
 lett (List.replicate 256 (tupD [.bool])) fun (v11 : List (Tup [.bool])) =>
 br (r10)
 (g3 R a1 r9 fun r12 r13 =>
 g4 R r12 r13 fun r14 r15 =>
 k0 r14)
 (none)))
 (g2 R a2 fun r16 r17 =>
 lett (List.replicate 256 (tupD [.bool])) fun (v18 : List (Tup [.bool])) =>
 br (r17)
 (g3 R a1 r16 fun r19 r20 =>
 g4 R r19 r20 fun r21 r22 =>
 k0 r21)
 (none))))
def Z33 : Z3w := Zth Zfh Zhh Zbu Z6x Z7d
abbrev Z4s := (R : Type) → Str → (Int → Option R) → Option R
def Z32 (R : Type) (a0 : Str) (k0 : Int → Option R) : Option R :=
 gd (atoiB a0) (k0 (atoiV a0))
def Zis : StK := ⟨[(0, .sc (.sl 0 1 none)), (7, .sc (.b))], [(true, [.ints .i64 none])]⟩
def Ziv : List PShape := [⟨(List Int), fun r => (.normal, ⟨[(0, .c (.sc (.slice 0 1 none none)))], [(0, ⟨true, [.ints .i64 r r.length]⟩)], 1⟩)⟩]
def Zsh (R : Type) (x3 : Bool) (x4 : List Int) (k0 : (List Int) → Option R) : Option R :=
 br (x3)
 (none)
 (k0 x4)
def Zg5 (x3 : Bool) (x4 : List Int) : Nat := 1
def Z8n : Piece := { T := Zis, shapes := Ziv, step := fun R x next k => Zsh R (x.1.2.1) (x.2.1.1) (fun z0 => k.1 z0), fuel := fun x => Zg5 (x.1.2.1) (x.2.1.1) }
def Zxi (R : Type) (x3 : Bool) (x4 : List Int) (k0 : (List Int) → Option R) : Option R :=
 runP Zis Ziv (Z8n).step R (Zg5 x3 x4) (((), x3, ()), ((x4, ()), ())) (fun r => k0 (r), ())
def Ziq : StK := ⟨[(0, .sc (.sl 0 1 none)), (3, .sc (.i .i64)), (4, .sc (.i .i64))], [(true, [.ints .i64 none])]⟩
def Zim : List PShape := [⟨Int × (List Int), fun r => (.exit 0, ⟨[(3, .c (.sc (.int .i64 r.1)))], [(0, ⟨true, [.ints .i64 r.2 r.2.length]⟩)], 1⟩)⟩]
def Zsd (R : Type) (x6 x7 : Int) (x8 : List Int) (next : Int → Int → (List Int) → Option R) (k0 : Int → (List Int) → Option R) : Option R :=
 lett (((x8.length : Nat) : Int)) fun (v9 : Int) =>
 br (ltI x7 v9)
 (gd (inB x7 x8.length) <|
 lett (mnI x6 (x8.getD x7.toNat 0)) fun (v10 : Int) =>
 next v10 (addI .i64 x7 1) x8)
 (k0 x6 x8)
def Zg6 (x6 x7 : Int) (x8 : List Int) : Nat := 100000 + (x6.toNat + x7.toNat + x8.length)
def Z8j : Piece := { T := Ziq, shapes := Zim, step := fun R x next k => Zsd R (x.1.2.1) (x.1.2.2.1) (x.2.1.1) (fun x6 x7 x8 => next (((), x6, x7, ()), ((x8, ()), ()))) (fun z0 z1 => k.1 (z0, z1)), fuel := fun x => Zg6 (x.1.2.1) (x.1.2.2.1) (x.2.1.1) }
def Zxr (R : Type) (x6 x7 : Int) (x8 : List Int) (k0 : Int → (List Int) → Option R) : Option R :=
 runP Ziq Zim (Z8j).step R (Zg6 x6 x7 x8) (((), x6, x7, ()), ((x8, ()), ())) (fun r => k0 (r.1) (r.2), ())
abbrev Z2j := (R : Type) → (List Int) → (Int → (List Int) → Option R) → Option R
def Zk6 (R : Type) (a1 : List Int) (k0 : Int → (List Int) → Option R) : Option R :=
 lett (((a1.length : Nat) : Int)) fun (v2 : Int) =>
 Zxi R (ltI v2 1) a1 fun y5 =>
 gd (inB 0 y5.length) <|
 Zxr R (y5.getD 0 0) 1 y5 fun y11 y12 =>
 k0 y11 y12
def Z6j : Z2j := Zk6
def Zin : StK := ⟨[(0, .sc (.slr 0 1 none)), (7, .sc (.b))], [(true, [.ints .i64 none])]⟩
def Zix : List PShape := [⟨Nat × Nat × (List Int), fun r => (.normal, ⟨[(0, .c (.sc (.slice 0 1 (some (r.1, r.2.1)) none)))], [(0, ⟨true, [.ints .i64 r.2.2 r.2.2.length]⟩)], 1⟩)⟩]
def Zs3 (R : Type) (x4 x5 : Nat) (x6 : Bool) (x7 : List Int) (k0 : Nat → Nat → (List Int) → Option R) : Option R :=
 br (x6)
 (none)
 (k0 x4 x5 x7)
def Zg7 (x4 x5 : Nat) (x6 : Bool) (x7 : List Int) : Nat := 1
def Z8b : Piece := { T := Zin, shapes := Zix, step := fun R x next k => Zs3 R (x.1.1.1) (x.1.1.2) (x.1.2.1) (x.2.1.1) (fun z0 z1 z2 => k.1 (z0, z1, z2)), fuel := fun x => Zg7 (x.1.1.1) (x.1.1.2) (x.1.2.1) (x.2.1.1) }
def Zxy (R : Type) (x4 x5 : Nat) (x6 : Bool) (x7 : List Int) (k0 : Nat → Nat → (List Int) → Option R) : Option R :=
 runP Zin Zix (Z8b).step R (Zg7 x4 x5 x6 x7) (((x4, x5), x6, ()), ((x7, ()), ())) (fun r => k0 (r.1) (r.2.1) (r.2.2), ())
def Zit : StK := ⟨[(0, .sc (.slr 0 1 none)), (3, .sc (.i .i64)), (4, .sc (.i .i64))], [(true, [.ints .i64 none])]⟩
def Ziy : List PShape := [⟨Int × (List Int), fun r => (.exit 0, ⟨[(3, .c (.sc (.int .i64 r.1)))], [(0, ⟨true, [.ints .i64 r.2 r.2.length]⟩)], 1⟩)⟩]
def Zrz (R : Type) (x11 x12 : Nat) (x13 x14 : Int) (x15 : List Int) (next : Nat → Nat → Int → Int → (List Int) → Option R) (k0 : Int → (List Int) → Option R) : Option R :=
 lett (ltI x14 ((x12 : Nat) : Int)) fun (v16 : Bool) =>
 br (v16)
 (gd (inB x14 x12) <|
 lett (x15.getD (x11 + x14.toNat) 0) fun (v17 : Int) =>
 next x11 x12 (mxI x13 v17) (addI .i64 x14 1) x15)
 (k0 x13 x15)
def Zg9 (x11 x12 : Nat) (x13 x14 : Int) (x15 : List Int) : Nat := 100000 + (x11 + x12 + x13.toNat + x14.toNat + x15.length)
def Z8q : Piece := { T := Zit, shapes := Ziy, step := fun R x next k => Zrz R (x.1.1.1) (x.1.1.2) (x.1.2.1) (x.1.2.2.1) (x.2.1.1) (fun x11 x12 x13 x14 x15 => next (((x11, x12), x13, x14, ()), ((x15, ()), ()))) (fun z0 z1 => k.1 (z0, z1)), fuel := fun x => Zg9 (x.1.1.1) (x.1.1.2) (x.1.2.1) (x.1.2.2.1) (x.2.1.1) }
def Zxe (R : Type) (x11 x12 : Nat) (x13 x14 : Int) (x15 : List Int) (k0 : Int → (List Int) → Option R) : Option R :=
 runP Zit Ziy (Z8q).step R (Zg9 x11 x12 x13 x14 x15) (((x11, x12), x13, x14, ()), ((x15, ()), ())) (fun r => k0 (r.1) (r.2), ())
abbrev Z2k := (R : Type) → Nat → Nat → (List Int) → (Int → (List Int) → Option R) → Option R
def Zkc (R : Type) (a1 a2 : Nat) (a3 : List Int) (k0 : Int → (List Int) → Option R) : Option R :=
 Zxy R a1 a2 (ltI ((a2 : Nat) : Int) 1) a3 fun y8 y9 y10 =>
 gd (inB 0 y9) <|
 Zxe R y8 y9 (y10.getD (y8 + 0) 0) 1 y10 fun y18 y19 =>
 k0 y18 y19
def Z6k : Z2k := Zkc
def Zdf : StK := ⟨[(0, .sc (.sl 0 1 none)), (2, .sc (.i .i64)), (3, .sc (.i .i64))], [(true, [.bytes none])]⟩
def Zdk : List PShape := [⟨Str, fun r => (.exit 0, ⟨[], [(0, ⟨true, [.bytes r r.length]⟩)], 1⟩)⟩]
def Zlg (R : Type) (x3 x4 : Int) (x5 : Str) (next : Int → Int → Str → Option R) (k0 : Str → Option R) : Option R :=
 br (ltI x3 x4)
 (gd (inB x4 x5.length) <|
 lett (((x5.getD x4.toNat 0).toNat : Int)) fun (v6 : Int) =>
 gd (inB x3 x5.length) <|
 lett (((x5.getD x3.toNat 0).toNat : Int)) fun (v7 : Int) =>
 gd (inB x3 x5.length) <|
 lett (x5.set x3.toNat (UInt8.ofNat v6.toNat)) fun (v8 : Str) =>
 gd (inB x4 v8.length) <|
 lett (v8.set x4.toNat (UInt8.ofNat v7.toNat)) fun (v9 : Str) =>
 next (addI .i64 x3 1) (subI .i64 x4 1) v9)
 (k0 x5)
def Zbv (x3 x4 : Int) (x5 : Str) : Nat := 100000 + (x3.toNat + x4.toNat + x5.length)
def Z4u : Piece := { T := Zdf, shapes := Zdk, step := fun R x next k => Zlg R (x.1.2.1) (x.1.2.2.1) (x.2.1.1) (fun x3 x4 x5 => next (((), x3, x4, ()), ((x5, ()), ()))) (fun z0 => k.1 z0), fuel := fun x => Zbv (x.1.2.1) (x.1.2.2.1) (x.2.1.1) }
def Zq4 (R : Type) (x3 x4 : Int) (x5 : Str) (k0 : Str → Option R) : Option R :=
 runP Zdf Zdk (Z4u).step R (Zbv x3 x4 x5) (((), x3, x4, ()), ((x5, ()), ())) (fun r => k0 (r), ())
abbrev Z7 := (R : Type) → Str → (Str → Option R) → Option R
def Zf5 (R : Type) (a1 : Str) (k0 : Str → Option R) : Option R :=
 lett (((a1.length : Nat) : Int)) fun (v2 : Int) =>
 Zq4 R 0 (subI .i64 v2 1) a1 fun y10 =>
 k0 y10
def Zs : Z7 := Zf5
abbrev Zwa := (R : Type) → Str → (List Str) → (Str → Option R) → Option R
def Zo6 (R : Type) (a0 : Str) (a1 : List Str) (k0 : Str → Option R) : Option R :=
 gd (joinB a1 a0) (k0 (Lib.join a1 a0))
abbrev Z2h := (R : Type) → Int → Int → (Int → Int → Option R) → Option R
def Zzr (R : Type) (a1 a2 : Int) (k0 : Int → Int → Option R) : Option R :=
 lett (mulI .u64 (andI .u64 a1 4294967295) (andI .u64 a2 4294967295)) fun (v3 : Int) =>
 lett (mulI .u64 (shrI .u64 a1 32) (andI .u64 a2 4294967295)) fun (v4 : Int) =>
 lett (addI .u64 v4 (shrI .u64 v3 32)) fun (v5 : Int) =>
 lett (mulI .u64 (andI .u64 a1 4294967295) (shrI .u64 a2 32)) fun (v6 : Int) =>
 lett (addI .u64 (andI .u64 v5 4294967295) v6) fun (v7 : Int) =>
 lett (mulI .u64 (shrI .u64 a1 32) (shrI .u64 a2 32)) fun (v8 : Int) =>
 lett (addI .u64 v8 (shrI .u64 v5 32)) fun (v9 : Int) =>
 lett (addI .u64 v9 (shrI .u64 v7 32)) fun (v10 : Int) =>
 k0 v10 (mulI .u64 a1 a2)
def Z1m : Z2h := Zzr
abbrev Zu := (R : Type) → Int → Int → Int → (Int → Int → Option R) → Option R
def Zj (R : Type) (a0 a1 a2 : Int) (k0 : Int → Int → Option R) : Option R :=
 gd (bit1 a2) (k0 (add64S a0 a1 a2) (add64C a0 a1 a2))
abbrev Zfl := (R : Type) → Int → Int → Int → (Int → Int → Option R) → Option R
def Zb2 (R : Type) (a0 a1 a2 : Int) (k0 : Int → Int → Option R) : Option R :=
 gd (bit1 a2) (k0 (sub64D a0 a1 a2) (sub64B a0 a1 a2))
def Z6n : StK := ⟨[(0, .sc (.nilsl)), (1, .sc (.s)), (7, .sc (.i .i64)), (8, .sc (.i .i64))], []⟩
def Z6q : List PShape := [⟨Unit, fun r => (.exit 0, ⟨[], [], 0⟩)⟩]
def Zap (R : Type) (x2 : Str) (x3 x4 : Int) (next : Str → Int → Int → Option R) (k0 : Unit → Option R) : Option R :=
 br (ltI x4 x3)
 (none)
 (k0 ())
def Z26 (x2 : Str) (x3 x4 : Int) : Nat := 100000 + (x2.length + x3.toNat + x4.toNat)
def Z2y : Piece := { T := Z6n, shapes := Z6q, step := fun R x next k => Zap R (x.1.2.1) (x.1.2.2.1) (x.1.2.2.2.1) (fun x2 x3 x4 => next (((), x2, x3, x4, ()), (()))) (fun _ => k.1 ()), fuel := fun x => Z26 (x.1.2.1) (x.1.2.2.1) (x.1.2.2.2.1) }
def Zd9 (R : Type) (x2 : Str) (x3 x4 : Int) (k0 : Unit → Option R) : Option R :=
 runP Z6n Z6q (Z2y).step R (Z26 x2 x3 x4) (((), x2, x3, x4, ()), (())) (fun r => k0 (), ())
abbrev Z4x := (R : Type) → Str → (Int → Option R) → Option R
def Z7z (R : Type) (a1 : Str) (k0 : Int → Option R) : Option R :=
 Zd9 R a1 0 0 fun _ =>
 k0 (-1)
def Z39 : Z4x := Z7z
abbrev Z3t := (R : Type) → Str → (Bool → Option R) → Option R
def Z5y (g0 : Z4x) (R : Type) (a1 : Str) (k0 : Bool → Option R) : Option R :=
 g0 R a1 fun r2 =>
 k0 (leI 0 r2)
def Z2m : Z3t := Z5y Z39
def Z6s : StK := ⟨[(0, .sc (.sl 0 1 none)), (1, .sc (.s)), (7, .sc (.i .i64)), (8, .sc (.i .i64))], [(true, [.strs none])]⟩
def Z6r : List PShape := [⟨Int × (List Str), fun r => (.ret, ⟨[(4, .c (.sc (.int .i64 r.1)))], [(0, ⟨true, [.strs r.2 r.2.length]⟩)], 1⟩)⟩, ⟨(List Str), fun r => (.exit 0, ⟨[], [(0, ⟨true, [.strs r r.length]⟩)], 1⟩)⟩]
def Z25 (R : Type) (x4 : Str) (x5 x6 : Int) (x7 : List Str) (next : Str → Int → Int → (List Str) → Option R) (k0 : Int → (List Str) → Option R) (k1 : (List Str) → Option R) : Option R :=
 br (ltI x6 x5)
 (gd (inB x6 x7.length) <|
 lett (eqS x4 (x7.getD x6.toNat [])) fun (v8 : Bool) =>
 br (v8)
 (k0 x6 x7)
 (next x4 x5 (addI .i64 x6 1) x7))
 (k1 x7)
def Z24 (x4 : Str) (x5 x6 : Int) (x7 : List Str) : Nat := 100000 + (x4.length + x5.toNat + x6.toNat + x7.length)
def Z2w : Piece := { T := Z6s, shapes := Z6r, step := fun R x next k => Z25 R (x.1.2.1) (x.1.2.2.1) (x.1.2.2.2.1) (x.2.1.1) (fun x4 x5 x6 x7 => next (((), x4, x5, x6, ()), ((x7, ()), ()))) (fun z0 z1 => k.1 (z0, z1)) (fun z0 => k.2.1 z0), fuel := fun x => Z24 (x.1.2.1) (x.1.2.2.1) (x.1.2.2.2.1) (x.2.1.1) }
def Zdc (R : Type) (x4 : Str) (x5 x6 : Int) (x7 : List Str) (k0 : Int → (List Str) → Option R) (k1 : (List Str) → Option R) : Option R :=
 runP Z6s Z6r (Z2w).step R (Z24 x4 x5 x6 x7) (((), x4, x5, x6, ()), ((x7, ()), ())) (fun r => k0 (r.1) (r.2), fun r => k1 (r), ())
abbrev Z4y := (R : Type) → Str → (List Str) → (Int → (List Str) → Option R) → Option R
def Z7h (R : Type) (a1 : Str) (a2 : List Str) (k0 : Int → (List Str) → Option R) : Option R :=
 lett (((a2.length : Nat) : Int)) fun (v3 : Int) =>
 Zdc R a1 v3 0 a2
 (fun y9 y10 =>
 k0 y9 y10)
 (fun y11 =>
 k0 (-1) y11)
def Z4t : Z4y := Z7h
abbrev Z3u := (R : Type) → Str → (List Str) → (Bool → (List Str) → Option R) → Option R
def Z6g (g0 : Z4y) (R : Type) (a1 : Str) (a2 : List Str) (k0 : Bool → (List Str) → Option R) : Option R :=
 g0 R a1 a2 fun r3 r4 =>
 k0 (leI 0 r3) r4
def Z2l : Z3u := Z6g Z4t
end
noncomputable section
abbrev Z59 := (R : Type) → Int → (Bool → Option R) → Option R
def Z11y (R : Type) (a1 : Int) (k0 : Bool → Option R) : Option R :=
 br (leI 0 a1)
 (br (ltI a1 256)
 (lett (!(eqI (andI .i64 a1 31) 31)) fun (v2 : Bool) =>
 k0 v2)
 (k0 false))
 (k0 false)
def Z58 : Z59 := Z11y
def Zt2 : StK := ⟨[(5, .sc (.i .i64)), (6, .sc (.i .i64)), (36, .sc (.sl 0 1 none)), (37, .sc (.i .i64)), (38, .sc (.i .i64))], [(true, [.bytes none])]⟩
def Zt7 : List PShape := [⟨Int × Int, fun r => (.exit 1, ⟨[(5, .c (.sc (.int .i64 r.1))), (6, .c (.sc (.int .i64 r.2)))], [], 0⟩)⟩]
def Zgn (R : Type) (x8 x9 x10 x11 : Int) (x12 : Str) (next : Int → Int → Int → Int → Str → Option R) (k0 : Int → Int → Option R) : Option R :=
 br (ltI x11 x10)
 (gd (inB x11 x12.length) <|
 lett (((x12.getD x11.toNat 0).toNat : Int)) fun (v13 : Int) =>
 lett (orI .i64 (shlI .i64 x8 8) (cvtI .i64 v13)) fun (v14 : Int) =>
 next v14 x9 x10 (addI .i64 x11 1) x12)
 (k0 x8 x9)
def Zc6 (x8 x9 x10 x11 : Int) (x12 : Str) : Nat := 100000 + (x8.toNat + x9.toNat + x10.toNat + x11.toNat + x12.length)
def Ziz : Piece := { T := Zt2, shapes := Zt7, step := fun R x next k => Zgn R (x.1.1) (x.1.2.1) (x.1.2.2.2.1) (x.1.2.2.2.2.1) (x.2.1.1) (fun x8 x9 x10 x11 x12 => next ((x8, x9, (), x10, x11, ()), ((x12, ()), ()))) (fun z0 z1 => k.1 (z0, z1)), fuel := fun x => Zc6 (x.1.1) (x.1.2.1) (x.1.2.2.2.1) (x.1.2.2.2.2.1) (x.2.1.1) }
def Zo7 (R : Type) (x8 x9 x10 x11 : Int) (x12 : Str) (k0 : Int → Int → Option R) : Option R :=
 runP Zt2 Zt7 (Ziz).step R (Zc6 x8 x9 x10 x11 x12) ((x8, x9, (), x10, x11, ()), ((x12, ()), ())) (fun r => k0 (r.1) (r.2), ())
abbrev Zdb := (R : Type) → Str → (Int → Int → Int → Option R) → Option R
def Zky (R : Type) (a1 : Str) (k0 : Int → Int → Int → Option R) : Option R :=
 lett (((a1.length : Nat) : Int)) fun (v2 : Int) =>
 br (ltI v2 2)
 (k0 0 0 10)
 (gd (inB 1 a1.length) <|
 lett (((a1.getD 1 0).toNat : Int)) fun (v3 : Int) =>
 br (ltI (cvtI .i64 v3) 128)
 (k0 (cvtI .i64 v3) 2 0)
 (br (eqI (cvtI .i64 v3) 128)
 (k0 0 0 11)
 (br (ltI 130 (cvtI .i64 v3))
 (k0 0 0 11)
 (lett (andI .i64 (cvtI .i64 v3) 3) fun (v4 : Int) =>
 lett (((a1.length : Nat) : Int)) fun (v5 : Int) =>
 br (ltI v5 (addI .i64 2 v4))
 (k0 0 0 10)
 (gd (leB (addI .i64 2 v4) a1.length) <|
 gd (leB 2 ((addI .i64 2 v4).toNat)) <|
 lett ((a1.take ((addI .i64 2 v4).toNat)).drop 2) fun (v6 : Str) =>
 lett (((v6.length : Nat) : Int)) fun (v7 : Int) =>
 Zo7 R 0 (addI .i64 2 v4) v7 0 v6 fun y15 y16 =>
 br (ltI y15 128)
 (k0 0 0 11)
 (br (eqI y16 4)
 (br (ltI y15 256)
 (k0 0 0 11)
 (k0 y15 y16 0))
 (k0 y15 y16 0)))))))
def Z2u : Zdb := Zky
def Z16i : StK := ⟨[(0, .sc (.s)), (6, .sc (.i .i64)), (7, .sc (.i .i64)), (8, .sc (.i .i64)), (33, .sc (.b))], []⟩
def Z161 : List PShape := [⟨Str × Int × Int × Int, fun r => (.normal, ⟨[(0, .c (.sc (.str r.1))), (6, .c (.sc (.int .i64 r.2.1))), (7, .c (.sc (.int .i64 r.2.2.1))), (8, .c (.sc (.int .i64 r.2.2.2)))], [], 0⟩)⟩]
def Z19d (g0 : Z59) (g1 : Zdb) (R : Type) (x8 : Str) (x9 x10 x11 : Int) (x12 : Bool) (k0 : Str → Int → Int → Int → Option R) : Option R :=
 br (x12)
 (k0 x8 x9 x10 10)
 (k0 x8 x9 x10 x11)
def Z10t (x8 : Str) (x9 x10 x11 : Int) (x12 : Bool) : Nat := 1
def Zuc (g0 : Z59) (g1 : Zdb) : Piece := { T := Z16i, shapes := Z161, step := fun R x next k => Z19d g0 g1 R (x.1.1) (x.1.2.1) (x.1.2.2.1) (x.1.2.2.2.1) (x.1.2.2.2.2.1) (fun z0 z1 z2 z3 => k.1 (z0, z1, z2, z3)), fuel := fun x => Z10t (x.1.1) (x.1.2.1) (x.1.2.2.1) (x.1.2.2.2.1) (x.1.2.2.2.2.1) }
def Z11x (g0 : Z59) (g1 : Zdb) (R : Type) (x8 : Str) (x9 x10 x11 : Int) (x12 : Bool) (k0 : Str → Int → Int → Int → Option R) : Option R :=
 runP Z16i Z161 (Zuc g0 g1).step R (Z10t x8 x9 x10 x11 x12) ((x8, x9, x10, x11, x12, ()), (())) (fun r => k0 (r.1) (r.2.1) (r.2.2.1) (r.2.2.2), ())
abbrev Z10q := (R : Type) → Str → (Int → Str → Str → Int → Option R) → Option R
def Zxz (g0 : Z59) (g1 : Zdb) (R : Type) (a1 : Str) (k0 : Int → Str → Str → Int → Option R) : Option R :=
 br (eqS a1 [])
 (k0 0 ([] : Str) ([] : Str) 10)
 (gd (inB 0 a1.length) <|
 lett (((a1.getD 0 0).toNat : Int)) fun (v2 : Int) =>
 g0 R (cvtI .i64 v2) fun r3 =>
 br (!r3)
 (k0 0 ([] : Str) ([] : Str) 11)
 (g1 R a1 fun r4 r5 r6 =>
 br (eqI r6 0)
 (lett (((a1.length : Nat) : Int)) fun (v7 : Int) =>
 Z11x g0 g1 R a1 r4 r5 r6 (ltI (subI .i64 v7 r5) r4) fun y13 y14 y15 y16 =>
 br (!(eqI y16 0))
 (k0 0 ([] : Str) ([] : Str) y16)
 (gd (inB 0 y13.length) <|
 lett (((y13.getD 0 0).toNat : Int)) fun (v17 : Int) =>
 gd (leB (addI .i64 y15 y14) y13.length) <|
 gd (leB y15 ((addI .i64 y15 y14).toNat)) <|
 lett ((y13.take ((addI .i64 y15 y14).toNat)).drop y15.toNat) fun (v18 : Str) =>
 gd (leB (addI .i64 y15 y14) y13.length) <|
 lett (y13.drop ((addI .i64 y15 y14).toNat)) fun (v19 : Str) =>
 k0 (cvtI .i64 v17) v18 v19 0))
 (Z11x g0 g1 R a1 r4 r5 r6 false fun y20 y21 y22 y23 =>
 br (!(eqI y23 0))
 (k0 0 ([] : Str) ([] : Str) y23)
 (gd (inB 0 y20.length) <|
 lett (((y20.getD 0 0).toNat : Int)) fun (v24 : Int) =>
 gd (leB (addI .i64 y22 y21) y20.length) <|
 gd (leB y22 ((addI .i64 y22 y21).toNat)) <|
 lett ((y20.take ((addI .i64 y22 y21).toNat)).drop y22.toNat) fun (v25 : Str) =>
 gd (leB (addI .i64 y22 y21) y20.length) <|
 lett (y20.drop ((addI .i64 y22 y21).toNat)) fun (v26 : Str) =>
 k0 (cvtI .i64 v24) v25 v26 0))))
def Z9c : Z10q := Zxz Z58 Z2u
abbrev Z36 := (R : Type) → Str → (Bool → Option R) → Option R
def Z11z (R : Type) (a1 : Str) (k0 : Bool → Option R) : Option R :=
 lett (((a1.length : Nat) : Int)) fun (v2 : Int) =>
 br (ltI 1 v2)
 (gd (inB 0 a1.length) <|
 lett (((a1.getD 0 0).toNat : Int)) fun (v3 : Int) =>
 br (eqI v3 0)
 (gd (inB 1 a1.length) <|
 lett (((a1.getD 1 0).toNat : Int)) fun (v4 : Int) =>
 br (eqI (shrI .u8 v4 7) 0)
 (k0 true)
 (gd (inB 0 a1.length) <|
 lett (((a1.getD 0 0).toNat : Int)) fun (v5 : Int) =>
 br (eqI v5 255)
 (gd (inB 1 a1.length) <|
 lett (((a1.getD 1 0).toNat : Int)) fun (v6 : Int) =>
 k0 (eqI (shrI .u8 v6 7) 1))
 (k0 false)))
 (gd (inB 0 a1.length) <|
 lett (((a1.getD 0 0).toNat : Int)) fun (v7 : Int) =>
 br (eqI v7 255)
 (gd (inB 1 a1.length) <|
 lett (((a1.getD 1 0).toNat : Int)) fun (v8 : Int) =>
 k0 (eqI (shrI .u8 v8 7) 1))
 (k0 false)))
 (k0 false)
def Z1x : Z36 := Z11z
def Zry : StK := ⟨[(4, .sc (.i .i64)), (23, .sc (.sl 0 1 none)), (24, .sc (.i .i64)), (25, .sc (.i .i64))], [(true, [.bytes none])]⟩
def Zql : List PShape := [⟨Int, fun r => (.exit 1, ⟨[(4, .c (.sc (.int .i64 r)))], [], 0⟩)⟩]
def Zeo (g0 : Z36) (R : Type) (x6 x7 x8 : Int) (x9 : Str) (next : Int → Int → Int → Str → Option R) (k0 : Int → Option R) : Option R :=
 br (ltI x8 x7)
 (gd (inB x8 x9.length) <|
 lett (((x9.getD x8.toNat 0).toNat : Int)) fun (v10 : Int) =>
 lett (orI .i64 (shlI .i64 x6 8) (cvtI .i64 v10)) fun (v11 : Int) =>
 next v11 x7 (addI .i64 x8 1) x9)
 (k0 x6)
def Zbl (x6 x7 x8 : Int) (x9 : Str) : Nat := 100000 + (x6.toNat + x7.toNat + x8.toNat + x9.length)
def Zhk (g0 : Z36) : Piece := { T := Zry, shapes := Zql, step := fun R x next k => Zeo g0 R (x.1.1) (x.1.2.2.1) (x.1.2.2.2.1) (x.2.1.1) (fun x6 x7 x8 x9 => next ((x6, (), x7, x8, ()), ((x9, ()), ()))) (fun z0 => k.1 z0), fuel := fun x => Zbl (x.1.1) (x.1.2.2.1) (x.1.2.2.2.1) (x.2.1.1) }
def Z132 (g0 : Z36) (R : Type) (x6 x7 x8 : Int) (x9 : Str) (k0 : Int → Option R) : Option R :=
 runP Zry Zql (Zhk g0).step R (Zbl x6 x7 x8 x9) ((x6, (), x7, x8, ()), ((x9, ()), ())) (fun r => k0 (r), ())
abbrev Zrg := (R : Type) → Str → (Int → Int → Option R) → Option R
def Zvm (g0 : Z36) (R : Type) (a1 : Str) (k0 : Int → Int → Option R) : Option R :=
 br (eqS a1 [])
 (k0 0 10)
 (g0 R a1 fun r2 =>
 br (r2)
 (k0 0 11)
 (lett (((a1.length : Nat) : Int)) fun (v3 : Int) =>
 br (ltI 8 v3)
 (k0 0 13)
 (gd (inB 0 a1.length) <|
 lett (((a1.getD 0 0).toNat : Int)) fun (v4 : Int) =>
 gd (leB 1 a1.length) <|
 lett ((((a1.drop 1).length : Nat) : Int)) fun (v5 : Int) =>
 Z132 g0 R (cvtI .i64 (cvtI .i8 v4)) v5 0 (a1.drop 1) fun y12 =>
 k0 y12 0)))
def Zdh : Zrg := Zvm Z1x
def Zst : StK := ⟨[(0, .sc (.nilsl)), (1, .sc (.i .i64)), (5, .sc (.sl 0 1 none)), (7, .sc (.i .u8)), (13, .sc (.b))], [(true, [.bytes none])]⟩
def Zsw : List PShape := [⟨Int × Int × Str, fun r => (.normal, ⟨[(0, .c (.sc (.nilsl))), (1, .c (.sc (.int .i64 r.1))), (5, .c (.sc (.slice 0 1 none none))), (7, .c (.sc (.int .u8 r.2.1)))], [(0, ⟨true, [.bytes r.2.2 r.2.2.length]⟩)], 1⟩)⟩]
def Z11t (g0 : Z7) (R : Type) (x14 x15 : Int) (x16 : Bool) (x17 : Str) (k0 : Int → Int → Str → Option R) : Option R :=
 br (x16)
 (k0 x14 0 x17)
 (k0 x14 x15 x17)
def Znd (x14 x15 : Int) (x16 : Bool) (x17 : Str) : Nat := 1
def Zf7 (g0 : Z7) : Piece := { T := Zst, shapes := Zsw, step := fun R x next k => Z11t g0 R (x.1.2.1) (x.1.2.2.2.1) (x.1.2.2.2.2.1) (x.2.1.1) (fun z0 z1 z2 => k.1 (z0, z1, z2)), fuel := fun x => Znd (x.1.2.1) (x.1.2.2.2.1) (x.1.2.2.2.2.1) (x.2.1.1) }
def Zuo (g0 : Z7) (R : Type) (x14 x15 : Int) (x16 : Bool) (x17 : Str) (k0 : Int → Int → Str → Option R) : Option R :=
 runP Zst Zsw (Zf7 g0).step R (Znd x14 x15 x16 x17) (((), x14, (), x15, x16, ()), ((x17, ()), ())) (fun r => k0 (r.1) (r.2.1) (r.2.2), ())
def Zsl : StK := ⟨[(0, .sc (.nilsl)), (1, .sc (.i .i64)), (5, .sc (.sl 0 1 none)), (6, .sc (.b))], [(true, [.bytes none])]⟩
def Zsp : List PShape := [⟨Str, fun r => (.exit 0, ⟨[(0, .c (.sc (.nilsl))), (5, .c (.sc (.slice 0 1 none none)))], [(0, ⟨true, [.bytes r r.length]⟩)], 1⟩)⟩]
def Z113 (g0 : Z7) (R : Type) (x11 : Int) (x12 : Bool) (x13 : Str) (next : Int → Bool → Str → Option R) (k0 : Str → Option R) : Option R :=
 br (x12)
 (Zuo g0 R x11 128 x12 x13 fun y18 y19 y20 =>
 lett (cvtI .u8 (andI .i64 y18 127)) fun (v21 : Int) =>
 lett ([UInt8.ofNat ((orI .u8 y19 v21).toNat)]) fun (v22 : Str) =>
 gd (appB y20.length v22.length 1) <|
 next (shrI .i64 y18 7) false (y20 ++ v22))
 (br (ltI 0 x11)
 (Zuo g0 R x11 128 x12 x13 fun y23 y24 y25 =>
 lett (cvtI .u8 (andI .i64 y23 127)) fun (v26 : Int) =>
 lett ([UInt8.ofNat ((orI .u8 y24 v26).toNat)]) fun (v27 : Str) =>
 gd (appB y25.length v27.length 1) <|
 next (shrI .i64 y23 7) false (y25 ++ v27))
 (k0 x13))
def Znh (x11 : Int) (x12 : Bool) (x13 : Str) : Nat := 100000 + (x11.toNat + x13.length)
def Zew (g0 : Z7) : Piece := { T := Zsl, shapes := Zsp, step := fun R x next k => Z113 g0 R (x.1.2.1) (x.1.2.2.2.1) (x.2.1.1) (fun x11 x12 x13 => next (((), x11, (), x12, ()), ((x13, ()), ()))) (fun z0 => k.1 z0), fuel := fun x => Znh (x.1.2.1) (x.1.2.2.2.1) (x.2.1.1) }
def Z165 (g0 : Z7) (R : Type) (x11 : Int) (x12 : Bool) (x13 : Str) (k0 : Str → Option R) : Option R :=
 runP Zsl Zsp (Zew g0).step R (Znh x11 x12 x13) (((), x11, (), x12, ()), ((x13, ()), ())) (fun r => k0 (r), ())
abbrev Z5u := (R : Type) → Int → (Str → Option R) → Option R
def Zx7 (g0 : Z7) (R : Type) (a1 : Int) (k0 : Str → Option R) : Option R :=
 Z165 g0 R a1 true ([] : Str) fun y28 =>
 g0 R y28 fun r29 =>
 gd (appB 0 r29.length 1) <|
 k0 (([] : Str) ++ r29)
def Zdj : Z5u := Zx7 Zs
def Zss : StK := ⟨[(0, .sc (.sl 0 1 none)), (1, .sc (.i .i64)), (5, .sc (.sl 1 1 none)), (7, .sc (.i .u8)), (13, .sc (.b))], [(true, [.bytes none]), (true, [.bytes none])]⟩
def Zsy : List PShape := [⟨Int × Int × Str × Str, fun r => (.normal, ⟨[(0, .c (.sc (.slice 0 1 none none))), (1, .c (.sc (.int .i64 r.1))), (5, .c (.sc (.slice 1 1 none none))), (7, .c (.sc (.int .u8 r.2.1)))], [(0, ⟨true, [.bytes r.2.2.1 r.2.2.1.length]⟩), (1, ⟨true, [.bytes r.2.2.2 r.2.2.2.length]⟩)], 2⟩)⟩]
def Z117 (g0 : Z7) (R : Type) (x19 x20 : Int) (x21 : Bool) (x22 x23 : Str) (k0 : Int → Int → Str → Str → Option R) : Option R :=
 br (x21)
 (k0 x19 0 x22 x23)
 (k0 x19 x20 x22 x23)
def Znn (x19 x20 : Int) (x21 : Bool) (x22 x23 : Str) : Nat := 1
def Zeu (g0 : Z7) : Piece := { T := Zss, shapes := Zsy, step := fun R x next k => Z117 g0 R (x.1.2.1) (x.1.2.2.2.1) (x.1.2.2.2.2.1) (x.2.1.1) (x.2.2.1.1) (fun z0 z1 z2 z3 => k.1 (z0, z1, z2, z3)), fuel := fun x => Znn (x.1.2.1) (x.1.2.2.2.1) (x.1.2.2.2.2.1) (x.2.1.1) (x.2.2.1.1) }
def Zv3 (g0 : Z7) (R : Type) (x19 x20 : Int) (x21 : Bool) (x22 x23 : Str) (k0 : Int → Int → Str → Str → Option R) : Option R :=
 runP Zss Zsy (Zeu g0).step R (Znn x19 x20 x21 x22 x23) (((), x19, (), x20, x21, ()), ((x22, ()), (x23, ()), ())) (fun r => k0 (r.1) (r.2.1) (r.2.2.1) (r.2.2.2), ())
def Zsn : StK := ⟨[(0, .sc (.sl 0 1 none)), (1, .sc (.i .i64)), (5, .sc (.sl 1 1 none)), (6, .sc (.b))], [(true, [.bytes none]), (true, [.bytes none])]⟩
def Zso : List PShape := [⟨Str × Str, fun r => (.exit 0, ⟨[(0, .c (.sc (.slice 0 1 none none))), (5, .c (.sc (.slice 1 1 none none)))], [(0, ⟨true, [.bytes r.1 r.1.length]⟩), (1, ⟨true, [.bytes r.2 r.2.length]⟩)], 2⟩)⟩]
def Z114 (g0 : Z7) (R : Type) (x15 : Int) (x16 : Bool) (x17 x18 : Str) (next : Int → Bool → Str → Str → Option R) (k0 : Str → Str → Option R) : Option R :=
 br (x16)
 (Zv3 g0 R x15 128 x16 x17 x18 fun y24 y25 y26 y27 =>
 lett (cvtI .u8 (andI .i64 y24 127)) fun (v28 : Int) =>
 lett ([UInt8.ofNat ((orI .u8 y25 v28).toNat)]) fun (v29 : Str) =>
 gd (appB y27.length v29.length 1) <|
 next (shrI .i64 y24 7) false y26 (y27 ++ v29))
 (br (ltI 0 x15)
 (Zv3 g0 R x15 128 x16 x17 x18 fun y30 y31 y32 y33 =>
 lett (cvtI .u8 (andI .i64 y30 127)) fun (v34 : Int) =>
 lett ([UInt8.ofNat ((orI .u8 y31 v34).toNat)]) fun (v35 : Str) =>
 gd (appB y33.length v35.length 1) <|
 next (shrI .i64 y30 7) false y32 (y33 ++ v35))
 (k0 x17 x18))
def Znj (x15 : Int) (x16 : Bool) (x17 x18 : Str) : Nat := 100000 + (x15.toNat + x17.length + x18.length)
def Zf6 (g0 : Z7) : Piece := { T := Zsn, shapes := Zso, step := fun R x next k => Z114 g0 R (x.1.2.1) (x.1.2.2.2.1) (x.2.1.1) (x.2.2.1.1) (fun x15 x16 x17 x18 => next (((), x15, (), x16, ()), ((x17, ()), (x18, ()), ()))) (fun z0 z1 => k.1 (z0, z1)), fuel := fun x => Znj (x.1.2.1) (x.1.2.2.2.1) (x.2.1.1) (x.2.2.1.1) }
def Z160 (g0 : Z7) (R : Type) (x15 : Int) (x16 : Bool) (x17 x18 : Str) (k0 : Str → Str → Option R) : Option R :=
 runP Zsn Zso (Zf6 g0).step R (Znj x15 x16 x17 x18) (((), x15, (), x16, ()), ((x17, ()), (x18, ()), ())) (fun r => k0 (r.1) (r.2), ())
abbrev Z5o := (R : Type) → Int → Str → (Str → Option R) → Option R
def Zx1 (g0 : Z7) (R : Type) (a1 : Int) (a2 : Str) (k0 : Str → Option R) : Option R :=
 Z160 g0 R a1 true a2 ([] : Str) fun y36 y37 =>
 g0 R y37 fun r38 =>
 gd (appB y36.length r38.length 1) <|
 k0 (y36 ++ r38)
def Ze3 : Z5o := Zx1 Zs
def Z14x : StK := ⟨[(1, .sc (.s)), (6, .sc (.i .i64)), (7, .sc (.sl 0 1 none))], [(true, [.bytes none])]⟩
def Z14q : List PShape := [⟨Str × Str, fun r => (.normal, ⟨[(1, .c (.sc (.str r.1))), (7, .c (.sc (.slice 0 1 none none)))], [(0, ⟨true, [.bytes r.2 r.2.length]⟩)], 1⟩)⟩]
def Zos (g0 : Z59) (R : Type) (x6 : Str) (x7 : Int) (x8 : Str) (k0 : Str → Str → Option R) : Option R :=
 br (ltI x7 128)
 (lett ([UInt8.ofNat ((cvtI .u8 x7).toNat)]) fun (v9 : Str) =>
 gd (appB x8.length v9.length 1) <|
 k0 x6 (x8 ++ v9))
 (br (ltI x7 256)
 (lett ([UInt8.ofNat 129, UInt8.ofNat ((cvtI .u8 x7).toNat)]) fun (v10 : Str) =>
 gd (appB x8.length v10.length 1) <|
 k0 x6 (x8 ++ v10))
 (lett (cvtI .u8 (shrI .i64 x7 8)) fun (v11 : Int) =>
 lett ([UInt8.ofNat 130, UInt8.ofNat v11.toNat, UInt8.ofNat ((cvtI .u8 x7).toNat)]) fun (v12 : Str) =>
 gd (appB x8.length v12.length 1) <|
 k0 x6 (x8 ++ v12)))
def Zzj (x6 : Str) (x7 : Int) (x8 : Str) : Nat := 1
def Zqg (g0 : Z59) : Piece := { T := Z14x, shapes := Z14q, step := fun R x next k => Zos g0 R (x.1.1) (x.1.2.1) (x.2.1.1) (fun z0 z1 => k.1 (z0, z1)), fuel := fun x => Zzj (x.1.1) (x.1.2.1) (x.2.1.1) }
def Z16s (g0 : Z59) (R : Type) (x6 : Str) (x7 : Int) (x8 : Str) (k0 : Str → Str → Option R) : Option R :=
 runP Z14x Z14q (Zqg g0).step R (Zzj x6 x7 x8) ((x6, x7, (), ()), ((x8, ()), ())) (fun r => k0 (r.1) (r.2), ())
abbrev Z2e := (R : Type) → Int → Str → (Str → Int → Option R) → Option R
def Z11o (g0 : Z59) (R : Type) (a1 : Int) (a2 : Str) (k0 : Str → Int → Option R) : Option R :=
 lett (((a2.length : Nat) : Int)) fun (v3 : Int) =>
 g0 R a1 fun r4 =>
 br (!r4)
 (k0 ([] : Str) 1)
 (br (ltI 65535 v3)
 (k0 ([] : Str) 13)
 (lett ([UInt8.ofNat ((cvtI .u8 a1).toNat)]) fun (v5 : Str) =>
 Z16s g0 R a2 v3 v5 fun y13 y14 =>
 gd (catB y14 y13) <|
 k0 (y14 ++ y13) 0))
def Z1v : Z2e := Z11o Z58
def Z10v : StK := ⟨[(4, .sc (.sl 1 1 none)), (65, .sc (.slr 0 1 none)), (66, .sc (.i .i64)), (67, .sc (.i .i64))], [(true, [.ints .i64 none]), (true, [.bytes none])]⟩
def Z10n : List PShape := [⟨(List Int) × Str, fun r => (.exit 1, ⟨[(4, .c (.sc (.slice 1 1 none none)))], [(0, ⟨true, [.ints .i64 r.1 r.1.length]⟩), (1, ⟨true, [.bytes r.2 r.2.length]⟩)], 2⟩)⟩]
def Z16a (g0 : Z2j) (g1 : Z2k) (g2 : Z5u) (g3 : Z5o) (g4 : Z2e) (R : Type) (x14 x15 : Nat) (x16 x17 : Int) (x18 : List Int) (x19 : Str) (next : Nat → Nat → Int → Int → (List Int) → Str → Option R) (k0 : (List Int) → Str → Option R) : Option R :=
 br (ltI x17 x16)
 (gd (inB x17 x15) <|
 lett (x18.getD (x14 + x17.toNat) 0) fun (v20 : Int) =>
 g3 R v20 x19 fun r21 =>
 next x14 x15 x16 (addI .i64 x17 1) x18 r21)
 (k0 x18 x19)
def Zv9 (x14 x15 : Nat) (x16 x17 : Int) (x18 : List Int) (x19 : Str) : Nat := 100000 + (x14 + x15 + x16.toNat + x17.toNat + x18.length + x19.length)
def Zli (g0 : Z2j) (g1 : Z2k) (g2 : Z5u) (g3 : Z5o) (g4 : Z2e) : Piece := { T := Z10v, shapes := Z10n, step := fun R x next k => Z16a g0 g1 g2 g3 g4 R (x.1.2.1.1) (x.1.2.1.2) (x.1.2.2.1) (x.1.2.2.2.1) (x.2.1.1) (x.2.2.1.1) (fun x14 x15 x16 x17 x18 x19 => next (((), (x14, x15), x16, x17, ()), ((x18, ()), (x19, ()), ()))) (fun z0 z1 => k.1 (z0, z1)), fuel := fun x => Zv9 (x.1.2.1.1) (x.1.2.1.2) (x.1.2.2.1) (x.1.2.2.2.1) (x.2.1.1) (x.2.2.1.1) }
def Zlm (g0 : Z2j) (g1 : Z2k) (g2 : Z5u) (g3 : Z5o) (g4 : Z2e) (R : Type) (x14 x15 : Nat) (x16 x17 : Int) (x18 : List Int) (x19 : Str) (k0 : (List Int) → Str → Option R) : Option R :=
 runP Z10v Z10n (Zli g0 g1 g2 g3 g4).step R (Zv9 x14 x15 x16 x17 x18 x19) (((), (x14, x15), x16, x17, ()), ((x18, ()), (x19, ()), ())) (fun r => k0 (r.1) (r.2), ())
abbrev Zqm := (R : Type) → (List Int) → (Str → Int → (List Int) → Option R) → Option R
def Z14v (g0 : Z2j) (g1 : Z2k) (g2 : Z5u) (g3 : Z5o) (g4 : Z2e) (R : Type) (a1 : List Int) (k0 : Str → Int → (List Int) → Option R) : Option R :=
 lett (((a1.length : Nat) : Int)) fun (v2 : Int) =>
 br (ltI v2 2)
 (k0 ([] : Str) 1 a1)
 (g0 R a1 fun r3 r4 =>
 br (ltI r3 0)
 (k0 ([] : Str) 1 r4)
 (gd (inB 0 r4.length) <|
 br (ltI 2 (r4.getD 0 0))
 (k0 ([] : Str) 1 r4)
 (gd (inB 0 r4.length) <|
 br (ltI (r4.getD 0 0) 2)
 (gd (inB 1 r4.length) <|
 br (ltI 39 (r4.getD 1 0))
 (k0 ([] : Str) 1 r4)
 (gd (inB 1 r4.length) <|
 lett (ltI 1000000 (r4.getD 1 0)) fun (v5 : Bool) =>
 br (v5)
 (k0 ([] : Str) 1 r4)
 (lett (((r4.length : Nat) : Int)) fun (v6 : Int) =>
 br (ltI 20 v6)
 (k0 ([] : Str) 13 r4)
 (lett (((r4.length : Nat) : Int)) fun (v7 : Int) =>
 br (ltI 2 v7)
 (gd (leB 2 r4.length) <|
 g1 R 2 (r4.length - 2) r4 fun r8 r9 =>
 br (ltI 268435455 r8)
 (k0 ([] : Str) 13 r9)
 (gd (inB 0 r9.length) <|
 lett (mulI .i64 40 (r9.getD 0 0)) fun (v10 : Int) =>
 gd (inB 1 r9.length) <|
 lett (addI .i64 v10 (r9.getD 1 0)) fun (v11 : Int) =>
 g2 R v11 fun r12 =>
 gd (leB 2 r9.length) <|
 lett (((r9.length - 2 : Nat) : Int)) fun (v13 : Int) =>
 Zlm g0 g1 g2 g3 g4 R 2 (r9.length - 2) v13 0 r9 r12 fun y22 y23 =>
 g4 R 6 y23 fun r24 r25 =>
 k0 r24 r25 y22))
 (gd (inB 0 r4.length) <|
 lett (mulI .i64 40 (r4.getD 0 0)) fun (v26 : Int) =>
 gd (inB 1 r4.length) <|
 lett (addI .i64 v26 (r4.getD 1 0)) fun (v27 : Int) =>
 g2 R v27 fun r28 =>
 gd (leB 2 r4.length) <|
 lett (((r4.length - 2 : Nat) : Int)) fun (v29 : Int) =>
 Zlm g0 g1 g2 g3 g4 R 2 (r4.length - 2) v29 0 r4 r28 fun y30 y31 =>
 g4 R 6 y31 fun r32 r33 =>
 k0 r32 r33 y30)))))
 (gd (inB 1 r4.length) <|
 lett (ltI 1000000 (r4.getD 1 0)) fun (v34 : Bool) =>
 br (v34)
 (k0 ([] : Str) 1 r4)
 (lett (((r4.length : Nat) : Int)) fun (v35 : Int) =>
 br (ltI 20 v35)
 (k0 ([] : Str) 13 r4)
 (lett (((r4.length : Nat) : Int)) fun (v36 : Int) =>
 br (ltI 2 v36)
 (gd (leB 2 r4.length) <|
 g1 R 2 (r4.length - 2) r4 fun r37 r38 =>
 br (ltI 268435455 r37)
 (k0 ([] : Str) 13 r38)
 (gd (inB 0 r38.length) <|
 lett (mulI .i64 40 (r38.getD 0 0)) fun (v39 : Int) =>
 gd (inB 1 r38.length) <|
 lett (addI .i64 v39 (r38.getD 1 0)) fun (v40 : Int) =>
 g2 R v40 fun r41 =>
 gd (leB 2 r38.length) <|
 lett (((r38.length - 2 : Nat) : Int)) fun (v42 : Int) =>
 Zlm g0 g1 g2 g3 g4 R 2 (r38.length - 2) v42 0 r38 r41 fun y43 y44 =>
 g4 R 6 y44 fun r45 r46 =>
 k0 r45 r46 y43))
 (gd (inB 0 r4.length) <|
 lett (mulI .i64 40 (r4.getD 0 0)) fun (v47 : Int) =>
 gd (inB 1 r4.length) <|
 lett (addI .i64 v47 (r4.getD 1 0)) fun (v48 : Int) =>
 g2 R v48 fun r49 =>
 gd (leB 2 r4.length) <|
 lett (((r4.length - 2 : Nat) : Int)) fun (v50 : Int) =>
 Zlm g0 g1 g2 g3 g4 R 2 (r4.length - 2) v50 0 r4 r49 fun y51 y52 =>
 g4 R 6 y52 fun r53 r54 =>
 k0 r53 r54 y51)))))))
def Zz1 : Zqm := Z14v Z6j Z6k Zdj Ze3 Z1v
def Z11i : StK := ⟨[(0, .sc (.i .i64)), (3, .sc (.ptr 0 0 0 0 0)), (8, .sc (.i .i64))], [(true, [.bytes (some 8)])]⟩
def Z11q : List PShape := [⟨Str, fun r => (.exit 0, ⟨[(3, .c (.sc (.ptr 0 0 0 0 0)))], [(0, ⟨true, [.bytes r 8]⟩)], 1⟩)⟩]
def Zlt (g0 : Z36) (g1 : Z2e) (R : Type) (x3 x4 : Int) (x5 : Str) (next : Int → Int → Str → Option R) (k0 : Str → Option R) : Option R :=
 br (ltI x4 8)
 (lett (subI .i64 56 (mulI .i64 8 x4)) fun (v6 : Int) =>
 gd (leI 0 v6) <|
 lett (cvtI .u8 (shrI .i64 x3 v6)) fun (v7 : Int) =>
 gd (inB x4 8) <|
 lett (x5.set x4.toNat (UInt8.ofNat v7.toNat)) fun (v8 : Str) =>
 next x3 (addI .i64 x4 1) v8)
 (k0 x5)
def Zh3 (x3 x4 : Int) (x5 : Str) : Nat := 100000 + (x3.toNat + x4.toNat + x5.length)
def Zr2 (g0 : Z36) (g1 : Z2e) : Piece := { T := Z11i, shapes := Z11q, step := fun R x next k => Zlt g0 g1 R (x.1.1) (x.1.2.2.1) (x.2.1.1) (fun x3 x4 x5 => next ((x3, (), x4, ()), ((x5, ()), ()))) (fun z0 => k.1 z0), fuel := fun x => Zh3 (x.1.1) (x.1.2.2.1) (x.2.1.1) }
def Z195 (g0 : Z36) (g1 : Z2e) (R : Type) (x3 x4 : Int) (x5 : Str) (k0 : Str → Option R) : Option R :=
 runP Z11i Z11q (Zr2 g0 g1).step R (Zh3 x3 x4 x5) ((x3, (), x4, ()), ((x5, ()), ())) (fun r => k0 (r), ())
def Z11k : StK := ⟨[(5, .sc (.s))], []⟩
def Z11u : List PShape := [⟨Str, fun r => (.exit 2, ⟨[(5, .c (.sc (.str r)))], [], 0⟩)⟩]
def Zu4 (g0 : Z36) (g1 : Z2e) (R : Type) (x10 : Str) (next : Str → Option R) (k0 : Str → Option R) : Option R :=
 g0 R x10 fun r11 =>
 br (r11)
 (gd (leB 1 x10.length) <|
 next (x10.drop 1))
 (k0 x10)
def Zlw (x10 : Str) : Nat := 100000 + (x10.length)
def Zr4 (g0 : Z36) (g1 : Z2e) : Piece := { T := Z11k, shapes := Z11u, step := fun R x next k => Zu4 g0 g1 R (x.1.1) (fun x10 => next ((x10, ()), (()))) (fun z0 => k.1 z0), fuel := fun x => Zlw (x.1.1) }
def Z13r (g0 : Z36) (g1 : Z2e) (R : Type) (x10 : Str) (k0 : Str → Option R) : Option R :=
 runP Z11k Z11u (Zr4 g0 g1).step R (Zlw x10) ((x10, ()), (())) (fun r => k0 (r), ())
abbrev Z146 := (R : Type) → Int → (Str → Option R) → Option R
def Z16j (g0 : Z36) (g1 : Z2e) (R : Type) (a1 : Int) (k0 : Str → Option R) : Option R :=
 lett (List.replicate 8 (0 : UInt8)) fun (v2 : Str) =>
 Z195 g0 g1 R a1 0 v2 fun y9 =>
 Z13r g0 g1 R ((y9.drop 0).take 8) fun y12 =>
 g1 R 2 y12 fun r13 r14 =>
 k0 r13
def Zzq : Z146 := Z16j Z1x Z1v
end
noncomputable section
def Zob (R : Type) (n : Nat) (x8 x9 x10 x11 : Int) (x12 : Str) (k0 : Int → Int → Option R) : Option R :=
 runP Zt2 Zt7 (Ziz).step R n ((x8, x9, (), x10, x11, ()), ((x12, ()), ())) (fun r => k0 (r.1) (r.2), ())
theorem Zve (R : Type) (n : Nat) (x8 x9 x10 x11 : Int) (x12 : Str) (k0 : Int → Int → Option R) : Zob R (n + 1) x8 x9 x10 x11 x12 k0 = Zgn R x8 x9 x10 x11 x12 (fun x8 x9 x10 x11 x12 => Zob R n x8 x9 x10 x11 x12 k0) k0 := rfl
theorem Z19n (R : Type) (x8 x9 x10 x11 : Int) (x12 : Str) (k0 : Int → Int → Option R) : Zo7 R x8 x9 x10 x11 x12 k0 = Zob R (Zc6 x8 x9 x10 x11 x12) x8 x9 x10 x11 x12 k0 := rfl
def Zln (R : Type) (n : Nat) (x6 x7 x8 : Int) (x9 : Str) (k0 : Int → Option R) : Option R :=
 runP Zry Zql (Zhk Z1x).step R n ((x6, (), x7, x8, ()), ((x9, ()), ())) (fun r => k0 (r), ())
theorem Zsr (R : Type) (n : Nat) (x6 x7 x8 : Int) (x9 : Str) (k0 : Int → Option R) : Zln R (n + 1) x6 x7 x8 x9 k0 = Zeo Z1x R x6 x7 x8 x9 (fun x6 x7 x8 x9 => Zln R n x6 x7 x8 x9 k0) k0 := rfl
theorem Z17v (R : Type) (x6 x7 x8 : Int) (x9 : Str) (k0 : Int → Option R) : Z132 Z1x R x6 x7 x8 x9 k0 = Zln R (Zbl x6 x7 x8 x9) x6 x7 x8 x9 k0 := rfl
def Zxu (R : Type) (n : Nat) (x3 x4 : Int) (x5 : Str) (k0 : Str → Option R) : Option R :=
 runP Z11i Z11q (Zr2 Z1x Z1v).step R n ((x3, (), x4, ()), ((x5, ()), ())) (fun r => k0 (r), ())
theorem Z10i (R : Type) (n : Nat) (x3 x4 : Int) (x5 : Str) (k0 : Str → Option R) : Zxu R (n + 1) x3 x4 x5 k0 = Zlt Z1x Z1v R x3 x4 x5 (fun x3 x4 x5 => Zxu R n x3 x4 x5 k0) k0 := rfl
theorem Z1bl (R : Type) (x3 x4 : Int) (x5 : Str) (k0 : Str → Option R) : Z195 Z1x Z1v R x3 x4 x5 k0 = Zxu R (Zh3 x3 x4 x5) x3 x4 x5 k0 := rfl
def Zxt (R : Type) (n : Nat) (x10 : Str) (k0 : Str → Option R) : Option R :=
 runP Z11k Z11u (Zr4 Z1x Z1v).step R n ((x10, ()), (())) (fun r => k0 (r), ())
theorem Z19k (R : Type) (n : Nat) (x10 : Str) (k0 : Str → Option R) : Zxt R (n + 1) x10 k0 = Zu4 Z1x Z1v R x10 (fun x10 => Zxt R n x10 k0) k0 := rfl
theorem Z1bo (R : Type) (x10 : Str) (k0 : Str → Option R) : Z13r Z1x Z1v R x10 k0 = Zxt R (Zlw x10) x10 k0 := rfl
end
structure Rot (n : Int) (l : List Int) : Prop where
  r0 : 0 ≤ l.getD 0 0 ∧ l.getD 0 0 ≤ n
  r1 : 0 ≤ l.getD 1 0 ∧ l.getD 1 0 ≤ n
  r2 : 0 ≤ l.getD 2 0 ∧ l.getD 2 0 ≤ n
instance (n : Int) (l : List Int) : Decidable (Rot n l) :=
  decidable_of_iff ((0 ≤ l.getD 0 0 ∧ l.getD 0 0 ≤ n) ∧ (0 ≤ l.getD 1 0 ∧ l.getD 1 0 ≤ n) ∧ (0 ≤ l.getD 2 0 ∧ l.getD 2 0 ≤ n)) ⟨fun h => ⟨h.1, h.2.1, h.2.2⟩, fun h => ⟨h.r0, h.r1, h.r2⟩⟩
theorem getD_len {l : List Str} {B : Nat} (h : ∀ t ∈ l, t.length ≤ B) (i : Nat) : (l.getD i []).length ≤ B := by
  rw [List.getD_eq_getElem?_getD]
  cases hx : l[i]? with
  | none => simp
  | some x => exact h x (List.mem_of_getElem? hx)
section
variable {A0 : Type}
abbrev F_1 (A0 : Type) := (R : Type) → (A0 → Option R) → Option R
def T_1 (G : F_1 A0) (Q0 : A0 → Prop) : Prop := (∃ v0, Q0 v0 ∧ ∀ R k0, G R k0 = k0 v0)
variable {G H : F_1 A0} {Q0 : A0 → Prop}
theorem T_1.of (h : Tot (fun R (k : (A0) → Option R) => G R (fun v0 => k (v0))) (fun p => Q0 p)) : T_1 G Q0 := by
 obtain ⟨v0, hq, e⟩ := h
 · exact ⟨v0, hq, fun R k0 => e R (fun p => k0 p)⟩
theorem T_1.bind {B : Type} {Q : B → Prop} {X0 : A0 → (R : Type) → (B → Option R) → Option R} (h : T_1 G Q0) (h0 : ∀ v0, Q0 v0 → Tot (X0 v0) Q) : Tot (fun R k => G R (fun v0 => X0 v0 R k)) Q := by
 rcases h with ⟨v0, hq, e⟩
 · obtain ⟨v, hv, e2⟩ := h0 v0 hq
   exact ⟨v, hv, fun R k => (e R _).trans (e2 R k)⟩
end
section
variable {A0 A1 : Type}
abbrev F_2 (A0 A1 : Type) := (R : Type) → (A0 → A1 → Option R) → Option R
def T_2 (G : F_2 A0 A1) (Q0 : A0 → A1 → Prop) : Prop := (∃ v0 v1, Q0 v0 v1 ∧ ∀ R k0, G R k0 = k0 v0 v1)
variable {G H : F_2 A0 A1} {Q0 : A0 → A1 → Prop}
theorem T_2.of (h : Tot (fun R (k : (A0 × A1) → Option R) => G R (fun v0 v1 => k ((v0, v1)))) (fun p => Q0 p.1 p.2)) : T_2 G Q0 := by
 obtain ⟨⟨v0, v1⟩, hq, e⟩ := h
 · exact ⟨v0, v1, hq, fun R k0 => e R (fun p => k0 p.1 p.2)⟩
theorem T_2.bind {B : Type} {Q : B → Prop} {X0 : A0 → A1 → (R : Type) → (B → Option R) → Option R} (h : T_2 G Q0) (h0 : ∀ v0 v1, Q0 v0 v1 → Tot (X0 v0 v1) Q) : Tot (fun R k => G R (fun v0 v1 => X0 v0 v1 R k)) Q := by
 rcases h with ⟨v0, v1, hq, e⟩
 · obtain ⟨v, hv, e2⟩ := h0 v0 v1 hq
   exact ⟨v, hv, fun R k => (e R _).trans (e2 R k)⟩
theorem T_2.congr (h : ∀ R k0, G R k0 = H R k0) (t : T_2 H Q0) : T_2 G Q0 := by
 have e : G = H := by funext R k0; exact h R k0
 rw [e]; exact t
end
section
variable {A0 A1 A2 : Type}
abbrev F_3 (A0 A1 A2 : Type) := (R : Type) → (A0 → A1 → A2 → Option R) → Option R
def T_3 (G : F_3 A0 A1 A2) (Q0 : A0 → A1 → A2 → Prop) : Prop := (∃ v0 v1 v2, Q0 v0 v1 v2 ∧ ∀ R k0, G R k0 = k0 v0 v1 v2)
variable {G H : F_3 A0 A1 A2} {Q0 : A0 → A1 → A2 → Prop}
theorem T_3.of (h : Tot (fun R (k : (A0 × A1 × A2) → Option R) => G R (fun v0 v1 v2 => k ((v0, v1, v2)))) (fun p => Q0 p.1 p.2.1 p.2.2)) : T_3 G Q0 := by
 obtain ⟨⟨v0, v1, v2⟩, hq, e⟩ := h
 · exact ⟨v0, v1, v2, hq, fun R k0 => e R (fun p => k0 p.1 p.2.1 p.2.2)⟩
theorem T_3.bind {B : Type} {Q : B → Prop} {X0 : A0 → A1 → A2 → (R : Type) → (B → Option R) → Option R} (h : T_3 G Q0) (h0 : ∀ v0 v1 v2, Q0 v0 v1 v2 → Tot (X0 v0 v1 v2) Q) : Tot (fun R k => G R (fun v0 v1 v2 => X0 v0 v1 v2 R k)) Q := by
 rcases h with ⟨v0, v1, v2, hq, e⟩
 · obtain ⟨v, hv, e2⟩ := h0 v0 v1 v2 hq
   exact ⟨v, hv, fun R k => (e R _).trans (e2 R k)⟩
theorem T_3.congr (h : ∀ R k0, G R k0 = H R k0) (t : T_3 H Q0) : T_3 G Q0 := by
 have e : G = H := by funext R k0; exact h R k0
 rw [e]; exact t
end
section
variable {A0 A1 A2 A3 A4 A5 A6 A7 A8 A9 A10 A11 A12 A13 A14 A15 A16 A17 : Type}
abbrev Z1d7 (A0 A1 A2 A3 A4 A5 A6 A7 A8 A9 A10 A11 A12 A13 A14 A15 A16 A17 : Type) := (R : Type) → (A0 → A1 → A2 → A3 → A4 → A5 → A6 → A7 → A8 → A9 → Option R) → (A10 → A11 → A12 → A13 → A14 → A15 → A16 → A17 → Option R) → Option R
def Z164 (G : Z1d7 A0 A1 A2 A3 A4 A5 A6 A7 A8 A9 A10 A11 A12 A13 A14 A15 A16 A17) (Q0 : A0 → A1 → A2 → A3 → A4 → A5 → A6 → A7 → A8 → A9 → Prop) (Q1 : A10 → A11 → A12 → A13 → A14 → A15 → A16 → A17 → Prop) : Prop := (∃ v0 v1 v2 v3 v4 v5 v6 v7 v8 v9, Q0 v0 v1 v2 v3 v4 v5 v6 v7 v8 v9 ∧ ∀ R k0 k1, G R k0 k1 = k0 v0 v1 v2 v3 v4 v5 v6 v7 v8 v9) ∨ (∃ v10 v11 v12 v13 v14 v15 v16 v17, Q1 v10 v11 v12 v13 v14 v15 v16 v17 ∧ ∀ R k0 k1, G R k0 k1 = k1 v10 v11 v12 v13 v14 v15 v16 v17)
variable {G H : Z1d7 A0 A1 A2 A3 A4 A5 A6 A7 A8 A9 A10 A11 A12 A13 A14 A15 A16 A17} {Q0 : A0 → A1 → A2 → A3 → A4 → A5 → A6 → A7 → A8 → A9 → Prop} {Q1 : A10 → A11 → A12 → A13 → A14 → A15 → A16 → A17 → Prop}
theorem Z164.of (h : Tot (fun R (k : (A0 × A1 × A2 × A3 × A4 × A5 × A6 × A7 × A8 × A9) ⊕ (A10 × A11 × A12 × A13 × A14 × A15 × A16 × A17) → Option R) => G R (fun v0 v1 v2 v3 v4 v5 v6 v7 v8 v9 => k (.inl (v0, v1, v2, v3, v4, v5, v6, v7, v8, v9))) (fun v10 v11 v12 v13 v14 v15 v16 v17 => k (.inr ((v10, v11, v12, v13, v14, v15, v16, v17))))) (Sum.elim (fun p => Q0 p.1 p.2.1 p.2.2.1 p.2.2.2.1 p.2.2.2.2.1 p.2.2.2.2.2.1 p.2.2.2.2.2.2.1 p.2.2.2.2.2.2.2.1 p.2.2.2.2.2.2.2.2.1 p.2.2.2.2.2.2.2.2.2) (fun p => Q1 p.1 p.2.1 p.2.2.1 p.2.2.2.1 p.2.2.2.2.1 p.2.2.2.2.2.1 p.2.2.2.2.2.2.1 p.2.2.2.2.2.2.2))) : Z164 G Q0 Q1 := by
 obtain ⟨v, hq, e⟩ := h
 rcases v with ⟨v0, v1, v2, v3, v4, v5, v6, v7, v8, v9⟩ | ⟨v10, v11, v12, v13, v14, v15, v16, v17⟩
 · exact Or.inl ⟨v0, v1, v2, v3, v4, v5, v6, v7, v8, v9, hq, fun R k0 k1 => e R (Sum.elim (fun p => k0 p.1 p.2.1 p.2.2.1 p.2.2.2.1 p.2.2.2.2.1 p.2.2.2.2.2.1 p.2.2.2.2.2.2.1 p.2.2.2.2.2.2.2.1 p.2.2.2.2.2.2.2.2.1 p.2.2.2.2.2.2.2.2.2) (fun p => k1 p.1 p.2.1 p.2.2.1 p.2.2.2.1 p.2.2.2.2.1 p.2.2.2.2.2.1 p.2.2.2.2.2.2.1 p.2.2.2.2.2.2.2))⟩
 · exact Or.inr (⟨v10, v11, v12, v13, v14, v15, v16, v17, hq, fun R k0 k1 => e R (Sum.elim (fun p => k0 p.1 p.2.1 p.2.2.1 p.2.2.2.1 p.2.2.2.2.1 p.2.2.2.2.2.1 p.2.2.2.2.2.2.1 p.2.2.2.2.2.2.2.1 p.2.2.2.2.2.2.2.2.1 p.2.2.2.2.2.2.2.2.2) (fun p => k1 p.1 p.2.1 p.2.2.1 p.2.2.2.1 p.2.2.2.2.1 p.2.2.2.2.2.1 p.2.2.2.2.2.2.1 p.2.2.2.2.2.2.2))⟩)
end
section
variable {A0 A1 A2 A3 A4 A5 A6 A7 : Type}
abbrev F_8 (A0 A1 A2 A3 A4 A5 A6 A7 : Type) := (R : Type) → (A0 → A1 → A2 → A3 → A4 → A5 → A6 → A7 → Option R) → Option R
def T_8 (G : F_8 A0 A1 A2 A3 A4 A5 A6 A7) (Q0 : A0 → A1 → A2 → A3 → A4 → A5 → A6 → A7 → Prop) : Prop := (∃ v0 v1 v2 v3 v4 v5 v6 v7, Q0 v0 v1 v2 v3 v4 v5 v6 v7 ∧ ∀ R k0, G R k0 = k0 v0 v1 v2 v3 v4 v5 v6 v7)
variable {G H : F_8 A0 A1 A2 A3 A4 A5 A6 A7} {Q0 : A0 → A1 → A2 → A3 → A4 → A5 → A6 → A7 → Prop}
theorem T_8.of (h : Tot (fun R (k : (A0 × A1 × A2 × A3 × A4 × A5 × A6 × A7) → Option R) => G R (fun v0 v1 v2 v3 v4 v5 v6 v7 => k ((v0, v1, v2, v3, v4, v5, v6, v7)))) (fun p => Q0 p.1 p.2.1 p.2.2.1 p.2.2.2.1 p.2.2.2.2.1 p.2.2.2.2.2.1 p.2.2.2.2.2.2.1 p.2.2.2.2.2.2.2)) : T_8 G Q0 := by
 obtain ⟨⟨v0, v1, v2, v3, v4, v5, v6, v7⟩, hq, e⟩ := h
 · exact ⟨v0, v1, v2, v3, v4, v5, v6, v7, hq, fun R k0 => e R (fun p => k0 p.1 p.2.1 p.2.2.1 p.2.2.2.1 p.2.2.2.2.1 p.2.2.2.2.2.1 p.2.2.2.2.2.2.1 p.2.2.2.2.2.2.2)⟩
theorem T_8.bind {B : Type} {Q : B → Prop} {X0 : A0 → A1 → A2 → A3 → A4 → A5 → A6 → A7 → (R : Type) → (B → Option R) → Option R} (h : T_8 G Q0) (h0 : ∀ v0 v1 v2 v3 v4 v5 v6 v7, Q0 v0 v1 v2 v3 v4 v5 v6 v7 → Tot (X0 v0 v1 v2 v3 v4 v5 v6 v7) Q) : Tot (fun R k => G R (fun v0 v1 v2 v3 v4 v5 v6 v7 => X0 v0 v1 v2 v3 v4 v5 v6 v7 R k)) Q := by
 rcases h with ⟨v0, v1, v2, v3, v4, v5, v6, v7, hq, e⟩
 · obtain ⟨v, hv, e2⟩ := h0 v0 v1 v2 v3 v4 v5 v6 v7 hq
   exact ⟨v, hv, fun R k => (e R _).trans (e2 R k)⟩
end
section
variable {A0 A1 A2 A3 A4 A5 A6 A7 A8 : Type}
abbrev F_9 (A0 A1 A2 A3 A4 A5 A6 A7 A8 : Type) := (R : Type) → (A0 → A1 → A2 → A3 → A4 → A5 → A6 → A7 → A8 → Option R) → Option R
def T_9 (G : F_9 A0 A1 A2 A3 A4 A5 A6 A7 A8) (Q0 : A0 → A1 → A2 → A3 → A4 → A5 → A6 → A7 → A8 → Prop) : Prop := (∃ v0 v1 v2 v3 v4 v5 v6 v7 v8, Q0 v0 v1 v2 v3 v4 v5 v6 v7 v8 ∧ ∀ R k0, G R k0 = k0 v0 v1 v2 v3 v4 v5 v6 v7 v8)
variable {G H : F_9 A0 A1 A2 A3 A4 A5 A6 A7 A8} {Q0 : A0 → A1 → A2 → A3 → A4 → A5 → A6 → A7 → A8 → Prop}
theorem T_9.of (h : Tot (fun R (k : (A0 × A1 × A2 × A3 × A4 × A5 × A6 × A7 × A8) → Option R) => G R (fun v0 v1 v2 v3 v4 v5 v6 v7 v8 => k ((v0, v1, v2, v3, v4, v5, v6, v7, v8)))) (fun p => Q0 p.1 p.2.1 p.2.2.1 p.2.2.2.1 p.2.2.2.2.1 p.2.2.2.2.2.1 p.2.2.2.2.2.2.1 p.2.2.2.2.2.2.2.1 p.2.2.2.2.2.2.2.2)) : T_9 G Q0 := by
 obtain ⟨⟨v0, v1, v2, v3, v4, v5, v6, v7, v8⟩, hq, e⟩ := h
 · exact ⟨v0, v1, v2, v3, v4, v5, v6, v7, v8, hq, fun R k0 => e R (fun p => k0 p.1 p.2.1 p.2.2.1 p.2.2.2.1 p.2.2.2.2.1 p.2.2.2.2.2.1 p.2.2.2.2.2.2.1 p.2.2.2.2.2.2.2.1 p.2.2.2.2.2.2.2.2)⟩
theorem T_9.bind {B : Type} {Q : B → Prop} {X0 : A0 → A1 → A2 → A3 → A4 → A5 → A6 → A7 → A8 → (R : Type) → (B → Option R) → Option R} (h : T_9 G Q0) (h0 : ∀ v0 v1 v2 v3 v4 v5 v6 v7 v8, Q0 v0 v1 v2 v3 v4 v5 v6 v7 v8 → Tot (X0 v0 v1 v2 v3 v4 v5 v6 v7 v8) Q) : Tot (fun R k => G R (fun v0 v1 v2 v3 v4 v5 v6 v7 v8 => X0 v0 v1 v2 v3 v4 v5 v6 v7 v8 R k)) Q := by
 rcases h with ⟨v0, v1, v2, v3, v4, v5, v6, v7, v8, hq, e⟩
 · obtain ⟨v, hv, e2⟩ := h0 v0 v1 v2 v3 v4 v5 v6 v7 v8 hq
   exact ⟨v, hv, fun R k => (e R _).trans (e2 R k)⟩
end
section
variable {A0 A1 A2 A3 A4 A5 A6 A7 A8 A9 A10 A11 A12 A13 A14 A15 A16 A17 A18 A19 A20 A21 A22 A23 A24 A25 A26 A27 A28 : Type}
abbrev Z1cr (A0 A1 A2 A3 A4 A5 A6 A7 A8 A9 A10 A11 A12 A13 A14 A15 A16 A17 A18 A19 A20 A21 A22 A23 A24 A25 A26 A27 A28 : Type) := (R : Type) → (A0 → A1 → A2 → A3 → A4 → A5 → A6 → A7 → A8 → A9 → A10 → A11 → A12 → A13 → A14 → A15 → Option R) → (A16 → A17 → A18 → A19 → A20 → A21 → A22 → A23 → A24 → A25 → A26 → A27 → A28 → Option R) → Option R
def Ztq (G : Z1cr A0 A1 A2 A3 A4 A5 A6 A7 A8 A9 A10 A11 A12 A13 A14 A15 A16 A17 A18 A19 A20 A21 A22 A23 A24 A25 A26 A27 A28) (Q0 : A0 → A1 → A2 → A3 → A4 → A5 → A6 → A7 → A8 → A9 → A10 → A11 → A12 → A13 → A14 → A15 → Prop) (Q1 : A16 → A17 → A18 → A19 → A20 → A21 → A22 → A23 → A24 → A25 → A26 → A27 → A28 → Prop) : Prop := (∃ v0 v1 v2 v3 v4 v5 v6 v7 v8 v9 v10 v11 v12 v13 v14 v15, Q0 v0 v1 v2 v3 v4 v5 v6 v7 v8 v9 v10 v11 v12 v13 v14 v15 ∧ ∀ R k0 k1, G R k0 k1 = k0 v0 v1 v2 v3 v4 v5 v6 v7 v8 v9 v10 v11 v12 v13 v14 v15) ∨ (∃ v16 v17 v18 v19 v20 v21 v22 v23 v24 v25 v26 v27 v28, Q1 v16 v17 v18 v19 v20 v21 v22 v23 v24 v25 v26 v27 v28 ∧ ∀ R k0 k1, G R k0 k1 = k1 v16 v17 v18 v19 v20 v21 v22 v23 v24 v25 v26 v27 v28)
variable {G H : Z1cr A0 A1 A2 A3 A4 A5 A6 A7 A8 A9 A10 A11 A12 A13 A14 A15 A16 A17 A18 A19 A20 A21 A22 A23 A24 A25 A26 A27 A28} {Q0 : A0 → A1 → A2 → A3 → A4 → A5 → A6 → A7 → A8 → A9 → A10 → A11 → A12 → A13 → A14 → A15 → Prop} {Q1 : A16 → A17 → A18 → A19 → A20 → A21 → A22 → A23 → A24 → A25 → A26 → A27 → A28 → Prop}
theorem Ztq.of (h : Tot (fun R (k : (A0 × A1 × A2 × A3 × A4 × A5 × A6 × A7 × A8 × A9 × A10 × A11 × A12 × A13 × A14 × A15) ⊕ (A16 × A17 × A18 × A19 × A20 × A21 × A22 × A23 × A24 × A25 × A26 × A27 × A28) → Option R) => G R (fun v0 v1 v2 v3 v4 v5 v6 v7 v8 v9 v10 v11 v12 v13 v14 v15 => k (.inl (v0, v1, v2, v3, v4, v5, v6, v7, v8, v9, v10, v11, v12, v13, v14, v15))) (fun v16 v17 v18 v19 v20 v21 v22 v23 v24 v25 v26 v27 v28 => k (.inr ((v16, v17, v18, v19, v20, v21, v22, v23, v24, v25, v26, v27, v28))))) (Sum.elim (fun p => Q0 p.1 p.2.1 p.2.2.1 p.2.2.2.1 p.2.2.2.2.1 p.2.2.2.2.2.1 p.2.2.2.2.2.2.1 p.2.2.2.2.2.2.2.1 p.2.2.2.2.2.2.2.2.1 p.2.2.2.2.2.2.2.2.2.1 p.2.2.2.2.2.2.2.2.2.2.1 p.2.2.2.2.2.2.2.2.2.2.2.1 p.2.2.2.2.2.2.2.2.2.2.2.2.1 p.2.2.2.2.2.2.2.2.2.2.2.2.2.1 p.2.2.2.2.2.2.2.2.2.2.2.2.2.2.1 p.2.2.2.2.2.2.2.2.2.2.2.2.2.2.2) (fun p => Q1 p.1 p.2.1 p.2.2.1 p.2.2.2.1 p.2.2.2.2.1 p.2.2.2.2.2.1 p.2.2.2.2.2.2.1 p.2.2.2.2.2.2.2.1 p.2.2.2.2.2.2.2.2.1 p.2.2.2.2.2.2.2.2.2.1 p.2.2.2.2.2.2.2.2.2.2.1 p.2.2.2.2.2.2.2.2.2.2.2.1 p.2.2.2.2.2.2.2.2.2.2.2.2))) : Ztq G Q0 Q1 := by
 obtain ⟨v, hq, e⟩ := h
 rcases v with ⟨v0, v1, v2, v3, v4, v5, v6, v7, v8, v9, v10, v11, v12, v13, v14, v15⟩ | ⟨v16, v17, v18, v19, v20, v21, v22, v23, v24, v25, v26, v27, v28⟩
 · exact Or.inl ⟨v0, v1, v2, v3, v4, v5, v6, v7, v8, v9, v10, v11, v12, v13, v14, v15, hq, fun R k0 k1 => e R (Sum.elim (fun p => k0 p.1 p.2.1 p.2.2.1 p.2.2.2.1 p.2.2.2.2.1 p.2.2.2.2.2.1 p.2.2.2.2.2.2.1 p.2.2.2.2.2.2.2.1 p.2.2.2.2.2.2.2.2.1 p.2.2.2.2.2.2.2.2.2.1 p.2.2.2.2.2.2.2.2.2.2.1 p.2.2.2.2.2.2.2.2.2.2.2.1 p.2.2.2.2.2.2.2.2.2.2.2.2.1 p.2.2.2.2.2.2.2.2.2.2.2.2.2.1 p.2.2.2.2.2.2.2.2.2.2.2.2.2.2.1 p.2.2.2.2.2.2.2.2.2.2.2.2.2.2.2) (fun p => k1 p.1 p.2.1 p.2.2.1 p.2.2.2.1 p.2.2.2.2.1 p.2.2.2.2.2.1 p.2.2.2.2.2.2.1 p.2.2.2.2.2.2.2.1 p.2.2.2.2.2.2.2.2.1 p.2.2.2.2.2.2.2.2.2.1 p.2.2.2.2.2.2.2.2.2.2.1 p.2.2.2.2.2.2.2.2.2.2.2.1 p.2.2.2.2.2.2.2.2.2.2.2.2))⟩
 · exact Or.inr (⟨v16, v17, v18, v19, v20, v21, v22, v23, v24, v25, v26, v27, v28, hq, fun R k0 k1 => e R (Sum.elim (fun p => k0 p.1 p.2.1 p.2.2.1 p.2.2.2.1 p.2.2.2.2.1 p.2.2.2.2.2.1 p.2.2.2.2.2.2.1 p.2.2.2.2.2.2.2.1 p.2.2.2.2.2.2.2.2.1 p.2.2.2.2.2.2.2.2.2.1 p.2.2.2.2.2.2.2.2.2.2.1 p.2.2.2.2.2.2.2.2.2.2.2.1 p.2.2.2.2.2.2.2.2.2.2.2.2.1 p.2.2.2.2.2.2.2.2.2.2.2.2.2.1 p.2.2.2.2.2.2.2.2.2.2.2.2.2.2.1 p.2.2.2.2.2.2.2.2.2.2.2.2.2.2.2) (fun p => k1 p.1 p.2.1 p.2.2.1 p.2.2.2.1 p.2.2.2.2.1 p.2.2.2.2.2.1 p.2.2.2.2.2.2.1 p.2.2.2.2.2.2.2.1 p.2.2.2.2.2.2.2.2.1 p.2.2.2.2.2.2.2.2.2.1 p.2.2.2.2.2.2.2.2.2.2.1 p.2.2.2.2.2.2.2.2.2.2.2.1 p.2.2.2.2.2.2.2.2.2.2.2.2))⟩)
end
section
variable {A0 A1 A2 A3 A4 A5 A6 A7 A8 A9 A10 A11 A12 : Type}
abbrev F_13 (A0 A1 A2 A3 A4 A5 A6 A7 A8 A9 A10 A11 A12 : Type) := (R : Type) → (A0 → A1 → A2 → A3 → A4 → A5 → A6 → A7 → A8 → A9 → A10 → A11 → A12 → Option R) → Option R
def T_13 (G : F_13 A0 A1 A2 A3 A4 A5 A6 A7 A8 A9 A10 A11 A12) (Q0 : A0 → A1 → A2 → A3 → A4 → A5 → A6 → A7 → A8 → A9 → A10 → A11 → A12 → Prop) : Prop := (∃ v0 v1 v2 v3 v4 v5 v6 v7 v8 v9 v10 v11 v12, Q0 v0 v1 v2 v3 v4 v5 v6 v7 v8 v9 v10 v11 v12 ∧ ∀ R k0, G R k0 = k0 v0 v1 v2 v3 v4 v5 v6 v7 v8 v9 v10 v11 v12)
variable {G H : F_13 A0 A1 A2 A3 A4 A5 A6 A7 A8 A9 A10 A11 A12} {Q0 : A0 → A1 → A2 → A3 → A4 → A5 → A6 → A7 → A8 → A9 → A10 → A11 → A12 → Prop}
theorem T_13.bind {B : Type} {Q : B → Prop} {X0 : A0 → A1 → A2 → A3 → A4 → A5 → A6 → A7 → A8 → A9 → A10 → A11 → A12 → (R : Type) → (B → Option R) → Option R} (h : T_13 G Q0) (h0 : ∀ v0 v1 v2 v3 v4 v5 v6 v7 v8 v9 v10 v11 v12, Q0 v0 v1 v2 v3 v4 v5 v6 v7 v8 v9 v10 v11 v12 → Tot (X0 v0 v1 v2 v3 v4 v5 v6 v7 v8 v9 v10 v11 v12) Q) : Tot (fun R k => G R (fun v0 v1 v2 v3 v4 v5 v6 v7 v8 v9 v10 v11 v12 => X0 v0 v1 v2 v3 v4 v5 v6 v7 v8 v9 v10 v11 v12 R k)) Q := by
 rcases h with ⟨v0, v1, v2, v3, v4, v5, v6, v7, v8, v9, v10, v11, v12, hq, e⟩
 · obtain ⟨v, hv, e2⟩ := h0 v0 v1 v2 v3 v4 v5 v6 v7 v8 v9 v10 v11 v12 hq
   exact ⟨v, hv, fun R k => (e R _).trans (e2 R k)⟩
end
section
variable {A0 A1 A2 A3 A4 A5 A6 A7 A8 A9 A10 A11 A12 A13 A14 A15 A16 A17 A18 A19 A20 A21 A22 A23 A24 A25 A26 : Type}
abbrev Z1cn (A0 A1 A2 A3 A4 A5 A6 A7 A8 A9 A10 A11 A12 A13 A14 A15 A16 A17 A18 A19 A20 A21 A22 A23 A24 A25 A26 : Type) := (R : Type) → (A0 → A1 → A2 → A3 → A4 → A5 → A6 → A7 → A8 → A9 → A10 → A11 → A12 → Option R) → (A13 → A14 → A15 → A16 → A17 → A18 → A19 → A20 → A21 → A22 → A23 → A24 → A25 → A26 → Option R) → Option R
def Z86 (G : Z1cn A0 A1 A2 A3 A4 A5 A6 A7 A8 A9 A10 A11 A12 A13 A14 A15 A16 A17 A18 A19 A20 A21 A22 A23 A24 A25 A26) (Q0 : A0 → A1 → A2 → A3 → A4 → A5 → A6 → A7 → A8 → A9 → A10 → A11 → A12 → Prop) (Q1 : A13 → A14 → A15 → A16 → A17 → A18 → A19 → A20 → A21 → A22 → A23 → A24 → A25 → A26 → Prop) : Prop := (∃ v0 v1 v2 v3 v4 v5 v6 v7 v8 v9 v10 v11 v12, Q0 v0 v1 v2 v3 v4 v5 v6 v7 v8 v9 v10 v11 v12 ∧ ∀ R k0 k1, G R k0 k1 = k0 v0 v1 v2 v3 v4 v5 v6 v7 v8 v9 v10 v11 v12) ∨ (∃ v13 v14 v15 v16 v17 v18 v19 v20 v21 v22 v23 v24 v25 v26, Q1 v13 v14 v15 v16 v17 v18 v19 v20 v21 v22 v23 v24 v25 v26 ∧ ∀ R k0 k1, G R k0 k1 = k1 v13 v14 v15 v16 v17 v18 v19 v20 v21 v22 v23 v24 v25 v26)
variable {G H : Z1cn A0 A1 A2 A3 A4 A5 A6 A7 A8 A9 A10 A11 A12 A13 A14 A15 A16 A17 A18 A19 A20 A21 A22 A23 A24 A25 A26} {Q0 : A0 → A1 → A2 → A3 → A4 → A5 → A6 → A7 → A8 → A9 → A10 → A11 → A12 → Prop} {Q1 : A13 → A14 → A15 → A16 → A17 → A18 → A19 → A20 → A21 → A22 → A23 → A24 → A25 → A26 → Prop}
theorem Z86.of (h : Tot (fun R (k : (A0 × A1 × A2 × A3 × A4 × A5 × A6 × A7 × A8 × A9 × A10 × A11 × A12) ⊕ (A13 × A14 × A15 × A16 × A17 × A18 × A19 × A20 × A21 × A22 × A23 × A24 × A25 × A26) → Option R) => G R (fun v0 v1 v2 v3 v4 v5 v6 v7 v8 v9 v10 v11 v12 => k (.inl (v0, v1, v2, v3, v4, v5, v6, v7, v8, v9, v10, v11, v12))) (fun v13 v14 v15 v16 v17 v18 v19 v20 v21 v22 v23 v24 v25 v26 => k (.inr ((v13, v14, v15, v16, v17, v18, v19, v20, v21, v22, v23, v24, v25, v26))))) (Sum.elim (fun p => Q0 p.1 p.2.1 p.2.2.1 p.2.2.2.1 p.2.2.2.2.1 p.2.2.2.2.2.1 p.2.2.2.2.2.2.1 p.2.2.2.2.2.2.2.1 p.2.2.2.2.2.2.2.2.1 p.2.2.2.2.2.2.2.2.2.1 p.2.2.2.2.2.2.2.2.2.2.1 p.2.2.2.2.2.2.2.2.2.2.2.1 p.2.2.2.2.2.2.2.2.2.2.2.2) (fun p => Q1 p.1 p.2.1 p.2.2.1 p.2.2.2.1 p.2.2.2.2.1 p.2.2.2.2.2.1 p.2.2.2.2.2.2.1 p.2.2.2.2.2.2.2.1 p.2.2.2.2.2.2.2.2.1 p.2.2.2.2.2.2.2.2.2.1 p.2.2.2.2.2.2.2.2.2.2.1 p.2.2.2.2.2.2.2.2.2.2.2.1 p.2.2.2.2.2.2.2.2.2.2.2.2.1 p.2.2.2.2.2.2.2.2.2.2.2.2.2))) : Z86 G Q0 Q1 := by
 obtain ⟨v, hq, e⟩ := h
 rcases v with ⟨v0, v1, v2, v3, v4, v5, v6, v7, v8, v9, v10, v11, v12⟩ | ⟨v13, v14, v15, v16, v17, v18, v19, v20, v21, v22, v23, v24, v25, v26⟩
 · exact Or.inl ⟨v0, v1, v2, v3, v4, v5, v6, v7, v8, v9, v10, v11, v12, hq, fun R k0 k1 => e R (Sum.elim (fun p => k0 p.1 p.2.1 p.2.2.1 p.2.2.2.1 p.2.2.2.2.1 p.2.2.2.2.2.1 p.2.2.2.2.2.2.1 p.2.2.2.2.2.2.2.1 p.2.2.2.2.2.2.2.2.1 p.2.2.2.2.2.2.2.2.2.1 p.2.2.2.2.2.2.2.2.2.2.1 p.2.2.2.2.2.2.2.2.2.2.2.1 p.2.2.2.2.2.2.2.2.2.2.2.2) (fun p => k1 p.1 p.2.1 p.2.2.1 p.2.2.2.1 p.2.2.2.2.1 p.2.2.2.2.2.1 p.2.2.2.2.2.2.1 p.2.2.2.2.2.2.2.1 p.2.2.2.2.2.2.2.2.1 p.2.2.2.2.2.2.2.2.2.1 p.2.2.2.2.2.2.2.2.2.2.1 p.2.2.2.2.2.2.2.2.2.2.2.1 p.2.2.2.2.2.2.2.2.2.2.2.2.1 p.2.2.2.2.2.2.2.2.2.2.2.2.2))⟩
 · exact Or.inr (⟨v13, v14, v15, v16, v17, v18, v19, v20, v21, v22, v23, v24, v25, v26, hq, fun R k0 k1 => e R (Sum.elim (fun p => k0 p.1 p.2.1 p.2.2.1 p.2.2.2.1 p.2.2.2.2.1 p.2.2.2.2.2.1 p.2.2.2.2.2.2.1 p.2.2.2.2.2.2.2.1 p.2.2.2.2.2.2.2.2.1 p.2.2.2.2.2.2.2.2.2.1 p.2.2.2.2.2.2.2.2.2.2.1 p.2.2.2.2.2.2.2.2.2.2.2.1 p.2.2.2.2.2.2.2.2.2.2.2.2) (fun p => k1 p.1 p.2.1 p.2.2.1 p.2.2.2.1 p.2.2.2.2.1 p.2.2.2.2.2.1 p.2.2.2.2.2.2.1 p.2.2.2.2.2.2.2.1 p.2.2.2.2.2.2.2.2.1 p.2.2.2.2.2.2.2.2.2.1 p.2.2.2.2.2.2.2.2.2.2.1 p.2.2.2.2.2.2.2.2.2.2.2.1 p.2.2.2.2.2.2.2.2.2.2.2.2.1 p.2.2.2.2.2.2.2.2.2.2.2.2.2))⟩)
theorem Z86.bind {B : Type} {Q : B → Prop} {X0 : A0 → A1 → A2 → A3 → A4 → A5 → A6 → A7 → A8 → A9 → A10 → A11 → A12 → (R : Type) → (B → Option R) → Option R} {X1 : A13 → A14 → A15 → A16 → A17 → A18 → A19 → A20 → A21 → A22 → A23 → A24 → A25 → A26 → (R : Type) → (B → Option R) → Option R} (h : Z86 G Q0 Q1) (h0 : ∀ v0 v1 v2 v3 v4 v5 v6 v7 v8 v9 v10 v11 v12, Q0 v0 v1 v2 v3 v4 v5 v6 v7 v8 v9 v10 v11 v12 → Tot (X0 v0 v1 v2 v3 v4 v5 v6 v7 v8 v9 v10 v11 v12) Q) (h1 : ∀ v13 v14 v15 v16 v17 v18 v19 v20 v21 v22 v23 v24 v25 v26, Q1 v13 v14 v15 v16 v17 v18 v19 v20 v21 v22 v23 v24 v25 v26 → Tot (X1 v13 v14 v15 v16 v17 v18 v19 v20 v21 v22 v23 v24 v25 v26) Q) : Tot (fun R k => G R (fun v0 v1 v2 v3 v4 v5 v6 v7 v8 v9 v10 v11 v12 => X0 v0 v1 v2 v3 v4 v5 v6 v7 v8 v9 v10 v11 v12 R k) (fun v13 v14 v15 v16 v17 v18 v19 v20 v21 v22 v23 v24 v25 v26 => X1 v13 v14 v15 v16 v17 v18 v19 v20 v21 v22 v23 v24 v25 v26 R k)) Q := by
 rcases h with ⟨v0, v1, v2, v3, v4, v5, v6, v7, v8, v9, v10, v11, v12, hq, e⟩ | ⟨v13, v14, v15, v16, v17, v18, v19, v20, v21, v22, v23, v24, v25, v26, hq, e⟩
 · obtain ⟨v, hv, e2⟩ := h0 v0 v1 v2 v3 v4 v5 v6 v7 v8 v9 v10 v11 v12 hq
   exact ⟨v, hv, fun R k => (e R _ _).trans (e2 R k)⟩
 · obtain ⟨v, hv, e2⟩ := h1 v13 v14 v15 v16 v17 v18 v19 v20 v21 v22 v23 v24 v25 v26 hq
   exact ⟨v, hv, fun R k => (e R _ _).trans (e2 R k)⟩
theorem Z86.congr (h : ∀ R k0 k1, G R k0 k1 = H R k0 k1) (t : Z86 H Q0 Q1) : Z86 G Q0 Q1 := by
 have e : G = H := by funext R k0 k1; exact h R k0 k1
 rw [e]; exact t
end
section
variable {A0 A1 A2 A3 A4 A5 A6 A7 A8 A9 A10 A11 A12 A13 A14 A15 A16 A17 A18 A19 A20 A21 : Type}
abbrev Z1dh (A0 A1 A2 A3 A4 A5 A6 A7 A8 A9 A10 A11 A12 A13 A14 A15 A16 A17 A18 A19 A20 A21 : Type) := (R : Type) → (A0 → A1 → A2 → A3 → A4 → A5 → A6 → A7 → A8 → A9 → A10 → A11 → A12 → Option R) → (A13 → A14 → A15 → A16 → A17 → A18 → A19 → A20 → A21 → Option R) → Option R
def Zyw (G : Z1dh A0 A1 A2 A3 A4 A5 A6 A7 A8 A9 A10 A11 A12 A13 A14 A15 A16 A17 A18 A19 A20 A21) (Q0 : A0 → A1 → A2 → A3 → A4 → A5 → A6 → A7 → A8 → A9 → A10 → A11 → A12 → Prop) (Q1 : A13 → A14 → A15 → A16 → A17 → A18 → A19 → A20 → A21 → Prop) : Prop := (∃ v0 v1 v2 v3 v4 v5 v6 v7 v8 v9 v10 v11 v12, Q0 v0 v1 v2 v3 v4 v5 v6 v7 v8 v9 v10 v11 v12 ∧ ∀ R k0 k1, G R k0 k1 = k0 v0 v1 v2 v3 v4 v5 v6 v7 v8 v9 v10 v11 v12) ∨ (∃ v13 v14 v15 v16 v17 v18 v19 v20 v21, Q1 v13 v14 v15 v16 v17 v18 v19 v20 v21 ∧ ∀ R k0 k1, G R k0 k1 = k1 v13 v14 v15 v16 v17 v18 v19 v20 v21)
variable {G H : Z1dh A0 A1 A2 A3 A4 A5 A6 A7 A8 A9 A10 A11 A12 A13 A14 A15 A16 A17 A18 A19 A20 A21} {Q0 : A0 → A1 → A2 → A3 → A4 → A5 → A6 → A7 → A8 → A9 → A10 → A11 → A12 → Prop} {Q1 : A13 → A14 → A15 → A16 → A17 → A18 → A19 → A20 → A21 → Prop}
theorem Zyw.of (h : Tot (fun R (k : (A0 × A1 × A2 × A3 × A4 × A5 × A6 × A7 × A8 × A9 × A10 × A11 × A12) ⊕ (A13 × A14 × A15 × A16 × A17 × A18 × A19 × A20 × A21) → Option R) => G R (fun v0 v1 v2 v3 v4 v5 v6 v7 v8 v9 v10 v11 v12 => k (.inl (v0, v1, v2, v3, v4, v5, v6, v7, v8, v9, v10, v11, v12))) (fun v13 v14 v15 v16 v17 v18 v19 v20 v21 => k (.inr ((v13, v14, v15, v16, v17, v18, v19, v20, v21))))) (Sum.elim (fun p => Q0 p.1 p.2.1 p.2.2.1 p.2.2.2.1 p.2.2.2.2.1 p.2.2.2.2.2.1 p.2.2.2.2.2.2.1 p.2.2.2.2.2.2.2.1 p.2.2.2.2.2.2.2.2.1 p.2.2.2.2.2.2.2.2.2.1 p.2.2.2.2.2.2.2.2.2.2.1 p.2.2.2.2.2.2.2.2.2.2.2.1 p.2.2.2.2.2.2.2.2.2.2.2.2) (fun p => Q1 p.1 p.2.1 p.2.2.1 p.2.2.2.1 p.2.2.2.2.1 p.2.2.2.2.2.1 p.2.2.2.2.2.2.1 p.2.2.2.2.2.2.2.1 p.2.2.2.2.2.2.2.2))) : Zyw G Q0 Q1 := by
 obtain ⟨v, hq, e⟩ := h
 rcases v with ⟨v0, v1, v2, v3, v4, v5, v6, v7, v8, v9, v10, v11, v12⟩ | ⟨v13, v14, v15, v16, v17, v18, v19, v20, v21⟩
 · exact Or.inl ⟨v0, v1, v2, v3, v4, v5, v6, v7, v8, v9, v10, v11, v12, hq, fun R k0 k1 => e R (Sum.elim (fun p => k0 p.1 p.2.1 p.2.2.1 p.2.2.2.1 p.2.2.2.2.1 p.2.2.2.2.2.1 p.2.2.2.2.2.2.1 p.2.2.2.2.2.2.2.1 p.2.2.2.2.2.2.2.2.1 p.2.2.2.2.2.2.2.2.2.1 p.2.2.2.2.2.2.2.2.2.2.1 p.2.2.2.2.2.2.2.2.2.2.2.1 p.2.2.2.2.2.2.2.2.2.2.2.2) (fun p => k1 p.1 p.2.1 p.2.2.1 p.2.2.2.1 p.2.2.2.2.1 p.2.2.2.2.2.1 p.2.2.2.2.2.2.1 p.2.2.2.2.2.2.2.1 p.2.2.2.2.2.2.2.2))⟩
 · exact Or.inr (⟨v13, v14, v15, v16, v17, v18, v19, v20, v21, hq, fun R k0 k1 => e R (Sum.elim (fun p => k0 p.1 p.2.1 p.2.2.1 p.2.2.2.1 p.2.2.2.2.1 p.2.2.2.2.2.1 p.2.2.2.2.2.2.1 p.2.2.2.2.2.2.2.1 p.2.2.2.2.2.2.2.2.1 p.2.2.2.2.2.2.2.2.2.1 p.2.2.2.2.2.2.2.2.2.2.1 p.2.2.2.2.2.2.2.2.2.2.2.1 p.2.2.2.2.2.2.2.2.2.2.2.2) (fun p => k1 p.1 p.2.1 p.2.2.1 p.2.2.2.1 p.2.2.2.2.1 p.2.2.2.2.2.1 p.2.2.2.2.2.2.1 p.2.2.2.2.2.2.2.1 p.2.2.2.2.2.2.2.2))⟩)
end
section
variable {A0 A1 A2 A3 A4 A5 A6 A7 A8 A9 A10 A11 A12 A13 A14 A15 A16 A17 A18 A19 A20 A21 A22 A23 A24 : Type}
abbrev Z1co (A0 A1 A2 A3 A4 A5 A6 A7 A8 A9 A10 A11 A12 A13 A14 A15 A16 A17 A18 A19 A20 A21 A22 A23 A24 : Type) := (R : Type) → (A0 → A1 → A2 → A3 → A4 → A5 → A6 → A7 → A8 → A9 → A10 → A11 → A12 → A13 → Option R) → (A14 → A15 → A16 → A17 → A18 → A19 → A20 → A21 → A22 → A23 → A24 → Option R) → Option R
def Zt6 (G : Z1co A0 A1 A2 A3 A4 A5 A6 A7 A8 A9 A10 A11 A12 A13 A14 A15 A16 A17 A18 A19 A20 A21 A22 A23 A24) (Q0 : A0 → A1 → A2 → A3 → A4 → A5 → A6 → A7 → A8 → A9 → A10 → A11 → A12 → A13 → Prop) (Q1 : A14 → A15 → A16 → A17 → A18 → A19 → A20 → A21 → A22 → A23 → A24 → Prop) : Prop := (∃ v0 v1 v2 v3 v4 v5 v6 v7 v8 v9 v10 v11 v12 v13, Q0 v0 v1 v2 v3 v4 v5 v6 v7 v8 v9 v10 v11 v12 v13 ∧ ∀ R k0 k1, G R k0 k1 = k0 v0 v1 v2 v3 v4 v5 v6 v7 v8 v9 v10 v11 v12 v13) ∨ (∃ v14 v15 v16 v17 v18 v19 v20 v21 v22 v23 v24, Q1 v14 v15 v16 v17 v18 v19 v20 v21 v22 v23 v24 ∧ ∀ R k0 k1, G R k0 k1 = k1 v14 v15 v16 v17 v18 v19 v20 v21 v22 v23 v24)
variable {G H : Z1co A0 A1 A2 A3 A4 A5 A6 A7 A8 A9 A10 A11 A12 A13 A14 A15 A16 A17 A18 A19 A20 A21 A22 A23 A24} {Q0 : A0 → A1 → A2 → A3 → A4 → A5 → A6 → A7 → A8 → A9 → A10 → A11 → A12 → A13 → Prop} {Q1 : A14 → A15 → A16 → A17 → A18 → A19 → A20 → A21 → A22 → A23 → A24 → Prop}
theorem Zt6.of (h : Tot (fun R (k : (A0 × A1 × A2 × A3 × A4 × A5 × A6 × A7 × A8 × A9 × A10 × A11 × A12 × A13) ⊕ (A14 × A15 × A16 × A17 × A18 × A19 × A20 × A21 × A22 × A23 × A24) → Option R) => G R (fun v0 v1 v2 v3 v4 v5 v6 v7 v8 v9 v10 v11 v12 v13 => k (.inl (v0, v1, v2, v3, v4, v5, v6, v7, v8, v9, v10, v11, v12, v13))) (fun v14 v15 v16 v17 v18 v19 v20 v21 v22 v23 v24 => k (.inr ((v14, v15, v16, v17, v18, v19, v20, v21, v22, v23, v24))))) (Sum.elim (fun p => Q0 p.1 p.2.1 p.2.2.1 p.2.2.2.1 p.2.2.2.2.1 p.2.2.2.2.2.1 p.2.2.2.2.2.2.1 p.2.2.2.2.2.2.2.1 p.2.2.2.2.2.2.2.2.1 p.2.2.2.2.2.2.2.2.2.1 p.2.2.2.2.2.2.2.2.2.2.1 p.2.2.2.2.2.2.2.2.2.2.2.1 p.2.2.2.2.2.2.2.2.2.2.2.2.1 p.2.2.2.2.2.2.2.2.2.2.2.2.2) (fun p => Q1 p.1 p.2.1 p.2.2.1 p.2.2.2.1 p.2.2.2.2.1 p.2.2.2.2.2.1 p.2.2.2.2.2.2.1 p.2.2.2.2.2.2.2.1 p.2.2.2.2.2.2.2.2.1 p.2.2.2.2.2.2.2.2.2.1 p.2.2.2.2.2.2.2.2.2.2))) : Zt6 G Q0 Q1 := by
 obtain ⟨v, hq, e⟩ := h
 rcases v with ⟨v0, v1, v2, v3, v4, v5, v6, v7, v8, v9, v10, v11, v12, v13⟩ | ⟨v14, v15, v16, v17, v18, v19, v20, v21, v22, v23, v24⟩
 · exact Or.inl ⟨v0, v1, v2, v3, v4, v5, v6, v7, v8, v9, v10, v11, v12, v13, hq, fun R k0 k1 => e R (Sum.elim (fun p => k0 p.1 p.2.1 p.2.2.1 p.2.2.2.1 p.2.2.2.2.1 p.2.2.2.2.2.1 p.2.2.2.2.2.2.1 p.2.2.2.2.2.2.2.1 p.2.2.2.2.2.2.2.2.1 p.2.2.2.2.2.2.2.2.2.1 p.2.2.2.2.2.2.2.2.2.2.1 p.2.2.2.2.2.2.2.2.2.2.2.1 p.2.2.2.2.2.2.2.2.2.2.2.2.1 p.2.2.2.2.2.2.2.2.2.2.2.2.2) (fun p => k1 p.1 p.2.1 p.2.2.1 p.2.2.2.1 p.2.2.2.2.1 p.2.2.2.2.2.1 p.2.2.2.2.2.2.1 p.2.2.2.2.2.2.2.1 p.2.2.2.2.2.2.2.2.1 p.2.2.2.2.2.2.2.2.2.1 p.2.2.2.2.2.2.2.2.2.2))⟩
 · exact Or.inr (⟨v14, v15, v16, v17, v18, v19, v20, v21, v22, v23, v24, hq, fun R k0 k1 => e R (Sum.elim (fun p => k0 p.1 p.2.1 p.2.2.1 p.2.2.2.1 p.2.2.2.2.1 p.2.2.2.2.2.1 p.2.2.2.2.2.2.1 p.2.2.2.2.2.2.2.1 p.2.2.2.2.2.2.2.2.1 p.2.2.2.2.2.2.2.2.2.1 p.2.2.2.2.2.2.2.2.2.2.1 p.2.2.2.2.2.2.2.2.2.2.2.1 p.2.2.2.2.2.2.2.2.2.2.2.2.1 p.2.2.2.2.2.2.2.2.2.2.2.2.2) (fun p => k1 p.1 p.2.1 p.2.2.1 p.2.2.2.1 p.2.2.2.2.1 p.2.2.2.2.2.1 p.2.2.2.2.2.2.1 p.2.2.2.2.2.2.2.1 p.2.2.2.2.2.2.2.2.1 p.2.2.2.2.2.2.2.2.2.1 p.2.2.2.2.2.2.2.2.2.2))⟩)
end
section
variable {A0 A1 A2 A3 A4 A5 A6 A7 A8 A9 A10 : Type}
abbrev F_11 (A0 A1 A2 A3 A4 A5 A6 A7 A8 A9 A10 : Type) := (R : Type) → (A0 → A1 → A2 → A3 → A4 → A5 → A6 → A7 → A8 → A9 → A10 → Option R) → Option R
def T_11 (G : F_11 A0 A1 A2 A3 A4 A5 A6 A7 A8 A9 A10) (Q0 : A0 → A1 → A2 → A3 → A4 → A5 → A6 → A7 → A8 → A9 → A10 → Prop) : Prop := (∃ v0 v1 v2 v3 v4 v5 v6 v7 v8 v9 v10, Q0 v0 v1 v2 v3 v4 v5 v6 v7 v8 v9 v10 ∧ ∀ R k0, G R k0 = k0 v0 v1 v2 v3 v4 v5 v6 v7 v8 v9 v10)
variable {G H : F_11 A0 A1 A2 A3 A4 A5 A6 A7 A8 A9 A10} {Q0 : A0 → A1 → A2 → A3 → A4 → A5 → A6 → A7 → A8 → A9 → A10 → Prop}
theorem T_11.bind {B : Type} {Q : B → Prop} {X0 : A0 → A1 → A2 → A3 → A4 → A5 → A6 → A7 → A8 → A9 → A10 → (R : Type) → (B → Option R) → Option R} (h : T_11 G Q0) (h0 : ∀ v0 v1 v2 v3 v4 v5 v6 v7 v8 v9 v10, Q0 v0 v1 v2 v3 v4 v5 v6 v7 v8 v9 v10 → Tot (X0 v0 v1 v2 v3 v4 v5 v6 v7 v8 v9 v10) Q) : Tot (fun R k => G R (fun v0 v1 v2 v3 v4 v5 v6 v7 v8 v9 v10 => X0 v0 v1 v2 v3 v4 v5 v6 v7 v8 v9 v10 R k)) Q := by
 rcases h with ⟨v0, v1, v2, v3, v4, v5, v6, v7, v8, v9, v10, hq, e⟩
 · obtain ⟨v, hv, e2⟩ := h0 v0 v1 v2 v3 v4 v5 v6 v7 v8 v9 v10 hq
   exact ⟨v, hv, fun R k => (e R _).trans (e2 R k)⟩
end
section
variable {A0 A1 A2 A3 A4 A5 A6 A7 A8 A9 A10 A11 A12 A13 A14 A15 A16 A17 A18 A19 A20 A21 : Type}
abbrev Z1cp (A0 A1 A2 A3 A4 A5 A6 A7 A8 A9 A10 A11 A12 A13 A14 A15 A16 A17 A18 A19 A20 A21 : Type) := (R : Type) → (A0 → A1 → A2 → A3 → A4 → A5 → A6 → A7 → A8 → A9 → A10 → A11 → Option R) → (A12 → A13 → A14 → A15 → A16 → A17 → A18 → A19 → A20 → A21 → Option R) → Option R
def Ztb (G : Z1cp A0 A1 A2 A3 A4 A5 A6 A7 A8 A9 A10 A11 A12 A13 A14 A15 A16 A17 A18 A19 A20 A21) (Q0 : A0 → A1 → A2 → A3 → A4 → A5 → A6 → A7 → A8 → A9 → A10 → A11 → Prop) (Q1 : A12 → A13 → A14 → A15 → A16 → A17 → A18 → A19 → A20 → A21 → Prop) : Prop := (∃ v0 v1 v2 v3 v4 v5 v6 v7 v8 v9 v10 v11, Q0 v0 v1 v2 v3 v4 v5 v6 v7 v8 v9 v10 v11 ∧ ∀ R k0 k1, G R k0 k1 = k0 v0 v1 v2 v3 v4 v5 v6 v7 v8 v9 v10 v11) ∨ (∃ v12 v13 v14 v15 v16 v17 v18 v19 v20 v21, Q1 v12 v13 v14 v15 v16 v17 v18 v19 v20 v21 ∧ ∀ R k0 k1, G R k0 k1 = k1 v12 v13 v14 v15 v16 v17 v18 v19 v20 v21)
variable {G H : Z1cp A0 A1 A2 A3 A4 A5 A6 A7 A8 A9 A10 A11 A12 A13 A14 A15 A16 A17 A18 A19 A20 A21} {Q0 : A0 → A1 → A2 → A3 → A4 → A5 → A6 → A7 → A8 → A9 → A10 → A11 → Prop} {Q1 : A12 → A13 → A14 → A15 → A16 → A17 → A18 → A19 → A20 → A21 → Prop}
theorem Ztb.of (h : Tot (fun R (k : (A0 × A1 × A2 × A3 × A4 × A5 × A6 × A7 × A8 × A9 × A10 × A11) ⊕ (A12 × A13 × A14 × A15 × A16 × A17 × A18 × A19 × A20 × A21) → Option R) => G R (fun v0 v1 v2 v3 v4 v5 v6 v7 v8 v9 v10 v11 => k (.inl (v0, v1, v2, v3, v4, v5, v6, v7, v8, v9, v10, v11))) (fun v12 v13 v14 v15 v16 v17 v18 v19 v20 v21 => k (.inr ((v12, v13, v14, v15, v16, v17, v18, v19, v20, v21))))) (Sum.elim (fun p => Q0 p.1 p.2.1 p.2.2.1 p.2.2.2.1 p.2.2.2.2.1 p.2.2.2.2.2.1 p.2.2.2.2.2.2.1 p.2.2.2.2.2.2.2.1 p.2.2.2.2.2.2.2.2.1 p.2.2.2.2.2.2.2.2.2.1 p.2.2.2.2.2.2.2.2.2.2.1 p.2.2.2.2.2.2.2.2.2.2.2) (fun p => Q1 p.1 p.2.1 p.2.2.1 p.2.2.2.1 p.2.2.2.2.1 p.2.2.2.2.2.1 p.2.2.2.2.2.2.1 p.2.2.2.2.2.2.2.1 p.2.2.2.2.2.2.2.2.1 p.2.2.2.2.2.2.2.2.2))) : Ztb G Q0 Q1 := by
 obtain ⟨v, hq, e⟩ := h
 rcases v with ⟨v0, v1, v2, v3, v4, v5, v6, v7, v8, v9, v10, v11⟩ | ⟨v12, v13, v14, v15, v16, v17, v18, v19, v20, v21⟩
 · exact Or.inl ⟨v0, v1, v2, v3, v4, v5, v6, v7, v8, v9, v10, v11, hq, fun R k0 k1 => e R (Sum.elim (fun p => k0 p.1 p.2.1 p.2.2.1 p.2.2.2.1 p.2.2.2.2.1 p.2.2.2.2.2.1 p.2.2.2.2.2.2.1 p.2.2.2.2.2.2.2.1 p.2.2.2.2.2.2.2.2.1 p.2.2.2.2.2.2.2.2.2.1 p.2.2.2.2.2.2.2.2.2.2.1 p.2.2.2.2.2.2.2.2.2.2.2) (fun p => k1 p.1 p.2.1 p.2.2.1 p.2.2.2.1 p.2.2.2.2.1 p.2.2.2.2.2.1 p.2.2.2.2.2.2.1 p.2.2.2.2.2.2.2.1 p.2.2.2.2.2.2.2.2.1 p.2.2.2.2.2.2.2.2.2))⟩
 · exact Or.inr (⟨v12, v13, v14, v15, v16, v17, v18, v19, v20, v21, hq, fun R k0 k1 => e R (Sum.elim (fun p => k0 p.1 p.2.1 p.2.2.1 p.2.2.2.1 p.2.2.2.2.1 p.2.2.2.2.2.1 p.2.2.2.2.2.2.1 p.2.2.2.2.2.2.2.1 p.2.2.2.2.2.2.2.2.1 p.2.2.2.2.2.2.2.2.2.1 p.2.2.2.2.2.2.2.2.2.2.1 p.2.2.2.2.2.2.2.2.2.2.2) (fun p => k1 p.1 p.2.1 p.2.2.1 p.2.2.2.1 p.2.2.2.2.1 p.2.2.2.2.2.1 p.2.2.2.2.2.2.1 p.2.2.2.2.2.2.2.1 p.2.2.2.2.2.2.2.2.1 p.2.2.2.2.2.2.2.2.2))⟩)
end
section
variable {A0 A1 A2 A3 A4 A5 A6 A7 A8 A9 : Type}
abbrev F_10 (A0 A1 A2 A3 A4 A5 A6 A7 A8 A9 : Type) := (R : Type) → (A0 → A1 → A2 → A3 → A4 → A5 → A6 → A7 → A8 → A9 → Option R) → Option R
def T_10 (G : F_10 A0 A1 A2 A3 A4 A5 A6 A7 A8 A9) (Q0 : A0 → A1 → A2 → A3 → A4 → A5 → A6 → A7 → A8 → A9 → Prop) : Prop := (∃ v0 v1 v2 v3 v4 v5 v6 v7 v8 v9, Q0 v0 v1 v2 v3 v4 v5 v6 v7 v8 v9 ∧ ∀ R k0, G R k0 = k0 v0 v1 v2 v3 v4 v5 v6 v7 v8 v9)
variable {G H : F_10 A0 A1 A2 A3 A4 A5 A6 A7 A8 A9} {Q0 : A0 → A1 → A2 → A3 → A4 → A5 → A6 → A7 → A8 → A9 → Prop}
theorem T_10.bind {B : Type} {Q : B → Prop} {X0 : A0 → A1 → A2 → A3 → A4 → A5 → A6 → A7 → A8 → A9 → (R : Type) → (B → Option R) → Option R} (h : T_10 G Q0) (h0 : ∀ v0 v1 v2 v3 v4 v5 v6 v7 v8 v9, Q0 v0 v1 v2 v3 v4 v5 v6 v7 v8 v9 → Tot (X0 v0 v1 v2 v3 v4 v5 v6 v7 v8 v9) Q) : Tot (fun R k => G R (fun v0 v1 v2 v3 v4 v5 v6 v7 v8 v9 => X0 v0 v1 v2 v3 v4 v5 v6 v7 v8 v9 R k)) Q := by
 rcases h with ⟨v0, v1, v2, v3, v4, v5, v6, v7, v8, v9, hq, e⟩
 · obtain ⟨v, hv, e2⟩ := h0 v0 v1 v2 v3 v4 v5 v6 v7 v8 v9 hq
   exact ⟨v, hv, fun R k => (e R _).trans (e2 R k)⟩
end
section
variable {A0 A1 A2 A3 A4 A5 A6 A7 A8 A9 A10 A11 A12 A13 A14 A15 A16 A17 A18 A19 : Type}
abbrev Z1cm (A0 A1 A2 A3 A4 A5 A6 A7 A8 A9 A10 A11 A12 A13 A14 A15 A16 A17 A18 A19 : Type) := (R : Type) → (A0 → A1 → A2 → A3 → A4 → A5 → A6 → A7 → A8 → A9 → Option R) → (A10 → A11 → A12 → A13 → A14 → A15 → A16 → A17 → A18 → A19 → Option R) → Option R
def Zta (G : Z1cm A0 A1 A2 A3 A4 A5 A6 A7 A8 A9 A10 A11 A12 A13 A14 A15 A16 A17 A18 A19) (Q0 : A0 → A1 → A2 → A3 → A4 → A5 → A6 → A7 → A8 → A9 → Prop) (Q1 : A10 → A11 → A12 → A13 → A14 → A15 → A16 → A17 → A18 → A19 → Prop) : Prop := (∃ v0 v1 v2 v3 v4 v5 v6 v7 v8 v9, Q0 v0 v1 v2 v3 v4 v5 v6 v7 v8 v9 ∧ ∀ R k0 k1, G R k0 k1 = k0 v0 v1 v2 v3 v4 v5 v6 v7 v8 v9) ∨ (∃ v10 v11 v12 v13 v14 v15 v16 v17 v18 v19, Q1 v10 v11 v12 v13 v14 v15 v16 v17 v18 v19 ∧ ∀ R k0 k1, G R k0 k1 = k1 v10 v11 v12 v13 v14 v15 v16 v17 v18 v19)
variable {G H : Z1cm A0 A1 A2 A3 A4 A5 A6 A7 A8 A9 A10 A11 A12 A13 A14 A15 A16 A17 A18 A19} {Q0 : A0 → A1 → A2 → A3 → A4 → A5 → A6 → A7 → A8 → A9 → Prop} {Q1 : A10 → A11 → A12 → A13 → A14 → A15 → A16 → A17 → A18 → A19 → Prop}
theorem Zta.of (h : Tot (fun R (k : (A0 × A1 × A2 × A3 × A4 × A5 × A6 × A7 × A8 × A9) ⊕ (A10 × A11 × A12 × A13 × A14 × A15 × A16 × A17 × A18 × A19) → Option R) => G R (fun v0 v1 v2 v3 v4 v5 v6 v7 v8 v9 => k (.inl (v0, v1, v2, v3, v4, v5, v6, v7, v8, v9))) (fun v10 v11 v12 v13 v14 v15 v16 v17 v18 v19 => k (.inr ((v10, v11, v12, v13, v14, v15, v16, v17, v18, v19))))) (Sum.elim (fun p => Q0 p.1 p.2.1 p.2.2.1 p.2.2.2.1 p.2.2.2.2.1 p.2.2.2.2.2.1 p.2.2.2.2.2.2.1 p.2.2.2.2.2.2.2.1 p.2.2.2.2.2.2.2.2.1 p.2.2.2.2.2.2.2.2.2) (fun p => Q1 p.1 p.2.1 p.2.2.1 p.2.2.2.1 p.2.2.2.2.1 p.2.2.2.2.2.1 p.2.2.2.2.2.2.1 p.2.2.2.2.2.2.2.1 p.2.2.2.2.2.2.2.2.1 p.2.2.2.2.2.2.2.2.2))) : Zta G Q0 Q1 := by
 obtain ⟨v, hq, e⟩ := h
 rcases v with ⟨v0, v1, v2, v3, v4, v5, v6, v7, v8, v9⟩ | ⟨v10, v11, v12, v13, v14, v15, v16, v17, v18, v19⟩
 · exact Or.inl ⟨v0, v1, v2, v3, v4, v5, v6, v7, v8, v9, hq, fun R k0 k1 => e R (Sum.elim (fun p => k0 p.1 p.2.1 p.2.2.1 p.2.2.2.1 p.2.2.2.2.1 p.2.2.2.2.2.1 p.2.2.2.2.2.2.1 p.2.2.2.2.2.2.2.1 p.2.2.2.2.2.2.2.2.1 p.2.2.2.2.2.2.2.2.2) (fun p => k1 p.1 p.2.1 p.2.2.1 p.2.2.2.1 p.2.2.2.2.1 p.2.2.2.2.2.1 p.2.2.2.2.2.2.1 p.2.2.2.2.2.2.2.1 p.2.2.2.2.2.2.2.2.1 p.2.2.2.2.2.2.2.2.2))⟩
 · exact Or.inr (⟨v10, v11, v12, v13, v14, v15, v16, v17, v18, v19, hq, fun R k0 k1 => e R (Sum.elim (fun p => k0 p.1 p.2.1 p.2.2.1 p.2.2.2.1 p.2.2.2.2.1 p.2.2.2.2.2.1 p.2.2.2.2.2.2.1 p.2.2.2.2.2.2.2.1 p.2.2.2.2.2.2.2.2.1 p.2.2.2.2.2.2.2.2.2) (fun p => k1 p.1 p.2.1 p.2.2.1 p.2.2.2.1 p.2.2.2.2.1 p.2.2.2.2.2.1 p.2.2.2.2.2.2.1 p.2.2.2.2.2.2.2.1 p.2.2.2.2.2.2.2.2.1 p.2.2.2.2.2.2.2.2.2))⟩)
end
section
variable {A0 A1 A2 A3 A4 A5 A6 A7 A8 A9 A10 A11 A12 A13 A14 A15 A16 A17 A18 A19 : Type}
abbrev Z1de (A0 A1 A2 A3 A4 A5 A6 A7 A8 A9 A10 A11 A12 A13 A14 A15 A16 A17 A18 A19 : Type) := (R : Type) → (A0 → A1 → A2 → A3 → A4 → A5 → A6 → A7 → A8 → A9 → A10 → Option R) → (A11 → A12 → A13 → A14 → A15 → A16 → A17 → A18 → A19 → Option R) → Option R
def Zdv (G : Z1de A0 A1 A2 A3 A4 A5 A6 A7 A8 A9 A10 A11 A12 A13 A14 A15 A16 A17 A18 A19) (Q0 : A0 → A1 → A2 → A3 → A4 → A5 → A6 → A7 → A8 → A9 → A10 → Prop) (Q1 : A11 → A12 → A13 → A14 → A15 → A16 → A17 → A18 → A19 → Prop) : Prop := (∃ v0 v1 v2 v3 v4 v5 v6 v7 v8 v9 v10, Q0 v0 v1 v2 v3 v4 v5 v6 v7 v8 v9 v10 ∧ ∀ R k0 k1, G R k0 k1 = k0 v0 v1 v2 v3 v4 v5 v6 v7 v8 v9 v10) ∨ (∃ v11 v12 v13 v14 v15 v16 v17 v18 v19, Q1 v11 v12 v13 v14 v15 v16 v17 v18 v19 ∧ ∀ R k0 k1, G R k0 k1 = k1 v11 v12 v13 v14 v15 v16 v17 v18 v19)
variable {G H : Z1de A0 A1 A2 A3 A4 A5 A6 A7 A8 A9 A10 A11 A12 A13 A14 A15 A16 A17 A18 A19} {Q0 : A0 → A1 → A2 → A3 → A4 → A5 → A6 → A7 → A8 → A9 → A10 → Prop} {Q1 : A11 → A12 → A13 → A14 → A15 → A16 → A17 → A18 → A19 → Prop}
theorem Zdv.of (h : Tot (fun R (k : (A0 × A1 × A2 × A3 × A4 × A5 × A6 × A7 × A8 × A9 × A10) ⊕ (A11 × A12 × A13 × A14 × A15 × A16 × A17 × A18 × A19) → Option R) => G R (fun v0 v1 v2 v3 v4 v5 v6 v7 v8 v9 v10 => k (.inl (v0, v1, v2, v3, v4, v5, v6, v7, v8, v9, v10))) (fun v11 v12 v13 v14 v15 v16 v17 v18 v19 => k (.inr ((v11, v12, v13, v14, v15, v16, v17, v18, v19))))) (Sum.elim (fun p => Q0 p.1 p.2.1 p.2.2.1 p.2.2.2.1 p.2.2.2.2.1 p.2.2.2.2.2.1 p.2.2.2.2.2.2.1 p.2.2.2.2.2.2.2.1 p.2.2.2.2.2.2.2.2.1 p.2.2.2.2.2.2.2.2.2.1 p.2.2.2.2.2.2.2.2.2.2) (fun p => Q1 p.1 p.2.1 p.2.2.1 p.2.2.2.1 p.2.2.2.2.1 p.2.2.2.2.2.1 p.2.2.2.2.2.2.1 p.2.2.2.2.2.2.2.1 p.2.2.2.2.2.2.2.2))) : Zdv G Q0 Q1 := by
 obtain ⟨v, hq, e⟩ := h
 rcases v with ⟨v0, v1, v2, v3, v4, v5, v6, v7, v8, v9, v10⟩ | ⟨v11, v12, v13, v14, v15, v16, v17, v18, v19⟩
 · exact Or.inl ⟨v0, v1, v2, v3, v4, v5, v6, v7, v8, v9, v10, hq, fun R k0 k1 => e R (Sum.elim (fun p => k0 p.1 p.2.1 p.2.2.1 p.2.2.2.1 p.2.2.2.2.1 p.2.2.2.2.2.1 p.2.2.2.2.2.2.1 p.2.2.2.2.2.2.2.1 p.2.2.2.2.2.2.2.2.1 p.2.2.2.2.2.2.2.2.2.1 p.2.2.2.2.2.2.2.2.2.2) (fun p => k1 p.1 p.2.1 p.2.2.1 p.2.2.2.1 p.2.2.2.2.1 p.2.2.2.2.2.1 p.2.2.2.2.2.2.1 p.2.2.2.2.2.2.2.1 p.2.2.2.2.2.2.2.2))⟩
 · exact Or.inr (⟨v11, v12, v13, v14, v15, v16, v17, v18, v19, hq, fun R k0 k1 => e R (Sum.elim (fun p => k0 p.1 p.2.1 p.2.2.1 p.2.2.2.1 p.2.2.2.2.1 p.2.2.2.2.2.1 p.2.2.2.2.2.2.1 p.2.2.2.2.2.2.2.1 p.2.2.2.2.2.2.2.2.1 p.2.2.2.2.2.2.2.2.2.1 p.2.2.2.2.2.2.2.2.2.2) (fun p => k1 p.1 p.2.1 p.2.2.1 p.2.2.2.1 p.2.2.2.2.1 p.2.2.2.2.2.1 p.2.2.2.2.2.2.1 p.2.2.2.2.2.2.2.1 p.2.2.2.2.2.2.2.2))⟩)
end
section
variable {A0 A1 A2 A3 A4 A5 A6 A7 A8 A9 A10 A11 A12 A13 A14 A15 A16 A17 A18 A19 A20 A21 A22 A23 : Type}
abbrev Z1cq (A0 A1 A2 A3 A4 A5 A6 A7 A8 A9 A10 A11 A12 A13 A14 A15 A16 A17 A18 A19 A20 A21 A22 A23 : Type) := (R : Type) → (A0 → A1 → A2 → A3 → A4 → A5 → A6 → A7 → A8 → A9 → A10 → A11 → A12 → Option R) → (A13 → A14 → A15 → A16 → A17 → A18 → A19 → A20 → A21 → A22 → A23 → Option R) → Option R
def Ztd (G : Z1cq A0 A1 A2 A3 A4 A5 A6 A7 A8 A9 A10 A11 A12 A13 A14 A15 A16 A17 A18 A19 A20 A21 A22 A23) (Q0 : A0 → A1 → A2 → A3 → A4 → A5 → A6 → A7 → A8 → A9 → A10 → A11 → A12 → Prop) (Q1 : A13 → A14 → A15 → A16 → A17 → A18 → A19 → A20 → A21 → A22 → A23 → Prop) : Prop := (∃ v0 v1 v2 v3 v4 v5 v6 v7 v8 v9 v10 v11 v12, Q0 v0 v1 v2 v3 v4 v5 v6 v7 v8 v9 v10 v11 v12 ∧ ∀ R k0 k1, G R k0 k1 = k0 v0 v1 v2 v3 v4 v5 v6 v7 v8 v9 v10 v11 v12) ∨ (∃ v13 v14 v15 v16 v17 v18 v19 v20 v21 v22 v23, Q1 v13 v14 v15 v16 v17 v18 v19 v20 v21 v22 v23 ∧ ∀ R k0 k1, G R k0 k1 = k1 v13 v14 v15 v16 v17 v18 v19 v20 v21 v22 v23)
variable {G H : Z1cq A0 A1 A2 A3 A4 A5 A6 A7 A8 A9 A10 A11 A12 A13 A14 A15 A16 A17 A18 A19 A20 A21 A22 A23} {Q0 : A0 → A1 → A2 → A3 → A4 → A5 → A6 → A7 → A8 → A9 → A10 → A11 → A12 → Prop} {Q1 : A13 → A14 → A15 → A16 → A17 → A18 → A19 → A20 → A21 → A22 → A23 → Prop}
theorem Ztd.of (h : Tot (fun R (k : (A0 × A1 × A2 × A3 × A4 × A5 × A6 × A7 × A8 × A9 × A10 × A11 × A12) ⊕ (A13 × A14 × A15 × A16 × A17 × A18 × A19 × A20 × A21 × A22 × A23) → Option R) => G R (fun v0 v1 v2 v3 v4 v5 v6 v7 v8 v9 v10 v11 v12 => k (.inl (v0, v1, v2, v3, v4, v5, v6, v7, v8, v9, v10, v11, v12))) (fun v13 v14 v15 v16 v17 v18 v19 v20 v21 v22 v23 => k (.inr ((v13, v14, v15, v16, v17, v18, v19, v20, v21, v22, v23))))) (Sum.elim (fun p => Q0 p.1 p.2.1 p.2.2.1 p.2.2.2.1 p.2.2.2.2.1 p.2.2.2.2.2.1 p.2.2.2.2.2.2.1 p.2.2.2.2.2.2.2.1 p.2.2.2.2.2.2.2.2.1 p.2.2.2.2.2.2.2.2.2.1 p.2.2.2.2.2.2.2.2.2.2.1 p.2.2.2.2.2.2.2.2.2.2.2.1 p.2.2.2.2.2.2.2.2.2.2.2.2) (fun p => Q1 p.1 p.2.1 p.2.2.1 p.2.2.2.1 p.2.2.2.2.1 p.2.2.2.2.2.1 p.2.2.2.2.2.2.1 p.2.2.2.2.2.2.2.1 p.2.2.2.2.2.2.2.2.1 p.2.2.2.2.2.2.2.2.2.1 p.2.2.2.2.2.2.2.2.2.2))) : Ztd G Q0 Q1 := by
 obtain ⟨v, hq, e⟩ := h
 rcases v with ⟨v0, v1, v2, v3, v4, v5, v6, v7, v8, v9, v10, v11, v12⟩ | ⟨v13, v14, v15, v16, v17, v18, v19, v20, v21, v22, v23⟩
 · exact Or.inl ⟨v0, v1, v2, v3, v4, v5, v6, v7, v8, v9, v10, v11, v12, hq, fun R k0 k1 => e R (Sum.elim (fun p => k0 p.1 p.2.1 p.2.2.1 p.2.2.2.1 p.2.2.2.2.1 p.2.2.2.2.2.1 p.2.2.2.2.2.2.1 p.2.2.2.2.2.2.2.1 p.2.2.2.2.2.2.2.2.1 p.2.2.2.2.2.2.2.2.2.1 p.2.2.2.2.2.2.2.2.2.2.1 p.2.2.2.2.2.2.2.2.2.2.2.1 p.2.2.2.2.2.2.2.2.2.2.2.2) (fun p => k1 p.1 p.2.1 p.2.2.1 p.2.2.2.1 p.2.2.2.2.1 p.2.2.2.2.2.1 p.2.2.2.2.2.2.1 p.2.2.2.2.2.2.2.1 p.2.2.2.2.2.2.2.2.1 p.2.2.2.2.2.2.2.2.2.1 p.2.2.2.2.2.2.2.2.2.2))⟩
 · exact Or.inr (⟨v13, v14, v15, v16, v17, v18, v19, v20, v21, v22, v23, hq, fun R k0 k1 => e R (Sum.elim (fun p => k0 p.1 p.2.1 p.2.2.1 p.2.2.2.1 p.2.2.2.2.1 p.2.2.2.2.2.1 p.2.2.2.2.2.2.1 p.2.2.2.2.2.2.2.1 p.2.2.2.2.2.2.2.2.1 p.2.2.2.2.2.2.2.2.2.1 p.2.2.2.2.2.2.2.2.2.2.1 p.2.2.2.2.2.2.2.2.2.2.2.1 p.2.2.2.2.2.2.2.2.2.2.2.2) (fun p => k1 p.1 p.2.1 p.2.2.1 p.2.2.2.1 p.2.2.2.2.1 p.2.2.2.2.2.1 p.2.2.2.2.2.2.1 p.2.2.2.2.2.2.2.1 p.2.2.2.2.2.2.2.2.1 p.2.2.2.2.2.2.2.2.2.1 p.2.2.2.2.2.2.2.2.2.2))⟩)
end
section
variable {A0 A1 A2 A3 : Type}
abbrev Z1do (A0 A1 A2 A3 : Type) := (R : Type) → (A0 → A1 → A2 → Option R) → (A3 → Option R) → Option R
def Zxb (G : Z1do A0 A1 A2 A3) (Q0 : A0 → A1 → A2 → Prop) (Q1 : A3 → Prop) : Prop := (∃ v0 v1 v2, Q0 v0 v1 v2 ∧ ∀ R k0 k1, G R k0 k1 = k0 v0 v1 v2) ∨ (∃ v3, Q1 v3 ∧ ∀ R k0 k1, G R k0 k1 = k1 v3)
variable {G H : Z1do A0 A1 A2 A3} {Q0 : A0 → A1 → A2 → Prop} {Q1 : A3 → Prop}
theorem Zxb.of (h : Tot (fun R (k : (A0 × A1 × A2) ⊕ (A3) → Option R) => G R (fun v0 v1 v2 => k (.inl (v0, v1, v2))) (fun v3 => k (.inr (v3)))) (Sum.elim (fun p => Q0 p.1 p.2.1 p.2.2) (fun p => Q1 p))) : Zxb G Q0 Q1 := by
 obtain ⟨v, hq, e⟩ := h
 rcases v with ⟨v0, v1, v2⟩ | v3
 · exact Or.inl ⟨v0, v1, v2, hq, fun R k0 k1 => e R (Sum.elim (fun p => k0 p.1 p.2.1 p.2.2) (fun p => k1 p))⟩
 · exact Or.inr (⟨v3, hq, fun R k0 k1 => e R (Sum.elim (fun p => k0 p.1 p.2.1 p.2.2) (fun p => k1 p))⟩)
end
section
variable {A0 A1 A2 A3 A4 A5 A6 : Type}
abbrev Z1dw (A0 A1 A2 A3 A4 A5 A6 : Type) := (R : Type) → (A0 → A1 → A2 → A3 → Option R) → (A4 → A5 → A6 → Option R) → Option R
def Zxh (G : Z1dw A0 A1 A2 A3 A4 A5 A6) (Q0 : A0 → A1 → A2 → A3 → Prop) (Q1 : A4 → A5 → A6 → Prop) : Prop := (∃ v0 v1 v2 v3, Q0 v0 v1 v2 v3 ∧ ∀ R k0 k1, G R k0 k1 = k0 v0 v1 v2 v3) ∨ (∃ v4 v5 v6, Q1 v4 v5 v6 ∧ ∀ R k0 k1, G R k0 k1 = k1 v4 v5 v6)
variable {G H : Z1dw A0 A1 A2 A3 A4 A5 A6} {Q0 : A0 → A1 → A2 → A3 → Prop} {Q1 : A4 → A5 → A6 → Prop}
theorem Zxh.of (h : Tot (fun R (k : (A0 × A1 × A2 × A3) ⊕ (A4 × A5 × A6) → Option R) => G R (fun v0 v1 v2 v3 => k (.inl (v0, v1, v2, v3))) (fun v4 v5 v6 => k (.inr ((v4, v5, v6))))) (Sum.elim (fun p => Q0 p.1 p.2.1 p.2.2.1 p.2.2.2) (fun p => Q1 p.1 p.2.1 p.2.2))) : Zxh G Q0 Q1 := by
 obtain ⟨v, hq, e⟩ := h
 rcases v with ⟨v0, v1, v2, v3⟩ | ⟨v4, v5, v6⟩
 · exact Or.inl ⟨v0, v1, v2, v3, hq, fun R k0 k1 => e R (Sum.elim (fun p => k0 p.1 p.2.1 p.2.2.1 p.2.2.2) (fun p => k1 p.1 p.2.1 p.2.2))⟩
 · exact Or.inr (⟨v4, v5, v6, hq, fun R k0 k1 => e R (Sum.elim (fun p => k0 p.1 p.2.1 p.2.2.1 p.2.2.2) (fun p => k1 p.1 p.2.1 p.2.2))⟩)
end
section
variable {A0 A1 A2 A3 A4 A5 A6 : Type}
abbrev F_7 (A0 A1 A2 A3 A4 A5 A6 : Type) := (R : Type) → (A0 → A1 → A2 → A3 → A4 → A5 → A6 → Option R) → Option R
def T_7 (G : F_7 A0 A1 A2 A3 A4 A5 A6) (Q0 : A0 → A1 → A2 → A3 → A4 → A5 → A6 → Prop) : Prop := (∃ v0 v1 v2 v3 v4 v5 v6, Q0 v0 v1 v2 v3 v4 v5 v6 ∧ ∀ R k0, G R k0 = k0 v0 v1 v2 v3 v4 v5 v6)
variable {G H : F_7 A0 A1 A2 A3 A4 A5 A6} {Q0 : A0 → A1 → A2 → A3 → A4 → A5 → A6 → Prop}
theorem T_7.of (h : Tot (fun R (k : (A0 × A1 × A2 × A3 × A4 × A5 × A6) → Option R) => G R (fun v0 v1 v2 v3 v4 v5 v6 => k ((v0, v1, v2, v3, v4, v5, v6)))) (fun p => Q0 p.1 p.2.1 p.2.2.1 p.2.2.2.1 p.2.2.2.2.1 p.2.2.2.2.2.1 p.2.2.2.2.2.2)) : T_7 G Q0 := by
 obtain ⟨⟨v0, v1, v2, v3, v4, v5, v6⟩, hq, e⟩ := h
 · exact ⟨v0, v1, v2, v3, v4, v5, v6, hq, fun R k0 => e R (fun p => k0 p.1 p.2.1 p.2.2.1 p.2.2.2.1 p.2.2.2.2.1 p.2.2.2.2.2.1 p.2.2.2.2.2.2)⟩
theorem T_7.bind {B : Type} {Q : B → Prop} {X0 : A0 → A1 → A2 → A3 → A4 → A5 → A6 → (R : Type) → (B → Option R) → Option R} (h : T_7 G Q0) (h0 : ∀ v0 v1 v2 v3 v4 v5 v6, Q0 v0 v1 v2 v3 v4 v5 v6 → Tot (X0 v0 v1 v2 v3 v4 v5 v6) Q) : Tot (fun R k => G R (fun v0 v1 v2 v3 v4 v5 v6 => X0 v0 v1 v2 v3 v4 v5 v6 R k)) Q := by
 rcases h with ⟨v0, v1, v2, v3, v4, v5, v6, hq, e⟩
 · obtain ⟨v, hv, e2⟩ := h0 v0 v1 v2 v3 v4 v5 v6 hq
   exact ⟨v, hv, fun R k => (e R _).trans (e2 R k)⟩
theorem T_7.congr (h : ∀ R k0, G R k0 = H R k0) (t : T_7 H Q0) : T_7 G Q0 := by
 have e : G = H := by funext R k0; exact h R k0
 rw [e]; exact t
end
section
variable {A0 A1 A2 A3 A4 A5 A6 A7 A8 A9 A10 A11 : Type}
abbrev Z1dq (A0 A1 A2 A3 A4 A5 A6 A7 A8 A9 A10 A11 : Type) := (R : Type) → (A0 → A1 → A2 → A3 → A4 → A5 → A6 → Option R) → (A7 → A8 → A9 → A10 → A11 → Option R) → Option R
def Z14k (G : Z1dq A0 A1 A2 A3 A4 A5 A6 A7 A8 A9 A10 A11) (Q0 : A0 → A1 → A2 → A3 → A4 → A5 → A6 → Prop) (Q1 : A7 → A8 → A9 → A10 → A11 → Prop) : Prop := (∃ v0 v1 v2 v3 v4 v5 v6, Q0 v0 v1 v2 v3 v4 v5 v6 ∧ ∀ R k0 k1, G R k0 k1 = k0 v0 v1 v2 v3 v4 v5 v6) ∨ (∃ v7 v8 v9 v10 v11, Q1 v7 v8 v9 v10 v11 ∧ ∀ R k0 k1, G R k0 k1 = k1 v7 v8 v9 v10 v11)
variable {G H : Z1dq A0 A1 A2 A3 A4 A5 A6 A7 A8 A9 A10 A11} {Q0 : A0 → A1 → A2 → A3 → A4 → A5 → A6 → Prop} {Q1 : A7 → A8 → A9 → A10 → A11 → Prop}
theorem Z14k.of (h : Tot (fun R (k : (A0 × A1 × A2 × A3 × A4 × A5 × A6) ⊕ (A7 × A8 × A9 × A10 × A11) → Option R) => G R (fun v0 v1 v2 v3 v4 v5 v6 => k (.inl (v0, v1, v2, v3, v4, v5, v6))) (fun v7 v8 v9 v10 v11 => k (.inr ((v7, v8, v9, v10, v11))))) (Sum.elim (fun p => Q0 p.1 p.2.1 p.2.2.1 p.2.2.2.1 p.2.2.2.2.1 p.2.2.2.2.2.1 p.2.2.2.2.2.2) (fun p => Q1 p.1 p.2.1 p.2.2.1 p.2.2.2.1 p.2.2.2.2))) : Z14k G Q0 Q1 := by
 obtain ⟨v, hq, e⟩ := h
 rcases v with ⟨v0, v1, v2, v3, v4, v5, v6⟩ | ⟨v7, v8, v9, v10, v11⟩
 · exact Or.inl ⟨v0, v1, v2, v3, v4, v5, v6, hq, fun R k0 k1 => e R (Sum.elim (fun p => k0 p.1 p.2.1 p.2.2.1 p.2.2.2.1 p.2.2.2.2.1 p.2.2.2.2.2.1 p.2.2.2.2.2.2) (fun p => k1 p.1 p.2.1 p.2.2.1 p.2.2.2.1 p.2.2.2.2))⟩
 · exact Or.inr (⟨v7, v8, v9, v10, v11, hq, fun R k0 k1 => e R (Sum.elim (fun p => k0 p.1 p.2.1 p.2.2.1 p.2.2.2.1 p.2.2.2.2.1 p.2.2.2.2.2.1 p.2.2.2.2.2.2) (fun p => k1 p.1 p.2.1 p.2.2.1 p.2.2.2.1 p.2.2.2.2))⟩)
end
section
variable {A0 A1 A2 A3 A4 : Type}
abbrev F_5 (A0 A1 A2 A3 A4 : Type) := (R : Type) → (A0 → A1 → A2 → A3 → A4 → Option R) → Option R
def T_5 (G : F_5 A0 A1 A2 A3 A4) (Q0 : A0 → A1 → A2 → A3 → A4 → Prop) : Prop := (∃ v0 v1 v2 v3 v4, Q0 v0 v1 v2 v3 v4 ∧ ∀ R k0, G R k0 = k0 v0 v1 v2 v3 v4)
variable {G H : F_5 A0 A1 A2 A3 A4} {Q0 : A0 → A1 → A2 → A3 → A4 → Prop}
theorem T_5.of (h : Tot (fun R (k : (A0 × A1 × A2 × A3 × A4) → Option R) => G R (fun v0 v1 v2 v3 v4 => k ((v0, v1, v2, v3, v4)))) (fun p => Q0 p.1 p.2.1 p.2.2.1 p.2.2.2.1 p.2.2.2.2)) : T_5 G Q0 := by
 obtain ⟨⟨v0, v1, v2, v3, v4⟩, hq, e⟩ := h
 · exact ⟨v0, v1, v2, v3, v4, hq, fun R k0 => e R (fun p => k0 p.1 p.2.1 p.2.2.1 p.2.2.2.1 p.2.2.2.2)⟩
theorem T_5.bind {B : Type} {Q : B → Prop} {X0 : A0 → A1 → A2 → A3 → A4 → (R : Type) → (B → Option R) → Option R} (h : T_5 G Q0) (h0 : ∀ v0 v1 v2 v3 v4, Q0 v0 v1 v2 v3 v4 → Tot (X0 v0 v1 v2 v3 v4) Q) : Tot (fun R k => G R (fun v0 v1 v2 v3 v4 => X0 v0 v1 v2 v3 v4 R k)) Q := by
 rcases h with ⟨v0, v1, v2, v3, v4, hq, e⟩
 · obtain ⟨v, hv, e2⟩ := h0 v0 v1 v2 v3 v4 hq
   exact ⟨v, hv, fun R k => (e R _).trans (e2 R k)⟩
end
section
variable {A0 A1 A2 A3 A4 A5 A6 : Type}
abbrev Z1ds (A0 A1 A2 A3 A4 A5 A6 : Type) := (R : Type) → (A0 → A1 → A2 → A3 → A4 → Option R) → (A5 → A6 → Option R) → Option R
def Z19v (G : Z1ds A0 A1 A2 A3 A4 A5 A6) (Q0 : A0 → A1 → A2 → A3 → A4 → Prop) (Q1 : A5 → A6 → Prop) : Prop := (∃ v0 v1 v2 v3 v4, Q0 v0 v1 v2 v3 v4 ∧ ∀ R k0 k1, G R k0 k1 = k0 v0 v1 v2 v3 v4) ∨ (∃ v5 v6, Q1 v5 v6 ∧ ∀ R k0 k1, G R k0 k1 = k1 v5 v6)
variable {G H : Z1ds A0 A1 A2 A3 A4 A5 A6} {Q0 : A0 → A1 → A2 → A3 → A4 → Prop} {Q1 : A5 → A6 → Prop}
theorem Z19v.of (h : Tot (fun R (k : (A0 × A1 × A2 × A3 × A4) ⊕ (A5 × A6) → Option R) => G R (fun v0 v1 v2 v3 v4 => k (.inl (v0, v1, v2, v3, v4))) (fun v5 v6 => k (.inr ((v5, v6))))) (Sum.elim (fun p => Q0 p.1 p.2.1 p.2.2.1 p.2.2.2.1 p.2.2.2.2) (fun p => Q1 p.1 p.2))) : Z19v G Q0 Q1 := by
 obtain ⟨v, hq, e⟩ := h
 rcases v with ⟨v0, v1, v2, v3, v4⟩ | ⟨v5, v6⟩
 · exact Or.inl ⟨v0, v1, v2, v3, v4, hq, fun R k0 k1 => e R (Sum.elim (fun p => k0 p.1 p.2.1 p.2.2.1 p.2.2.2.1 p.2.2.2.2) (fun p => k1 p.1 p.2))⟩
 · exact Or.inr (⟨v5, v6, hq, fun R k0 k1 => e R (Sum.elim (fun p => k0 p.1 p.2.1 p.2.2.1 p.2.2.2.1 p.2.2.2.2) (fun p => k1 p.1 p.2))⟩)
end
section
variable {A0 A1 A2 A3 A4 A5 A6 A7 : Type}
abbrev Z1dv (A0 A1 A2 A3 A4 A5 A6 A7 : Type) := (R : Type) → (A0 → A1 → A2 → A3 → A4 → Option R) → (A5 → A6 → A7 → Option R) → Option R
def Zxn (G : Z1dv A0 A1 A2 A3 A4 A5 A6 A7) (Q0 : A0 → A1 → A2 → A3 → A4 → Prop) (Q1 : A5 → A6 → A7 → Prop) : Prop := (∃ v0 v1 v2 v3 v4, Q0 v0 v1 v2 v3 v4 ∧ ∀ R k0 k1, G R k0 k1 = k0 v0 v1 v2 v3 v4) ∨ (∃ v5 v6 v7, Q1 v5 v6 v7 ∧ ∀ R k0 k1, G R k0 k1 = k1 v5 v6 v7)
variable {G H : Z1dv A0 A1 A2 A3 A4 A5 A6 A7} {Q0 : A0 → A1 → A2 → A3 → A4 → Prop} {Q1 : A5 → A6 → A7 → Prop}
theorem Zxn.of (h : Tot (fun R (k : (A0 × A1 × A2 × A3 × A4) ⊕ (A5 × A6 × A7) → Option R) => G R (fun v0 v1 v2 v3 v4 => k (.inl (v0, v1, v2, v3, v4))) (fun v5 v6 v7 => k (.inr ((v5, v6, v7))))) (Sum.elim (fun p => Q0 p.1 p.2.1 p.2.2.1 p.2.2.2.1 p.2.2.2.2) (fun p => Q1 p.1 p.2.1 p.2.2))) : Zxn G Q0 Q1 := by
 obtain ⟨v, hq, e⟩ := h
 rcases v with ⟨v0, v1, v2, v3, v4⟩ | ⟨v5, v6, v7⟩
 · exact Or.inl ⟨v0, v1, v2, v3, v4, hq, fun R k0 k1 => e R (Sum.elim (fun p => k0 p.1 p.2.1 p.2.2.1 p.2.2.2.1 p.2.2.2.2) (fun p => k1 p.1 p.2.1 p.2.2))⟩
 · exact Or.inr (⟨v5, v6, v7, hq, fun R k0 k1 => e R (Sum.elim (fun p => k0 p.1 p.2.1 p.2.2.1 p.2.2.2.1 p.2.2.2.2) (fun p => k1 p.1 p.2.1 p.2.2))⟩)
end
section
variable {A0 A1 A2 A3 A4 A5 : Type}
abbrev Z1dt (A0 A1 A2 A3 A4 A5 : Type) := (R : Type) → (A0 → A1 → A2 → A3 → Option R) → (A4 → A5 → Option R) → Option R
def Zr0 (G : Z1dt A0 A1 A2 A3 A4 A5) (Q0 : A0 → A1 → A2 → A3 → Prop) (Q1 : A4 → A5 → Prop) : Prop := (∃ v0 v1 v2 v3, Q0 v0 v1 v2 v3 ∧ ∀ R k0 k1, G R k0 k1 = k0 v0 v1 v2 v3) ∨ (∃ v4 v5, Q1 v4 v5 ∧ ∀ R k0 k1, G R k0 k1 = k1 v4 v5)
variable {G H : Z1dt A0 A1 A2 A3 A4 A5} {Q0 : A0 → A1 → A2 → A3 → Prop} {Q1 : A4 → A5 → Prop}
theorem Zr0.of (h : Tot (fun R (k : (A0 × A1 × A2 × A3) ⊕ (A4 × A5) → Option R) => G R (fun v0 v1 v2 v3 => k (.inl (v0, v1, v2, v3))) (fun v4 v5 => k (.inr ((v4, v5))))) (Sum.elim (fun p => Q0 p.1 p.2.1 p.2.2.1 p.2.2.2) (fun p => Q1 p.1 p.2))) : Zr0 G Q0 Q1 := by
 obtain ⟨v, hq, e⟩ := h
 rcases v with ⟨v0, v1, v2, v3⟩ | ⟨v4, v5⟩
 · exact Or.inl ⟨v0, v1, v2, v3, hq, fun R k0 k1 => e R (Sum.elim (fun p => k0 p.1 p.2.1 p.2.2.1 p.2.2.2) (fun p => k1 p.1 p.2))⟩
 · exact Or.inr (⟨v4, v5, hq, fun R k0 k1 => e R (Sum.elim (fun p => k0 p.1 p.2.1 p.2.2.1 p.2.2.2) (fun p => k1 p.1 p.2))⟩)
end
section
variable {A0 A1 A2 A3 : Type}
abbrev F_4 (A0 A1 A2 A3 : Type) := (R : Type) → (A0 → A1 → A2 → A3 → Option R) → Option R
def T_4 (G : F_4 A0 A1 A2 A3) (Q0 : A0 → A1 → A2 → A3 → Prop) : Prop := (∃ v0 v1 v2 v3, Q0 v0 v1 v2 v3 ∧ ∀ R k0, G R k0 = k0 v0 v1 v2 v3)
variable {G H : F_4 A0 A1 A2 A3} {Q0 : A0 → A1 → A2 → A3 → Prop}
theorem T_4.of (h : Tot (fun R (k : (A0 × A1 × A2 × A3) → Option R) => G R (fun v0 v1 v2 v3 => k ((v0, v1, v2, v3)))) (fun p => Q0 p.1 p.2.1 p.2.2.1 p.2.2.2)) : T_4 G Q0 := by
 obtain ⟨⟨v0, v1, v2, v3⟩, hq, e⟩ := h
 · exact ⟨v0, v1, v2, v3, hq, fun R k0 => e R (fun p => k0 p.1 p.2.1 p.2.2.1 p.2.2.2)⟩
theorem T_4.bind {B : Type} {Q : B → Prop} {X0 : A0 → A1 → A2 → A3 → (R : Type) → (B → Option R) → Option R} (h : T_4 G Q0) (h0 : ∀ v0 v1 v2 v3, Q0 v0 v1 v2 v3 → Tot (X0 v0 v1 v2 v3) Q) : Tot (fun R k => G R (fun v0 v1 v2 v3 => X0 v0 v1 v2 v3 R k)) Q := by
 rcases h with ⟨v0, v1, v2, v3, hq, e⟩
 · obtain ⟨v, hv, e2⟩ := h0 v0 v1 v2 v3 hq
   exact ⟨v, hv, fun R k => (e R _).trans (e2 R k)⟩
end
section
variable {A0 A1 A2 A3 A4 A5 : Type}
abbrev F_6 (A0 A1 A2 A3 A4 A5 : Type) := (R : Type) → (A0 → A1 → A2 → A3 → A4 → A5 → Option R) → Option R
def T_6 (G : F_6 A0 A1 A2 A3 A4 A5) (Q0 : A0 → A1 → A2 → A3 → A4 → A5 → Prop) : Prop := (∃ v0 v1 v2 v3 v4 v5, Q0 v0 v1 v2 v3 v4 v5 ∧ ∀ R k0, G R k0 = k0 v0 v1 v2 v3 v4 v5)
variable {G H : F_6 A0 A1 A2 A3 A4 A5} {Q0 : A0 → A1 → A2 → A3 → A4 → A5 → Prop}
theorem T_6.of (h : Tot (fun R (k : (A0 × A1 × A2 × A3 × A4 × A5) → Option R) => G R (fun v0 v1 v2 v3 v4 v5 => k ((v0, v1, v2, v3, v4, v5)))) (fun p => Q0 p.1 p.2.1 p.2.2.1 p.2.2.2.1 p.2.2.2.2.1 p.2.2.2.2.2)) : T_6 G Q0 := by
 obtain ⟨⟨v0, v1, v2, v3, v4, v5⟩, hq, e⟩ := h
 · exact ⟨v0, v1, v2, v3, v4, v5, hq, fun R k0 => e R (fun p => k0 p.1 p.2.1 p.2.2.1 p.2.2.2.1 p.2.2.2.2.1 p.2.2.2.2.2)⟩
theorem T_6.bind {B : Type} {Q : B → Prop} {X0 : A0 → A1 → A2 → A3 → A4 → A5 → (R : Type) → (B → Option R) → Option R} (h : T_6 G Q0) (h0 : ∀ v0 v1 v2 v3 v4 v5, Q0 v0 v1 v2 v3 v4 v5 → Tot (X0 v0 v1 v2 v3 v4 v5) Q) : Tot (fun R k => G R (fun v0 v1 v2 v3 v4 v5 => X0 v0 v1 v2 v3 v4 v5 R k)) Q := by
 rcases h with ⟨v0, v1, v2, v3, v4, v5, hq, e⟩
 · obtain ⟨v, hv, e2⟩ := h0 v0 v1 v2 v3 v4 v5 hq
   exact ⟨v, hv, fun R k => (e R _).trans (e2 R k)⟩
theorem T_6.congr (h : ∀ R k0, G R k0 = H R k0) (t : T_6 H Q0) : T_6 G Q0 := by
 have e : G = H := by funext R k0; exact h R k0
 rw [e]; exact t
end
section
variable {A0 A1 A2 A3 A4 A5 A6 A7 A8 A9 A10 A11 A12 A13 A14 : Type}
abbrev F_15 (A0 A1 A2 A3 A4 A5 A6 A7 A8 A9 A10 A11 A12 A13 A14 : Type) := (R : Type) → (A0 → A1 → A2 → A3 → A4 → A5 → A6 → A7 → A8 → A9 → A10 → A11 → A12 → A13 → A14 → Option R) → Option R
def T_15 (G : F_15 A0 A1 A2 A3 A4 A5 A6 A7 A8 A9 A10 A11 A12 A13 A14) (Q0 : A0 → A1 → A2 → A3 → A4 → A5 → A6 → A7 → A8 → A9 → A10 → A11 → A12 → A13 → A14 → Prop) : Prop := (∃ v0 v1 v2 v3 v4 v5 v6 v7 v8 v9 v10 v11 v12 v13 v14, Q0 v0 v1 v2 v3 v4 v5 v6 v7 v8 v9 v10 v11 v12 v13 v14 ∧ ∀ R k0, G R k0 = k0 v0 v1 v2 v3 v4 v5 v6 v7 v8 v9 v10 v11 v12 v13 v14)
variable {G H : F_15 A0 A1 A2 A3 A4 A5 A6 A7 A8 A9 A10 A11 A12 A13 A14} {Q0 : A0 → A1 → A2 → A3 → A4 → A5 → A6 → A7 → A8 → A9 → A10 → A11 → A12 → A13 → A14 → Prop}
theorem T_15.of (h : Tot (fun R (k : (A0 × A1 × A2 × A3 × A4 × A5 × A6 × A7 × A8 × A9 × A10 × A11 × A12 × A13 × A14) → Option R) => G R (fun v0 v1 v2 v3 v4 v5 v6 v7 v8 v9 v10 v11 v12 v13 v14 => k ((v0, v1, v2, v3, v4, v5, v6, v7, v8, v9, v10, v11, v12, v13, v14)))) (fun p => Q0 p.1 p.2.1 p.2.2.1 p.2.2.2.1 p.2.2.2.2.1 p.2.2.2.2.2.1 p.2.2.2.2.2.2.1 p.2.2.2.2.2.2.2.1 p.2.2.2.2.2.2.2.2.1 p.2.2.2.2.2.2.2.2.2.1 p.2.2.2.2.2.2.2.2.2.2.1 p.2.2.2.2.2.2.2.2.2.2.2.1 p.2.2.2.2.2.2.2.2.2.2.2.2.1 p.2.2.2.2.2.2.2.2.2.2.2.2.2.1 p.2.2.2.2.2.2.2.2.2.2.2.2.2.2)) : T_15 G Q0 := by
 obtain ⟨⟨v0, v1, v2, v3, v4, v5, v6, v7, v8, v9, v10, v11, v12, v13, v14⟩, hq, e⟩ := h
 · exact ⟨v0, v1, v2, v3, v4, v5, v6, v7, v8, v9, v10, v11, v12, v13, v14, hq, fun R k0 => e R (fun p => k0 p.1 p.2.1 p.2.2.1 p.2.2.2.1 p.2.2.2.2.1 p.2.2.2.2.2.1 p.2.2.2.2.2.2.1 p.2.2.2.2.2.2.2.1 p.2.2.2.2.2.2.2.2.1 p.2.2.2.2.2.2.2.2.2.1 p.2.2.2.2.2.2.2.2.2.2.1 p.2.2.2.2.2.2.2.2.2.2.2.1 p.2.2.2.2.2.2.2.2.2.2.2.2.1 p.2.2.2.2.2.2.2.2.2.2.2.2.2.1 p.2.2.2.2.2.2.2.2.2.2.2.2.2.2)⟩
theorem T_15.bind {B : Type} {Q : B → Prop} {X0 : A0 → A1 → A2 → A3 → A4 → A5 → A6 → A7 → A8 → A9 → A10 → A11 → A12 → A13 → A14 → (R : Type) → (B → Option R) → Option R} (h : T_15 G Q0) (h0 : ∀ v0 v1 v2 v3 v4 v5 v6 v7 v8 v9 v10 v11 v12 v13 v14, Q0 v0 v1 v2 v3 v4 v5 v6 v7 v8 v9 v10 v11 v12 v13 v14 → Tot (X0 v0 v1 v2 v3 v4 v5 v6 v7 v8 v9 v10 v11 v12 v13 v14) Q) : Tot (fun R k => G R (fun v0 v1 v2 v3 v4 v5 v6 v7 v8 v9 v10 v11 v12 v13 v14 => X0 v0 v1 v2 v3 v4 v5 v6 v7 v8 v9 v10 v11 v12 v13 v14 R k)) Q := by
 rcases h with ⟨v0, v1, v2, v3, v4, v5, v6, v7, v8, v9, v10, v11, v12, v13, v14, hq, e⟩
 · obtain ⟨v, hv, e2⟩ := h0 v0 v1 v2 v3 v4 v5 v6 v7 v8 v9 v10 v11 v12 v13 v14 hq
   exact ⟨v, hv, fun R k => (e R _).trans (e2 R k)⟩
theorem T_15.congr (h : ∀ R k0, G R k0 = H R k0) (t : T_15 H Q0) : T_15 G Q0 := by
 have e : G = H := by funext R k0; exact h R k0
 rw [e]; exact t
end
section
variable {A0 A1 A2 A3 A4 A5 A6 A7 A8 A9 A10 A11 A12 A13 A14 A15 A16 A17 A18 A19 A20 A21 A22 : Type}
abbrev Z1dc (A0 A1 A2 A3 A4 A5 A6 A7 A8 A9 A10 A11 A12 A13 A14 A15 A16 A17 A18 A19 A20 A21 A22 : Type) := (R : Type) → (A0 → A1 → A2 → A3 → A4 → A5 → A6 → A7 → A8 → A9 → A10 → A11 → A12 → A13 → A14 → Option R) → (A15 → A16 → A17 → A18 → A19 → A20 → A21 → A22 → Option R) → Option R
def Z15v (G : Z1dc A0 A1 A2 A3 A4 A5 A6 A7 A8 A9 A10 A11 A12 A13 A14 A15 A16 A17 A18 A19 A20 A21 A22) (Q0 : A0 → A1 → A2 → A3 → A4 → A5 → A6 → A7 → A8 → A9 → A10 → A11 → A12 → A13 → A14 → Prop) (Q1 : A15 → A16 → A17 → A18 → A19 → A20 → A21 → A22 → Prop) : Prop := (∃ v0 v1 v2 v3 v4 v5 v6 v7 v8 v9 v10 v11 v12 v13 v14, Q0 v0 v1 v2 v3 v4 v5 v6 v7 v8 v9 v10 v11 v12 v13 v14 ∧ ∀ R k0 k1, G R k0 k1 = k0 v0 v1 v2 v3 v4 v5 v6 v7 v8 v9 v10 v11 v12 v13 v14) ∨ (∃ v15 v16 v17 v18 v19 v20 v21 v22, Q1 v15 v16 v17 v18 v19 v20 v21 v22 ∧ ∀ R k0 k1, G R k0 k1 = k1 v15 v16 v17 v18 v19 v20 v21 v22)
variable {G H : Z1dc A0 A1 A2 A3 A4 A5 A6 A7 A8 A9 A10 A11 A12 A13 A14 A15 A16 A17 A18 A19 A20 A21 A22} {Q0 : A0 → A1 → A2 → A3 → A4 → A5 → A6 → A7 → A8 → A9 → A10 → A11 → A12 → A13 → A14 → Prop} {Q1 : A15 → A16 → A17 → A18 → A19 → A20 → A21 → A22 → Prop}
theorem Z15v.of (h : Tot (fun R (k : (A0 × A1 × A2 × A3 × A4 × A5 × A6 × A7 × A8 × A9 × A10 × A11 × A12 × A13 × A14) ⊕ (A15 × A16 × A17 × A18 × A19 × A20 × A21 × A22) → Option R) => G R (fun v0 v1 v2 v3 v4 v5 v6 v7 v8 v9 v10 v11 v12 v13 v14 => k (.inl (v0, v1, v2, v3, v4, v5, v6, v7, v8, v9, v10, v11, v12, v13, v14))) (fun v15 v16 v17 v18 v19 v20 v21 v22 => k (.inr ((v15, v16, v17, v18, v19, v20, v21, v22))))) (Sum.elim (fun p => Q0 p.1 p.2.1 p.2.2.1 p.2.2.2.1 p.2.2.2.2.1 p.2.2.2.2.2.1 p.2.2.2.2.2.2.1 p.2.2.2.2.2.2.2.1 p.2.2.2.2.2.2.2.2.1 p.2.2.2.2.2.2.2.2.2.1 p.2.2.2.2.2.2.2.2.2.2.1 p.2.2.2.2.2.2.2.2.2.2.2.1 p.2.2.2.2.2.2.2.2.2.2.2.2.1 p.2.2.2.2.2.2.2.2.2.2.2.2.2.1 p.2.2.2.2.2.2.2.2.2.2.2.2.2.2) (fun p => Q1 p.1 p.2.1 p.2.2.1 p.2.2.2.1 p.2.2.2.2.1 p.2.2.2.2.2.1 p.2.2.2.2.2.2.1 p.2.2.2.2.2.2.2))) : Z15v G Q0 Q1 := by
 obtain ⟨v, hq, e⟩ := h
 rcases v with ⟨v0, v1, v2, v3, v4, v5, v6, v7, v8, v9, v10, v11, v12, v13, v14⟩ | ⟨v15, v16, v17, v18, v19, v20, v21, v22⟩
 · exact Or.inl ⟨v0, v1, v2, v3, v4, v5, v6, v7, v8, v9, v10, v11, v12, v13, v14, hq, fun R k0 k1 => e R (Sum.elim (fun p => k0 p.1 p.2.1 p.2.2.1 p.2.2.2.1 p.2.2.2.2.1 p.2.2.2.2.2.1 p.2.2.2.2.2.2.1 p.2.2.2.2.2.2.2.1 p.2.2.2.2.2.2.2.2.1 p.2.2.2.2.2.2.2.2.2.1 p.2.2.2.2.2.2.2.2.2.2.1 p.2.2.2.2.2.2.2.2.2.2.2.1 p.2.2.2.2.2.2.2.2.2.2.2.2.1 p.2.2.2.2.2.2.2.2.2.2.2.2.2.1 p.2.2.2.2.2.2.2.2.2.2.2.2.2.2) (fun p => k1 p.1 p.2.1 p.2.2.1 p.2.2.2.1 p.2.2.2.2.1 p.2.2.2.2.2.1 p.2.2.2.2.2.2.1 p.2.2.2.2.2.2.2))⟩
 · exact Or.inr (⟨v15, v16, v17, v18, v19, v20, v21, v22, hq, fun R k0 k1 => e R (Sum.elim (fun p => k0 p.1 p.2.1 p.2.2.1 p.2.2.2.1 p.2.2.2.2.1 p.2.2.2.2.2.1 p.2.2.2.2.2.2.1 p.2.2.2.2.2.2.2.1 p.2.2.2.2.2.2.2.2.1 p.2.2.2.2.2.2.2.2.2.1 p.2.2.2.2.2.2.2.2.2.2.1 p.2.2.2.2.2.2.2.2.2.2.2.1 p.2.2.2.2.2.2.2.2.2.2.2.2.1 p.2.2.2.2.2.2.2.2.2.2.2.2.2.1 p.2.2.2.2.2.2.2.2.2.2.2.2.2.2) (fun p => k1 p.1 p.2.1 p.2.2.1 p.2.2.2.1 p.2.2.2.2.1 p.2.2.2.2.2.1 p.2.2.2.2.2.2.1 p.2.2.2.2.2.2.2))⟩)
end
section
variable {A0 A1 A2 A3 A4 : Type}
abbrev Z1dp (A0 A1 A2 A3 A4 : Type) := (R : Type) → (A0 → A1 → A2 → A3 → Option R) → (A4 → Option R) → Option R
def Z19t (G : Z1dp A0 A1 A2 A3 A4) (Q0 : A0 → A1 → A2 → A3 → Prop) (Q1 : A4 → Prop) : Prop := (∃ v0 v1 v2 v3, Q0 v0 v1 v2 v3 ∧ ∀ R k0 k1, G R k0 k1 = k0 v0 v1 v2 v3) ∨ (∃ v4, Q1 v4 ∧ ∀ R k0 k1, G R k0 k1 = k1 v4)
variable {G H : Z1dp A0 A1 A2 A3 A4} {Q0 : A0 → A1 → A2 → A3 → Prop} {Q1 : A4 → Prop}
theorem Z19t.of (h : Tot (fun R (k : (A0 × A1 × A2 × A3) ⊕ (A4) → Option R) => G R (fun v0 v1 v2 v3 => k (.inl (v0, v1, v2, v3))) (fun v4 => k (.inr (v4)))) (Sum.elim (fun p => Q0 p.1 p.2.1 p.2.2.1 p.2.2.2) (fun p => Q1 p))) : Z19t G Q0 Q1 := by
 obtain ⟨v, hq, e⟩ := h
 rcases v with ⟨v0, v1, v2, v3⟩ | v4
 · exact Or.inl ⟨v0, v1, v2, v3, hq, fun R k0 k1 => e R (Sum.elim (fun p => k0 p.1 p.2.1 p.2.2.1 p.2.2.2) (fun p => k1 p))⟩
 · exact Or.inr (⟨v4, hq, fun R k0 k1 => e R (Sum.elim (fun p => k0 p.1 p.2.1 p.2.2.1 p.2.2.2) (fun p => k1 p))⟩)
end
section
variable {A0 A1 A2 A3 A4 A5 A6 A7 A8 : Type}
abbrev Z1dl (A0 A1 A2 A3 A4 A5 A6 A7 A8 : Type) := (R : Type) → (A0 → A1 → A2 → A3 → A4 → Option R) → (A5 → A6 → A7 → A8 → Option R) → Option R
def Z19c (G : Z1dl A0 A1 A2 A3 A4 A5 A6 A7 A8) (Q0 : A0 → A1 → A2 → A3 → A4 → Prop) (Q1 : A5 → A6 → A7 → A8 → Prop) : Prop := (∃ v0 v1 v2 v3 v4, Q0 v0 v1 v2 v3 v4 ∧ ∀ R k0 k1, G R k0 k1 = k0 v0 v1 v2 v3 v4) ∨ (∃ v5 v6 v7 v8, Q1 v5 v6 v7 v8 ∧ ∀ R k0 k1, G R k0 k1 = k1 v5 v6 v7 v8)
variable {G H : Z1dl A0 A1 A2 A3 A4 A5 A6 A7 A8} {Q0 : A0 → A1 → A2 → A3 → A4 → Prop} {Q1 : A5 → A6 → A7 → A8 → Prop}
theorem Z19c.of (h : Tot (fun R (k : (A0 × A1 × A2 × A3 × A4) ⊕ (A5 × A6 × A7 × A8) → Option R) => G R (fun v0 v1 v2 v3 v4 => k (.inl (v0, v1, v2, v3, v4))) (fun v5 v6 v7 v8 => k (.inr ((v5, v6, v7, v8))))) (Sum.elim (fun p => Q0 p.1 p.2.1 p.2.2.1 p.2.2.2.1 p.2.2.2.2) (fun p => Q1 p.1 p.2.1 p.2.2.1 p.2.2.2))) : Z19c G Q0 Q1 := by
 obtain ⟨v, hq, e⟩ := h
 rcases v with ⟨v0, v1, v2, v3, v4⟩ | ⟨v5, v6, v7, v8⟩
 · exact Or.inl ⟨v0, v1, v2, v3, v4, hq, fun R k0 k1 => e R (Sum.elim (fun p => k0 p.1 p.2.1 p.2.2.1 p.2.2.2.1 p.2.2.2.2) (fun p => k1 p.1 p.2.1 p.2.2.1 p.2.2.2))⟩
 · exact Or.inr (⟨v5, v6, v7, v8, hq, fun R k0 k1 => e R (Sum.elim (fun p => k0 p.1 p.2.1 p.2.2.1 p.2.2.2.1 p.2.2.2.2) (fun p => k1 p.1 p.2.1 p.2.2.1 p.2.2.2))⟩)
end
section
variable {A0 A1 A2 A3 A4 A5 A6 A7 A8 A9 A10 A11 A12 A13 A14 A15 A16 A17 : Type}
abbrev Z1d6 (A0 A1 A2 A3 A4 A5 A6 A7 A8 A9 A10 A11 A12 A13 A14 A15 A16 A17 : Type) := (R : Type) → (A0 → A1 → A2 → A3 → A4 → A5 → A6 → A7 → A8 → A9 → A10 → Option R) → (A11 → A12 → A13 → A14 → A15 → A16 → A17 → Option R) → Option R
def Z15z (G : Z1d6 A0 A1 A2 A3 A4 A5 A6 A7 A8 A9 A10 A11 A12 A13 A14 A15 A16 A17) (Q0 : A0 → A1 → A2 → A3 → A4 → A5 → A6 → A7 → A8 → A9 → A10 → Prop) (Q1 : A11 → A12 → A13 → A14 → A15 → A16 → A17 → Prop) : Prop := (∃ v0 v1 v2 v3 v4 v5 v6 v7 v8 v9 v10, Q0 v0 v1 v2 v3 v4 v5 v6 v7 v8 v9 v10 ∧ ∀ R k0 k1, G R k0 k1 = k0 v0 v1 v2 v3 v4 v5 v6 v7 v8 v9 v10) ∨ (∃ v11 v12 v13 v14 v15 v16 v17, Q1 v11 v12 v13 v14 v15 v16 v17 ∧ ∀ R k0 k1, G R k0 k1 = k1 v11 v12 v13 v14 v15 v16 v17)
variable {G H : Z1d6 A0 A1 A2 A3 A4 A5 A6 A7 A8 A9 A10 A11 A12 A13 A14 A15 A16 A17} {Q0 : A0 → A1 → A2 → A3 → A4 → A5 → A6 → A7 → A8 → A9 → A10 → Prop} {Q1 : A11 → A12 → A13 → A14 → A15 → A16 → A17 → Prop}
theorem Z15z.of (h : Tot (fun R (k : (A0 × A1 × A2 × A3 × A4 × A5 × A6 × A7 × A8 × A9 × A10) ⊕ (A11 × A12 × A13 × A14 × A15 × A16 × A17) → Option R) => G R (fun v0 v1 v2 v3 v4 v5 v6 v7 v8 v9 v10 => k (.inl (v0, v1, v2, v3, v4, v5, v6, v7, v8, v9, v10))) (fun v11 v12 v13 v14 v15 v16 v17 => k (.inr ((v11, v12, v13, v14, v15, v16, v17))))) (Sum.elim (fun p => Q0 p.1 p.2.1 p.2.2.1 p.2.2.2.1 p.2.2.2.2.1 p.2.2.2.2.2.1 p.2.2.2.2.2.2.1 p.2.2.2.2.2.2.2.1 p.2.2.2.2.2.2.2.2.1 p.2.2.2.2.2.2.2.2.2.1 p.2.2.2.2.2.2.2.2.2.2) (fun p => Q1 p.1 p.2.1 p.2.2.1 p.2.2.2.1 p.2.2.2.2.1 p.2.2.2.2.2.1 p.2.2.2.2.2.2))) : Z15z G Q0 Q1 := by
 obtain ⟨v, hq, e⟩ := h
 rcases v with ⟨v0, v1, v2, v3, v4, v5, v6, v7, v8, v9, v10⟩ | ⟨v11, v12, v13, v14, v15, v16, v17⟩
 · exact Or.inl ⟨v0, v1, v2, v3, v4, v5, v6, v7, v8, v9, v10, hq, fun R k0 k1 => e R (Sum.elim (fun p => k0 p.1 p.2.1 p.2.2.1 p.2.2.2.1 p.2.2.2.2.1 p.2.2.2.2.2.1 p.2.2.2.2.2.2.1 p.2.2.2.2.2.2.2.1 p.2.2.2.2.2.2.2.2.1 p.2.2.2.2.2.2.2.2.2.1 p.2.2.2.2.2.2.2.2.2.2) (fun p => k1 p.1 p.2.1 p.2.2.1 p.2.2.2.1 p.2.2.2.2.1 p.2.2.2.2.2.1 p.2.2.2.2.2.2))⟩
 · exact Or.inr (⟨v11, v12, v13, v14, v15, v16, v17, hq, fun R k0 k1 => e R (Sum.elim (fun p => k0 p.1 p.2.1 p.2.2.1 p.2.2.2.1 p.2.2.2.2.1 p.2.2.2.2.2.1 p.2.2.2.2.2.2.1 p.2.2.2.2.2.2.2.1 p.2.2.2.2.2.2.2.2.1 p.2.2.2.2.2.2.2.2.2.1 p.2.2.2.2.2.2.2.2.2.2) (fun p => k1 p.1 p.2.1 p.2.2.1 p.2.2.2.1 p.2.2.2.2.1 p.2.2.2.2.2.1 p.2.2.2.2.2.2))⟩)
end
section
variable {A0 A1 A2 A3 A4 A5 : Type}
abbrev Z1dn (A0 A1 A2 A3 A4 A5 : Type) := (R : Type) → (A0 → A1 → A2 → A3 → A4 → Option R) → (A5 → Option R) → Option R
def Z19z (G : Z1dn A0 A1 A2 A3 A4 A5) (Q0 : A0 → A1 → A2 → A3 → A4 → Prop) (Q1 : A5 → Prop) : Prop := (∃ v0 v1 v2 v3 v4, Q0 v0 v1 v2 v3 v4 ∧ ∀ R k0 k1, G R k0 k1 = k0 v0 v1 v2 v3 v4) ∨ (∃ v5, Q1 v5 ∧ ∀ R k0 k1, G R k0 k1 = k1 v5)
variable {G H : Z1dn A0 A1 A2 A3 A4 A5} {Q0 : A0 → A1 → A2 → A3 → A4 → Prop} {Q1 : A5 → Prop}
theorem Z19z.of (h : Tot (fun R (k : (A0 × A1 × A2 × A3 × A4) ⊕ (A5) → Option R) => G R (fun v0 v1 v2 v3 v4 => k (.inl (v0, v1, v2, v3, v4))) (fun v5 => k (.inr (v5)))) (Sum.elim (fun p => Q0 p.1 p.2.1 p.2.2.1 p.2.2.2.1 p.2.2.2.2) (fun p => Q1 p))) : Z19z G Q0 Q1 := by
 obtain ⟨v, hq, e⟩ := h
 rcases v with ⟨v0, v1, v2, v3, v4⟩ | v5
 · exact Or.inl ⟨v0, v1, v2, v3, v4, hq, fun R k0 k1 => e R (Sum.elim (fun p => k0 p.1 p.2.1 p.2.2.1 p.2.2.2.1 p.2.2.2.2) (fun p => k1 p))⟩
 · exact Or.inr (⟨v5, hq, fun R k0 k1 => e R (Sum.elim (fun p => k0 p.1 p.2.1 p.2.2.1 p.2.2.2.1 p.2.2.2.2) (fun p => k1 p))⟩)
end
theorem Z1db {A0 A1 A2 A3 A4 A5 A6 A7 A8 A9 B0 B1 B2 B3 B4 B5 B6 B7 : Type} {r : (R : Type) → Nat → A0 → A1 → A2 → A3 → A4 → A5 → A6 → A7 → A8 → A9 → (B0 → B1 → B2 → B3 → B4 → B5 → B6 → B7 → Option R) → Option R} {st : (R : Type) → A0 → A1 → A2 → A3 → A4 → A5 → A6 → A7 → A8 → A9 → (A0 → A1 → A2 → A3 → A4 → A5 → A6 → A7 → A8 → A9 → Option R) → (B0 → B1 → B2 → B3 → B4 → B5 → B6 → B7 → Option R) → Option R} (hr : ∀ R n v0 v1 v2 v3 v4 v5 v6 v7 v8 v9 k0, r R (n + 1) v0 v1 v2 v3 v4 v5 v6 v7 v8 v9 k0 = st R v0 v1 v2 v3 v4 v5 v6 v7 v8 v9 (fun v0 v1 v2 v3 v4 v5 v6 v7 v8 v9 => r R n v0 v1 v2 v3 v4 v5 v6 v7 v8 v9 k0) k0) (I : A0 → A1 → A2 → A3 → A4 → A5 → A6 → A7 → A8 → A9 → Prop) (m : A0 → A1 → A2 → A3 → A4 → A5 → A6 → A7 → A8 → A9 → Nat) {Q0 : B0 → B1 → B2 → B3 → B4 → B5 → B6 → B7 → Prop} (hs : ∀ v0 v1 v2 v3 v4 v5 v6 v7 v8 v9, I v0 v1 v2 v3 v4 v5 v6 v7 v8 v9 → Z164 (fun R next k0 => st R v0 v1 v2 v3 v4 v5 v6 v7 v8 v9 next k0) (fun w0 w1 w2 w3 w4 w5 w6 w7 w8 w9 => I w0 w1 w2 w3 w4 w5 w6 w7 w8 w9 ∧ m w0 w1 w2 w3 w4 w5 w6 w7 w8 w9 < m v0 v1 v2 v3 v4 v5 v6 v7 v8 v9) Q0) : ∀ n v0 v1 v2 v3 v4 v5 v6 v7 v8 v9, I v0 v1 v2 v3 v4 v5 v6 v7 v8 v9 → m v0 v1 v2 v3 v4 v5 v6 v7 v8 v9 < n → T_8 (fun R k0 => r R n v0 v1 v2 v3 v4 v5 v6 v7 v8 v9 k0) Q0
 | 0, _, _, _, _, _, _, _, _, _, _, _, h => absurd h (Nat.not_lt_zero _)
 | n + 1, v0, v1, v2, v3, v4, v5, v6, v7, v8, v9, hi, hm => by
  rcases hs v0 v1 v2 v3 v4 v5 v6 v7 v8 v9 hi with ⟨w0, w1, w2, w3, w4, w5, w6, w7, w8, w9, ⟨h1, h2⟩, e⟩ | ⟨b0, b1, b2, b3, b4, b5, b6, b7, hq, e⟩
  · rcases Z1db hr I m hs n w0 w1 w2 w3 w4 w5 w6 w7 w8 w9 h1 (by omega) with ⟨b0, b1, b2, b3, b4, b5, b6, b7, hq, e'⟩
    · exact ⟨b0, b1, b2, b3, b4, b5, b6, b7, hq, fun R k0 => (hr R n v0 v1 v2 v3 v4 v5 v6 v7 v8 v9 k0).trans ((e R _ k0).trans (e' R k0))⟩
  · exact ⟨b0, b1, b2, b3, b4, b5, b6, b7, hq, fun R k0 => (hr R n v0 v1 v2 v3 v4 v5 v6 v7 v8 v9 k0).trans (e R _ k0)⟩
theorem Z1av {A0 A1 A2 A3 A4 A5 A6 A7 A8 A9 A10 A11 A12 A13 A14 A15 B0 B1 B2 B3 B4 B5 B6 B7 B8 B9 B10 B11 B12 : Type} {r : (R : Type) → Nat → A0 → A1 → A2 → A3 → A4 → A5 → A6 → A7 → A8 → A9 → A10 → A11 → A12 → A13 → A14 → A15 → (B0 → B1 → B2 → B3 → B4 → B5 → B6 → B7 → B8 → B9 → B10 → B11 → B12 → Option R) → Option R} {st : (R : Type) → A0 → A1 → A2 → A3 → A4 → A5 → A6 → A7 → A8 → A9 → A10 → A11 → A12 → A13 → A14 → A15 → (A0 → A1 → A2 → A3 → A4 → A5 → A6 → A7 → A8 → A9 → A10 → A11 → A12 → A13 → A14 → A15 → Option R) → (B0 → B1 → B2 → B3 → B4 → B5 → B6 → B7 → B8 → B9 → B10 → B11 → B12 → Option R) → Option R} (hr : ∀ R n v0 v1 v2 v3 v4 v5 v6 v7 v8 v9 v10 v11 v12 v13 v14 v15 k0, r R (n + 1) v0 v1 v2 v3 v4 v5 v6 v7 v8 v9 v10 v11 v12 v13 v14 v15 k0 = st R v0 v1 v2 v3 v4 v5 v6 v7 v8 v9 v10 v11 v12 v13 v14 v15 (fun v0 v1 v2 v3 v4 v5 v6 v7 v8 v9 v10 v11 v12 v13 v14 v15 => r R n v0 v1 v2 v3 v4 v5 v6 v7 v8 v9 v10 v11 v12 v13 v14 v15 k0) k0) (I : A0 → A1 → A2 → A3 → A4 → A5 → A6 → A7 → A8 → A9 → A10 → A11 → A12 → A13 → A14 → A15 → Prop) (m : A0 → A1 → A2 → A3 → A4 → A5 → A6 → A7 → A8 → A9 → A10 → A11 → A12 → A13 → A14 → A15 → Nat) {Q0 : B0 → B1 → B2 → B3 → B4 → B5 → B6 → B7 → B8 → B9 → B10 → B11 → B12 → Prop} (hs : ∀ v0 v1 v2 v3 v4 v5 v6 v7 v8 v9 v10 v11 v12 v13 v14 v15, I v0 v1 v2 v3 v4 v5 v6 v7 v8 v9 v10 v11 v12 v13 v14 v15 → Ztq (fun R next k0 => st R v0 v1 v2 v3 v4 v5 v6 v7 v8 v9 v10 v11 v12 v13 v14 v15 next k0) (fun w0 w1 w2 w3 w4 w5 w6 w7 w8 w9 w10 w11 w12 w13 w14 w15 => I w0 w1 w2 w3 w4 w5 w6 w7 w8 w9 w10 w11 w12 w13 w14 w15 ∧ m w0 w1 w2 w3 w4 w5 w6 w7 w8 w9 w10 w11 w12 w13 w14 w15 < m v0 v1 v2 v3 v4 v5 v6 v7 v8 v9 v10 v11 v12 v13 v14 v15) Q0) : ∀ n v0 v1 v2 v3 v4 v5 v6 v7 v8 v9 v10 v11 v12 v13 v14 v15, I v0 v1 v2 v3 v4 v5 v6 v7 v8 v9 v10 v11 v12 v13 v14 v15 → m v0 v1 v2 v3 v4 v5 v6 v7 v8 v9 v10 v11 v12 v13 v14 v15 < n → T_13 (fun R k0 => r R n v0 v1 v2 v3 v4 v5 v6 v7 v8 v9 v10 v11 v12 v13 v14 v15 k0) Q0
 | 0, _, _, _, _, _, _, _, _, _, _, _, _, _, _, _, _, _, h => absurd h (Nat.not_lt_zero _)
 | n + 1, v0, v1, v2, v3, v4, v5, v6, v7, v8, v9, v10, v11, v12, v13, v14, v15, hi, hm => by
  rcases hs v0 v1 v2 v3 v4 v5 v6 v7 v8 v9 v10 v11 v12 v13 v14 v15 hi with ⟨w0, w1, w2, w3, w4, w5, w6, w7, w8, w9, w10, w11, w12, w13, w14, w15, ⟨h1, h2⟩, e⟩ | ⟨b0, b1, b2, b3, b4, b5, b6, b7, b8, b9, b10, b11, b12, hq, e⟩
  · rcases Z1av hr I m hs n w0 w1 w2 w3 w4 w5 w6 w7 w8 w9 w10 w11 w12 w13 w14 w15 h1 (by omega) with ⟨b0, b1, b2, b3, b4, b5, b6, b7, b8, b9, b10, b11, b12, hq, e'⟩
    · exact ⟨b0, b1, b2, b3, b4, b5, b6, b7, b8, b9, b10, b11, b12, hq, fun R k0 => (hr R n v0 v1 v2 v3 v4 v5 v6 v7 v8 v9 v10 v11 v12 v13 v14 v15 k0).trans ((e R _ k0).trans (e' R k0))⟩
  · exact ⟨b0, b1, b2, b3, b4, b5, b6, b7, b8, b9, b10, b11, b12, hq, fun R k0 => (hr R n v0 v1 v2 v3 v4 v5 v6 v7 v8 v9 v10 v11 v12 v13 v14 v15 k0).trans (e R _ k0)⟩
theorem Z1bx {A0 A1 A2 A3 A4 A5 A6 A7 A8 A9 A10 A11 A12 B0 B1 B2 B3 B4 B5 B6 B7 B8 : Type} {r : (R : Type) → Nat → A0 → A1 → A2 → A3 → A4 → A5 → A6 → A7 → A8 → A9 → A10 → A11 → A12 → (B0 → B1 → B2 → B3 → B4 → B5 → B6 → B7 → B8 → Option R) → Option R} {st : (R : Type) → A0 → A1 → A2 → A3 → A4 → A5 → A6 → A7 → A8 → A9 → A10 → A11 → A12 → (A0 → A1 → A2 → A3 → A4 → A5 → A6 → A7 → A8 → A9 → A10 → A11 → A12 → Option R) → (B0 → B1 → B2 → B3 → B4 → B5 → B6 → B7 → B8 → Option R) → Option R} (hr : ∀ R n v0 v1 v2 v3 v4 v5 v6 v7 v8 v9 v10 v11 v12 k0, r R (n + 1) v0 v1 v2 v3 v4 v5 v6 v7 v8 v9 v10 v11 v12 k0 = st R v0 v1 v2 v3 v4 v5 v6 v7 v8 v9 v10 v11 v12 (fun v0 v1 v2 v3 v4 v5 v6 v7 v8 v9 v10 v11 v12 => r R n v0 v1 v2 v3 v4 v5 v6 v7 v8 v9 v10 v11 v12 k0) k0) (I : A0 → A1 → A2 → A3 → A4 → A5 → A6 → A7 → A8 → A9 → A10 → A11 → A12 → Prop) (m : A0 → A1 → A2 → A3 → A4 → A5 → A6 → A7 → A8 → A9 → A10 → A11 → A12 → Nat) {Q0 : B0 → B1 → B2 → B3 → B4 → B5 → B6 → B7 → B8 → Prop} (hs : ∀ v0 v1 v2 v3 v4 v5 v6 v7 v8 v9 v10 v11 v12, I v0 v1 v2 v3 v4 v5 v6 v7 v8 v9 v10 v11 v12 → Zyw (fun R next k0 => st R v0 v1 v2 v3 v4 v5 v6 v7 v8 v9 v10 v11 v12 next k0) (fun w0 w1 w2 w3 w4 w5 w6 w7 w8 w9 w10 w11 w12 => I w0 w1 w2 w3 w4 w5 w6 w7 w8 w9 w10 w11 w12 ∧ m w0 w1 w2 w3 w4 w5 w6 w7 w8 w9 w10 w11 w12 < m v0 v1 v2 v3 v4 v5 v6 v7 v8 v9 v10 v11 v12) Q0) : ∀ n v0 v1 v2 v3 v4 v5 v6 v7 v8 v9 v10 v11 v12, I v0 v1 v2 v3 v4 v5 v6 v7 v8 v9 v10 v11 v12 → m v0 v1 v2 v3 v4 v5 v6 v7 v8 v9 v10 v11 v12 < n → T_9 (fun R k0 => r R n v0 v1 v2 v3 v4 v5 v6 v7 v8 v9 v10 v11 v12 k0) Q0
 | 0, _, _, _, _, _, _, _, _, _, _, _, _, _, _, h => absurd h (Nat.not_lt_zero _)
 | n + 1, v0, v1, v2, v3, v4, v5, v6, v7, v8, v9, v10, v11, v12, hi, hm => by
  rcases hs v0 v1 v2 v3 v4 v5 v6 v7 v8 v9 v10 v11 v12 hi with ⟨w0, w1, w2, w3, w4, w5, w6, w7, w8, w9, w10, w11, w12, ⟨h1, h2⟩, e⟩ | ⟨b0, b1, b2, b3, b4, b5, b6, b7, b8, hq, e⟩
  · rcases Z1bx hr I m hs n w0 w1 w2 w3 w4 w5 w6 w7 w8 w9 w10 w11 w12 h1 (by omega) with ⟨b0, b1, b2, b3, b4, b5, b6, b7, b8, hq, e'⟩
    · exact ⟨b0, b1, b2, b3, b4, b5, b6, b7, b8, hq, fun R k0 => (hr R n v0 v1 v2 v3 v4 v5 v6 v7 v8 v9 v10 v11 v12 k0).trans ((e R _ k0).trans (e' R k0))⟩
  · exact ⟨b0, b1, b2, b3, b4, b5, b6, b7, b8, hq, fun R k0 => (hr R n v0 v1 v2 v3 v4 v5 v6 v7 v8 v9 v10 v11 v12 k0).trans (e R _ k0)⟩
theorem Z1a7 {A0 A1 A2 A3 A4 A5 A6 A7 A8 A9 A10 A11 A12 A13 B0 B1 B2 B3 B4 B5 B6 B7 B8 B9 B10 : Type} {r : (R : Type) → Nat → A0 → A1 → A2 → A3 → A4 → A5 → A6 → A7 → A8 → A9 → A10 → A11 → A12 → A13 → (B0 → B1 → B2 → B3 → B4 → B5 → B6 → B7 → B8 → B9 → B10 → Option R) → Option R} {st : (R : Type) → A0 → A1 → A2 → A3 → A4 → A5 → A6 → A7 → A8 → A9 → A10 → A11 → A12 → A13 → (A0 → A1 → A2 → A3 → A4 → A5 → A6 → A7 → A8 → A9 → A10 → A11 → A12 → A13 → Option R) → (B0 → B1 → B2 → B3 → B4 → B5 → B6 → B7 → B8 → B9 → B10 → Option R) → Option R} (hr : ∀ R n v0 v1 v2 v3 v4 v5 v6 v7 v8 v9 v10 v11 v12 v13 k0, r R (n + 1) v0 v1 v2 v3 v4 v5 v6 v7 v8 v9 v10 v11 v12 v13 k0 = st R v0 v1 v2 v3 v4 v5 v6 v7 v8 v9 v10 v11 v12 v13 (fun v0 v1 v2 v3 v4 v5 v6 v7 v8 v9 v10 v11 v12 v13 => r R n v0 v1 v2 v3 v4 v5 v6 v7 v8 v9 v10 v11 v12 v13 k0) k0) (I : A0 → A1 → A2 → A3 → A4 → A5 → A6 → A7 → A8 → A9 → A10 → A11 → A12 → A13 → Prop) (m : A0 → A1 → A2 → A3 → A4 → A5 → A6 → A7 → A8 → A9 → A10 → A11 → A12 → A13 → Nat) {Q0 : B0 → B1 → B2 → B3 → B4 → B5 → B6 → B7 → B8 → B9 → B10 → Prop} (hs : ∀ v0 v1 v2 v3 v4 v5 v6 v7 v8 v9 v10 v11 v12 v13, I v0 v1 v2 v3 v4 v5 v6 v7 v8 v9 v10 v11 v12 v13 → Zt6 (fun R next k0 => st R v0 v1 v2 v3 v4 v5 v6 v7 v8 v9 v10 v11 v12 v13 next k0) (fun w0 w1 w2 w3 w4 w5 w6 w7 w8 w9 w10 w11 w12 w13 => I w0 w1 w2 w3 w4 w5 w6 w7 w8 w9 w10 w11 w12 w13 ∧ m w0 w1 w2 w3 w4 w5 w6 w7 w8 w9 w10 w11 w12 w13 < m v0 v1 v2 v3 v4 v5 v6 v7 v8 v9 v10 v11 v12 v13) Q0) : ∀ n v0 v1 v2 v3 v4 v5 v6 v7 v8 v9 v10 v11 v12 v13, I v0 v1 v2 v3 v4 v5 v6 v7 v8 v9 v10 v11 v12 v13 → m v0 v1 v2 v3 v4 v5 v6 v7 v8 v9 v10 v11 v12 v13 < n → T_11 (fun R k0 => r R n v0 v1 v2 v3 v4 v5 v6 v7 v8 v9 v10 v11 v12 v13 k0) Q0
 | 0, _, _, _, _, _, _, _, _, _, _, _, _, _, _, _, h => absurd h (Nat.not_lt_zero _)
 | n + 1, v0, v1, v2, v3, v4, v5, v6, v7, v8, v9, v10, v11, v12, v13, hi, hm => by
  rcases hs v0 v1 v2 v3 v4 v5 v6 v7 v8 v9 v10 v11 v12 v13 hi with ⟨w0, w1, w2, w3, w4, w5, w6, w7, w8, w9, w10, w11, w12, w13, ⟨h1, h2⟩, e⟩ | ⟨b0, b1, b2, b3, b4, b5, b6, b7, b8, b9, b10, hq, e⟩
  · rcases Z1a7 hr I m hs n w0 w1 w2 w3 w4 w5 w6 w7 w8 w9 w10 w11 w12 w13 h1 (by omega) with ⟨b0, b1, b2, b3, b4, b5, b6, b7, b8, b9, b10, hq, e'⟩
    · exact ⟨b0, b1, b2, b3, b4, b5, b6, b7, b8, b9, b10, hq, fun R k0 => (hr R n v0 v1 v2 v3 v4 v5 v6 v7 v8 v9 v10 v11 v12 v13 k0).trans ((e R _ k0).trans (e' R k0))⟩
  · exact ⟨b0, b1, b2, b3, b4, b5, b6, b7, b8, b9, b10, hq, fun R k0 => (hr R n v0 v1 v2 v3 v4 v5 v6 v7 v8 v9 v10 v11 v12 v13 k0).trans (e R _ k0)⟩
theorem Z1ag {A0 A1 A2 A3 A4 A5 A6 A7 A8 A9 A10 A11 B0 B1 B2 B3 B4 B5 B6 B7 B8 B9 : Type} {r : (R : Type) → Nat → A0 → A1 → A2 → A3 → A4 → A5 → A6 → A7 → A8 → A9 → A10 → A11 → (B0 → B1 → B2 → B3 → B4 → B5 → B6 → B7 → B8 → B9 → Option R) → Option R} {st : (R : Type) → A0 → A1 → A2 → A3 → A4 → A5 → A6 → A7 → A8 → A9 → A10 → A11 → (A0 → A1 → A2 → A3 → A4 → A5 → A6 → A7 → A8 → A9 → A10 → A11 → Option R) → (B0 → B1 → B2 → B3 → B4 → B5 → B6 → B7 → B8 → B9 → Option R) → Option R} (hr : ∀ R n v0 v1 v2 v3 v4 v5 v6 v7 v8 v9 v10 v11 k0, r R (n + 1) v0 v1 v2 v3 v4 v5 v6 v7 v8 v9 v10 v11 k0 = st R v0 v1 v2 v3 v4 v5 v6 v7 v8 v9 v10 v11 (fun v0 v1 v2 v3 v4 v5 v6 v7 v8 v9 v10 v11 => r R n v0 v1 v2 v3 v4 v5 v6 v7 v8 v9 v10 v11 k0) k0) (I : A0 → A1 → A2 → A3 → A4 → A5 → A6 → A7 → A8 → A9 → A10 → A11 → Prop) (m : A0 → A1 → A2 → A3 → A4 → A5 → A6 → A7 → A8 → A9 → A10 → A11 → Nat) {Q0 : B0 → B1 → B2 → B3 → B4 → B5 → B6 → B7 → B8 → B9 → Prop} (hs : ∀ v0 v1 v2 v3 v4 v5 v6 v7 v8 v9 v10 v11, I v0 v1 v2 v3 v4 v5 v6 v7 v8 v9 v10 v11 → Ztb (fun R next k0 => st R v0 v1 v2 v3 v4 v5 v6 v7 v8 v9 v10 v11 next k0) (fun w0 w1 w2 w3 w4 w5 w6 w7 w8 w9 w10 w11 => I w0 w1 w2 w3 w4 w5 w6 w7 w8 w9 w10 w11 ∧ m w0 w1 w2 w3 w4 w5 w6 w7 w8 w9 w10 w11 < m v0 v1 v2 v3 v4 v5 v6 v7 v8 v9 v10 v11) Q0) : ∀ n v0 v1 v2 v3 v4 v5 v6 v7 v8 v9 v10 v11, I v0 v1 v2 v3 v4 v5 v6 v7 v8 v9 v10 v11 → m v0 v1 v2 v3 v4 v5 v6 v7 v8 v9 v10 v11 < n → T_10 (fun R k0 => r R n v0 v1 v2 v3 v4 v5 v6 v7 v8 v9 v10 v11 k0) Q0
 | 0, _, _, _, _, _, _, _, _, _, _, _, _, _, h => absurd h (Nat.not_lt_zero _)
 | n + 1, v0, v1, v2, v3, v4, v5, v6, v7, v8, v9, v10, v11, hi, hm => by
  rcases hs v0 v1 v2 v3 v4 v5 v6 v7 v8 v9 v10 v11 hi with ⟨w0, w1, w2, w3, w4, w5, w6, w7, w8, w9, w10, w11, ⟨h1, h2⟩, e⟩ | ⟨b0, b1, b2, b3, b4, b5, b6, b7, b8, b9, hq, e⟩
  · rcases Z1ag hr I m hs n w0 w1 w2 w3 w4 w5 w6 w7 w8 w9 w10 w11 h1 (by omega) with ⟨b0, b1, b2, b3, b4, b5, b6, b7, b8, b9, hq, e'⟩
    · exact ⟨b0, b1, b2, b3, b4, b5, b6, b7, b8, b9, hq, fun R k0 => (hr R n v0 v1 v2 v3 v4 v5 v6 v7 v8 v9 v10 v11 k0).trans ((e R _ k0).trans (e' R k0))⟩
  · exact ⟨b0, b1, b2, b3, b4, b5, b6, b7, b8, b9, hq, fun R k0 => (hr R n v0 v1 v2 v3 v4 v5 v6 v7 v8 v9 v10 v11 k0).trans (e R _ k0)⟩
theorem Z1am {A0 A1 A2 A3 A4 A5 A6 A7 A8 A9 B0 B1 B2 B3 B4 B5 B6 B7 B8 B9 : Type} {r : (R : Type) → Nat → A0 → A1 → A2 → A3 → A4 → A5 → A6 → A7 → A8 → A9 → (B0 → B1 → B2 → B3 → B4 → B5 → B6 → B7 → B8 → B9 → Option R) → Option R} {st : (R : Type) → A0 → A1 → A2 → A3 → A4 → A5 → A6 → A7 → A8 → A9 → (A0 → A1 → A2 → A3 → A4 → A5 → A6 → A7 → A8 → A9 → Option R) → (B0 → B1 → B2 → B3 → B4 → B5 → B6 → B7 → B8 → B9 → Option R) → Option R} (hr : ∀ R n v0 v1 v2 v3 v4 v5 v6 v7 v8 v9 k0, r R (n + 1) v0 v1 v2 v3 v4 v5 v6 v7 v8 v9 k0 = st R v0 v1 v2 v3 v4 v5 v6 v7 v8 v9 (fun v0 v1 v2 v3 v4 v5 v6 v7 v8 v9 => r R n v0 v1 v2 v3 v4 v5 v6 v7 v8 v9 k0) k0) (I : A0 → A1 → A2 → A3 → A4 → A5 → A6 → A7 → A8 → A9 → Prop) (m : A0 → A1 → A2 → A3 → A4 → A5 → A6 → A7 → A8 → A9 → Nat) {Q0 : B0 → B1 → B2 → B3 → B4 → B5 → B6 → B7 → B8 → B9 → Prop} (hs : ∀ v0 v1 v2 v3 v4 v5 v6 v7 v8 v9, I v0 v1 v2 v3 v4 v5 v6 v7 v8 v9 → Zta (fun R next k0 => st R v0 v1 v2 v3 v4 v5 v6 v7 v8 v9 next k0) (fun w0 w1 w2 w3 w4 w5 w6 w7 w8 w9 => I w0 w1 w2 w3 w4 w5 w6 w7 w8 w9 ∧ m w0 w1 w2 w3 w4 w5 w6 w7 w8 w9 < m v0 v1 v2 v3 v4 v5 v6 v7 v8 v9) Q0) : ∀ n v0 v1 v2 v3 v4 v5 v6 v7 v8 v9, I v0 v1 v2 v3 v4 v5 v6 v7 v8 v9 → m v0 v1 v2 v3 v4 v5 v6 v7 v8 v9 < n → T_10 (fun R k0 => r R n v0 v1 v2 v3 v4 v5 v6 v7 v8 v9 k0) Q0
 | 0, _, _, _, _, _, _, _, _, _, _, _, h => absurd h (Nat.not_lt_zero _)
 | n + 1, v0, v1, v2, v3, v4, v5, v6, v7, v8, v9, hi, hm => by
  rcases hs v0 v1 v2 v3 v4 v5 v6 v7 v8 v9 hi with ⟨w0, w1, w2, w3, w4, w5, w6, w7, w8, w9, ⟨h1, h2⟩, e⟩ | ⟨b0, b1, b2, b3, b4, b5, b6, b7, b8, b9, hq, e⟩
  · rcases Z1am hr I m hs n w0 w1 w2 w3 w4 w5 w6 w7 w8 w9 h1 (by omega) with ⟨b0, b1, b2, b3, b4, b5, b6, b7, b8, b9, hq, e'⟩
    · exact ⟨b0, b1, b2, b3, b4, b5, b6, b7, b8, b9, hq, fun R k0 => (hr R n v0 v1 v2 v3 v4 v5 v6 v7 v8 v9 k0).trans ((e R _ k0).trans (e' R k0))⟩
  · exact ⟨b0, b1, b2, b3, b4, b5, b6, b7, b8, b9, hq, fun R k0 => (hr R n v0 v1 v2 v3 v4 v5 v6 v7 v8 v9 k0).trans (e R _ k0)⟩
theorem Zy5 {A0 A1 A2 A3 A4 A5 A6 A7 A8 A9 A10 B0 B1 B2 B3 B4 B5 B6 B7 B8 : Type} {r : (R : Type) → Nat → A0 → A1 → A2 → A3 → A4 → A5 → A6 → A7 → A8 → A9 → A10 → (B0 → B1 → B2 → B3 → B4 → B5 → B6 → B7 → B8 → Option R) → Option R} {st : (R : Type) → A0 → A1 → A2 → A3 → A4 → A5 → A6 → A7 → A8 → A9 → A10 → (A0 → A1 → A2 → A3 → A4 → A5 → A6 → A7 → A8 → A9 → A10 → Option R) → (B0 → B1 → B2 → B3 → B4 → B5 → B6 → B7 → B8 → Option R) → Option R} (hr : ∀ R n v0 v1 v2 v3 v4 v5 v6 v7 v8 v9 v10 k0, r R (n + 1) v0 v1 v2 v3 v4 v5 v6 v7 v8 v9 v10 k0 = st R v0 v1 v2 v3 v4 v5 v6 v7 v8 v9 v10 (fun v0 v1 v2 v3 v4 v5 v6 v7 v8 v9 v10 => r R n v0 v1 v2 v3 v4 v5 v6 v7 v8 v9 v10 k0) k0) (I : A0 → A1 → A2 → A3 → A4 → A5 → A6 → A7 → A8 → A9 → A10 → Prop) (m : A0 → A1 → A2 → A3 → A4 → A5 → A6 → A7 → A8 → A9 → A10 → Nat) {Q0 : B0 → B1 → B2 → B3 → B4 → B5 → B6 → B7 → B8 → Prop} (hs : ∀ v0 v1 v2 v3 v4 v5 v6 v7 v8 v9 v10, I v0 v1 v2 v3 v4 v5 v6 v7 v8 v9 v10 → Zdv (fun R next k0 => st R v0 v1 v2 v3 v4 v5 v6 v7 v8 v9 v10 next k0) (fun w0 w1 w2 w3 w4 w5 w6 w7 w8 w9 w10 => I w0 w1 w2 w3 w4 w5 w6 w7 w8 w9 w10 ∧ m w0 w1 w2 w3 w4 w5 w6 w7 w8 w9 w10 < m v0 v1 v2 v3 v4 v5 v6 v7 v8 v9 v10) Q0) : ∀ n v0 v1 v2 v3 v4 v5 v6 v7 v8 v9 v10, I v0 v1 v2 v3 v4 v5 v6 v7 v8 v9 v10 → m v0 v1 v2 v3 v4 v5 v6 v7 v8 v9 v10 < n → T_9 (fun R k0 => r R n v0 v1 v2 v3 v4 v5 v6 v7 v8 v9 v10 k0) Q0
 | 0, _, _, _, _, _, _, _, _, _, _, _, _, h => absurd h (Nat.not_lt_zero _)
 | n + 1, v0, v1, v2, v3, v4, v5, v6, v7, v8, v9, v10, hi, hm => by
  rcases hs v0 v1 v2 v3 v4 v5 v6 v7 v8 v9 v10 hi with ⟨w0, w1, w2, w3, w4, w5, w6, w7, w8, w9, w10, ⟨h1, h2⟩, e⟩ | ⟨b0, b1, b2, b3, b4, b5, b6, b7, b8, hq, e⟩
  · rcases Zy5 hr I m hs n w0 w1 w2 w3 w4 w5 w6 w7 w8 w9 w10 h1 (by omega) with ⟨b0, b1, b2, b3, b4, b5, b6, b7, b8, hq, e'⟩
    · exact ⟨b0, b1, b2, b3, b4, b5, b6, b7, b8, hq, fun R k0 => (hr R n v0 v1 v2 v3 v4 v5 v6 v7 v8 v9 v10 k0).trans ((e R _ k0).trans (e' R k0))⟩
  · exact ⟨b0, b1, b2, b3, b4, b5, b6, b7, b8, hq, fun R k0 => (hr R n v0 v1 v2 v3 v4 v5 v6 v7 v8 v9 v10 k0).trans (e R _ k0)⟩
theorem Z1ai {A0 A1 A2 A3 A4 A5 A6 A7 A8 A9 A10 A11 A12 B0 B1 B2 B3 B4 B5 B6 B7 B8 B9 B10 : Type} {r : (R : Type) → Nat → A0 → A1 → A2 → A3 → A4 → A5 → A6 → A7 → A8 → A9 → A10 → A11 → A12 → (B0 → B1 → B2 → B3 → B4 → B5 → B6 → B7 → B8 → B9 → B10 → Option R) → Option R} {st : (R : Type) → A0 → A1 → A2 → A3 → A4 → A5 → A6 → A7 → A8 → A9 → A10 → A11 → A12 → (A0 → A1 → A2 → A3 → A4 → A5 → A6 → A7 → A8 → A9 → A10 → A11 → A12 → Option R) → (B0 → B1 → B2 → B3 → B4 → B5 → B6 → B7 → B8 → B9 → B10 → Option R) → Option R} (hr : ∀ R n v0 v1 v2 v3 v4 v5 v6 v7 v8 v9 v10 v11 v12 k0, r R (n + 1) v0 v1 v2 v3 v4 v5 v6 v7 v8 v9 v10 v11 v12 k0 = st R v0 v1 v2 v3 v4 v5 v6 v7 v8 v9 v10 v11 v12 (fun v0 v1 v2 v3 v4 v5 v6 v7 v8 v9 v10 v11 v12 => r R n v0 v1 v2 v3 v4 v5 v6 v7 v8 v9 v10 v11 v12 k0) k0) (I : A0 → A1 → A2 → A3 → A4 → A5 → A6 → A7 → A8 → A9 → A10 → A11 → A12 → Prop) (m : A0 → A1 → A2 → A3 → A4 → A5 → A6 → A7 → A8 → A9 → A10 → A11 → A12 → Nat) {Q0 : B0 → B1 → B2 → B3 → B4 → B5 → B6 → B7 → B8 → B9 → B10 → Prop} (hs : ∀ v0 v1 v2 v3 v4 v5 v6 v7 v8 v9 v10 v11 v12, I v0 v1 v2 v3 v4 v5 v6 v7 v8 v9 v10 v11 v12 → Ztd (fun R next k0 => st R v0 v1 v2 v3 v4 v5 v6 v7 v8 v9 v10 v11 v12 next k0) (fun w0 w1 w2 w3 w4 w5 w6 w7 w8 w9 w10 w11 w12 => I w0 w1 w2 w3 w4 w5 w6 w7 w8 w9 w10 w11 w12 ∧ m w0 w1 w2 w3 w4 w5 w6 w7 w8 w9 w10 w11 w12 < m v0 v1 v2 v3 v4 v5 v6 v7 v8 v9 v10 v11 v12) Q0) : ∀ n v0 v1 v2 v3 v4 v5 v6 v7 v8 v9 v10 v11 v12, I v0 v1 v2 v3 v4 v5 v6 v7 v8 v9 v10 v11 v12 → m v0 v1 v2 v3 v4 v5 v6 v7 v8 v9 v10 v11 v12 < n → T_11 (fun R k0 => r R n v0 v1 v2 v3 v4 v5 v6 v7 v8 v9 v10 v11 v12 k0) Q0
 | 0, _, _, _, _, _, _, _, _, _, _, _, _, _, _, h => absurd h (Nat.not_lt_zero _)
 | n + 1, v0, v1, v2, v3, v4, v5, v6, v7, v8, v9, v10, v11, v12, hi, hm => by
  rcases hs v0 v1 v2 v3 v4 v5 v6 v7 v8 v9 v10 v11 v12 hi with ⟨w0, w1, w2, w3, w4, w5, w6, w7, w8, w9, w10, w11, w12, ⟨h1, h2⟩, e⟩ | ⟨b0, b1, b2, b3, b4, b5, b6, b7, b8, b9, b10, hq, e⟩
  · rcases Z1ai hr I m hs n w0 w1 w2 w3 w4 w5 w6 w7 w8 w9 w10 w11 w12 h1 (by omega) with ⟨b0, b1, b2, b3, b4, b5, b6, b7, b8, b9, b10, hq, e'⟩
    · exact ⟨b0, b1, b2, b3, b4, b5, b6, b7, b8, b9, b10, hq, fun R k0 => (hr R n v0 v1 v2 v3 v4 v5 v6 v7 v8 v9 v10 v11 v12 k0).trans ((e R _ k0).trans (e' R k0))⟩
  · exact ⟨b0, b1, b2, b3, b4, b5, b6, b7, b8, b9, b10, hq, fun R k0 => (hr R n v0 v1 v2 v3 v4 v5 v6 v7 v8 v9 v10 v11 v12 k0).trans (e R _ k0)⟩
theorem Z1bi {A0 A1 A2 B0 : Type} {r : (R : Type) → Nat → A0 → A1 → A2 → (B0 → Option R) → Option R} {st : (R : Type) → A0 → A1 → A2 → (A0 → A1 → A2 → Option R) → (B0 → Option R) → Option R} (hr : ∀ R n v0 v1 v2 k0, r R (n + 1) v0 v1 v2 k0 = st R v0 v1 v2 (fun v0 v1 v2 => r R n v0 v1 v2 k0) k0) (I : A0 → A1 → A2 → Prop) (m : A0 → A1 → A2 → Nat) {Q0 : B0 → Prop} (hs : ∀ v0 v1 v2, I v0 v1 v2 → Zxb (fun R next k0 => st R v0 v1 v2 next k0) (fun w0 w1 w2 => I w0 w1 w2 ∧ m w0 w1 w2 < m v0 v1 v2) Q0) : ∀ n v0 v1 v2, I v0 v1 v2 → m v0 v1 v2 < n → T_1 (fun R k0 => r R n v0 v1 v2 k0) Q0
 | 0, _, _, _, _, h => absurd h (Nat.not_lt_zero _)
 | n + 1, v0, v1, v2, hi, hm => by
  rcases hs v0 v1 v2 hi with ⟨w0, w1, w2, ⟨h1, h2⟩, e⟩ | ⟨b0, hq, e⟩
  · rcases Z1bi hr I m hs n w0 w1 w2 h1 (by omega) with ⟨b0, hq, e'⟩
    · exact ⟨b0, hq, fun R k0 => (hr R n v0 v1 v2 k0).trans ((e R _ k0).trans (e' R k0))⟩
  · exact ⟨b0, hq, fun R k0 => (hr R n v0 v1 v2 k0).trans (e R _ k0)⟩
theorem Z1bh {A0 A1 A2 A3 B0 B1 B2 : Type} {r : (R : Type) → Nat → A0 → A1 → A2 → A3 → (B0 → B1 → B2 → Option R) → Option R} {st : (R : Type) → A0 → A1 → A2 → A3 → (A0 → A1 → A2 → A3 → Option R) → (B0 → B1 → B2 → Option R) → Option R} (hr : ∀ R n v0 v1 v2 v3 k0, r R (n + 1) v0 v1 v2 v3 k0 = st R v0 v1 v2 v3 (fun v0 v1 v2 v3 => r R n v0 v1 v2 v3 k0) k0) (I : A0 → A1 → A2 → A3 → Prop) (m : A0 → A1 → A2 → A3 → Nat) {Q0 : B0 → B1 → B2 → Prop} (hs : ∀ v0 v1 v2 v3, I v0 v1 v2 v3 → Zxh (fun R next k0 => st R v0 v1 v2 v3 next k0) (fun w0 w1 w2 w3 => I w0 w1 w2 w3 ∧ m w0 w1 w2 w3 < m v0 v1 v2 v3) Q0) : ∀ n v0 v1 v2 v3, I v0 v1 v2 v3 → m v0 v1 v2 v3 < n → T_3 (fun R k0 => r R n v0 v1 v2 v3 k0) Q0
 | 0, _, _, _, _, _, h => absurd h (Nat.not_lt_zero _)
 | n + 1, v0, v1, v2, v3, hi, hm => by
  rcases hs v0 v1 v2 v3 hi with ⟨w0, w1, w2, w3, ⟨h1, h2⟩, e⟩ | ⟨b0, b1, b2, hq, e⟩
  · rcases Z1bh hr I m hs n w0 w1 w2 w3 h1 (by omega) with ⟨b0, b1, b2, hq, e'⟩
    · exact ⟨b0, b1, b2, hq, fun R k0 => (hr R n v0 v1 v2 v3 k0).trans ((e R _ k0).trans (e' R k0))⟩
  · exact ⟨b0, b1, b2, hq, fun R k0 => (hr R n v0 v1 v2 v3 k0).trans (e R _ k0)⟩
theorem Z1cw {A0 A1 A2 A3 A4 A5 A6 B0 B1 B2 B3 B4 : Type} {r : (R : Type) → Nat → A0 → A1 → A2 → A3 → A4 → A5 → A6 → (B0 → B1 → B2 → B3 → B4 → Option R) → Option R} {st : (R : Type) → A0 → A1 → A2 → A3 → A4 → A5 → A6 → (A0 → A1 → A2 → A3 → A4 → A5 → A6 → Option R) → (B0 → B1 → B2 → B3 → B4 → Option R) → Option R} (hr : ∀ R n v0 v1 v2 v3 v4 v5 v6 k0, r R (n + 1) v0 v1 v2 v3 v4 v5 v6 k0 = st R v0 v1 v2 v3 v4 v5 v6 (fun v0 v1 v2 v3 v4 v5 v6 => r R n v0 v1 v2 v3 v4 v5 v6 k0) k0) (I : A0 → A1 → A2 → A3 → A4 → A5 → A6 → Prop) (m : A0 → A1 → A2 → A3 → A4 → A5 → A6 → Nat) {Q0 : B0 → B1 → B2 → B3 → B4 → Prop} (hs : ∀ v0 v1 v2 v3 v4 v5 v6, I v0 v1 v2 v3 v4 v5 v6 → Z14k (fun R next k0 => st R v0 v1 v2 v3 v4 v5 v6 next k0) (fun w0 w1 w2 w3 w4 w5 w6 => I w0 w1 w2 w3 w4 w5 w6 ∧ m w0 w1 w2 w3 w4 w5 w6 < m v0 v1 v2 v3 v4 v5 v6) Q0) : ∀ n v0 v1 v2 v3 v4 v5 v6, I v0 v1 v2 v3 v4 v5 v6 → m v0 v1 v2 v3 v4 v5 v6 < n → T_5 (fun R k0 => r R n v0 v1 v2 v3 v4 v5 v6 k0) Q0
 | 0, _, _, _, _, _, _, _, _, h => absurd h (Nat.not_lt_zero _)
 | n + 1, v0, v1, v2, v3, v4, v5, v6, hi, hm => by
  rcases hs v0 v1 v2 v3 v4 v5 v6 hi with ⟨w0, w1, w2, w3, w4, w5, w6, ⟨h1, h2⟩, e⟩ | ⟨b0, b1, b2, b3, b4, hq, e⟩
  · rcases Z1cw hr I m hs n w0 w1 w2 w3 w4 w5 w6 h1 (by omega) with ⟨b0, b1, b2, b3, b4, hq, e'⟩
    · exact ⟨b0, b1, b2, b3, b4, hq, fun R k0 => (hr R n v0 v1 v2 v3 v4 v5 v6 k0).trans ((e R _ k0).trans (e' R k0))⟩
  · exact ⟨b0, b1, b2, b3, b4, hq, fun R k0 => (hr R n v0 v1 v2 v3 v4 v5 v6 k0).trans (e R _ k0)⟩
theorem Z1dk {A0 A1 A2 A3 A4 B0 B1 : Type} {r : (R : Type) → Nat → A0 → A1 → A2 → A3 → A4 → (B0 → B1 → Option R) → Option R} {st : (R : Type) → A0 → A1 → A2 → A3 → A4 → (A0 → A1 → A2 → A3 → A4 → Option R) → (B0 → B1 → Option R) → Option R} (hr : ∀ R n v0 v1 v2 v3 v4 k0, r R (n + 1) v0 v1 v2 v3 v4 k0 = st R v0 v1 v2 v3 v4 (fun v0 v1 v2 v3 v4 => r R n v0 v1 v2 v3 v4 k0) k0) (I : A0 → A1 → A2 → A3 → A4 → Prop) (m : A0 → A1 → A2 → A3 → A4 → Nat) {Q0 : B0 → B1 → Prop} (hs : ∀ v0 v1 v2 v3 v4, I v0 v1 v2 v3 v4 → Z19v (fun R next k0 => st R v0 v1 v2 v3 v4 next k0) (fun w0 w1 w2 w3 w4 => I w0 w1 w2 w3 w4 ∧ m w0 w1 w2 w3 w4 < m v0 v1 v2 v3 v4) Q0) : ∀ n v0 v1 v2 v3 v4, I v0 v1 v2 v3 v4 → m v0 v1 v2 v3 v4 < n → T_2 (fun R k0 => r R n v0 v1 v2 v3 v4 k0) Q0
 | 0, _, _, _, _, _, _, h => absurd h (Nat.not_lt_zero _)
 | n + 1, v0, v1, v2, v3, v4, hi, hm => by
  rcases hs v0 v1 v2 v3 v4 hi with ⟨w0, w1, w2, w3, w4, ⟨h1, h2⟩, e⟩ | ⟨b0, b1, hq, e⟩
  · rcases Z1dk hr I m hs n w0 w1 w2 w3 w4 h1 (by omega) with ⟨b0, b1, hq, e'⟩
    · exact ⟨b0, b1, hq, fun R k0 => (hr R n v0 v1 v2 v3 v4 k0).trans ((e R _ k0).trans (e' R k0))⟩
  · exact ⟨b0, b1, hq, fun R k0 => (hr R n v0 v1 v2 v3 v4 k0).trans (e R _ k0)⟩
theorem Z1bg {A0 A1 A2 A3 A4 B0 B1 B2 : Type} {r : (R : Type) → Nat → A0 → A1 → A2 → A3 → A4 → (B0 → B1 → B2 → Option R) → Option R} {st : (R : Type) → A0 → A1 → A2 → A3 → A4 → (A0 → A1 → A2 → A3 → A4 → Option R) → (B0 → B1 → B2 → Option R) → Option R} (hr : ∀ R n v0 v1 v2 v3 v4 k0, r R (n + 1) v0 v1 v2 v3 v4 k0 = st R v0 v1 v2 v3 v4 (fun v0 v1 v2 v3 v4 => r R n v0 v1 v2 v3 v4 k0) k0) (I : A0 → A1 → A2 → A3 → A4 → Prop) (m : A0 → A1 → A2 → A3 → A4 → Nat) {Q0 : B0 → B1 → B2 → Prop} (hs : ∀ v0 v1 v2 v3 v4, I v0 v1 v2 v3 v4 → Zxn (fun R next k0 => st R v0 v1 v2 v3 v4 next k0) (fun w0 w1 w2 w3 w4 => I w0 w1 w2 w3 w4 ∧ m w0 w1 w2 w3 w4 < m v0 v1 v2 v3 v4) Q0) : ∀ n v0 v1 v2 v3 v4, I v0 v1 v2 v3 v4 → m v0 v1 v2 v3 v4 < n → T_3 (fun R k0 => r R n v0 v1 v2 v3 v4 k0) Q0
 | 0, _, _, _, _, _, _, h => absurd h (Nat.not_lt_zero _)
 | n + 1, v0, v1, v2, v3, v4, hi, hm => by
  rcases hs v0 v1 v2 v3 v4 hi with ⟨w0, w1, w2, w3, w4, ⟨h1, h2⟩, e⟩ | ⟨b0, b1, b2, hq, e⟩
  · rcases Z1bg hr I m hs n w0 w1 w2 w3 w4 h1 (by omega) with ⟨b0, b1, b2, hq, e'⟩
    · exact ⟨b0, b1, b2, hq, fun R k0 => (hr R n v0 v1 v2 v3 v4 k0).trans ((e R _ k0).trans (e' R k0))⟩
  · exact ⟨b0, b1, b2, hq, fun R k0 => (hr R n v0 v1 v2 v3 v4 k0).trans (e R _ k0)⟩
theorem Z1a3 {A0 A1 A2 A3 B0 B1 : Type} {r : (R : Type) → Nat → A0 → A1 → A2 → A3 → (B0 → B1 → Option R) → Option R} {st : (R : Type) → A0 → A1 → A2 → A3 → (A0 → A1 → A2 → A3 → Option R) → (B0 → B1 → Option R) → Option R} (hr : ∀ R n v0 v1 v2 v3 k0, r R (n + 1) v0 v1 v2 v3 k0 = st R v0 v1 v2 v3 (fun v0 v1 v2 v3 => r R n v0 v1 v2 v3 k0) k0) (I : A0 → A1 → A2 → A3 → Prop) (m : A0 → A1 → A2 → A3 → Nat) {Q0 : B0 → B1 → Prop} (hs : ∀ v0 v1 v2 v3, I v0 v1 v2 v3 → Zr0 (fun R next k0 => st R v0 v1 v2 v3 next k0) (fun w0 w1 w2 w3 => I w0 w1 w2 w3 ∧ m w0 w1 w2 w3 < m v0 v1 v2 v3) Q0) : ∀ n v0 v1 v2 v3, I v0 v1 v2 v3 → m v0 v1 v2 v3 < n → T_2 (fun R k0 => r R n v0 v1 v2 v3 k0) Q0
 | 0, _, _, _, _, _, h => absurd h (Nat.not_lt_zero _)
 | n + 1, v0, v1, v2, v3, hi, hm => by
  rcases hs v0 v1 v2 v3 hi with ⟨w0, w1, w2, w3, ⟨h1, h2⟩, e⟩ | ⟨b0, b1, hq, e⟩
  · rcases Z1a3 hr I m hs n w0 w1 w2 w3 h1 (by omega) with ⟨b0, b1, hq, e'⟩
    · exact ⟨b0, b1, hq, fun R k0 => (hr R n v0 v1 v2 v3 k0).trans ((e R _ k0).trans (e' R k0))⟩
  · exact ⟨b0, b1, hq, fun R k0 => (hr R n v0 v1 v2 v3 k0).trans (e R _ k0)⟩
theorem Z1d8 {A0 A1 A2 A3 A4 A5 A6 A7 A8 A9 A10 A11 A12 A13 A14 B0 B1 B2 B3 B4 B5 B6 B7 : Type} {r : (R : Type) → Nat → A0 → A1 → A2 → A3 → A4 → A5 → A6 → A7 → A8 → A9 → A10 → A11 → A12 → A13 → A14 → (B0 → B1 → B2 → B3 → B4 → B5 → B6 → B7 → Option R) → Option R} {st : (R : Type) → A0 → A1 → A2 → A3 → A4 → A5 → A6 → A7 → A8 → A9 → A10 → A11 → A12 → A13 → A14 → (A0 → A1 → A2 → A3 → A4 → A5 → A6 → A7 → A8 → A9 → A10 → A11 → A12 → A13 → A14 → Option R) → (B0 → B1 → B2 → B3 → B4 → B5 → B6 → B7 → Option R) → Option R} (hr : ∀ R n v0 v1 v2 v3 v4 v5 v6 v7 v8 v9 v10 v11 v12 v13 v14 k0, r R (n + 1) v0 v1 v2 v3 v4 v5 v6 v7 v8 v9 v10 v11 v12 v13 v14 k0 = st R v0 v1 v2 v3 v4 v5 v6 v7 v8 v9 v10 v11 v12 v13 v14 (fun v0 v1 v2 v3 v4 v5 v6 v7 v8 v9 v10 v11 v12 v13 v14 => r R n v0 v1 v2 v3 v4 v5 v6 v7 v8 v9 v10 v11 v12 v13 v14 k0) k0) (I : A0 → A1 → A2 → A3 → A4 → A5 → A6 → A7 → A8 → A9 → A10 → A11 → A12 → A13 → A14 → Prop) (m : A0 → A1 → A2 → A3 → A4 → A5 → A6 → A7 → A8 → A9 → A10 → A11 → A12 → A13 → A14 → Nat) {Q0 : B0 → B1 → B2 → B3 → B4 → B5 → B6 → B7 → Prop} (hs : ∀ v0 v1 v2 v3 v4 v5 v6 v7 v8 v9 v10 v11 v12 v13 v14, I v0 v1 v2 v3 v4 v5 v6 v7 v8 v9 v10 v11 v12 v13 v14 → Z15v (fun R next k0 => st R v0 v1 v2 v3 v4 v5 v6 v7 v8 v9 v10 v11 v12 v13 v14 next k0) (fun w0 w1 w2 w3 w4 w5 w6 w7 w8 w9 w10 w11 w12 w13 w14 => I w0 w1 w2 w3 w4 w5 w6 w7 w8 w9 w10 w11 w12 w13 w14 ∧ m w0 w1 w2 w3 w4 w5 w6 w7 w8 w9 w10 w11 w12 w13 w14 < m v0 v1 v2 v3 v4 v5 v6 v7 v8 v9 v10 v11 v12 v13 v14) Q0) : ∀ n v0 v1 v2 v3 v4 v5 v6 v7 v8 v9 v10 v11 v12 v13 v14, I v0 v1 v2 v3 v4 v5 v6 v7 v8 v9 v10 v11 v12 v13 v14 → m v0 v1 v2 v3 v4 v5 v6 v7 v8 v9 v10 v11 v12 v13 v14 < n → T_8 (fun R k0 => r R n v0 v1 v2 v3 v4 v5 v6 v7 v8 v9 v10 v11 v12 v13 v14 k0) Q0
 | 0, _, _, _, _, _, _, _, _, _, _, _, _, _, _, _, _, h => absurd h (Nat.not_lt_zero _)
 | n + 1, v0, v1, v2, v3, v4, v5, v6, v7, v8, v9, v10, v11, v12, v13, v14, hi, hm => by
  rcases hs v0 v1 v2 v3 v4 v5 v6 v7 v8 v9 v10 v11 v12 v13 v14 hi with ⟨w0, w1, w2, w3, w4, w5, w6, w7, w8, w9, w10, w11, w12, w13, w14, ⟨h1, h2⟩, e⟩ | ⟨b0, b1, b2, b3, b4, b5, b6, b7, hq, e⟩
  · rcases Z1d8 hr I m hs n w0 w1 w2 w3 w4 w5 w6 w7 w8 w9 w10 w11 w12 w13 w14 h1 (by omega) with ⟨b0, b1, b2, b3, b4, b5, b6, b7, hq, e'⟩
    · exact ⟨b0, b1, b2, b3, b4, b5, b6, b7, hq, fun R k0 => (hr R n v0 v1 v2 v3 v4 v5 v6 v7 v8 v9 v10 v11 v12 v13 v14 k0).trans ((e R _ k0).trans (e' R k0))⟩
  · exact ⟨b0, b1, b2, b3, b4, b5, b6, b7, hq, fun R k0 => (hr R n v0 v1 v2 v3 v4 v5 v6 v7 v8 v9 v10 v11 v12 v13 v14 k0).trans (e R _ k0)⟩
theorem Z1du {A0 A1 A2 A3 B0 : Type} {r : (R : Type) → Nat → A0 → A1 → A2 → A3 → (B0 → Option R) → Option R} {st : (R : Type) → A0 → A1 → A2 → A3 → (A0 → A1 → A2 → A3 → Option R) → (B0 → Option R) → Option R} (hr : ∀ R n v0 v1 v2 v3 k0, r R (n + 1) v0 v1 v2 v3 k0 = st R v0 v1 v2 v3 (fun v0 v1 v2 v3 => r R n v0 v1 v2 v3 k0) k0) (I : A0 → A1 → A2 → A3 → Prop) (m : A0 → A1 → A2 → A3 → Nat) {Q0 : B0 → Prop} (hs : ∀ v0 v1 v2 v3, I v0 v1 v2 v3 → Z19t (fun R next k0 => st R v0 v1 v2 v3 next k0) (fun w0 w1 w2 w3 => I w0 w1 w2 w3 ∧ m w0 w1 w2 w3 < m v0 v1 v2 v3) Q0) : ∀ n v0 v1 v2 v3, I v0 v1 v2 v3 → m v0 v1 v2 v3 < n → T_1 (fun R k0 => r R n v0 v1 v2 v3 k0) Q0
 | 0, _, _, _, _, _, h => absurd h (Nat.not_lt_zero _)
 | n + 1, v0, v1, v2, v3, hi, hm => by
  rcases hs v0 v1 v2 v3 hi with ⟨w0, w1, w2, w3, ⟨h1, h2⟩, e⟩ | ⟨b0, hq, e⟩
  · rcases Z1du hr I m hs n w0 w1 w2 w3 h1 (by omega) with ⟨b0, hq, e'⟩
    · exact ⟨b0, hq, fun R k0 => (hr R n v0 v1 v2 v3 k0).trans ((e R _ k0).trans (e' R k0))⟩
  · exact ⟨b0, hq, fun R k0 => (hr R n v0 v1 v2 v3 k0).trans (e R _ k0)⟩
theorem Z1dr {A0 A1 A2 A3 A4 B0 B1 B2 B3 : Type} {r : (R : Type) → Nat → A0 → A1 → A2 → A3 → A4 → (B0 → B1 → B2 → B3 → Option R) → Option R} {st : (R : Type) → A0 → A1 → A2 → A3 → A4 → (A0 → A1 → A2 → A3 → A4 → Option R) → (B0 → B1 → B2 → B3 → Option R) → Option R} (hr : ∀ R n v0 v1 v2 v3 v4 k0, r R (n + 1) v0 v1 v2 v3 v4 k0 = st R v0 v1 v2 v3 v4 (fun v0 v1 v2 v3 v4 => r R n v0 v1 v2 v3 v4 k0) k0) (I : A0 → A1 → A2 → A3 → A4 → Prop) (m : A0 → A1 → A2 → A3 → A4 → Nat) {Q0 : B0 → B1 → B2 → B3 → Prop} (hs : ∀ v0 v1 v2 v3 v4, I v0 v1 v2 v3 v4 → Z19c (fun R next k0 => st R v0 v1 v2 v3 v4 next k0) (fun w0 w1 w2 w3 w4 => I w0 w1 w2 w3 w4 ∧ m w0 w1 w2 w3 w4 < m v0 v1 v2 v3 v4) Q0) : ∀ n v0 v1 v2 v3 v4, I v0 v1 v2 v3 v4 → m v0 v1 v2 v3 v4 < n → T_4 (fun R k0 => r R n v0 v1 v2 v3 v4 k0) Q0
 | 0, _, _, _, _, _, _, h => absurd h (Nat.not_lt_zero _)
 | n + 1, v0, v1, v2, v3, v4, hi, hm => by
  rcases hs v0 v1 v2 v3 v4 hi with ⟨w0, w1, w2, w3, w4, ⟨h1, h2⟩, e⟩ | ⟨b0, b1, b2, b3, hq, e⟩
  · rcases Z1dr hr I m hs n w0 w1 w2 w3 w4 h1 (by omega) with ⟨b0, b1, b2, b3, hq, e'⟩
    · exact ⟨b0, b1, b2, b3, hq, fun R k0 => (hr R n v0 v1 v2 v3 v4 k0).trans ((e R _ k0).trans (e' R k0))⟩
  · exact ⟨b0, b1, b2, b3, hq, fun R k0 => (hr R n v0 v1 v2 v3 v4 k0).trans (e R _ k0)⟩
theorem Z1df {A0 A1 A2 A3 A4 A5 A6 A7 A8 A9 A10 B0 B1 B2 B3 B4 B5 B6 : Type} {r : (R : Type) → Nat → A0 → A1 → A2 → A3 → A4 → A5 → A6 → A7 → A8 → A9 → A10 → (B0 → B1 → B2 → B3 → B4 → B5 → B6 → Option R) → Option R} {st : (R : Type) → A0 → A1 → A2 → A3 → A4 → A5 → A6 → A7 → A8 → A9 → A10 → (A0 → A1 → A2 → A3 → A4 → A5 → A6 → A7 → A8 → A9 → A10 → Option R) → (B0 → B1 → B2 → B3 → B4 → B5 → B6 → Option R) → Option R} (hr : ∀ R n v0 v1 v2 v3 v4 v5 v6 v7 v8 v9 v10 k0, r R (n + 1) v0 v1 v2 v3 v4 v5 v6 v7 v8 v9 v10 k0 = st R v0 v1 v2 v3 v4 v5 v6 v7 v8 v9 v10 (fun v0 v1 v2 v3 v4 v5 v6 v7 v8 v9 v10 => r R n v0 v1 v2 v3 v4 v5 v6 v7 v8 v9 v10 k0) k0) (I : A0 → A1 → A2 → A3 → A4 → A5 → A6 → A7 → A8 → A9 → A10 → Prop) (m : A0 → A1 → A2 → A3 → A4 → A5 → A6 → A7 → A8 → A9 → A10 → Nat) {Q0 : B0 → B1 → B2 → B3 → B4 → B5 → B6 → Prop} (hs : ∀ v0 v1 v2 v3 v4 v5 v6 v7 v8 v9 v10, I v0 v1 v2 v3 v4 v5 v6 v7 v8 v9 v10 → Z15z (fun R next k0 => st R v0 v1 v2 v3 v4 v5 v6 v7 v8 v9 v10 next k0) (fun w0 w1 w2 w3 w4 w5 w6 w7 w8 w9 w10 => I w0 w1 w2 w3 w4 w5 w6 w7 w8 w9 w10 ∧ m w0 w1 w2 w3 w4 w5 w6 w7 w8 w9 w10 < m v0 v1 v2 v3 v4 v5 v6 v7 v8 v9 v10) Q0) : ∀ n v0 v1 v2 v3 v4 v5 v6 v7 v8 v9 v10, I v0 v1 v2 v3 v4 v5 v6 v7 v8 v9 v10 → m v0 v1 v2 v3 v4 v5 v6 v7 v8 v9 v10 < n → T_7 (fun R k0 => r R n v0 v1 v2 v3 v4 v5 v6 v7 v8 v9 v10 k0) Q0
 | 0, _, _, _, _, _, _, _, _, _, _, _, _, h => absurd h (Nat.not_lt_zero _)
 | n + 1, v0, v1, v2, v3, v4, v5, v6, v7, v8, v9, v10, hi, hm => by
  rcases hs v0 v1 v2 v3 v4 v5 v6 v7 v8 v9 v10 hi with ⟨w0, w1, w2, w3, w4, w5, w6, w7, w8, w9, w10, ⟨h1, h2⟩, e⟩ | ⟨b0, b1, b2, b3, b4, b5, b6, hq, e⟩
  · rcases Z1df hr I m hs n w0 w1 w2 w3 w4 w5 w6 w7 w8 w9 w10 h1 (by omega) with ⟨b0, b1, b2, b3, b4, b5, b6, hq, e'⟩
    · exact ⟨b0, b1, b2, b3, b4, b5, b6, hq, fun R k0 => (hr R n v0 v1 v2 v3 v4 v5 v6 v7 v8 v9 v10 k0).trans ((e R _ k0).trans (e' R k0))⟩
  · exact ⟨b0, b1, b2, b3, b4, b5, b6, hq, fun R k0 => (hr R n v0 v1 v2 v3 v4 v5 v6 v7 v8 v9 v10 k0).trans (e R _ k0)⟩
theorem Z1dm {A0 A1 A2 A3 A4 B0 : Type} {r : (R : Type) → Nat → A0 → A1 → A2 → A3 → A4 → (B0 → Option R) → Option R} {st : (R : Type) → A0 → A1 → A2 → A3 → A4 → (A0 → A1 → A2 → A3 → A4 → Option R) → (B0 → Option R) → Option R} (hr : ∀ R n v0 v1 v2 v3 v4 k0, r R (n + 1) v0 v1 v2 v3 v4 k0 = st R v0 v1 v2 v3 v4 (fun v0 v1 v2 v3 v4 => r R n v0 v1 v2 v3 v4 k0) k0) (I : A0 → A1 → A2 → A3 → A4 → Prop) (m : A0 → A1 → A2 → A3 → A4 → Nat) {Q0 : B0 → Prop} (hs : ∀ v0 v1 v2 v3 v4, I v0 v1 v2 v3 v4 → Z19z (fun R next k0 => st R v0 v1 v2 v3 v4 next k0) (fun w0 w1 w2 w3 w4 => I w0 w1 w2 w3 w4 ∧ m w0 w1 w2 w3 w4 < m v0 v1 v2 v3 v4) Q0) : ∀ n v0 v1 v2 v3 v4, I v0 v1 v2 v3 v4 → m v0 v1 v2 v3 v4 < n → T_1 (fun R k0 => r R n v0 v1 v2 v3 v4 k0) Q0
 | 0, _, _, _, _, _, _, h => absurd h (Nat.not_lt_zero _)
 | n + 1, v0, v1, v2, v3, v4, hi, hm => by
  rcases hs v0 v1 v2 v3 v4 hi with ⟨w0, w1, w2, w3, w4, ⟨h1, h2⟩, e⟩ | ⟨b0, hq, e⟩
  · rcases Z1dm hr I m hs n w0 w1 w2 w3 w4 h1 (by omega) with ⟨b0, hq, e'⟩
    · exact ⟨b0, hq, fun R k0 => (hr R n v0 v1 v2 v3 v4 k0).trans ((e R _ k0).trans (e' R k0))⟩
  · exact ⟨b0, hq, fun R k0 => (hr R n v0 v1 v2 v3 v4 k0).trans (e R _ k0)⟩
theorem Z10x (a1 a2 : Int) : T_2 (fun R k0 => Z1m R a1 a2 k0) (fun z0 z1 => True) := by
  refine T_2.of ?_
  delta Z1m Zzr
  refine Tot.lett (fun v3 e_v3 => ?_)
  refine Tot.lett (fun v4 e_v4 => ?_)
  refine Tot.lett (fun v5 e_v5 => ?_)
  refine Tot.lett (fun v6 e_v6 => ?_)
  refine Tot.lett (fun v7 e_v7 => ?_)
  refine Tot.lett (fun v8 e_v8 => ?_)
  refine Tot.lett (fun v9 e_v9 => ?_)
  refine Tot.lett (fun v10 e_v10 => ?_)
  exact Tot.ret _
theorem Zes (a0 a1 a2 : Int) (h0 : autoParam ((bit1 a2) = true) sA._auto_1) : T_2 (fun R k0 => Zj R a0 a1 a2 k0) (fun z0 z1 => (z0 = add64S (a0) (a1) (a2)) ∧ (z1 = add64C (a0) (a1) (a2)) ∧ (0 ≤ z1) ∧ (z1 ≤ 1)) :=
  ⟨add64S (a0) (a1) (a2), add64C (a0) (a1) (a2), ⟨rfl, rfl, add64C_bit.1, add64C_bit.2⟩, fun R k0 => by
    show gd _ _ = _
    rw [h0]
    rfl⟩
theorem Z19b (a0 a1 a2 : Int) (h0 : autoParam ((bit1 a2) = true) sA._auto_1) : T_2 (fun R k0 => Zb2 R a0 a1 a2 k0) (fun z0 z1 => (z0 = sub64D (a0) (a1) (a2)) ∧ (z1 = sub64B (a0) (a1) (a2)) ∧ (0 ≤ z1) ∧ (z1 ≤ 1)) :=
  ⟨sub64D (a0) (a1) (a2), sub64B (a0) (a1) (a2), ⟨rfl, rfl, sub64B_bit.1, sub64B_bit.2⟩, fun R k0 => by
    show gd _ _ = _
    rw [h0]
    rfl⟩
theorem br_true {R : Type} (x y : Option R) : br true x y = x := rfl
theorem br_false {R : Type} (x y : Option R) : br false x y = y := rfl
theorem gd_true {R : Type} (x : Option R) : gd true x = x := rfl
theorem brT {R : Type} {b : Bool} (x y : Option R) (h : b = true) : br b x y = x := by subst h; rfl
theorem brF {R : Type} {b : Bool} (x y : Option R) (h : b = false) : br b x y = y := by subst h; rfl
theorem gdT {R : Type} {b : Bool} (x : Option R) (h : b = true) : gd b x = x := by subst h; rfl
theorem catB_of {a b : Str} (h : a.length + b.length ≤ 9223372036854775807) : catB a b = true := by unfold catB; rw [decide_eq_true_eq]; exact h
theorem cvt8 {n : Int} (h0 : 0 ≤ n) : cvtI .u8 n = n % 256 := by
  unfold cvtI IntKind.wrap
  simp [IntKind.signed, IntKind.bits]
theorem shr_eq {k : IntKind} {a : Int} {j : Nat} (h : j ≤ k.bits) : shrI k a (j : Int) = a / 2 ^ j := by
  unfold shrI
  rw [Int.toNat_natCast, Nat.min_eq_left h, Int.fdiv_eq_ediv_of_nonneg _ (Int.pow_nonneg (by omega))]
theorem u8_lt (b : UInt8) : b.toNat < 256 := b.toNat_lt
theorem ofNat_toNat (b : UInt8) : UInt8.ofNat b.toNat = b := by simp
theorem toNat_ofNat {n : Nat} (h : n < 256) : (UInt8.ofNat n).toNat = n := by simp; omega
def wr (t : UInt8) (b : Str) : Str :=
  if b.length < 128 then [t, UInt8.ofNat b.length] ++ b
  else if b.length < 256 then [t, 129, UInt8.ofNat b.length] ++ b
  else [t, 130, UInt8.ofNat (b.length / 256), UInt8.ofNat (b.length % 256)] ++ b
def tagB (t : Int) : Bool := decide (0 ≤ t) && decide (t < 256) && !decide (t % 32 = 31)
theorem and31 (t : Int) (h0 : 0 ≤ t) (h1 : t < 256) : andI .i64 t 31 = t % 32 := by
  have h : ∀ n : Nat, n < 256 → andI .i64 (n : Int) 31 = (n : Int) % 32 := by decide
  have := h t.toNat (by omega)
  rwa [Int.toNat_of_nonneg h0] at this
theorem isTag_eq (t : Int) (R : Type) (k : Bool → Option R) : Z58 R t k = k (tagB t) := by
  unfold Z58 Z11y tagB lett
  by_cases h0 : 0 ≤ t
  · rw [brT _ _ (by simp [ts, h0])]
    by_cases h1 : t < 256
    · rw [brT _ _ (by simp [ts, h1]), and31 t h0 h1]
      simp [h0, h1, eqI]
    · rw [brF _ _ (by simp only [ts]; omega)]
      simp [h1]
  · rw [brF _ _ (by simp only [ts]; omega)]
    simp [h0]
theorem write_ok (t : Int) (b : Str) (ht : tagB t = true) (hb : b.length ≤ 65535) (R : Type) (k : Str → Int → Option R) :
    Z1v R t b k = k (wr (UInt8.ofNat t.toNat) b) 0 := by
  have ht' := ht
  unfold tagB at ht'
  simp only [Bool.and_eq_true, decide_eq_true_eq, Bool.not_eq_true', decide_eq_false_iff_not] at ht'
  unfold Z1v Z11o lett
  dsimp only
  rw [isTag_eq, ht]
  simp only [Bool.not_true, br_false]
  rw [brF _ _ (by simp only [ts]; omega), cvt8 (by omega)]
  rw [show t % 256 = t by omega]
  rw [show ∀ (a : Str) (n : Int) (s : Str) (K : Str → Str → Option R), Z16s Z58 R a n s K = Zos Z58 R a n s K from fun a n s K => by kernel_rfl]
  unfold Zos lett wr
  dsimp only
  by_cases h1 : b.length < 128
  · rw [brT _ _ (by simp only [ts]; omega), if_pos h1, gdT _ (by simp [ts]), cvt8 (by omega), gdT _ (by simp only [ts]; simp; omega)]
    rw [show (((b.length : Int) % 256).toNat) = b.length by omega]
    rfl
  · rw [brF _ _ (by simp only [ts]; omega), if_neg h1]
    by_cases h2 : b.length < 256
    · rw [brT _ _ (by simp only [ts]; omega), if_pos h2, gdT _ (by simp [ts]), cvt8 (by omega), gdT _ (by simp only [ts]; simp; omega)]
      rw [show (((b.length : Int) % 256).toNat) = b.length by omega]
      rfl
    · have e : shrI .i64 (b.length : Int) 8 = ((b.length / 256 : Nat) : Int) := by
        rw [show (8 : Int) = ((8 : Nat) : Int) from rfl, shr_eq (by decide)]
        omega
      rw [brF _ _ (by simp only [ts]; omega), if_neg h2, e, gdT _ (by simp [ts]), cvt8 (by omega), cvt8 (by omega), gdT _ (by simp only [ts]; simp; omega)]
      rw [show (((b.length : Int) % 256).toNat) = b.length % 256 by omega, show ((((b.length / 256 : Nat) : Int) % 256).toNat) = b.length / 256 by omega]
      rfl
def num (a : Int) (s : Str) : Int := s.foldl (fun x b => x * 256 + (b.toNat : Int)) a
theorem num_step (a : Int) (s : Str) (i : Nat) (h : i < s.length) : num a (s.drop i) = num (a * 256 + ((s.getD i 0).toNat : Int)) (s.drop (i + 1)) := by
  unfold num
  rw [List.drop_eq_getElem_cons h, List.foldl_cons, List.getD_eq_getElem?_getD, List.getElem?_eq_getElem h]
  rfl
theorem num_end (a : Int) (s : Str) (i : Nat) (h : s.length ≤ i) : num a (s.drop i) = a := by
  rw [List.drop_eq_nil_of_le h]; rfl
theorem orShl (x b : Int) (hx0 : -36028797018963968 ≤ x) (hx1 : x < 36028797018963968) (hb0 : 0 ≤ b) (hb1 : b < 256) : orI .i64 (shlI .i64 x 8) b = x * 256 + b := by
  have e : shlI .i64 x 8 = x * 256 := by
    unfold shlI
    rw [show (2 : Int) ^ (min (Int.toNat 8) (IntKind.bits .i64)) = 256 by decide]
    exact wrap_i64' (by omega) (by omega)
  rw [e]
  unfold orI
  rw [show IntKind.bits .i64 = 64 from rfl]
  obtain ⟨b, rfl⟩ : ∃ n : Nat, (n : Int) = b := ⟨b.toNat, by omega⟩
  have h1 : (BitVec.ofInt 64 (x * 256)).toNat = 2 ^ 8 * ((x % 72057594037927936).toNat) := by
    rw [BitVec.toNat_ofInt]
    omega
  have h2 : (BitVec.ofInt 64 (b : Int)).toNat = b := by
    rw [BitVec.toNat_ofInt]
    omega
  rw [BitVec.toNat_or, h1, h2, ← Nat.two_pow_add_eq_or_of_lt (by omega)]
  unfold IntKind.wrap
  simp [IntKind.signed, IntKind.bits]
  omega
def hdr (n : Nat) : Str := if n < 128 then [UInt8.ofNat n] else if n < 256 then [129, UInt8.ofNat n] else [130, UInt8.ofNat (n / 256), UInt8.ofNat (n % 256)]
theorem wr_hdr (t : UInt8) (b : Str) : wr t b = t :: hdr b.length ++ b := by
  unfold wr hdr
  split
  · rfl
  · split <;> rfl
theorem pow256_le {a b : Nat} (h : a ≤ b) : (256 : Int) ^ a ≤ 256 ^ b := by
  have := Nat.pow_le_pow_right (n := 256) (by decide) h
  have e : ∀ n : Nat, (((256 ^ n : Nat)) : Int) = (256 : Int) ^ n := fun n => by simp
  rw [← e, ← e]
  omega
theorem length_loop {R : Type} (at_ : Int) (k : Int → Int → Option R) : ∀ (m n : Nat) (x : Int) (s : Str) (i : Nat), s.length = i + m → m < n → s.length ≤ 100 → 0 ≤ x → x < 256 ^ (6 - m) → m ≤ 6 →
    Zob R n x at_ (s.length : Int) (i : Int) s k = k (num x (s.drop i)) at_
  | _, 0, _, _, _, _, h, _, _, _, _ => absurd h (Nat.not_lt_zero _)
  | 0, n + 1, x, s, i, hs, _, h2, h0, h1, h6 => by
    rw [Zve]
    unfold Zgn
    rw [brF _ _ (by simp only [ts]; omega), num_end _ _ _ (by omega)]
  | m + 1, n + 1, x, s, i, hs, hn, h2, h0, h1, h6 => by
    rw [Zve]
    unfold Zgn lett; dsimp only
    have hb := u8_lt (s.getD i 0)
    have hx : x < 256 ^ 5 := Int.lt_of_lt_of_le h1 (pow256_le (by omega))
    have hp : (256 : Int) ^ (6 - m) = 256 ^ (6 - (m + 1)) * 256 := by
      rw [show 6 - m = 6 - (m + 1) + 1 by omega, Int.pow_succ]
    rw [brT _ _ (by simp only [ts]; omega), gdT _ (by simp only [ts]; omega), Int.toNat_natCast, tcvt (by omega) (by omega), orShl _ _ (by omega) (by omega) (by omega) (by omega), tadd (by omega) (by omega), num_step _ _ _ (by omega)]
    rw [← length_loop at_ k m n (x * 256 + ((s.getD i 0).toNat : Int)) s (i + 1) (by omega) (by omega) h2 (by omega) (by omega) (by omega)]
    simp only [Int.natCast_add, Int.natCast_one]
theorem lengthl0_eq (at_ : Int) (s : Str) (h : s.length ≤ 6) (R : Type) (k : Int → Int → Option R) : Zo7 R 0 at_ (s.length : Int) 0 s k = k (num 0 s) at_ := by
  rw [Z19n]
  exact length_loop at_ k s.length (Zc6 0 at_ s.length 0 s) 0 s 0 (by omega) (by unfold Zc6; omega) (by omega) (by omega) (Int.pow_pos (by decide)) h
theorem fder_length_tot (s : Str) (h : s.length ≤ 1000000000) : T_3 (fun R k0 => Z2u R s k0) (fun n a e => (e = 0 → ∃ (t : UInt8) (r : Str), s = t :: hdr n.toNat ++ r ∧ a = 1 + ((hdr n.toNat).length : Int) ∧ 0 ≤ n ∧ n ≤ 65535) ∧
    (e ≠ 0 → (e = 10 ∨ e = 11) ∧ ∀ (t : UInt8) (m : Nat) (r : Str), m ≤ 65535 → s ≠ t :: hdr m ++ r)) := by
  have one : ∀ (t c : UInt8) (r : Str) (t' : UInt8) (m : Nat) (r' : Str), t :: c :: r = t' :: hdr m ++ r' → (m < 128 ∧ c = UInt8.ofNat m) ∨ (128 ≤ m ∧ m < 256 ∧ c = 129 ∧ r = UInt8.ofNat m :: r') ∨ (256 ≤ m ∧ c = 130 ∧ r = UInt8.ofNat (m / 256) :: UInt8.ofNat (m % 256) :: r') := by
    intro t c r t' m r' e
    unfold hdr at e
    split at e
    · left; simp at e; exact ⟨by omega, e.2.1⟩
    · split at e
      · right; left; simp at e; exact ⟨by omega, by omega, e.2.1, e.2.2⟩
      · right; right; simp at e; exact ⟨by omega, e.2.1, e.2.2⟩
  have short : ∀ (s : Str), s.length < 2 → ∀ (t : UInt8) (m : Nat) (r : Str), m ≤ 65535 → s ≠ t :: hdr m ++ r := by
    intro s hs t m r _ e
    rw [e] at hs
    unfold hdr at hs
    split at hs
    · simp at hs; omega
    · split at hs <;> simp at hs <;> omega
  have big : ∀ (m : Nat), m < 256 → UInt8.ofNat m = UInt8.ofNat m ∧ (UInt8.ofNat m).toNat = m := fun m hm => ⟨rfl, toNat_ofNat hm⟩
  match s, h with
  | [], _ => exact ⟨0, 0, 10, ⟨fun h => absurd h (by decide), fun _ => ⟨.inl rfl, short [] (by decide)⟩⟩, fun R k => rfl⟩
  | [t], _ => exact ⟨0, 0, 10, ⟨fun h => absurd h (by decide), fun _ => ⟨.inl rfl, short [t] (by simp)⟩⟩, fun R k => rfl⟩
  | t :: c :: r, h => 
    have hc := u8_lt c
    simp only [List.length_cons] at h
    by_cases c1 : c.toNat < 128
    · refine ⟨c.toNat, 2, 0, ⟨fun _ => ⟨t, r, ?_, ?_, by omega, by omega⟩, fun h => absurd rfl h⟩, fun R k => ?_⟩
      · unfold hdr; rw [Int.toNat_natCast, if_pos c1, ofNat_toNat]; rfl
      · unfold hdr; rw [Int.toNat_natCast, if_pos c1]; rfl
      · unfold Z2u Zky lett; dsimp only
        rw [show ((t :: c :: r).getD 1 0) = c from rfl, brF _ _ (by simp [ts]; omega), gdT _ (by simp [ts]; omega), tcvt (by omega) (by omega), brT _ _ (by simp [ts]; omega)]
    · by_cases c2 : c.toNat = 128 ∨ 130 < c.toNat
      · refine ⟨0, 0, 11, ⟨fun h => absurd h (by decide), fun _ => ⟨.inr rfl, fun t' m r' hm e => ?_⟩⟩, fun R k => ?_⟩
        · rcases one _ _ _ _ _ _ e with ⟨h1, h2⟩ | ⟨_, _, h2, _⟩ | ⟨_, h2, _⟩
          · rw [h2, toNat_ofNat (by omega)] at c1; omega
          · subst h2; exact absurd c2 (by decide)
          · subst h2; exact absurd c2 (by decide)
        · unfold Z2u Zky lett; dsimp only
          rw [show ((t :: c :: r).getD 1 0) = c from rfl, brF _ _ (by simp [ts]; omega), gdT _ (by simp [ts]; omega), tcvt (by omega) (by omega), brF _ _ (by simp [ts]; omega)]
          by_cases c3 : c.toNat = 128
          · rw [brT _ _ (by simp [ts]; omega)]
          · rw [brF _ _ (by simp [ts]; omega), brT _ _ (by simp [ts]; omega)]
      · have go : ∀ (R : Type) (k : Int → Int → Int → Option R), Z2u R (t :: c :: r) k = br (ltI ((r.length + 1 + 1 : Nat) : Int) (addI .i64 2 (andI .i64 c.toNat 3))) (k 0 0 10)
            (gd (leB (addI .i64 2 (andI .i64 c.toNat 3)) (r.length + 1 + 1)) (gd (leB 2 ((addI .i64 2 (andI .i64 c.toNat 3)).toNat))
              (Zo7 R 0 (addI .i64 2 (andI .i64 c.toNat 3)) ((((t :: c :: r).take ((addI .i64 2 (andI .i64 c.toNat 3)).toNat)).drop 2).length : Int) 0 (((t :: c :: r).take ((addI .i64 2 (andI .i64 c.toNat 3)).toNat)).drop 2) fun y15 y16 =>
                br (ltI y15 128) (k 0 0 11) (br (eqI y16 4) (br (ltI y15 256) (k 0 0 11) (k y15 y16 0)) (k y15 y16 0))))) := by
          intro R k
          unfold Z2u Zky lett; dsimp only
          rw [show ((t :: c :: r).getD 1 0) = c from rfl, brF _ _ (by simp [ts]; omega), gdT _ (by simp [ts]; omega), tcvt (by omega) (by omega)]
          rw [brF _ _ (by simp [ts]; omega), brF _ _ (by simp [ts]; omega), brF _ _ (by simp [ts]; omega)]
          rfl
        rcases show c = 129 ∨ c = 130 by
            rcases show c.toNat = 129 ∨ c.toNat = 130 by omega with h | h
            · left; rw [← ofNat_toNat c, h]; rfl
            · right; rw [← ofNat_toNat c, h]; rfl with rfl | rfl
        · have ea : addI .i64 2 (andI .i64 ((129 : UInt8).toNat : Int) 3) = 3 := by decide
          simp only [ea] at go
          match r, h with
          | [], _ =>
            refine ⟨0, 0, 10, ⟨fun h => absurd h (by decide), fun _ => ⟨.inl rfl, fun t' m r' hm e => ?_⟩⟩, fun R k => ?_⟩
            · rcases one _ _ _ _ _ _ e with ⟨h1, h2⟩ | ⟨_, _, _, h2⟩ | ⟨_, h2, _⟩
              · have := congrArg UInt8.toNat h2; rw [toNat_ofNat (by omega)] at this; exact absurd this (by simp; omega)
              · exact absurd h2 (by simp)
              · exact absurd h2 (by decide)
            · exact (go R k).trans rfl
          | a :: r, h =>
            have ha := u8_lt a
            have go' : ∀ (R : Type) (k : Int → Int → Int → Option R), Z2u R (t :: 129 :: a :: r) k = br (ltI (a.toNat : Int) 128) (k 0 0 11) (k a.toNat 3 0) := by
              intro R k
              rw [go, brF _ _ (by simp [ts]; omega), gdT _ (by simp [ts]; omega), gdT _ (by decide)]
              rw [show ((t :: 129 :: a :: r).take (Int.toNat 3)).drop 2 = [a] from rfl, lengthl0_eq _ _ (by simp)]
              rw [show num 0 [a] = (a.toNat : Int) by simp [num]]
              rfl
            by_cases a1 : a.toNat < 128
            · refine ⟨0, 0, 11, ⟨fun h => absurd h (by decide), fun _ => ⟨.inr rfl, fun t' m r' hm e => ?_⟩⟩, fun R k => ?_⟩
              · rcases one _ _ _ _ _ _ e with ⟨h1, h2⟩ | ⟨m1, m2, _, h2⟩ | ⟨_, h2, _⟩
                · have := congrArg UInt8.toNat h2; rw [toNat_ofNat (by omega)] at this; exact absurd this (by simp; omega)
                · have := congrArg UInt8.toNat (List.cons.inj h2).1; rw [toNat_ofNat (by omega)] at this; omega
                · exact absurd h2 (by decide)
              · show Z2u _ _ _ = _
                rw [go', brT _ _ (by simp only [ts]; omega)]
            · refine ⟨a.toNat, 3, 0, ⟨fun _ => ⟨t, r, ?_, ?_, by omega, by omega⟩, fun h => absurd rfl h⟩, fun R k => ?_⟩
              · unfold hdr; rw [Int.toNat_natCast, if_neg a1, if_pos ha, ofNat_toNat]; rfl
              · unfold hdr; rw [Int.toNat_natCast, if_neg a1, if_pos ha]; rfl
              · show Z2u _ _ _ = _
                rw [go', brF _ _ (by simp only [ts]; omega)]
        · have ea : addI .i64 2 (andI .i64 ((130 : UInt8).toNat : Int) 3) = 4 := by decide
          simp only [ea] at go
          have no : r.length < 2 → ∀ (t' : UInt8) (m : Nat) (r' : Str), m ≤ 65535 → t :: 130 :: r ≠ t' :: hdr m ++ r' := by
            intro hr t' m r' hm e
            rcases one _ _ _ _ _ _ e with ⟨h1, h2⟩ | ⟨_, _, h2, _⟩ | ⟨_, _, h2⟩
            · have := congrArg UInt8.toNat h2; rw [toNat_ofNat (by omega)] at this; exact absurd this (by simp; omega)
            · exact absurd h2 (by decide)
            · rw [h2] at hr; simp at hr; omega
          match r, h, no with
          | [], _, no => exact ⟨0, 0, 10, ⟨fun h => absurd h (by decide), fun _ => ⟨.inl rfl, no (by decide)⟩⟩, fun R k => (go R k).trans rfl⟩
          | [a], _, no => exact ⟨0, 0, 10, ⟨fun h => absurd h (by decide), fun _ => ⟨.inl rfl, no (by simp)⟩⟩, fun R k => (go R k).trans rfl⟩
          | a :: b :: r, h, _ =>
            have ha := u8_lt a
            have hb := u8_lt b
            have go' : ∀ (R : Type) (k : Int → Int → Int → Option R), Z2u R (t :: 130 :: a :: b :: r) k = br (ltI ((a.toNat : Int) * 256 + b.toNat) 128) (k 0 0 11) (br (ltI ((a.toNat : Int) * 256 + b.toNat) 256) (k 0 0 11) (k ((a.toNat : Int) * 256 + b.toNat) 4 0)) := by
              intro R k
              simp only [List.length_cons] at h
              rw [go, brF _ _ (by simp [ts]; omega), gdT _ (by simp [ts]; omega), gdT _ (by decide)]
              rw [show ((t :: 130 :: a :: b :: r).take (Int.toNat 4)).drop 2 = [a, b] from rfl, lengthl0_eq _ _ (by simp)]
              rw [show num 0 [a, b] = (a.toNat : Int) * 256 + b.toNat by simp [num]]
              rfl
            by_cases a1 : a.toNat * 256 + b.toNat < 256
            · refine ⟨0, 0, 11, ⟨fun h => absurd h (by decide), fun _ => ⟨.inr rfl, fun t' m r' hm e => ?_⟩⟩, fun R k => ?_⟩
              · rcases one _ _ _ _ _ _ e with ⟨h1, h2⟩ | ⟨_, _, h2, _⟩ | ⟨m1, _, h2⟩
                · have := congrArg UInt8.toNat h2; rw [toNat_ofNat (by omega)] at this; exact absurd this (by simp; omega)
                · exact absurd h2 (by decide)
                · have e1 := congrArg UInt8.toNat (List.cons.inj h2).1
                  have e2 := congrArg UInt8.toNat (List.cons.inj (List.cons.inj h2).2).1
                  rw [toNat_ofNat (by omega)] at e1 e2
                  omega
              · show Z2u _ _ _ = _
                rw [go']
                by_cases a2 : a.toNat * 256 + b.toNat < 128
                · rw [brT _ _ (by simp only [ts]; omega)]
                · rw [brF _ _ (by simp only [ts]; omega), brT _ _ (by simp only [ts]; omega)]
            · refine ⟨(a.toNat : Int) * 256 + b.toNat, 4, 0, ⟨fun _ => ⟨t, r, ?_, ?_, by omega, by omega⟩, fun h => absurd rfl h⟩, fun R k => ?_⟩
              · rw [show ((a.toNat : Int) * 256 + b.toNat).toNat = a.toNat * 256 + b.toNat by omega]
                unfold hdr
                rw [if_neg (by omega), if_neg (by omega), show (a.toNat * 256 + b.toNat) / 256 = a.toNat by omega, show (a.toNat * 256 + b.toNat) % 256 = b.toNat by omega, ofNat_toNat, ofNat_toNat]
                rfl
              · rw [show ((a.toNat : Int) * 256 + b.toNat).toNat = a.toNat * 256 + b.toNat by omega]
                unfold hdr
                rw [if_neg (by omega), if_neg (by omega)]
                rfl
              · show Z2u _ _ _ = _
                rw [go', brF _ _ (by simp only [ts]; omega), brF _ _ (by simp only [ts]; omega)]
theorem hdr_len (n : Nat) : 1 ≤ (hdr n).length ∧ (hdr n).length ≤ 3 := by
  unfold hdr
  split
  · simp
  · split <;> simp
theorem hdr_inj {m n : Nat} {r q : Str} (hm : m ≤ 65535) (hn : n ≤ 65535) (e : hdr m ++ r = hdr n ++ q) : m = n ∧ r = q := by
  have tn : ∀ a b : Nat, a < 256 → b < 256 → UInt8.ofNat a = UInt8.ofNat b → a = b := fun a b ha hb h => by
    have := congrArg UInt8.toNat h; rwa [toNat_ofNat ha, toNat_ofNat hb] at this
  have c1 : (129 : UInt8) = UInt8.ofNat 129 := rfl
  have c2 : (130 : UInt8) = UInt8.ofNat 130 := rfl
  unfold hdr at e
  by_cases m1 : m < 128
  · rw [if_pos m1] at e
    by_cases n1 : n < 128
    · rw [if_pos n1] at e
      exact ⟨tn _ _ (by omega) (by omega) (List.cons.inj e).1, (List.cons.inj e).2⟩
    · rw [if_neg n1] at e
      by_cases n2 : n < 256
      · rw [if_pos n2] at e
        have := tn _ _ (by omega) (by omega) ((List.cons.inj e).1.trans c1); omega
      · rw [if_neg n2] at e
        have := tn _ _ (by omega) (by omega) ((List.cons.inj e).1.trans c2); omega
  · rw [if_neg m1] at e
    by_cases m2 : m < 256
    · rw [if_pos m2] at e
      by_cases n1 : n < 128
      · rw [if_pos n1] at e
        have := tn _ _ (by omega) (by omega) (c1.symm.trans (List.cons.inj e).1); omega
      · rw [if_neg n1] at e
        by_cases n2 : n < 256
        · rw [if_pos n2] at e
          have e2 := (List.cons.inj e).2
          exact ⟨tn _ _ (by omega) (by omega) (List.cons.inj e2).1, (List.cons.inj e2).2⟩
        · rw [if_neg n2] at e
          exact absurd (List.cons.inj e).1 (by decide)
    · rw [if_neg m2] at e
      by_cases n1 : n < 128
      · rw [if_pos n1] at e
        have := tn _ _ (by omega) (by omega) (c2.symm.trans (List.cons.inj e).1); omega
      · rw [if_neg n1] at e
        by_cases n2 : n < 256
        · rw [if_pos n2] at e
          exact absurd (List.cons.inj e).1 (by decide)
        · rw [if_neg n2] at e
          have e2 := (List.cons.inj e).2
          have e3 := (List.cons.inj e2).2
          have h1 := tn _ _ (by omega) (by omega) (List.cons.inj e2).1
          have h2 := tn _ _ (by omega) (by omega) (List.cons.inj e3).1
          exact ⟨by omega, (List.cons.inj e3).2⟩
theorem wr_inj {s t : UInt8} {a b r q : Str} (ha : a.length ≤ 65535) (hb : b.length ≤ 65535) (e : wr s a ++ r = wr t b ++ q) : s = t ∧ a = b ∧ r = q := by
  rw [wr_hdr, wr_hdr, List.cons_append, List.cons_append, List.cons_append, List.cons_append] at e
  obtain ⟨e1, e2⟩ := List.cons.inj e
  rw [List.append_assoc, List.append_assoc] at e2
  obtain ⟨e3, e4⟩ := hdr_inj ha hb e2
  obtain ⟨e5, e6⟩ := List.append_inj e4 e3
  exact ⟨e1, e5, e6⟩
theorem wr_length (t : UInt8) (b : Str) : b.length + 2 ≤ (wr t b).length ∧ (wr t b).length ≤ b.length + 4 := by
  rw [wr_hdr]
  have := hdr_len b.length
  simp only [List.length_append, List.length_cons]
  omega
theorem read_join (s : Str) (n a e : Int) (b : Bool) (R : Type) (k : Str → Int → Int → Int → Option R) : Z11x Z58 Z2u R s n a e b k = k s n a (if b then 10 else e) := by
  cases b <;> rfl
theorem fder_Read_tot (s : Str) (h : s.length ≤ 1000000000) : T_4 (fun R k0 => Z9c R s k0) (fun t b r e => (e = 0 → tagB t = true ∧ s = wr (UInt8.ofNat t.toNat) b ++ r ∧ b.length ≤ 65535) ∧
    (e ≠ 0 → t = 0 ∧ b = [] ∧ r = [] ∧ (e = 10 ∨ e = 11) ∧ ∀ (t' : Int) (b' r' : Str), tagB t' = true → b'.length ≤ 65535 → s ≠ wr (UInt8.ofNat t'.toNat) b' ++ r')) := by
  match s, h with
  | [], _ =>
    refine ⟨0, [], [], 10, ⟨fun h => absurd h (by decide), fun _ => ⟨rfl, rfl, rfl, .inl rfl, fun t' b' r' _ _ e => ?_⟩⟩, fun R k => rfl⟩
    have := congrArg List.length e
    have := wr_length (UInt8.ofNat t'.toNat) b'
    simp only [List.length_append, List.length_nil] at *
    omega
  | c :: s, h =>
    have hc := u8_lt c
    have tagc : ∀ (t' : Int) (b' r' : Str), tagB t' = true → b'.length ≤ 65535 → c :: s = wr (UInt8.ofNat t'.toNat) b' ++ r' → t' = c.toNat := by
      intro t' b' r' ht _ e
      rw [wr_hdr] at e
      have e1 := congrArg UInt8.toNat (List.cons.inj e).1
      unfold tagB at ht
      simp only [Bool.and_eq_true, decide_eq_true_eq] at ht
      rw [toNat_ofNat (by omega)] at e1
      omega
    by_cases ht : tagB c.toNat = true
    · obtain ⟨n, a, e, ⟨p1, p2⟩, hl⟩ := fder_length_tot (c :: s) h
      have go : ∀ (R : Type) (k : Int → Str → Str → Int → Option R), Z9c R (c :: s) k = br (eqI e 0)
          (br (!(eqI (if ltI (subI .i64 ((c :: s).length : Int) a) n then 10 else e) 0)) (k 0 [] [] (if ltI (subI .i64 ((c :: s).length : Int) a) n then 10 else e))
            (gd (leB (addI .i64 a n) (c :: s).length) (gd (leB a ((addI .i64 a n).toNat)) (gd (leB (addI .i64 a n) (c :: s).length) (k (c.toNat : Int) (((c :: s).take ((addI .i64 a n).toNat)).drop a.toNat) ((c :: s).drop ((addI .i64 a n).toNat)) 0)))))
          (k 0 [] [] e) := by
        intro R k
        unfold Z9c Zxz lett; dsimp only
        rw [show eqS (c :: s) [] = false by unfold eqS; simp, br_false, gdT _ (by simp [ts] <;> omega), show (c :: s).getD 0 0 = c from rfl, tcvt (by omega) (by omega), isTag_eq, ht]
        rw [show (!true) = false from rfl, br_false]
        refine (hl R _).trans ?_
        by_cases he : e = 0
        · rw [brT _ _ (by simp only [ts]; exact he), brT _ _ (by simp only [ts]; exact he), read_join, gdT _ (by simp [ts] <;> omega), show (c :: s).getD 0 0 = c from rfl, tcvt (by omega) (by omega)]
        · rw [brF _ _ (by simp only [ts]; exact he), brF _ _ (by simp only [ts]; exact he), read_join]
          rw [if_neg (by decide), brT _ _ (by simp only [ts]; exact he)]
      by_cases he : e = 0
      · obtain ⟨t, r, hs, ha, hn0, hn1⟩ := p1 he
        subst he
        obtain ⟨rfl, rfl⟩ : c = t ∧ s = hdr n.toNat ++ r := ⟨(List.cons.inj hs).1, (List.cons.inj hs).2⟩
        have hh := hdr_len n.toNat
        simp only [List.length_cons, List.length_append] at h
        by_cases hlt : (r.length : Int) < n
        · refine ⟨0, [], [], 10, ⟨fun h => absurd h (by decide), fun _ => ⟨rfl, rfl, rfl, .inl rfl, fun t' b' r' ht' hb' e => ?_⟩⟩, fun R k => ?_⟩
          · rw [wr_hdr] at e
            have e2 : hdr n.toNat ++ r = hdr b'.length ++ b' ++ r' := (List.cons.inj e).2
            rw [List.append_assoc] at e2
            obtain ⟨e3, e4⟩ := hdr_inj (by omega) hb' e2
            rw [e4] at hlt
            simp only [List.length_append] at hlt
            omega
          · show Z9c _ _ _ = _
            rw [go, brT _ _ (by decide), if_pos (by simp only [ts, List.length_cons, List.length_append]; rw [tsub (by omega) (by omega)]; omega)]
            rfl
        · refine ⟨c.toNat, r.take n.toNat, r.drop n.toNat, 0, ⟨fun _ => ⟨ht, ?_, ?_⟩, fun h => absurd rfl h⟩, fun R k => ?_⟩
          · rw [wr_hdr, Int.toNat_natCast, ofNat_toNat, List.length_take, Nat.min_eq_left (by omega), List.cons_append, List.cons_append, List.append_assoc, List.take_append_drop]
          · rw [List.length_take]; omega
          · show Z9c _ _ _ = _
            have ea : addI .i64 a n = a + n := tadd (by omega) (by omega)
            rw [go, brT _ _ (by decide), if_neg (by simp only [ts, List.length_cons, List.length_append, Bool.not_eq_true]; rw [tsub (by omega) (by omega)]; omega), ea]
            rw [brF _ _ (by decide), gdT _ (by simp only [ts, List.length_cons, List.length_append]; omega), gdT _ (by simp only [ts]; omega), gdT _ (by simp only [ts, List.length_cons, List.length_append]; omega)]
            rw [show (a + n).toNat = (c :: hdr n.toNat).length + n.toNat by simp only [List.length_cons]; omega, show a.toNat = (c :: hdr n.toNat).length by simp only [List.length_cons]; omega]
            rw [show c :: (hdr n.toNat ++ r) = (c :: hdr n.toNat) ++ r from rfl, List.take_length_add_append, List.drop_length_add_append, List.drop_left]
      · obtain ⟨q1, q2⟩ := p2 he
        refine ⟨0, [], [], e, ⟨fun h => absurd h he, fun _ => ⟨rfl, rfl, rfl, q1, fun t' b' r' ht' hb' e' => ?_⟩⟩, fun R k => ?_⟩
        · rw [wr_hdr] at e'
          rw [show UInt8.ofNat t'.toNat :: hdr b'.length ++ b' ++ r' = UInt8.ofNat t'.toNat :: hdr b'.length ++ (b' ++ r') by simp] at e'
          exact q2 _ _ _ hb' e'
        · show Z9c _ _ _ = _
          rw [go, brF _ _ (by simp only [ts]; exact he)]
    · have ht := (Bool.not_eq_true _).mp ht
      refine ⟨0, [], [], 11, ⟨fun h => absurd h (by decide), fun _ => ⟨rfl, rfl, rfl, .inr rfl, fun t' b' r' ht' hb' e => ?_⟩⟩, fun R k => ?_⟩
      · rw [tagc t' b' r' ht' hb' e, ht] at ht'
        exact absurd ht' (by decide)
      · show Z9c _ _ _ = _
        unfold Z9c Zxz lett; dsimp only
        rw [show eqS (c :: s) [] = false by unfold eqS; simp, br_false, gdT _ (by simp [ts] <;> omega), show (c :: s).getD 0 0 = c from rfl, tcvt (by omega) (by omega), isTag_eq, ht]
        rfl
theorem read_wr (t : Int) (b r : Str) (ht : tagB t = true) (hb : b.length ≤ 65535) (hr : r.length ≤ 900000000) (R : Type) (k : Int → Str → Str → Int → Option R) :
    Z9c R (wr (UInt8.ofNat t.toNat) b ++ r) k = k t b r 0 := by
  have hl := wr_length (UInt8.ofNat t.toNat) b
  obtain ⟨t', b', r', e, ⟨p1, p2⟩, hf⟩ := fder_Read_tot (wr (UInt8.ofNat t.toNat) b ++ r) (by rw [List.length_append]; omega)
  by_cases he : e = 0
  · obtain ⟨q1, q2, q3⟩ := p1 he
    obtain ⟨e1, rfl, rfl⟩ := wr_inj hb q3 q2
    have e2 := congrArg UInt8.toNat e1
    unfold tagB at ht q1
    simp only [Bool.and_eq_true, decide_eq_true_eq] at ht q1
    rw [toNat_ofNat (by omega), toNat_ofNat (by omega)] at e2
    obtain rfl : t = t' := by omega
    subst he
    exact hf R k
  · exact absurd rfl ((p2 he).2.2.2.2 t b r ht hb)
def spareB : Str → Bool
  | a :: b :: _ => (decide (a.toNat = 0) && decide (b.toNat < 128)) || (decide (a.toNat = 255) && decide (128 ≤ b.toNat))
  | _ => false
theorem shr7 (b : Nat) : shrI .u8 (b : Int) 7 = ((b / 128 : Nat) : Int) := by
  rw [show (7 : Int) = ((7 : Nat) : Int) from rfl, shr_eq (by decide)]
  omega
theorem spare_eq (s : Str) (hs : s.length ≤ 1000000000) (R : Type) (k : Bool → Option R) : Z1x R s k = k (spareB s) := by
  match s, hs with
  | [], _ => rfl
  | [_], _ => rfl
  | a :: b :: r, hs =>
    have ha := u8_lt a
    have hb := u8_lt b
    have e0 : (a :: b :: r).getD 0 0 = a := rfl
    have e1 : (a :: b :: r).getD 1 0 = b := rfl
    have i0 : inB 0 (a :: b :: r).length = true := by simp [ts] <;> omega
    have i1 : inB 1 (a :: b :: r).length = true := by simp [ts] <;> omega
    unfold Z1x Z11z lett spareB; dsimp only
    rw [brT _ _ (by simp [ts] <;> omega)]
    simp only [e0, e1, i0, i1, gd_true, shr7]
    by_cases h1 : a.toNat = 0
    · rw [brT _ _ (by simp only [ts]; omega)]
      by_cases h2 : b.toNat < 128
      · rw [brT _ _ (by simp only [ts]; omega)]
        simp [h1, h2]
      · rw [brF _ _ (by simp only [ts]; omega), brF _ _ (by simp only [ts]; omega)]
        simp [h1, h2]
    · rw [brF _ _ (by simp only [ts]; omega)]
      by_cases h2 : a.toNat = 255
      · rw [brT _ _ (by simp only [ts]; omega)]
        congr 1
        unfold eqI
        by_cases h3 : 128 ≤ b.toNat
        · rw [show b.toNat / 128 = 1 by omega]; simp [h1, h2, h3]
        · rw [show b.toNat / 128 = 0 by omega]; simp [h1, h2, h3]
      · rw [brF _ _ (by simp only [ts]; omega)]
        simp [h1, h2]
def sg (b : UInt8) : Int := if b.toNat < 128 then (b.toNat : Int) else (b.toNat : Int) - 256
def sval : Str → Int
  | [] => 0
  | b :: r => num (sg b) r
theorem sg_bounds (b : UInt8) : -128 ≤ sg b ∧ sg b ≤ 127 := by
  have := u8_lt b
  unfold sg
  split <;> omega
theorem sval_drop (a b : UInt8) (r : Str) (h : spareB (a :: b :: r) = true) : sval (b :: r) = sval (a :: b :: r) := by
  have hb := u8_lt b
  have e : sval (a :: b :: r) = num (sg a * 256 + (b.toNat : Int)) r := rfl
  have e2 : sval (b :: r) = num (sg b) r := rfl
  rw [e, e2]
  congr 1
  unfold spareB at h
  unfold sg
  simp only [Bool.or_eq_true, Bool.and_eq_true, decide_eq_true_eq] at h
  rcases h with ⟨h1, h2⟩ | ⟨h1, h2⟩
  · rw [if_pos h2, if_pos (by omega)]; omega
  · rw [if_neg (by omega), if_neg (by omega)]; omega
theorem readInt_loop {R : Type} (k : Int → Option R) : ∀ (m n : Nat) (x : Int) (s : Str) (i : Nat), s.length = i + m → m < n → s.length ≤ 1000000000 ∧ m ≤ 7 → -(128 * 256 ^ (7 - m)) ≤ x → x < 128 * 256 ^ (7 - m) →
    Zln R n x (s.length : Int) (i : Int) s k = k (num x (s.drop i))
  | _, 0, _, _, _, _, h, _, _, _ => absurd h (Nat.not_lt_zero _)
  | 0, n + 1, x, s, i, hs, _, h2, h0, h1 => by
    rw [Zsr]
    unfold Zeo
    rw [brF _ _ (by simp only [ts]; omega), num_end _ _ _ (by omega)]
  | m + 1, n + 1, x, s, i, hs, hn, h2, h0, h1 => by
    rw [Zsr]
    unfold Zeo lett; dsimp only
    have hb := u8_lt (s.getD i 0)
    have hx : (256 : Int) ^ (7 - (m + 1)) ≤ 256 ^ 6 := pow256_le (by omega)
    have hp : (256 : Int) ^ (7 - m) = 256 ^ (7 - (m + 1)) * 256 := by
      rw [show 7 - m = 7 - (m + 1) + 1 by omega, Int.pow_succ]
    rw [brT _ _ (by simp only [ts]; omega), gdT _ (by simp only [ts]; omega), Int.toNat_natCast, tcvt (by omega) (by omega), orShl _ _ (by omega) (by omega) (by omega) (by omega), tadd (by omega) (by omega), num_step _ _ _ (by omega)]
    rw [← readInt_loop k m n (x * 256 + ((s.getD i 0).toNat : Int)) s (i + 1) (by omega) (by omega) ⟨h2.1, by omega⟩ (by omega) (by omega)]
    simp only [Int.natCast_add, Int.natCast_one]
theorem readInt_eq (s : Str) (hs : s.length ≤ 1000000000) (R : Type) (k : Int → Int → Option R) : Zdh R s k =
    (if s = [] then k 0 10 else if spareB s then k 0 11 else if 8 < s.length then k 0 13 else k (sval s) 0) := by
  match s, hs with
  | [], _ => rfl
  | b :: r, hs =>
    have hb := u8_lt b
    simp only [List.length_cons] at hs
    unfold Zdh Zvm lett; dsimp only
    rw [if_neg (by simp), show eqS (b :: r) [] = false by unfold eqS; simp, br_false, spare_eq _ (by simp; omega)]
    cases hsp : spareB (b :: r) with
    | true => rfl
    | false =>
      rw [br_false, if_neg (by decide)]
      by_cases h8 : 8 < (b :: r).length
      · have h8' : 8 < r.length + 1 := h8
        rw [brT _ _ (by simp only [ts]; omega), if_pos h8]
      · have h8' : ¬ 8 < r.length + 1 := h8
        rw [brF _ _ (by simp only [ts]; omega), if_neg h8, gdT _ (by simp [ts] <;> omega), gdT _ (by simp [ts] <;> omega)]
        rw [show (b :: r).getD 0 0 = b from rfl, show (b :: r).drop 1 = r from rfl]
        have e8 : cvtI .i64 (cvtI .i8 (b.toNat : Int)) = sg b := by
          unfold cvtI IntKind.wrap sg
          simp [IntKind.signed, IntKind.bits]
          split <;> omega
        rw [e8, Z17v]
        have hg := sg_bounds b
        simp only [List.length_cons] at h8
        have := readInt_loop (fun y => k y 0) r.length (Zbl (sg b) r.length 0 r) (sg b) r 0 (by omega) (by unfold Zbl; omega) ⟨by omega, by omega⟩
          (Int.le_trans (by have := Int.pow_pos (n := 256) (m := 7 - r.length) (by decide); omega) hg.1) (Int.lt_of_le_of_lt hg.2 (by have := Int.pow_pos (n := 256) (m := 7 - r.length) (by decide); omega))
        exact this
def bt (n : Int) (j : Nat) : UInt8 := UInt8.ofNat ((n / 2 ^ (56 - 8 * j)) % 256).toNat
def b8 (n : Int) : Str := [bt n 0, bt n 1, bt n 2, bt n 3, bt n 4, bt n 5, bt n 6, bt n 7]
theorem bt_toNat (n : Int) (j : Nat) : ((bt n j).toNat : Int) = (n / 2 ^ (56 - 8 * j)) % 256 := by
  unfold bt
  rw [toNat_ofNat (by omega)]
  omega
theorem sval_b8 (n : Int) (h0 : -9223372036854775808 ≤ n) (h1 : n ≤ 9223372036854775807) : sval (b8 n) = n := by
  have e0 := bt_toNat n 0; have e1 := bt_toNat n 1; have e2 := bt_toNat n 2; have e3 := bt_toNat n 3
  have e4 := bt_toNat n 4; have e5 := bt_toNat n 5; have e6 := bt_toNat n 6; have e7 := bt_toNat n 7
  have e : sval (b8 n) = ((((((((sg (bt n 0)) * 256 + (bt n 1).toNat) * 256 + (bt n 2).toNat) * 256 + (bt n 3).toNat) * 256 + (bt n 4).toNat) * 256 + (bt n 5).toNat) * 256 + (bt n 6).toNat) * 256 + (bt n 7).toNat : Int) := rfl
  simp only [Nat.reduceMul, Nat.reduceSub, Int.reducePow, Int.ediv_one, Int.pow_zero] at e0 e1 e2 e3 e4 e5 e6 e7
  have step : ∀ c : Int, 0 < c → n / (c * 256) * 256 + n / c % 256 = n / c := by
    intro c hc
    rw [← Int.ediv_ediv_of_nonneg (by omega)]
    omega
  have s0 : sg (bt n 0) = n / 72057594037927936 := by
    have a1 : -128 ≤ n / 72057594037927936 := by omega
    have a2 : n / 72057594037927936 ≤ 127 := by omega
    generalize n / 72057594037927936 = q at *
    unfold sg
    split <;> omega
  rw [e, s0, e1, e2, e3, e4, e5, e6, e7]
  have q1 := step 281474976710656 (by decide)
  have q2 := step 1099511627776 (by decide)
  have q3 := step 4294967296 (by decide)
  have q4 := step 16777216 (by decide)
  have q5 := step 65536 (by decide)
  have q6 := step 256 (by decide)
  have q7 := step 1 (by decide)
  simp only [Int.reduceMul, Int.ediv_one] at q1 q2 q3 q4 q5 q6 q7
  rw [q1, q2, q3, q4, q5, q6, q7]
def strip : Str → Str
  | [] => []
  | a :: r => if spareB (a :: r) then strip r else a :: r
theorem int_bytes {R : Type} (k : Str → Option R) (x : Int) : ∀ (m n i : Nat) (s : Str), i + m = 8 → m < n → s.length = 8 → s.take i = (b8 x).take i → Zxu R n x (i : Int) s k = k (b8 x)
  | _, 0, _, _, _, h, _, _ => absurd h (Nat.not_lt_zero _)
  | 0, n + 1, i, s, hi, _, hs, ht => by
    rw [Z10i]
    unfold Zlt
    rw [brF _ _ (by simp only [ts]; omega)]
    rw [List.take_of_length_le (by omega), List.take_of_length_le (by simp [b8]; omega)] at ht
    rw [ht]
  | m + 1, n + 1, i, s, hi, hn, hs, ht => by
    rw [Z10i]
    unfold Zlt lett; dsimp only
    have e1 : subI .i64 56 (mulI .i64 8 (i : Int)) = ((56 - 8 * i : Nat) : Int) := by
      rw [tmul (by omega) (by omega), tsub (by omega) (by omega)]; omega
    rw [brT _ _ (by simp only [ts]; omega), e1, gdT _ (by simp only [ts]; omega), gdT _ (by simp only [ts]; omega), shr_eq (by show 56 - 8 * i ≤ 64; omega), tadd (by omega) (by omega), Int.toNat_natCast]
    have e2 : UInt8.ofNat (cvtI .u8 (x / 2 ^ (56 - 8 * i))).toNat = bt x i := by
      unfold bt
      congr 2
    rw [e2]
    have := int_bytes k x m n (i + 1) (s.set i (bt x i)) (by omega) (by omega) (by rw [List.length_set]; exact hs) ?_
    · rw [← this]; simp only [Int.natCast_add, Int.natCast_one]
    · rw [List.take_succ_eq_append_getElem (by rw [List.length_set]; omega), List.take_succ_eq_append_getElem (by simp [b8]; omega), List.getElem_set_self, List.take_set_of_le (by omega), ht]
      congr 2
      have : i = 0 ∨ i = 1 ∨ i = 2 ∨ i = 3 ∨ i = 4 ∨ i = 5 ∨ i = 6 ∨ i = 7 := by omega
      rcases this with rfl | rfl | rfl | rfl | rfl | rfl | rfl | rfl <;> rfl
theorem int_strip {R : Type} (k : Str → Option R) : ∀ (m n : Nat) (s : Str), s.length = m → m ≤ 1000000000 → m < n → s ≠ [] →
    Zxt R n s k = k (strip s)
  | _, 0, _, _, _, h, _ => absurd h (Nat.not_lt_zero _)
  | 0, _ + 1, s, h, _, _, h0 => absurd (List.length_eq_zero_iff.mp h) h0
  | m + 1, n + 1, a :: r, hm, h8, hn, _ => by
    rw [Z19k]
    unfold Zu4; dsimp only
    simp only [List.length_cons] at hm
    rw [spare_eq _ (by simp; omega), strip]
    cases hsp : spareB (a :: r) with
    | false => rw [br_false]; rfl
    | true =>
      rw [br_true, gdT _ (by simp [ts] <;> omega)]
      cases r with
      | nil => exact absurd hsp (by simp [spareB])
      | cons b r => exact int_strip k m n (b :: r) (by omega) (by omega) (by omega) (by simp)
theorem strip_spec : ∀ (s : Str), s ≠ [] → sval (strip s) = sval s ∧ spareB (strip s) = false ∧ strip s ≠ [] ∧ (strip s).length ≤ s.length
  | [], h => absurd rfl h
  | a :: r, _ => by
    rw [strip]
    cases hsp : spareB (a :: r) with
    | false => exact ⟨rfl, hsp, by simp, Nat.le_refl _⟩
    | true =>
      cases r with
      | nil => exact absurd hsp (by simp [spareB])
      | cons b r =>
        obtain ⟨h1, h2, h3, h4⟩ := strip_spec (b :: r) (by simp)
        exact ⟨h1.trans (sval_drop a b r hsp), h2, h3, by simp only [List.length_cons] at *; exact Nat.le_succ_of_le h4⟩
def intS (n : Int) : Str := strip (b8 n)
theorem intS_spec (n : Int) (h0 : -9223372036854775808 ≤ n) (h1 : n ≤ 9223372036854775807) : sval (intS n) = n ∧ spareB (intS n) = false ∧ intS n ≠ [] ∧ (intS n).length ≤ 8 := by
  obtain ⟨a, b, c, d⟩ := strip_spec (b8 n) (by simp [b8])
  exact ⟨a.trans (sval_b8 n h0 h1), b, c, d⟩
theorem int_eq (n : Int) (R : Type) (k : Str → Option R) : Zzq R n k = k (wr 2 (intS n)) := by
  unfold Zzq Z16j lett; dsimp only
  rw [Z1bl]
  have := int_bytes (R := R) (fun y9 => Z13r Z1x Z1v R ((y9.drop 0).take 8) fun y12 => Z1v R 2 y12 fun r13 r14 => k r13) n 8 (Zh3 n 0 (List.replicate 8 0)) 0 (List.replicate 8 0) (by omega) (by unfold Zh3; omega) (by decide) (by rfl)
  refine this.trans ?_
  rw [show ((b8 n).drop 0).take 8 = b8 n from rfl, Z1bo, int_strip _ 8 _ (b8 n) rfl (by decide) (by unfold Zlw; omega) (by simp [b8]), write_ok 2 _ (by decide)]
  · rfl
  · have := (strip_spec (b8 n) (by simp [b8])).2.2.2
    rw [show (b8 n).length = 8 from rfl] at this
    omega
theorem readInt_intS (n : Int) (h0 : -9223372036854775808 ≤ n) (h1 : n ≤ 9223372036854775807) (R : Type) (k : Int → Int → Option R) : Zdh R (intS n) k = k n 0 := by
  obtain ⟨a, b, c, d⟩ := intS_spec n h0 h1
  rw [readInt_eq _ (by omega), if_neg c, b, if_neg (by decide), if_neg (by omega), a]
end Go.Ev
