/-  -/
import Derived.Test.YtlomoioolngohaaGreatDoorBase
import Derived.KernelRfl
set_option linter.unusedVariables false
set_option maxRecDepth 100000
namespace Go.Ev
open Go.Proofs
noncomputable def f23g (R : Type) (a1 : Int) (k0 : Int → Int → Int → Option R) : Option R :=
  let v2 : Int := quoI .i64 (addI .i64 a1 719468) 146097
  let v3 : Int := remI (addI .i64 a1 719468) 146097
  let v4 : Int := subI .i64 v3 (quoI .i64 v3 1460)
  let v5 : Int := addI .i64 v4 (quoI .i64 v3 36524)
  let v6 : Int := subI .i64 v5 (quoI .i64 v3 146096)
  let v7 : Int := mulI .i64 365 (quoI .i64 v6 365)
  let v8 : Int := quoI .i64 (quoI .i64 v6 365) 4
  let v9 : Int := quoI .i64 (quoI .i64 v6 365) 100
  let v10 : Int := subI .i64 (addI .i64 v7 v8) v9
  let v11 : Int := mulI .i64 5 (subI .i64 v3 v10)
  let v12 : Int := quoI .i64 (addI .i64 v11 2) 153
  let v13 : Int := addI .i64 (mulI .i64 153 v12) 2
  let v14 : Int := subI .i64 (subI .i64 v3 v10) (quoI .i64 v13 5)
  let v15 : Int := addI .i64 (quoI .i64 v6 365) (mulI .i64 400 v2)
  br (leI 10 v12)
    (k0 (addI .i64 v15 1) (subI .i64 v12 9) (addI .i64 v14 1))
    (k0 v15 (addI .i64 v12 3) (addI .i64 v14 1))
noncomputable def c23k (f : (R : Type) → Int → (Int → Int → Int → Option R) → Option R) : Con := { args := [.sc (.i .i64)], blks := [], shapes := [⟨Int × Int × Int, fun r => (.tup [.sc (.int .i64 r.1), .sc (.int .i64 r.2.1), .sc (.int .i64 r.2.2)], [], 0)⟩], F := fun R x y k => f R (x.1) (fun z0 z1 z2 => k.1 (z0, z1, z2)) }
noncomputable def f23 : (R : Type) → Int → (Int → Int → Int → Option R) → Option R := f23g
noncomputable def c23 : Con := c23k f23
theorem c23_says : (c23k (f23g)).Says Tryz.prog Tryz.f23 (conL []) (pieceL 0 []) .leaf := by
  intro R x y K
  kernel_rfl
theorem c23_ok : ConOK Tryz.prog 23 c23 :=
  con_ok (fn := Tryz.f23) (code := fsub Tryz.f23 []) (by kernel_rfl) (by kernel_rfl) (by kernel_rfl) (by kernel_rfl) (cons_ok (l := []) trivial) (orcs_ok' (l := []) (by kernel_rfl) trivial) (c23_says)

noncomputable def f46 (R : Type) (a0 : Int) (k0 : Str → Option R) : Option R :=
  gd (true) (k0 (Lib.itoa a0))
noncomputable def c46k (f : (R : Type) → Int → (Str → Option R) → Option R) : Con := { args := [.sc (.i .i64)], blks := [], shapes := [⟨Str, fun r => (.c (.sc (.str r)), [], 0)⟩], F := fun R x y k => f R (x.1) (fun z0 => k.1 z0) }
noncomputable def c46 : Con := c46k f46
theorem c46_eq : c46 = libCon [.sc (.i .i64)] (Str) (fun r => .c (.sc (.str r))) (fun x => true) (fun x => Lib.itoa (x.1)) := rfl
theorem c46_ok : ConOK Tryz.prog 46 c46 := by
  rw [c46_eq]
  exact lib_ok (fn := Tryz.f46) (by kernel_rfl) (by kernel_rfl) (by kernel_rfl) (fun _ _ => rfl) itoa_calls

noncomputable def f47 (R : Type) (a0 : Str) (a1 : Int) (k0 : Str → Option R) : Option R :=
  gd (repB a0 a1) (k0 (Lib.repeatL a0 (a1).toNat))
noncomputable def c47k (f : (R : Type) → Str → Int → (Str → Option R) → Option R) : Con := { args := [.sc (.s), .sc (.i .i64)], blks := [], shapes := [⟨Str, fun r => (.c (.sc (.str r)), [], 0)⟩], F := fun R x y k => f R (x.1) (x.2.1) (fun z0 => k.1 z0) }
noncomputable def c47 : Con := c47k f47
theorem c47_eq : c47 = libCon [.sc (.s), .sc (.i .i64)] (Str) (fun r => .c (.sc (.str r))) (fun x => repB (x.1) (x.2.1)) (fun x => Lib.repeatL (x.1) ((x.2.1)).toNat) := rfl
theorem c47_ok : ConOK Tryz.prog 47 c47 := by
  rw [c47_eq]
  exact lib_ok (fn := Tryz.f47) (by kernel_rfl) (by kernel_rfl) (by kernel_rfl) (fun _ _ => rfl) repeat_calls

noncomputable def f24g (f46 : (R : Type) → Int → (Str → Option R) → Option R) (f47 : (R : Type) → Str → Int → (Str → Option R) → Option R) (R : Type) (a1 : Int) (a2 : Int) (k0 : Str → Option R) : Option R :=
  f46 R a1 fun r3 =>
  let v4 : Int := ((r3.length : Nat) : Int)
  f47 R [48] (mxI 0 (subI .i64 a2 v4)) fun r5 =>
  gd (catB r5 r3) <|
  k0 (r5 ++ r3)
noncomputable def c24k (f : (R : Type) → Int → Int → (Str → Option R) → Option R) : Con := { args := [.sc (.i .i64), .sc (.i .i64)], blks := [], shapes := [⟨Str, fun r => (.c (.sc (.str r)), [], 0)⟩], F := fun R x y k => f R (x.1) (x.2.1) (fun z0 => k.1 z0) }
noncomputable def f24 : (R : Type) → Int → Int → (Str → Option R) → Option R := f24g f46 f47
noncomputable def c24 : Con := c24k f24
theorem c24_says (f46 : (R : Type) → Int → (Str → Option R) → Option R) (f47 : (R : Type) → Str → Int → (Str → Option R) → Option R) : (c24k (f24g f46 f47)).Says Tryz.prog Tryz.f24 (conL [(46, c46k f46), (47, c47k f47)]) (pieceL 0 []) .leaf := by
  intro R x y K
  kernel_rfl
theorem c24_ok : ConOK Tryz.prog 24 c24 :=
  con_ok (fn := Tryz.f24) (code := fsub Tryz.f24 []) (by kernel_rfl) (by kernel_rfl) (by kernel_rfl) (by kernel_rfl) (cons_ok (l := [(46, c46), (47, c47)]) ⟨.inl c46_ok, .inl c47_ok, trivial⟩) (orcs_ok' (l := []) (by kernel_rfl) trivial) (c24_says f46 f47)

noncomputable def f10g (f23 : (R : Type) → Int → (Int → Int → Int → Option R) → Option R) (f24 : (R : Type) → Int → Int → (Str → Option R) → Option R) (R : Type) (a1 : Int) (k0 : Str → Int → Option R) : Option R :=
  br (ltI a1 0)
    (k0 ([] : Str) 1)
    (br (ltI 253402300799 a1)
      (k0 ([] : Str) 1)
      (f23 R (quoI .i64 a1 86400) fun r2 r3 r4 =>
      f24 R r2 4 fun r5 =>
      f24 R r3 2 fun r6 =>
      gd (catB r5 r6) <|
      f24 R r4 2 fun r7 =>
      gd (catB (r5 ++ r6) r7) <|
      let v8 : Int := quoI .i64 (remI a1 86400) 3600
      f24 R v8 2 fun r9 =>
      gd (catB ((r5 ++ r6) ++ r7) r9) <|
      let v10 : Int := quoI .i64 (remI a1 86400) 60
      f24 R (remI v10 60) 2 fun r11 =>
      gd (catB (((r5 ++ r6) ++ r7) ++ r9) r11) <|
      let v12 : Str := (((r5 ++ r6) ++ r7) ++ r9) ++ r11
      f24 R (remI (remI a1 86400) 60) 2 fun r13 =>
      gd (catB v12 r13) <|
      gd (catB (v12 ++ r13) [90]) <|
      k0 ((v12 ++ r13) ++ [90]) 0))
noncomputable def c10k (f : (R : Type) → Int → (Str → Int → Option R) → Option R) : Con := { args := [.sc (.i .i64)], blks := [], shapes := [⟨Str × Int, fun r => (.tup [.sc (.str r.1), .sc (.int .i64 r.2)], [], 0)⟩], F := fun R x y k => f R (x.1) (fun z0 z1 => k.1 (z0, z1)) }
noncomputable def f10 : (R : Type) → Int → (Str → Int → Option R) → Option R := f10g f23 f24
noncomputable def c10 : Con := c10k f10
theorem c10_says (f23 : (R : Type) → Int → (Int → Int → Int → Option R) → Option R) (f24 : (R : Type) → Int → Int → (Str → Option R) → Option R) : (c10k (f10g f23 f24)).Says Tryz.prog Tryz.f10 (conL [(23, c23k f23), (24, c24k f24)]) (pieceL 0 []) .leaf := by
  intro R x y K
  kernel_rfl
theorem c10_ok : ConOK Tryz.prog 10 c10 :=
  con_ok (fn := Tryz.f10) (code := fsub Tryz.f10 []) (by kernel_rfl) (by kernel_rfl) (by kernel_rfl) (by kernel_rfl) (cons_ok (l := [(23, c23), (24, c24)]) ⟨.inl c23_ok, .inl c24_ok, trivial⟩) (orcs_ok' (l := []) (by kernel_rfl) trivial) (c10_says f23 f24)

noncomputable def f25g (R : Type) (a1 : Int) (k0 : Bool → Option R) : Option R :=
  br (leI 0 a1)
    (k0 (leI a1 253402300799))
    (k0 false)
noncomputable def c25k (f : (R : Type) → Int → (Bool → Option R) → Option R) : Con := { args := [.sc (.i .i64)], blks := [], shapes := [⟨Bool, fun r => (.c (.sc (.bool r)), [], 0)⟩], F := fun R x y k => f R (x.1) (fun z0 => k.1 z0) }
noncomputable def f25 : (R : Type) → Int → (Bool → Option R) → Option R := f25g
noncomputable def c25 : Con := c25k f25
theorem c25_says : (c25k (f25g)).Says Tryz.prog Tryz.f25 (conL []) (pieceL 0 []) .leaf := by
  intro R x y K
  kernel_rfl
theorem c25_ok : ConOK Tryz.prog 25 c25 :=
  con_ok (fn := Tryz.f25) (code := fsub Tryz.f25 []) (by kernel_rfl) (by kernel_rfl) (by kernel_rfl) (by kernel_rfl) (cons_ok (l := []) trivial) (orcs_ok' (l := []) (by kernel_rfl) trivial) (c25_says)

noncomputable def f26g (R : Type) (a1 : Int) (k0 : Bool → Option R) : Option R :=
  br (eqI (remI a1 4) 0)
    (br (!(eqI (remI a1 100) 0))
      (k0 true)
      (k0 (eqI (remI a1 400) 0)))
    (k0 (eqI (remI a1 400) 0))
noncomputable def c26k (f : (R : Type) → Int → (Bool → Option R) → Option R) : Con := { args := [.sc (.i .i64)], blks := [], shapes := [⟨Bool, fun r => (.c (.sc (.bool r)), [], 0)⟩], F := fun R x y k => f R (x.1) (fun z0 => k.1 z0) }
noncomputable def f26 : (R : Type) → Int → (Bool → Option R) → Option R := f26g
noncomputable def c26 : Con := c26k f26
theorem c26_says : (c26k (f26g)).Says Tryz.prog Tryz.f26 (conL []) (pieceL 0 []) .leaf := by
  intro R x y K
  kernel_rfl
theorem c26_ok : ConOK Tryz.prog 26 c26 :=
  con_ok (fn := Tryz.f26) (code := fsub Tryz.f26 []) (by kernel_rfl) (by kernel_rfl) (by kernel_rfl) (by kernel_rfl) (cons_ok (l := []) trivial) (orcs_ok' (l := []) (by kernel_rfl) trivial) (c26_says)

noncomputable def f27g (f26 : (R : Type) → Int → (Bool → Option R) → Option R) (R : Type) (a1 : Int) (a2 : Int) (k0 : Int → Option R) : Option R :=
  br (eqI a2 2)
    (f26 R a1 fun r3 =>
    br (r3)
      (k0 29)
      (gd (inB (subI .i64 a2 1) 12) <|
      let v4 : Int := [31, 28, 31, 30, 31, 30, 31, 31, 30, 31, 30, 31].getD ((subI .i64 a2 1).toNat) 0
      k0 v4))
    (gd (inB (subI .i64 a2 1) 12) <|
    let v5 : Int := [31, 28, 31, 30, 31, 30, 31, 31, 30, 31, 30, 31].getD ((subI .i64 a2 1).toNat) 0
    k0 v5)
noncomputable def c27k (f : (R : Type) → Int → Int → (Int → Option R) → Option R) : Con := { args := [.sc (.i .i64), .sc (.i .i64)], blks := [], shapes := [⟨Int, fun r => (.c (.sc (.int .i64 r)), [], 0)⟩], F := fun R x y k => f R (x.1) (x.2.1) (fun z0 => k.1 z0) }
noncomputable def f27 : (R : Type) → Int → Int → (Int → Option R) → Option R := f27g f26
noncomputable def c27 : Con := c27k f27
theorem c27_says (f26 : (R : Type) → Int → (Bool → Option R) → Option R) : (c27k (f27g f26)).Says Tryz.prog Tryz.f27 (conL [(26, c26k f26)]) (pieceL 0 []) .leaf := by
  intro R x y K
  kernel_rfl
theorem c27_ok : ConOK Tryz.prog 27 c27 :=
  con_ok (fn := Tryz.f27) (code := fsub Tryz.f27 []) (by kernel_rfl) (by kernel_rfl) (by kernel_rfl) (by kernel_rfl) (cons_ok (l := [(26, c26)]) ⟨.inl c26_ok, trivial⟩) (orcs_ok' (l := []) (by kernel_rfl) trivial) (c27_says f26)

def f28p0T : StK := ⟨[(0, .sc (.i .i64)), (1, .sc (.i .i64)), (5, .sc (.s)), (6, .sc (.i .i64))], []⟩
def f28p0E : List PShape := [⟨Str, fun r => (.exit 0, ⟨[(5, .c (.sc (.str r)))], [], 0⟩)⟩]
noncomputable def f28p0step (R : Type) (x3 : Int) (x4 : Int) (x5 : Str) (x6 : Int) (next : Int → Int → Str → Int → Option R) (k0 : Str → Option R) : Option R :=
  br (ltI x6 x4)
    (let v7 : Int := addI .i64 48 (remI x3 10)
    let v8 : Str := [UInt8.ofNat ((cvtI .u8 v7).toNat)]
    gd (catB v8 x5) <|
    next (quoI .i64 x3 10) x4 (v8 ++ x5) (addI .i64 x6 1))
    (k0 x5)
def f28p0fuel (x3 : Int) (x4 : Int) (x5 : Str) (x6 : Int) : Nat := x3.toNat + x4.toNat + x5.length + x6.toNat + 1
noncomputable def f28p0 : Piece := { T := f28p0T, shapes := f28p0E, step := fun R x next k => f28p0step R (x.1.1) (x.1.2.1) (x.1.2.2.1) (x.1.2.2.2.1) (fun x3 x4 x5 x6 => next ((x3, x4, x5, x6, ()), (()))) (fun z0 => k.1 z0), fuel := fun x => f28p0fuel (x.1.1) (x.1.2.1) (x.1.2.2.1) (x.1.2.2.2.1) }
noncomputable def f28l0 (R : Type) (x3 : Int) (x4 : Int) (x5 : Str) (x6 : Int) (k0 : Str → Option R) : Option R :=
  runP f28p0T f28p0E (f28p0).step R (f28p0fuel x3 x4 x5 x6) ((x3, x4, x5, x6, ()), (())) (fun r => k0 (r), ())
theorem f28p0_says : (f28p0).Loops Tryz.prog 23 0 (conL []) (pieceL 0 []) (fsub Tryz.f28 [1, 1, 0, 1, 0, 0]) .leaf [0, 1, 5, 6] [] [5] [] := by
  intro R v next K
  kernel_rfl
theorem f28p0_ok : OrcOK Tryz.prog 23 0 (.loop (fsub Tryz.f28 [1, 1, 0, 1, 0, 0])) (fun R => pieceG 0 (f28p0) R) :=
  piece_loop (cons_ok (l := []) trivial) (orcs_ok' (l := []) (by kernel_rfl) trivial) (f28p0_says)
noncomputable def f28g (R : Type) (a1 : Int) (a2 : Int) (k0 : Str → Option R) : Option R :=
  f28l0 R a1 a2 ([] : Str) 0 fun y9 =>
  k0 y9
noncomputable def c28k (f : (R : Type) → Int → Int → (Str → Option R) → Option R) : Con := { args := [.sc (.i .i64), .sc (.i .i64)], blks := [], shapes := [⟨Str, fun r => (.c (.sc (.str r)), [], 0)⟩], F := fun R x y k => f R (x.1) (x.2.1) (fun z0 => k.1 z0) }
noncomputable def f28 : (R : Type) → Int → Int → (Str → Option R) → Option R := f28g
noncomputable def c28 : Con := c28k f28
theorem c28_says : (c28k (f28g)).Says Tryz.prog Tryz.f28 (conL []) (pieceL 0 [(0, f28p0)]) (.node .leaf (.node .leaf (.node (.node .leaf (.node (.orc 0 [0, 1, 5, 6] []) .leaf)) .leaf))) := by
  intro R x y K
  kernel_rfl
theorem c28_ok : ConOK Tryz.prog 28 c28 :=
  con_ok (fn := Tryz.f28) (code := fsub Tryz.f28 []) (by kernel_rfl) (by kernel_rfl) (by kernel_rfl) (by kernel_rfl) (cons_ok (l := []) trivial) (orcs_ok' (l := [(0, [1, 1, 0, 1, 0])]) (by kernel_rfl) ⟨piece_at (by kernel_rfl) (by kernel_rfl) f28p0_ok, trivial⟩) (c28_says)

def f11p1T : StK := ⟨[(4, .sc (.i .i64)), (5, .sc (.i .i64)), (6, .sc (.i .i64)), (7, .sc (.i .i64)), (17, .sc (.b))], []⟩
def f11p1E : List PShape := [⟨Int × Int × Int × Int, fun r => (.normal, ⟨[(4, .c (.sc (.int .i64 r.1))), (5, .c (.sc (.int .i64 r.2.1))), (6, .c (.sc (.int .i64 r.2.2.1))), (7, .c (.sc (.int .i64 r.2.2.2)))], [], 0⟩)⟩]
noncomputable def f11p1step (f25 : (R : Type) → Int → (Bool → Option R) → Option R) (f26 : (R : Type) → Int → (Bool → Option R) → Option R) (f27 : (R : Type) → Int → Int → (Int → Option R) → Option R) (f28 : (R : Type) → Int → Int → (Str → Option R) → Option R) (R : Type) (x7 : Int) (x8 : Int) (x9 : Int) (x10 : Int) (x11 : Bool) (k0 : Int → Int → Int → Int → Option R) : Option R :=
  br (x11)
    (k0 x7 x8 x9 366)
    (k0 x7 x8 x9 x10)
def f11p1fuel (x7 : Int) (x8 : Int) (x9 : Int) (x10 : Int) (x11 : Bool) : Nat := 1
noncomputable def f11p1 (f25 : (R : Type) → Int → (Bool → Option R) → Option R) (f26 : (R : Type) → Int → (Bool → Option R) → Option R) (f27 : (R : Type) → Int → Int → (Int → Option R) → Option R) (f28 : (R : Type) → Int → Int → (Str → Option R) → Option R) : Piece := { T := f11p1T, shapes := f11p1E, step := fun R x next k => f11p1step f25 f26 f27 f28 R (x.1.1) (x.1.2.1) (x.1.2.2.1) (x.1.2.2.2.1) (x.1.2.2.2.2.1) (fun z0 z1 z2 z3 => k.1 (z0, z1, z2, z3)), fuel := fun x => f11p1fuel (x.1.1) (x.1.2.1) (x.1.2.2.1) (x.1.2.2.2.1) (x.1.2.2.2.2.1) }
noncomputable def f11l1 (f25 : (R : Type) → Int → (Bool → Option R) → Option R) (f26 : (R : Type) → Int → (Bool → Option R) → Option R) (f27 : (R : Type) → Int → Int → (Int → Option R) → Option R) (f28 : (R : Type) → Int → Int → (Str → Option R) → Option R) (R : Type) (x7 : Int) (x8 : Int) (x9 : Int) (x10 : Int) (x11 : Bool) (k0 : Int → Int → Int → Int → Option R) : Option R :=
  runP f11p1T f11p1E (f11p1 f25 f26 f27 f28).step R (f11p1fuel x7 x8 x9 x10 x11) ((x7, x8, x9, x10, x11, ()), (())) (fun r => k0 (r.1) (r.2.1) (r.2.2.1) (r.2.2.2), ())
theorem f11p1_says (f25 : (R : Type) → Int → (Bool → Option R) → Option R) (f26 : (R : Type) → Int → (Bool → Option R) → Option R) (f27 : (R : Type) → Int → Int → (Int → Option R) → Option R) (f28 : (R : Type) → Int → Int → (Str → Option R) → Option R) : (f11p1 f25 f26 f27 f28).Joins Tryz.prog 61 0 (conL [(25, c25k f25), (26, c26k f26), (27, c27k f27), (28, c28k f28)]) (pieceL 0 []) (fsub Tryz.f11 [1, 1, 1, 1, 1, 0, 0, 0, 0, 1, 0, 1]) .leaf [4, 5, 6, 7] [] := by
  intro R v next K
  kernel_rfl
theorem f11p1_ok : OrcOK Tryz.prog 61 0 (fsub Tryz.f11 [1, 1, 1, 1, 1, 0, 0, 0, 0, 1, 0, 1]) (fun R => pieceG 0 (f11p1 f25 f26 f27 f28) R) :=
  piece_join (cons_ok (l := [(25, c25), (26, c26), (27, c27), (28, c28)]) ⟨.inl c25_ok, .inl c26_ok, .inl c27_ok, .inl c28_ok, trivial⟩) (orcs_ok' (l := []) (by kernel_rfl) trivial) (f11p1_says f25 f26 f27 f28)
def f11p0T : StK := ⟨[(4, .sc (.i .i64)), (5, .sc (.i .i64)), (6, .sc (.i .i64))], []⟩
def f11p0E : List PShape := [⟨Int × Int × Int, fun r => (.exit 0, ⟨[(4, .c (.sc (.int .i64 r.1))), (5, .c (.sc (.int .i64 r.2.1))), (6, .c (.sc (.int .i64 r.2.2)))], [], 0⟩)⟩]
noncomputable def f11p0step (f25 : (R : Type) → Int → (Bool → Option R) → Option R) (f26 : (R : Type) → Int → (Bool → Option R) → Option R) (f27 : (R : Type) → Int → Int → (Int → Option R) → Option R) (f28 : (R : Type) → Int → Int → (Str → Option R) → Option R) (R : Type) (x3 : Int) (x4 : Int) (x5 : Int) (next : Int → Int → Int → Option R) (k0 : Int → Int → Int → Option R) : Option R :=
  f26 R x5 fun r6 =>
  f11l1 f25 f26 f27 f28 R x3 x4 x5 365 r6 fun y12 y13 y14 y15 =>
  br (ltI y12 y15)
    (k0 y12 y13 y14)
    (next (subI .i64 y12 y15) y13 (addI .i64 y14 1))
def f11p0fuel (x3 : Int) (x4 : Int) (x5 : Int) : Nat := x3.toNat + x4.toNat + x5.toNat + 1
noncomputable def f11p0 (f25 : (R : Type) → Int → (Bool → Option R) → Option R) (f26 : (R : Type) → Int → (Bool → Option R) → Option R) (f27 : (R : Type) → Int → Int → (Int → Option R) → Option R) (f28 : (R : Type) → Int → Int → (Str → Option R) → Option R) : Piece := { T := f11p0T, shapes := f11p0E, step := fun R x next k => f11p0step f25 f26 f27 f28 R (x.1.1) (x.1.2.1) (x.1.2.2.1) (fun x3 x4 x5 => next ((x3, x4, x5, ()), (()))) (fun z0 z1 z2 => k.1 (z0, z1, z2)), fuel := fun x => f11p0fuel (x.1.1) (x.1.2.1) (x.1.2.2.1) }
noncomputable def f11l0 (f25 : (R : Type) → Int → (Bool → Option R) → Option R) (f26 : (R : Type) → Int → (Bool → Option R) → Option R) (f27 : (R : Type) → Int → Int → (Int → Option R) → Option R) (f28 : (R : Type) → Int → Int → (Str → Option R) → Option R) (R : Type) (x3 : Int) (x4 : Int) (x5 : Int) (k0 : Int → Int → Int → Option R) : Option R :=
  runP f11p0T f11p0E (f11p0 f25 f26 f27 f28).step R (f11p0fuel x3 x4 x5) ((x3, x4, x5, ()), (())) (fun r => k0 (r.1) (r.2.1) (r.2.2), ())
theorem f11p0_says (f25 : (R : Type) → Int → (Bool → Option R) → Option R) (f26 : (R : Type) → Int → (Bool → Option R) → Option R) (f27 : (R : Type) → Int → Int → (Int → Option R) → Option R) (f28 : (R : Type) → Int → Int → (Str → Option R) → Option R) : (f11p0 f25 f26 f27 f28).Loops Tryz.prog 61 0 (conL [(25, c25k f25), (26, c26k f26), (27, c27k f27), (28, c28k f28)]) (pieceL 0 [(1, f11p1 f25 f26 f27 f28)]) (fsub Tryz.f11 [1, 1, 1, 1, 1, 0, 0, 0]) (.node (.node .leaf (.node (.node .leaf (.orc 1 [4, 5, 6, 7, 17] [])) .leaf)) .leaf) [4, 5, 6] [] [4, 5, 6] [] := by
  intro R v next K
  kernel_rfl
theorem f11p0_ok : OrcOK Tryz.prog 61 0 (.loop (fsub Tryz.f11 [1, 1, 1, 1, 1, 0, 0, 0])) (fun R => pieceG 0 (f11p0 f25 f26 f27 f28) R) :=
  piece_loop (cons_ok (l := [(25, c25), (26, c26), (27, c27), (28, c28)]) ⟨.inl c25_ok, .inl c26_ok, .inl c27_ok, .inl c28_ok, trivial⟩) (orcs_ok' (l := [(1, [0, 1, 0, 1])]) (by kernel_rfl) ⟨piece_at (by kernel_rfl) (by kernel_rfl) f11p1_ok, trivial⟩) (f11p0_says f25 f26 f27 f28)
def f11p2T : StK := ⟨[(4, .sc (.i .i64)), (5, .sc (.i .i64)), (6, .sc (.i .i64)), (8, .sc (.i .i64))], []⟩
def f11p2E : List PShape := [⟨Int × Int × Int × Int, fun r => (.exit 2, ⟨[(4, .c (.sc (.int .i64 r.1))), (5, .c (.sc (.int .i64 r.2.1))), (6, .c (.sc (.int .i64 r.2.2.1))), (8, .c (.sc (.int .i64 r.2.2.2)))], [], 0⟩)⟩]
noncomputable def f11p2step (f25 : (R : Type) → Int → (Bool → Option R) → Option R) (f26 : (R : Type) → Int → (Bool → Option R) → Option R) (f27 : (R : Type) → Int → Int → (Int → Option R) → Option R) (f28 : (R : Type) → Int → Int → (Str → Option R) → Option R) (R : Type) (x19 : Int) (x20 : Int) (x21 : Int) (x22 : Int) (next : Int → Int → Int → Int → Option R) (k0 : Int → Int → Int → Int → Option R) : Option R :=
  f27 R x21 x22 fun r23 =>
  br (leI r23 x19)
    (f27 R x21 x22 fun r24 =>
    next (subI .i64 x19 r24) x20 x21 (addI .i64 x22 1))
    (k0 x19 x20 x21 x22)
def f11p2fuel (x19 : Int) (x20 : Int) (x21 : Int) (x22 : Int) : Nat := x19.toNat + x20.toNat + x21.toNat + x22.toNat + 1
noncomputable def f11p2 (f25 : (R : Type) → Int → (Bool → Option R) → Option R) (f26 : (R : Type) → Int → (Bool → Option R) → Option R) (f27 : (R : Type) → Int → Int → (Int → Option R) → Option R) (f28 : (R : Type) → Int → Int → (Str → Option R) → Option R) : Piece := { T := f11p2T, shapes := f11p2E, step := fun R x next k => f11p2step f25 f26 f27 f28 R (x.1.1) (x.1.2.1) (x.1.2.2.1) (x.1.2.2.2.1) (fun x19 x20 x21 x22 => next ((x19, x20, x21, x22, ()), (()))) (fun z0 z1 z2 z3 => k.1 (z0, z1, z2, z3)), fuel := fun x => f11p2fuel (x.1.1) (x.1.2.1) (x.1.2.2.1) (x.1.2.2.2.1) }
noncomputable def f11l2 (f25 : (R : Type) → Int → (Bool → Option R) → Option R) (f26 : (R : Type) → Int → (Bool → Option R) → Option R) (f27 : (R : Type) → Int → Int → (Int → Option R) → Option R) (f28 : (R : Type) → Int → Int → (Str → Option R) → Option R) (R : Type) (x19 : Int) (x20 : Int) (x21 : Int) (x22 : Int) (k0 : Int → Int → Int → Int → Option R) : Option R :=
  runP f11p2T f11p2E (f11p2 f25 f26 f27 f28).step R (f11p2fuel x19 x20 x21 x22) ((x19, x20, x21, x22, ()), (())) (fun r => k0 (r.1) (r.2.1) (r.2.2.1) (r.2.2.2), ())
theorem f11p2_says (f25 : (R : Type) → Int → (Bool → Option R) → Option R) (f26 : (R : Type) → Int → (Bool → Option R) → Option R) (f27 : (R : Type) → Int → Int → (Int → Option R) → Option R) (f28 : (R : Type) → Int → Int → (Str → Option R) → Option R) : (f11p2 f25 f26 f27 f28).Loops Tryz.prog 61 0 (conL [(25, c25k f25), (26, c26k f26), (27, c27k f27), (28, c28k f28)]) (pieceL 0 []) (fsub Tryz.f11 [1, 1, 1, 1, 1, 1, 1, 0, 0, 0]) .leaf [4, 5, 6, 8] [] [4, 5, 6, 8] [] := by
  intro R v next K
  kernel_rfl
theorem f11p2_ok : OrcOK Tryz.prog 61 0 (.loop (fsub Tryz.f11 [1, 1, 1, 1, 1, 1, 1, 0, 0, 0])) (fun R => pieceG 0 (f11p2 f25 f26 f27 f28) R) :=
  piece_loop (cons_ok (l := [(25, c25), (26, c26), (27, c27), (28, c28)]) ⟨.inl c25_ok, .inl c26_ok, .inl c27_ok, .inl c28_ok, trivial⟩) (orcs_ok' (l := []) (by kernel_rfl) trivial) (f11p2_says f25 f26 f27 f28)
noncomputable def f11g (f25 : (R : Type) → Int → (Bool → Option R) → Option R) (f26 : (R : Type) → Int → (Bool → Option R) → Option R) (f27 : (R : Type) → Int → Int → (Int → Option R) → Option R) (f28 : (R : Type) → Int → Int → (Str → Option R) → Option R) (R : Type) (a1 : Int) (k0 : Str → Int → Option R) : Option R :=
  f25 R a1 fun r2 =>
  br (!r2)
    (k0 ([] : Str) 1)
    (f11l0 f25 f26 f27 f28 R (quoI .i64 a1 86400) (remI a1 86400) 1970 fun y16 y17 y18 =>
    f11l2 f25 f26 f27 f28 R y16 y17 y18 1 fun y25 y26 y27 y28 =>
    f28 R y27 4 fun r29 =>
    f28 R y28 2 fun r30 =>
    gd (catB r29 r30) <|
    f28 R (addI .i64 y25 1) 2 fun r31 =>
    gd (catB (r29 ++ r30) r31) <|
    f28 R (quoI .i64 y26 3600) 2 fun r32 =>
    gd (catB ((r29 ++ r30) ++ r31) r32) <|
    let v33 : Str := ((r29 ++ r30) ++ r31) ++ r32
    let v34 : Int := remI (quoI .i64 y26 60) 60
    f28 R v34 2 fun r35 =>
    gd (catB v33 r35) <|
    f28 R (remI y26 60) 2 fun r36 =>
    gd (catB (v33 ++ r35) r36) <|
    gd (catB ((v33 ++ r35) ++ r36) [90]) <|
    let v37 : Str := ((v33 ++ r35) ++ r36) ++ [90]
    k0 v37 0)
noncomputable def c11k (f : (R : Type) → Int → (Str → Int → Option R) → Option R) : Con := { args := [.sc (.i .i64)], blks := [], shapes := [⟨Str × Int, fun r => (.tup [.sc (.str r.1), .sc (.int .i64 r.2)], [], 0)⟩], F := fun R x y k => f R (x.1) (fun z0 z1 => k.1 (z0, z1)) }
noncomputable def f11 : (R : Type) → Int → (Str → Int → Option R) → Option R := f11g f25 f26 f27 f28
noncomputable def c11 : Con := c11k f11
theorem c11_says (f25 : (R : Type) → Int → (Bool → Option R) → Option R) (f26 : (R : Type) → Int → (Bool → Option R) → Option R) (f27 : (R : Type) → Int → Int → (Int → Option R) → Option R) (f28 : (R : Type) → Int → Int → (Str → Option R) → Option R) : (c11k (f11g f25 f26 f27 f28)).Says Tryz.prog Tryz.f11 (conL [(25, c25k f25), (26, c26k f26), (27, c27k f27), (28, c28k f28)]) (pieceL 0 [(0, f11p0 f25 f26 f27 f28), (2, f11p2 f25 f26 f27 f28)]) (.node .leaf (.node .leaf (.node .leaf (.node .leaf (.node .leaf (.node (.node (.orc 0 [4, 5, 6] []) .leaf) (.node .leaf (.node (.node (.orc 2 [4, 5, 6, 8] []) .leaf) .leaf)))))))) := by
  intro R x y K
  kernel_rfl
theorem c11_ok : ConOK Tryz.prog 11 c11 :=
  con_ok (fn := Tryz.f11) (code := fsub Tryz.f11 []) (by kernel_rfl) (by kernel_rfl) (by kernel_rfl) (by kernel_rfl) (cons_ok (l := [(25, c25), (26, c26), (27, c27), (28, c28)]) ⟨.inl c25_ok, .inl c26_ok, .inl c27_ok, .inl c28_ok, trivial⟩) (orcs_ok' (l := [(0, [1, 1, 1, 1, 1, 0, 0]), (2, [1, 1, 1, 1, 1, 1, 1, 0, 0])]) (by kernel_rfl) ⟨piece_at (by kernel_rfl) (by kernel_rfl) f11p0_ok, piece_at (by kernel_rfl) (by kernel_rfl) f11p2_ok, trivial⟩) (c11_says f25 f26 f27 f28)

noncomputable def f103g (R : Type) (k0 : Unit → Option R) : Option R :=
  k0 ()
noncomputable def c103k (f : (R : Type) → (Unit → Option R) → Option R) : Con := { args := [.sc (.sk [])], blks := [], shapes := [⟨Unit, fun r => (.tup [.sc (.int .i64 0), .sc (.str []), .sc (.str []), .sc (.int .i64 10)], [], 0)⟩], F := fun R x y k => f R (fun _ => k.1 ()) }
noncomputable def f103 : (R : Type) → (Unit → Option R) → Option R := f103g
noncomputable def c103 : Con := c103k f103
theorem c103_says : (c103k (f103g)).Says Tryz.prog Tryz.f103 (conL []) (pieceL 0 []) .leaf := by
  intro R x y K
  kernel_rfl
theorem c103_ok : ConOK Tryz.prog 103 c103 :=
  con_ok (fn := Tryz.f103) (code := fsub Tryz.f103 []) (by kernel_rfl) (by kernel_rfl) (by kernel_rfl) (by kernel_rfl) (cons_ok (l := []) trivial) (orcs_ok' (l := []) (by kernel_rfl) trivial) (c103_says)

noncomputable def f49g (f103 : (R : Type) → (Unit → Option R) → Option R) (R : Type) (k0 : Unit → Option R) : Option R :=
  f103 R fun _ =>
  k0 ()
noncomputable def c49k (f : (R : Type) → (Unit → Option R) → Option R) : Con := { args := [.sc (.ptr 0 0 0 0 0), .sc (.ik .i64 48)], blks := [(true, [.one (.sk []), .one (.bk false)])], shapes := [⟨Unit, fun r => (.c (.sc (.str [])), [(0, ⟨true, [.one (.str []), .one (.bool true)]⟩)], 0)⟩], F := fun R x y k => f R (fun _ => k.1 ()) }
noncomputable def f49 : (R : Type) → (Unit → Option R) → Option R := f49g f103
noncomputable def c49 : Con := c49k f49
theorem c49_says (f103 : (R : Type) → (Unit → Option R) → Option R) : (c49k (f49g f103)).Says Tryz.prog Tryz.f49 (conL [(103, c103k f103)]) (pieceL 1 []) .leaf := by
  intro R x y K
  kernel_rfl
theorem c49_ok : ConOK Tryz.prog 49 c49 :=
  con_ok (fn := Tryz.f49) (code := fsub Tryz.f49 []) (by kernel_rfl) (by kernel_rfl) (by kernel_rfl) (by kernel_rfl) (cons_ok (l := [(103, c103)]) ⟨.inl c103_ok, trivial⟩) (orcs_ok' (l := []) (by kernel_rfl) trivial) (c49_says f103)

noncomputable def f48g (f49 : (R : Type) → (Unit → Option R) → Option R) (R : Type) (k0 : Unit → Option R) : Option R :=
  f49 R fun _ =>
  k0 ()
noncomputable def c48k (f : (R : Type) → (Unit → Option R) → Option R) : Con := { args := [.sc (.ptr 0 0 0 0 0), .sc (.ik .i64 48)], blks := [(true, [.one (.sk []), .one (.bk false)])], shapes := [⟨Unit, fun r => (.c (.sc (.ptr 1 0 0 0 0)), [(0, ⟨true, [.one (.str []), .one (.bool true)]⟩), (1, ⟨true, [.one (.str []), .one (.bool true)]⟩)], 1)⟩], F := fun R x y k => f R (fun _ => k.1 ()) }
noncomputable def f48 : (R : Type) → (Unit → Option R) → Option R := f48g f49
noncomputable def c48 : Con := c48k f48
theorem c48_says (f49 : (R : Type) → (Unit → Option R) → Option R) : (c48k (f48g f49)).Says Tryz.prog Tryz.f48 (conL [(49, c49k f49)]) (pieceL 1 []) .leaf := by
  intro R x y K
  kernel_rfl
theorem c48_ok : ConOK Tryz.prog 48 c48 :=
  con_ok (fn := Tryz.f48) (code := fsub Tryz.f48 []) (by kernel_rfl) (by kernel_rfl) (by kernel_rfl) (by kernel_rfl) (cons_ok (l := [(49, c49)]) ⟨.inl c49_ok, trivial⟩) (orcs_ok' (l := []) (by kernel_rfl) trivial) (c48_says f49)

noncomputable def f49v1g (f103 : (R : Type) → (Unit → Option R) → Option R) (R : Type) (k0 : Unit → Option R) : Option R :=
  f103 R fun _ =>
  k0 ()
noncomputable def c49v1k (f : (R : Type) → (Unit → Option R) → Option R) : Con := { args := [.sc (.ptr 0 0 0 0 0), .sc (.ik .i64 48)], blks := [(true, [.one (.sk []), .one (.bk true)])], shapes := [⟨Unit, fun r => (.c (.sc (.str [])), [(0, ⟨true, [.one (.str []), .one (.bool true)]⟩)], 0)⟩], F := fun R x y k => f R (fun _ => k.1 ()) }
noncomputable def f49v1 : (R : Type) → (Unit → Option R) → Option R := f49v1g f103
noncomputable def c49v1 : Con := c49v1k f49v1
theorem c49v1_says (f103 : (R : Type) → (Unit → Option R) → Option R) : (c49v1k (f49v1g f103)).Says Tryz.prog Tryz.f49 (conL [(103, c103k f103)]) (pieceL 1 []) .leaf := by
  intro R x y K
  kernel_rfl
theorem c49v1_ok : ConOK Tryz.prog 49 c49v1 :=
  con_ok (fn := Tryz.f49) (code := fsub Tryz.f49 []) (by kernel_rfl) (by kernel_rfl) (by kernel_rfl) (by kernel_rfl) (cons_ok (l := [(103, c103)]) ⟨.inl c103_ok, trivial⟩) (orcs_ok' (l := []) (by kernel_rfl) trivial) (c49v1_says f103)

noncomputable def f48v1g (f49v1 : (R : Type) → (Unit → Option R) → Option R) (R : Type) (k0 : Unit → Option R) : Option R :=
  f49v1 R fun _ =>
  k0 ()
noncomputable def c48v1k (f : (R : Type) → (Unit → Option R) → Option R) : Con := { args := [.sc (.ptr 0 0 0 0 0), .sc (.ik .i64 48)], blks := [(true, [.one (.sk []), .one (.bk true)])], shapes := [⟨Unit, fun r => (.c (.sc (.ptr 1 0 0 0 0)), [(0, ⟨true, [.one (.str []), .one (.bool true)]⟩), (1, ⟨true, [.one (.str []), .one (.bool true)]⟩)], 1)⟩], F := fun R x y k => f R (fun _ => k.1 ()) }
noncomputable def f48v1 : (R : Type) → (Unit → Option R) → Option R := f48v1g f49v1
noncomputable def c48v1 : Con := c48v1k f48v1
theorem c48v1_says (f49v1 : (R : Type) → (Unit → Option R) → Option R) : (c48v1k (f48v1g f49v1)).Says Tryz.prog Tryz.f48 (conL [(49, c49v1k f49v1)]) (pieceL 1 []) .leaf := by
  intro R x y K
  kernel_rfl
theorem c48v1_ok : ConOK Tryz.prog 48 c48v1 :=
  con_ok (fn := Tryz.f48) (code := fsub Tryz.f48 []) (by kernel_rfl) (by kernel_rfl) (by kernel_rfl) (by kernel_rfl) (cons_ok (l := [(49, c49v1)]) ⟨.inl c49v1_ok, trivial⟩) (orcs_ok' (l := []) (by kernel_rfl) trivial) (c48v1_says f49v1)

noncomputable def f49v2g (f103 : (R : Type) → (Unit → Option R) → Option R) (R : Type) (k0 : Unit → Option R) : Option R :=
  f103 R fun _ =>
  k0 ()
noncomputable def c49v2k (f : (R : Type) → (Unit → Option R) → Option R) : Con := { args := [.sc (.ptr 0 0 0 0 0), .sc (.ik .i64 3)], blks := [(true, [.one (.sk []), .one (.bk true)])], shapes := [⟨Unit, fun r => (.c (.sc (.str [])), [(0, ⟨true, [.one (.str []), .one (.bool true)]⟩)], 0)⟩], F := fun R x y k => f R (fun _ => k.1 ()) }
noncomputable def f49v2 : (R : Type) → (Unit → Option R) → Option R := f49v2g f103
noncomputable def c49v2 : Con := c49v2k f49v2
theorem c49v2_says (f103 : (R : Type) → (Unit → Option R) → Option R) : (c49v2k (f49v2g f103)).Says Tryz.prog Tryz.f49 (conL [(103, c103k f103)]) (pieceL 1 []) .leaf := by
  intro R x y K
  kernel_rfl
theorem c49v2_ok : ConOK Tryz.prog 49 c49v2 :=
  con_ok (fn := Tryz.f49) (code := fsub Tryz.f49 []) (by kernel_rfl) (by kernel_rfl) (by kernel_rfl) (by kernel_rfl) (cons_ok (l := [(103, c103)]) ⟨.inl c103_ok, trivial⟩) (orcs_ok' (l := []) (by kernel_rfl) trivial) (c49v2_says f103)

noncomputable def f236 (R : Type) (a0 : Str) (a1 : Int) (k0 : Int → Option R) : Option R :=
  gd (true) (k0 (Lib.indexByte a0 (UInt8.ofNat (a1).toNat)))
noncomputable def c236k (f : (R : Type) → Str → Int → (Int → Option R) → Option R) : Con := { args := [.sc (.s), .sc (.i .u8)], blks := [], shapes := [⟨Int, fun r => (.c (.sc (.int .i64 r)), [], 0)⟩], F := fun R x y k => f R (x.1) (x.2.1) (fun z0 => k.1 z0) }
noncomputable def c236 : Con := c236k f236
theorem c236_eq : c236 = libCon [.sc (.s), .sc (.i .u8)] (Int) (fun r => .c (.sc (.int .i64 r))) (fun x => true) (fun x => Lib.indexByte (x.1) (UInt8.ofNat ((x.2.1)).toNat)) := rfl
theorem c236_ok : ConOK Tryz.prog 236 c236 := by
  rw [c236_eq]
  exact lib_ok (fn := Tryz.f236) (by kernel_rfl) (by kernel_rfl) (by kernel_rfl) (fun _ _ => rfl) indexByte_calls

noncomputable def f213g (f236 : (R : Type) → Str → Int → (Int → Option R) → Option R) (R : Type) (a1 : Str) (k0 : Int → Option R) : Option R :=
  br (eqS [0] a1)
    (k0 0)
    (f236 R a1 0 fun r2 =>
    k0 r2)
noncomputable def c213k (f : (R : Type) → Str → (Int → Option R) → Option R) : Con := { args := [.sc (.s), .sc (.sk [0])], blks := [], shapes := [⟨Int, fun r => (.c (.sc (.int .i64 r)), [], 0)⟩], F := fun R x y k => f R (x.1) (fun z0 => k.1 z0) }
noncomputable def f213 : (R : Type) → Str → (Int → Option R) → Option R := f213g f236
noncomputable def c213 : Con := c213k f213
theorem c213_says (f236 : (R : Type) → Str → Int → (Int → Option R) → Option R) : (c213k (f213g f236)).Says Tryz.prog Tryz.f213 (conL [(236, c236k f236)]) (pieceL 0 []) .leaf := by
  intro R x y K
  kernel_rfl
theorem c213_ok : ConOK Tryz.prog 213 c213 :=
  con_ok (fn := Tryz.f213) (code := fsub Tryz.f213 []) (by kernel_rfl) (by kernel_rfl) (by kernel_rfl) (by kernel_rfl) (cons_ok (l := [(236, c236)]) ⟨.inl c236_ok, trivial⟩) (orcs_ok' (l := []) (by kernel_rfl) trivial) (c213_says f236)

noncomputable def f175g (f213 : (R : Type) → Str → (Int → Option R) → Option R) (R : Type) (a1 : Str) (k0 : Str → Str → Bool → Option R) : Option R :=
  f213 R a1 fun r2 =>
  br (leI 0 r2)
    (gd (leB r2 a1.length) <|
    gd (leB (addI .i64 r2 1) a1.length) <|
    let v3 : Str := a1.drop ((addI .i64 r2 1).toNat)
    k0 (a1.take r2.toNat) v3 true)
    (k0 a1 ([] : Str) false)
noncomputable def c175k (f : (R : Type) → Str → (Str → Str → Bool → Option R) → Option R) : Con := { args := [.sc (.s), .sc (.sk [0])], blks := [], shapes := [⟨Str × Str × Bool, fun r => (.tup [.sc (.str r.1), .sc (.str r.2.1), .sc (.bool r.2.2)], [], 0)⟩], F := fun R x y k => f R (x.1) (fun z0 z1 z2 => k.1 (z0, z1, z2)) }
noncomputable def f175 : (R : Type) → Str → (Str → Str → Bool → Option R) → Option R := f175g f213
noncomputable def c175 : Con := c175k f175
theorem c175_says (f213 : (R : Type) → Str → (Int → Option R) → Option R) : (c175k (f175g f213)).Says Tryz.prog Tryz.f175 (conL [(213, c213k f213)]) (pieceL 0 []) (.node .leaf (.node (.node .leaf (.node .leaf (.node (.node (.draw [⟨0, false, [], []⟩, ⟨1, false, [], []⟩, ⟨2, false, [], [0, 1]⟩, ⟨3, false, [], []⟩, ⟨4, false, [], []⟩, ⟨5, false, [], []⟩, ⟨6, false, [], [5]⟩, ⟨7, false, [], [4, 5, 6]⟩, ⟨8, false, [], [3, 4, 5, 6, 7]⟩, ⟨9, false, [], [0, 1, 2]⟩, ⟨10, false, [], [0, 1, 2, 3, 4, 5, 6, 7, 8, 9]⟩, ⟨11, false, [], [0, 1, 2, 3, 4, 5, 6, 7, 8, 9, 10]⟩]) .leaf) .leaf))) .leaf)) := by
  intro R x y K
  kernel_rfl
theorem c175_ok : ConOK Tryz.prog 175 c175 :=
  con_ok (fn := Tryz.f175) (code := fsub Tryz.f175 []) (by kernel_rfl) (by kernel_rfl) (by kernel_rfl) (by kernel_rfl) (cons_ok (l := [(213, c213)]) ⟨.inl c213_ok, trivial⟩) (orcs_ok' (l := []) (by kernel_rfl) trivial) (c175_says f213)

noncomputable def f104g (f175 : (R : Type) → Str → (Str → Str → Bool → Option R) → Option R) (R : Type) (a1 : Str) (k0 : Str → Str → Bool → Option R) : Option R :=
  f175 R a1 fun r2 r3 r4 =>
  k0 r2 r3 r4
noncomputable def c104k (f : (R : Type) → Str → (Str → Str → Bool → Option R) → Option R) : Con := { args := [.sc (.s), .sc (.sk [0])], blks := [], shapes := [⟨Str × Str × Bool, fun r => (.tup [.sc (.str r.1), .sc (.str r.2.1), .sc (.bool r.2.2)], [], 0)⟩], F := fun R x y k => f R (x.1) (fun z0 z1 z2 => k.1 (z0, z1, z2)) }
noncomputable def f104 : (R : Type) → Str → (Str → Str → Bool → Option R) → Option R := f104g f175
noncomputable def c104 : Con := c104k f104
theorem c104_says (f175 : (R : Type) → Str → (Str → Str → Bool → Option R) → Option R) : (c104k (f104g f175)).Says Tryz.prog Tryz.f104 (conL [(175, c175k f175)]) (pieceL 0 []) .leaf := by
  intro R x y K
  kernel_rfl
theorem c104_ok : ConOK Tryz.prog 104 c104 :=
  con_ok (fn := Tryz.f104) (code := fsub Tryz.f104 []) (by kernel_rfl) (by kernel_rfl) (by kernel_rfl) (by kernel_rfl) (cons_ok (l := [(175, c175)]) ⟨.inl c175_ok, trivial⟩) (orcs_ok' (l := []) (by kernel_rfl) trivial) (c104_says f175)

noncomputable def f50g (f49v2 : (R : Type) → (Unit → Option R) → Option R) (f104 : (R : Type) → Str → (Str → Str → Bool → Option R) → Option R) (R : Type) (k0 : Str → Option R) : Option R :=
  f49v2 R fun _ =>
  f104 R ([] : Str) fun r1 r2 r3 =>
  k0 r2
noncomputable def c50k (f : (R : Type) → (Str → Option R) → Option R) : Con := { args := [.sc (.ptr 0 0 0 0 0)], blks := [(true, [.one (.sk []), .one (.bk true)])], shapes := [⟨Str, fun r => (.c (.sc (.str r)), [(0, ⟨true, [.one (.str []), .one (.bool true)]⟩)], 0)⟩], F := fun R x y k => f R (fun z0 => k.1 z0) }
noncomputable def f50 : (R : Type) → (Str → Option R) → Option R := f50g f49v2 f104
noncomputable def c50 : Con := c50k f50
theorem c50_says (f49v2 : (R : Type) → (Unit → Option R) → Option R) (f104 : (R : Type) → Str → (Str → Str → Bool → Option R) → Option R) : (c50k (f50g f49v2 f104)).Says Tryz.prog Tryz.f50 (conL [(49, c49v2k f49v2), (104, c104k f104)]) (pieceL 1 []) .leaf := by
  intro R x y K
  kernel_rfl
theorem c50_ok : ConOK Tryz.prog 50 c50 :=
  con_ok (fn := Tryz.f50) (code := fsub Tryz.f50 []) (by kernel_rfl) (by kernel_rfl) (by kernel_rfl) (by kernel_rfl) (cons_ok (l := [(49, c49v2), (104, c104)]) ⟨.inl c49v2_ok, .inl c104_ok, trivial⟩) (orcs_ok' (l := []) (by kernel_rfl) trivial) (c50_says f49v2 f104)

noncomputable def f49v3g (f103 : (R : Type) → (Unit → Option R) → Option R) (R : Type) (k0 : Unit → Option R) : Option R :=
  f103 R fun _ =>
  k0 ()
noncomputable def c49v3k (f : (R : Type) → (Unit → Option R) → Option R) : Con := { args := [.sc (.ptr 0 0 0 0 0), .sc (.ik .i64 2)], blks := [(true, [.one (.sk []), .one (.bk true)])], shapes := [⟨Unit, fun r => (.c (.sc (.str [])), [(0, ⟨true, [.one (.str []), .one (.bool true)]⟩)], 0)⟩], F := fun R x y k => f R (fun _ => k.1 ()) }
noncomputable def f49v3 : (R : Type) → (Unit → Option R) → Option R := f49v3g f103
noncomputable def c49v3 : Con := c49v3k f49v3
theorem c49v3_says (f103 : (R : Type) → (Unit → Option R) → Option R) : (c49v3k (f49v3g f103)).Says Tryz.prog Tryz.f49 (conL [(103, c103k f103)]) (pieceL 1 []) .leaf := by
  intro R x y K
  kernel_rfl
theorem c49v3_ok : ConOK Tryz.prog 49 c49v3 :=
  con_ok (fn := Tryz.f49) (code := fsub Tryz.f49 []) (by kernel_rfl) (by kernel_rfl) (by kernel_rfl) (by kernel_rfl) (cons_ok (l := [(103, c103)]) ⟨.inl c103_ok, trivial⟩) (orcs_ok' (l := []) (by kernel_rfl) trivial) (c49v3_says f103)

noncomputable def f51g (R : Type) (k0 : Unit → Option R) : Option R :=
  k0 ()
noncomputable def c51k (f : (R : Type) → (Unit → Option R) → Option R) : Con := { args := [.sc (.sk [])], blks := [], shapes := [⟨Unit, fun r => (.tup [.sc (.int .i64 0), .sc (.int .i64 10)], [], 0)⟩], F := fun R x y k => f R (fun _ => k.1 ()) }
noncomputable def f51 : (R : Type) → (Unit → Option R) → Option R := f51g
noncomputable def c51 : Con := c51k f51
theorem c51_says : (c51k (f51g)).Says Tryz.prog Tryz.f51 (conL []) (pieceL 0 []) .leaf := by
  intro R x y K
  kernel_rfl
theorem c51_ok : ConOK Tryz.prog 51 c51 :=
  con_ok (fn := Tryz.f51) (code := fsub Tryz.f51 []) (by kernel_rfl) (by kernel_rfl) (by kernel_rfl) (by kernel_rfl) (cons_ok (l := []) trivial) (orcs_ok' (l := []) (by kernel_rfl) trivial) (c51_says)

noncomputable def f49v4g (f103 : (R : Type) → (Unit → Option R) → Option R) (R : Type) (k0 : Unit → Option R) : Option R :=
  f103 R fun _ =>
  k0 ()
noncomputable def c49v4k (f : (R : Type) → (Unit → Option R) → Option R) : Con := { args := [.sc (.ptr 0 0 0 0 0), .sc (.ik .i64 49)], blks := [(true, [.one (.sk []), .one (.bk true)])], shapes := [⟨Unit, fun r => (.c (.sc (.str [])), [(0, ⟨true, [.one (.str []), .one (.bool true)]⟩)], 0)⟩], F := fun R x y k => f R (fun _ => k.1 ()) }
noncomputable def f49v4 : (R : Type) → (Unit → Option R) → Option R := f49v4g f103
noncomputable def c49v4 : Con := c49v4k f49v4
theorem c49v4_says (f103 : (R : Type) → (Unit → Option R) → Option R) : (c49v4k (f49v4g f103)).Says Tryz.prog Tryz.f49 (conL [(103, c103k f103)]) (pieceL 1 []) .leaf := by
  intro R x y K
  kernel_rfl
theorem c49v4_ok : ConOK Tryz.prog 49 c49v4 :=
  con_ok (fn := Tryz.f49) (code := fsub Tryz.f49 []) (by kernel_rfl) (by kernel_rfl) (by kernel_rfl) (by kernel_rfl) (cons_ok (l := [(103, c103)]) ⟨.inl c103_ok, trivial⟩) (orcs_ok' (l := []) (by kernel_rfl) trivial) (c49v4_says f103)

noncomputable def f48v2g (f49v4 : (R : Type) → (Unit → Option R) → Option R) (R : Type) (k0 : Unit → Option R) : Option R :=
  f49v4 R fun _ =>
  k0 ()
noncomputable def c48v2k (f : (R : Type) → (Unit → Option R) → Option R) : Con := { args := [.sc (.ptr 0 0 0 0 0), .sc (.ik .i64 49)], blks := [(true, [.one (.sk []), .one (.bk true)])], shapes := [⟨Unit, fun r => (.c (.sc (.ptr 1 0 0 0 0)), [(0, ⟨true, [.one (.str []), .one (.bool true)]⟩), (1, ⟨true, [.one (.str []), .one (.bool true)]⟩)], 1)⟩], F := fun R x y k => f R (fun _ => k.1 ()) }
noncomputable def f48v2 : (R : Type) → (Unit → Option R) → Option R := f48v2g f49v4
noncomputable def c48v2 : Con := c48v2k f48v2
theorem c48v2_says (f49v4 : (R : Type) → (Unit → Option R) → Option R) : (c48v2k (f48v2g f49v4)).Says Tryz.prog Tryz.f48 (conL [(49, c49v4k f49v4)]) (pieceL 1 []) .leaf := by
  intro R x y K
  kernel_rfl
theorem c48v2_ok : ConOK Tryz.prog 48 c48v2 :=
  con_ok (fn := Tryz.f48) (code := fsub Tryz.f48 []) (by kernel_rfl) (by kernel_rfl) (by kernel_rfl) (by kernel_rfl) (cons_ok (l := [(49, c49v4)]) ⟨.inl c49v4_ok, trivial⟩) (orcs_ok' (l := []) (by kernel_rfl) trivial) (c48v2_says f49v4)

noncomputable def f49v5g (f103 : (R : Type) → (Unit → Option R) → Option R) (R : Type) (k0 : Unit → Option R) : Option R :=
  f103 R fun _ =>
  k0 ()
noncomputable def c49v5k (f : (R : Type) → (Unit → Option R) → Option R) : Con := { args := [.sc (.ptr 0 0 0 0 0), .sc (.ik .i64 6)], blks := [(true, [.one (.sk []), .one (.bk true)])], shapes := [⟨Unit, fun r => (.c (.sc (.str [])), [(0, ⟨true, [.one (.str []), .one (.bool true)]⟩)], 0)⟩], F := fun R x y k => f R (fun _ => k.1 ()) }
noncomputable def f49v5 : (R : Type) → (Unit → Option R) → Option R := f49v5g f103
noncomputable def c49v5 : Con := c49v5k f49v5
theorem c49v5_says (f103 : (R : Type) → (Unit → Option R) → Option R) : (c49v5k (f49v5g f103)).Says Tryz.prog Tryz.f49 (conL [(103, c103k f103)]) (pieceL 1 []) .leaf := by
  intro R x y K
  kernel_rfl
theorem c49v5_ok : ConOK Tryz.prog 49 c49v5 :=
  con_ok (fn := Tryz.f49) (code := fsub Tryz.f49 []) (by kernel_rfl) (by kernel_rfl) (by kernel_rfl) (by kernel_rfl) (cons_ok (l := [(103, c103)]) ⟨.inl c103_ok, trivial⟩) (orcs_ok' (l := []) (by kernel_rfl) trivial) (c49v5_says f103)

noncomputable def f49v6g (f103 : (R : Type) → (Unit → Option R) → Option R) (R : Type) (k0 : Unit → Option R) : Option R :=
  f103 R fun _ =>
  k0 ()
noncomputable def c49v6k (f : (R : Type) → (Unit → Option R) → Option R) : Con := { args := [.sc (.ptr 0 0 0 0 0), .sc (.ik .i64 12)], blks := [(true, [.one (.sk []), .one (.bk true)])], shapes := [⟨Unit, fun r => (.c (.sc (.str [])), [(0, ⟨true, [.one (.str []), .one (.bool true)]⟩)], 0)⟩], F := fun R x y k => f R (fun _ => k.1 ()) }
noncomputable def f49v6 : (R : Type) → (Unit → Option R) → Option R := f49v6g f103
noncomputable def c49v6 : Con := c49v6k f49v6
theorem c49v6_says (f103 : (R : Type) → (Unit → Option R) → Option R) : (c49v6k (f49v6g f103)).Says Tryz.prog Tryz.f49 (conL [(103, c103k f103)]) (pieceL 1 []) .leaf := by
  intro R x y K
  kernel_rfl
theorem c49v6_ok : ConOK Tryz.prog 49 c49v6 :=
  con_ok (fn := Tryz.f49) (code := fsub Tryz.f49 []) (by kernel_rfl) (by kernel_rfl) (by kernel_rfl) (by kernel_rfl) (cons_ok (l := [(103, c103)]) ⟨.inl c103_ok, trivial⟩) (orcs_ok' (l := []) (by kernel_rfl) trivial) (c49v6_says f103)

noncomputable def f49v7g (f103 : (R : Type) → (Unit → Option R) → Option R) (R : Type) (k0 : Unit → Option R) : Option R :=
  f103 R fun _ =>
  k0 ()
noncomputable def c49v7k (f : (R : Type) → (Unit → Option R) → Option R) : Con := { args := [.sc (.ptr 0 0 0 0 0), .sc (.ik .i64 24)], blks := [(true, [.one (.sk []), .one (.bk true)])], shapes := [⟨Unit, fun r => (.c (.sc (.str [])), [(0, ⟨true, [.one (.str []), .one (.bool true)]⟩)], 0)⟩], F := fun R x y k => f R (fun _ => k.1 ()) }
noncomputable def f49v7 : (R : Type) → (Unit → Option R) → Option R := f49v7g f103
noncomputable def c49v7 : Con := c49v7k f49v7
theorem c49v7_says (f103 : (R : Type) → (Unit → Option R) → Option R) : (c49v7k (f49v7g f103)).Says Tryz.prog Tryz.f49 (conL [(103, c103k f103)]) (pieceL 1 []) .leaf := by
  intro R x y K
  kernel_rfl
theorem c49v7_ok : ConOK Tryz.prog 49 c49v7 :=
  con_ok (fn := Tryz.f49) (code := fsub Tryz.f49 []) (by kernel_rfl) (by kernel_rfl) (by kernel_rfl) (by kernel_rfl) (cons_ok (l := [(103, c103)]) ⟨.inl c103_ok, trivial⟩) (orcs_ok' (l := []) (by kernel_rfl) trivial) (c49v7_says f103)

noncomputable def f52g (R : Type) (k0 : Unit → Option R) : Option R :=
  k0 ()
noncomputable def c52k (f : (R : Type) → (Unit → Option R) → Option R) : Con := { args := [.sc (.sk [])], blks := [], shapes := [⟨Unit, fun r => (.tup [.sc (.int .i64 0), .sc (.bool false)], [], 0)⟩], F := fun R x y k => f R (fun _ => k.1 ()) }
noncomputable def f52 : (R : Type) → (Unit → Option R) → Option R := f52g
noncomputable def c52 : Con := c52k f52
theorem c52_says : (c52k (f52g)).Says Tryz.prog Tryz.f52 (conL []) (pieceL 0 []) .leaf := by
  intro R x y K
  kernel_rfl
theorem c52_ok : ConOK Tryz.prog 52 c52 :=
  con_ok (fn := Tryz.f52) (code := fsub Tryz.f52 []) (by kernel_rfl) (by kernel_rfl) (by kernel_rfl) (by kernel_rfl) (cons_ok (l := []) trivial) (orcs_ok' (l := []) (by kernel_rfl) trivial) (c52_says)

noncomputable def f29g (f48 : (R : Type) → (Unit → Option R) → Option R) (f48v1 : (R : Type) → (Unit → Option R) → Option R) (f49v1 : (R : Type) → (Unit → Option R) → Option R) (f50 : (R : Type) → (Str → Option R) → Option R) (f49v3 : (R : Type) → (Unit → Option R) → Option R) (f51 : (R : Type) → (Unit → Option R) → Option R) (f48v2 : (R : Type) → (Unit → Option R) → Option R) (f49v5 : (R : Type) → (Unit → Option R) → Option R) (f49v6 : (R : Type) → (Unit → Option R) → Option R) (f49v7 : (R : Type) → (Unit → Option R) → Option R) (f52 : (R : Type) → (Unit → Option R) → Option R) (R : Type) (k0 : Str → Str → Option R) : Option R :=
  f48 R fun _ =>
  f48v1 R fun _ =>
  f49v1 R fun _ =>
  f50 R fun r1 =>
  f49v3 R fun _ =>
  f51 R fun _ =>
  f49v1 R fun _ =>
  f48v1 R fun _ =>
  f48v2 R fun _ =>
  f48v1 R fun _ =>
  f49v5 R fun _ =>
  f49v6 R fun _ =>
  f48v1 R fun _ =>
  f49v7 R fun _ =>
  f52 R fun _ =>
  f49v7 R fun _ =>
  f52 R fun _ =>
  f49v1 R fun _ =>
  f48v1 R fun _ =>
  f49v1 R fun _ =>
  f50 R fun r2 =>
  k0 r2 r1
noncomputable def c29k (f : (R : Type) → (Str → Str → Option R) → Option R) : Con := { args := [.sc (.sk [])], blks := [], shapes := [⟨Str × Str, fun r => (.tup [.agg [.one (.int .i64 0), .one (.str []), .one (.int .i64 0), .one (.int .i64 0), .one (.str r.1)], .sc (.str r.2)], [], 0)⟩], F := fun R x y k => f R (fun z0 z1 => k.1 (z0, z1)) }
noncomputable def f29 : (R : Type) → (Str → Str → Option R) → Option R := f29g f48 f48v1 f49v1 f50 f49v3 f51 f48v2 f49v5 f49v6 f49v7 f52
noncomputable def c29 : Con := c29k f29
theorem c29_says (f48 : (R : Type) → (Unit → Option R) → Option R) (f48v1 : (R : Type) → (Unit → Option R) → Option R) (f49v1 : (R : Type) → (Unit → Option R) → Option R) (f50 : (R : Type) → (Str → Option R) → Option R) (f49v3 : (R : Type) → (Unit → Option R) → Option R) (f51 : (R : Type) → (Unit → Option R) → Option R) (f48v2 : (R : Type) → (Unit → Option R) → Option R) (f49v5 : (R : Type) → (Unit → Option R) → Option R) (f49v6 : (R : Type) → (Unit → Option R) → Option R) (f49v7 : (R : Type) → (Unit → Option R) → Option R) (f52 : (R : Type) → (Unit → Option R) → Option R) : (c29k (f29g f48 f48v1 f49v1 f50 f49v3 f51 f48v2 f49v5 f49v6 f49v7 f52)).Says Tryz.prog Tryz.f29 (conL [(48, c48k f48), (48, c48v1k f48v1), (49, c49v1k f49v1), (50, c50k f50), (49, c49v3k f49v3), (51, c51k f51), (48, c48v2k f48v2), (49, c49v5k f49v5), (49, c49v6k f49v6), (49, c49v7k f49v7), (52, c52k f52)]) (pieceL 0 []) .leaf := by
  intro R x y K
  kernel_rfl
theorem c29_ok : ConOK Tryz.prog 29 c29 :=
  con_ok (fn := Tryz.f29) (code := fsub Tryz.f29 []) (by kernel_rfl) (by kernel_rfl) (by kernel_rfl) (by kernel_rfl) (cons_ok (l := [(48, c48), (48, c48v1), (49, c49v1), (50, c50), (49, c49v3), (51, c51), (48, c48v2), (49, c49v5), (49, c49v6), (49, c49v7), (52, c52)]) ⟨.inl c48_ok, .inl c48v1_ok, .inl c49v1_ok, .inl c50_ok, .inl c49v3_ok, .inl c51_ok, .inl c48v2_ok, .inl c49v5_ok, .inl c49v6_ok, .inl c49v7_ok, .inl c52_ok, trivial⟩) (orcs_ok' (l := []) (by kernel_rfl) trivial) (c29_says f48 f48v1 f49v1 f50 f49v3 f51 f48v2 f49v5 f49v6 f49v7 f52)

noncomputable def f30g (R : Type) (a1 : Str) (k0 : Unit → Option R) : Option R :=
  k0 ()
noncomputable def c30k (f : (R : Type) → Str → (Unit → Option R) → Option R) : Con := { args := [.agg [.one (.ik .i64 0), .one (.sk []), .one (.ik .i64 0), .one (.ik .i64 0), .one (.s)]], blks := [], shapes := [⟨Unit, fun r => (.c (.sc (.bool false)), [], 0)⟩], F := fun R x y k => f R (x.1.2.2.2.2.1) (fun _ => k.1 ()) }
noncomputable def f30 : (R : Type) → Str → (Unit → Option R) → Option R := f30g
noncomputable def c30 : Con := c30k f30
theorem c30_says : (c30k (f30g)).Says Tryz.prog Tryz.f30 (conL []) (pieceL 0 []) .leaf := by
  intro R x y K
  kernel_rfl
theorem c30_ok : ConOK Tryz.prog 30 c30 :=
  con_ok (fn := Tryz.f30) (code := fsub Tryz.f30 []) (by kernel_rfl) (by kernel_rfl) (by kernel_rfl) (by kernel_rfl) (cons_ok (l := []) trivial) (orcs_ok' (l := []) (by kernel_rfl) trivial) (c30_says)

noncomputable def f13g (f29 : (R : Type) → (Str → Str → Option R) → Option R) (f30 : (R : Type) → Str → (Unit → Option R) → Option R) (R : Type) (k0 : Unit → Option R) : Option R :=
  f29 R fun r1 r2 =>
  f30 R r1 fun _ =>
  k0 ()
noncomputable def c13k (f : (R : Type) → (Unit → Option R) → Option R) : Con := { args := [.sc (.sk [])], blks := [], shapes := [⟨Unit, fun r => (.tup [.agg [.one (.int .i64 0), .one (.str []), .one (.int .i64 0), .one (.int .i64 0), .one (.str [])], .sc (.int .i64 11)], [], 0)⟩], F := fun R x y k => f R (fun _ => k.1 ()) }
noncomputable def f13 : (R : Type) → (Unit → Option R) → Option R := f13g f29 f30
noncomputable def c13 : Con := c13k f13
theorem c13_says (f29 : (R : Type) → (Str → Str → Option R) → Option R) (f30 : (R : Type) → Str → (Unit → Option R) → Option R) : (c13k (f13g f29 f30)).Says Tryz.prog Tryz.f13 (conL [(29, c29k f29), (30, c30k f30)]) (pieceL 0 []) .leaf := by
  intro R x y K
  kernel_rfl
theorem c13_ok : ConOK Tryz.prog 13 c13 :=
  con_ok (fn := Tryz.f13) (code := fsub Tryz.f13 []) (by kernel_rfl) (by kernel_rfl) (by kernel_rfl) (by kernel_rfl) (cons_ok (l := [(29, c29), (30, c30)]) ⟨.inl c29_ok, .inl c30_ok, trivial⟩) (orcs_ok' (l := []) (by kernel_rfl) trivial) (c13_says f29 f30)

noncomputable def f12g (f10 : (R : Type) → Int → (Str → Int → Option R) → Option R) (f13 : (R : Type) → (Unit → Option R) → Option R) (R : Type) (k0 : Bool → Option R) : Option R :=
  f10 R 0 fun r1 r2 =>
  f10 R 951782400 fun r3 r4 =>
  f13 R fun _ =>
  br (eqI r2 0)
    (let v5 : Bool := eqS r1 [49, 57, 55, 48, 48, 49, 48, 49, 48, 48, 48, 48, 48, 48, 90]
    br (v5)
      (br (eqI r4 0)
        (let v6 : Bool := eqS r3 [50, 48, 48, 48, 48, 50, 50, 57, 48, 48, 48, 48, 48, 48, 90]
        br (v6)
          (k0 true)
          (k0 false))
        (k0 false))
      (k0 false))
    (k0 false)
noncomputable def c12k (f : (R : Type) → (Bool → Option R) → Option R) : Con := { args := [], blks := [], shapes := [⟨Bool, fun r => (.c (.sc (.bool r)), [], 0)⟩], F := fun R x y k => f R (fun z0 => k.1 z0) }
noncomputable def f12 : (R : Type) → (Bool → Option R) → Option R := f12g f10 f13
noncomputable def c12 : Con := c12k f12
theorem c12_says (f10 : (R : Type) → Int → (Str → Int → Option R) → Option R) (f13 : (R : Type) → (Unit → Option R) → Option R) : (c12k (f12g f10 f13)).Says Tryz.prog Tryz.f12 (conL [(10, c10k f10), (13, c13k f13)]) (pieceL 0 []) .leaf := by
  intro R x y K
  kernel_rfl
theorem c12_ok : ConOK Tryz.prog 12 c12 :=
  con_ok (fn := Tryz.f12) (code := fsub Tryz.f12 []) (by kernel_rfl) (by kernel_rfl) (by kernel_rfl) (by kernel_rfl) (cons_ok (l := [(10, c10), (13, c13)]) ⟨.inl c10_ok, .inl c13_ok, trivial⟩) (orcs_ok' (l := []) (by kernel_rfl) trivial) (c12_says f10 f13)

noncomputable def f3g (f10 : (R : Type) → Int → (Str → Int → Option R) → Option R) (f11 : (R : Type) → Int → (Str → Int → Option R) → Option R) (f12 : (R : Type) → (Bool → Option R) → Option R) (R : Type) (a1 : Int) (k0 : Bool → Option R) : Option R :=
  f10 R a1 fun r2 r3 =>
  f11 R a1 fun r4 r5 =>
  br (eqS r2 r4)
    (br (eqI r3 r5)
      (f12 R fun r6 =>
      k0 r6)
      (k0 false))
    (k0 false)
noncomputable def c3k (f : (R : Type) → Int → (Bool → Option R) → Option R) : Con := { args := [.sc (.i .i64)], blks := [], shapes := [⟨Bool, fun r => (.c (.sc (.bool r)), [], 0)⟩], F := fun R x y k => f R (x.1) (fun z0 => k.1 z0) }
noncomputable def f3 : (R : Type) → Int → (Bool → Option R) → Option R := f3g f10 f11 f12
noncomputable def c3 : Con := c3k f3
theorem c3_says (f10 : (R : Type) → Int → (Str → Int → Option R) → Option R) (f11 : (R : Type) → Int → (Str → Int → Option R) → Option R) (f12 : (R : Type) → (Bool → Option R) → Option R) : (c3k (f3g f10 f11 f12)).Says Tryz.prog Tryz.f3 (conL [(10, c10k f10), (11, c11k f11), (12, c12k f12)]) (pieceL 0 []) .leaf := by
  intro R x y K
  kernel_rfl
theorem c3_ok : ConOK Tryz.prog 3 c3 :=
  con_ok (fn := Tryz.f3) (code := fsub Tryz.f3 []) (by kernel_rfl) (by kernel_rfl) (by kernel_rfl) (by kernel_rfl) (cons_ok (l := [(10, c10), (11, c11), (12, c12)]) ⟨.inl c10_ok, .inl c11_ok, .inl c12_ok, trivial⟩) (orcs_ok' (l := []) (by kernel_rfl) trivial) (c3_says f10 f11 f12)

noncomputable def f4g (f10 : (R : Type) → Int → (Str → Int → Option R) → Option R) (f12 : (R : Type) → (Bool → Option R) → Option R) (R : Type) (a1 : Int) (a2 : Int) (k0 : Bool → Option R) : Option R :=
  f10 R a1 fun r3 r4 =>
  f10 R a2 fun r5 r6 =>
  br (!(eqI r4 0))
    (br (eqI r4 0)
      (br (eqI r6 0)
        (f12 R fun r7 =>
        k0 r7)
        (br (eqS r5 [])
          (f12 R fun r8 =>
          k0 r8)
          (k0 false)))
      (br (eqS r3 [])
        (br (eqI r6 0)
          (f12 R fun r9 =>
          k0 r9)
          (br (eqS r5 [])
            (f12 R fun r10 =>
            k0 r10)
            (k0 false)))
        (k0 false)))
    (br (!(eqI r6 0))
      (br (eqI r4 0)
        (br (eqI r6 0)
          (f12 R fun r11 =>
          k0 r11)
          (br (eqS r5 [])
            (f12 R fun r12 =>
            k0 r12)
            (k0 false)))
        (br (eqS r3 [])
          (br (eqI r6 0)
            (f12 R fun r13 =>
            k0 r13)
            (br (eqS r5 [])
              (f12 R fun r14 =>
              k0 r14)
              (k0 false)))
          (k0 false)))
      (let v15 : Int := ((r3.length : Nat) : Int)
      br (eqI v15 15)
        (let v16 : Int := ((r5.length : Nat) : Int)
        br (eqI v16 15)
          (let v17 : Bool := (ltI a1 a2) == (ltS r3 r5)
          br (v17)
            (let v18 : Bool := (eqI a1 a2) == (eqS r3 r5)
            br (v18)
              (f12 R fun r19 =>
              k0 r19)
              (k0 false))
            (k0 false))
          (k0 false))
        (k0 false)))
noncomputable def c4k (f : (R : Type) → Int → Int → (Bool → Option R) → Option R) : Con := { args := [.sc (.i .i64), .sc (.i .i64)], blks := [], shapes := [⟨Bool, fun r => (.c (.sc (.bool r)), [], 0)⟩], F := fun R x y k => f R (x.1) (x.2.1) (fun z0 => k.1 z0) }
noncomputable def f4 : (R : Type) → Int → Int → (Bool → Option R) → Option R := f4g f10 f12
noncomputable def c4 : Con := c4k f4
theorem c4_says (f10 : (R : Type) → Int → (Str → Int → Option R) → Option R) (f12 : (R : Type) → (Bool → Option R) → Option R) : (c4k (f4g f10 f12)).Says Tryz.prog Tryz.f4 (conL [(10, c10k f10), (12, c12k f12)]) (pieceL 0 []) .leaf := by
  intro R x y K
  kernel_rfl
theorem c4_ok : ConOK Tryz.prog 4 c4 :=
  con_ok (fn := Tryz.f4) (code := fsub Tryz.f4 []) (by kernel_rfl) (by kernel_rfl) (by kernel_rfl) (by kernel_rfl) (cons_ok (l := [(10, c10), (12, c12)]) ⟨.inl c10_ok, .inl c12_ok, trivial⟩) (orcs_ok' (l := []) (by kernel_rfl) trivial) (c4_says f10 f12)
end Go.Ev
