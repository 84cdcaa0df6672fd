/-  -/
import Derived.Test.YtlodiaflicooeaaGreatDoorBase
import Derived.KernelRfl
set_option linter.unusedVariables false
set_option maxRecDepth 100000
namespace Go.Ev
open Go.Proofs
noncomputable def f5g (R : Type) (k0 : Unit → Option R) : Option R :=
  k0 ()
noncomputable def c5k (f : (R : Type) → (Unit → Option R) → Option R) : Con := { args := [.sc (.nilp)], blks := [], shapes := [⟨Unit, fun r => (.tup [.sc (.str []), .sc (.int .i64 2)], [], 0)⟩], F := fun R x y k => f R (fun _ => k.1 ()) }
noncomputable def f5 : (R : Type) → (Unit → Option R) → Option R := f5g
noncomputable def c5 : Con := c5k f5
theorem c5_says : (c5k (f5g)).Says Tryz.prog Tryz.f5 (conL []) (pieceL 0 []) .leaf := by
  intro R x y K
  kernel_rfl
theorem c5_ok : ConOK Tryz.prog 5 c5 :=
  con_ok (fn := Tryz.f5) (code := fsub Tryz.f5 []) (by kernel_rfl) (by kernel_rfl) (by kernel_rfl) (by kernel_rfl) (cons_ok (l := []) trivial) (orcs_ok' (l := []) (by kernel_rfl) trivial) (c5_says)

noncomputable def f6g (R : Type) (a1 : Str) (k0 : Unit → Option R) : Option R :=
  k0 ()
noncomputable def c6k (f : (R : Type) → Str → (Unit → Option R) → Option R) : Con := { args := [.sc (.nilp), .sc (.s)], blks := [], shapes := [⟨Unit, fun r => (.tup [.sc (.nilsl), .sc (.int .i64 2)], [], 0)⟩], F := fun R x y k => f R (x.2.1) (fun _ => k.1 ()) }
noncomputable def f6 : (R : Type) → Str → (Unit → Option R) → Option R := f6g
noncomputable def c6 : Con := c6k f6
theorem c6_says : (c6k (f6g)).Says Tryz.prog Tryz.f6 (conL []) (pieceL 0 []) .leaf := by
  intro R x y K
  kernel_rfl
theorem c6_ok : ConOK Tryz.prog 6 c6 :=
  con_ok (fn := Tryz.f6) (code := fsub Tryz.f6 []) (by kernel_rfl) (by kernel_rfl) (by kernel_rfl) (by kernel_rfl) (cons_ok (l := []) trivial) (orcs_ok' (l := []) (by kernel_rfl) trivial) (c6_says)

noncomputable def f7g (R : Type) (k0 : Unit → Option R) : Option R :=
  k0 ()
noncomputable def c7k (f : (R : Type) → (Unit → Option R) → Option R) : Con := { args := [.sc (.nilp)], blks := [], shapes := [⟨Unit, fun r => (.c (.sc (.bool false)), [], 0)⟩], F := fun R x y k => f R (fun _ => k.1 ()) }
noncomputable def f7 : (R : Type) → (Unit → Option R) → Option R := f7g
noncomputable def c7 : Con := c7k f7
theorem c7_says : (c7k (f7g)).Says Tryz.prog Tryz.f7 (conL []) (pieceL 0 []) .leaf := by
  intro R x y K
  kernel_rfl
theorem c7_ok : ConOK Tryz.prog 7 c7 :=
  con_ok (fn := Tryz.f7) (code := fsub Tryz.f7 []) (by kernel_rfl) (by kernel_rfl) (by kernel_rfl) (by kernel_rfl) (cons_ok (l := []) trivial) (orcs_ok' (l := []) (by kernel_rfl) trivial) (c7_says)

noncomputable def f8g (R : Type) (k0 : Unit → Option R) : Option R :=
  k0 ()
noncomputable def c8k (f : (R : Type) → (Unit → Option R) → Option R) : Con := { args := [.sc (.nilp)], blks := [], shapes := [⟨Unit, fun r => (.c (.sc (.int .i64 0)), [], 0)⟩], F := fun R x y k => f R (fun _ => k.1 ()) }
noncomputable def f8 : (R : Type) → (Unit → Option R) → Option R := f8g
noncomputable def c8 : Con := c8k f8
theorem c8_says : (c8k (f8g)).Says Tryz.prog Tryz.f8 (conL []) (pieceL 0 []) .leaf := by
  intro R x y K
  kernel_rfl
theorem c8_ok : ConOK Tryz.prog 8 c8 :=
  con_ok (fn := Tryz.f8) (code := fsub Tryz.f8 []) (by kernel_rfl) (by kernel_rfl) (by kernel_rfl) (by kernel_rfl) (cons_ok (l := []) trivial) (orcs_ok' (l := []) (by kernel_rfl) trivial) (c8_says)

noncomputable def f9g (R : Type) (k0 : (List Str) → Option R) : Option R :=
  lett (List.replicate 4 ([] : Str)) fun (v1 : List Str) =>
  lett (List.replicate 4 ([] : Str)) fun (v2 : List Str) =>
  k0 v2
noncomputable def c9k (f : (R : Type) → ((List Str) → Option R) → Option R) : Con := { args := [.sc (.nilp)], blks := [], shapes := [⟨(List Str), fun r => (.c (.agg [.strs r 4]), [], 0)⟩], F := fun R x y k => f R (fun z0 => k.1 z0) }
noncomputable def f9 : (R : Type) → ((List Str) → Option R) → Option R := f9g
noncomputable def c9 : Con := c9k f9
theorem c9_says : (c9k (f9g)).Says Tryz.prog Tryz.f9 (conL []) (pieceL 0 []) .leaf := by
  intro R x y K
  kernel_rfl
theorem c9_ok : ConOK Tryz.prog 9 c9 :=
  con_ok (fn := Tryz.f9) (code := fsub Tryz.f9 []) (by kernel_rfl) (by kernel_rfl) (by kernel_rfl) (by kernel_rfl) (cons_ok (l := []) trivial) (orcs_ok' (l := []) (by kernel_rfl) trivial) (c9_says)

noncomputable def f10g (R : Type) (k0 : Unit → Option R) : Option R :=
  k0 ()
noncomputable def c10k (f : (R : Type) → (Unit → Option R) → Option R) : Con := { args := [.sc (.nilp)], blks := [], shapes := [⟨Unit, fun r => (.c (.sc (.str [])), [], 0)⟩], F := fun R x y k => f R (fun _ => k.1 ()) }
noncomputable def f10 : (R : Type) → (Unit → Option R) → Option R := f10g
noncomputable def c10 : Con := c10k f10
theorem c10_says : (c10k (f10g)).Says Tryz.prog Tryz.f10 (conL []) (pieceL 0 []) .leaf := by
  intro R x y K
  kernel_rfl
theorem c10_ok : ConOK Tryz.prog 10 c10 :=
  con_ok (fn := Tryz.f10) (code := fsub Tryz.f10 []) (by kernel_rfl) (by kernel_rfl) (by kernel_rfl) (by kernel_rfl) (cons_ok (l := []) trivial) (orcs_ok' (l := []) (by kernel_rfl) trivial) (c10_says)

noncomputable def f43g (R : Type) (a1 : Int) (k0 : Unit → Option R) (k1 : Unit → Option R) (k2 : Unit → Option R) : Option R :=
  br (eqI a1 4865)
    (k0 ())
    (br (eqI a1 4867)
      (k1 ())
      (k2 ()))
noncomputable def c43k (f : (R : Type) → Int → (Unit → Option R) → (Unit → Option R) → (Unit → Option R) → Option R) : Con := { args := [.sc (.i .i64)], blks := [], shapes := [⟨Unit, fun r => (.c (.sc (.int .i64 16)), [], 0)⟩, ⟨Unit, fun r => (.c (.sc (.int .i64 32)), [], 0)⟩, ⟨Unit, fun r => (.c (.sc (.int .i64 0)), [], 0)⟩], F := fun R x y k => f R (x.1) (fun _ => k.1 ()) (fun _ => k.2.1 ()) (fun _ => k.2.2.1 ()) }
noncomputable def f43 : (R : Type) → Int → (Unit → Option R) → (Unit → Option R) → (Unit → Option R) → Option R := f43g
noncomputable def c43 : Con := c43k f43
theorem c43_says : (c43k (f43g)).Says Tryz.prog Tryz.f43 (conL []) (pieceL 0 []) .leaf := by
  intro R x y K
  kernel_rfl
theorem c43_ok : ConOK Tryz.prog 43 c43 :=
  con_ok (fn := Tryz.f43) (code := fsub Tryz.f43 []) (by kernel_rfl) (by kernel_rfl) (by kernel_rfl) (by kernel_rfl) (cons_ok (l := []) trivial) (orcs_ok' (l := []) (by kernel_rfl) trivial) (c43_says)

noncomputable def f42g (f43 : (R : Type) → Int → (Unit → Option R) → (Unit → Option R) → (Unit → Option R) → Option R) (R : Type) (a1 : Int) (k0 : Unit → Option R) (k1 : Unit → Option R) : Option R :=
  f43 R a1
    (fun _ =>
      k0 ())
    (fun _ =>
      k0 ())
    (fun _ =>
      k1 ())
noncomputable def c42k (f : (R : Type) → Int → (Unit → Option R) → (Unit → Option R) → Option R) : Con := { args := [.sc (.i .i64)], blks := [], shapes := [⟨Unit, fun r => (.c (.sc (.bool false)), [], 0)⟩, ⟨Unit, fun r => (.c (.sc (.bool true)), [], 0)⟩], F := fun R x y k => f R (x.1) (fun _ => k.1 ()) (fun _ => k.2.1 ()) }
noncomputable def f42 : (R : Type) → Int → (Unit → Option R) → (Unit → Option R) → Option R := f42g f43
noncomputable def c42 : Con := c42k f42
theorem c42_says (f43 : (R : Type) → Int → (Unit → Option R) → (Unit → Option R) → (Unit → Option R) → Option R) : (c42k (f42g f43)).Says Tryz.prog Tryz.f42 (conL [(43, c43k f43)]) (pieceL 0 []) .leaf := by
  intro R x y K
  kernel_rfl
theorem c42_ok : ConOK Tryz.prog 42 c42 :=
  con_ok (fn := Tryz.f42) (code := fsub Tryz.f42 []) (by kernel_rfl) (by kernel_rfl) (by kernel_rfl) (by kernel_rfl) (cons_ok (l := [(43, c43)]) ⟨.inl c43_ok, trivial⟩) (orcs_ok' (l := []) (by kernel_rfl) trivial) (c42_says f43)

def f74p0T : StK := ⟨[(0, .sc (.sl 0 1 none)), (1, .sc (.fn 42 [])), (7, .sc (.i .i64)), (8, .sc (.i .i64))], [(true, [.ints .i64 none])]⟩
def f74p0E : List PShape := [⟨Int × (List Int), fun r => (.ret, ⟨[(4, .c (.sc (.int .i64 r.1)))], [(0, ⟨true, [.ints .i64 r.2 r.2.length]⟩)], 1⟩)⟩, ⟨(List Int), fun r => (.exit 0, ⟨[], [(0, ⟨true, [.ints .i64 r r.length]⟩)], 1⟩)⟩]
noncomputable def f74p0step (f42 : (R : Type) → Int → (Unit → Option R) → (Unit → Option R) → Option R) (R : Type) (x3 : Int) (x4 : Int) (x5 : List Int) (next : Int → Int → (List Int) → Option R) (k0 : Int → (List Int) → Option R) (k1 : (List Int) → Option R) : Option R :=
  br (ltI x4 x3)
    (gd (inB x4 x5.length) <|
    f42 R (x5.getD x4.toNat 0)
      (fun _ =>
        next x3 (addI .i64 x4 1) x5)
      (fun _ =>
        k0 x4 x5))
    (k1 x5)
def f74p0fuel (x3 : Int) (x4 : Int) (x5 : List Int) : Nat := x3.toNat + x4.toNat + x5.length + 100000
noncomputable def f74p0 (f42 : (R : Type) → Int → (Unit → Option R) → (Unit → Option R) → Option R) : Piece := { T := f74p0T, shapes := f74p0E, step := fun R x next k => f74p0step f42 R (x.1.2.2.1) (x.1.2.2.2.1) (x.2.1.1) (fun x3 x4 x5 => next (((), (), x3, x4, ()), ((x5, ()), ()))) (fun z0 z1 => k.1 (z0, z1)) (fun z0 => k.2.1 z0), fuel := fun x => f74p0fuel (x.1.2.2.1) (x.1.2.2.2.1) (x.2.1.1) }
noncomputable def f74l0 (f42 : (R : Type) → Int → (Unit → Option R) → (Unit → Option R) → Option R) (R : Type) (x3 : Int) (x4 : Int) (x5 : List Int) (k0 : Int → (List Int) → Option R) (k1 : (List Int) → Option R) : Option R :=
  runP f74p0T f74p0E (f74p0 f42).step R (f74p0fuel x3 x4 x5) (((), (), x3, x4, ()), ((x5, ()), ())) (fun r => k0 (r.1) (r.2), fun r => k1 (r), ())
theorem f74p0_says (f42 : (R : Type) → Int → (Unit → Option R) → (Unit → Option R) → Option R) : (f74p0 f42).Loops Tryz.prog 19 1 (conL [(42, c42k f42)]) (pieceL 1 []) (fsub Tryz.f74 [1, 0, 1, 0, 0]) .leaf [0, 1, 7, 8] [] [4] [] := by
  intro R v next K
  kernel_rfl
theorem f74p0_ok : OrcOK Tryz.prog 19 1 (.loop (fsub Tryz.f74 [1, 0, 1, 0, 0])) (fun R => pieceG 1 (f74p0 f42) R) :=
  piece_loop (cons_ok (l := [(42, c42)]) ⟨.inl c42_ok, trivial⟩) (orcs_ok' (l := []) (by kernel_rfl) trivial) (f74p0_says f42)
noncomputable def f74g (f42 : (R : Type) → Int → (Unit → Option R) → (Unit → Option R) → Option R) (R : Type) (a1 : List Int) (k0 : Int → (List Int) → Option R) (k1 : (List Int) → Option R) : Option R :=
  lett (((a1.length : Nat) : Int)) fun (v2 : Int) =>
  f74l0 f42 R v2 0 a1
    (fun y6 y7 =>
      k0 y6 y7)
    (fun y8 =>
      k1 y8)
noncomputable def c74k (f : (R : Type) → (List Int) → (Int → (List Int) → Option R) → ((List Int) → Option R) → Option R) : Con := { args := [.sc (.sl 0 1 none), .sc (.fn 42 [])], blks := [(true, [.ints .i64 none])], shapes := [⟨Int × (List Int), fun r => (.c (.sc (.int .i64 r.1)), [(0, ⟨true, [.ints .i64 r.2 r.2.length]⟩)], 0)⟩, ⟨(List Int), fun r => (.c (.sc (.int .i64 (-1))), [(0, ⟨true, [.ints .i64 r r.length]⟩)], 0)⟩], F := fun R x y k => f R (y.1.1) (fun z0 z1 => k.1 (z0, z1)) (fun z0 => k.2.1 z0) }
noncomputable def f74 : (R : Type) → (List Int) → (Int → (List Int) → Option R) → ((List Int) → Option R) → Option R := f74g f42
noncomputable def c74 : Con := c74k f74
theorem c74_says (f42 : (R : Type) → Int → (Unit → Option R) → (Unit → Option R) → Option R) : (c74k (f74g f42)).Says Tryz.prog Tryz.f74 (conL [(42, c42k f42)]) (pieceL 1 [(0, f74p0 f42)]) (.node .leaf (.node (.node .leaf (.node (.orc 0 [0, 1, 7, 8] []) .leaf)) .leaf)) := by
  intro R x y K
  kernel_rfl
theorem c74_ok : ConOK Tryz.prog 74 c74 :=
  con_ok (fn := Tryz.f74) (code := fsub Tryz.f74 []) (by kernel_rfl) (by kernel_rfl) (by kernel_rfl) (by kernel_rfl) (cons_ok (l := [(42, c42)]) ⟨.inl c42_ok, trivial⟩) (orcs_ok' (l := [(0, [1, 0, 1, 0])]) (by kernel_rfl) ⟨piece_at (by kernel_rfl) (by kernel_rfl) f74p0_ok, trivial⟩) (c74_says f42)

noncomputable def f41g (f74 : (R : Type) → (List Int) → (Int → (List Int) → Option R) → ((List Int) → Option R) → Option R) (R : Type) (a1 : List Int) (k0 : Bool → (List Int) → Option R) (k1 : (List Int) → Option R) : Option R :=
  f74 R a1
    (fun r2 r3 =>
      k0 (leI 0 r2) r3)
    (fun r4 =>
      k1 r4)
noncomputable def c41k (f : (R : Type) → (List Int) → (Bool → (List Int) → Option R) → ((List Int) → Option R) → Option R) : Con := { args := [.sc (.sl 0 1 none), .sc (.fn 42 [])], blks := [(true, [.ints .i64 none])], shapes := [⟨Bool × (List Int), fun r => (.c (.sc (.bool r.1)), [(0, ⟨true, [.ints .i64 r.2 r.2.length]⟩)], 0)⟩, ⟨(List Int), fun r => (.c (.sc (.bool false)), [(0, ⟨true, [.ints .i64 r r.length]⟩)], 0)⟩], F := fun R x y k => f R (y.1.1) (fun z0 z1 => k.1 (z0, z1)) (fun z0 => k.2.1 z0) }
noncomputable def f41 : (R : Type) → (List Int) → (Bool → (List Int) → Option R) → ((List Int) → Option R) → Option R := f41g f74
noncomputable def c41 : Con := c41k f41
theorem c41_says (f74 : (R : Type) → (List Int) → (Int → (List Int) → Option R) → ((List Int) → Option R) → Option R) : (c41k (f41g f74)).Says Tryz.prog Tryz.f41 (conL [(74, c74k f74)]) (pieceL 1 []) .leaf := by
  intro R x y K
  kernel_rfl
theorem c41_ok : ConOK Tryz.prog 41 c41 :=
  con_ok (fn := Tryz.f41) (code := fsub Tryz.f41 []) (by kernel_rfl) (by kernel_rfl) (by kernel_rfl) (by kernel_rfl) (cons_ok (l := [(74, c74)]) ⟨.inl c74_ok, trivial⟩) (orcs_ok' (l := []) (by kernel_rfl) trivial) (c41_says f74)

noncomputable def f24g (f41 : (R : Type) → (List Int) → (Bool → (List Int) → Option R) → ((List Int) → Option R) → Option R) (R : Type) (a1 : List Int) (k0 : (List Int) → Option R) (k1 : (List Int) → Option R) : Option R :=
  lett (((a1.length : Nat) : Int)) fun (v2 : Int) =>
  br (ltI v2 1)
    (k0 a1)
    (lett (((a1.length : Nat) : Int)) fun (v3 : Int) =>
    br (ltI 4 v3)
      (k0 a1)
      (f41 R a1
        (fun r4 r5 =>
          br (r4)
            (k0 r5)
            (k1 r5))
        (fun r6 =>
          k1 r6)))
noncomputable def c24k (f : (R : Type) → (List Int) → ((List Int) → Option R) → ((List Int) → Option R) → Option R) : Con := { args := [.sc (.bk false), .agg [.one (.sk []), .one (.sk []), .one (.nilsl), .one (.ik .i64 0), .one (.sk []), .one (.sk []), .one (.sl 0 1 none)]], blks := [(true, [.ints .i64 none])], shapes := [⟨(List Int), fun r => (.tup [.sc (.nilp), .sc (.int .i64 1)], [(0, ⟨true, [.ints .i64 r r.length]⟩)], 0)⟩, ⟨(List Int), fun r => (.tup [.sc (.nilp), .sc (.int .i64 21)], [(0, ⟨true, [.ints .i64 r r.length]⟩)], 0)⟩], F := fun R x y k => f R (y.1.1) (fun z0 => k.1 z0) (fun z0 => k.2.1 z0) }
noncomputable def f24 : (R : Type) → (List Int) → ((List Int) → Option R) → ((List Int) → Option R) → Option R := f24g f41
noncomputable def c24 : Con := c24k f24
theorem c24_says (f41 : (R : Type) → (List Int) → (Bool → (List Int) → Option R) → ((List Int) → Option R) → Option R) : (c24k (f24g f41)).Says Tryz.prog Tryz.f24 (conL [(41, c41k f41)]) (pieceL 1 []) .leaf := by
  intro R x y K
  kernel_rfl
theorem c24_ok : ConOK Tryz.prog 24 c24 :=
  con_ok (fn := Tryz.f24) (code := fsub Tryz.f24 []) (by kernel_rfl) (by kernel_rfl) (by kernel_rfl) (by kernel_rfl) (cons_ok (l := [(41, c41)]) ⟨.inl c41_ok, trivial⟩) (orcs_ok' (l := []) (by kernel_rfl) trivial) (c24_says f41)

noncomputable def f24v1g (f41 : (R : Type) → (List Int) → (Bool → (List Int) → Option R) → ((List Int) → Option R) → Option R) (R : Type) (a1 : List Int) (k0 : (List Int) → Option R) (k1 : (List Int) → Option R) : Option R :=
  lett (((a1.length : Nat) : Int)) fun (v2 : Int) =>
  br (ltI v2 1)
    (k0 a1)
    (lett (((a1.length : Nat) : Int)) fun (v3 : Int) =>
    br (ltI 4 v3)
      (k0 a1)
      (f41 R a1
        (fun r4 r5 =>
          br (r4)
            (k0 r5)
            (k1 r5))
        (fun r6 =>
          k1 r6)))
noncomputable def c24v1k (f : (R : Type) → (List Int) → ((List Int) → Option R) → ((List Int) → Option R) → Option R) : Con := { args := [.sc (.bk true), .agg [.one (.sk []), .one (.sk []), .one (.nilsl), .one (.ik .i64 0), .one (.sk []), .one (.sk []), .one (.sl 0 1 none)]], blks := [(true, [.ints .i64 none])], shapes := [⟨(List Int), fun r => (.tup [.sc (.nilp), .sc (.int .i64 1)], [(0, ⟨true, [.ints .i64 r r.length]⟩)], 0)⟩, ⟨(List Int), fun r => (.tup [.sc (.nilp), .sc (.int .i64 21)], [(0, ⟨true, [.ints .i64 r r.length]⟩)], 0)⟩], F := fun R x y k => f R (y.1.1) (fun z0 => k.1 z0) (fun z0 => k.2.1 z0) }
noncomputable def f24v1 : (R : Type) → (List Int) → ((List Int) → Option R) → ((List Int) → Option R) → Option R := f24v1g f41
noncomputable def c24v1 : Con := c24v1k f24v1
theorem c24v1_says (f41 : (R : Type) → (List Int) → (Bool → (List Int) → Option R) → ((List Int) → Option R) → Option R) : (c24v1k (f24v1g f41)).Says Tryz.prog Tryz.f24 (conL [(41, c41k f41)]) (pieceL 1 []) .leaf := by
  intro R x y K
  kernel_rfl
theorem c24v1_ok : ConOK Tryz.prog 24 c24v1 :=
  con_ok (fn := Tryz.f24) (code := fsub Tryz.f24 []) (by kernel_rfl) (by kernel_rfl) (by kernel_rfl) (by kernel_rfl) (cons_ok (l := [(41, c41)]) ⟨.inl c41_ok, trivial⟩) (orcs_ok' (l := []) (by kernel_rfl) trivial) (c24v1_says f41)

noncomputable def f11g (f24 : (R : Type) → (List Int) → ((List Int) → Option R) → ((List Int) → Option R) → Option R) (f24v1 : (R : Type) → (List Int) → ((List Int) → Option R) → ((List Int) → Option R) → Option R) (f6 : (R : Type) → Str → (Unit → Option R) → Option R) (R : Type) (k0 : Unit → Option R) (k1 : Unit → Option R) : Option R :=
  f24 R ([4866] : List Int)
    (fun r1 =>
      f24v1 R ([4867] : List Int)
        (fun r2 =>
          f6 R ([] : Str) fun _ =>
          k0 ())
        (fun r3 =>
          f6 R ([] : Str) fun _ =>
          k1 ()))
    (fun r4 =>
      f24v1 R ([4867] : List Int)
        (fun r5 =>
          f6 R ([] : Str) fun _ =>
          k0 ())
        (fun r6 =>
          f6 R ([] : Str) fun _ =>
          k0 ()))
noncomputable def c11k (f : (R : Type) → (Unit → Option R) → (Unit → Option R) → Option R) : Con := { args := [], blks := [], shapes := [⟨Unit, fun r => (.c (.sc (.bool false)), [], 0)⟩, ⟨Unit, fun r => (.c (.sc (.bool true)), [], 0)⟩], F := fun R x y k => f R (fun _ => k.1 ()) (fun _ => k.2.1 ()) }
noncomputable def f11 : (R : Type) → (Unit → Option R) → (Unit → Option R) → Option R := f11g f24 f24v1 f6
noncomputable def c11 : Con := c11k f11
theorem c11_says (f24 : (R : Type) → (List Int) → ((List Int) → Option R) → ((List Int) → Option R) → Option R) (f24v1 : (R : Type) → (List Int) → ((List Int) → Option R) → ((List Int) → Option R) → Option R) (f6 : (R : Type) → Str → (Unit → Option R) → Option R) : (c11k (f11g f24 f24v1 f6)).Says Tryz.prog Tryz.f11 (conL [(24, c24k f24), (24, c24v1k f24v1), (6, c6k f6)]) (pieceL 0 []) .leaf := by
  intro R x y K
  kernel_rfl
theorem c11_ok : ConOK Tryz.prog 11 c11 :=
  con_ok (fn := Tryz.f11) (code := fsub Tryz.f11 []) (by kernel_rfl) (by kernel_rfl) (by kernel_rfl) (by kernel_rfl) (cons_ok (l := [(24, c24), (24, c24v1), (6, c6)]) ⟨.inl c24_ok, .inl c24v1_ok, .inl c6_ok, trivial⟩) (orcs_ok' (l := []) (by kernel_rfl) trivial) (c11_says f24 f24v1 f6)

noncomputable def f3g (f5 : (R : Type) → (Unit → Option R) → Option R) (f6 : (R : Type) → Str → (Unit → Option R) → Option R) (f7 : (R : Type) → (Unit → Option R) → Option R) (f8 : (R : Type) → (Unit → Option R) → Option R) (f9 : (R : Type) → ((List Str) → Option R) → Option R) (f10 : (R : Type) → (Unit → Option R) → Option R) (f11 : (R : Type) → (Unit → Option R) → (Unit → Option R) → Option R) (R : Type) (a1 : Str) (k0 : Unit → Option R) (k1 : Unit → Option R) : Option R :=
  f5 R fun _ =>
  f6 R a1 fun _ =>
  f7 R fun _ =>
  f8 R fun _ =>
  f9 R fun r2 =>
  lett (eqBs r2 (List.replicate 4 ([] : Str))) fun (v3 : Bool) =>
  br (v3)
    (f10 R fun _ =>
    f11 R
      (fun _ =>
        k0 ())
      (fun _ =>
        k1 ()))
    (k0 ())
noncomputable def c3k (f : (R : Type) → Str → (Unit → Option R) → (Unit → Option R) → Option R) : Con := { args := [.sc (.s)], blks := [], shapes := [⟨Unit, fun r => (.c (.sc (.bool false)), [], 0)⟩, ⟨Unit, fun r => (.c (.sc (.bool true)), [], 0)⟩], F := fun R x y k => f R (x.1) (fun _ => k.1 ()) (fun _ => k.2.1 ()) }
noncomputable def f3 : (R : Type) → Str → (Unit → Option R) → (Unit → Option R) → Option R := f3g f5 f6 f7 f8 f9 f10 f11
noncomputable def c3 : Con := c3k f3
theorem c3_says (f5 : (R : Type) → (Unit → Option R) → Option R) (f6 : (R : Type) → Str → (Unit → Option R) → Option R) (f7 : (R : Type) → (Unit → Option R) → Option R) (f8 : (R : Type) → (Unit → Option R) → Option R) (f9 : (R : Type) → ((List Str) → Option R) → Option R) (f10 : (R : Type) → (Unit → Option R) → Option R) (f11 : (R : Type) → (Unit → Option R) → (Unit → Option R) → Option R) : (c3k (f3g f5 f6 f7 f8 f9 f10 f11)).Says Tryz.prog Tryz.f3 (conL [(5, c5k f5), (6, c6k f6), (7, c7k f7), (8, c8k f8), (9, c9k f9), (10, c10k f10), (11, c11k f11)]) (pieceL 0 []) .leaf := by
  intro R x y K
  kernel_rfl
theorem c3_ok : ConOK Tryz.prog 3 c3 :=
  con_ok (fn := Tryz.f3) (code := fsub Tryz.f3 []) (by kernel_rfl) (by kernel_rfl) (by kernel_rfl) (by kernel_rfl) (cons_ok (l := [(5, c5), (6, c6), (7, c7), (8, c8), (9, c9), (10, c10), (11, c11)]) ⟨.inl c5_ok, .inl c6_ok, .inl c7_ok, .inl c8_ok, .inl c9_ok, .inl c10_ok, .inl c11_ok, trivial⟩) (orcs_ok' (l := []) (by kernel_rfl) trivial) (c3_says f5 f6 f7 f8 f9 f10 f11)

noncomputable def f25g (R : Type) (k0 : Unit → Option R) : Option R :=
  k0 ()
noncomputable def c25k (f : (R : Type) → (Unit → Option R) → Option R) : Con := { args := [.sc (.nilp)], blks := [], shapes := [⟨Unit, fun r => (.c (.sc (.int .i64 2)), [], 0)⟩], F := fun R x y k => f R (fun _ => k.1 ()) }
noncomputable def f25 : (R : Type) → (Unit → Option R) → Option R := f25g
noncomputable def c25 : Con := c25k f25
theorem c25_says : (c25k (f25g)).Says Tryz.prog Tryz.f25 (conL []) (pieceL 0 []) .leaf := by
  intro R x y K
  kernel_rfl
theorem c25_ok : ConOK Tryz.prog 25 c25 :=
  con_ok (fn := Tryz.f25) (code := fsub Tryz.f25 []) (by kernel_rfl) (by kernel_rfl) (by kernel_rfl) (by kernel_rfl) (cons_ok (l := []) trivial) (orcs_ok' (l := []) (by kernel_rfl) trivial) (c25_says)

noncomputable def f12g (f25 : (R : Type) → (Unit → Option R) → Option R) (R : Type) (a1 : Str) (k0 : Unit → Option R) : Option R :=
  f25 R fun _ =>
  k0 ()
noncomputable def c12k (f : (R : Type) → Str → (Unit → Option R) → Option R) : Con := { args := [.sc (.nilp), .sc (.s)], blks := [], shapes := [⟨Unit, fun r => (.tup [.sc (.nilsl), .sc (.int .i64 2)], [], 0)⟩], F := fun R x y k => f R (x.2.1) (fun _ => k.1 ()) }
noncomputable def f12 : (R : Type) → Str → (Unit → Option R) → Option R := f12g f25
noncomputable def c12 : Con := c12k f12
theorem c12_says (f25 : (R : Type) → (Unit → Option R) → Option R) : (c12k (f12g f25)).Says Tryz.prog Tryz.f12 (conL [(25, c25k f25)]) (pieceL 0 []) .leaf := by
  intro R x y K
  kernel_rfl
theorem c12_ok : ConOK Tryz.prog 12 c12 :=
  con_ok (fn := Tryz.f12) (code := fsub Tryz.f12 []) (by kernel_rfl) (by kernel_rfl) (by kernel_rfl) (by kernel_rfl) (cons_ok (l := [(25, c25)]) ⟨.inl c25_ok, trivial⟩) (orcs_ok' (l := []) (by kernel_rfl) trivial) (c12_says f25)

noncomputable def f13g (f25 : (R : Type) → (Unit → Option R) → Option R) (R : Type) (k0 : Unit → Option R) : Option R :=
  f25 R fun _ =>
  k0 ()
noncomputable def c13k (f : (R : Type) → (Unit → Option R) → Option R) : Con := { args := [.sc (.nilp)], blks := [], shapes := [⟨Unit, fun r => (.c (.sc (.int .i64 2)), [], 0)⟩], F := fun R x y k => f R (fun _ => k.1 ()) }
noncomputable def f13 : (R : Type) → (Unit → Option R) → Option R := f13g f25
noncomputable def c13 : Con := c13k f13
theorem c13_says (f25 : (R : Type) → (Unit → Option R) → Option R) : (c13k (f13g f25)).Says Tryz.prog Tryz.f13 (conL [(25, c25k f25)]) (pieceL 0 []) .leaf := by
  intro R x y K
  kernel_rfl
theorem c13_ok : ConOK Tryz.prog 13 c13 :=
  con_ok (fn := Tryz.f13) (code := fsub Tryz.f13 []) (by kernel_rfl) (by kernel_rfl) (by kernel_rfl) (by kernel_rfl) (cons_ok (l := [(25, c25)]) ⟨.inl c25_ok, trivial⟩) (orcs_ok' (l := []) (by kernel_rfl) trivial) (c13_says f25)

noncomputable def f14g (R : Type) (k0 : Unit → Option R) : Option R :=
  k0 ()
noncomputable def c14k (f : (R : Type) → (Unit → Option R) → Option R) : Con := { args := [.sc (.nilp)], blks := [], shapes := [⟨Unit, fun r => (.c (.sc (.str [])), [], 0)⟩], F := fun R x y k => f R (fun _ => k.1 ()) }
noncomputable def f14 : (R : Type) → (Unit → Option R) → Option R := f14g
noncomputable def c14 : Con := c14k f14
theorem c14_says : (c14k (f14g)).Says Tryz.prog Tryz.f14 (conL []) (pieceL 0 []) .leaf := by
  intro R x y K
  kernel_rfl
theorem c14_ok : ConOK Tryz.prog 14 c14 :=
  con_ok (fn := Tryz.f14) (code := fsub Tryz.f14 []) (by kernel_rfl) (by kernel_rfl) (by kernel_rfl) (by kernel_rfl) (cons_ok (l := []) trivial) (orcs_ok' (l := []) (by kernel_rfl) trivial) (c14_says)

noncomputable def f31g (f25 : (R : Type) → (Unit → Option R) → Option R) (R : Type) (k0 : Unit → Option R) : Option R :=
  f25 R fun _ =>
  k0 ()
noncomputable def c31k (f : (R : Type) → (Unit → Option R) → Option R) : Con := { args := [.sc (.nilp)], blks := [], shapes := [⟨Unit, fun r => (.c (.sc (.int .i64 2)), [], 0)⟩], F := fun R x y k => f R (fun _ => k.1 ()) }
noncomputable def f31 : (R : Type) → (Unit → Option R) → Option R := f31g f25
noncomputable def c31 : Con := c31k f31
theorem c31_says (f25 : (R : Type) → (Unit → Option R) → Option R) : (c31k (f31g f25)).Says Tryz.prog Tryz.f31 (conL [(25, c25k f25)]) (pieceL 0 []) .leaf := by
  intro R x y K
  kernel_rfl
theorem c31_ok : ConOK Tryz.prog 31 c31 :=
  con_ok (fn := Tryz.f31) (code := fsub Tryz.f31 []) (by kernel_rfl) (by kernel_rfl) (by kernel_rfl) (by kernel_rfl) (cons_ok (l := [(25, c25)]) ⟨.inl c25_ok, trivial⟩) (orcs_ok' (l := []) (by kernel_rfl) trivial) (c31_says f25)

noncomputable def f15g (f31 : (R : Type) → (Unit → Option R) → Option R) (R : Type) (a1 : Str) (k0 : Unit → Option R) : Option R :=
  f31 R fun _ =>
  k0 ()
noncomputable def c15k (f : (R : Type) → Str → (Unit → Option R) → Option R) : Con := { args := [.sc (.nilp), .sc (.s)], blks := [], shapes := [⟨Unit, fun r => (.c (.sc (.int .i64 2)), [], 0)⟩], F := fun R x y k => f R (x.2.1) (fun _ => k.1 ()) }
noncomputable def f15 : (R : Type) → Str → (Unit → Option R) → Option R := f15g f31
noncomputable def c15 : Con := c15k f15
theorem c15_says (f31 : (R : Type) → (Unit → Option R) → Option R) : (c15k (f15g f31)).Says Tryz.prog Tryz.f15 (conL [(31, c31k f31)]) (pieceL 0 []) .leaf := by
  intro R x y K
  kernel_rfl
theorem c15_ok : ConOK Tryz.prog 15 c15 :=
  con_ok (fn := Tryz.f15) (code := fsub Tryz.f15 []) (by kernel_rfl) (by kernel_rfl) (by kernel_rfl) (by kernel_rfl) (cons_ok (l := [(31, c31)]) ⟨.inl c31_ok, trivial⟩) (orcs_ok' (l := []) (by kernel_rfl) trivial) (c15_says f31)

noncomputable def f16g (f31 : (R : Type) → (Unit → Option R) → Option R) (R : Type) (k0 : Unit → Option R) : Option R :=
  f31 R fun _ =>
  k0 ()
noncomputable def c16k (f : (R : Type) → (Unit → Option R) → Option R) : Con := { args := [.sc (.nilp), .sc (.bk true)], blks := [], shapes := [⟨Unit, fun r => (.c (.sc (.int .i64 2)), [], 0)⟩], F := fun R x y k => f R (fun _ => k.1 ()) }
noncomputable def f16 : (R : Type) → (Unit → Option R) → Option R := f16g f31
noncomputable def c16 : Con := c16k f16
theorem c16_says (f31 : (R : Type) → (Unit → Option R) → Option R) : (c16k (f16g f31)).Says Tryz.prog Tryz.f16 (conL [(31, c31k f31)]) (pieceL 0 []) .leaf := by
  intro R x y K
  kernel_rfl
theorem c16_ok : ConOK Tryz.prog 16 c16 :=
  con_ok (fn := Tryz.f16) (code := fsub Tryz.f16 []) (by kernel_rfl) (by kernel_rfl) (by kernel_rfl) (by kernel_rfl) (cons_ok (l := [(31, c31)]) ⟨.inl c31_ok, trivial⟩) (orcs_ok' (l := []) (by kernel_rfl) trivial) (c16_says f31)

noncomputable def f17g (f25 : (R : Type) → (Unit → Option R) → Option R) (R : Type) (k0 : Unit → Option R) : Option R :=
  f25 R fun _ =>
  k0 ()
noncomputable def c17k (f : (R : Type) → (Unit → Option R) → Option R) : Con := { args := [.sc (.nilp)], blks := [], shapes := [⟨Unit, fun r => (.c (.sc (.int .i64 2)), [], 0)⟩], F := fun R x y k => f R (fun _ => k.1 ()) }
noncomputable def f17 : (R : Type) → (Unit → Option R) → Option R := f17g f25
noncomputable def c17 : Con := c17k f17
theorem c17_says (f25 : (R : Type) → (Unit → Option R) → Option R) : (c17k (f17g f25)).Says Tryz.prog Tryz.f17 (conL [(25, c25k f25)]) (pieceL 0 []) .leaf := by
  intro R x y K
  kernel_rfl
theorem c17_ok : ConOK Tryz.prog 17 c17 :=
  con_ok (fn := Tryz.f17) (code := fsub Tryz.f17 []) (by kernel_rfl) (by kernel_rfl) (by kernel_rfl) (by kernel_rfl) (cons_ok (l := [(25, c25)]) ⟨.inl c25_ok, trivial⟩) (orcs_ok' (l := []) (by kernel_rfl) trivial) (c17_says f25)

noncomputable def f18g (f25 : (R : Type) → (Unit → Option R) → Option R) (R : Type) (k0 : Unit → Option R) : Option R :=
  f25 R fun _ =>
  k0 ()
noncomputable def c18k (f : (R : Type) → (Unit → Option R) → Option R) : Con := { args := [.sc (.nilp)], blks := [], shapes := [⟨Unit, fun r => (.c (.sc (.bool false)), [], 0)⟩], F := fun R x y k => f R (fun _ => k.1 ()) }
noncomputable def f18 : (R : Type) → (Unit → Option R) → Option R := f18g f25
noncomputable def c18 : Con := c18k f18
theorem c18_says (f25 : (R : Type) → (Unit → Option R) → Option R) : (c18k (f18g f25)).Says Tryz.prog Tryz.f18 (conL [(25, c25k f25)]) (pieceL 0 []) .leaf := by
  intro R x y K
  kernel_rfl
theorem c18_ok : ConOK Tryz.prog 18 c18 :=
  con_ok (fn := Tryz.f18) (code := fsub Tryz.f18 []) (by kernel_rfl) (by kernel_rfl) (by kernel_rfl) (by kernel_rfl) (cons_ok (l := [(25, c25)]) ⟨.inl c25_ok, trivial⟩) (orcs_ok' (l := []) (by kernel_rfl) trivial) (c18_says f25)

noncomputable def f19g (R : Type) (k0 : Unit → Option R) : Option R :=
  k0 ()
noncomputable def c19k (f : (R : Type) → (Unit → Option R) → Option R) : Con := { args := [.sc (.nilp)], blks := [], shapes := [⟨Unit, fun r => (.c (.sc (.str [])), [], 0)⟩], F := fun R x y k => f R (fun _ => k.1 ()) }
noncomputable def f19 : (R : Type) → (Unit → Option R) → Option R := f19g
noncomputable def c19 : Con := c19k f19
theorem c19_says : (c19k (f19g)).Says Tryz.prog Tryz.f19 (conL []) (pieceL 0 []) .leaf := by
  intro R x y K
  kernel_rfl
theorem c19_ok : ConOK Tryz.prog 19 c19 :=
  con_ok (fn := Tryz.f19) (code := fsub Tryz.f19 []) (by kernel_rfl) (by kernel_rfl) (by kernel_rfl) (by kernel_rfl) (cons_ok (l := []) trivial) (orcs_ok' (l := []) (by kernel_rfl) trivial) (c19_says)

noncomputable def f34g (f24 : (R : Type) → (List Int) → ((List Int) → Option R) → ((List Int) → Option R) → Option R) (R : Type) (a1 : List Int) (k0 : (List Int) → Option R) (k1 : (List Int) → Option R) : Option R :=
  f24 R a1
    (fun r2 =>
      k0 r2)
    (fun r3 =>
      k1 r3)
noncomputable def c34k (f : (R : Type) → (List Int) → ((List Int) → Option R) → ((List Int) → Option R) → Option R) : Con := { args := [.sc (.bk false), .agg [.one (.sk []), .one (.sk []), .one (.nilsl), .one (.ik .i64 0), .one (.sk []), .one (.sk []), .one (.sl 0 1 none)]], blks := [(true, [.ints .i64 none])], shapes := [⟨(List Int), fun r => (.tup [.sc (.nilp), .sc (.int .i64 1)], [(0, ⟨true, [.ints .i64 r r.length]⟩)], 0)⟩, ⟨(List Int), fun r => (.tup [.sc (.nilp), .sc (.int .i64 21)], [(0, ⟨true, [.ints .i64 r r.length]⟩)], 0)⟩], F := fun R x y k => f R (y.1.1) (fun z0 => k.1 z0) (fun z0 => k.2.1 z0) }
noncomputable def f34 : (R : Type) → (List Int) → ((List Int) → Option R) → ((List Int) → Option R) → Option R := f34g f24
noncomputable def c34 : Con := c34k f34
theorem c34_says (f24 : (R : Type) → (List Int) → ((List Int) → Option R) → ((List Int) → Option R) → Option R) : (c34k (f34g f24)).Says Tryz.prog Tryz.f34 (conL [(24, c24k f24)]) (pieceL 1 []) .leaf := by
  intro R x y K
  kernel_rfl
theorem c34_ok : ConOK Tryz.prog 34 c34 :=
  con_ok (fn := Tryz.f34) (code := fsub Tryz.f34 []) (by kernel_rfl) (by kernel_rfl) (by kernel_rfl) (by kernel_rfl) (cons_ok (l := [(24, c24)]) ⟨.inl c24_ok, trivial⟩) (orcs_ok' (l := []) (by kernel_rfl) trivial) (c34_says f24)

noncomputable def f34v1g (f24v1 : (R : Type) → (List Int) → ((List Int) → Option R) → ((List Int) → Option R) → Option R) (R : Type) (a1 : List Int) (k0 : (List Int) → Option R) (k1 : (List Int) → Option R) : Option R :=
  f24v1 R a1
    (fun r2 =>
      k0 r2)
    (fun r3 =>
      k1 r3)
noncomputable def c34v1k (f : (R : Type) → (List Int) → ((List Int) → Option R) → ((List Int) → Option R) → Option R) : Con := { args := [.sc (.bk true), .agg [.one (.sk []), .one (.sk []), .one (.nilsl), .one (.ik .i64 0), .one (.sk []), .one (.sk []), .one (.sl 0 1 none)]], blks := [(true, [.ints .i64 none])], shapes := [⟨(List Int), fun r => (.tup [.sc (.nilp), .sc (.int .i64 1)], [(0, ⟨true, [.ints .i64 r r.length]⟩)], 0)⟩, ⟨(List Int), fun r => (.tup [.sc (.nilp), .sc (.int .i64 21)], [(0, ⟨true, [.ints .i64 r r.length]⟩)], 0)⟩], F := fun R x y k => f R (y.1.1) (fun z0 => k.1 z0) (fun z0 => k.2.1 z0) }
noncomputable def f34v1 : (R : Type) → (List Int) → ((List Int) → Option R) → ((List Int) → Option R) → Option R := f34v1g f24v1
noncomputable def c34v1 : Con := c34v1k f34v1
theorem c34v1_says (f24v1 : (R : Type) → (List Int) → ((List Int) → Option R) → ((List Int) → Option R) → Option R) : (c34v1k (f34v1g f24v1)).Says Tryz.prog Tryz.f34 (conL [(24, c24v1k f24v1)]) (pieceL 1 []) .leaf := by
  intro R x y K
  kernel_rfl
theorem c34v1_ok : ConOK Tryz.prog 34 c34v1 :=
  con_ok (fn := Tryz.f34) (code := fsub Tryz.f34 []) (by kernel_rfl) (by kernel_rfl) (by kernel_rfl) (by kernel_rfl) (cons_ok (l := [(24, c24v1)]) ⟨.inl c24v1_ok, trivial⟩) (orcs_ok' (l := []) (by kernel_rfl) trivial) (c34v1_says f24v1)

noncomputable def f20g (f34 : (R : Type) → (List Int) → ((List Int) → Option R) → ((List Int) → Option R) → Option R) (f34v1 : (R : Type) → (List Int) → ((List Int) → Option R) → ((List Int) → Option R) → Option R) (f15 : (R : Type) → Str → (Unit → Option R) → Option R) (R : Type) (k0 : Unit → Option R) (k1 : Unit → Option R) : Option R :=
  f34 R ([4866] : List Int)
    (fun r1 =>
      f34v1 R ([4867] : List Int)
        (fun r2 =>
          k0 ())
        (fun r3 =>
          f15 R [120] fun _ =>
          k1 ()))
    (fun r4 =>
      f34v1 R ([4867] : List Int)
        (fun r5 =>
          k0 ())
        (fun r6 =>
          k0 ()))
noncomputable def c20k (f : (R : Type) → (Unit → Option R) → (Unit → Option R) → Option R) : Con := { args := [], blks := [], shapes := [⟨Unit, fun r => (.c (.sc (.bool false)), [], 0)⟩, ⟨Unit, fun r => (.c (.sc (.bool true)), [], 0)⟩], F := fun R x y k => f R (fun _ => k.1 ()) (fun _ => k.2.1 ()) }
noncomputable def f20 : (R : Type) → (Unit → Option R) → (Unit → Option R) → Option R := f20g f34 f34v1 f15
noncomputable def c20 : Con := c20k f20
theorem c20_says (f34 : (R : Type) → (List Int) → ((List Int) → Option R) → ((List Int) → Option R) → Option R) (f34v1 : (R : Type) → (List Int) → ((List Int) → Option R) → ((List Int) → Option R) → Option R) (f15 : (R : Type) → Str → (Unit → Option R) → Option R) : (c20k (f20g f34 f34v1 f15)).Says Tryz.prog Tryz.f20 (conL [(34, c34k f34), (34, c34v1k f34v1), (15, c15k f15)]) (pieceL 0 []) .leaf := by
  intro R x y K
  kernel_rfl
theorem c20_ok : ConOK Tryz.prog 20 c20 :=
  con_ok (fn := Tryz.f20) (code := fsub Tryz.f20 []) (by kernel_rfl) (by kernel_rfl) (by kernel_rfl) (by kernel_rfl) (cons_ok (l := [(34, c34), (34, c34v1), (15, c15)]) ⟨.inl c34_ok, .inl c34v1_ok, .inl c15_ok, trivial⟩) (orcs_ok' (l := []) (by kernel_rfl) trivial) (c20_says f34 f34v1 f15)

noncomputable def f4g (f12 : (R : Type) → Str → (Unit → Option R) → Option R) (f13 : (R : Type) → (Unit → Option R) → Option R) (f14 : (R : Type) → (Unit → Option R) → Option R) (f15 : (R : Type) → Str → (Unit → Option R) → Option R) (f16 : (R : Type) → (Unit → Option R) → Option R) (f17 : (R : Type) → (Unit → Option R) → Option R) (f18 : (R : Type) → (Unit → Option R) → Option R) (f19 : (R : Type) → (Unit → Option R) → Option R) (f20 : (R : Type) → (Unit → Option R) → (Unit → Option R) → Option R) (R : Type) (a1 : Str) (k0 : Unit → Option R) (k1 : Unit → Option R) : Option R :=
  f12 R a1 fun _ =>
  f13 R fun _ =>
  f14 R fun _ =>
  f15 R a1 fun _ =>
  f16 R fun _ =>
  f17 R fun _ =>
  f18 R fun _ =>
  f19 R fun _ =>
  f20 R
    (fun _ =>
      k0 ())
    (fun _ =>
      k1 ())
noncomputable def c4k (f : (R : Type) → Str → (Unit → Option R) → (Unit → Option R) → Option R) : Con := { args := [.sc (.s)], blks := [], shapes := [⟨Unit, fun r => (.c (.sc (.bool false)), [], 0)⟩, ⟨Unit, fun r => (.c (.sc (.bool true)), [], 0)⟩], F := fun R x y k => f R (x.1) (fun _ => k.1 ()) (fun _ => k.2.1 ()) }
noncomputable def f4 : (R : Type) → Str → (Unit → Option R) → (Unit → Option R) → Option R := f4g f12 f13 f14 f15 f16 f17 f18 f19 f20
noncomputable def c4 : Con := c4k f4
theorem c4_says (f12 : (R : Type) → Str → (Unit → Option R) → Option R) (f13 : (R : Type) → (Unit → Option R) → Option R) (f14 : (R : Type) → (Unit → Option R) → Option R) (f15 : (R : Type) → Str → (Unit → Option R) → Option R) (f16 : (R : Type) → (Unit → Option R) → Option R) (f17 : (R : Type) → (Unit → Option R) → Option R) (f18 : (R : Type) → (Unit → Option R) → Option R) (f19 : (R : Type) → (Unit → Option R) → Option R) (f20 : (R : Type) → (Unit → Option R) → (Unit → Option R) → Option R) : (c4k (f4g f12 f13 f14 f15 f16 f17 f18 f19 f20)).Says Tryz.prog Tryz.f4 (conL [(12, c12k f12), (13, c13k f13), (14, c14k f14), (15, c15k f15), (16, c16k f16), (17, c17k f17), (18, c18k f18), (19, c19k f19), (20, c20k f20)]) (pieceL 0 []) .leaf := by
  intro R x y K
  kernel_rfl
theorem c4_ok : ConOK Tryz.prog 4 c4 :=
  con_ok (fn := Tryz.f4) (code := fsub Tryz.f4 []) (by kernel_rfl) (by kernel_rfl) (by kernel_rfl) (by kernel_rfl) (cons_ok (l := [(12, c12), (13, c13), (14, c14), (15, c15), (16, c16), (17, c17), (18, c18), (19, c19), (20, c20)]) ⟨.inl c12_ok, .inl c13_ok, .inl c14_ok, .inl c15_ok, .inl c16_ok, .inl c17_ok, .inl c18_ok, .inl c19_ok, .inl c20_ok, trivial⟩) (orcs_ok' (l := []) (by kernel_rfl) trivial) (c4_says f12 f13 f14 f15 f16 f17 f18 f19 f20)
end Go.Ev
