/- Texts Psha, Psign, Pcert, CertAr, Htime, Lcert, Llib, Ufield, Upoint of this proof; printed names are shortened. -/
import Derived.Test.YtlomoioolngohaaGreatDoorP3
import Derived.Test.YtlomoioolngohaaGreatDoorP1
import Derived.Lib.ItoaNum
import Derived.Lib.Repeat
import Derived.KernelRfl
set_option linter.unusedVariables false
set_option linter.unusedSimpArgs false
set_option maxRecDepth 100000
set_option maxHeartbeats 2000000
namespace Go.Ev
noncomputable section
abbrev Z9c := (R : Type) → (Int → Int → Option R) → Option R
def Zsd (R : Type) (k0 : Int → Int → Option R) : Option R :=
 k0 0 64
def Z5p : Z9c := Zsd
abbrev Z3b := (R : Type) → Str → Int → (Int → Int → Str → Option R) → Option R
def Zmq (R : Type) (a1 : Str) (a2 : Int) (k0 : Int → Int → Str → Option R) : Option R :=
 gd (appB 0 a1.length 1) <|
 k0 0 a2 (([] : Str) ++ a1)
def Z3d : Z3b := Zmq
abbrev Z3c := (R : Type) → Str → Int → Str → (Int → Int → Str → Option R) → Option R
def Zf2 (R : Type) (a1 : Str) (a2 : Int) (a3 : Str) (k0 : Int → Int → Str → Option R) : Option R :=
 gd (appB a3.length a1.length 1) <|
 k0 0 a2 (a3 ++ a1)
def Z2a : Z3c := Zf2
abbrev Z4a := (R : Type) → ((List Int) → Option R) → Option R
def Znp (R : Type) (k0 : (List Int) → Option R) : Option R :=
 lett (((((((((((((((((((((((((((((((((((((((((((((((((((((((((((((((((((((((((((((((((List.replicate 80 (0 : Int)).set 0 4794697086780616226).set 1 8158064640168781261).set 2 13096744586834688815).set 3 16840607885511220156).set 4 4131703408338449720).set 5 6480981068601479193).set 6 10538285296894168987).set 7 12329834152419229976).set 8 15566598209576043074).set 9 1334009975649890238).set 10 2608012711638119052).set 11 6128411473006802146).set 12 8268148722764581231).set 13 9286055187155687089).set 14 11230858885718282805).set 15 13951009754708518548).set 16 16472876342353939154).set 17 17275323862435702243).set 18 1135362057144423861).set 19 2597628984639134821).set 20 3308224258029322869).set 21 5365058923640841347).set 22 6679025012923562964).set 23 8573033837759648693).set 24 10970295158949994411).set 25 12119686244451234320).set 26 12683024718118986047).set 27 13788192230050041572).set 28 14330467153632333762).set 29 15395433587784984357).set 30 489312712824947311).set 31 1452737877330783856).set 32 2861767655752347644).set 33 3322285676063803686).set 34 5560940570517711597).set 35 5996557281743188959).set 36 7280758554555802590).set 37 8532644243296465576).set 38 9350256976987008742).set 39 10552545826968843579).set 40 11727347734174303076).set 41 12113106623233404929).set 42 14000437183269869457).set 43 14369950271660146224).set 44 15101387698204529176).set 45 15463397548674623760).set 46 17586052441742319658).set 47 1182934255886127544).set 48 1847814050463011016).set 49 2177327727835720531).set 50 2830643537854262169).set 51 3796741975233480872).set 52 4115178125766777443).set 53 5681478168544905931).set 54 6601373596472566643).set 55 7507060721942968483).set 56 8399075790359081724).set 57 8693463985226723168).set 58 9568029438360202098).set 59 10144078919501101548).set 60 10430055236837252648).set 61 11840083180663258601).set 62 13761210420658862357).set 63 14299343276471374635).set 64 14566680578165727644).set 65 15097957966210449927).set 66 16922976911328602910).set 67 17689382322260857208).set 68 500013540394364858).set 69 748580250866718886).set 70 1242879168328830382).set 71 1977374033974150939).set 72 2944078676154940804).set 73 3659926193048069267).set 74 4368137639120453308).set 75 4836135668995329356).set 76 5532061633213252278).set 77 6448918945643986474).set 78 6902733635092675308).set 79 7801388544844847127) fun (v1 : List Int) =>
 k0 v1
def Z4u : Z4a := Znp
abbrev Z6x := (R : Type) → ((List Int) → Option R) → Option R
def Zv5 (R : Type) (k0 : (List Int) → Option R) : Option R :=
 lett (List.replicate 8 (0 : Int)) fun (v1 : List Int) =>
 lett (((((((((List.replicate 8 (0 : Int)).set 0 7640891576956012808).set 1 13503953896175478587).set 2 4354685564936845355).set 3 11912009170470909681).set 4 5840696475078001361).set 5 11170449401992604703).set 6 2270897969802886507).set 7 6620516959819538809) fun (v2 : List Int) =>
 k0 v2
def Z8m : Z6x := Zv5
def Zyx : StK := ⟨[(2, .sc (.ptr 0 0 0 0 0)), (13, .agg [.ints .u64 (some 8)]), (14, .sc (.i .i64))], [(true, [.one (.i .i64), .one (.i .i64), .ints .i64 (some 3), .ints .i64 (some 3), .ints .i64 (some 3), .ints .i64 (some 3), .one (.fn Zb [1]), .ints .u32 (some 8)]), (true, [.one (.ptr 2 0 0 0 0)]), (true, [.ints .u64 (some 80)])]⟩
def Zz5 : List PShape := [⟨Int × Int × (List Int) × (List Int) × (List Int) × (List Int) × (List Int) × (List Int), fun r => (.exit 0, ⟨[(2, .c (.sc (.ptr 0 0 0 0 0)))], [(0, ⟨true, [.one (.int .i64 r.1), .one (.int .i64 r.2.1), .ints .i64 r.2.2.1 3, .ints .i64 r.2.2.2.1 3, .ints .i64 r.2.2.2.2.1 3, .ints .i64 r.2.2.2.2.2.1 3, .one (.fn Zb [1]), .ints .u32 r.2.2.2.2.2.2.1 8]⟩), (1, ⟨true, [.one (.ptr 2 0 0 0 0)]⟩), (2, ⟨true, [.ints .u64 r.2.2.2.2.2.2.2 80]⟩)], 3⟩)⟩]
def Z13c (g0 : Z4a) (g1 : Z6x) (R : Type) (x8 : List Int) (x9 x10 x11 : Int) (x12 x13 x14 x15 x16 x17 : List Int) (next : (List Int) → Int → Int → Int → (List Int) → (List Int) → (List Int) → (List Int) → (List Int) → (List Int) → Option R) (k0 : Int → Int → (List Int) → (List Int) → (List Int) → (List Int) → (List Int) → (List Int) → Option R) : Option R :=
 br (ltI x9 8)
 (gd (inB x9 8) <|
 lett (shrI .u64 (x8.getD x9.toNat 0) 32) fun (v18 : Int) =>
 gd (inB x9 8) <|
 gd (Nat.blt x9.toNat 8) <|
 lett (x16.set x9.toNat (cvtI .u32 v18)) fun (v19 : List Int) =>
 next x8 (addI .i64 x9 1) x10 x11 x12 x13 x14 x15 v19 x17)
 (k0 x10 x11 x12 x13 x14 x15 x16 x17)
def Zsx (x8 : List Int) (x9 x10 x11 : Int) (x12 x13 x14 x15 x16 x17 : List Int) : Nat := 100000 + (x8.length + x9.toNat + x10.toNat + x11.toNat + x12.length + x13.length + x14.length + x15.length + x16.length + x17.length)
def Zkl (g0 : Z4a) (g1 : Z6x) : Piece := { T := Zyx, shapes := Zz5, step := fun R x next k => Z13c g0 g1 R (x.1.2.1.1) (x.1.2.2.1) (x.2.1.1) (x.2.1.2.1) (x.2.1.2.2.1) (x.2.1.2.2.2.1) (x.2.1.2.2.2.2.1) (x.2.1.2.2.2.2.2.1) (x.2.1.2.2.2.2.2.2.2.1) (x.2.2.2.1.1) (fun x8 x9 x10 x11 x12 x13 x14 x15 x16 x17 => next (((), (x8, ()), x9, ()), ((x10, x11, x12, x13, x14, x15, (), x16, ()), ((), ()), (x17, ()), ()))) (fun z0 z1 z2 z3 z4 z5 z6 z7 => k.1 (z0, z1, z2, z3, z4, z5, z6, z7)), fuel := fun x => Zsx (x.1.2.1.1) (x.1.2.2.1) (x.2.1.1) (x.2.1.2.1) (x.2.1.2.2.1) (x.2.1.2.2.2.1) (x.2.1.2.2.2.2.1) (x.2.1.2.2.2.2.2.1) (x.2.1.2.2.2.2.2.2.2.1) (x.2.2.2.1.1) }
def Z16z (g0 : Z4a) (g1 : Z6x) (R : Type) (x8 : List Int) (x9 x10 x11 : Int) (x12 x13 x14 x15 x16 x17 : List Int) (k0 : Int → Int → (List Int) → (List Int) → (List Int) → (List Int) → (List Int) → (List Int) → Option R) : Option R :=
 runP Zyx Zz5 (Zkl g0 g1).step R (Zsx x8 x9 x10 x11 x12 x13 x14 x15 x16 x17) (((), (x8, ()), x9, ()), ((x10, x11, x12, x13, x14, x15, (), x16, ()), ((), ()), (x17, ()), ())) (fun r => k0 (r.1) (r.2.1) (r.2.2.1) (r.2.2.2.1) (r.2.2.2.2.1) (r.2.2.2.2.2.1) (r.2.2.2.2.2.2.1) (r.2.2.2.2.2.2.2), ())
abbrev Zq5 := (R : Type) → (Int → Int → (List Int) → (List Int) → (List Int) → (List Int) → (List Int) → (List Int) → Option R) → Option R
def Z11v (g0 : Z4a) (g1 : Z6x) (R : Type) (k0 : Int → Int → (List Int) → (List Int) → (List Int) → (List Int) → (List Int) → (List Int) → Option R) : Option R :=
 g0 R fun r1 =>
 lett ((((List.replicate 3 (0 : Int)).set 0 7).set 1 18).set 2 3) fun (v2 : List Int) =>
 lett ((((List.replicate 3 (0 : Int)).set 0 17).set 1 19).set 2 10) fun (v3 : List Int) =>
 lett ((((List.replicate 3 (0 : Int)).set 0 6).set 1 11).set 2 25) fun (v4 : List Int) =>
 lett ((((List.replicate 3 (0 : Int)).set 0 2).set 1 13).set 2 22) fun (v5 : List Int) =>
 lett (List.replicate 8 (0 : Int)) fun (v6 : List Int) =>
 g1 R fun r7 =>
 Z16z g0 g1 R r7 0 32 64 v2 v3 v4 v5 v6 r1 fun y20 y21 y22 y23 y24 y25 y26 y27 =>
 k0 y20 y21 y22 y23 y24 y25 y26 y27
def Zxz : Zq5 := Z11v Z4u Z8m
abbrev Z8 := (R : Type) → Int → Int → (List Int) → (List Int) → (List Int) → (List Int) → (List Int) → (List Int) → (Int → Int → Int → (List Int) → (List Int) → (List Int) → (List Int) → (List Int) → (List Int) → Option R) → Option R
def Zeu (R : Type) (a1 a2 : Int) (a3 a4 a5 a6 a7 a8 : List Int) (k0 : Int → Int → Int → (List Int) → (List Int) → (List Int) → (List Int) → (List Int) → (List Int) → Option R) : Option R :=
 k0 (mulI .i64 2 a1) a1 a2 a3 a4 a5 a6 a7 a8
def Zx : Z8 := Zeu
abbrev Z35 := (R : Type) → Int → Int → Int → Int → (List Int) → (List Int) → (List Int) → (List Int) → (List Int) → (List Int) → (Int → Int → Int → (List Int) → (List Int) → (List Int) → (List Int) → (List Int) → (List Int) → Option R) → Option R
def Zfy (R : Type) (a1 a2 a3 a4 : Int) (a5 a6 a7 a8 a9 a10 : List Int) (k0 : Int → Int → Int → (List Int) → (List Int) → (List Int) → (List Int) → (List Int) → (List Int) → Option R) : Option R :=
 gd (leI 0 a2) <|
 gd (leI 0 (subI .i64 a3 a2)) <|
 lett (shlI .u32 a1 (subI .i64 a3 a2)) fun (v11 : Int) =>
 lett (orI .u32 (shrI .u32 a1 a2) v11) fun (v12 : Int) =>
 k0 v12 a3 a4 a5 a6 a7 a8 a9 a10
def Z4h : Z35 := Zfy
abbrev Zm := (R : Type) → Int → (List Int) → Int → Int → (List Int) → (List Int) → (List Int) → (List Int) → (List Int) → (List Int) → (Int → Int → Int → (List Int) → (List Int) → (List Int) → (List Int) → (List Int) → (List Int) → Option R) → Option R
def Zh0 (g0 : Z35) (R : Type) (a1 : Int) (a2 : List Int) (a3 a4 : Int) (a5 a6 a7 a8 a9 a10 : List Int) (k0 : Int → Int → Int → (List Int) → (List Int) → (List Int) → (List Int) → (List Int) → (List Int) → Option R) : Option R :=
 gd (leI 0 (a2.getD 2 0)) <|
 lett (shrI .u32 a1 (a2.getD 2 0)) fun (v11 : Int) =>
 g0 R a1 (a2.getD 0 0) a3 a4 a5 a6 a7 a8 a9 a10 fun r12 r13 r14 r15 r16 r17 r18 r19 r20 =>
 g0 R a1 (a2.getD 1 0) a3 a4 a5 a6 a7 a8 a9 a10 fun r21 r22 r23 r24 r25 r26 r27 r28 r29 =>
 lett (xorI .u32 (xorI .u32 r12 r21) v11) fun (v30 : Int) =>
 k0 v30 a3 a4 a5 a6 a7 a8 a9 a10
def Z1t : Zm := Zh0 Z4h
def Zdg : StK := ⟨[(0, .sc (.ptr 0 0 0 0 0)), (1, .sc (.s)), (5, .sc (.sl 3 1 none)), (6, .sc (.i .i64)), (7, .sc (.i .i64)), (20, .sc (.i .i64)), (21, .sc (.i .i64)), (26, .sc (.i .i64)), (27, .sc (.i .i64))], [(true, [.one (.i .i64), .one (.i .i64), .ints .i64 (some 3), .ints .i64 (some 3), .ints .i64 (some 3), .ints .i64 (some 3), .one (.fn Zb [1]), .ints .u32 (some 8)]), (false, [.one (.ptr 2 0 0 0 0)]), (true, [.ints .u64 (some 80)]), (true, [.ints .u32 none])]⟩
def Zdb : List PShape := [⟨Str × Int × Int × Int × Int × Int × (List Int) × (List Int) × (List Int) × (List Int) × (List Int) × (List Int) × (List Int), fun r => (.exit 2, ⟨[(0, .c (.sc (.ptr 0 0 0 0 0))), (1, .c (.sc (.str r.1))), (5, .c (.sc (.slice 3 1 none none))), (6, .c (.sc (.int .i64 r.2.1))), (20, .c (.sc (.int .i64 r.2.2.1))), (21, .c (.sc (.int .i64 r.2.2.2.1)))], [(0, ⟨true, [.one (.int .i64 r.2.2.2.2.1), .one (.int .i64 r.2.2.2.2.2.1), .ints .i64 r.2.2.2.2.2.2.1 3, .ints .i64 r.2.2.2.2.2.2.2.1 3, .ints .i64 r.2.2.2.2.2.2.2.2.1 3, .ints .i64 r.2.2.2.2.2.2.2.2.2.1 3, .one (.fn Zb [1]), .ints .u32 r.2.2.2.2.2.2.2.2.2.2.1 8]⟩), (1, ⟨false, [.one (.ptr 2 0 0 0 0)]⟩), (2, ⟨true, [.ints .u64 r.2.2.2.2.2.2.2.2.2.2.2.1 80]⟩), (3, ⟨true, [.ints .u32 r.2.2.2.2.2.2.2.2.2.2.2.2 r.2.2.2.2.2.2.2.2.2.2.2.2.length]⟩)], 4⟩)⟩]
def Zlf (g0 : Zm) (R : Type) (x38 : Str) (x39 x40 x41 x42 x43 x44 x45 x46 : Int) (x47 x48 x49 x50 x51 x52 x53 : List Int) (next : Str → Int → Int → Int → Int → Int → Int → Int → Int → (List Int) → (List Int) → (List Int) → (List Int) → (List Int) → (List Int) → (List Int) → Option R) (k0 : Str → Int → Int → Int → Int → Int → (List Int) → (List Int) → (List Int) → (List Int) → (List Int) → (List Int) → (List Int) → Option R) : Option R :=
 br (ltI x44 x43)
 (gd (inB x40 x53.length) <|
 lett (shlI .u32 (x53.getD x40.toNat 0) 8) fun (v54 : Int) =>
 lett (addI .i64 (mulI .i64 x39 x40) x44) fun (v55 : Int) =>
 gd (inB v55 x38.length) <|
 lett (((x38.getD v55.toNat 0).toNat : Int)) fun (v56 : Int) =>
 lett (orI .u32 v54 (cvtI .u32 v56)) fun (v57 : Int) =>
 gd (inB x40 x53.length) <|
 next x38 x39 x40 x41 x42 x43 (addI .i64 x44 1) x45 x46 x47 x48 x49 x50 x51 x52 (x53.set x40.toNat v57))
 (k0 x38 x39 x41 x42 x45 x46 x47 x48 x49 x50 x51 x52 x53)
def Zb3 (x38 : Str) (x39 x40 x41 x42 x43 x44 x45 x46 : Int) (x47 x48 x49 x50 x51 x52 x53 : List Int) : Nat := 100000 + (x38.length + x39.toNat + x40.toNat + x41.toNat + x42.toNat + x43.toNat + x44.toNat + x45.toNat + x46.toNat + x47.length + x48.length + x49.length + x50.length + x51.length + x52.length + x53.length)
def Z4y (g0 : Zm) : Piece := { T := Zdg, shapes := Zdb, step := fun R x next k => Zlf g0 R (x.1.2.1) (x.1.2.2.2.1) (x.1.2.2.2.2.1) (x.1.2.2.2.2.2.1) (x.1.2.2.2.2.2.2.1) (x.1.2.2.2.2.2.2.2.1) (x.1.2.2.2.2.2.2.2.2.1) (x.2.1.1) (x.2.1.2.1) (x.2.1.2.2.1) (x.2.1.2.2.2.1) (x.2.1.2.2.2.2.1) (x.2.1.2.2.2.2.2.1) (x.2.1.2.2.2.2.2.2.2.1) (x.2.2.2.1.1) (x.2.2.2.2.1.1) (fun x38 x39 x40 x41 x42 x43 x44 x45 x46 x47 x48 x49 x50 x51 x52 x53 => next (((), x38, (), x39, x40, x41, x42, x43, x44, ()), ((x45, x46, x47, x48, x49, x50, (), x51, ()), ((), ()), (x52, ()), (x53, ()), ()))) (fun z0 z1 z2 z3 z4 z5 z6 z7 z8 z9 z10 z11 z12 => k.1 (z0, z1, z2, z3, z4, z5, z6, z7, z8, z9, z10, z11, z12)), fuel := fun x => Zb3 (x.1.2.1) (x.1.2.2.2.1) (x.1.2.2.2.2.1) (x.1.2.2.2.2.2.1) (x.1.2.2.2.2.2.2.1) (x.1.2.2.2.2.2.2.2.1) (x.1.2.2.2.2.2.2.2.2.1) (x.2.1.1) (x.2.1.2.1) (x.2.1.2.2.1) (x.2.1.2.2.2.1) (x.2.1.2.2.2.2.1) (x.2.1.2.2.2.2.2.1) (x.2.1.2.2.2.2.2.2.2.1) (x.2.2.2.1.1) (x.2.2.2.2.1.1) }
def Zpd (g0 : Zm) (R : Type) (x38 : Str) (x39 x40 x41 x42 x43 x44 x45 x46 : Int) (x47 x48 x49 x50 x51 x52 x53 : List Int) (k0 : Str → Int → Int → Int → Int → Int → (List Int) → (List Int) → (List Int) → (List Int) → (List Int) → (List Int) → (List Int) → Option R) : Option R :=
 runP Zdg Zdb (Z4y g0).step R (Zb3 x38 x39 x40 x41 x42 x43 x44 x45 x46 x47 x48 x49 x50 x51 x52 x53) (((), x38, (), x39, x40, x41, x42, x43, x44, ()), ((x45, x46, x47, x48, x49, x50, (), x51, ()), ((), ()), (x52, ()), (x53, ()), ())) (fun r => k0 (r.1) (r.2.1) (r.2.2.1) (r.2.2.2.1) (r.2.2.2.2.1) (r.2.2.2.2.2.1) (r.2.2.2.2.2.2.1) (r.2.2.2.2.2.2.2.1) (r.2.2.2.2.2.2.2.2.1) (r.2.2.2.2.2.2.2.2.2.1) (r.2.2.2.2.2.2.2.2.2.2.1) (r.2.2.2.2.2.2.2.2.2.2.2.1) (r.2.2.2.2.2.2.2.2.2.2.2.2), ())
def Zdc : StK := ⟨[(0, .sc (.ptr 0 0 0 0 0)), (1, .sc (.s)), (5, .sc (.sl 3 1 none)), (6, .sc (.i .i64)), (20, .sc (.i .i64)), (21, .sc (.i .i64))], [(true, [.one (.i .i64), .one (.i .i64), .ints .i64 (some 3), .ints .i64 (some 3), .ints .i64 (some 3), .ints .i64 (some 3), .one (.fn Zb [1]), .ints .u32 (some 8)]), (false, [.one (.ptr 2 0 0 0 0)]), (true, [.ints .u64 (some 80)]), (true, [.ints .u32 none])]⟩
def Zd5 : List PShape := [⟨Str × Int × Int × Int × Int × Int × (List Int) × (List Int) × (List Int) × (List Int) × (List Int) × (List Int) × (List Int), fun r => (.normal, ⟨[(0, .c (.sc (.ptr 0 0 0 0 0))), (1, .c (.sc (.str r.1))), (5, .c (.sc (.slice 3 1 none none))), (6, .c (.sc (.int .i64 r.2.1))), (20, .c (.sc (.int .i64 r.2.2.1))), (21, .c (.sc (.int .i64 r.2.2.2.1)))], [(0, ⟨true, [.one (.int .i64 r.2.2.2.2.1), .one (.int .i64 r.2.2.2.2.2.1), .ints .i64 r.2.2.2.2.2.2.1 3, .ints .i64 r.2.2.2.2.2.2.2.1 3, .ints .i64 r.2.2.2.2.2.2.2.2.1 3, .ints .i64 r.2.2.2.2.2.2.2.2.2.1 3, .one (.fn Zb [1]), .ints .u32 r.2.2.2.2.2.2.2.2.2.2.1 8]⟩), (1, ⟨false, [.one (.ptr 2 0 0 0 0)]⟩), (2, ⟨true, [.ints .u64 r.2.2.2.2.2.2.2.2.2.2.2.1 80]⟩), (3, ⟨true, [.ints .u32 r.2.2.2.2.2.2.2.2.2.2.2.2 r.2.2.2.2.2.2.2.2.2.2.2.2.length]⟩)], 4⟩)⟩, ⟨Str × Int × Int × Int × Int × Int × (List Int) × (List Int) × (List Int) × (List Int) × (List Int) × (List Int) × (List Int) × Nat, fun r => (.normal, ⟨[(0, .c (.sc (.ptr 0 0 0 0 0))), (1, .c (.sc (.str r.1))), (5, .c (.sc (.slice 3 1 none none))), (6, .c (.sc (.int .i64 r.2.1))), (20, .c (.sc (.int .i64 r.2.2.1))), (21, .c (.sc (.int .i64 r.2.2.2.1)))], [(0, ⟨true, [.one (.int .i64 r.2.2.2.2.1), .one (.int .i64 r.2.2.2.2.2.1), .ints .i64 r.2.2.2.2.2.2.1 3, .ints .i64 r.2.2.2.2.2.2.2.1 3, .ints .i64 r.2.2.2.2.2.2.2.2.1 3, .ints .i64 r.2.2.2.2.2.2.2.2.2.1 3, .one (.fn Zb [1]), .ints .u32 r.2.2.2.2.2.2.2.2.2.2.1 8]⟩), (1, ⟨false, [.one (.ptr 2 0 0 0 0)]⟩), (2, ⟨true, [.ints .u64 r.2.2.2.2.2.2.2.2.2.2.2.1 80]⟩), (3, ⟨true, [.ints .u32 r.2.2.2.2.2.2.2.2.2.2.2.2.1 r.2.2.2.2.2.2.2.2.2.2.2.2.2]⟩)], 4⟩)⟩]
def Zli (g0 : Zm) (R : Type) (x25 : Str) (x26 x27 x28 x29 x30 : Int) (x31 x32 x33 x34 x35 x36 x37 : List Int) (k0 : Str → Int → Int → Int → Int → Int → (List Int) → (List Int) → (List Int) → (List Int) → (List Int) → (List Int) → (List Int) → Option R) (k1 : Str → Int → Int → Int → Int → Int → (List Int) → (List Int) → (List Int) → (List Int) → (List Int) → (List Int) → (List Int) → Nat → Option R) : Option R :=
 br (ltI x28 16)
 (Zpd g0 R x25 x26 x28 x27 x28 x26 0 x29 x30 x31 x32 x33 x34 x35 x36 x37 fun y58 y59 y60 y61 y62 y63 y64 y65 y66 y67 y68 y69 y70 =>
 k0 y58 y59 y60 y61 y62 y63 y64 y65 y66 y67 y68 y69 y70)
 (gd (inB (subI .i64 x28 16) x37.length) <|
 lett (x37.getD ((subI .i64 x28 16).toNat) 0) fun (v71 : Int) =>
 gd (inB (subI .i64 x28 7) x37.length) <|
 lett (x37.getD ((subI .i64 x28 7).toNat) 0) fun (v72 : Int) =>
 gd (inB (subI .i64 x28 15) x37.length) <|
 lett (x37.getD ((subI .i64 x28 15).toNat) 0) fun (v73 : Int) =>
 gd (inB (subI .i64 x28 2) x37.length) <|
 lett (x37.getD ((subI .i64 x28 2).toNat) 0) fun (v74 : Int) =>
 g0 R v73 x31 x29 x30 x31 x32 x33 x34 x35 x36 fun r75 r76 r77 r78 r79 r80 r81 r82 r83 =>
 lett (addI .u32 (addI .u32 v71 v72) r75) fun (v84 : Int) =>
 g0 R v74 x32 x29 x30 x31 x32 x33 x34 x35 x36 fun r85 r86 r87 r88 r89 r90 r91 r92 r93 =>
 gd (inB x28 x37.length) <|
 lett (x37.set x28.toNat (addI .u32 v84 r85)) fun (v94 : List Int) =>
 k1 x25 x26 x27 x28 x29 x30 x31 x32 x33 x34 x35 x36 v94 x37.length)
def Zap (x25 : Str) (x26 x27 x28 x29 x30 : Int) (x31 x32 x33 x34 x35 x36 x37 : List Int) : Nat := 1
def Z50 (g0 : Zm) : Piece := { T := Zdc, shapes := Zd5, step := fun R x next k => Zli g0 R (x.1.2.1) (x.1.2.2.2.1) (x.1.2.2.2.2.1) (x.1.2.2.2.2.2.1) (x.2.1.1) (x.2.1.2.1) (x.2.1.2.2.1) (x.2.1.2.2.2.1) (x.2.1.2.2.2.2.1) (x.2.1.2.2.2.2.2.1) (x.2.1.2.2.2.2.2.2.2.1) (x.2.2.2.1.1) (x.2.2.2.2.1.1) (fun z0 z1 z2 z3 z4 z5 z6 z7 z8 z9 z10 z11 z12 => k.1 (z0, z1, z2, z3, z4, z5, z6, z7, z8, z9, z10, z11, z12)) (fun z0 z1 z2 z3 z4 z5 z6 z7 z8 z9 z10 z11 z12 z13 => k.2.1 (z0, z1, z2, z3, z4, z5, z6, z7, z8, z9, z10, z11, z12, z13)), fuel := fun x => Zap (x.1.2.1) (x.1.2.2.2.1) (x.1.2.2.2.2.1) (x.1.2.2.2.2.2.1) (x.2.1.1) (x.2.1.2.1) (x.2.1.2.2.1) (x.2.1.2.2.2.1) (x.2.1.2.2.2.2.1) (x.2.1.2.2.2.2.2.1) (x.2.1.2.2.2.2.2.2.2.1) (x.2.2.2.1.1) (x.2.2.2.2.1.1) }
def Zpz (g0 : Zm) (R : Type) (x25 : Str) (x26 x27 x28 x29 x30 : Int) (x31 x32 x33 x34 x35 x36 x37 : List Int) (k0 : Str → Int → Int → Int → Int → Int → (List Int) → (List Int) → (List Int) → (List Int) → (List Int) → (List Int) → (List Int) → Option R) (k1 : Str → Int → Int → Int → Int → Int → (List Int) → (List Int) → (List Int) → (List Int) → (List Int) → (List Int) → (List Int) → Nat → Option R) : Option R :=
 runP Zdc Zd5 (Z50 g0).step R (Zap x25 x26 x27 x28 x29 x30 x31 x32 x33 x34 x35 x36 x37) (((), x25, (), x26, x27, x28, ()), ((x29, x30, x31, x32, x33, x34, (), x35, ()), ((), ()), (x36, ()), (x37, ()), ())) (fun r => k0 (r.1) (r.2.1) (r.2.2.1) (r.2.2.2.1) (r.2.2.2.2.1) (r.2.2.2.2.2.1) (r.2.2.2.2.2.2.1) (r.2.2.2.2.2.2.2.1) (r.2.2.2.2.2.2.2.2.1) (r.2.2.2.2.2.2.2.2.2.1) (r.2.2.2.2.2.2.2.2.2.2.1) (r.2.2.2.2.2.2.2.2.2.2.2.1) (r.2.2.2.2.2.2.2.2.2.2.2.2), fun r => k1 (r.1) (r.2.1) (r.2.2.1) (r.2.2.2.1) (r.2.2.2.2.1) (r.2.2.2.2.2.1) (r.2.2.2.2.2.2.1) (r.2.2.2.2.2.2.2.1) (r.2.2.2.2.2.2.2.2.1) (r.2.2.2.2.2.2.2.2.2.1) (r.2.2.2.2.2.2.2.2.2.2.1) (r.2.2.2.2.2.2.2.2.2.2.2.1) (r.2.2.2.2.2.2.2.2.2.2.2.2.1) (r.2.2.2.2.2.2.2.2.2.2.2.2.2), ())
def Zd7 : StK := ⟨[(0, .sc (.ptr 0 0 0 0 0)), (1, .sc (.s)), (5, .sc (.sl 3 1 none)), (6, .sc (.i .i64)), (20, .sc (.i .i64)), (21, .sc (.i .i64))], [(true, [.one (.i .i64), .one (.i .i64), .ints .i64 (some 3), .ints .i64 (some 3), .ints .i64 (some 3), .ints .i64 (some 3), .one (.fn Zb [1]), .ints .u32 (some 8)]), (false, [.one (.ptr 2 0 0 0 0)]), (true, [.ints .u64 (some 80)]), (true, [.ints .u32 none])]⟩
def Zde : List PShape := [⟨Int × Int × (List Int) × (List Int) × (List Int) × (List Int) × (List Int) × (List Int) × (List Int), fun r => (.exit 0, ⟨[(5, .c (.sc (.slice 3 1 none none)))], [(0, ⟨true, [.one (.int .i64 r.1), .one (.int .i64 r.2.1), .ints .i64 r.2.2.1 3, .ints .i64 r.2.2.2.1 3, .ints .i64 r.2.2.2.2.1 3, .ints .i64 r.2.2.2.2.2.1 3, .one (.fn Zb [1]), .ints .u32 r.2.2.2.2.2.2.1 8]⟩), (1, ⟨false, [.one (.ptr 2 0 0 0 0)]⟩), (2, ⟨true, [.ints .u64 r.2.2.2.2.2.2.2.1 80]⟩), (3, ⟨true, [.ints .u32 r.2.2.2.2.2.2.2.2 r.2.2.2.2.2.2.2.2.length]⟩)], 4⟩)⟩]
def Zkv (g0 : Zm) (R : Type) (x12 : Str) (x13 x14 x15 x16 x17 : Int) (x18 x19 x20 x21 x22 x23 x24 : List Int) (next : Str → Int → Int → Int → Int → Int → (List Int) → (List Int) → (List Int) → (List Int) → (List Int) → (List Int) → (List Int) → Option R) (k0 : Int → Int → (List Int) → (List Int) → (List Int) → (List Int) → (List Int) → (List Int) → (List Int) → Option R) : Option R :=
 br (ltI x15 x14)
 (Zpz g0 R x12 x13 x14 x15 x16 x17 x18 x19 x20 x21 x22 x23 x24
 (fun y95 y96 y97 y98 y99 y100 y101 y102 y103 y104 y105 y106 y107 =>
 next y95 y96 y97 (addI .i64 y98 1) y99 y100 y101 y102 y103 y104 y105 y106 y107)
 (fun y108 y109 y110 y111 y112 y113 y114 y115 y116 y117 y118 y119 y120 y121 =>
 next y108 y109 y110 (addI .i64 y111 1) y112 y113 y114 y115 y116 y117 y118 y119 y120))
 (k0 x16 x17 x18 x19 x20 x21 x22 x23 x24)
def Zb9 (x12 : Str) (x13 x14 x15 x16 x17 : Int) (x18 x19 x20 x21 x22 x23 x24 : List Int) : Nat := 100000 + (x12.length + x13.toNat + x14.toNat + x15.toNat + x16.toNat + x17.toNat + x18.length + x19.length + x20.length + x21.length + x22.length + x23.length + x24.length)
def Z54 (g0 : Zm) : Piece := { T := Zd7, shapes := Zde, step := fun R x next k => Zkv g0 R (x.1.2.1) (x.1.2.2.2.1) (x.1.2.2.2.2.1) (x.1.2.2.2.2.2.1) (x.2.1.1) (x.2.1.2.1) (x.2.1.2.2.1) (x.2.1.2.2.2.1) (x.2.1.2.2.2.2.1) (x.2.1.2.2.2.2.2.1) (x.2.1.2.2.2.2.2.2.2.1) (x.2.2.2.1.1) (x.2.2.2.2.1.1) (fun x12 x13 x14 x15 x16 x17 x18 x19 x20 x21 x22 x23 x24 => next (((), x12, (), x13, x14, x15, ()), ((x16, x17, x18, x19, x20, x21, (), x22, ()), ((), ()), (x23, ()), (x24, ()), ()))) (fun z0 z1 z2 z3 z4 z5 z6 z7 z8 => k.1 (z0, z1, z2, z3, z4, z5, z6, z7, z8)), fuel := fun x => Zb9 (x.1.2.1) (x.1.2.2.2.1) (x.1.2.2.2.2.1) (x.1.2.2.2.2.2.1) (x.2.1.1) (x.2.1.2.1) (x.2.1.2.2.1) (x.2.1.2.2.2.1) (x.2.1.2.2.2.2.1) (x.2.1.2.2.2.2.2.1) (x.2.1.2.2.2.2.2.2.2.1) (x.2.2.2.1.1) (x.2.2.2.2.1.1) }
def Zp1 (g0 : Zm) (R : Type) (x12 : Str) (x13 x14 x15 x16 x17 : Int) (x18 x19 x20 x21 x22 x23 x24 : List Int) (k0 : Int → Int → (List Int) → (List Int) → (List Int) → (List Int) → (List Int) → (List Int) → (List Int) → Option R) : Option R :=
 runP Zd7 Zde (Z54 g0).step R (Zb9 x12 x13 x14 x15 x16 x17 x18 x19 x20 x21 x22 x23 x24) (((), x12, (), x13, x14, x15, ()), ((x16, x17, x18, x19, x20, x21, (), x22, ()), ((), ()), (x23, ()), (x24, ()), ())) (fun r => k0 (r.1) (r.2.1) (r.2.2.1) (r.2.2.2.1) (r.2.2.2.2.1) (r.2.2.2.2.2.1) (r.2.2.2.2.2.2.1) (r.2.2.2.2.2.2.2.1) (r.2.2.2.2.2.2.2.2), ())
abbrev Zy := (R : Type) → Str → Int → Int → (List Int) → (List Int) → (List Int) → (List Int) → (List Int) → (List Int) → (Int → Int → (List Int) → (List Int) → (List Int) → (List Int) → (List Int) → (List Int) → (List Int) → Option R) → Option R
def Zer (g0 : Zm) (R : Type) (a1 : Str) (a2 a3 : Int) (a4 a5 a6 a7 a8 a9 : List Int) (k0 : Int → Int → (List Int) → (List Int) → (List Int) → (List Int) → (List Int) → (List Int) → (List Int) → Option R) : Option R :=
 gd (makeB a3 4) <|
 gd (leB a3 a3.toNat) <|
 lett (List.replicate a3.toNat (0 : Int)) fun (v10 : List Int) =>
 lett (((v10.length : Nat) : Int)) fun (v11 : Int) =>
 Zp1 g0 R a1 (quoI .i64 a2 8) v11 0 a2 a3 a4 a5 a6 a7 a8 a9 v10 fun y122 y123 y124 y125 y126 y127 y128 y129 y130 =>
 k0 y122 y123 y124 y125 y126 y127 y128 y129 y130
def Z2c : Zy := Zer Z1t
abbrev Zz := (R : Type) → Int → (List Int) → Int → Int → (List Int) → (List Int) → (List Int) → (List Int) → (List Int) → (List Int) → (Int → Int → Int → (List Int) → (List Int) → (List Int) → (List Int) → (List Int) → (List Int) → Option R) → Option R
def Zeo (g0 : Z35) (R : Type) (a1 : Int) (a2 : List Int) (a3 a4 : Int) (a5 a6 a7 a8 a9 a10 : List Int) (k0 : Int → Int → Int → (List Int) → (List Int) → (List Int) → (List Int) → (List Int) → (List Int) → Option R) : Option R :=
 g0 R a1 (a2.getD 0 0) a3 a4 a5 a6 a7 a8 a9 a10 fun r11 r12 r13 r14 r15 r16 r17 r18 r19 =>
 g0 R a1 (a2.getD 1 0) a3 a4 a5 a6 a7 a8 a9 a10 fun r20 r21 r22 r23 r24 r25 r26 r27 r28 =>
 g0 R a1 (a2.getD 2 0) a3 a4 a5 a6 a7 a8 a9 a10 fun r29 r30 r31 r32 r33 r34 r35 r36 r37 =>
 lett (xorI .u32 (xorI .u32 r11 r20) r29) fun (v38 : Int) =>
 k0 v38 a3 a4 a5 a6 a7 a8 a9 a10
def Z2b : Zz := Zeo Z4h
abbrev Z22 := (R : Type) → Int → (List Int) → (Int → (List Int) → Option R) → Option R
def Zqi (R : Type) (a1 : Int) (a2 : List Int) (k0 : Int → (List Int) → Option R) : Option R :=
 gd (inB a1 80) <|
 lett (shrI .u64 (a2.getD a1.toNat 0) 32) fun (v3 : Int) =>
 k0 (cvtI .u32 v3) a2
def Z5e : Z22 := Zqi
def Zd6 : StK := ⟨[(0, .sc (.ptr 0 0 0 0 0)), (4, .sc (.ptr 3 0 0 0 0)), (6, .sc (.ptr 4 0 0 0 0)), (7, .sc (.ptr 5 0 0 0 0)), (18, .sc (.sl 6 1 none)), (19, .sc (.i .i64)), (20, .sc (.i .i64))], [(true, [.one (.i .i64), .one (.i .i64), .ints .i64 (some 3), .ints .i64 (some 3), .ints .i64 (some 3), .ints .i64 (some 3), .one (.fn Zb [1]), .ints .u32 (some 8)]), (false, [.one (.ptr 2 0 0 0 0)]), (true, [.ints .u64 (some 80)]), (true, [.ints .u32 (some 8)]), (true, [.ints .u32 (some 8)]), (true, [.ints .u32 (some 8)]), (true, [.ints .u32 none])]⟩
def Zd4 : List PShape := [⟨Int × Int × (List Int) × (List Int) × (List Int) × (List Int) × (List Int) × (List Int) × (List Int) × (List Int) × (List Int), fun r => (.exit 0, ⟨[(4, .c (.sc (.ptr 3 0 0 0 0))), (6, .c (.sc (.ptr 4 0 0 0 0))), (7, .c (.sc (.ptr 5 0 0 0 0)))], [(0, ⟨true, [.one (.int .i64 r.1), .one (.int .i64 r.2.1), .ints .i64 r.2.2.1 3, .ints .i64 r.2.2.2.1 3, .ints .i64 r.2.2.2.2.1 3, .ints .i64 r.2.2.2.2.2.1 3, .one (.fn Zb [1]), .ints .u32 r.2.2.2.2.2.2.1 8]⟩), (1, ⟨false, [.one (.ptr 2 0 0 0 0)]⟩), (2, ⟨true, [.ints .u64 r.2.2.2.2.2.2.2.1 80]⟩), (3, ⟨true, [.ints .u32 r.2.2.2.2.2.2.2.2.1 8]⟩), (4, ⟨true, [.ints .u32 r.2.2.2.2.2.2.2.2.2.1 8]⟩), (5, ⟨true, [.ints .u32 r.2.2.2.2.2.2.2.2.2.2 8]⟩)], 6⟩)⟩]
def Zlb (g0 : Zy) (g1 : Zz) (g2 : Z22) (R : Type) (x23 x24 x25 x26 : Int) (x27 x28 x29 x30 x31 x32 x33 x34 x35 x36 : List Int) (next : Int → Int → Int → Int → (List Int) → (List Int) → (List Int) → (List Int) → (List Int) → (List Int) → (List Int) → (List Int) → (List Int) → (List Int) → Option R) (k0 : Int → Int → (List Int) → (List Int) → (List Int) → (List Int) → (List Int) → (List Int) → (List Int) → (List Int) → (List Int) → Option R) : Option R :=
 br (ltI x24 x23)
 (gd (inB x24 x36.length) <|
 lett (andI .u32 (x35.getD 4 0) (x35.getD 5 0)) fun (v37 : Int) =>
 lett (andI .u32 (notI .u32 (x35.getD 4 0)) (x35.getD 6 0)) fun (v38 : Int) =>
 g1 R (x35.getD 4 0) x29 x25 x26 x27 x28 x29 x30 x31 x32 fun r39 r40 r41 r42 r43 r44 r45 r46 r47 =>
 lett (addI .u32 (x35.getD 7 0) r39) fun (v48 : Int) =>
 lett (addI .u32 v48 (xorI .u32 v37 v38)) fun (v49 : Int) =>
 g2 R x24 x32 fun r50 r51 =>
 lett (addI .u32 (addI .u32 v49 r50) (x36.getD x24.toNat 0)) fun (v52 : Int) =>
 lett (andI .u32 (x35.getD 0 0) (x35.getD 1 0)) fun (v53 : Int) =>
 lett (andI .u32 (x35.getD 0 0) (x35.getD 2 0)) fun (v54 : Int) =>
 lett (andI .u32 (x35.getD 1 0) (x35.getD 2 0)) fun (v55 : Int) =>
 lett (xorI .u32 (xorI .u32 v53 v54) v55) fun (v56 : Int) =>
 g1 R (x35.getD 0 0) x30 x25 x26 x27 x28 x29 x30 x31 x32 fun r57 r58 r59 r60 r61 r62 r63 r64 r65 =>
 lett (addI .u32 v52 (addI .u32 r57 v56)) fun (v66 : Int) =>
 lett (addI .u32 (x35.getD 3 0) v52) fun (v67 : Int) =>
 lett (((((((((List.replicate 8 (0 : Int)).set 0 v66).set 1 (x35.getD 0 0)).set 2 (x35.getD 1 0)).set 3 (x35.getD 2 0)).set 4 v67).set 5 (x35.getD 4 0)).set 6 (x35.getD 5 0)).set 7 (x35.getD 6 0)) fun (v68 : List Int) =>
 next x23 (addI .i64 x24 1) x25 x26 x27 x28 x29 x30 x31 x32 x33 x34 v68 x36)
 (k0 x25 x26 x27 x28 x29 x30 x31 x32 x33 x34 x35)
def Zb1 (x23 x24 x25 x26 : Int) (x27 x28 x29 x30 x31 x32 x33 x34 x35 x36 : List Int) : Nat := 100000 + (x23.toNat + x24.toNat + x25.toNat + x26.toNat + x27.length + x28.length + x29.length + x30.length + x31.length + x32.length + x33.length + x34.length + x35.length + x36.length)
def Z4x (g0 : Zy) (g1 : Zz) (g2 : Z22) : Piece := { T := Zd6, shapes := Zd4, step := fun R x next k => Zlb g0 g1 g2 R (x.1.2.2.2.2.2.1) (x.1.2.2.2.2.2.2.1) (x.2.1.1) (x.2.1.2.1) (x.2.1.2.2.1) (x.2.1.2.2.2.1) (x.2.1.2.2.2.2.1) (x.2.1.2.2.2.2.2.1) (x.2.1.2.2.2.2.2.2.2.1) (x.2.2.2.1.1) (x.2.2.2.2.1.1) (x.2.2.2.2.2.1.1) (x.2.2.2.2.2.2.1.1) (x.2.2.2.2.2.2.2.1.1) (fun x23 x24 x25 x26 x27 x28 x29 x30 x31 x32 x33 x34 x35 x36 => next (((), (), (), (), (), x23, x24, ()), ((x25, x26, x27, x28, x29, x30, (), x31, ()), ((), ()), (x32, ()), (x33, ()), (x34, ()), (x35, ()), (x36, ()), ()))) (fun z0 z1 z2 z3 z4 z5 z6 z7 z8 z9 z10 => k.1 (z0, z1, z2, z3, z4, z5, z6, z7, z8, z9, z10)), fuel := fun x => Zb1 (x.1.2.2.2.2.2.1) (x.1.2.2.2.2.2.2.1) (x.2.1.1) (x.2.1.2.1) (x.2.1.2.2.1) (x.2.1.2.2.2.1) (x.2.1.2.2.2.2.1) (x.2.1.2.2.2.2.2.1) (x.2.1.2.2.2.2.2.2.2.1) (x.2.2.2.1.1) (x.2.2.2.2.1.1) (x.2.2.2.2.2.1.1) (x.2.2.2.2.2.2.1.1) (x.2.2.2.2.2.2.2.1.1) }
def Zoz (g0 : Zy) (g1 : Zz) (g2 : Z22) (R : Type) (x23 x24 x25 x26 : Int) (x27 x28 x29 x30 x31 x32 x33 x34 x35 x36 : List Int) (k0 : Int → Int → (List Int) → (List Int) → (List Int) → (List Int) → (List Int) → (List Int) → (List Int) → (List Int) → (List Int) → Option R) : Option R :=
 runP Zd6 Zd4 (Z4x g0 g1 g2).step R (Zb1 x23 x24 x25 x26 x27 x28 x29 x30 x31 x32 x33 x34 x35 x36) (((), (), (), (), (), x23, x24, ()), ((x25, x26, x27, x28, x29, x30, (), x31, ()), ((), ()), (x32, ()), (x33, ()), (x34, ()), (x35, ()), (x36, ()), ())) (fun r => k0 (r.1) (r.2.1) (r.2.2.1) (r.2.2.2.1) (r.2.2.2.2.1) (r.2.2.2.2.2.1) (r.2.2.2.2.2.2.1) (r.2.2.2.2.2.2.2.1) (r.2.2.2.2.2.2.2.2.1) (r.2.2.2.2.2.2.2.2.2.1) (r.2.2.2.2.2.2.2.2.2.2), ())
def Zdh : StK := ⟨[(4, .sc (.ptr 3 0 0 0 0)), (6, .sc (.ptr 4 0 0 0 0)), (7, .sc (.ptr 5 0 0 0 0)), (103, .sc (.i .i64))], [(true, [.one (.i .i64), .one (.i .i64), .ints .i64 (some 3), .ints .i64 (some 3), .ints .i64 (some 3), .ints .i64 (some 3), .one (.fn Zb [1]), .ints .u32 (some 8)]), (false, [.one (.ptr 2 0 0 0 0)]), (true, [.ints .u64 (some 80)]), (true, [.ints .u32 (some 8)]), (true, [.ints .u32 (some 8)]), (true, [.ints .u32 (some 8)])]⟩
def Zd3 : List PShape := [⟨Int × Int × (List Int) × (List Int) × (List Int) × (List Int) × (List Int) × (List Int) × (List Int) × (List Int), fun r => (.exit 2, ⟨[(4, .c (.sc (.ptr 3 0 0 0 0))), (6, .c (.sc (.ptr 4 0 0 0 0)))], [(0, ⟨true, [.one (.int .i64 r.1), .one (.int .i64 r.2.1), .ints .i64 r.2.2.1 3, .ints .i64 r.2.2.2.1 3, .ints .i64 r.2.2.2.2.1 3, .ints .i64 r.2.2.2.2.2.1 3, .one (.fn Zb [1]), .ints .u32 r.2.2.2.2.2.2.1 8]⟩), (1, ⟨false, [.one (.ptr 2 0 0 0 0)]⟩), (2, ⟨true, [.ints .u64 r.2.2.2.2.2.2.2.1 80]⟩), (3, ⟨true, [.ints .u32 r.2.2.2.2.2.2.2.2.1 8]⟩), (4, ⟨true, [.ints .u32 r.2.2.2.2.2.2.2.2.2 8]⟩)], 5⟩)⟩]
def Zlc (g0 : Zy) (g1 : Zz) (g2 : Z22) (R : Type) (x80 x81 x82 : Int) (x83 x84 x85 x86 x87 x88 x89 x90 x91 : List Int) (next : Int → Int → Int → (List Int) → (List Int) → (List Int) → (List Int) → (List Int) → (List Int) → (List Int) → (List Int) → (List Int) → Option R) (k0 : Int → Int → (List Int) → (List Int) → (List Int) → (List Int) → (List Int) → (List Int) → (List Int) → (List Int) → Option R) : Option R :=
 br (ltI x80 8)
 (gd (inB x80 8) <|
 gd (inB x80 8) <|
 lett (addI .u32 (x89.getD x80.toNat 0) (x91.getD x80.toNat 0)) fun (v92 : Int) =>
 gd (inB x80 8) <|
 next (addI .i64 x80 1) x81 x82 x83 x84 x85 x86 x87 x88 (x89.set x80.toNat v92) x90 x91)
 (k0 x81 x82 x83 x84 x85 x86 x87 x88 x89 x90)
def Zb6 (x80 x81 x82 : Int) (x83 x84 x85 x86 x87 x88 x89 x90 x91 : List Int) : Nat := 100000 + (x80.toNat + x81.toNat + x82.toNat + x83.length + x84.length + x85.length + x86.length + x87.length + x88.length + x89.length + x90.length + x91.length)
def Z58 (g0 : Zy) (g1 : Zz) (g2 : Z22) : Piece := { T := Zdh, shapes := Zd3, step := fun R x next k => Zlc g0 g1 g2 R (x.1.2.2.2.1) (x.2.1.1) (x.2.1.2.1) (x.2.1.2.2.1) (x.2.1.2.2.2.1) (x.2.1.2.2.2.2.1) (x.2.1.2.2.2.2.2.1) (x.2.1.2.2.2.2.2.2.2.1) (x.2.2.2.1.1) (x.2.2.2.2.1.1) (x.2.2.2.2.2.1.1) (x.2.2.2.2.2.2.1.1) (fun x80 x81 x82 x83 x84 x85 x86 x87 x88 x89 x90 x91 => next (((), (), (), x80, ()), ((x81, x82, x83, x84, x85, x86, (), x87, ()), ((), ()), (x88, ()), (x89, ()), (x90, ()), (x91, ()), ()))) (fun z0 z1 z2 z3 z4 z5 z6 z7 z8 z9 => k.1 (z0, z1, z2, z3, z4, z5, z6, z7, z8, z9)), fuel := fun x => Zb6 (x.1.2.2.2.1) (x.2.1.1) (x.2.1.2.1) (x.2.1.2.2.1) (x.2.1.2.2.2.1) (x.2.1.2.2.2.2.1) (x.2.1.2.2.2.2.2.1) (x.2.1.2.2.2.2.2.2.2.1) (x.2.2.2.1.1) (x.2.2.2.2.1.1) (x.2.2.2.2.2.1.1) (x.2.2.2.2.2.2.1.1) }
def Zp5 (g0 : Zy) (g1 : Zz) (g2 : Z22) (R : Type) (x80 x81 x82 : Int) (x83 x84 x85 x86 x87 x88 x89 x90 x91 : List Int) (k0 : Int → Int → (List Int) → (List Int) → (List Int) → (List Int) → (List Int) → (List Int) → (List Int) → (List Int) → Option R) : Option R :=
 runP Zdh Zd3 (Z58 g0 g1 g2).step R (Zb6 x80 x81 x82 x83 x84 x85 x86 x87 x88 x89 x90 x91) (((), (), (), x80, ()), ((x81, x82, x83, x84, x85, x86, (), x87, ()), ((), ()), (x88, ()), (x89, ()), (x90, ()), (x91, ()), ())) (fun r => k0 (r.1) (r.2.1) (r.2.2.1) (r.2.2.2.1) (r.2.2.2.2.1) (r.2.2.2.2.2.1) (r.2.2.2.2.2.2.1) (r.2.2.2.2.2.2.2.1) (r.2.2.2.2.2.2.2.2.1) (r.2.2.2.2.2.2.2.2.2), ())
abbrev Z6 := (R : Type) → (List Int) → Str → Int → Int → (List Int) → (List Int) → (List Int) → (List Int) → (List Int) → (List Int) → ((List Int) → Int → Int → (List Int) → (List Int) → (List Int) → (List Int) → (List Int) → (List Int) → Option R) → Option R
def Zeq (g0 : Zy) (g1 : Zz) (g2 : Z22) (R : Type) (a1 : List Int) (a2 : Str) (a3 a4 : Int) (a5 a6 a7 a8 a9 a10 : List Int) (k0 : (List Int) → Int → Int → (List Int) → (List Int) → (List Int) → (List Int) → (List Int) → (List Int) → Option R) : Option R :=
 lett (List.replicate 8 (0 : Int)) fun (v11 : List Int) =>
 lett (List.replicate 8 (0 : Int)) fun (v12 : List Int) =>
 g0 R a2 a3 a4 a5 a6 a7 a8 a9 a10 fun r13 r14 r15 r16 r17 r18 r19 r20 r21 =>
 lett (((r21.length : Nat) : Int)) fun (v22 : Int) =>
 Zoz g0 g1 g2 R v22 0 r13 r14 r15 r16 r17 r18 r19 r20 a1 v11 a1 r21 fun y69 y70 y71 y72 y73 y74 y75 y76 y77 y78 y79 =>
 Zp5 g0 g1 g2 R 0 y69 y70 y71 y72 y73 y74 y75 y76 y77 y78 y79 fun y93 y94 y95 y96 y97 y98 y99 y100 y101 y102 =>
 k0 y101 y93 y94 y95 y96 y97 y98 y99 y100
def Zw : Z6 := Zeq Z2c Z2b Z5e
def Zgr : StK := ⟨[(0, .sc (.ptr 0 0 0 0 0)), (1, .sc (.s)), (5, .sc (.sl 3 1 none))], [(true, [.one (.i .i64), .one (.i .i64), .ints .i64 (some 3), .ints .i64 (some 3), .ints .i64 (some 3), .ints .i64 (some 3), .one (.fn Zb [1]), .ints .u32 (some 8)]), (false, [.one (.ptr 2 0 0 0 0)]), (true, [.ints .u64 (some 80)]), (true, [.bytes none])]⟩
def Zgx : List PShape := [⟨Str × Int × Int × (List Int) × (List Int) × (List Int) × (List Int) × (List Int) × (List Int) × Str, fun r => (.exit 0, ⟨[(0, .c (.sc (.ptr 0 0 0 0 0))), (1, .c (.sc (.str r.1))), (5, .c (.sc (.slice 3 1 none none)))], [(0, ⟨true, [.one (.int .i64 r.2.1), .one (.int .i64 r.2.2.1), .ints .i64 r.2.2.2.1 3, .ints .i64 r.2.2.2.2.1 3, .ints .i64 r.2.2.2.2.2.1 3, .ints .i64 r.2.2.2.2.2.2.1 3, .one (.fn Zb [1]), .ints .u32 r.2.2.2.2.2.2.2.1 8]⟩), (1, ⟨false, [.one (.ptr 2 0 0 0 0)]⟩), (2, ⟨true, [.ints .u64 r.2.2.2.2.2.2.2.2.1 80]⟩), (3, ⟨true, [.bytes r.2.2.2.2.2.2.2.2.2 r.2.2.2.2.2.2.2.2.2.length]⟩)], 4⟩)⟩]
def Zpt (g0 : Z8) (g1 : Z6) (R : Type) (x10 : Str) (x11 x12 : Int) (x13 x14 x15 x16 x17 x18 : List Int) (x19 : Str) (next : Str → Int → Int → (List Int) → (List Int) → (List Int) → (List Int) → (List Int) → (List Int) → Str → Option R) (k0 : Str → Int → Int → (List Int) → (List Int) → (List Int) → (List Int) → (List Int) → (List Int) → Str → Option R) : Option R :=
 lett (((x19.length : Nat) : Int)) fun (v20 : Int) =>
 lett (addI .i64 v20 (quoI .i64 x11 4)) fun (v21 : Int) =>
 g0 R x11 x12 x13 x14 x15 x16 x17 x18 fun r22 r23 r24 r25 r26 r27 r28 r29 r30 =>
 gd (!(eqI r22 0)) <|
 br (!(eqI (remI v21 r22) 0))
 (gd (appB x19.length 1 1) <|
 next x10 x11 x12 x13 x14 x15 x16 x17 x18 (x19 ++ ([0] : Str)))
 (k0 x10 x11 x12 x13 x14 x15 x16 x17 x18 x19)
def Zdu (x10 : Str) (x11 x12 : Int) (x13 x14 x15 x16 x17 x18 : List Int) (x19 : Str) : Nat := 100000 + (x10.length + x11.toNat + x12.toNat + x13.length + x14.length + x15.length + x16.length + x17.length + x18.length + x19.length)
def Z72 (g0 : Z8) (g1 : Z6) : Piece := { T := Zgr, shapes := Zgx, step := fun R x next k => Zpt g0 g1 R (x.1.2.1) (x.2.1.1) (x.2.1.2.1) (x.2.1.2.2.1) (x.2.1.2.2.2.1) (x.2.1.2.2.2.2.1) (x.2.1.2.2.2.2.2.1) (x.2.1.2.2.2.2.2.2.2.1) (x.2.2.2.1.1) (x.2.2.2.2.1.1) (fun x10 x11 x12 x13 x14 x15 x16 x17 x18 x19 => next (((), x10, (), ()), ((x11, x12, x13, x14, x15, x16, (), x17, ()), ((), ()), (x18, ()), (x19, ()), ()))) (fun z0 z1 z2 z3 z4 z5 z6 z7 z8 z9 => k.1 (z0, z1, z2, z3, z4, z5, z6, z7, z8, z9)), fuel := fun x => Zdu (x.1.2.1) (x.2.1.1) (x.2.1.2.1) (x.2.1.2.2.1) (x.2.1.2.2.2.1) (x.2.1.2.2.2.2.1) (x.2.1.2.2.2.2.2.1) (x.2.1.2.2.2.2.2.2.2.1) (x.2.2.2.1.1) (x.2.2.2.2.1.1) }
def Zu6 (g0 : Z8) (g1 : Z6) (R : Type) (x10 : Str) (x11 x12 : Int) (x13 x14 x15 x16 x17 x18 : List Int) (x19 : Str) (k0 : Str → Int → Int → (List Int) → (List Int) → (List Int) → (List Int) → (List Int) → (List Int) → Str → Option R) : Option R :=
 runP Zgr Zgx (Z72 g0 g1).step R (Zdu x10 x11 x12 x13 x14 x15 x16 x17 x18 x19) (((), x10, (), ()), ((x11, x12, x13, x14, x15, x16, (), x17, ()), ((), ()), (x18, ()), (x19, ()), ())) (fun r => k0 (r.1) (r.2.1) (r.2.2.1) (r.2.2.2.1) (r.2.2.2.2.1) (r.2.2.2.2.2.1) (r.2.2.2.2.2.2.1) (r.2.2.2.2.2.2.2.1) (r.2.2.2.2.2.2.2.2.1) (r.2.2.2.2.2.2.2.2.2), ())
def Zgs : StK := ⟨[(0, .sc (.ptr 0 0 0 0 0)), (1, .sc (.s)), (5, .sc (.sl 3 1 none)), (6, .sc (.i .i64))], [(true, [.one (.i .i64), .one (.i .i64), .ints .i64 (some 3), .ints .i64 (some 3), .ints .i64 (some 3), .ints .i64 (some 3), .one (.fn Zb [1]), .ints .u32 (some 8)]), (false, [.one (.ptr 2 0 0 0 0)]), (true, [.ints .u64 (some 80)]), (true, [.bytes none])]⟩
def Zgv : List PShape := [⟨Int × Int × (List Int) × (List Int) × (List Int) × (List Int) × (List Int) × (List Int) × Str, fun r => (.exit 2, ⟨[(0, .c (.sc (.ptr 0 0 0 0 0))), (5, .c (.sc (.slice 3 1 none none)))], [(0, ⟨true, [.one (.int .i64 r.1), .one (.int .i64 r.2.1), .ints .i64 r.2.2.1 3, .ints .i64 r.2.2.2.1 3, .ints .i64 r.2.2.2.2.1 3, .ints .i64 r.2.2.2.2.2.1 3, .one (.fn Zb [1]), .ints .u32 r.2.2.2.2.2.2.1 8]⟩), (1, ⟨false, [.one (.ptr 2 0 0 0 0)]⟩), (2, ⟨true, [.ints .u64 r.2.2.2.2.2.2.2.1 80]⟩), (3, ⟨true, [.bytes r.2.2.2.2.2.2.2.2 r.2.2.2.2.2.2.2.2.length]⟩)], 4⟩)⟩]
def Zpq (g0 : Z8) (g1 : Z6) (R : Type) (x42 : Str) (x43 x44 x45 : Int) (x46 x47 x48 x49 x50 x51 : List Int) (x52 : Str) (next : Str → Int → Int → Int → (List Int) → (List Int) → (List Int) → (List Int) → (List Int) → (List Int) → Str → Option R) (k0 : Int → Int → (List Int) → (List Int) → (List Int) → (List Int) → (List Int) → (List Int) → Str → Option R) : Option R :=
 br (leI 0 x43)
 (lett (((x42.length : Nat) : Int)) fun (v53 : Int) =>
 lett (mulI .u64 (cvtI .u64 v53) 8) fun (v54 : Int) =>
 gd (leI 0 (mulI .i64 8 x43)) <|
 lett (shrI .u64 v54 (mulI .i64 8 x43)) fun (v55 : Int) =>
 lett ([UInt8.ofNat ((cvtI .u8 v55).toNat)]) fun (v56 : Str) =>
 gd (appB x52.length v56.length 1) <|
 next x42 (subI .i64 x43 1) x44 x45 x46 x47 x48 x49 x50 x51 (x52 ++ v56))
 (k0 x44 x45 x46 x47 x48 x49 x50 x51 x52)
def Zek (x42 : Str) (x43 x44 x45 : Int) (x46 x47 x48 x49 x50 x51 : List Int) (x52 : Str) : Nat := 100000 + (x42.length + x43.toNat + x44.toNat + x45.toNat + x46.length + x47.length + x48.length + x49.length + x50.length + x51.length + x52.length)
def Z73 (g0 : Z8) (g1 : Z6) : Piece := { T := Zgs, shapes := Zgv, step := fun R x next k => Zpq g0 g1 R (x.1.2.1) (x.1.2.2.2.1) (x.2.1.1) (x.2.1.2.1) (x.2.1.2.2.1) (x.2.1.2.2.2.1) (x.2.1.2.2.2.2.1) (x.2.1.2.2.2.2.2.1) (x.2.1.2.2.2.2.2.2.2.1) (x.2.2.2.1.1) (x.2.2.2.2.1.1) (fun x42 x43 x44 x45 x46 x47 x48 x49 x50 x51 x52 => next (((), x42, (), x43, ()), ((x44, x45, x46, x47, x48, x49, (), x50, ()), ((), ()), (x51, ()), (x52, ()), ()))) (fun z0 z1 z2 z3 z4 z5 z6 z7 z8 => k.1 (z0, z1, z2, z3, z4, z5, z6, z7, z8)), fuel := fun x => Zek (x.1.2.1) (x.1.2.2.2.1) (x.2.1.1) (x.2.1.2.1) (x.2.1.2.2.1) (x.2.1.2.2.2.1) (x.2.1.2.2.2.2.1) (x.2.1.2.2.2.2.2.1) (x.2.1.2.2.2.2.2.2.2.1) (x.2.2.2.1.1) (x.2.2.2.2.1.1) }
def Zu2 (g0 : Z8) (g1 : Z6) (R : Type) (x42 : Str) (x43 x44 x45 : Int) (x46 x47 x48 x49 x50 x51 : List Int) (x52 : Str) (k0 : Int → Int → (List Int) → (List Int) → (List Int) → (List Int) → (List Int) → (List Int) → Str → Option R) : Option R :=
 runP Zgs Zgv (Z73 g0 g1).step R (Zek x42 x43 x44 x45 x46 x47 x48 x49 x50 x51 x52) (((), x42, (), x43, ()), ((x44, x45, x46, x47, x48, x49, (), x50, ()), ((), ()), (x51, ()), (x52, ()), ())) (fun r => k0 (r.1) (r.2.1) (r.2.2.1) (r.2.2.2.1) (r.2.2.2.2.1) (r.2.2.2.2.2.1) (r.2.2.2.2.2.2.1) (r.2.2.2.2.2.2.2.1) (r.2.2.2.2.2.2.2.2), ())
def Zh3 : StK := ⟨[(0, .sc (.ptr 0 0 0 0 0)), (5, .sc (.sl 3 1 none)), (7, .sc (.ptr 4 0 0 0 0)), (8, .sc (.i .i64))], [(true, [.one (.i .i64), .one (.i .i64), .ints .i64 (some 3), .ints .i64 (some 3), .ints .i64 (some 3), .ints .i64 (some 3), .one (.fn Zb [1]), .ints .u32 (some 8)]), (false, [.one (.ptr 2 0 0 0 0)]), (true, [.ints .u64 (some 80)]), (true, [.bytes none]), (true, [.ints .u32 (some 8)])]⟩
def Zgy : List PShape := [⟨Int × Int × (List Int) × (List Int) × (List Int) × (List Int) × (List Int) × (List Int) × (List Int), fun r => (.exit 4, ⟨[(0, .c (.sc (.ptr 0 0 0 0 0))), (7, .c (.sc (.ptr 3 0 0 0 0)))], [(0, ⟨true, [.one (.int .i64 r.1), .one (.int .i64 r.2.1), .ints .i64 r.2.2.1 3, .ints .i64 r.2.2.2.1 3, .ints .i64 r.2.2.2.2.1 3, .ints .i64 r.2.2.2.2.2.1 3, .one (.fn Zb [1]), .ints .u32 r.2.2.2.2.2.2.1 8]⟩), (1, ⟨false, [.one (.ptr 2 0 0 0 0)]⟩), (2, ⟨true, [.ints .u64 r.2.2.2.2.2.2.2.1 80]⟩), (3, ⟨true, [.ints .u32 r.2.2.2.2.2.2.2.2 8]⟩)], 4⟩)⟩]
def Zp7 (g0 : Z8) (g1 : Z6) (R : Type) (x67 x68 x69 : Int) (x70 x71 x72 x73 x74 x75 : List Int) (x76 : Str) (x77 : List Int) (next : Int → Int → Int → (List Int) → (List Int) → (List Int) → (List Int) → (List Int) → (List Int) → Str → (List Int) → Option R) (k0 : Int → Int → (List Int) → (List Int) → (List Int) → (List Int) → (List Int) → (List Int) → (List Int) → Option R) : Option R :=
 lett (((x76.length : Nat) : Int)) fun (v78 : Int) =>
 br (ltI x67 v78)
 (g0 R x68 x69 x70 x71 x72 x73 x74 x75 fun r79 r80 r81 r82 r83 r84 r85 r86 r87 =>
 gd (leB (addI .i64 x67 r79) x76.length) <|
 gd (leB x67 ((addI .i64 x67 r79).toNat)) <|
 lett ((x76.drop (0 + x67.toNat)).take (((addI .i64 x67 r79).toNat) - x67.toNat)) fun (v88 : Str) =>
 g1 R x77 v88 x68 x69 x70 x71 x72 x73 x74 x75 fun r89 r90 r91 r92 r93 r94 r95 r96 r97 =>
 g0 R r90 r91 r92 r93 r94 r95 r96 r97 fun r98 r99 r100 r101 r102 r103 r104 r105 r106 =>
 next (addI .i64 x67 r98) r90 r91 r92 r93 r94 r95 r96 r97 x76 r89)
 (k0 x68 x69 x70 x71 x72 x73 x74 x75 x77)
def Zec (x67 x68 x69 : Int) (x70 x71 x72 x73 x74 x75 : List Int) (x76 : Str) (x77 : List Int) : Nat := 100000 + (x67.toNat + x68.toNat + x69.toNat + x70.length + x71.length + x72.length + x73.length + x74.length + x75.length + x76.length + x77.length)
def Z70 (g0 : Z8) (g1 : Z6) : Piece := { T := Zh3, shapes := Zgy, step := fun R x next k => Zp7 g0 g1 R (x.1.2.2.2.1) (x.2.1.1) (x.2.1.2.1) (x.2.1.2.2.1) (x.2.1.2.2.2.1) (x.2.1.2.2.2.2.1) (x.2.1.2.2.2.2.2.1) (x.2.1.2.2.2.2.2.2.2.1) (x.2.2.2.1.1) (x.2.2.2.2.1.1) (x.2.2.2.2.2.1.1) (fun x67 x68 x69 x70 x71 x72 x73 x74 x75 x76 x77 => next (((), (), (), x67, ()), ((x68, x69, x70, x71, x72, x73, (), x74, ()), ((), ()), (x75, ()), (x76, ()), (x77, ()), ()))) (fun z0 z1 z2 z3 z4 z5 z6 z7 z8 => k.1 (z0, z1, z2, z3, z4, z5, z6, z7, z8)), fuel := fun x => Zec (x.1.2.2.2.1) (x.2.1.1) (x.2.1.2.1) (x.2.1.2.2.1) (x.2.1.2.2.2.1) (x.2.1.2.2.2.2.1) (x.2.1.2.2.2.2.2.1) (x.2.1.2.2.2.2.2.2.2.1) (x.2.2.2.1.1) (x.2.2.2.2.1.1) (x.2.2.2.2.2.1.1) }
def Zvo (g0 : Z8) (g1 : Z6) (R : Type) (x67 x68 x69 : Int) (x70 x71 x72 x73 x74 x75 : List Int) (x76 : Str) (x77 : List Int) (k0 : Int → Int → (List Int) → (List Int) → (List Int) → (List Int) → (List Int) → (List Int) → (List Int) → Option R) : Option R :=
 runP Zh3 Zgy (Z70 g0 g1).step R (Zec x67 x68 x69 x70 x71 x72 x73 x74 x75 x76 x77) (((), (), (), x67, ()), ((x68, x69, x70, x71, x72, x73, (), x74, ()), ((), ()), (x75, ()), (x76, ()), (x77, ()), ())) (fun r => k0 (r.1) (r.2.1) (r.2.2.1) (r.2.2.2.1) (r.2.2.2.2.1) (r.2.2.2.2.2.1) (r.2.2.2.2.2.2.1) (r.2.2.2.2.2.2.2.1) (r.2.2.2.2.2.2.2.2), ())
def Zh2 : StK := ⟨[(0, .sc (.ptr 0 0 0 0 0)), (9, .sc (.sl 3 1 none)), (11, .sc (.i .u32)), (12, .sc (.i .i64)), (77, .agg [.ints .u32 (some 8)]), (78, .sc (.i .i64))], [(true, [.one (.i .i64), .one (.i .i64), .ints .i64 (some 3), .ints .i64 (some 3), .ints .i64 (some 3), .ints .i64 (some 3), .one (.fn Zb [1]), .ints .u32 (some 8)]), (false, [.one (.ptr 2 0 0 0 0)]), (true, [.ints .u64 (some 80)]), (true, [.bytes none])]⟩
def Zgw : List PShape := [⟨(List Int) × Int × Int × Int × (List Int) × (List Int) × (List Int) × (List Int) × (List Int) × (List Int) × Str, fun r => (.exit 8, ⟨[(0, .c (.sc (.ptr 0 0 0 0 0))), (9, .c (.sc (.slice 3 1 none none))), (77, .c (.agg [.ints .u32 r.1 8])), (78, .c (.sc (.int .i64 r.2.1)))], [(0, ⟨true, [.one (.int .i64 r.2.2.1), .one (.int .i64 r.2.2.2.1), .ints .i64 r.2.2.2.2.1 3, .ints .i64 r.2.2.2.2.2.1 3, .ints .i64 r.2.2.2.2.2.2.1 3, .ints .i64 r.2.2.2.2.2.2.2.1 3, .one (.fn Zb [1]), .ints .u32 r.2.2.2.2.2.2.2.2.1 8]⟩), (1, ⟨false, [.one (.ptr 2 0 0 0 0)]⟩), (2, ⟨true, [.ints .u64 r.2.2.2.2.2.2.2.2.2.1 80]⟩), (3, ⟨true, [.bytes r.2.2.2.2.2.2.2.2.2.2 r.2.2.2.2.2.2.2.2.2.2.length]⟩)], 4⟩)⟩]
def Zpp (g0 : Z8) (g1 : Z6) (R : Type) (x177 x178 : Int) (x179 : List Int) (x180 x181 x182 : Int) (x183 x184 x185 x186 x187 x188 : List Int) (x189 : Str) (next : Int → Int → (List Int) → Int → Int → Int → (List Int) → (List Int) → (List Int) → (List Int) → (List Int) → (List Int) → Str → Option R) (k0 : (List Int) → Int → Int → Int → (List Int) → (List Int) → (List Int) → (List Int) → (List Int) → (List Int) → Str → Option R) : Option R :=
 br (leI 0 x178)
 (gd (leI 0 x178) <|
 lett (cvtI .u8 (shrI .u32 x177 x178)) fun (v190 : Int) =>
 gd (appB x189.length ([UInt8.ofNat v190.toNat].length) 1) <|
 lett (x189 ++ [UInt8.ofNat v190.toNat]) fun (v191 : Str) =>
 next x177 (subI .i64 x178 8) x179 x180 x181 x182 x183 x184 x185 x186 x187 x188 v191)
 (k0 x179 x180 x181 x182 x183 x184 x185 x186 x187 x188 x189)
def Zed (x177 x178 : Int) (x179 : List Int) (x180 x181 x182 : Int) (x183 x184 x185 x186 x187 x188 : List Int) (x189 : Str) : Nat := 100000 + (x177.toNat + x178.toNat + x179.length + x180.toNat + x181.toNat + x182.toNat + x183.length + x184.length + x185.length + x186.length + x187.length + x188.length + x189.length)
def Z79 (g0 : Z8) (g1 : Z6) : Piece := { T := Zh2, shapes := Zgw, step := fun R x next k => Zpp g0 g1 R (x.1.2.2.1) (x.1.2.2.2.1) (x.1.2.2.2.2.1.1) (x.1.2.2.2.2.2.1) (x.2.1.1) (x.2.1.2.1) (x.2.1.2.2.1) (x.2.1.2.2.2.1) (x.2.1.2.2.2.2.1) (x.2.1.2.2.2.2.2.1) (x.2.1.2.2.2.2.2.2.2.1) (x.2.2.2.1.1) (x.2.2.2.2.1.1) (fun x177 x178 x179 x180 x181 x182 x183 x184 x185 x186 x187 x188 x189 => next (((), (), x177, x178, (x179, ()), x180, ()), ((x181, x182, x183, x184, x185, x186, (), x187, ()), ((), ()), (x188, ()), (x189, ()), ()))) (fun z0 z1 z2 z3 z4 z5 z6 z7 z8 z9 z10 => k.1 (z0, z1, z2, z3, z4, z5, z6, z7, z8, z9, z10)), fuel := fun x => Zed (x.1.2.2.1) (x.1.2.2.2.1) (x.1.2.2.2.2.1.1) (x.1.2.2.2.2.2.1) (x.2.1.1) (x.2.1.2.1) (x.2.1.2.2.1) (x.2.1.2.2.2.1) (x.2.1.2.2.2.2.1) (x.2.1.2.2.2.2.2.1) (x.2.1.2.2.2.2.2.2.2.1) (x.2.2.2.1.1) (x.2.2.2.2.1.1) }
def Zvi (g0 : Z8) (g1 : Z6) (R : Type) (x177 x178 : Int) (x179 : List Int) (x180 x181 x182 : Int) (x183 x184 x185 x186 x187 x188 : List Int) (x189 : Str) (k0 : (List Int) → Int → Int → Int → (List Int) → (List Int) → (List Int) → (List Int) → (List Int) → (List Int) → Str → Option R) : Option R :=
 runP Zh2 Zgw (Z79 g0 g1).step R (Zed x177 x178 x179 x180 x181 x182 x183 x184 x185 x186 x187 x188 x189) (((), (), x177, x178, (x179, ()), x180, ()), ((x181, x182, x183, x184, x185, x186, (), x187, ()), ((), ()), (x188, ()), (x189, ()), ())) (fun r => k0 (r.1) (r.2.1) (r.2.2.1) (r.2.2.2.1) (r.2.2.2.2.1) (r.2.2.2.2.2.1) (r.2.2.2.2.2.2.1) (r.2.2.2.2.2.2.2.1) (r.2.2.2.2.2.2.2.2.1) (r.2.2.2.2.2.2.2.2.2.1) (r.2.2.2.2.2.2.2.2.2.2), ())
def Zgt : StK := ⟨[(0, .sc (.ptr 0 0 0 0 0)), (9, .sc (.sl 3 1 none)), (77, .agg [.ints .u32 (some 8)]), (78, .sc (.i .i64))], [(true, [.one (.i .i64), .one (.i .i64), .ints .i64 (some 3), .ints .i64 (some 3), .ints .i64 (some 3), .ints .i64 (some 3), .one (.fn Zb [1]), .ints .u32 (some 8)]), (false, [.one (.ptr 2 0 0 0 0)]), (true, [.ints .u64 (some 80)]), (true, [.bytes none])]⟩
def Zh6 : List PShape := [⟨Int × Int × (List Int) × (List Int) × (List Int) × (List Int) × (List Int) × (List Int) × Str, fun r => (.exit 6, ⟨[(9, .c (.sc (.slice 3 1 none none)))], [(0, ⟨true, [.one (.int .i64 r.1), .one (.int .i64 r.2.1), .ints .i64 r.2.2.1 3, .ints .i64 r.2.2.2.1 3, .ints .i64 r.2.2.2.2.1 3, .ints .i64 r.2.2.2.2.2.1 3, .one (.fn Zb [1]), .ints .u32 r.2.2.2.2.2.2.1 8]⟩), (1, ⟨false, [.one (.ptr 2 0 0 0 0)]⟩), (2, ⟨true, [.ints .u64 r.2.2.2.2.2.2.2.1 80]⟩), (3, ⟨true, [.bytes r.2.2.2.2.2.2.2.2 r.2.2.2.2.2.2.2.2.length]⟩)], 4⟩)⟩]
def Zq0 (g0 : Z8) (g1 : Z6) (R : Type) (x166 : List Int) (x167 x168 x169 : Int) (x170 x171 x172 x173 x174 x175 : List Int) (x176 : Str) (next : (List Int) → Int → Int → Int → (List Int) → (List Int) → (List Int) → (List Int) → (List Int) → (List Int) → Str → Option R) (k0 : Int → Int → (List Int) → (List Int) → (List Int) → (List Int) → (List Int) → (List Int) → Str → Option R) : Option R :=
 br (ltI x167 8)
 (gd (inB x167 8) <|
 Zvi g0 g1 R (x166.getD x167.toNat 0) (subI .i64 x168 8) x166 x167 x168 x169 x170 x171 x172 x173 x174 x175 x176 fun y192 y193 y194 y195 y196 y197 y198 y199 y200 y201 y202 =>
 next y192 (addI .i64 y193 1) y194 y195 y196 y197 y198 y199 y200 y201 y202)
 (k0 x168 x169 x170 x171 x172 x173 x174 x175 x176)
def Zdy (x166 : List Int) (x167 x168 x169 : Int) (x170 x171 x172 x173 x174 x175 : List Int) (x176 : Str) : Nat := 100000 + (x166.length + x167.toNat + x168.toNat + x169.toNat + x170.length + x171.length + x172.length + x173.length + x174.length + x175.length + x176.length)
def Z6y (g0 : Z8) (g1 : Z6) : Piece := { T := Zgt, shapes := Zh6, step := fun R x next k => Zq0 g0 g1 R (x.1.2.2.1.1) (x.1.2.2.2.1) (x.2.1.1) (x.2.1.2.1) (x.2.1.2.2.1) (x.2.1.2.2.2.1) (x.2.1.2.2.2.2.1) (x.2.1.2.2.2.2.2.1) (x.2.1.2.2.2.2.2.2.2.1) (x.2.2.2.1.1) (x.2.2.2.2.1.1) (fun x166 x167 x168 x169 x170 x171 x172 x173 x174 x175 x176 => next (((), (), (x166, ()), x167, ()), ((x168, x169, x170, x171, x172, x173, (), x174, ()), ((), ()), (x175, ()), (x176, ()), ()))) (fun z0 z1 z2 z3 z4 z5 z6 z7 z8 => k.1 (z0, z1, z2, z3, z4, z5, z6, z7, z8)), fuel := fun x => Zdy (x.1.2.2.1.1) (x.1.2.2.2.1) (x.2.1.1) (x.2.1.2.1) (x.2.1.2.2.1) (x.2.1.2.2.2.1) (x.2.1.2.2.2.2.1) (x.2.1.2.2.2.2.2.1) (x.2.1.2.2.2.2.2.2.2.1) (x.2.2.2.1.1) (x.2.2.2.2.1.1) }
def Zuo (g0 : Z8) (g1 : Z6) (R : Type) (x166 : List Int) (x167 x168 x169 : Int) (x170 x171 x172 x173 x174 x175 : List Int) (x176 : Str) (k0 : Int → Int → (List Int) → (List Int) → (List Int) → (List Int) → (List Int) → (List Int) → Str → Option R) : Option R :=
 runP Zgt Zh6 (Z6y g0 g1).step R (Zdy x166 x167 x168 x169 x170 x171 x172 x173 x174 x175 x176) (((), (), (x166, ()), x167, ()), ((x168, x169, x170, x171, x172, x173, (), x174, ()), ((), ()), (x175, ()), (x176, ()), ())) (fun r => k0 (r.1) (r.2.1) (r.2.2.1) (r.2.2.2.1) (r.2.2.2.2.1) (r.2.2.2.2.2.1) (r.2.2.2.2.2.2.1) (r.2.2.2.2.2.2.2.1) (r.2.2.2.2.2.2.2.2), ())
abbrev Z8o := (R : Type) → Str → Int → Int → (List Int) → (List Int) → (List Int) → (List Int) → (List Int) → (List Int) → (Str → Int → Int → (List Int) → (List Int) → (List Int) → (List Int) → (List Int) → (List Int) → Option R) → Option R
def Zih (g0 : Z8) (g1 : Z6) (R : Type) (a1 : Str) (a2 a3 : Int) (a4 a5 a6 a7 a8 a9 : List Int) (k0 : Str → Int → Int → (List Int) → (List Int) → (List Int) → (List Int) → (List Int) → (List Int) → Option R) : Option R :=
 gd (appB a1.length 1 1) <|
 Zu6 g0 g1 R a1 a2 a3 a4 a5 a6 a7 a8 a9 (a1 ++ ([128] : Str)) fun y31 y32 y33 y34 y35 y36 y37 y38 y39 y40 =>
 lett (subI .i64 (quoI .i64 y32 4) 1) fun (v41 : Int) =>
 Zu2 g0 g1 R y31 v41 y32 y33 y34 y35 y36 y37 y38 y39 y40 fun y57 y58 y59 y60 y61 y62 y63 y64 y65 =>
 lett (List.replicate 8 (0 : Int)) fun (v66 : List Int) =>
 Zvo g0 g1 R 0 y57 y58 y59 y60 y61 y62 y63 y64 y65 y63 fun y107 y108 y109 y110 y111 y112 y113 y114 y115 =>
 Zuo g0 g1 R y115 0 y107 y108 y109 y110 y111 y112 y113 y114 ([] : Str) fun y203 y204 y205 y206 y207 y208 y209 y210 y211 =>
 k0 y211 y203 y204 y205 y206 y207 y208 y209 y210
def Zcw : Z8o := Zih Zx Zw
abbrev Zq6 := (R : Type) → Str → (Str → Option R) → Option R
def Z124 (g0 : Zq5) (g1 : Z8o) (R : Type) (a1 : Str) (k0 : Str → Option R) : Option R :=
 g0 R fun r2 r3 r4 r5 r6 r7 r8 r9 =>
 g1 R a1 r2 r3 r4 r5 r6 r7 r8 r9 fun r10 r11 r12 r13 r14 r15 r16 r17 r18 =>
 k0 r10
def Zxf : Zq6 := Z124 Zxz Zcw
abbrev Zqd := (R : Type) → (Int → Int → (List Int) → (List Int) → (List Int) → (List Int) → (List Int) → (List Int) → Option R) → Option R
def Zv2 (g0 : Z4a) (g1 : Z6x) (R : Type) (k0 : Int → Int → (List Int) → (List Int) → (List Int) → (List Int) → (List Int) → (List Int) → Option R) : Option R :=
 g0 R fun r1 =>
 g1 R fun r2 =>
 lett ((((List.replicate 3 (0 : Int)).set 0 1).set 1 8).set 2 7) fun (v3 : List Int) =>
 lett ((((List.replicate 3 (0 : Int)).set 0 19).set 1 61).set 2 6) fun (v4 : List Int) =>
 lett ((((List.replicate 3 (0 : Int)).set 0 14).set 1 18).set 2 41) fun (v5 : List Int) =>
 lett ((((List.replicate 3 (0 : Int)).set 0 28).set 1 34).set 2 39) fun (v6 : List Int) =>
 k0 64 80 v3 v4 v5 v6 r2 r1
def Zk7 : Zqd := Zv2 Z4u Z8m
abbrev Z7 := (R : Type) → Int → Int → (List Int) → (List Int) → (List Int) → (List Int) → (List Int) → (List Int) → (Int → Int → Int → (List Int) → (List Int) → (List Int) → (List Int) → (List Int) → (List Int) → Option R) → Option R
def Z94 (R : Type) (a1 a2 : Int) (a3 a4 a5 a6 a7 a8 : List Int) (k0 : Int → Int → Int → (List Int) → (List Int) → (List Int) → (List Int) → (List Int) → (List Int) → Option R) : Option R :=
 k0 (mulI .i64 2 a1) a1 a2 a3 a4 a5 a6 a7 a8
def Z1 : Z7 := Z94
abbrev Z37 := (R : Type) → Int → Int → Int → Int → (List Int) → (List Int) → (List Int) → (List Int) → (List Int) → (List Int) → (Int → Int → Int → (List Int) → (List Int) → (List Int) → (List Int) → (List Int) → (List Int) → Option R) → Option R
def Z9o (R : Type) (a1 a2 a3 a4 : Int) (a5 a6 a7 a8 a9 a10 : List Int) (k0 : Int → Int → Int → (List Int) → (List Int) → (List Int) → (List Int) → (List Int) → (List Int) → Option R) : Option R :=
 gd (leI 0 a2) <|
 gd (leI 0 (subI .i64 a3 a2)) <|
 lett (shlI .u64 a1 (subI .i64 a3 a2)) fun (v11 : Int) =>
 lett (orI .u64 (shrI .u64 a1 a2) v11) fun (v12 : Int) =>
 k0 v12 a3 a4 a5 a6 a7 a8 a9 a10
def Z2l : Z37 := Z9o
abbrev Zl := (R : Type) → Int → (List Int) → Int → Int → (List Int) → (List Int) → (List Int) → (List Int) → (List Int) → (List Int) → (Int → Int → Int → (List Int) → (List Int) → (List Int) → (List Int) → (List Int) → (List Int) → Option R) → Option R
def Za5 (g0 : Z37) (R : Type) (a1 : Int) (a2 : List Int) (a3 a4 : Int) (a5 a6 a7 a8 a9 a10 : List Int) (k0 : Int → Int → Int → (List Int) → (List Int) → (List Int) → (List Int) → (List Int) → (List Int) → Option R) : Option R :=
 gd (leI 0 (a2.getD 2 0)) <|
 lett (shrI .u64 a1 (a2.getD 2 0)) fun (v11 : Int) =>
 g0 R a1 (a2.getD 0 0) a3 a4 a5 a6 a7 a8 a9 a10 fun r12 r13 r14 r15 r16 r17 r18 r19 r20 =>
 g0 R a1 (a2.getD 1 0) a3 a4 a5 a6 a7 a8 a9 a10 fun r21 r22 r23 r24 r25 r26 r27 r28 r29 =>
 lett (xorI .u64 (xorI .u64 r12 r21) v11) fun (v30 : Int) =>
 k0 v30 a3 a4 a5 a6 a7 a8 a9 a10
def Zf : Zl := Za5 Z2l
def Z7n : StK := ⟨[(0, .sc (.ptr 0 0 0 0 0)), (1, .sc (.s)), (5, .sc (.sl 3 1 none)), (6, .sc (.i .i64)), (7, .sc (.i .i64)), (20, .sc (.i .i64)), (21, .sc (.i .i64)), (26, .sc (.i .i64)), (27, .sc (.i .i64))], [(true, [.one (.i .i64), .one (.i .i64), .ints .i64 (some 3), .ints .i64 (some 3), .ints .i64 (some 3), .ints .i64 (some 3), .one (.fn Zd [1]), .ints .u64 (some 8)]), (false, [.one (.ptr 2 0 0 0 0)]), (true, [.ints .u64 (some 80)]), (true, [.ints .u64 none])]⟩
def Z7q : List PShape := [⟨Str × Int × Int × Int × Int × Int × (List Int) × (List Int) × (List Int) × (List Int) × (List Int) × (List Int) × (List Int), fun r => (.exit 2, ⟨[(0, .c (.sc (.ptr 0 0 0 0 0))), (1, .c (.sc (.str r.1))), (5, .c (.sc (.slice 3 1 none none))), (6, .c (.sc (.int .i64 r.2.1))), (20, .c (.sc (.int .i64 r.2.2.1))), (21, .c (.sc (.int .i64 r.2.2.2.1)))], [(0, ⟨true, [.one (.int .i64 r.2.2.2.2.1), .one (.int .i64 r.2.2.2.2.2.1), .ints .i64 r.2.2.2.2.2.2.1 3, .ints .i64 r.2.2.2.2.2.2.2.1 3, .ints .i64 r.2.2.2.2.2.2.2.2.1 3, .ints .i64 r.2.2.2.2.2.2.2.2.2.1 3, .one (.fn Zd [1]), .ints .u64 r.2.2.2.2.2.2.2.2.2.2.1 8]⟩), (1, ⟨false, [.one (.ptr 2 0 0 0 0)]⟩), (2, ⟨true, [.ints .u64 r.2.2.2.2.2.2.2.2.2.2.2.1 80]⟩), (3, ⟨true, [.ints .u64 r.2.2.2.2.2.2.2.2.2.2.2.2 r.2.2.2.2.2.2.2.2.2.2.2.2.length]⟩)], 4⟩)⟩]
def Z67 (g0 : Zl) (R : Type) (x38 : Str) (x39 x40 x41 x42 x43 x44 x45 x46 : Int) (x47 x48 x49 x50 x51 x52 x53 : List Int) (next : Str → Int → Int → Int → Int → Int → Int → Int → Int → (List Int) → (List Int) → (List Int) → (List Int) → (List Int) → (List Int) → (List Int) → Option R) (k0 : Str → Int → Int → Int → Int → Int → (List Int) → (List Int) → (List Int) → (List Int) → (List Int) → (List Int) → (List Int) → Option R) : Option R :=
 br (ltI x44 x43)
 (gd (inB x40 x53.length) <|
 lett (shlI .u64 (x53.getD x40.toNat 0) 8) fun (v54 : Int) =>
 lett (addI .i64 (mulI .i64 x39 x40) x44) fun (v55 : Int) =>
 gd (inB v55 x38.length) <|
 lett (((x38.getD v55.toNat 0).toNat : Int)) fun (v56 : Int) =>
 lett (orI .u64 v54 (cvtI .u64 v56)) fun (v57 : Int) =>
 gd (inB x40 x53.length) <|
 next x38 x39 x40 x41 x42 x43 (addI .i64 x44 1) x45 x46 x47 x48 x49 x50 x51 x52 (x53.set x40.toNat v57))
 (k0 x38 x39 x41 x42 x45 x46 x47 x48 x49 x50 x51 x52 x53)
def Z43 (x38 : Str) (x39 x40 x41 x42 x43 x44 x45 x46 : Int) (x47 x48 x49 x50 x51 x52 x53 : List Int) : Nat := 100000 + (x38.length + x39.toNat + x40.toNat + x41.toNat + x42.toNat + x43.toNat + x44.toNat + x45.toNat + x46.toNat + x47.length + x48.length + x49.length + x50.length + x51.length + x52.length + x53.length)
def Z3l (g0 : Zl) : Piece := { T := Z7n, shapes := Z7q, step := fun R x next k => Z67 g0 R (x.1.2.1) (x.1.2.2.2.1) (x.1.2.2.2.2.1) (x.1.2.2.2.2.2.1) (x.1.2.2.2.2.2.2.1) (x.1.2.2.2.2.2.2.2.1) (x.1.2.2.2.2.2.2.2.2.1) (x.2.1.1) (x.2.1.2.1) (x.2.1.2.2.1) (x.2.1.2.2.2.1) (x.2.1.2.2.2.2.1) (x.2.1.2.2.2.2.2.1) (x.2.1.2.2.2.2.2.2.2.1) (x.2.2.2.1.1) (x.2.2.2.2.1.1) (fun x38 x39 x40 x41 x42 x43 x44 x45 x46 x47 x48 x49 x50 x51 x52 x53 => next (((), x38, (), x39, x40, x41, x42, x43, x44, ()), ((x45, x46, x47, x48, x49, x50, (), x51, ()), ((), ()), (x52, ()), (x53, ()), ()))) (fun z0 z1 z2 z3 z4 z5 z6 z7 z8 z9 z10 z11 z12 => k.1 (z0, z1, z2, z3, z4, z5, z6, z7, z8, z9, z10, z11, z12)), fuel := fun x => Z43 (x.1.2.1) (x.1.2.2.2.1) (x.1.2.2.2.2.1) (x.1.2.2.2.2.2.1) (x.1.2.2.2.2.2.2.1) (x.1.2.2.2.2.2.2.2.1) (x.1.2.2.2.2.2.2.2.2.1) (x.2.1.1) (x.2.1.2.1) (x.2.1.2.2.1) (x.2.1.2.2.2.1) (x.2.1.2.2.2.2.1) (x.2.1.2.2.2.2.2.1) (x.2.1.2.2.2.2.2.2.2.1) (x.2.2.2.1.1) (x.2.2.2.2.1.1) }
def Zee (g0 : Zl) (R : Type) (x38 : Str) (x39 x40 x41 x42 x43 x44 x45 x46 : Int) (x47 x48 x49 x50 x51 x52 x53 : List Int) (k0 : Str → Int → Int → Int → Int → Int → (List Int) → (List Int) → (List Int) → (List Int) → (List Int) → (List Int) → (List Int) → Option R) : Option R :=
 runP Z7n Z7q (Z3l g0).step R (Z43 x38 x39 x40 x41 x42 x43 x44 x45 x46 x47 x48 x49 x50 x51 x52 x53) (((), x38, (), x39, x40, x41, x42, x43, x44, ()), ((x45, x46, x47, x48, x49, x50, (), x51, ()), ((), ()), (x52, ()), (x53, ()), ())) (fun r => k0 (r.1) (r.2.1) (r.2.2.1) (r.2.2.2.1) (r.2.2.2.2.1) (r.2.2.2.2.2.1) (r.2.2.2.2.2.2.1) (r.2.2.2.2.2.2.2.1) (r.2.2.2.2.2.2.2.2.1) (r.2.2.2.2.2.2.2.2.2.1) (r.2.2.2.2.2.2.2.2.2.2.1) (r.2.2.2.2.2.2.2.2.2.2.2.1) (r.2.2.2.2.2.2.2.2.2.2.2.2), ())
def Zd9 : StK := ⟨[(0, .sc (.ptr 0 0 0 0 0)), (1, .sc (.s)), (5, .sc (.sl 3 1 none)), (6, .sc (.i .i64)), (20, .sc (.i .i64)), (21, .sc (.i .i64))], [(true, [.one (.i .i64), .one (.i .i64), .ints .i64 (some 3), .ints .i64 (some 3), .ints .i64 (some 3), .ints .i64 (some 3), .one (.fn Zd [1]), .ints .u64 (some 8)]), (false, [.one (.ptr 2 0 0 0 0)]), (true, [.ints .u64 (some 80)]), (true, [.ints .u64 none])]⟩
def Zdd : List PShape := [⟨Str × Int × Int × Int × Int × Int × (List Int) × (List Int) × (List Int) × (List Int) × (List Int) × (List Int) × (List Int), fun r => (.normal, ⟨[(0, .c (.sc (.ptr 0 0 0 0 0))), (1, .c (.sc (.str r.1))), (5, .c (.sc (.slice 3 1 none none))), (6, .c (.sc (.int .i64 r.2.1))), (20, .c (.sc (.int .i64 r.2.2.1))), (21, .c (.sc (.int .i64 r.2.2.2.1)))], [(0, ⟨true, [.one (.int .i64 r.2.2.2.2.1), .one (.int .i64 r.2.2.2.2.2.1), .ints .i64 r.2.2.2.2.2.2.1 3, .ints .i64 r.2.2.2.2.2.2.2.1 3, .ints .i64 r.2.2.2.2.2.2.2.2.1 3, .ints .i64 r.2.2.2.2.2.2.2.2.2.1 3, .one (.fn Zd [1]), .ints .u64 r.2.2.2.2.2.2.2.2.2.2.1 8]⟩), (1, ⟨false, [.one (.ptr 2 0 0 0 0)]⟩), (2, ⟨true, [.ints .u64 r.2.2.2.2.2.2.2.2.2.2.2.1 80]⟩), (3, ⟨true, [.ints .u64 r.2.2.2.2.2.2.2.2.2.2.2.2 r.2.2.2.2.2.2.2.2.2.2.2.2.length]⟩)], 4⟩)⟩, ⟨Str × Int × Int × Int × Int × Int × (List Int) × (List Int) × (List Int) × (List Int) × (List Int) × (List Int) × (List Int) × Nat, fun r => (.normal, ⟨[(0, .c (.sc (.ptr 0 0 0 0 0))), (1, .c (.sc (.str r.1))), (5, .c (.sc (.slice 3 1 none none))), (6, .c (.sc (.int .i64 r.2.1))), (20, .c (.sc (.int .i64 r.2.2.1))), (21, .c (.sc (.int .i64 r.2.2.2.1)))], [(0, ⟨true, [.one (.int .i64 r.2.2.2.2.1), .one (.int .i64 r.2.2.2.2.2.1), .ints .i64 r.2.2.2.2.2.2.1 3, .ints .i64 r.2.2.2.2.2.2.2.1 3, .ints .i64 r.2.2.2.2.2.2.2.2.1 3, .ints .i64 r.2.2.2.2.2.2.2.2.2.1 3, .one (.fn Zd [1]), .ints .u64 r.2.2.2.2.2.2.2.2.2.2.1 8]⟩), (1, ⟨false, [.one (.ptr 2 0 0 0 0)]⟩), (2, ⟨true, [.ints .u64 r.2.2.2.2.2.2.2.2.2.2.2.1 80]⟩), (3, ⟨true, [.ints .u64 r.2.2.2.2.2.2.2.2.2.2.2.2.1 r.2.2.2.2.2.2.2.2.2.2.2.2.2]⟩)], 4⟩)⟩]
def Z65 (g0 : Zl) (R : Type) (x25 : Str) (x26 x27 x28 x29 x30 : Int) (x31 x32 x33 x34 x35 x36 x37 : List Int) (k0 : Str → Int → Int → Int → Int → Int → (List Int) → (List Int) → (List Int) → (List Int) → (List Int) → (List Int) → (List Int) → Option R) (k1 : Str → Int → Int → Int → Int → Int → (List Int) → (List Int) → (List Int) → (List Int) → (List Int) → (List Int) → (List Int) → Nat → Option R) : Option R :=
 br (ltI x28 16)
 (Zee g0 R x25 x26 x28 x27 x28 x26 0 x29 x30 x31 x32 x33 x34 x35 x36 x37 fun y58 y59 y60 y61 y62 y63 y64 y65 y66 y67 y68 y69 y70 =>
 k0 y58 y59 y60 y61 y62 y63 y64 y65 y66 y67 y68 y69 y70)
 (gd (inB (subI .i64 x28 16) x37.length) <|
 lett (x37.getD ((subI .i64 x28 16).toNat) 0) fun (v71 : Int) =>
 gd (inB (subI .i64 x28 7) x37.length) <|
 lett (x37.getD ((subI .i64 x28 7).toNat) 0) fun (v72 : Int) =>
 gd (inB (subI .i64 x28 15) x37.length) <|
 lett (x37.getD ((subI .i64 x28 15).toNat) 0) fun (v73 : Int) =>
 gd (inB (subI .i64 x28 2) x37.length) <|
 lett (x37.getD ((subI .i64 x28 2).toNat) 0) fun (v74 : Int) =>
 g0 R v73 x31 x29 x30 x31 x32 x33 x34 x35 x36 fun r75 r76 r77 r78 r79 r80 r81 r82 r83 =>
 lett (addI .u64 (addI .u64 v71 v72) r75) fun (v84 : Int) =>
 g0 R v74 x32 x29 x30 x31 x32 x33 x34 x35 x36 fun r85 r86 r87 r88 r89 r90 r91 r92 r93 =>
 gd (inB x28 x37.length) <|
 lett (x37.set x28.toNat (addI .u64 v84 r85)) fun (v94 : List Int) =>
 k1 x25 x26 x27 x28 x29 x30 x31 x32 x33 x34 x35 x36 v94 x37.length)
def Zb8 (x25 : Str) (x26 x27 x28 x29 x30 : Int) (x31 x32 x33 x34 x35 x36 x37 : List Int) : Nat := 1
def Z4z (g0 : Zl) : Piece := { T := Zd9, shapes := Zdd, step := fun R x next k => Z65 g0 R (x.1.2.1) (x.1.2.2.2.1) (x.1.2.2.2.2.1) (x.1.2.2.2.2.2.1) (x.2.1.1) (x.2.1.2.1) (x.2.1.2.2.1) (x.2.1.2.2.2.1) (x.2.1.2.2.2.2.1) (x.2.1.2.2.2.2.2.1) (x.2.1.2.2.2.2.2.2.2.1) (x.2.2.2.1.1) (x.2.2.2.2.1.1) (fun z0 z1 z2 z3 z4 z5 z6 z7 z8 z9 z10 z11 z12 => k.1 (z0, z1, z2, z3, z4, z5, z6, z7, z8, z9, z10, z11, z12)) (fun z0 z1 z2 z3 z4 z5 z6 z7 z8 z9 z10 z11 z12 z13 => k.2.1 (z0, z1, z2, z3, z4, z5, z6, z7, z8, z9, z10, z11, z12, z13)), fuel := fun x => Zb8 (x.1.2.1) (x.1.2.2.2.1) (x.1.2.2.2.2.1) (x.1.2.2.2.2.2.1) (x.2.1.1) (x.2.1.2.1) (x.2.1.2.2.1) (x.2.1.2.2.2.1) (x.2.1.2.2.2.2.1) (x.2.1.2.2.2.2.2.1) (x.2.1.2.2.2.2.2.2.2.1) (x.2.2.2.1.1) (x.2.2.2.2.1.1) }
def Zel (g0 : Zl) (R : Type) (x25 : Str) (x26 x27 x28 x29 x30 : Int) (x31 x32 x33 x34 x35 x36 x37 : List Int) (k0 : Str → Int → Int → Int → Int → Int → (List Int) → (List Int) → (List Int) → (List Int) → (List Int) → (List Int) → (List Int) → Option R) (k1 : Str → Int → Int → Int → Int → Int → (List Int) → (List Int) → (List Int) → (List Int) → (List Int) → (List Int) → (List Int) → Nat → Option R) : Option R :=
 runP Zd9 Zdd (Z4z g0).step R (Zb8 x25 x26 x27 x28 x29 x30 x31 x32 x33 x34 x35 x36 x37) (((), x25, (), x26, x27, x28, ()), ((x29, x30, x31, x32, x33, x34, (), x35, ()), ((), ()), (x36, ()), (x37, ()), ())) (fun r => k0 (r.1) (r.2.1) (r.2.2.1) (r.2.2.2.1) (r.2.2.2.2.1) (r.2.2.2.2.2.1) (r.2.2.2.2.2.2.1) (r.2.2.2.2.2.2.2.1) (r.2.2.2.2.2.2.2.2.1) (r.2.2.2.2.2.2.2.2.2.1) (r.2.2.2.2.2.2.2.2.2.2.1) (r.2.2.2.2.2.2.2.2.2.2.2.1) (r.2.2.2.2.2.2.2.2.2.2.2.2), fun r => k1 (r.1) (r.2.1) (r.2.2.1) (r.2.2.2.1) (r.2.2.2.2.1) (r.2.2.2.2.2.1) (r.2.2.2.2.2.2.1) (r.2.2.2.2.2.2.2.1) (r.2.2.2.2.2.2.2.2.1) (r.2.2.2.2.2.2.2.2.2.1) (r.2.2.2.2.2.2.2.2.2.2.1) (r.2.2.2.2.2.2.2.2.2.2.2.1) (r.2.2.2.2.2.2.2.2.2.2.2.2.1) (r.2.2.2.2.2.2.2.2.2.2.2.2.2), ())
def Z7w : StK := ⟨[(0, .sc (.ptr 0 0 0 0 0)), (1, .sc (.s)), (5, .sc (.sl 3 1 none)), (6, .sc (.i .i64)), (20, .sc (.i .i64)), (21, .sc (.i .i64))], [(true, [.one (.i .i64), .one (.i .i64), .ints .i64 (some 3), .ints .i64 (some 3), .ints .i64 (some 3), .ints .i64 (some 3), .one (.fn Zd [1]), .ints .u64 (some 8)]), (false, [.one (.ptr 2 0 0 0 0)]), (true, [.ints .u64 (some 80)]), (true, [.ints .u64 none])]⟩
def Z7s : List PShape := [⟨Int × Int × (List Int) × (List Int) × (List Int) × (List Int) × (List Int) × (List Int) × (List Int), fun r => (.exit 0, ⟨[(5, .c (.sc (.slice 3 1 none none)))], [(0, ⟨true, [.one (.int .i64 r.1), .one (.int .i64 r.2.1), .ints .i64 r.2.2.1 3, .ints .i64 r.2.2.2.1 3, .ints .i64 r.2.2.2.2.1 3, .ints .i64 r.2.2.2.2.2.1 3, .one (.fn Zd [1]), .ints .u64 r.2.2.2.2.2.2.1 8]⟩), (1, ⟨false, [.one (.ptr 2 0 0 0 0)]⟩), (2, ⟨true, [.ints .u64 r.2.2.2.2.2.2.2.1 80]⟩), (3, ⟨true, [.ints .u64 r.2.2.2.2.2.2.2.2 r.2.2.2.2.2.2.2.2.length]⟩)], 4⟩)⟩]
def Z66 (g0 : Zl) (R : Type) (x12 : Str) (x13 x14 x15 x16 x17 : Int) (x18 x19 x20 x21 x22 x23 x24 : List Int) (next : Str → Int → Int → Int → Int → Int → (List Int) → (List Int) → (List Int) → (List Int) → (List Int) → (List Int) → (List Int) → Option R) (k0 : Int → Int → (List Int) → (List Int) → (List Int) → (List Int) → (List Int) → (List Int) → (List Int) → Option R) : Option R :=
 br (ltI x15 x14)
 (Zel g0 R x12 x13 x14 x15 x16 x17 x18 x19 x20 x21 x22 x23 x24
 (fun y95 y96 y97 y98 y99 y100 y101 y102 y103 y104 y105 y106 y107 =>
 next y95 y96 y97 (addI .i64 y98 1) y99 y100 y101 y102 y103 y104 y105 y106 y107)
 (fun y108 y109 y110 y111 y112 y113 y114 y115 y116 y117 y118 y119 y120 y121 =>
 next y108 y109 y110 (addI .i64 y111 1) y112 y113 y114 y115 y116 y117 y118 y119 y120))
 (k0 x16 x17 x18 x19 x20 x21 x22 x23 x24)
def Z44 (x12 : Str) (x13 x14 x15 x16 x17 : Int) (x18 x19 x20 x21 x22 x23 x24 : List Int) : Nat := 100000 + (x12.length + x13.toNat + x14.toNat + x15.toNat + x16.toNat + x17.toNat + x18.length + x19.length + x20.length + x21.length + x22.length + x23.length + x24.length)
def Z3p (g0 : Zl) : Piece := { T := Z7w, shapes := Z7s, step := fun R x next k => Z66 g0 R (x.1.2.1) (x.1.2.2.2.1) (x.1.2.2.2.2.1) (x.1.2.2.2.2.2.1) (x.2.1.1) (x.2.1.2.1) (x.2.1.2.2.1) (x.2.1.2.2.2.1) (x.2.1.2.2.2.2.1) (x.2.1.2.2.2.2.2.1) (x.2.1.2.2.2.2.2.2.2.1) (x.2.2.2.1.1) (x.2.2.2.2.1.1) (fun x12 x13 x14 x15 x16 x17 x18 x19 x20 x21 x22 x23 x24 => next (((), x12, (), x13, x14, x15, ()), ((x16, x17, x18, x19, x20, x21, (), x22, ()), ((), ()), (x23, ()), (x24, ()), ()))) (fun z0 z1 z2 z3 z4 z5 z6 z7 z8 => k.1 (z0, z1, z2, z3, z4, z5, z6, z7, z8)), fuel := fun x => Z44 (x.1.2.1) (x.1.2.2.2.1) (x.1.2.2.2.2.1) (x.1.2.2.2.2.2.1) (x.2.1.1) (x.2.1.2.1) (x.2.1.2.2.1) (x.2.1.2.2.2.1) (x.2.1.2.2.2.2.1) (x.2.1.2.2.2.2.2.1) (x.2.1.2.2.2.2.2.2.2.1) (x.2.2.2.1.1) (x.2.2.2.2.1.1) }
def Ze1 (g0 : Zl) (R : Type) (x12 : Str) (x13 x14 x15 x16 x17 : Int) (x18 x19 x20 x21 x22 x23 x24 : List Int) (k0 : Int → Int → (List Int) → (List Int) → (List Int) → (List Int) → (List Int) → (List Int) → (List Int) → Option R) : Option R :=
 runP Z7w Z7s (Z3p g0).step R (Z44 x12 x13 x14 x15 x16 x17 x18 x19 x20 x21 x22 x23 x24) (((), x12, (), x13, x14, x15, ()), ((x16, x17, x18, x19, x20, x21, (), x22, ()), ((), ()), (x23, ()), (x24, ()), ())) (fun r => k0 (r.1) (r.2.1) (r.2.2.1) (r.2.2.2.1) (r.2.2.2.2.1) (r.2.2.2.2.2.1) (r.2.2.2.2.2.2.1) (r.2.2.2.2.2.2.2.1) (r.2.2.2.2.2.2.2.2), ())
abbrev Z10 := (R : Type) → Str → Int → Int → (List Int) → (List Int) → (List Int) → (List Int) → (List Int) → (List Int) → (Int → Int → (List Int) → (List Int) → (List Int) → (List Int) → (List Int) → (List Int) → (List Int) → Option R) → Option R
def Z9d (g0 : Zl) (R : Type) (a1 : Str) (a2 a3 : Int) (a4 a5 a6 a7 a8 a9 : List Int) (k0 : Int → Int → (List Int) → (List Int) → (List Int) → (List Int) → (List Int) → (List Int) → (List Int) → Option R) : Option R :=
 gd (makeB a3 8) <|
 gd (leB a3 a3.toNat) <|
 lett (List.replicate a3.toNat (0 : Int)) fun (v10 : List Int) =>
 lett (((v10.length : Nat) : Int)) fun (v11 : Int) =>
 Ze1 g0 R a1 (quoI .i64 a2 8) v11 0 a2 a3 a4 a5 a6 a7 a8 a9 v10 fun y122 y123 y124 y125 y126 y127 y128 y129 y130 =>
 k0 y122 y123 y124 y125 y126 y127 y128 y129 y130
def Zj : Z10 := Z9d Zf
abbrev Z11 := (R : Type) → Int → (List Int) → Int → Int → (List Int) → (List Int) → (List Int) → (List Int) → (List Int) → (List Int) → (Int → Int → Int → (List Int) → (List Int) → (List Int) → (List Int) → (List Int) → (List Int) → Option R) → Option R
def Z98 (g0 : Z37) (R : Type) (a1 : Int) (a2 : List Int) (a3 a4 : Int) (a5 a6 a7 a8 a9 a10 : List Int) (k0 : Int → Int → Int → (List Int) → (List Int) → (List Int) → (List Int) → (List Int) → (List Int) → Option R) : Option R :=
 g0 R a1 (a2.getD 0 0) a3 a4 a5 a6 a7 a8 a9 a10 fun r11 r12 r13 r14 r15 r16 r17 r18 r19 =>
 g0 R a1 (a2.getD 1 0) a3 a4 a5 a6 a7 a8 a9 a10 fun r20 r21 r22 r23 r24 r25 r26 r27 r28 =>
 g0 R a1 (a2.getD 2 0) a3 a4 a5 a6 a7 a8 a9 a10 fun r29 r30 r31 r32 r33 r34 r35 r36 r37 =>
 lett (xorI .u64 (xorI .u64 r11 r20) r29) fun (v38 : Int) =>
 k0 v38 a3 a4 a5 a6 a7 a8 a9 a10
def Zk : Z11 := Z98 Z2l
abbrev Z23 := (R : Type) → Int → (List Int) → (Int → (List Int) → Option R) → Option R
def Zhi (R : Type) (a1 : Int) (a2 : List Int) (k0 : Int → (List Int) → Option R) : Option R :=
 gd (inB a1 80) <|
 k0 (a2.getD a1.toNat 0) a2
def Z1g : Z23 := Zhi
def Z7l : StK := ⟨[(0, .sc (.ptr 0 0 0 0 0)), (4, .sc (.ptr 3 0 0 0 0)), (6, .sc (.ptr 4 0 0 0 0)), (7, .sc (.ptr 5 0 0 0 0)), (18, .sc (.sl 6 1 none)), (19, .sc (.i .i64)), (20, .sc (.i .i64))], [(true, [.one (.i .i64), .one (.i .i64), .ints .i64 (some 3), .ints .i64 (some 3), .ints .i64 (some 3), .ints .i64 (some 3), .one (.fn Zd [1]), .ints .u64 (some 8)]), (false, [.one (.ptr 2 0 0 0 0)]), (true, [.ints .u64 (some 80)]), (true, [.ints .u64 (some 8)]), (true, [.ints .u64 (some 8)]), (true, [.ints .u64 (some 8)]), (true, [.ints .u64 none])]⟩
def Z7t : List PShape := [⟨Int × Int × (List Int) × (List Int) × (List Int) × (List Int) × (List Int) × (List Int) × (List Int) × (List Int) × (List Int), fun r => (.exit 0, ⟨[(4, .c (.sc (.ptr 3 0 0 0 0))), (6, .c (.sc (.ptr 4 0 0 0 0))), (7, .c (.sc (.ptr 5 0 0 0 0)))], [(0, ⟨true, [.one (.int .i64 r.1), .one (.int .i64 r.2.1), .ints .i64 r.2.2.1 3, .ints .i64 r.2.2.2.1 3, .ints .i64 r.2.2.2.2.1 3, .ints .i64 r.2.2.2.2.2.1 3, .one (.fn Zd [1]), .ints .u64 r.2.2.2.2.2.2.1 8]⟩), (1, ⟨false, [.one (.ptr 2 0 0 0 0)]⟩), (2, ⟨true, [.ints .u64 r.2.2.2.2.2.2.2.1 80]⟩), (3, ⟨true, [.ints .u64 r.2.2.2.2.2.2.2.2.1 8]⟩), (4, ⟨true, [.ints .u64 r.2.2.2.2.2.2.2.2.2.1 8]⟩), (5, ⟨true, [.ints .u64 r.2.2.2.2.2.2.2.2.2.2 8]⟩)], 6⟩)⟩]
def Z6d (g0 : Z10) (g1 : Z11) (g2 : Z23) (R : Type) (x23 x24 x25 x26 : Int) (x27 x28 x29 x30 x31 x32 x33 x34 x35 x36 : List Int) (next : Int → Int → Int → Int → (List Int) → (List Int) → (List Int) → (List Int) → (List Int) → (List Int) → (List Int) → (List Int) → (List Int) → (List Int) → Option R) (k0 : Int → Int → (List Int) → (List Int) → (List Int) → (List Int) → (List Int) → (List Int) → (List Int) → (List Int) → (List Int) → Option R) : Option R :=
 br (ltI x24 x23)
 (gd (inB x24 x36.length) <|
 lett (andI .u64 (x35.getD 4 0) (x35.getD 5 0)) fun (v37 : Int) =>
 lett (andI .u64 (notI .u64 (x35.getD 4 0)) (x35.getD 6 0)) fun (v38 : Int) =>
 g1 R (x35.getD 4 0) x29 x25 x26 x27 x28 x29 x30 x31 x32 fun r39 r40 r41 r42 r43 r44 r45 r46 r47 =>
 lett (addI .u64 (x35.getD 7 0) r39) fun (v48 : Int) =>
 lett (addI .u64 v48 (xorI .u64 v37 v38)) fun (v49 : Int) =>
 g2 R x24 x32 fun r50 r51 =>
 lett (addI .u64 (addI .u64 v49 r50) (x36.getD x24.toNat 0)) fun (v52 : Int) =>
 lett (andI .u64 (x35.getD 0 0) (x35.getD 1 0)) fun (v53 : Int) =>
 lett (andI .u64 (x35.getD 0 0) (x35.getD 2 0)) fun (v54 : Int) =>
 lett (andI .u64 (x35.getD 1 0) (x35.getD 2 0)) fun (v55 : Int) =>
 lett (xorI .u64 (xorI .u64 v53 v54) v55) fun (v56 : Int) =>
 g1 R (x35.getD 0 0) x30 x25 x26 x27 x28 x29 x30 x31 x32 fun r57 r58 r59 r60 r61 r62 r63 r64 r65 =>
 lett (addI .u64 v52 (addI .u64 r57 v56)) fun (v66 : Int) =>
 lett (addI .u64 (x35.getD 3 0) v52) fun (v67 : Int) =>
 lett (((((((((List.replicate 8 (0 : Int)).set 0 v66).set 1 (x35.getD 0 0)).set 2 (x35.getD 1 0)).set 3 (x35.getD 2 0)).set 4 v67).set 5 (x35.getD 4 0)).set 6 (x35.getD 5 0)).set 7 (x35.getD 6 0)) fun (v68 : List Int) =>
 next x23 (addI .i64 x24 1) x25 x26 x27 x28 x29 x30 x31 x32 x33 x34 v68 x36)
 (k0 x25 x26 x27 x28 x29 x30 x31 x32 x33 x34 x35)
def Z40 (x23 x24 x25 x26 : Int) (x27 x28 x29 x30 x31 x32 x33 x34 x35 x36 : List Int) : Nat := 100000 + (x23.toNat + x24.toNat + x25.toNat + x26.toNat + x27.length + x28.length + x29.length + x30.length + x31.length + x32.length + x33.length + x34.length + x35.length + x36.length)
def Z3n (g0 : Z10) (g1 : Z11) (g2 : Z23) : Piece := { T := Z7l, shapes := Z7t, step := fun R x next k => Z6d g0 g1 g2 R (x.1.2.2.2.2.2.1) (x.1.2.2.2.2.2.2.1) (x.2.1.1) (x.2.1.2.1) (x.2.1.2.2.1) (x.2.1.2.2.2.1) (x.2.1.2.2.2.2.1) (x.2.1.2.2.2.2.2.1) (x.2.1.2.2.2.2.2.2.2.1) (x.2.2.2.1.1) (x.2.2.2.2.1.1) (x.2.2.2.2.2.1.1) (x.2.2.2.2.2.2.1.1) (x.2.2.2.2.2.2.2.1.1) (fun x23 x24 x25 x26 x27 x28 x29 x30 x31 x32 x33 x34 x35 x36 => next (((), (), (), (), (), x23, x24, ()), ((x25, x26, x27, x28, x29, x30, (), x31, ()), ((), ()), (x32, ()), (x33, ()), (x34, ()), (x35, ()), (x36, ()), ()))) (fun z0 z1 z2 z3 z4 z5 z6 z7 z8 z9 z10 => k.1 (z0, z1, z2, z3, z4, z5, z6, z7, z8, z9, z10)), fuel := fun x => Z40 (x.1.2.2.2.2.2.1) (x.1.2.2.2.2.2.2.1) (x.2.1.1) (x.2.1.2.1) (x.2.1.2.2.1) (x.2.1.2.2.2.1) (x.2.1.2.2.2.2.1) (x.2.1.2.2.2.2.2.1) (x.2.1.2.2.2.2.2.2.2.1) (x.2.2.2.1.1) (x.2.2.2.2.1.1) (x.2.2.2.2.2.1.1) (x.2.2.2.2.2.2.1.1) (x.2.2.2.2.2.2.2.1.1) }
def Zeb (g0 : Z10) (g1 : Z11) (g2 : Z23) (R : Type) (x23 x24 x25 x26 : Int) (x27 x28 x29 x30 x31 x32 x33 x34 x35 x36 : List Int) (k0 : Int → Int → (List Int) → (List Int) → (List Int) → (List Int) → (List Int) → (List Int) → (List Int) → (List Int) → (List Int) → Option R) : Option R :=
 runP Z7l Z7t (Z3n g0 g1 g2).step R (Z40 x23 x24 x25 x26 x27 x28 x29 x30 x31 x32 x33 x34 x35 x36) (((), (), (), (), (), x23, x24, ()), ((x25, x26, x27, x28, x29, x30, (), x31, ()), ((), ()), (x32, ()), (x33, ()), (x34, ()), (x35, ()), (x36, ()), ())) (fun r => k0 (r.1) (r.2.1) (r.2.2.1) (r.2.2.2.1) (r.2.2.2.2.1) (r.2.2.2.2.2.1) (r.2.2.2.2.2.2.1) (r.2.2.2.2.2.2.2.1) (r.2.2.2.2.2.2.2.2.1) (r.2.2.2.2.2.2.2.2.2.1) (r.2.2.2.2.2.2.2.2.2.2), ())
def Z7o : StK := ⟨[(4, .sc (.ptr 3 0 0 0 0)), (6, .sc (.ptr 4 0 0 0 0)), (7, .sc (.ptr 5 0 0 0 0)), (103, .sc (.i .i64))], [(true, [.one (.i .i64), .one (.i .i64), .ints .i64 (some 3), .ints .i64 (some 3), .ints .i64 (some 3), .ints .i64 (some 3), .one (.fn Zd [1]), .ints .u64 (some 8)]), (false, [.one (.ptr 2 0 0 0 0)]), (true, [.ints .u64 (some 80)]), (true, [.ints .u64 (some 8)]), (true, [.ints .u64 (some 8)]), (true, [.ints .u64 (some 8)])]⟩
def Z7r : List PShape := [⟨Int × Int × (List Int) × (List Int) × (List Int) × (List Int) × (List Int) × (List Int) × (List Int) × (List Int), fun r => (.exit 2, ⟨[(4, .c (.sc (.ptr 3 0 0 0 0))), (6, .c (.sc (.ptr 4 0 0 0 0)))], [(0, ⟨true, [.one (.int .i64 r.1), .one (.int .i64 r.2.1), .ints .i64 r.2.2.1 3, .ints .i64 r.2.2.2.1 3, .ints .i64 r.2.2.2.2.1 3, .ints .i64 r.2.2.2.2.2.1 3, .one (.fn Zd [1]), .ints .u64 r.2.2.2.2.2.2.1 8]⟩), (1, ⟨false, [.one (.ptr 2 0 0 0 0)]⟩), (2, ⟨true, [.ints .u64 r.2.2.2.2.2.2.2.1 80]⟩), (3, ⟨true, [.ints .u64 r.2.2.2.2.2.2.2.2.1 8]⟩), (4, ⟨true, [.ints .u64 r.2.2.2.2.2.2.2.2.2 8]⟩)], 5⟩)⟩]
def Z68 (g0 : Z10) (g1 : Z11) (g2 : Z23) (R : Type) (x80 x81 x82 : Int) (x83 x84 x85 x86 x87 x88 x89 x90 x91 : List Int) (next : Int → Int → Int → (List Int) → (List Int) → (List Int) → (List Int) → (List Int) → (List Int) → (List Int) → (List Int) → (List Int) → Option R) (k0 : Int → Int → (List Int) → (List Int) → (List Int) → (List Int) → (List Int) → (List Int) → (List Int) → (List Int) → Option R) : Option R :=
 br (ltI x80 8)
 (gd (inB x80 8) <|
 gd (inB x80 8) <|
 lett (addI .u64 (x89.getD x80.toNat 0) (x91.getD x80.toNat 0)) fun (v92 : Int) =>
 gd (inB x80 8) <|
 next (addI .i64 x80 1) x81 x82 x83 x84 x85 x86 x87 x88 (x89.set x80.toNat v92) x90 x91)
 (k0 x81 x82 x83 x84 x85 x86 x87 x88 x89 x90)
def Z41 (x80 x81 x82 : Int) (x83 x84 x85 x86 x87 x88 x89 x90 x91 : List Int) : Nat := 100000 + (x80.toNat + x81.toNat + x82.toNat + x83.length + x84.length + x85.length + x86.length + x87.length + x88.length + x89.length + x90.length + x91.length)
def Z3m (g0 : Z10) (g1 : Z11) (g2 : Z23) : Piece := { T := Z7o, shapes := Z7r, step := fun R x next k => Z68 g0 g1 g2 R (x.1.2.2.2.1) (x.2.1.1) (x.2.1.2.1) (x.2.1.2.2.1) (x.2.1.2.2.2.1) (x.2.1.2.2.2.2.1) (x.2.1.2.2.2.2.2.1) (x.2.1.2.2.2.2.2.2.2.1) (x.2.2.2.1.1) (x.2.2.2.2.1.1) (x.2.2.2.2.2.1.1) (x.2.2.2.2.2.2.1.1) (fun x80 x81 x82 x83 x84 x85 x86 x87 x88 x89 x90 x91 => next (((), (), (), x80, ()), ((x81, x82, x83, x84, x85, x86, (), x87, ()), ((), ()), (x88, ()), (x89, ()), (x90, ()), (x91, ()), ()))) (fun z0 z1 z2 z3 z4 z5 z6 z7 z8 z9 => k.1 (z0, z1, z2, z3, z4, z5, z6, z7, z8, z9)), fuel := fun x => Z41 (x.1.2.2.2.1) (x.2.1.1) (x.2.1.2.1) (x.2.1.2.2.1) (x.2.1.2.2.2.1) (x.2.1.2.2.2.2.1) (x.2.1.2.2.2.2.2.1) (x.2.1.2.2.2.2.2.2.2.1) (x.2.2.2.1.1) (x.2.2.2.2.1.1) (x.2.2.2.2.2.1.1) (x.2.2.2.2.2.2.1.1) }
def Ze6 (g0 : Z10) (g1 : Z11) (g2 : Z23) (R : Type) (x80 x81 x82 : Int) (x83 x84 x85 x86 x87 x88 x89 x90 x91 : List Int) (k0 : Int → Int → (List Int) → (List Int) → (List Int) → (List Int) → (List Int) → (List Int) → (List Int) → (List Int) → Option R) : Option R :=
 runP Z7o Z7r (Z3m g0 g1 g2).step R (Z41 x80 x81 x82 x83 x84 x85 x86 x87 x88 x89 x90 x91) (((), (), (), x80, ()), ((x81, x82, x83, x84, x85, x86, (), x87, ()), ((), ()), (x88, ()), (x89, ()), (x90, ()), (x91, ()), ())) (fun r => k0 (r.1) (r.2.1) (r.2.2.1) (r.2.2.2.1) (r.2.2.2.2.1) (r.2.2.2.2.2.1) (r.2.2.2.2.2.2.1) (r.2.2.2.2.2.2.2.1) (r.2.2.2.2.2.2.2.2.1) (r.2.2.2.2.2.2.2.2.2), ())
abbrev Z9 := (R : Type) → (List Int) → Str → Int → Int → (List Int) → (List Int) → (List Int) → (List Int) → (List Int) → (List Int) → ((List Int) → Int → Int → (List Int) → (List Int) → (List Int) → (List Int) → (List Int) → (List Int) → Option R) → Option R
def Z8w (g0 : Z10) (g1 : Z11) (g2 : Z23) (R : Type) (a1 : List Int) (a2 : Str) (a3 a4 : Int) (a5 a6 a7 a8 a9 a10 : List Int) (k0 : (List Int) → Int → Int → (List Int) → (List Int) → (List Int) → (List Int) → (List Int) → (List Int) → Option R) : Option R :=
 lett (List.replicate 8 (0 : Int)) fun (v11 : List Int) =>
 lett (List.replicate 8 (0 : Int)) fun (v12 : List Int) =>
 g0 R a2 a3 a4 a5 a6 a7 a8 a9 a10 fun r13 r14 r15 r16 r17 r18 r19 r20 r21 =>
 lett (((r21.length : Nat) : Int)) fun (v22 : Int) =>
 Zeb g0 g1 g2 R v22 0 r13 r14 r15 r16 r17 r18 r19 r20 a1 v11 a1 r21 fun y69 y70 y71 y72 y73 y74 y75 y76 y77 y78 y79 =>
 Ze6 g0 g1 g2 R 0 y69 y70 y71 y72 y73 y74 y75 y76 y77 y78 y79 fun y93 y94 y95 y96 y97 y98 y99 y100 y101 y102 =>
 k0 y101 y93 y94 y95 y96 y97 y98 y99 y100
def Z0 : Z9 := Z8w Zj Zk Z1g
def Z9t : StK := ⟨[(0, .sc (.ptr 0 0 0 0 0)), (1, .sc (.s)), (5, .sc (.sl 3 1 none))], [(true, [.one (.i .i64), .one (.i .i64), .ints .i64 (some 3), .ints .i64 (some 3), .ints .i64 (some 3), .ints .i64 (some 3), .one (.fn Zd [1]), .ints .u64 (some 8)]), (false, [.one (.ptr 2 0 0 0 0)]), (true, [.ints .u64 (some 80)]), (true, [.bytes none])]⟩
def Za2 : List PShape := [⟨Str × Int × Int × (List Int) × (List Int) × (List Int) × (List Int) × (List Int) × (List Int) × Str, fun r => (.exit 0, ⟨[(0, .c (.sc (.ptr 0 0 0 0 0))), (1, .c (.sc (.str r.1))), (5, .c (.sc (.slice 3 1 none none)))], [(0, ⟨true, [.one (.int .i64 r.2.1), .one (.int .i64 r.2.2.1), .ints .i64 r.2.2.2.1 3, .ints .i64 r.2.2.2.2.1 3, .ints .i64 r.2.2.2.2.2.1 3, .ints .i64 r.2.2.2.2.2.2.1 3, .one (.fn Zd [1]), .ints .u64 r.2.2.2.2.2.2.2.1 8]⟩), (1, ⟨false, [.one (.ptr 2 0 0 0 0)]⟩), (2, ⟨true, [.ints .u64 r.2.2.2.2.2.2.2.2.1 80]⟩), (3, ⟨true, [.bytes r.2.2.2.2.2.2.2.2.2 r.2.2.2.2.2.2.2.2.2.length]⟩)], 4⟩)⟩]
def Z84 (g0 : Z7) (g1 : Z9) (R : Type) (x10 : Str) (x11 x12 : Int) (x13 x14 x15 x16 x17 x18 : List Int) (x19 : Str) (next : Str → Int → Int → (List Int) → (List Int) → (List Int) → (List Int) → (List Int) → (List Int) → Str → Option R) (k0 : Str → Int → Int → (List Int) → (List Int) → (List Int) → (List Int) → (List Int) → (List Int) → Str → Option R) : Option R :=
 lett (((x19.length : Nat) : Int)) fun (v20 : Int) =>
 lett (addI .i64 v20 (quoI .i64 x11 4)) fun (v21 : Int) =>
 g0 R x11 x12 x13 x14 x15 x16 x17 x18 fun r22 r23 r24 r25 r26 r27 r28 r29 r30 =>
 gd (!(eqI r22 0)) <|
 br (!(eqI (remI v21 r22) 0))
 (gd (appB x19.length 1 1) <|
 next x10 x11 x12 x13 x14 x15 x16 x17 x18 (x19 ++ ([0] : Str)))
 (k0 x10 x11 x12 x13 x14 x15 x16 x17 x18 x19)
def Z55 (x10 : Str) (x11 x12 : Int) (x13 x14 x15 x16 x17 x18 : List Int) (x19 : Str) : Nat := 100000 + (x10.length + x11.toNat + x12.toNat + x13.length + x14.length + x15.length + x16.length + x17.length + x18.length + x19.length)
def Z4o (g0 : Z7) (g1 : Z9) : Piece := { T := Z9t, shapes := Za2, step := fun R x next k => Z84 g0 g1 R (x.1.2.1) (x.2.1.1) (x.2.1.2.1) (x.2.1.2.2.1) (x.2.1.2.2.2.1) (x.2.1.2.2.2.2.1) (x.2.1.2.2.2.2.2.1) (x.2.1.2.2.2.2.2.2.2.1) (x.2.2.2.1.1) (x.2.2.2.2.1.1) (fun x10 x11 x12 x13 x14 x15 x16 x17 x18 x19 => next (((), x10, (), ()), ((x11, x12, x13, x14, x15, x16, (), x17, ()), ((), ()), (x18, ()), (x19, ()), ()))) (fun z0 z1 z2 z3 z4 z5 z6 z7 z8 z9 => k.1 (z0, z1, z2, z3, z4, z5, z6, z7, z8, z9)), fuel := fun x => Z55 (x.1.2.1) (x.2.1.1) (x.2.1.2.1) (x.2.1.2.2.1) (x.2.1.2.2.2.1) (x.2.1.2.2.2.2.1) (x.2.1.2.2.2.2.2.1) (x.2.1.2.2.2.2.2.2.2.1) (x.2.2.2.1.1) (x.2.2.2.2.1.1) }
def Zhc (g0 : Z7) (g1 : Z9) (R : Type) (x10 : Str) (x11 x12 : Int) (x13 x14 x15 x16 x17 x18 : List Int) (x19 : Str) (k0 : Str → Int → Int → (List Int) → (List Int) → (List Int) → (List Int) → (List Int) → (List Int) → Str → Option R) : Option R :=
 runP Z9t Za2 (Z4o g0 g1).step R (Z55 x10 x11 x12 x13 x14 x15 x16 x17 x18 x19) (((), x10, (), ()), ((x11, x12, x13, x14, x15, x16, (), x17, ()), ((), ()), (x18, ()), (x19, ()), ())) (fun r => k0 (r.1) (r.2.1) (r.2.2.1) (r.2.2.2.1) (r.2.2.2.2.1) (r.2.2.2.2.2.1) (r.2.2.2.2.2.2.1) (r.2.2.2.2.2.2.2.1) (r.2.2.2.2.2.2.2.2.1) (r.2.2.2.2.2.2.2.2.2), ())
def Z9y : StK := ⟨[(0, .sc (.ptr 0 0 0 0 0)), (1, .sc (.s)), (5, .sc (.sl 3 1 none)), (6, .sc (.i .i64))], [(true, [.one (.i .i64), .one (.i .i64), .ints .i64 (some 3), .ints .i64 (some 3), .ints .i64 (some 3), .ints .i64 (some 3), .one (.fn Zd [1]), .ints .u64 (some 8)]), (false, [.one (.ptr 2 0 0 0 0)]), (true, [.ints .u64 (some 80)]), (true, [.bytes none])]⟩
def Za0 : List PShape := [⟨Int × Int × (List Int) × (List Int) × (List Int) × (List Int) × (List Int) × (List Int) × Str, fun r => (.exit 2, ⟨[(0, .c (.sc (.ptr 0 0 0 0 0))), (5, .c (.sc (.slice 3 1 none none)))], [(0, ⟨true, [.one (.int .i64 r.1), .one (.int .i64 r.2.1), .ints .i64 r.2.2.1 3, .ints .i64 r.2.2.2.1 3, .ints .i64 r.2.2.2.2.1 3, .ints .i64 r.2.2.2.2.2.1 3, .one (.fn Zd [1]), .ints .u64 r.2.2.2.2.2.2.1 8]⟩), (1, ⟨false, [.one (.ptr 2 0 0 0 0)]⟩), (2, ⟨true, [.ints .u64 r.2.2.2.2.2.2.2.1 80]⟩), (3, ⟨true, [.bytes r.2.2.2.2.2.2.2.2 r.2.2.2.2.2.2.2.2.length]⟩)], 4⟩)⟩]
def Z87 (g0 : Z7) (g1 : Z9) (R : Type) (x42 : Str) (x43 x44 x45 : Int) (x46 x47 x48 x49 x50 x51 : List Int) (x52 : Str) (next : Str → Int → Int → Int → (List Int) → (List Int) → (List Int) → (List Int) → (List Int) → (List Int) → Str → Option R) (k0 : Int → Int → (List Int) → (List Int) → (List Int) → (List Int) → (List Int) → (List Int) → Str → Option R) : Option R :=
 br (leI 0 x43)
 (lett (((x42.length : Nat) : Int)) fun (v53 : Int) =>
 lett (mulI .u64 (cvtI .u64 v53) 8) fun (v54 : Int) =>
 gd (leI 0 (mulI .i64 8 x43)) <|
 lett (shrI .u64 v54 (mulI .i64 8 x43)) fun (v55 : Int) =>
 lett ([UInt8.ofNat ((cvtI .u8 v55).toNat)]) fun (v56 : Str) =>
 gd (appB x52.length v56.length 1) <|
 next x42 (subI .i64 x43 1) x44 x45 x46 x47 x48 x49 x50 x51 (x52 ++ v56))
 (k0 x44 x45 x46 x47 x48 x49 x50 x51 x52)
def Z51 (x42 : Str) (x43 x44 x45 : Int) (x46 x47 x48 x49 x50 x51 : List Int) (x52 : Str) : Nat := 100000 + (x42.length + x43.toNat + x44.toNat + x45.toNat + x46.length + x47.length + x48.length + x49.length + x50.length + x51.length + x52.length)
def Z4r (g0 : Z7) (g1 : Z9) : Piece := { T := Z9y, shapes := Za0, step := fun R x next k => Z87 g0 g1 R (x.1.2.1) (x.1.2.2.2.1) (x.2.1.1) (x.2.1.2.1) (x.2.1.2.2.1) (x.2.1.2.2.2.1) (x.2.1.2.2.2.2.1) (x.2.1.2.2.2.2.2.1) (x.2.1.2.2.2.2.2.2.2.1) (x.2.2.2.1.1) (x.2.2.2.2.1.1) (fun x42 x43 x44 x45 x46 x47 x48 x49 x50 x51 x52 => next (((), x42, (), x43, ()), ((x44, x45, x46, x47, x48, x49, (), x50, ()), ((), ()), (x51, ()), (x52, ()), ()))) (fun z0 z1 z2 z3 z4 z5 z6 z7 z8 => k.1 (z0, z1, z2, z3, z4, z5, z6, z7, z8)), fuel := fun x => Z51 (x.1.2.1) (x.1.2.2.2.1) (x.2.1.1) (x.2.1.2.1) (x.2.1.2.2.1) (x.2.1.2.2.2.1) (x.2.1.2.2.2.2.1) (x.2.1.2.2.2.2.2.1) (x.2.1.2.2.2.2.2.2.2.1) (x.2.2.2.1.1) (x.2.2.2.2.1.1) }
def Zhn (g0 : Z7) (g1 : Z9) (R : Type) (x42 : Str) (x43 x44 x45 : Int) (x46 x47 x48 x49 x50 x51 : List Int) (x52 : Str) (k0 : Int → Int → (List Int) → (List Int) → (List Int) → (List Int) → (List Int) → (List Int) → Str → Option R) : Option R :=
 runP Z9y Za0 (Z4r g0 g1).step R (Z51 x42 x43 x44 x45 x46 x47 x48 x49 x50 x51 x52) (((), x42, (), x43, ()), ((x44, x45, x46, x47, x48, x49, (), x50, ()), ((), ()), (x51, ()), (x52, ()), ())) (fun r => k0 (r.1) (r.2.1) (r.2.2.1) (r.2.2.2.1) (r.2.2.2.2.1) (r.2.2.2.2.2.1) (r.2.2.2.2.2.2.1) (r.2.2.2.2.2.2.2.1) (r.2.2.2.2.2.2.2.2), ())
def Za9 : StK := ⟨[(0, .sc (.ptr 0 0 0 0 0)), (5, .sc (.sl 3 1 none)), (7, .sc (.ptr 4 0 0 0 0)), (8, .sc (.i .i64))], [(true, [.one (.i .i64), .one (.i .i64), .ints .i64 (some 3), .ints .i64 (some 3), .ints .i64 (some 3), .ints .i64 (some 3), .one (.fn Zd [1]), .ints .u64 (some 8)]), (false, [.one (.ptr 2 0 0 0 0)]), (true, [.ints .u64 (some 80)]), (true, [.bytes none]), (true, [.ints .u64 (some 8)])]⟩
def Z9z : List PShape := [⟨Int × Int × (List Int) × (List Int) × (List Int) × (List Int) × (List Int) × (List Int) × (List Int), fun r => (.exit 4, ⟨[(0, .c (.sc (.ptr 0 0 0 0 0))), (7, .c (.sc (.ptr 3 0 0 0 0)))], [(0, ⟨true, [.one (.int .i64 r.1), .one (.int .i64 r.2.1), .ints .i64 r.2.2.1 3, .ints .i64 r.2.2.2.1 3, .ints .i64 r.2.2.2.2.1 3, .ints .i64 r.2.2.2.2.2.1 3, .one (.fn Zd [1]), .ints .u64 r.2.2.2.2.2.2.1 8]⟩), (1, ⟨false, [.one (.ptr 2 0 0 0 0)]⟩), (2, ⟨true, [.ints .u64 r.2.2.2.2.2.2.2.1 80]⟩), (3, ⟨true, [.ints .u64 r.2.2.2.2.2.2.2.2 8]⟩)], 4⟩)⟩]
def Z8c (g0 : Z7) (g1 : Z9) (R : Type) (x67 x68 x69 : Int) (x70 x71 x72 x73 x74 x75 : List Int) (x76 : Str) (x77 : List Int) (next : Int → Int → Int → (List Int) → (List Int) → (List Int) → (List Int) → (List Int) → (List Int) → Str → (List Int) → Option R) (k0 : Int → Int → (List Int) → (List Int) → (List Int) → (List Int) → (List Int) → (List Int) → (List Int) → Option R) : Option R :=
 lett (((x76.length : Nat) : Int)) fun (v78 : Int) =>
 br (ltI x67 v78)
 (g0 R x68 x69 x70 x71 x72 x73 x74 x75 fun r79 r80 r81 r82 r83 r84 r85 r86 r87 =>
 gd (leB (addI .i64 x67 r79) x76.length) <|
 gd (leB x67 ((addI .i64 x67 r79).toNat)) <|
 lett ((x76.drop (0 + x67.toNat)).take (((addI .i64 x67 r79).toNat) - x67.toNat)) fun (v88 : Str) =>
 g1 R x77 v88 x68 x69 x70 x71 x72 x73 x74 x75 fun r89 r90 r91 r92 r93 r94 r95 r96 r97 =>
 g0 R r90 r91 r92 r93 r94 r95 r96 r97 fun r98 r99 r100 r101 r102 r103 r104 r105 r106 =>
 next (addI .i64 x67 r98) r90 r91 r92 r93 r94 r95 r96 r97 x76 r89)
 (k0 x68 x69 x70 x71 x72 x73 x74 x75 x77)
def Z57 (x67 x68 x69 : Int) (x70 x71 x72 x73 x74 x75 : List Int) (x76 : Str) (x77 : List Int) : Nat := 100000 + (x67.toNat + x68.toNat + x69.toNat + x70.length + x71.length + x72.length + x73.length + x74.length + x75.length + x76.length + x77.length)
def Z4n (g0 : Z7) (g1 : Z9) : Piece := { T := Za9, shapes := Z9z, step := fun R x next k => Z8c g0 g1 R (x.1.2.2.2.1) (x.2.1.1) (x.2.1.2.1) (x.2.1.2.2.1) (x.2.1.2.2.2.1) (x.2.1.2.2.2.2.1) (x.2.1.2.2.2.2.2.1) (x.2.1.2.2.2.2.2.2.2.1) (x.2.2.2.1.1) (x.2.2.2.2.1.1) (x.2.2.2.2.2.1.1) (fun x67 x68 x69 x70 x71 x72 x73 x74 x75 x76 x77 => next (((), (), (), x67, ()), ((x68, x69, x70, x71, x72, x73, (), x74, ()), ((), ()), (x75, ()), (x76, ()), (x77, ()), ()))) (fun z0 z1 z2 z3 z4 z5 z6 z7 z8 => k.1 (z0, z1, z2, z3, z4, z5, z6, z7, z8)), fuel := fun x => Z57 (x.1.2.2.2.1) (x.2.1.1) (x.2.1.2.1) (x.2.1.2.2.1) (x.2.1.2.2.2.1) (x.2.1.2.2.2.2.1) (x.2.1.2.2.2.2.2.1) (x.2.1.2.2.2.2.2.2.2.1) (x.2.2.2.1.1) (x.2.2.2.2.1.1) (x.2.2.2.2.2.1.1) }
def Zhz (g0 : Z7) (g1 : Z9) (R : Type) (x67 x68 x69 : Int) (x70 x71 x72 x73 x74 x75 : List Int) (x76 : Str) (x77 : List Int) (k0 : Int → Int → (List Int) → (List Int) → (List Int) → (List Int) → (List Int) → (List Int) → (List Int) → Option R) : Option R :=
 runP Za9 Z9z (Z4n g0 g1).step R (Z57 x67 x68 x69 x70 x71 x72 x73 x74 x75 x76 x77) (((), (), (), x67, ()), ((x68, x69, x70, x71, x72, x73, (), x74, ()), ((), ()), (x75, ()), (x76, ()), (x77, ()), ())) (fun r => k0 (r.1) (r.2.1) (r.2.2.1) (r.2.2.2.1) (r.2.2.2.2.1) (r.2.2.2.2.2.1) (r.2.2.2.2.2.2.1) (r.2.2.2.2.2.2.2.1) (r.2.2.2.2.2.2.2.2), ())
def Za6 : StK := ⟨[(0, .sc (.ptr 0 0 0 0 0)), (9, .sc (.sl 3 1 none)), (11, .sc (.i .u64)), (12, .sc (.i .i64)), (77, .agg [.ints .u64 (some 8)]), (78, .sc (.i .i64))], [(true, [.one (.i .i64), .one (.i .i64), .ints .i64 (some 3), .ints .i64 (some 3), .ints .i64 (some 3), .ints .i64 (some 3), .one (.fn Zd [1]), .ints .u64 (some 8)]), (false, [.one (.ptr 2 0 0 0 0)]), (true, [.ints .u64 (some 80)]), (true, [.bytes none])]⟩
def Zaa : List PShape := [⟨(List Int) × Int × Int × Int × (List Int) × (List Int) × (List Int) × (List Int) × (List Int) × (List Int) × Str, fun r => (.exit 8, ⟨[(0, .c (.sc (.ptr 0 0 0 0 0))), (9, .c (.sc (.slice 3 1 none none))), (77, .c (.agg [.ints .u64 r.1 8])), (78, .c (.sc (.int .i64 r.2.1)))], [(0, ⟨true, [.one (.int .i64 r.2.2.1), .one (.int .i64 r.2.2.2.1), .ints .i64 r.2.2.2.2.1 3, .ints .i64 r.2.2.2.2.2.1 3, .ints .i64 r.2.2.2.2.2.2.1 3, .ints .i64 r.2.2.2.2.2.2.2.1 3, .one (.fn Zd [1]), .ints .u64 r.2.2.2.2.2.2.2.2.1 8]⟩), (1, ⟨false, [.one (.ptr 2 0 0 0 0)]⟩), (2, ⟨true, [.ints .u64 r.2.2.2.2.2.2.2.2.2.1 80]⟩), (3, ⟨true, [.bytes r.2.2.2.2.2.2.2.2.2.2 r.2.2.2.2.2.2.2.2.2.2.length]⟩)], 4⟩)⟩]
def Z8h (g0 : Z7) (g1 : Z9) (R : Type) (x177 x178 : Int) (x179 : List Int) (x180 x181 x182 : Int) (x183 x184 x185 x186 x187 x188 : List Int) (x189 : Str) (next : Int → Int → (List Int) → Int → Int → Int → (List Int) → (List Int) → (List Int) → (List Int) → (List Int) → (List Int) → Str → Option R) (k0 : (List Int) → Int → Int → Int → (List Int) → (List Int) → (List Int) → (List Int) → (List Int) → (List Int) → Str → Option R) : Option R :=
 br (leI 0 x178)
 (gd (leI 0 x178) <|
 lett (cvtI .u8 (shrI .u64 x177 x178)) fun (v190 : Int) =>
 gd (appB x189.length ([UInt8.ofNat v190.toNat].length) 1) <|
 lett (x189 ++ [UInt8.ofNat v190.toNat]) fun (v191 : Str) =>
 next x177 (subI .i64 x178 8) x179 x180 x181 x182 x183 x184 x185 x186 x187 x188 v191)
 (k0 x179 x180 x181 x182 x183 x184 x185 x186 x187 x188 x189)
def Z52 (x177 x178 : Int) (x179 : List Int) (x180 x181 x182 : Int) (x183 x184 x185 x186 x187 x188 : List Int) (x189 : Str) : Nat := 100000 + (x177.toNat + x178.toNat + x179.length + x180.toNat + x181.toNat + x182.toNat + x183.length + x184.length + x185.length + x186.length + x187.length + x188.length + x189.length)
def Z4p (g0 : Z7) (g1 : Z9) : Piece := { T := Za6, shapes := Zaa, step := fun R x next k => Z8h g0 g1 R (x.1.2.2.1) (x.1.2.2.2.1) (x.1.2.2.2.2.1.1) (x.1.2.2.2.2.2.1) (x.2.1.1) (x.2.1.2.1) (x.2.1.2.2.1) (x.2.1.2.2.2.1) (x.2.1.2.2.2.2.1) (x.2.1.2.2.2.2.2.1) (x.2.1.2.2.2.2.2.2.2.1) (x.2.2.2.1.1) (x.2.2.2.2.1.1) (fun x177 x178 x179 x180 x181 x182 x183 x184 x185 x186 x187 x188 x189 => next (((), (), x177, x178, (x179, ()), x180, ()), ((x181, x182, x183, x184, x185, x186, (), x187, ()), ((), ()), (x188, ()), (x189, ()), ()))) (fun z0 z1 z2 z3 z4 z5 z6 z7 z8 z9 z10 => k.1 (z0, z1, z2, z3, z4, z5, z6, z7, z8, z9, z10)), fuel := fun x => Z52 (x.1.2.2.1) (x.1.2.2.2.1) (x.1.2.2.2.2.1.1) (x.1.2.2.2.2.2.1) (x.2.1.1) (x.2.1.2.1) (x.2.1.2.2.1) (x.2.1.2.2.2.1) (x.2.1.2.2.2.2.1) (x.2.1.2.2.2.2.2.1) (x.2.1.2.2.2.2.2.2.2.1) (x.2.2.2.1.1) (x.2.2.2.2.1.1) }
def Zhd (g0 : Z7) (g1 : Z9) (R : Type) (x177 x178 : Int) (x179 : List Int) (x180 x181 x182 : Int) (x183 x184 x185 x186 x187 x188 : List Int) (x189 : Str) (k0 : (List Int) → Int → Int → Int → (List Int) → (List Int) → (List Int) → (List Int) → (List Int) → (List Int) → Str → Option R) : Option R :=
 runP Za6 Zaa (Z4p g0 g1).step R (Z52 x177 x178 x179 x180 x181 x182 x183 x184 x185 x186 x187 x188 x189) (((), (), x177, x178, (x179, ()), x180, ()), ((x181, x182, x183, x184, x185, x186, (), x187, ()), ((), ()), (x188, ()), (x189, ()), ())) (fun r => k0 (r.1) (r.2.1) (r.2.2.1) (r.2.2.2.1) (r.2.2.2.2.1) (r.2.2.2.2.2.1) (r.2.2.2.2.2.2.1) (r.2.2.2.2.2.2.2.1) (r.2.2.2.2.2.2.2.2.1) (r.2.2.2.2.2.2.2.2.2.1) (r.2.2.2.2.2.2.2.2.2.2), ())
def Za3 : StK := ⟨[(0, .sc (.ptr 0 0 0 0 0)), (9, .sc (.sl 3 1 none)), (77, .agg [.ints .u64 (some 8)]), (78, .sc (.i .i64))], [(true, [.one (.i .i64), .one (.i .i64), .ints .i64 (some 3), .ints .i64 (some 3), .ints .i64 (some 3), .ints .i64 (some 3), .one (.fn Zd [1]), .ints .u64 (some 8)]), (false, [.one (.ptr 2 0 0 0 0)]), (true, [.ints .u64 (some 80)]), (true, [.bytes none])]⟩
def Z9u : List PShape := [⟨Int × Int × (List Int) × (List Int) × (List Int) × (List Int) × (List Int) × (List Int) × Str, fun r => (.exit 6, ⟨[(9, .c (.sc (.slice 3 1 none none)))], [(0, ⟨true, [.one (.int .i64 r.1), .one (.int .i64 r.2.1), .ints .i64 r.2.2.1 3, .ints .i64 r.2.2.2.1 3, .ints .i64 r.2.2.2.2.1 3, .ints .i64 r.2.2.2.2.2.1 3, .one (.fn Zd [1]), .ints .u64 r.2.2.2.2.2.2.1 8]⟩), (1, ⟨false, [.one (.ptr 2 0 0 0 0)]⟩), (2, ⟨true, [.ints .u64 r.2.2.2.2.2.2.2.1 80]⟩), (3, ⟨true, [.bytes r.2.2.2.2.2.2.2.2 r.2.2.2.2.2.2.2.2.length]⟩)], 4⟩)⟩]
def Z8b (g0 : Z7) (g1 : Z9) (R : Type) (x166 : List Int) (x167 x168 x169 : Int) (x170 x171 x172 x173 x174 x175 : List Int) (x176 : Str) (next : (List Int) → Int → Int → Int → (List Int) → (List Int) → (List Int) → (List Int) → (List Int) → (List Int) → Str → Option R) (k0 : Int → Int → (List Int) → (List Int) → (List Int) → (List Int) → (List Int) → (List Int) → Str → Option R) : Option R :=
 br (ltI x167 8)
 (gd (inB x167 8) <|
 Zhd g0 g1 R (x166.getD x167.toNat 0) (subI .i64 x168 8) x166 x167 x168 x169 x170 x171 x172 x173 x174 x175 x176 fun y192 y193 y194 y195 y196 y197 y198 y199 y200 y201 y202 =>
 next y192 (addI .i64 y193 1) y194 y195 y196 y197 y198 y199 y200 y201 y202)
 (k0 x168 x169 x170 x171 x172 x173 x174 x175 x176)
def Z56 (x166 : List Int) (x167 x168 x169 : Int) (x170 x171 x172 x173 x174 x175 : List Int) (x176 : Str) : Nat := 100000 + (x166.length + x167.toNat + x168.toNat + x169.toNat + x170.length + x171.length + x172.length + x173.length + x174.length + x175.length + x176.length)
def Z4l (g0 : Z7) (g1 : Z9) : Piece := { T := Za3, shapes := Z9u, step := fun R x next k => Z8b g0 g1 R (x.1.2.2.1.1) (x.1.2.2.2.1) (x.2.1.1) (x.2.1.2.1) (x.2.1.2.2.1) (x.2.1.2.2.2.1) (x.2.1.2.2.2.2.1) (x.2.1.2.2.2.2.2.1) (x.2.1.2.2.2.2.2.2.2.1) (x.2.2.2.1.1) (x.2.2.2.2.1.1) (fun x166 x167 x168 x169 x170 x171 x172 x173 x174 x175 x176 => next (((), (), (x166, ()), x167, ()), ((x168, x169, x170, x171, x172, x173, (), x174, ()), ((), ()), (x175, ()), (x176, ()), ()))) (fun z0 z1 z2 z3 z4 z5 z6 z7 z8 => k.1 (z0, z1, z2, z3, z4, z5, z6, z7, z8)), fuel := fun x => Z56 (x.1.2.2.1.1) (x.1.2.2.2.1) (x.2.1.1) (x.2.1.2.1) (x.2.1.2.2.1) (x.2.1.2.2.2.1) (x.2.1.2.2.2.2.1) (x.2.1.2.2.2.2.2.1) (x.2.1.2.2.2.2.2.2.2.1) (x.2.2.2.1.1) (x.2.2.2.2.1.1) }
def Zhs (g0 : Z7) (g1 : Z9) (R : Type) (x166 : List Int) (x167 x168 x169 : Int) (x170 x171 x172 x173 x174 x175 : List Int) (x176 : Str) (k0 : Int → Int → (List Int) → (List Int) → (List Int) → (List Int) → (List Int) → (List Int) → Str → Option R) : Option R :=
 runP Za3 Z9u (Z4l g0 g1).step R (Z56 x166 x167 x168 x169 x170 x171 x172 x173 x174 x175 x176) (((), (), (x166, ()), x167, ()), ((x168, x169, x170, x171, x172, x173, (), x174, ()), ((), ()), (x175, ()), (x176, ()), ())) (fun r => k0 (r.1) (r.2.1) (r.2.2.1) (r.2.2.2.1) (r.2.2.2.2.1) (r.2.2.2.2.2.1) (r.2.2.2.2.2.2.1) (r.2.2.2.2.2.2.2.1) (r.2.2.2.2.2.2.2.2), ())
abbrev Z8q := (R : Type) → Str → Int → Int → (List Int) → (List Int) → (List Int) → (List Int) → (List Int) → (List Int) → (Str → Int → Int → (List Int) → (List Int) → (List Int) → (List Int) → (List Int) → (List Int) → Option R) → Option R
def Zbm (g0 : Z7) (g1 : Z9) (R : Type) (a1 : Str) (a2 a3 : Int) (a4 a5 a6 a7 a8 a9 : List Int) (k0 : Str → Int → Int → (List Int) → (List Int) → (List Int) → (List Int) → (List Int) → (List Int) → Option R) : Option R :=
 gd (appB a1.length 1 1) <|
 Zhc g0 g1 R a1 a2 a3 a4 a5 a6 a7 a8 a9 (a1 ++ ([128] : Str)) fun y31 y32 y33 y34 y35 y36 y37 y38 y39 y40 =>
 lett (subI .i64 (quoI .i64 y32 4) 1) fun (v41 : Int) =>
 Zhn g0 g1 R y31 v41 y32 y33 y34 y35 y36 y37 y38 y39 y40 fun y57 y58 y59 y60 y61 y62 y63 y64 y65 =>
 lett (List.replicate 8 (0 : Int)) fun (v66 : List Int) =>
 Zhz g0 g1 R 0 y57 y58 y59 y60 y61 y62 y63 y64 y65 y63 fun y107 y108 y109 y110 y111 y112 y113 y114 y115 =>
 Zhs g0 g1 R y115 0 y107 y108 y109 y110 y111 y112 y113 y114 ([] : Str) fun y203 y204 y205 y206 y207 y208 y209 y210 y211 =>
 k0 y211 y203 y204 y205 y206 y207 y208 y209 y210
def Z5s : Z8q := Zbm Z1 Z0
abbrev Zg5 := (R : Type) → Str → (Str → Option R) → Option R
def Zuk (g0 : Zqd) (g1 : Z8q) (R : Type) (a1 : Str) (k0 : Str → Option R) : Option R :=
 g0 R fun r2 r3 r4 r5 r6 r7 r8 r9 =>
 g1 R a1 r2 r3 r4 r5 r6 r7 r8 r9 fun r10 r11 r12 r13 r14 r15 r16 r17 r18 =>
 k0 r10
def Zcz : Zg5 := Zuk Zk7 Z5s
abbrev Z4e := (R : Type) → Int → Str → (Str → Int → Str → Option R) → Option R
def Zhh (g0 : Zq6) (g1 : Zg5) (R : Type) (a1 : Int) (a2 : Str) (k0 : Str → Int → Str → Option R) : Option R :=
 br (eqI a1 32)
 (g0 R a2 fun r3 =>
 k0 r3 a1 a2)
 (g1 R a2 fun r4 =>
 k0 r4 a1 a2)
def Z2z : Z4e := Zhh Zxf Zcz
end
noncomputable section
def Zgc : StK := ⟨[(3, .sc (.ptr 1 0 0 0 0)), (13, .sc (.sl 0 1 none)), (14, .sc (.i .i64)), (15, .sc (.i .i64))], [(true, [.strs none]), (true, [.one (.i .i64), .one (.sl 2 1 none)]), (true, [.bytes none])]⟩
def Zgp : List PShape := [⟨(List Str) × Int × Str, fun r => (.exit 0, ⟨[(3, .c (.sc (.ptr 1 0 0 0 0)))], [(0, ⟨true, [.strs r.1 r.1.length]⟩), (1, ⟨true, [.one (.int .i64 r.2.1), .one (.slice 2 1 none none)]⟩), (2, ⟨true, [.bytes r.2.2 r.2.2.length]⟩)], 3⟩)⟩]
def Zcm (g0 : Z9c) (g1 : Z3b) (g2 : Z3c) (g3 : Z4e) (g4 : Z96) (R : Type) (x12 x13 : Int) (x14 : List Str) (x15 : Int) (x16 : Str) (next : Int → Int → (List Str) → Int → Str → Option R) (k0 : (List Str) → Int → Str → Option R) : Option R :=
 br (ltI x13 x12)
 (gd (inB x13 x14.length) <|
 g2 R (x14.getD x13.toNat []) x15 x16 fun r17 r18 r19 =>
 next x12 (addI .i64 x13 1) x14 r18 r19)
 (k0 x14 x15 x16)
def Z8i (x12 x13 : Int) (x14 : List Str) (x15 : Int) (x16 : Str) : Nat := 100000 + (x12.toNat + x13.toNat + x14.length + x15.toNat + x16.length)
def Z8x (g0 : Z9c) (g1 : Z3b) (g2 : Z3c) (g3 : Z4e) (g4 : Z96) : Piece := { T := Zgc, shapes := Zgp, step := fun R x next k => Zcm g0 g1 g2 g3 g4 R (x.1.2.2.1) (x.1.2.2.2.1) (x.2.1.1) (x.2.2.1.1) (x.2.2.2.1.1) (fun x12 x13 x14 x15 x16 => next (((), (), x12, x13, ()), ((x14, ()), (x15, (), ()), (x16, ()), ()))) (fun z0 z1 z2 => k.1 (z0, z1, z2)), fuel := fun x => Z8i (x.1.2.2.1) (x.1.2.2.2.1) (x.2.1.1) (x.2.2.1.1) (x.2.2.2.1.1) }
def Zqq (g0 : Z9c) (g1 : Z3b) (g2 : Z3c) (g3 : Z4e) (g4 : Z96) (R : Type) (x12 x13 : Int) (x14 : List Str) (x15 : Int) (x16 : Str) (k0 : (List Str) → Int → Str → Option R) : Option R :=
 runP Zgc Zgp (Z8x g0 g1 g2 g3 g4).step R (Z8i x12 x13 x14 x15 x16) (((), (), x12, x13, ()), ((x14, ()), (x15, (), ()), (x16, ()), ())) (fun r => k0 (r.1) (r.2.1) (r.2.2), ())
abbrev Z8g := (R : Type) → (List Str) → (Str → (List Str) → Option R) → Option R
def Zj2 (g0 : Z9c) (g1 : Z3b) (g2 : Z3c) (g3 : Z4e) (g4 : Z96) (R : Type) (a1 : List Str) (k0 : Str → (List Str) → Option R) : Option R :=
 g0 R fun r2 r3 =>
 lett (((a1.length : Nat) : Int)) fun (v4 : Int) =>
 Zqq g0 g1 g2 g3 g4 R v4 0 a1 r3 ([] : Str) fun y20 y21 y22 =>
 g3 R y21 y22 fun r23 r24 r25 =>
 g4 R r23 fun r26 r27 =>
 k0 r26 y20
def Z64 : Z8g := Zj2 Z5p Z3d Z2a Z2z Z5r
abbrev Zmr := (R : Type) → Str → Str → Str → (Int → Option R) → Option R
def Zrn (g0 : Zln) (g1 : Zkj) (g2 : Zg6) (g3 : Z85) (g4 : Z8g) (g5 : Zf3) (g6 : Zfd) (g7 : Z6n) (R : Type) (a1 a2 a3 : Str) (k0 : Int → Option R) : Option R :=
 g0 R a1 fun r4 r5 r6 r7 r8 =>
 lett (List.replicate 5 (0 : Int)) fun (v9 : List Int) =>
 lett (List.replicate 5 (0 : Int)) fun (v10 : List Int) =>
 lett (List.replicate 5 (0 : Int)) fun (v11 : List Int) =>
 lett (List.replicate 5 (0 : Int)) fun (v12 : List Int) =>
 br (!(eqI r8 0))
 (k0 21)
 (lett (((a3.length : Nat) : Int)) fun (v13 : Int) =>
 br (!(eqI v13 64))
 (k0 22)
 (gd (leB 32 a3.length) <|
 g1 R (a3.drop 32) fun r14 =>
 br (!r14)
 (k0 22)
 (gd (leB 32 a3.length) <|
 gd (leB 32 a3.length) <|
 lett (List.replicate 5 (0 : Int)) fun (v15 : List Int) =>
 lett (List.replicate 5 (0 : Int)) fun (v16 : List Int) =>
 lett (List.replicate 5 (0 : Int)) fun (v17 : List Int) =>
 lett (List.replicate 5 (0 : Int)) fun (v18 : List Int) =>
 g2 R fun r19 r20 r21 r22 =>
 g3 R r19 r20 r21 r22 (a3.drop 32) fun r23 r24 r25 r26 r27 =>
 lett (List.replicate 5 (0 : Int)) fun (v28 : List Int) =>
 lett (List.replicate 5 (0 : Int)) fun (v29 : List Int) =>
 lett (List.replicate 5 (0 : Int)) fun (v30 : List Int) =>
 lett (List.replicate 5 (0 : Int)) fun (v31 : List Int) =>
 g4 R ([a3.take 32, a1, a2] : List Str) fun r32 r33 =>
 g3 R r4 r5 r6 r7 r32 fun r34 r35 r36 r37 r38 =>
 g5 R r34 r35 r36 r37 fun r39 r40 r41 r42 =>
 g6 R r23 r24 r25 r26 r39 r40 r41 r42 fun r43 r44 r45 r46 =>
 g7 R r43 r44 r45 r46 fun r47 =>
 br (!(eqS r47 (a3.take 32)))
 (k0 22)
 (k0 0))))
def Ze3 : Zmr := Zrn Zhj Zg0 Zcu Z6c Z64 Zbd Zax Z4m
abbrev Zg3 := (R : Type) → Str → (Str → Option R) → Option R
def Zv8 (g0 : Zg6) (g1 : Z85) (g2 : Z6n) (R : Type) (a1 : Str) (k0 : Str → Option R) : Option R :=
 g0 R fun r2 r3 r4 r5 =>
 g1 R r2 r3 r4 r5 a1 fun r6 r7 r8 r9 r10 =>
 lett (List.replicate 5 (0 : Int)) fun (v11 : List Int) =>
 lett (List.replicate 5 (0 : Int)) fun (v12 : List Int) =>
 lett (List.replicate 5 (0 : Int)) fun (v13 : List Int) =>
 lett (List.replicate 5 (0 : Int)) fun (v14 : List Int) =>
 g2 R r6 r7 r8 r9 fun r15 =>
 k0 r15
def Zck : Zg3 := Zv8 Zcu Z6c Z4m
abbrev Zg2 := (R : Type) → Str → (Str → Str → Str → Int → Option R) → Option R
def Ztw (g0 : Zg5) (g1 : Zg3) (R : Type) (a1 : Str) (k0 : Str → Str → Str → Int → Option R) : Option R :=
 lett (((a1.length : Nat) : Int)) fun (v2 : Int) =>
 br (!(eqI v2 32))
 (k0 ([] : Str) ([] : Str) ([] : Str) 21)
 (g0 R a1 fun r3 =>
 gd (inB 0 r3.length) <|
 lett (((r3.getD 0 0).toNat : Int)) fun (v4 : Int) =>
 gd (inB 0 r3.length) <|
 lett (r3.set 0 (UInt8.ofNat ((andNotI .u8 v4 7).toNat))) fun (v5 : Str) =>
 gd (inB 31 v5.length) <|
 lett (((v5.getD 31 0).toNat : Int)) fun (v6 : Int) =>
 lett (orI .u8 (andI .u8 v6 127) 64) fun (v7 : Int) =>
 gd (inB 31 v5.length) <|
 lett (v5.set 31 (UInt8.ofNat v7.toNat)) fun (v8 : Str) =>
 gd (leB 32 v8.length) <|
 gd (leB 32 v8.length) <|
 lett ((v8.drop 32).take (v8.length - 32)) fun (v9 : Str) =>
 g1 R ((v8.drop 0).take 32) fun r10 =>
 k0 ((v8.drop 0).take 32) v9 r10 0)
def Zcj : Zg2 := Ztw Zcz Zck
abbrev Ze0 := (R : Type) → Str → (Str → Int → Option R) → Option R
def Zrk (g0 : Zg2) (R : Type) (a1 : Str) (k0 : Str → Int → Option R) : Option R :=
 g0 R a1 fun r2 r3 r4 r5 =>
 k0 r4 r5
def Z91 : Ze0 := Zrk Zcj
abbrev Zta := (R : Type) → Str → Str → (Str → Int → Option R) → Option R
def Zx3 (g0 : Zg2) (g1 : Z8g) (g2 : Zg3) (g3 : Zi5) (R : Type) (a1 a2 : Str) (k0 : Str → Int → Option R) : Option R :=
 g0 R a1 fun r3 r4 r5 r6 =>
 br (!(eqI r6 0))
 (k0 ([] : Str) r6)
 (g1 R ([r4, a2] : List Str) fun r7 r8 =>
 g2 R r7 fun r9 =>
 g1 R ([r9, r5, a2] : List Str) fun r10 r11 =>
 g3 R r10 r3 r7 fun r12 r13 =>
 br (!(eqI r13 0))
 (k0 ([] : Str) r13)
 (gd (catB r9 r12) <|
 k0 (r9 ++ r12) 0))
def Zi9 : Zta := Zx3 Zcj Z64 Zck Zei
end
noncomputable section
abbrev Ztu := (R : Type) → Int → (Int → Int → Int → Option R) → Option R
def Zx6 (R : Type) (a1 : Int) (k0 : Int → Int → Int → Option R) : Option R :=
 lett (quoI .i64 (addI .i64 a1 719468) 146097) fun (v2 : Int) =>
 lett (remI (addI .i64 a1 719468) 146097) fun (v3 : Int) =>
 lett (subI .i64 v3 (quoI .i64 v3 1460)) fun (v4 : Int) =>
 lett (addI .i64 v4 (quoI .i64 v3 36524)) fun (v5 : Int) =>
 lett (subI .i64 v5 (quoI .i64 v3 146096)) fun (v6 : Int) =>
 lett (mulI .i64 365 (quoI .i64 v6 365)) fun (v7 : Int) =>
 lett (quoI .i64 (quoI .i64 v6 365) 4) fun (v8 : Int) =>
 lett (quoI .i64 (quoI .i64 v6 365) 100) fun (v9 : Int) =>
 lett (subI .i64 (addI .i64 v7 v8) v9) fun (v10 : Int) =>
 lett (mulI .i64 5 (subI .i64 v3 v10)) fun (v11 : Int) =>
 lett (quoI .i64 (addI .i64 v11 2) 153) fun (v12 : Int) =>
 lett (addI .i64 (mulI .i64 153 v12) 2) fun (v13 : Int) =>
 lett (subI .i64 (subI .i64 v3 v10) (quoI .i64 v13 5)) fun (v14 : Int) =>
 lett (addI .i64 (quoI .i64 v6 365) (mulI .i64 400 v2)) fun (v15 : Int) =>
 br (leI 10 v12)
 (k0 (addI .i64 v15 1) (subI .i64 v12 9) (addI .i64 v14 1))
 (k0 v15 (addI .i64 v12 3) (addI .i64 v14 1))
def Zia : Ztu := Zx6
abbrev Znl := (R : Type) → Int → Int → (Str → Option R) → Option R
def Z10t (g0 : Zsf) (g1 : Zmk) (R : Type) (a1 a2 : Int) (k0 : Str → Option R) : Option R :=
 g0 R a1 fun r3 =>
 lett (((r3.length : Nat) : Int)) fun (v4 : Int) =>
 g1 R [48] (mxI 0 (subI .i64 a2 v4)) fun r5 =>
 gd (catB r5 r3) <|
 k0 (r5 ++ r3)
def Z8z : Znl := Z10t Zrw Zn2
abbrev Z3h := (R : Type) → Int → (Str → Int → Option R) → Option R
def Zqc (g0 : Ztu) (g1 : Znl) (R : Type) (a1 : Int) (k0 : Str → Int → Option R) : Option R :=
 br (ltI a1 0)
 (k0 ([] : Str) 1)
 (br (ltI 253402300799 a1)
 (k0 ([] : Str) 1)
 (g0 R (quoI .i64 a1 86400) fun r2 r3 r4 =>
 g1 R r2 4 fun r5 =>
 g1 R r3 2 fun r6 =>
 gd (catB r5 r6) <|
 g1 R r4 2 fun r7 =>
 gd (catB (r5 ++ r6) r7) <|
 lett (quoI .i64 (remI a1 86400) 3600) fun (v8 : Int) =>
 g1 R v8 2 fun r9 =>
 gd (catB ((r5 ++ r6) ++ r7) r9) <|
 lett (quoI .i64 (remI a1 86400) 60) fun (v10 : Int) =>
 g1 R (remI v10 60) 2 fun r11 =>
 gd (catB (((r5 ++ r6) ++ r7) ++ r9) r11) <|
 lett ((((r5 ++ r6) ++ r7) ++ r9) ++ r11) fun (v12 : Str) =>
 g1 R (remI (remI a1 86400) 60) 2 fun r13 =>
 gd (catB v12 r13) <|
 gd (catB (v12 ++ r13) [90]) <|
 k0 ((v12 ++ r13) ++ [90]) 0))
def Z1j : Z3h := Zqc Zia Z8z
abbrev Z2y := (R : Type) → Int → Str → Bool → (Str → Str → Bool → Option R) → Option R
def Z4d (g0 : Zwu) (R : Type) (a1 : Int) (a2 : Str) (a3 : Bool) (k0 : Str → Str → Bool → Option R) : Option R :=
 g0 R a2 fun r4 r5 r6 r7 =>
 br (!(eqI r7 0))
 (k0 ([] : Str) a2 true)
 (br (!(eqI r4 a1))
 (k0 ([] : Str) a2 true)
 (k0 r5 r6 a3))
def Z13 : Z2y := Z4d Z7j
abbrev Z9i := (R : Type) → Int → Str → Bool → (Str → Bool → Str → Bool → Option R) → Option R
def Z8u (g0 : Z2y) (R : Type) (a1 : Int) (a2 : Str) (a3 : Bool) (k0 : Str → Bool → Str → Bool → Option R) : Option R :=
 g0 R a1 a2 a3 fun r4 r5 r6 =>
 k0 r5 r6 r4 r6
def Z1w : Z9i := Z8u Z13
abbrev Z9k := (R : Type) → Str → Bool → (Str → Str → Bool → Option R) → Option R
def Z8k (g0 : Z2y) (g1 : Zev) (R : Type) (a1 : Str) (a2 : Bool) (k0 : Str → Str → Bool → Option R) : Option R :=
 g0 R 3 a1 a2 fun r3 r4 r5 =>
 g1 R r3 fun r6 r7 r8 =>
 k0 r7 r4 r5
def Z27 : Z9k := Z8k Z13 Z89
def Z10r : StK := ⟨[(0, .sc (.i .i64)), (1, .sc (.i .i64)), (2, .sc (.i .i64)), (8, .sc (.b))], []⟩
def Z10s : List PShape := [⟨Int × Int × Int, fun r => (.normal, ⟨[(0, .c (.sc (.int .i64 r.1))), (1, .c (.sc (.int .i64 r.2.1))), (2, .c (.sc (.int .i64 r.2.2)))], [], 0⟩)⟩]
def Zb0 (R : Type) (x4 x5 x6 : Int) (x7 : Bool) (k0 : Int → Int → Int → Option R) : Option R :=
 br (x7)
 (k0 (subI .i64 x4 1) (addI .i64 x5 12) x6)
 (k0 x4 x5 x6)
def Zuh (x4 x5 x6 : Int) (x7 : Bool) : Nat := 1
def Zmh : Piece := { T := Z10r, shapes := Z10s, step := fun R x next k => Zb0 R (x.1.1) (x.1.2.1) (x.1.2.2.1) (x.1.2.2.2.1) (fun z0 z1 z2 => k.1 (z0, z1, z2)), fuel := fun x => Zuh (x.1.1) (x.1.2.1) (x.1.2.2.1) (x.1.2.2.2.1) }
def Z11p (R : Type) (x4 x5 x6 : Int) (x7 : Bool) (k0 : Int → Int → Int → Option R) : Option R :=
 runP Z10r Z10s (Zmh).step R (Zuh x4 x5 x6 x7) ((x4, x5, x6, x7, ()), (())) (fun r => k0 (r.1) (r.2.1) (r.2.2), ())
abbrev Z5w := (R : Type) → Int → Int → Int → (Int → Option R) → Option R
def Zju (R : Type) (a1 a2 a3 : Int) (k0 : Int → Option R) : Option R :=
 Z11p R a1 a2 a3 (leI a2 2) fun y8 y9 y10 =>
 lett (addI .i64 (mulI .i64 365 y8) (quoI .i64 y8 4)) fun (v11 : Int) =>
 lett (subI .i64 v11 (quoI .i64 y8 100)) fun (v12 : Int) =>
 lett (addI .i64 v12 (quoI .i64 y8 400)) fun (v13 : Int) =>
 lett (mulI .i64 153 (subI .i64 y9 3)) fun (v14 : Int) =>
 lett (quoI .i64 (addI .i64 v14 2) 5) fun (v15 : Int) =>
 lett (addI .i64 (addI .i64 v13 v15) y10) fun (v16 : Int) =>
 lett (subI .i64 (subI .i64 v16 1) 719468) fun (v17 : Int) =>
 k0 v17
def Z34 : Z5w := Zju
def Z13g : StK := ⟨[(0, .sc (.s)), (4, .sc (.ptr 0 0 0 0 0)), (5, .sc (.i .i64)), (6, .sc (.i .i64)), (7, .sc (.i .i64)), (20, .agg [.ints .i64 (some 6)]), (21, .sc (.i .i64)), (28, .sc (.b))], [(true, [.ints .i64 (some 6)])]⟩
def Z13i : List PShape := [⟨Str × Int × Int × Int × (List Int) × Int × (List Int), fun r => (.normal, ⟨[(0, .c (.sc (.str r.1))), (4, .c (.sc (.ptr 0 0 0 0 0))), (5, .c (.sc (.int .i64 r.2.1))), (6, .c (.sc (.int .i64 r.2.2.1))), (7, .c (.sc (.int .i64 r.2.2.2.1))), (20, .c (.agg [.ints .i64 r.2.2.2.2.1 6])), (21, .c (.sc (.int .i64 r.2.2.2.2.2.1)))], [(0, ⟨true, [.ints .i64 r.2.2.2.2.2.2 6]⟩)], 1⟩)⟩]
def Zoy (g0 : Z3j) (g1 : Z45) (g2 : Z5w) (g3 : Z3h) (R : Type) (x10 : Str) (x11 x12 x13 : Int) (x14 : List Int) (x15 : Int) (x16 : Bool) (x17 : List Int) (k0 : Str → Int → Int → Int → (List Int) → Int → (List Int) → Option R) : Option R :=
 br (x16)
 (k0 x10 x11 x12 0 x14 x15 x17)
 (k0 x10 x11 x12 x13 x14 x15 x17)
def Zy4 (x10 : Str) (x11 x12 x13 : Int) (x14 : List Int) (x15 : Int) (x16 : Bool) (x17 : List Int) : Nat := 1
def Zti (g0 : Z3j) (g1 : Z45) (g2 : Z5w) (g3 : Z3h) : Piece := { T := Z13g, shapes := Z13i, step := fun R x next k => Zoy g0 g1 g2 g3 R (x.1.1) (x.1.2.2.1) (x.1.2.2.2.1) (x.1.2.2.2.2.1) (x.1.2.2.2.2.2.1.1) (x.1.2.2.2.2.2.2.1) (x.1.2.2.2.2.2.2.2.1) (x.2.1.1) (fun z0 z1 z2 z3 z4 z5 z6 => k.1 (z0, z1, z2, z3, z4, z5, z6)), fuel := fun x => Zy4 (x.1.1) (x.1.2.2.1) (x.1.2.2.2.1) (x.1.2.2.2.2.1) (x.1.2.2.2.2.2.1.1) (x.1.2.2.2.2.2.2.1) (x.1.2.2.2.2.2.2.2.1) (x.2.1.1) }
def Z152 (g0 : Z3j) (g1 : Z45) (g2 : Z5w) (g3 : Z3h) (R : Type) (x10 : Str) (x11 x12 x13 : Int) (x14 : List Int) (x15 : Int) (x16 : Bool) (x17 : List Int) (k0 : Str → Int → Int → Int → (List Int) → Int → (List Int) → Option R) : Option R :=
 runP Z13g Z13i (Zti g0 g1 g2 g3).step R (Zy4 x10 x11 x12 x13 x14 x15 x16 x17) ((x10, (), x11, x12, x13, (x14, ()), x15, x16, ()), ((x17, ()), ())) (fun r => k0 (r.1) (r.2.1) (r.2.2.1) (r.2.2.2.1) (r.2.2.2.2.1) (r.2.2.2.2.2.1) (r.2.2.2.2.2.2), ())
def Zx4 : StK := ⟨[(0, .sc (.s)), (4, .sc (.ptr 0 0 0 0 0)), (20, .agg [.ints .i64 (some 6)]), (21, .sc (.i .i64))], [(true, [.ints .i64 (some 6)])]⟩
def Zx1 : List PShape := [⟨Str × (List Int), fun r => (.exit 0, ⟨[(0, .c (.sc (.str r.1))), (4, .c (.sc (.ptr 0 0 0 0 0)))], [(0, ⟨true, [.ints .i64 r.2 6]⟩)], 1⟩)⟩]
def Zi4 (g0 : Z3j) (g1 : Z45) (g2 : Z5w) (g3 : Z3h) (R : Type) (x5 : Str) (x6 : List Int) (x7 : Int) (x8 : List Int) (next : Str → (List Int) → Int → (List Int) → Option R) (k0 : Str → (List Int) → Option R) : Option R :=
 br (ltI x7 6)
 (gd (inB x7 6) <|
 lett (subI .i64 (x6.getD x7.toNat 0) 2) fun (v9 : Int) =>
 Z152 g0 g1 g2 g3 R x5 x7 (x6.getD x7.toNat 0) v9 x6 x7 (eqI x7 0) x8 fun y18 y19 y20 y21 y22 y23 y24 =>
 gd (leB y20 y18.length) <|
 gd (leB y21 y20.toNat) <|
 lett ((y18.take y20.toNat).drop y21.toNat) fun (v25 : Str) =>
 g1 R v25 fun r26 =>
 gd (inB y19 6) <|
 next y18 y22 (addI .i64 y23 1) (y24.set y19.toNat r26))
 (k0 x5 x8)
def Zal (x5 : Str) (x6 : List Int) (x7 : Int) (x8 : List Int) : Nat := 100000 + (x5.length + x6.length + x7.toNat + x8.length)
def Znt (g0 : Z3j) (g1 : Z45) (g2 : Z5w) (g3 : Z3h) : Piece := { T := Zx4, shapes := Zx1, step := fun R x next k => Zi4 g0 g1 g2 g3 R (x.1.1) (x.1.2.2.1.1) (x.1.2.2.2.1) (x.2.1.1) (fun x5 x6 x7 x8 => next ((x5, (), (x6, ()), x7, ()), ((x8, ()), ()))) (fun z0 z1 => k.1 (z0, z1)), fuel := fun x => Zal (x.1.1) (x.1.2.2.1.1) (x.1.2.2.2.1) (x.2.1.1) }
def Z15u (g0 : Z3j) (g1 : Z45) (g2 : Z5w) (g3 : Z3h) (R : Type) (x5 : Str) (x6 : List Int) (x7 : Int) (x8 : List Int) (k0 : Str → (List Int) → Option R) : Option R :=
 runP Zx4 Zx1 (Znt g0 g1 g2 g3).step R (Zal x5 x6 x7 x8) ((x5, (), (x6, ()), x7, ()), ((x8, ()), ())) (fun r => k0 (r.1) (r.2), ())
abbrev Z108 := (R : Type) → Str → (Int → Bool → Option R) → Option R
def Zwj (g0 : Z3j) (g1 : Z45) (g2 : Z5w) (g3 : Z3h) (R : Type) (a1 : Str) (k0 : Int → Bool → Option R) : Option R :=
 lett (((a1.length : Nat) : Int)) fun (v2 : Int) =>
 br (!(eqI v2 15))
 (k0 0 false)
 (gd (leB 14 a1.length) <|
 g0 R (a1.take 14) [48, 49, 50, 51, 52, 53, 54, 55, 56, 57] fun r3 =>
 br (!(eqS r3 []))
 (k0 0 false)
 (lett (List.replicate 6 (0 : Int)) fun (v4 : List Int) =>
 Z15u g0 g1 g2 g3 R a1 (((((((List.replicate 6 (0 : Int)).set 0 4).set 1 6).set 2 8).set 3 10).set 4 12).set 5 14) 0 v4 fun y27 y28 =>
 lett (mulI .i64 3600 (y28.getD 3 0)) fun (v29 : Int) =>
 lett (mulI .i64 60 (y28.getD 4 0)) fun (v30 : Int) =>
 g2 R (y28.getD 0 0) (y28.getD 1 0) (y28.getD 2 0) fun r31 =>
 lett (addI .i64 (mulI .i64 86400 r31) v29) fun (v32 : Int) =>
 lett (addI .i64 (addI .i64 v32 v30) (y28.getD 5 0)) fun (v33 : Int) =>
 g3 R v33 fun r34 r35 =>
 br (eqI r35 0)
 (k0 v33 (eqS r34 y27))
 (k0 v33 false)))
def Zcq : Z108 := Zwj Z2t Z2s Z34 Z1j
abbrev Zqf := (R : Type) → Str → (Int → Str → Int → Int → Str → Str → Option R) → Option R
def Znq (g0 : Z9i) (g1 : Z2y) (g2 : Z9k) (g3 : Zmt) (g4 : Z108) (R : Type) (a1 : Str) (k0 : Int → Str → Int → Int → Str → Str → Option R) : Option R :=
 g0 R 48 a1 false fun r2 r3 r4 r5 =>
 g0 R 48 r4 r5 fun r6 r7 r8 r9 =>
 g1 R 48 r6 r7 fun r10 r11 r12 =>
 g2 R r11 r12 fun r13 r14 r15 =>
 g1 R 2 r8 r9 fun r16 r17 r18 =>
 g3 R r16 fun r19 r20 =>
 g1 R 48 r17 r18 fun r21 r22 r23 =>
 g0 R 48 r22 r23 fun r24 r25 r26 r27 =>
 g0 R 49 r26 r27 fun r28 r29 r30 r31 =>
 g0 R 48 r30 r31 fun r32 r33 r34 r35 =>
 g1 R 6 r34 r35 fun r36 r37 r38 =>
 g1 R 12 r37 r38 fun r39 r40 r41 =>
 g0 R 48 r24 r25 fun r42 r43 r44 r45 =>
 g1 R 24 r44 r45 fun r46 r47 r48 =>
 g4 R r46 fun r49 r50 =>
 g1 R 24 r47 r48 fun r51 r52 r53 =>
 g4 R r51 fun r54 r55 =>
 g1 R 48 r42 r43 fun r56 r57 r58 =>
 g0 R 48 r57 r58 fun r59 r60 r61 r62 =>
 g1 R 48 r61 r62 fun r63 r64 r65 =>
 g2 R r64 r65 fun r66 r67 r68 =>
 k0 r19 r39 r49 r54 r66 r13
def Z6v : Zqf := Znq Z1w Z13 Z27 Zb7 Zcq
abbrev Z6g := (R : Type) → Int → (Bool → Option R) → Option R
def Zno (R : Type) (a1 : Int) (k0 : Bool → Option R) : Option R :=
 br (ltI a1 32)
 (k0 true)
 (k0 (ltI 126 a1))
def Z4b : Z6g := Zno
def Z5i : StK := ⟨[(0, .sc (.sl 0 1 none)), (1, .sc (.fn Zn3 [])), (7, .sc (.i .i64)), (8, .sc (.i .i64))], [(true, [.bytes none])]⟩
def Z5h : List PShape := [⟨Int × Str, fun r => (.ret, ⟨[(4, .c (.sc (.int .i64 r.1)))], [(0, ⟨true, [.bytes r.2 r.2.length]⟩)], 1⟩)⟩, ⟨Str, fun r => (.exit 0, ⟨[], [(0, ⟨true, [.bytes r r.length]⟩)], 1⟩)⟩]
def Z30 (g0 : Z6g) (R : Type) (x3 x4 : Int) (x5 : Str) (next : Int → Int → Str → Option R) (k0 : Int → Str → Option R) (k1 : Str → Option R) : Option R :=
 br (ltI x4 x3)
 (gd (inB x4 x5.length) <|
 lett (((x5.getD x4.toNat 0).toNat : Int)) fun (v6 : Int) =>
 g0 R v6 fun r7 =>
 br (r7)
 (k0 x4 x5)
 (next x3 (addI .i64 x4 1) x5))
 (k1 x5)
def Z21 (x3 x4 : Int) (x5 : Str) : Nat := 100000 + (x3.toNat + x4.toNat + x5.length)
def Z2n (g0 : Z6g) : Piece := { T := Z5i, shapes := Z5h, step := fun R x next k => Z30 g0 R (x.1.2.2.1) (x.1.2.2.2.1) (x.2.1.1) (fun x3 x4 x5 => next (((), (), x3, x4, ()), ((x5, ()), ()))) (fun z0 z1 => k.1 (z0, z1)) (fun z0 => k.2.1 z0), fuel := fun x => Z21 (x.1.2.2.1) (x.1.2.2.2.1) (x.2.1.1) }
def Zak (g0 : Z6g) (R : Type) (x3 x4 : Int) (x5 : Str) (k0 : Int → Str → Option R) (k1 : Str → Option R) : Option R :=
 runP Z5i Z5h (Z2n g0).step R (Z21 x3 x4 x5) (((), (), x3, x4, ()), ((x5, ()), ())) (fun r => k0 (r.1) (r.2), fun r => k1 (r), ())
abbrev Z48 := (R : Type) → Str → (Int → Str → Option R) → Option R
def Z69 (g0 : Z6g) (R : Type) (a1 : Str) (k0 : Int → Str → Option R) : Option R :=
 lett (((a1.length : Nat) : Int)) fun (v2 : Int) =>
 Zak g0 R v2 0 a1
 (fun y8 y9 =>
 k0 y8 y9)
 (fun y10 =>
 k0 (-1) y10)
def Z47 : Z48 := Z69 Z4b
abbrev Z3g := (R : Type) → Str → (Bool → Str → Option R) → Option R
def Z4v (g0 : Z48) (R : Type) (a1 : Str) (k0 : Bool → Str → Option R) : Option R :=
 g0 R a1 fun r2 r3 =>
 k0 (leI 0 r2) r3
def Z3e : Z3g := Z4v Z47
abbrev Znh := (R : Type) → Str → (Bool → Option R) → Option R
def Zse (g0 : Z3g) (R : Type) (a1 : Str) (k0 : Bool → Option R) : Option R :=
 br (!(eqS a1 []))
 (lett (((a1.length : Nat) : Int)) fun (v2 : Int) =>
 br (leI v2 32)
 (g0 R a1 fun r3 r4 =>
 k0 !r3)
 (k0 false))
 (k0 false)
def Zhg : Znh := Zse Z3e
abbrev Zg4 := (R : Type) → Int → Str → Int → Int → Str → (Bool → Option R) → Option R
def Ztx (g0 : Znh) (R : Type) (a1 : Int) (a2 : Str) (a3 a4 : Int) (a5 : Str) (k0 : Bool → Option R) : Option R :=
 br (leI 1 a1)
 (g0 R a2 fun r6 =>
 br (r6)
 (br (leI 0 a3)
 (br (leI a3 a4)
 (k0 (leI a4 253402300799))
 (k0 false))
 (k0 false))
 (k0 false))
 (k0 false)
def Zd1 : Zg4 := Ztx Zhg
abbrev Zbs := (R : Type) → (List Int) → (Str → (List Int) → Option R) → Option R
def Zyp (g0 : Zn0) (R : Type) (a1 : List Int) (k0 : Str → (List Int) → Option R) : Option R :=
 g0 R a1 fun r2 r3 r4 =>
 k0 r2 r4
def Z9n : Zbs := Zyp Zud
abbrev Z3u := (R : Type) → Int → (List Str) → (Str → (List Str) → Option R) → Option R
def Zla (g0 : Zrj) (g1 : Z26) (R : Type) (a1 : Int) (a2 : List Str) (k0 : Str → (List Str) → Option R) : Option R :=
 g0 R ([] : Str) a2 fun r3 =>
 g1 R a1 r3 fun r4 r5 =>
 k0 r4 a2
def Z33 : Z3u := Zla Zko Z1s
abbrev Zq9 := (R : Type) → Str → (Str → Option R) → Option R
def Zuy (g0 : Zbs) (g1 : Z3u) (R : Type) (a1 : Str) (k0 : Str → Option R) : Option R :=
 g0 R ([2, 5, 4, 3] : List Int) fun r2 r3 =>
 g1 R 12 ([a1] : List Str) fun r4 r5 =>
 g1 R 48 ([r2, r4] : List Str) fun r6 r7 =>
 g1 R 49 ([r6] : List Str) fun r8 r9 =>
 g1 R 48 ([r8] : List Str) fun r10 r11 =>
 k0 r10
def Zk9 : Zq9 := Zuy Z9n Z33
abbrev Z9f := (R : Type) → (Str → Option R) → Option R
def Zl0 (g0 : Zbs) (g1 : Z3u) (R : Type) (k0 : Str → Option R) : Option R :=
 g0 R ([1, 3, 101, 112] : List Int) fun r1 r2 =>
 g1 R 48 ([r1] : List Str) fun r3 r4 =>
 k0 r3
def Z78 : Z9f := Zl0 Z9n Z33
abbrev Zg7 := (R : Type) → Int → Str → Int → Int → Str → (Str → Option R) → Option R
def Zuu (g0 : Z3h) (g1 : Zq9) (g2 : Zzz) (g3 : Z9f) (g4 : Z3u) (R : Type) (a1 : Int) (a2 : Str) (a3 a4 : Int) (a5 : Str) (k0 : Str → Option R) : Option R :=
 g0 R a3 fun r6 r7 =>
 g0 R a4 fun r8 r9 =>
 g1 R a2 fun r10 =>
 gd (catB [0] a5) <|
 g2 R a1 fun r11 =>
 g3 R fun r12 =>
 g4 R 24 ([r6] : List Str) fun r13 r14 =>
 g4 R 24 ([r8] : List Str) fun r15 r16 =>
 g4 R 48 ([r13, r15] : List Str) fun r17 r18 =>
 g3 R fun r19 =>
 g4 R 3 ([[0] ++ a5] : List Str) fun r20 r21 =>
 g4 R 48 ([r19, r20] : List Str) fun r22 r23 =>
 g4 R 48 ([r11, r12, r10, r17, r10, r22] : List Str) fun r24 r25 =>
 k0 r24
def Z5o : Zg7 := Zuu Z1j Zk9 Zv1 Z78 Z33
abbrev Zg8 := (R : Type) → Str → Str → (Str → Option R) → Option R
def Zvf (g0 : Z9f) (g1 : Z3u) (R : Type) (a1 a2 : Str) (k0 : Str → Option R) : Option R :=
 g0 R fun r3 =>
 gd (catB [0] a2) <|
 g1 R 3 ([[0] ++ a2] : List Str) fun r4 r5 =>
 g1 R 48 ([a1, r3, r4] : List Str) fun r6 r7 =>
 k0 r6
def Z8t : Zg8 := Zvf Z78 Z33
abbrev Zie := (R : Type) → Str → (Int → Str → Int → Int → Str → Int → Option R) → Option R
def Zqg (g0 : Zqf) (g1 : Zg4) (g2 : Zg7) (g3 : Zg8) (g4 : Zmr) (R : Type) (a1 : Str) (k0 : Int → Str → Int → Int → Str → Int → Option R) : Option R :=
 lett (((a1.length : Nat) : Int)) fun (v2 : Int) =>
 br (ltI 1000 v2)
 (k0 0 ([] : Str) 0 0 ([] : Str) 13)
 (g0 R a1 fun r3 r4 r5 r6 r7 r8 =>
 g1 R r3 r4 r5 r6 r7 fun r9 =>
 br (!r9)
 (k0 0 ([] : Str) 0 0 ([] : Str) 11)
 (lett (((r7.length : Nat) : Int)) fun (v10 : Int) =>
 br (!(eqI v10 32))
 (k0 0 ([] : Str) 0 0 ([] : Str) 11)
 (lett (((r8.length : Nat) : Int)) fun (v11 : Int) =>
 br (!(eqI v11 64))
 (k0 0 ([] : Str) 0 0 ([] : Str) 11)
 (g2 R r3 r4 r5 r6 r7 fun r12 =>
 g3 R r12 r8 fun r13 =>
 br (!(eqS r13 a1))
 (k0 0 ([] : Str) 0 0 ([] : Str) 11)
 (g2 R r3 r4 r5 r6 r7 fun r14 =>
 g4 R r7 r14 r8 fun r15 =>
 br (!(eqI r15 0))
 (k0 0 ([] : Str) 0 0 ([] : Str) 22)
 (k0 r3 r4 r5 r6 r7 0))))))
def Z2x : Zie := Zqg Z6v Zd1 Z5o Z8t Ze3
abbrev Zts := (R : Type) → Int → Str → Int → Int → Str → Str → (Str → Int → Option R) → Option R
def Zgb (g0 : Zg4) (g1 : Ze0) (g2 : Zg7) (g3 : Zta) (g4 : Zg8) (R : Type) (a1 : Int) (a2 : Str) (a3 a4 : Int) (a5 a6 : Str) (k0 : Str → Int → Option R) : Option R :=
 g0 R a1 a2 a3 a4 a5 fun r7 =>
 br (!r7)
 (k0 ([] : Str) 1)
 (g1 R a6 fun r8 r9 =>
 br (!(eqI r9 0))
 (k0 ([] : Str) 21)
 (br (!(eqS a5 []))
 (br (!(eqS a5 r8))
 (k0 ([] : Str) 21)
 (g2 R a1 a2 a3 a4 r8 fun r10 =>
 g3 R a6 r10 fun r11 r12 =>
 br (!(eqI r12 0))
 (k0 ([] : Str) r12)
 (g4 R r10 r11 fun r13 =>
 k0 r13 0)))
 (g2 R a1 a2 a3 a4 r8 fun r14 =>
 g3 R a6 r14 fun r15 r16 =>
 br (!(eqI r16 0))
 (k0 ([] : Str) r16)
 (g4 R r14 r15 fun r17 =>
 k0 r17 0))))
def Z60 : Zts := Zgb Zd1 Z91 Z5o Zi9 Z8t
end
theorem wrap_i64 {a : Int} (h0 : -9223372036854775808 ≤ a) (h1 : a ≤ 9223372036854775807) : IntKind.wrap .i64 a = a := by
  unfold IntKind.wrap
  simp [IntKind.signed, IntKind.bits]
  omega
theorem addI_eq {a b : Int} (h0 : -9223372036854775808 ≤ a + b) (h1 : a + b ≤ 9223372036854775807) : addI .i64 a b = a + b := wrap_i64 h0 h1
theorem subI_eq {a b : Int} (h0 : -9223372036854775808 ≤ a - b) (h1 : a - b ≤ 9223372036854775807) : subI .i64 a b = a - b := wrap_i64 h0 h1
theorem mulI_eq {a b : Int} (h0 : -9223372036854775808 ≤ a * b) (h1 : a * b ≤ 9223372036854775807) : mulI .i64 a b = a * b := wrap_i64 h0 h1
theorem quoI_eq {a b : Int} (h : 0 ≤ a) (h1 : a ≤ 9223372036854775807) (hb : 0 < b) : quoI .i64 a b = a / b := by
  have e : a.tdiv b = a / b := by rw [Int.tdiv_eq_ediv_of_nonneg h]
  unfold quoI
  rw [e]
  refine wrap_i64 ?_ ?_
  · have := Int.ediv_nonneg h (Int.le_of_lt hb); omega
  · have := Int.ediv_le_self b h; omega
theorem remI_eq {a b : Int} (h : 0 ≤ a) : remI a b = a % b := by
  unfold remI
  rw [Int.tmod_eq_emod_of_nonneg h]
def leapP (y : Int) : Prop := (y % 4 = 0 ∧ y % 100 ≠ 0) ∨ y % 400 = 0
instance (y : Int) : Decidable (leapP y) := by unfold leapP; infer_instance
def dayOf (y : Int) : Int := 365 * (y - 1970) + ((y - 1) / 4 - (y - 1) / 100 + (y - 1) / 400) - 477
def ylen (y : Int) : Int := if leapP y then 366 else 365
def cum (m : Int) : Int := if m ≤ 1 then 0 else if m = 2 then 31 else if m = 3 then 59 else if m = 4 then 90 else if m = 5 then 120 else if m = 6 then 151 else if m = 7 then 181 else if m = 8 then 212 else if m = 9 then 243 else if m = 10 then 273 else if m = 11 then 304 else if m = 12 then 334 else 365
def monthAt (y m : Int) : Int := cum m + if 2 < m ∧ leapP y then 1 else 0
theorem dayOf_next (y : Int) (h : 1 ≤ y) : dayOf (y + 1) = dayOf y + ylen y := by
  unfold dayOf ylen
  rcases Classical.em (leapP y) with hl | hl
  · rw [if_pos hl]
    unfold leapP at hl
    omega
  · rw [if_neg hl]
    unfold leapP at hl
    omega
theorem dayOf_mono {y z : Int} (h : 1 ≤ y) (hz : y ≤ z) : dayOf y ≤ dayOf z := by
  unfold dayOf; omega
structure IsDate (days y m d : Int) : Prop where
  m1 : 1 ≤ m
  m2 : m ≤ 12
  d1 : 1 ≤ d
  d2 : monthAt y m + d ≤ monthAt y (m + 1)
  eq : days = dayOf y + monthAt y m + d - 1
theorem monthAt_end (y : Int) : monthAt y 13 = ylen y := by
  unfold monthAt ylen cum
  by_cases h : leapP y <;> simp [h]
theorem era_spec (i : Int) (h0 : 0 ≤ i) (h1 : i < 146097) :
    let y := (i - i / 1460 + i / 36524 - i / 146096) / 365
    let r := i - (365 * y + y / 4 - y / 100)
    0 ≤ y ∧ y ≤ 399 ∧ 0 ≤ r ∧ (r ≤ 364 ∨ (r = 365 ∧ (((y + 1) % 4 = 0 ∧ (y + 1) % 100 ≠ 0) ∨ y = 399))) := by
  by_cases hi : i = 146096
  · subst hi
    decide
  have hs : i / 146096 = 0 := by omega
  rw [hs]
  have hq : i / 36524 = 0 ∨ i / 36524 = 1 ∨ i / 36524 = 2 ∨ i / 36524 = 3 := by omega
  generalize hp : i / 1460 = p
  have hp1 : 1460 * p ≤ i := by omega
  have hp2 : i < 1460 * p + 1460 := by omega
  have key : ∀ q : Int, (q = 0 ∨ q = 1 ∨ q = 2 ∨ q = 3) → 36524 * q ≤ i → i < 36524 * q + 36524 → i / 36524 = q → 
      (let y := (i - p + i / 36524 - 0) / 365
       let r := i - (365 * y + y / 4 - y / 100)
       0 ≤ y ∧ y ≤ 399 ∧ 0 ≤ r ∧ (r ≤ 364 ∨ (r = 365 ∧ (((y + 1) % 4 = 0 ∧ (y + 1) % 100 ≠ 0) ∨ y = 399)))) := by
    intro q hq' g1 g2 hqe
    rw [hqe]
    intro y r
    have hy1 : 365 * y ≤ i - p + q := by omega
    have hy2 : i - p + q < 365 * y + 365 := by omega
    have hc : y / 100 = q := by
      have : 100 * q ≤ y := by omega
      have : y < 100 * q + 100 := by omega
      omega
    generalize hw : y / 4 = w at *
    have hw1 : 4 * w ≤ y := by omega
    have hw2 : y < 4 * w + 4 := by omega
    have hw3 : 25 * q ≤ w := by omega
    have hp0 : 0 ≤ p := by omega
    have hw4 : w ≤ 99 := by omega
    have hd1 : p ≤ w + 1 := by omega
    have hd2 : w ≤ p := by omega
    have hd : p = w ∨ p = w + 1 := by omega
    clear_value y
    have hr : r = i - (365 * y + w - q) := by show i - (365 * y + y / 4 - y / 100) = _; rw [hw, hc]
    clear_value r
    subst hr
    clear hw hp hi hs
    refine ⟨by omega, by omega, by omega, ?_⟩
    by_cases he : i - (365 * y + w - q) ≤ 364
    · exact .inl he
    · right
      have h1 : p = w + 1 := by omega
      have h2 : i = 365 * y + 365 + w - q := by omega
      have h3 : y = 4 * w + 3 := by omega
      refine ⟨by omega, .inl ⟨by omega, ?_⟩⟩
      intro h4
      have h5 : y = 100 * q + 99 := by omega
      omega
  rcases hq with h | h | h | h
  · exact key 0 (by omega) (by omega) (by omega) h
  · exact key 1 (by omega) (by omega) (by omega) h
  · exact key 2 (by omega) (by omega) (by omega) h
  · exact key 3 (by omega) (by omega) (by omega) h
theorem dayOf_leap (y : Int) : dayOf y + (if leapP y then 1 else 0) = 365 * (y - 1970) + (y / 4 - y / 100 + y / 400) - 477 := by
  unfold dayOf
  rcases Classical.em (leapP y) with hl | hl
  · rw [if_pos hl]; unfold leapP at hl; omega
  · rw [if_neg hl]; unfold leapP at hl; omega
theorem late_month {year m d rest days mm : Int} (h1 : 3 ≤ m) (h2 : m ≤ 12) (hmm : m = mm + 3) (hr : 153 * mm ≤ 5 * rest + 2) (hr2 : 5 * rest + 2 < 153 * mm + 153) (hd : d = rest - (153 * mm + 2) / 5 + 1)
    (he : days = 365 * (year - 1970) + (year / 4 - year / 100 + year / 400) - 477 + 59 + rest) : IsDate days year m d := by
  have hl := dayOf_leap year
  have hm : m = 3 ∨ m = 4 ∨ m = 5 ∨ m = 6 ∨ m = 7 ∨ m = 8 ∨ m = 9 ∨ m = 10 ∨ m = 11 ∨ m = 12 := by omega
  have e1 : monthAt year m = cum m + if leapP year then 1 else 0 := by
    unfold monthAt
    by_cases h : leapP year
    · rw [if_pos ⟨by omega, h⟩, if_pos h]
    · rw [if_neg (fun x => h x.2), if_neg h]
  have e2 : monthAt year (m + 1) = cum (m + 1) + if leapP year then 1 else 0 := by
    unfold monthAt
    by_cases h : leapP year
    · rw [if_pos ⟨by omega, h⟩, if_pos h]
    · rw [if_neg (fun x => h x.2), if_neg h]
  have e3 : cum m = 59 + (153 * mm + 2) / 5 ∧ cum (m + 1) = 59 + (if m = 12 then 306 else (153 * (mm + 1) + 2) / 5) := by
    have : mm = m - 3 := by omega
    subst this
    rcases hm with rfl | rfl | rfl | rfl | rfl | rfl | rfl | rfl | rfl | rfl <;> decide
  refine ⟨by omega, h2, by omega, ?_, by omega⟩
  rw [e1, e2, e3.1, e3.2, hd]
  split <;> omega
theorem early_month {year m d rest days mm : Int} (hmm : m = mm - 9) (h1 : mm = 10 ∨ mm = 11) (hr2 : 5 * rest + 2 < 153 * mm + 153) (hr : 153 * mm ≤ 5 * rest + 2) (hd : d = rest - (153 * mm + 2) / 5 + 1)
    (hle : rest ≤ 364 ∨ (rest = 365 ∧ leapP year)) (he : days = dayOf year - 306 + rest) : IsDate days year m d := by
  rcases h1 with rfl | rfl
  · have hm : m = 1 := by omega
    subst hm
    have e1 : monthAt year 1 = 0 := by unfold monthAt cum; simp
    have e2 : monthAt year 2 = 31 := by unfold monthAt cum; simp
    exact ⟨by omega, by omega, by omega, by rw [e1, show (1 : Int) + 1 = 2 from rfl, e2]; omega, by rw [e1]; omega⟩
  · have hm : m = 2 := by omega
    subst hm
    have e1 : monthAt year 2 = 31 := by unfold monthAt cum; simp
    have e2 : monthAt year 3 = 59 + if leapP year then 1 else 0 := by unfold monthAt cum; simp
    refine ⟨by omega, by omega, by omega, ?_, by rw [e1]; omega⟩
    rw [e1, show (2 : Int) + 1 = 3 from rfl, e2]
    rcases hle with h | ⟨h, hl⟩
    · split <;> omega
    · rw [if_pos hl]; omega
theorem date_spec (days : Int) (h0 : 0 ≤ days) :
    let t := days + 719468
    let i := t % 146097
    let y := (i - i / 1460 + i / 36524 - i / 146096) / 365
    let r := i - (365 * y + y / 4 - y / 100)
    let m := (5 * r + 2) / 153
    let d := r - (153 * m + 2) / 5 + 1
    let year := y + 400 * (t / 146097)
    0 ≤ m ∧ m ≤ 11 ∧ (10 ≤ m → IsDate days (year + 1) (m - 9) d) ∧ (m < 10 → IsDate days year (m + 3) d) := by
  intro t i y r m d year
  obtain ⟨h1, h2, h3, h4⟩ := era_spec i (by omega) (by omega)
  have hm1 : 153 * m ≤ 5 * r + 2 := by omega
  have hm2 : 5 * r + 2 < 153 * m + 153 := by omega
  have h1' : 0 ≤ y := h1
  have h2' : y ≤ 399 := h2
  have h3' : 0 ≤ r := h3
  have h5 : r ≤ 365 := by
    rcases h4 with h | h
    · have : r ≤ 364 := h
      omega
    · have : r = 365 := h.1
      omega
  have hy4 : (y + 400 * (t / 146097)) / 4 = y / 4 + 100 * (t / 146097) := by omega
  have hy100 : (y + 400 * (t / 146097)) / 100 = y / 100 + 4 * (t / 146097) := by omega
  have hy400 : (y + 400 * (t / 146097)) / 400 = t / 146097 := by omega
  have hri : i = r + (365 * y + y / 4 - y / 100) := by omega
  have ht : t = 146097 * (t / 146097) + i := by omega
  have hday : days = t - 719468 := by omega
  refine ⟨by omega, by omega, ?_, ?_⟩
  · intro h10
    refine early_month rfl (by omega) hm2 hm1 rfl ?_ ?_
    · rcases h4 with h | ⟨h, hl⟩
      · exact .inl h
      · refine .inr ⟨h, ?_⟩
        unfold leapP
        rcases hl with ⟨a, b⟩ | a
        · left
          have a' : (y + 1) % 4 = 0 := a
          have b' : (y + 1) % 100 ≠ 0 := b
          refine ⟨by omega, by omega⟩
        · right
          have a' : y = 399 := a
          omega
    · unfold dayOf
      rw [show year + 1 - 1 = y + 400 * (t / 146097) by omega, hy4, hy100, hy400]
      omega
  · intro h10
    refine late_month (by omega) (by omega) rfl hm1 hm2 rfl ?_
    rw [show year = y + 400 * (t / 146097) from rfl, hy4, hy100, hy400]
    omega
theorem monthAt_step (y m : Int) (h1 : 1 ≤ m) (h2 : m ≤ 12) : monthAt y m + 28 ≤ monthAt y (m + 1) := by
  have hm : m = 1 ∨ m = 2 ∨ m = 3 ∨ m = 4 ∨ m = 5 ∨ m = 6 ∨ m = 7 ∨ m = 8 ∨ m = 9 ∨ m = 10 ∨ m = 11 ∨ m = 12 := by omega
  unfold monthAt cum
  rcases hm with rfl | rfl | rfl | rfl | rfl | rfl | rfl | rfl | rfl | rfl | rfl | rfl <;> by_cases h : leapP y <;> simp [h]
theorem monthAt_mono (y : Int) : ∀ (k : Nat) (m : Int), 1 ≤ m → m + k ≤ 13 → monthAt y m ≤ monthAt y (m + k)
  | 0, m, _, _ => by simp
  | k + 1, m, h1, h2 => by
    have := monthAt_mono y k m h1 (by omega)
    have := monthAt_step y (m + k) (by omega) (by omega)
    rw [show m + ((k + 1 : Nat) : Int) = m + k + 1 by omega]
    omega
theorem monthAt_le {y m n : Int} (h1 : 1 ≤ m) (h2 : m ≤ n) (h3 : n ≤ 13) : monthAt y m ≤ monthAt y n := by
  have := monthAt_mono y (n - m).toNat m h1 (by omega)
  rwa [show m + ((n - m).toNat : Int) = n by omega] at this
theorem monthAt_pos {y m : Int} (h1 : 1 ≤ m) (h2 : m ≤ 13) : 0 ≤ monthAt y m := by
  have := monthAt_le (y := y) (Int.le_refl 1) h1 h2
  have e : monthAt y 1 = 0 := by unfold monthAt cum; simp
  omega
theorem IsDate.lo {days y m d : Int} (h : IsDate days y m d) : dayOf y ≤ days := by
  have := monthAt_pos (y := y) h.m1 (by have := h.m2; omega)
  have := h.eq; have := h.d1
  omega
theorem IsDate.hi {days y m d : Int} (h : IsDate days y m d) : days < dayOf y + ylen y := by
  have := monthAt_le (y := y) (m := m + 1) (n := 13) (by have := h.m1; omega) (by have := h.m2; omega) (by omega)
  have := monthAt_end y
  have := h.eq; have := h.d2
  omega
theorem ylen_bounds (y : Int) : 365 ≤ ylen y ∧ ylen y ≤ 366 := by unfold ylen; split <;> omega
theorem IsDate.year {days y m d : Int} (h : IsDate days y m d) (h0 : 0 ≤ days) (h1 : days ≤ 2932896) : 1970 ≤ y ∧ y ≤ 9999 := by
  have a := h.lo
  have b := h.hi
  have c := ylen_bounds y
  constructor
  · rcases Int.lt_or_le y 1970 with hy | hy
    · have e1 : dayOf 1970 = 0 := by decide
      rcases Int.lt_or_le y 1 with hz | hz
      · have : dayOf y + 366 ≤ 0 := by unfold dayOf; omega
        omega
      · have := dayOf_next y hz
        have := dayOf_mono (y := y + 1) (z := 1970) (by omega) (by omega)
        omega
    · exact hy
  · rcases Int.lt_or_le 9999 y with hy | hy
    · have := dayOf_mono (y := 10000) (z := y) (by omega) (by omega)
      have e1 : dayOf 10000 = 2932897 := by decide
      omega
    · exact hy
theorem IsDate.day {days y m d : Int} (h : IsDate days y m d) : d ≤ 31 := by
  have h2 := h.d2
  have hm : m = 1 ∨ m = 2 ∨ m = 3 ∨ m = 4 ∨ m = 5 ∨ m = 6 ∨ m = 7 ∨ m = 8 ∨ m = 9 ∨ m = 10 ∨ m = 11 ∨ m = 12 := by have := h.m1; have := h.m2; omega
  unfold monthAt cum at h2
  rcases hm with rfl | rfl | rfl | rfl | rfl | rfl | rfl | rfl | rfl | rfl | rfl | rfl <;> by_cases hl : leapP y <;> simp [hl] at h2 <;> omega
def dig : Nat → Nat → Str
  | 0, _ => []
  | k + 1, n => dig k (n / 10) ++ [UInt8.ofNat (48 + n % 10)]
theorem dig_length : ∀ (k n : Nat), (dig k n).length = k
  | 0, _ => rfl
  | k + 1, n => by simp [dig, dig_length k]
theorem dig_zero : ∀ (k : Nat), dig k 0 = List.replicate k 48
  | 0 => rfl
  | k + 1 => by
    rw [dig, show 0 / 10 = 0 from rfl, dig_zero k, List.replicate_succ']
    rfl
theorem repeat48 : ∀ (k : Nat), Lib.repeatL [48] k = List.replicate k 48
  | 0 => rfl
  | k + 1 => by rw [Lib.repeatL, repeat48 k]; rfl
theorem padded_dig : ∀ (k n : Nat), n < 10 ^ (k + 1) → Lib.repeatL [48] (k + 1 - (Lib.decDigits n).length) ++ Lib.decDigits n = dig (k + 1) n ∧ (Lib.decDigits n).length ≤ k + 1
  | 0, n, h => by
    have hn : n < 10 := by omega
    rw [Lib.decDigits, dif_pos hn]
    refine ⟨?_, by simp⟩
    simp [dig, Lib.repeatL, Nat.mod_eq_of_lt hn]
  | k + 1, n, h => by
    by_cases hn : n < 10
    · rw [Lib.decDigits, dif_pos hn]
      refine ⟨?_, by simp⟩
      rw [dig, Nat.div_eq_of_lt hn, dig_zero, repeat48, Nat.mod_eq_of_lt hn]
      simp
    · obtain ⟨h1, h2⟩ := padded_dig k (n / 10) (by rw [Nat.div_lt_iff_lt_mul (by omega)]; rw [Nat.pow_succ] at h; exact h)
      rw [Lib.decDigits, dif_neg hn]
      refine ⟨?_, by simp; omega⟩
      rw [dig, ← h1, List.length_append, List.length_singleton, ← List.append_assoc]
      congr 3
      omega
theorem IsDate.uniq {days y m d y' m' d' : Int} (h : IsDate days y m d) (h' : IsDate days y' m' d') (hy : 1 ≤ y) (hy' : 1 ≤ y') : y = y' ∧ m = m' ∧ d = d' := by
  have a := h.lo; have b := h.hi; have a' := h'.lo; have b' := h'.hi
  have := h.m1; have := h.m2; have := h.d1
  have := h'.m1; have := h'.m2; have := h'.d1
  have e1 := dayOf_next y' hy'
  have e2 := dayOf_next y hy
  have hyy : y = y' := by
    rcases Int.lt_or_le y' y with hc | hc
    · have := dayOf_mono (y := y' + 1) (z := y) (by omega) (by omega)
      omega
    · rcases Int.lt_or_le y y' with hc2 | hc2
      · have := dayOf_mono (y := y + 1) (z := y') (by omega) (by omega)
        omega
      · omega
  subst hyy
  have e := h.eq; have e' := h'.eq
  have hmm : m = m' := by
    rcases Int.lt_or_le m' m with hm | hm
    · have := monthAt_le (y := y) (m := m' + 1) (n := m) (by omega) (by omega) (by omega)
      have := h'.d2
      omega
    · rcases Int.lt_or_le m m' with hm2 | hm2
      · have := monthAt_le (y := y) (m := m + 1) (n := m') (by omega) (by omega) (by omega)
        have := h.d2
        omega
      · omega
  subst hmm
  exact ⟨rfl, rfl, by omega⟩
theorem fcert_padded_eq (k : Nat) (hk : k ≤ 18) (n : Int) (h0 : 0 ≤ n) (h1 : n.toNat < 10 ^ (k + 1)) (many : Int) (hm : many = k + 1) (R : Type) (K : Str → Option R) : Z8z R n many K = K (dig (k + 1) n.toNat) := by
  obtain ⟨p1, p2⟩ := padded_dig k n.toNat h1
  have hi : Lib.itoa n = Lib.decDigits n.toNat := by unfold Lib.itoa; rw [if_neg (by omega)]
  show gd true (gd (repB [48] (mxI 0 (subI .i64 many (((Lib.itoa n).length : Nat) : Int)))) (gd (catB _ (Lib.itoa n)) (K (_ ++ Lib.itoa n)))) = _
  rw [hi]
  generalize hl : (Lib.decDigits n.toNat).length = l at *
  have e1 : subI .i64 many (l : Int) = many - l := subI_eq (by omega) (by omega)
  have e2 : mxI 0 (many - l) = many - l := by unfold mxI; split <;> omega
  rw [e1, e2]
  have e3 : (many - (l : Int)).toNat = k + 1 - l := by omega
  have e4 : repB [48] (many - l) = true := by
    unfold repB
    simp only [Bool.and_eq_true, decide_eq_true_eq, e3]
    refine ⟨by omega, ?_⟩
    simp only [List.length_singleton]
    omega
  rw [e4, e3]
  have e5 : catB (Lib.repeatL [48] (k + 1 - l)) (Lib.decDigits n.toNat) = true := by
    unfold catB
    rw [decide_eq_true_eq, Lib.repeatL_length, hl]
    simp only [List.length_singleton]
    omega
  show gd (catB _ _) (K _) = _
  rw [e5, p1]
  rfl
def stamp (y m d s : Int) : Str :=
  dig 4 y.toNat ++ dig 2 m.toNat ++ dig 2 d.toNat ++ dig 2 (s / 3600).toNat ++ dig 2 (s / 60 % 60).toNat ++ dig 2 (s % 60).toNat ++ [90]
theorem fcert_date_eq (days : Int) (h0 : 0 ≤ days) (h1 : days ≤ 2932896) : ∃ y m d, IsDate days y m d ∧ ∀ (R : Type) (K : Int → Int → Int → Option R), Zia R days K = K y m d := by
  have hs := date_spec days h0
  have he := era_spec ((days + 719468) % 146097) (by omega) (by omega)
  have ht : addI .i64 days 719468 = days + 719468 := addI_eq (by omega) (by omega)
  simp only at hs he
  generalize hI : (days + 719468) % 146097 = i at hs he
  generalize hA : (days + 719468) / 146097 = age at hs
  have hi0 : 0 ≤ i := by omega
  have hi1 : i < 146097 := by omega
  have ha0 : 0 ≤ age := by omega
  have ha1 : age ≤ 30 := by omega
  generalize hY : (i - i / 1460 + i / 36524 - i / 146096) / 365 = y at hs he
  obtain ⟨hy0, hy1, hr0, hr1⟩ := he
  generalize hR : i - (365 * y + y / 4 - y / 100) = r at hs hr0 hr1
  have hr2 : r ≤ 365 := by rcases hr1 with h | ⟨h, _⟩ <;> omega
  generalize hM : (5 * r + 2) / 153 = m at hs
  generalize hD : r - (153 * m + 2) / 5 + 1 = d at hs
  obtain ⟨hm0, hm1, s1, s2⟩ := hs
  have v1 : quoI .i64 (addI .i64 days 719468) 146097 = age := by rw [ht, quoI_eq (by omega) (by omega) (by omega), hA]
  have v2 : remI (addI .i64 days 719468) 146097 = i := by rw [ht, remI_eq (by omega), hI]
  have v3 : quoI .i64 (subI .i64 (addI .i64 (subI .i64 i (quoI .i64 i 1460)) (quoI .i64 i 36524)) (quoI .i64 i 146096)) 365 = y := by
    have a1 : quoI .i64 i 1460 = i / 1460 := quoI_eq hi0 (by omega) (by omega)
    have a2 : quoI .i64 i 36524 = i / 36524 := quoI_eq hi0 (by omega) (by omega)
    have a3 : quoI .i64 i 146096 = i / 146096 := quoI_eq hi0 (by omega) (by omega)
    have a4 : subI .i64 i (i / 1460) = i - i / 1460 := subI_eq (by omega) (by omega)
    have a5 : addI .i64 (i - i / 1460) (i / 36524) = i - i / 1460 + i / 36524 := addI_eq (by omega) (by omega)
    have a6 : subI .i64 (i - i / 1460 + i / 36524) (i / 146096) = i - i / 1460 + i / 36524 - i / 146096 := subI_eq (by omega) (by omega)
    have a7 : quoI .i64 (i - i / 1460 + i / 36524 - i / 146096) 365 = y := by rw [quoI_eq (by omega) (by omega) (by omega), hY]
    rw [a1, a2, a3, a4, a5, a6, a7]
  have v4 : subI .i64 i (subI .i64 (addI .i64 (mulI .i64 365 y) (quoI .i64 y 4)) (quoI .i64 y 100)) = r := by
    have a1 : quoI .i64 y 4 = y / 4 := quoI_eq hy0 (by omega) (by omega)
    have a2 : quoI .i64 y 100 = y / 100 := quoI_eq hy0 (by omega) (by omega)
    have a3 : mulI .i64 365 y = 365 * y := mulI_eq (by omega) (by omega)
    have a4 : addI .i64 (365 * y) (y / 4) = 365 * y + y / 4 := addI_eq (by omega) (by omega)
    have a5 : subI .i64 (365 * y + y / 4) (y / 100) = 365 * y + y / 4 - y / 100 := subI_eq (by omega) (by omega)
    have a6 : subI .i64 i (365 * y + y / 4 - y / 100) = r := by rw [subI_eq (by omega) (by omega), hR]
    rw [a1, a2, a3, a4, a5, a6]
  have v5 : quoI .i64 (addI .i64 (mulI .i64 5 r) 2) 153 = m := by
    have a1 : mulI .i64 5 r = 5 * r := mulI_eq (by omega) (by omega)
    have a2 : addI .i64 (5 * r) 2 = 5 * r + 2 := addI_eq (by omega) (by omega)
    rw [a1, a2, quoI_eq (by omega) (by omega) (by omega), hM]
  have v6 : addI .i64 (subI .i64 r (quoI .i64 (addI .i64 (mulI .i64 153 m) 2) 5)) 1 = d := by
    have a1 : mulI .i64 153 m = 153 * m := mulI_eq (by omega) (by omega)
    have a2 : addI .i64 (153 * m) 2 = 153 * m + 2 := addI_eq (by omega) (by omega)
    have a3 : quoI .i64 (153 * m + 2) 5 = (153 * m + 2) / 5 := quoI_eq (by omega) (by omega) (by omega)
    have a4 : subI .i64 r ((153 * m + 2) / 5) = r - (153 * m + 2) / 5 := subI_eq (by omega) (by omega)
    have a5 : addI .i64 (r - (153 * m + 2) / 5) 1 = d := by rw [addI_eq (by omega) (by omega), hD]
    rw [a1, a2, a3, a4, a5]
  have v7 : addI .i64 y (mulI .i64 400 age) = y + 400 * age := by
    have a1 : mulI .i64 400 age = 400 * age := mulI_eq (by omega) (by omega)
    have a2 : addI .i64 y (400 * age) = y + 400 * age := addI_eq (by omega) (by omega)
    rw [a1, a2]
  have main : ∀ (R : Type) (K : Int → Int → Int → Option R), Zia R days K = br (leI 10 m) (K (addI .i64 (y + 400 * age) 1) (subI .i64 m 9) d) (K (y + 400 * age) (addI .i64 m 3) d) := by
    intro R K
    unfold Zia Zx6 lett
    simp only [v1, v2, v3, v4, v5, v6, v7]
  by_cases hm : 10 ≤ m
  · refine ⟨y + 400 * age + 1, m - 9, d, s1 hm, fun R K => ?_⟩
    rw [main, show leI 10 m = true by unfold leI; rw [decide_eq_true_eq]; exact hm, br_true, addI_eq (by omega) (by omega), subI_eq (by omega) (by omega)]
  · refine ⟨y + 400 * age, m + 3, d, s2 (by omega), fun R K => ?_⟩
    rw [main, show leI 10 m = false by unfold leI; rw [decide_eq_false_iff_not]; exact hm, br_false, addI_eq (by omega) (by omega)]
theorem fcert_Time_bad (n : Int) (h : n < 0 ∨ 253402300799 < n) (R : Type) (K : Str → Int → Option R) : Z1j R n K = K [] 1 := by
  unfold Z1j Zqc
  rcases h with h | h
  · rw [show ltI n 0 = true by unfold ltI; rw [decide_eq_true_eq]; exact h]; rfl
  · rw [show ltI n 0 = false by unfold ltI; rw [decide_eq_false_iff_not]; omega, show ltI 253402300799 n = true by unfold ltI; rw [decide_eq_true_eq]; exact h]; rfl
theorem fcert_Time_eq (n : Int) (h0 : 0 ≤ n) (h1 : n ≤ 253402300799) : ∃ y m d, IsDate (n / 86400) y m d ∧ ∀ (R : Type) (K : Str → Int → Option R), Z1j R n K = K (stamp y m d (n % 86400)) 0 := by
  obtain ⟨y, m, d, hd, he⟩ := fcert_date_eq (n / 86400) (by omega) (by omega)
  refine ⟨y, m, d, hd, fun R K => ?_⟩
  have hy := hd.year (by omega) (by omega)
  have := hd.m1; have := hd.m2; have := hd.d1; have := hd.day
  unfold Z1j Zqc
  dsimp only [lett]
  rw [show ltI n 0 = false by unfold ltI; rw [decide_eq_false_iff_not]; omega, show ltI 253402300799 n = false by unfold ltI; rw [decide_eq_false_iff_not]; omega, br_false, br_false]
  rw [quoI_eq h0 (by omega) (by omega), remI_eq h0]
  generalize hs : n % 86400 = s
  have hs0 : 0 ≤ s := by omega
  have hs1 : s < 86400 := by omega
  rw [he, quoI_eq hs0 (by omega) (by omega), quoI_eq hs0 (by omega) (by omega), remI_eq (a := s) hs0, remI_eq (a := s / 60) (by omega)]
  rw [fcert_padded_eq 3 (by omega) y (by omega) (by omega) 4 (by rfl), fcert_padded_eq 1 (by omega) m (by omega) (by omega) 2 (by rfl)]
  rw [catB_of (by simp [dig_length])]
  show Z8z R d 2 _ = _
  rw [fcert_padded_eq 1 (by omega) d (by omega) (by omega) 2 (by rfl), catB_of (by simp [dig_length])]
  show Z8z R (s / 3600) 2 _ = _
  rw [fcert_padded_eq 1 (by omega) (s / 3600) (by omega) (by omega) 2 (by rfl), catB_of (by simp [dig_length])]
  show Z8z R (s / 60 % 60) 2 _ = _
  rw [fcert_padded_eq 1 (by omega) (s / 60 % 60) (by omega) (by omega) 2 (by rfl), catB_of (by simp [dig_length])]
  show Z8z R (s % 60) 2 _ = _
  rw [fcert_padded_eq 1 (by omega) (s % 60) (by omega) (by omega) 2 (by rfl), catB_of (by simp [dig_length])]
  rw [gd_true, catB_of (by simp [dig_length])]
  rfl
def code (y m d s : Int) : Nat := (((((y.toNat * 100 + m.toNat) * 100 + d.toNat) * 100 + (s / 3600).toNat) * 100 + (s / 60 % 60).toNat) * 100 + (s % 60).toNat)
theorem fcert_Time_at (n : Int) (h0 : 0 ≤ n) (h1 : n ≤ 253402300799) {y m d : Int} (hd : IsDate (n / 86400) y m d) (hy : 1 ≤ y) (R : Type) (K : Str → Int → Option R) : Z1j R n K = K (stamp y m d (n % 86400)) 0 := by
  obtain ⟨y', m', d', hd', he⟩ := fcert_Time_eq n h0 h1
  have hy' := hd'.year (by omega) (by omega)
  obtain ⟨rfl, rfl, rfl⟩ := hd.uniq hd' hy (by omega)
  exact he R K
noncomputable section
theorem Zpf (R : Type) (x4 x5 x6 : Int) (x7 : Bool) (k0 : Int → Int → Int → Option R) : Z11p R x4 x5 x6 x7 k0 = Zb0 R x4 x5 x6 x7 k0 := by kernel_rfl
theorem Z17e (R : Type) (x10 : Str) (x11 x12 x13 : Int) (x14 : List Int) (x15 : Int) (x16 : Bool) (x17 : List Int) (k0 : Str → Int → Int → Int → (List Int) → Int → (List Int) → Option R) : Z152 Z2t Z2s Z34 Z1j R x10 x11 x12 x13 x14 x15 x16 x17 k0 = Zoy Z2t Z2s Z34 Z1j R x10 x11 x12 x13 x14 x15 x16 x17 k0 := by kernel_rfl
def Zf5 (R : Type) (n : Nat) (x5 : Str) (x6 : List Int) (x7 : Int) (x8 : List Int) (k0 : Str → (List Int) → Option R) : Option R :=
 runP Zx4 Zx1 (Znt Z2t Z2s Z34 Z1j).step R n ((x5, (), (x6, ()), x7, ()), ((x8, ()), ())) (fun r => k0 (r.1) (r.2), ())
theorem Zwv (R : Type) (n : Nat) (x5 : Str) (x6 : List Int) (x7 : Int) (x8 : List Int) (k0 : Str → (List Int) → Option R) : Zf5 R (n + 1) x5 x6 x7 x8 k0 = Zi4 Z2t Z2s Z34 Z1j R x5 x6 x7 x8 (fun x5 x6 x7 x8 => Zf5 R n x5 x6 x7 x8 k0) k0 := rfl
theorem Z17d (R : Type) (x5 : Str) (x6 : List Int) (x7 : Int) (x8 : List Int) (k0 : Str → (List Int) → Option R) : Z15u Z2t Z2s Z34 Z1j R x5 x6 x7 x8 k0 = Zf5 R (Zal x5 x6 x7 x8) x5 x6 x7 x8 k0 := rfl
def Z3t (R : Type) (n : Nat) (x3 x4 : Int) (x5 : Str) (k0 : Int → Str → Option R) (k1 : Str → Option R) : Option R :=
 runP Z5i Z5h (Z2n Z4b).step R n (((), (), x3, x4, ()), ((x5, ()), ())) (fun r => k0 (r.1) (r.2), fun r => k1 (r), ())
theorem Z82 (R : Type) (n : Nat) (x3 x4 : Int) (x5 : Str) (k0 : Int → Str → Option R) (k1 : Str → Option R) : Z3t R (n + 1) x3 x4 x5 k0 k1 = Z30 Z4b R x3 x4 x5 (fun x3 x4 x5 => Z3t R n x3 x4 x5 k0 k1) k0 k1 := rfl
theorem Zib (R : Type) (x3 x4 : Int) (x5 : Str) (k0 : Int → Str → Option R) (k1 : Str → Option R) : Zak Z4b R x3 x4 x5 k0 k1 = Z3t R (Z21 x3 x4 x5) x3 x4 x5 k0 k1 := rfl
end
noncomputable section
def Z2h (R : Type) (n : Nat) (x3 : Str) (x4 : List (Tup [.bool])) (k0 : Str → (List (Tup [.bool])) → Option R) : Option R :=
 runP Z75 Z76 (Z3a Zc).step R n ((x3, (), ()), ((x4, ()), ())) (fun r => k0 (r.1) (r.2), ())
theorem Zjb (R : Type) (n : Nat) (x3 : Str) (x4 : List (Tup [.bool])) (k0 : Str → (List (Tup [.bool])) → Option R) : Z2h R (n + 1) x3 x4 k0 = Z5q Zc R x3 x4 (fun x3 x4 => Z2h R n x3 x4 k0) k0 := rfl
theorem Zm2 (R : Type) (x3 : Str) (x4 : List (Tup [.bool])) (k0 : Str → (List (Tup [.bool])) → Option R) : Zd2 Zc R x3 x4 k0 = Z2h R (Z2o x3 x4) x3 x4 k0 := rfl
def Z2p (R : Type) (n : Nat) (x3 : Str) (x4 : List (Tup [.bool])) (k0 : Str → (List (Tup [.bool])) → Option R) : Option R :=
 runP Z7p Z7v (Z3q Zc).step R n ((x3, (), ()), ((x4, ()), ())) (fun r => k0 (r.1) (r.2), ())
theorem Zjq (R : Type) (n : Nat) (x3 : Str) (x4 : List (Tup [.bool])) (k0 : Str → (List (Tup [.bool])) → Option R) : Z2p R (n + 1) x3 x4 k0 = Z6b Zc R x3 x4 (fun x3 x4 => Z2p R n x3 x4 k0) k0 := rfl
theorem Zmw (R : Type) (x3 : Str) (x4 : List (Tup [.bool])) (k0 : Str → (List (Tup [.bool])) → Option R) : Ze5 Zc R x3 x4 k0 = Z2p R (Z2u x3 x4) x3 x4 k0 := rfl
end
theorem Zyb (x2 : Str) (x3 x4 : Int) (i_ : (0 ≤ (x4)) ∧ ((x4) ≤ 8) ∧ (8 ≤ ((x2)).length)) : Zwe (fun R next k0 => Zjn R x2 x3 x4 next k0) (fun nx2 nx3 nx4 => (0 ≤ (nx4)) ∧ ((nx4) ≤ 8) ∧ (8 ≤ ((nx2)).length) ∧ ((8 - (nx4)).toNat < (8 - (x4)).toNat)) (fun z0 => True) := by
  obtain ⟨i_0, i_1, i_2⟩ := i_
  refine Zwe.of ?_
  delta Zjn
  refine Tot.br (fun h1 => ?_) (fun h1 => ?_)
  · first | simp (disch := omega) only [ts, *] at h1 | skip
    all_goals
      refine Tot.gd ?_
      refine Tot.lett (fun v5 e_v5 => ?_)
      first | simp (disch := omega) only [ts, *] at e_v5 | skip
      refine Tot.gd ?_
      refine Tot.lett (fun v6 e_v6 => ?_)
      first | simp (disch := omega) only [ts, *] at e_v6 | skip
      exact Tot.ret _
  · first | simp (disch := omega) only [ts, *] at h1 | skip
    all_goals
      exact Tot.ret _
theorem Z13f (x2 : Str) (x3 x4 : Int) (i_ : autoParam ((0 ≤ (x4)) ∧ ((x4) ≤ 8) ∧ (8 ≤ ((x2)).length)) sA._auto_1) : T_1 (fun R k0 => Z10q R x2 x3 x4 k0) (fun z0 => True) := by
  have h := loopS (T := Zp9) (E := Zq4) (step := (Zfv).step) (A := (Int)) (fun R k => (fun r => k (r), ())) (fun v => (0 ≤ (v.1.2.2.1)) ∧ ((v.1.2.2.1) ≤ 8) ∧ (8 ≤ ((v.1.1)).length)) (fun v => (8 - (v.1.2.2.1)).toNat) (fun p => True) ?hs (Zdo x2 x3 x4) ((x2, x3, x4, ()), (())) i_ (by obtain ⟨i_0, i_1, i_2⟩ := i_; have hh : Zdo x2 x3 x4 = 100000 + (x2.length + x3.toNat + x4.toNat) := rfl; rw [hh]; first | omega | (simp only [ts] <;> omega))
  case hs =>
    intro v hv
    rcases Zyb (v.1.1) (v.1.2.1) (v.1.2.2.1) hv with ⟨nx2, nx3, nx4, hq, e⟩ | ⟨z0, hq, e⟩
    · exact .inl ⟨((nx2, nx3, nx4, ()), (())), (by obtain ⟨hq0, hq1, hq2, hq3⟩ := hq; exact ⟨⟨hq0, hq1, hq2⟩, hq3⟩), fun R next k => e R (fun nx2 nx3 nx4 => next ((nx2, nx3, nx4, ()), (()))) (fun z0 => k (z0))⟩
    · exact .inr ⟨z0, hq, fun R next k => e R (fun nx2 nx3 nx4 => next ((nx2, nx3, nx4, ()), (()))) (fun z0 => k (z0))⟩
  obtain ⟨z0, hq, e⟩ := h
  · exact ⟨z0, hq, fun R k0 => e R (fun r => k0 (r))⟩
theorem Zh5 (a1 : Str) (h_ : autoParam ((8 ≤ ((a1)).length)) sA._auto_1) : T_1 (fun R k0 => Zk4 R a1 k0) (fun z0 => True) := by
  refine T_1.of ?_
  delta Zk4 Zu5
  refine T_1.bind (Z13f a1 0 0) (fun y7 q1 => ?_)
  exact Tot.ret _
theorem Zul (x3 x4 : Int) (x5 x6 : List Int) (i_ : ((x5).length = 5) ∧ ((x6).length = 5) ∧ (0 ≤ (x4)) ∧ ((x4) ≤ 5)) : Zwz (fun R next k0 => Zf8 R x3 x4 x5 x6 next k0) (fun nx3 nx4 nx5 nx6 => ((nx5).length = 5) ∧ ((nx6).length = 5) ∧ (0 ≤ (nx4)) ∧ ((nx4) ≤ 5) ∧ ((5 - (nx4)).toNat < (5 - (x4)).toNat)) (fun z0 z1 z2 => ((z1).length = 5) ∧ ((z2).length = 5)) := by
  obtain ⟨i_0, i_1, i_2, i_3⟩ := i_
  refine Zwz.of ?_
  delta Zf8
  refine Tot.br (fun h1 => ?_) (fun h1 => ?_)
  · first | simp (disch := omega) only [ts, *] at h1 | skip
    all_goals
      refine Tot.gd ?_
      refine Tot.lett (fun v7 e_v7 => ?_)
      first | simp (disch := omega) only [ts, *] at e_v7 | skip
      refine Tot.gd ?_
      refine Tot.gd ?_
      refine Tot.lett (fun v8 e_v8 => ?_)
      first | simp (disch := omega) only [ts, *] at e_v8 | skip
      refine Tot.gd ?_
      refine Tot.lett (fun v9 e_v9 => ?_)
      first | simp (disch := omega) only [ts, *] at e_v9 | skip
      refine Tot.lett (fun v10 e_v10 => ?_)
      first | simp (disch := omega) only [ts, *] at e_v10 | skip
      refine Tot.gd ?_
      refine Tot.lett (fun v11 e_v11 => ?_)
      have l_v11 := congrArg List.length e_v11
      first | simp (disch := omega) only [ts, *] at l_v11 | skip
      exact Tot.ret _
  · first | simp (disch := omega) only [ts, *] at h1 | skip
    all_goals
      exact Tot.ret _
theorem Zzx (x3 x4 : Int) (x5 x6 : List Int) (i_ : autoParam (((x5).length = 5) ∧ ((x6).length = 5) ∧ (0 ≤ (x4)) ∧ ((x4) ≤ 5)) sA._auto_1) : T_3 (fun R k0 => Zu9 R x3 x4 x5 x6 k0) (fun z0 z1 z2 => ((z1).length = 5) ∧ ((z2).length = 5)) := by
  have h := loopS (T := Ziv) (E := Zjc) (step := (Zba).step) (A := (Int × (List Int) × (List Int))) (fun R k => (fun r => k (r), ())) (fun v => ((v.2.1.1).length = 5) ∧ ((v.2.2.1.1).length = 5) ∧ (0 ≤ (v.1.2.2.2.1)) ∧ ((v.1.2.2.2.1) ≤ 5)) (fun v => (5 - (v.1.2.2.2.1)).toNat) (fun p => ((p.2.1).length = 5) ∧ ((p.2.2).length = 5)) ?hs (Za4 x3 x4 x5 x6) (((), (), x3, x4, ()), ((x5, ()), (x6, ()), ())) i_ (by obtain ⟨i_0, i_1, i_2, i_3⟩ := i_; have hh : Za4 x3 x4 x5 x6 = 100000 + (x3.toNat + x4.toNat + x5.length + x6.length) := rfl; rw [hh]; first | omega | (simp only [ts] <;> omega))
  case hs =>
    intro v hv
    rcases Zul (v.1.2.2.1) (v.1.2.2.2.1) (v.2.1.1) (v.2.2.1.1) hv with ⟨nx3, nx4, nx5, nx6, hq, e⟩ | ⟨z0, z1, z2, hq, e⟩
    · exact .inl ⟨(((), (), nx3, nx4, ()), ((nx5, ()), (nx6, ()), ())), (by obtain ⟨hq0, hq1, hq2, hq3, hq4⟩ := hq; exact ⟨⟨hq0, hq1, hq2, hq3⟩, hq4⟩), fun R next k => e R (fun nx3 nx4 nx5 nx6 => next (((), (), nx3, nx4, ()), ((nx5, ()), (nx6, ()), ()))) (fun z0 z1 z2 => k ((z0, z1, z2)))⟩
    · exact .inr ⟨(z0, z1, z2), hq, fun R next k => e R (fun nx3 nx4 nx5 nx6 => next (((), (), nx3, nx4, ()), ((nx5, ()), (nx6, ()), ()))) (fun z0 z1 z2 => k ((z0, z1, z2)))⟩
  obtain ⟨⟨z0, z1, z2⟩, hq, e⟩ := h
  · exact ⟨z0, z1, z2, hq, fun R k0 => e R (fun r => k0 (r.1) (r.2.1) (r.2.2))⟩
theorem Zr8 (a1 : List Int) (h_ : autoParam (((a1).length = 5)) sA._auto_1) : T_1 (fun R k0 => Z4c R a1 k0) (fun z0 => ((z0).length = 5)) := by
  refine T_1.of ?_
  delta Z4c Zmi
  refine Tot.lett (fun v2 e_v2 => ?_)
  have l_v2 := congrArg List.length e_v2
  first | simp (disch := omega) only [ts, *] at l_v2 | skip
  refine T_3.bind (Zzx 0 0 a1 v2) (fun y12 y13 y14 q1 => ?_)
  obtain ⟨q1_0, q1_1⟩ := q1
  refine Tot.lett (fun v15 e_v15 => ?_)
  first | simp (disch := omega) only [ts, *] at e_v15 | skip
  exact Tot.ret _
theorem Zzb (x7 : Int) (x8 x9 x10 : List Int) (i_ : ((x8).length = 5) ∧ ((x9).length = 5) ∧ ((x10).length = 5) ∧ (0 ≤ (x7)) ∧ ((x7) ≤ 4)) : Zwz (fun R next k0 => Ziu Z4c R x7 x8 x9 x10 next k0) (fun nx7 nx8 nx9 nx10 => ((nx8).length = 5) ∧ ((nx9).length = 5) ∧ ((nx10).length = 5) ∧ (0 ≤ (nx7)) ∧ ((nx7) ≤ 4) ∧ ((4 - (nx7)).toNat < (4 - (x7)).toNat)) (fun z0 z1 z2 => ((z0).length = 5) ∧ ((z1).length = 5) ∧ ((z2).length = 5)) := by
  obtain ⟨i_0, i_1, i_2, i_3, i_4⟩ := i_
  refine Zwz.of ?_
  delta Ziu
  refine Tot.br (fun h1 => ?_) (fun h1 => ?_)
  · first | simp (disch := omega) only [ts, *] at h1 | skip
    all_goals
      refine Tot.gd ?_
      refine Tot.lett (fun v11 e_v11 => ?_)
      first | simp (disch := omega) only [ts, *] at e_v11 | skip
      refine Tot.gd ?_
      refine Tot.lett (fun v12 e_v12 => ?_)
      first | simp (disch := omega) only [ts, *] at e_v12 | skip
      refine Tot.gd ?_
      refine Tot.lett (fun v13 e_v13 => ?_)
      have l_v13 := congrArg List.length e_v13
      first | simp (disch := omega) only [ts, *] at l_v13 | skip
      refine Tot.gd ?_
      refine Tot.lett (fun v14 e_v14 => ?_)
      first | simp (disch := omega) only [ts, *] at e_v14 | skip
      refine Tot.gd ?_
      exact Tot.ret _
  · first | simp (disch := omega) only [ts, *] at h1 | skip
    all_goals
      exact Tot.ret _
theorem Z132 (x7 : Int) (x8 x9 x10 : List Int) (i_ : autoParam (((x8).length = 5) ∧ ((x9).length = 5) ∧ ((x10).length = 5) ∧ (0 ≤ (x7)) ∧ ((x7) ≤ 4)) sA._auto_1) : T_3 (fun R k0 => Z10p Z4c R x7 x8 x9 x10 k0) (fun z0 z1 z2 => ((z0).length = 5) ∧ ((z1).length = 5) ∧ ((z2).length = 5)) := by
  have h := loopS (T := Zq2) (E := Zpw) (step := (Zfs Z4c).step) (A := ((List Int) × (List Int) × (List Int))) (fun R k => (fun r => k (r), ())) (fun v => ((v.2.1.1).length = 5) ∧ ((v.2.2.1.1).length = 5) ∧ ((v.2.2.2.1.1).length = 5) ∧ (0 ≤ (v.1.2.2.2.1)) ∧ ((v.1.2.2.2.1) ≤ 4)) (fun v => (4 - (v.1.2.2.2.1)).toNat) (fun p => ((p.1).length = 5) ∧ ((p.2.1).length = 5) ∧ ((p.2.2).length = 5)) ?hs (Zdr x7 x8 x9 x10) (((), (), (), x7, ()), ((x8, ()), (x9, ()), (x10, ()), ())) i_ (by obtain ⟨i_0, i_1, i_2, i_3, i_4⟩ := i_; have hh : Zdr x7 x8 x9 x10 = 100000 + (x7.toNat + x8.length + x9.length + x10.length) := rfl; rw [hh]; first | omega | (simp only [ts] <;> omega))
  case hs =>
    intro v hv
    rcases Zzb (v.1.2.2.2.1) (v.2.1.1) (v.2.2.1.1) (v.2.2.2.1.1) hv with ⟨nx7, nx8, nx9, nx10, hq, e⟩ | ⟨z0, z1, z2, hq, e⟩
    · exact .inl ⟨(((), (), (), nx7, ()), ((nx8, ()), (nx9, ()), (nx10, ()), ())), (by obtain ⟨hq0, hq1, hq2, hq3, hq4, hq5⟩ := hq; exact ⟨⟨hq0, hq1, hq2, hq3, hq4⟩, hq5⟩), fun R next k => e R (fun nx7 nx8 nx9 nx10 => next (((), (), (), nx7, ()), ((nx8, ()), (nx9, ()), (nx10, ()), ()))) (fun z0 z1 z2 => k ((z0, z1, z2)))⟩
    · exact .inr ⟨(z0, z1, z2), hq, fun R next k => e R (fun nx7 nx8 nx9 nx10 => next (((), (), (), nx7, ()), ((nx8, ()), (nx9, ()), (nx10, ()), ()))) (fun z0 z1 z2 => k ((z0, z1, z2)))⟩
  obtain ⟨⟨z0, z1, z2⟩, hq, e⟩ := h
  · exact ⟨z0, z1, z2, hq, fun R k0 => e R (fun r => k0 (r.1) (r.2.1) (r.2.2))⟩
theorem Z15j (a1 : List Int) (h_ : autoParam (((a1).length = 5)) sA._auto_1) : T_1 (fun R k0 => Zkd R a1 k0) (fun z0 => ((z0).length = 5)) := by
  refine T_1.of ?_
  delta Zkd Zu1
  refine Tot.lett (fun v2 e_v2 => ?_)
  have l_v2 := congrArg List.length e_v2
  first | simp (disch := omega) only [ts, *] at l_v2 | skip
  refine T_1.bind (Zr8 a1) (fun r3 q1 => ?_)
  replace q1 : (r3).length = 5 := q1
  refine T_1.bind (Zr8 r3) (fun r4 q2 => ?_)
  replace q2 : (r4).length = 5 := q2
  refine Tot.lett (fun v5 e_v5 => ?_)
  have l_v5 := congrArg List.length e_v5
  first | simp (disch := omega) only [ts, *] at l_v5 | skip
  refine Tot.lett (fun v6 e_v6 => ?_)
  first | simp (disch := omega) only [ts, *] at e_v6 | skip
  refine T_3.bind (Z132 0 r4 v2 (r4.set 0 v6)) (fun y15 y16 y17 q3 => ?_)
  obtain ⟨q3_0, q3_1, q3_2⟩ := q3
  refine Tot.lett (fun v18 e_v18 => ?_)
  first | simp (disch := omega) only [ts, *] at e_v18 | skip
  refine Tot.br (fun h4 => ?_) (fun h4 => ?_)
  · first | simp (disch := omega) only [ts, *] at h4 | skip
    all_goals
      refine Tot.lett (fun v19 e_v19 => ?_)
      first | simp (disch := omega) only [ts, *] at e_v19 | skip
      exact Tot.ret _
  · first | simp (disch := omega) only [ts, *] at h4 | skip
    all_goals
      exact Tot.ret _
theorem Z7g (a1 : List Int) (h_ : autoParam (((a1).length = 5)) sA._auto_1) : T_1 (fun R k0 => Za R a1 k0) (fun z0 => ((z0).length = 5)) := by
  refine T_1.of ?_
  delta Za Zp6
  refine Tot.lett (fun v2 e_v2 => ?_)
  have l_v2 := congrArg List.length e_v2
  first | simp (disch := omega) only [ts, *] at l_v2 | skip
  refine T_1.bind (Z15j a1) (fun r3 q1 => ?_)
  replace q1 : (r3).length = 5 := q1
  exact Tot.ret _
theorem Z16p (a1 : Str) : T_2 (fun R k0 => Zc3 R a1 k0) (fun z0 z1 => ((z0).length = 5)) := by
  refine T_2.of ?_
  delta Zc3 Zzs
  refine Tot.lett (fun v2 e_v2 => ?_)
  have l_v2 := congrArg List.length e_v2
  first | simp (disch := omega) only [ts, *] at l_v2 | skip
  refine Tot.lett (fun v3 e_v3 => ?_)
  first | simp (disch := omega) only [ts, *] at e_v3 | skip
  refine Tot.br (fun h1 => ?_) (fun h1 => ?_)
  · first | simp (disch := omega) only [ts, *] at h1 | skip
    all_goals
      refine Tot.lett (fun v4 e_v4 => ?_)
      have l_v4 := congrArg List.length e_v4
      first | simp (disch := omega) only [ts, *] at l_v4 | skip
      exact Tot.ret _
  · first | simp (disch := omega) only [ts, *] at h1 | skip
    all_goals
      refine Tot.gd ?_
      refine Tot.gd ?_
      refine Tot.gd ?_
      refine T_1.bind (Zh5 a1) (fun r5 q2 => ?_)
      refine T_1.bind (Zh5 (a1.drop 8)) (fun r6 q3 => ?_)
      refine T_1.bind (Zh5 (a1.drop 16)) (fun r7 q4 => ?_)
      refine T_1.bind (Zh5 (a1.drop 24)) (fun r8 q5 => ?_)
      refine Tot.lett (fun v9 e_v9 => ?_)
      first | simp (disch := omega) only [ts, *] at e_v9 | skip
      refine Tot.lett (fun v10 e_v10 => ?_)
      first | simp (disch := omega) only [ts, *] at e_v10 | skip
      refine Tot.lett (fun v11 e_v11 => ?_)
      first | simp (disch := omega) only [ts, *] at e_v11 | skip
      refine Tot.lett (fun v12 e_v12 => ?_)
      first | simp (disch := omega) only [ts, *] at e_v12 | skip
      refine Tot.lett (fun v13 e_v13 => ?_)
      first | simp (disch := omega) only [ts, *] at e_v13 | skip
      refine Tot.lett (fun v14 e_v14 => ?_)
      first | simp (disch := omega) only [ts, *] at e_v14 | skip
      refine Tot.lett (fun v15 e_v15 => ?_)
      first | simp (disch := omega) only [ts, *] at e_v15 | skip
      refine T_1.bind (Z7g ((((((List.replicate 5 (0 : Int)).set 0 v9).set 1 v11).set 2 v13).set 3 v15).set 4 (shrI .u64 r8 12))) (fun r16 q6 => ?_)
      replace q6 : (r16).length = 5 := q6
      exact Tot.ret _
theorem Zsq (x3 : Int) (x4 : List Int) (x5 : Str) (i_ : ((x4).length = 5) ∧ ((x5).length = 32) ∧ (0 ≤ (x3)) ∧ ((x3) ≤ 255)) : Zwe (fun R next k0 => Zcc R x3 x4 x5 next k0) (fun nx3 nx4 nx5 => ((nx4).length = 5) ∧ ((nx5).length = 32) ∧ (0 ≤ (nx3)) ∧ ((nx3) ≤ 255) ∧ ((255 - (nx3)).toNat < (255 - (x3)).toNat)) (fun z0 => ((z0).length = 32)) := by
  obtain ⟨i_0, i_1, i_2, i_3⟩ := i_
  refine Zwe.of ?_
  delta Zcc
  refine Tot.br (fun h1 => ?_) (fun h1 => ?_)
  · first | simp (disch := omega) only [ts, *] at h1 | skip
    all_goals
      refine Tot.gd ?_
      refine Tot.lett (fun v6 e_v6 => ?_)
      first | simp (disch := omega) only [ts, *] at e_v6 | skip
      refine Tot.gd ?_
      refine Tot.lett (fun v7 e_v7 => ?_)
      first | simp (disch := omega) only [ts, *] at e_v7 | skip
      refine Tot.gd ?_
      refine Tot.lett (fun v8 e_v8 => ?_)
      first | simp (disch := omega) only [ts, *] at e_v8 | skip
      refine Tot.lett (fun v9 e_v9 => ?_)
      first | simp (disch := omega) only [ts, *] at e_v9 | skip
      refine Tot.gd ?_
      refine Tot.lett (fun v10 e_v10 => ?_)
      first | simp (disch := omega) only [ts, *] at e_v10 | skip
      refine Tot.gd ?_
      refine Tot.lett (fun v11 e_v11 => ?_)
      have l_v11 := congrArg List.length e_v11
      first | simp (disch := omega) only [ts, *] at l_v11 | skip
      exact Tot.ret _
  · first | simp (disch := omega) only [ts, *] at h1 | skip
    all_goals
      exact Tot.ret _
theorem Zx0 (x3 : Int) (x4 : List Int) (x5 : Str) (i_ : autoParam (((x4).length = 5) ∧ ((x5).length = 32) ∧ (0 ≤ (x3)) ∧ ((x3) ≤ 255)) sA._auto_1) : T_1 (fun R k0 => Zr0 R x3 x4 x5 k0) (fun z0 => ((z0).length = 32)) := by
  have h := loopS (T := Zgq) (E := Zgm) (step := (Z92).step) (A := (Str)) (fun R k => (fun r => k (r), ())) (fun v => ((v.2.1.1).length = 5) ∧ ((v.2.2.1.1).length = 32) ∧ (0 ≤ (v.1.2.2.1)) ∧ ((v.1.2.2.1) ≤ 255)) (fun v => (255 - (v.1.2.2.1)).toNat) (fun p => ((p).length = 32)) ?hs (Z8s x3 x4 x5) (((), (), x3, ()), ((x4, ()), (x5, ()), ())) i_ (by obtain ⟨i_0, i_1, i_2, i_3⟩ := i_; have hh : Z8s x3 x4 x5 = 100000 + (x3.toNat + x4.length + x5.length) := rfl; rw [hh]; first | omega | (simp only [ts] <;> omega))
  case hs =>
    intro v hv
    rcases Zsq (v.1.2.2.1) (v.2.1.1) (v.2.2.1.1) hv with ⟨nx3, nx4, nx5, hq, e⟩ | ⟨z0, hq, e⟩
    · exact .inl ⟨(((), (), nx3, ()), ((nx4, ()), (nx5, ()), ())), (by obtain ⟨hq0, hq1, hq2, hq3, hq4⟩ := hq; exact ⟨⟨hq0, hq1, hq2, hq3⟩, hq4⟩), fun R next k => e R (fun nx3 nx4 nx5 => next (((), (), nx3, ()), ((nx4, ()), (nx5, ()), ()))) (fun z0 => k (z0))⟩
    · exact .inr ⟨z0, hq, fun R next k => e R (fun nx3 nx4 nx5 => next (((), (), nx3, ()), ((nx4, ()), (nx5, ()), ()))) (fun z0 => k (z0))⟩
  obtain ⟨z0, hq, e⟩ := h
  · exact ⟨z0, hq, fun R k0 => e R (fun r => k0 (r))⟩
theorem Zah (a1 : List Int) (h_ : autoParam (((a1).length = 5)) sA._auto_1) : T_1 (fun R k0 => Z20 R a1 k0) (fun z0 => (((z0)).length = 32)) := by
  refine T_1.of ?_
  delta Z20 Zjj
  refine Tot.lett (fun v2 e_v2 => ?_)
  have l_v2 := congrArg List.length e_v2
  first | simp (disch := omega) only [ts, *] at l_v2 | skip
  refine T_1.bind (Zx0 0 a1 v2) (fun y12 q1 => ?_)
  replace q1 : (y12).length = 32 := q1
  exact Tot.ret _
theorem Zn7 (a1 a2 a3 a4 : Int) : T_2 (fun R k0 => Zo R a1 a2 a3 a4 k0) (fun z0 z1 => True) := by
  refine T_2.of ?_
  delta Zo Zj8
  refine T_2.bind (Zwn a3 a4) (fun r5 r6 q1 => ?_)
  refine T_2.bind (Zc5 a2 r6 0) (fun r7 r8 q2 => ?_)
  obtain ⟨q2_0, q2_1, q2_2, q2_3⟩ := q2
  refine Tot.lett (fun v9 e_v9 => ?_)
  first | simp (disch := omega) only [ts, *] at e_v9 | skip
  exact Tot.ret _
theorem Zv6 (x17 x18 x19 : Int) (x20 x21 x22 : List Int) (x23 : List (Tup [.int .u64, .int .u64])) (i_ : ((x20).length = 5) ∧ ((x21).length = 5) ∧ ((x22).length = 5) ∧ ((x23).length = 5) ∧ (0 ≤ (x17)) ∧ ((x17) < 5) ∧ (0 ≤ (x19)) ∧ ((x19) < 5)) : T_7 (fun R k0 => Zfc Zo Zg Za R x17 x18 x19 x20 x21 x22 x23 k0) (fun z0 z1 z2 z3 z4 z5 z6 => ((z3).length = 5) ∧ ((z4).length = 5) ∧ ((z5).length = 5) ∧ ((z6).length = 5) ∧ ((z0) = (x17)) ∧ ((z1) = (x18)) ∧ ((z2) = (x19))) := by
  obtain ⟨i_0, i_1, i_2, i_3, i_4, i_5, i_6, i_7⟩ := i_
  refine T_7.of ?_
  delta Zfc
  refine Tot.lett (fun v24 e_v24 => ?_)
  refine Tot.br (fun h1 => ?_) (fun h1 => ?_)
  · first | simp (disch := omega) only [ts, *] at h1 | skip
    all_goals
      refine Tot.gd ?_
      refine Tot.gd ?_
      refine Tot.gd ?_
      refine T_2.bind (Zn7 ((x23.getD ((addI .i64 x17 x19).toNat) (tupD [.int .u64, .int .u64])).1) ((x23.getD ((addI .i64 x17 x19).toNat) (tupD [.int .u64, .int .u64])).2.1) (x20.getD x17.toNat 0) (x21.getD x19.toNat 0)) (fun r25 r26 q2 => ?_)
      refine Tot.gd ?_
      refine Tot.lett (fun v27 e_v27 => ?_)
      have l_v27 := congrArg List.length e_v27
      first | simp (disch := omega) only [ts, *] at l_v27 | skip
      exact Tot.ret _
  · first | simp (disch := omega) only [ts, *] at h1 | skip
    all_goals
      refine Tot.lett (fun v28 e_v28 => ?_)
      first | simp (disch := omega) only [ts, *] at e_v28 | skip
      refine Tot.lett (fun v29 e_v29 => ?_)
      first | simp (disch := omega) only [ts, *] at e_v29 | skip
      refine Tot.gd ?_
      refine Tot.gd ?_
      refine Tot.lett (fun v30 e_v30 => ?_)
      first | simp (disch := omega) only [ts, *] at e_v30 | skip
      refine Tot.gd ?_
      refine T_2.bind (Zn7 ((x23.getD v29.toNat (tupD [.int .u64, .int .u64])).1) ((x23.getD v29.toNat (tupD [.int .u64, .int .u64])).2.1) v30 (x21.getD x19.toNat 0)) (fun r31 r32 q3 => ?_)
      refine Tot.gd ?_
      refine Tot.lett (fun v33 e_v33 => ?_)
      have l_v33 := congrArg List.length e_v33
      first | simp (disch := omega) only [ts, *] at l_v33 | skip
      exact Tot.ret _
theorem Z10a (x17 x18 x19 : Int) (x20 x21 x22 : List Int) (x23 : List (Tup [.int .u64, .int .u64])) (i_ : autoParam (((x20).length = 5) ∧ ((x21).length = 5) ∧ ((x22).length = 5) ∧ ((x23).length = 5) ∧ (0 ≤ (x17)) ∧ ((x17) < 5) ∧ (0 ≤ (x19)) ∧ ((x19) < 5)) sA._auto_1) : T_7 (fun R k0 => Ztv Zo Zg Za R x17 x18 x19 x20 x21 x22 x23 k0) (fun z0 z1 z2 z3 z4 z5 z6 => ((z3).length = 5) ∧ ((z4).length = 5) ∧ ((z5).length = 5) ∧ ((z6).length = 5) ∧ ((z0) = (x17)) ∧ ((z1) = (x18)) ∧ ((z2) = (x19))) := by
  exact T_7.congr (fun R k0 => by kernel_rfl) (Zv6 x17 x18 x19 x20 x21 x22 x23 i_)
theorem Zvj (gx10 gx11 gx12 : Int) (gx13 gx14 gx15 : List Int) (gx16 : List (Tup [.int .u64, .int .u64])) (x10 x11 x12 : Int) (x13 x14 x15 : List Int) (x16 : List (Tup [.int .u64, .int .u64])) (i_ : ((x13).length = 5) ∧ ((x14).length = 5) ∧ ((x15).length = 5) ∧ ((x16).length = 5) ∧ (0 ≤ (x12)) ∧ ((x12) ≤ 5) ∧ (0 ≤ (x10)) ∧ ((x10) < 5) ∧ ((x10) = (gx10)) ∧ ((x11) = (gx11))) : Z12q (fun R next k0 => Zfb Zo Zg Za R x10 x11 x12 x13 x14 x15 x16 next k0) (fun nx10 nx11 nx12 nx13 nx14 nx15 nx16 => ((nx13).length = 5) ∧ ((nx14).length = 5) ∧ ((nx15).length = 5) ∧ ((nx16).length = 5) ∧ (0 ≤ (nx12)) ∧ ((nx12) ≤ 5) ∧ (0 ≤ (nx10)) ∧ ((nx10) < 5) ∧ ((nx10) = (gx10)) ∧ ((nx11) = (gx11)) ∧ ((5 - (nx12)).toNat < (5 - (x12)).toNat)) (fun z0 z1 z2 z3 z4 => ((z1).length = 5) ∧ ((z2).length = 5) ∧ ((z3).length = 5) ∧ ((z4).length = 5) ∧ ((z0) = (gx11))) := by
  obtain ⟨i_0, i_1, i_2, i_3, i_4, i_5, i_6, i_7, i_8, i_9⟩ := i_
  refine Z12q.of ?_
  delta Zfb
  refine Tot.br (fun h1 => ?_) (fun h1 => ?_)
  · first | simp (disch := omega) only [ts, *] at h1 | skip
    all_goals
      refine T_7.bind (Z10a x10 x11 x12 x13 x14 x15 x16) (fun y34 y35 y36 y37 y38 y39 y40 q2 => ?_)
      obtain ⟨q2_0, q2_1, q2_2, q2_3, q2_4, q2_5, q2_6⟩ := q2
      exact Tot.ret _
  · first | simp (disch := omega) only [ts, *] at h1 | skip
    all_goals
      exact Tot.ret _
theorem Z109 (x10 x11 x12 : Int) (x13 x14 x15 : List Int) (x16 : List (Tup [.int .u64, .int .u64])) (i_ : autoParam (((x13).length = 5) ∧ ((x14).length = 5) ∧ ((x15).length = 5) ∧ ((x16).length = 5) ∧ (0 ≤ (x12)) ∧ ((x12) ≤ 5) ∧ (0 ≤ (x10)) ∧ ((x10) < 5) ∧ ((x10) = (x10)) ∧ ((x11) = (x11))) sA._auto_1) : T_5 (fun R k0 => Zui Zo Zg Za R x10 x11 x12 x13 x14 x15 x16 k0) (fun z0 z1 z2 z3 z4 => ((z1).length = 5) ∧ ((z2).length = 5) ∧ ((z3).length = 5) ∧ ((z4).length = 5) ∧ ((z0) = (x11))) := by
  have h := loopS (T := Zjl) (E := Zim) (step := (Zaw Zo Zg Za).step) (A := (Int × (List Int) × (List Int) × (List Int) × (List (Tup [.int .u64, .int .u64])))) (fun R k => (fun r => k (r), ())) (fun v => ((v.2.1.1).length = 5) ∧ ((v.2.2.1.1).length = 5) ∧ ((v.2.2.2.1.1).length = 5) ∧ ((v.2.2.2.2.1.1).length = 5) ∧ (0 ≤ (v.1.2.2.2.2.2.2.1)) ∧ ((v.1.2.2.2.2.2.2.1) ≤ 5) ∧ (0 ≤ (v.1.2.2.2.2.1)) ∧ ((v.1.2.2.2.2.1) < 5) ∧ ((v.1.2.2.2.2.1) = (x10)) ∧ ((v.1.2.2.2.2.2.1) = (x11))) (fun v => (5 - (v.1.2.2.2.2.2.2.1)).toNat) (fun p => ((p.2.1).length = 5) ∧ ((p.2.2.1).length = 5) ∧ ((p.2.2.2.1).length = 5) ∧ ((p.2.2.2.2).length = 5) ∧ ((p.1) = (x11))) ?hs (Zad x10 x11 x12 x13 x14 x15 x16) (((), (), (), (), x10, x11, x12, ()), ((x13, ()), (x14, ()), (x15, ()), (x16, ()), ())) i_ (by obtain ⟨i_0, i_1, i_2, i_3, i_4, i_5, i_6, i_7, i_8, i_9⟩ := i_; have hh : Zad x10 x11 x12 x13 x14 x15 x16 = 100000 + (x10.toNat + x11.toNat + x12.toNat + x13.length + x14.length + x15.length + x16.length) := rfl; rw [hh]; first | omega | (simp only [ts] <;> omega))
  case hs =>
    intro v hv
    rcases Zvj x10 x11 x12 x13 x14 x15 x16 (v.1.2.2.2.2.1) (v.1.2.2.2.2.2.1) (v.1.2.2.2.2.2.2.1) (v.2.1.1) (v.2.2.1.1) (v.2.2.2.1.1) (v.2.2.2.2.1.1) hv with ⟨nx10, nx11, nx12, nx13, nx14, nx15, nx16, hq, e⟩ | ⟨z0, z1, z2, z3, z4, hq, e⟩
    · exact .inl ⟨(((), (), (), (), nx10, nx11, nx12, ()), ((nx13, ()), (nx14, ()), (nx15, ()), (nx16, ()), ())), (by obtain ⟨hq0, hq1, hq2, hq3, hq4, hq5, hq6, hq7, hq8, hq9, hq10⟩ := hq; exact ⟨⟨hq0, hq1, hq2, hq3, hq4, hq5, hq6, hq7, hq8, hq9⟩, hq10⟩), fun R next k => e R (fun nx10 nx11 nx12 nx13 nx14 nx15 nx16 => next (((), (), (), (), nx10, nx11, nx12, ()), ((nx13, ()), (nx14, ()), (nx15, ()), (nx16, ()), ()))) (fun z0 z1 z2 z3 z4 => k ((z0, z1, z2, z3, z4)))⟩
    · exact .inr ⟨(z0, z1, z2, z3, z4), hq, fun R next k => e R (fun nx10 nx11 nx12 nx13 nx14 nx15 nx16 => next (((), (), (), (), nx10, nx11, nx12, ()), ((nx13, ()), (nx14, ()), (nx15, ()), (nx16, ()), ()))) (fun z0 z1 z2 z3 z4 => k ((z0, z1, z2, z3, z4)))⟩
  obtain ⟨⟨z0, z1, z2, z3, z4⟩, hq, e⟩ := h
  · exact ⟨z0, z1, z2, z3, z4, hq, fun R k0 => e R (fun r => k0 (r.1) (r.2.1) (r.2.2.1) (r.2.2.2.1) (r.2.2.2.2))⟩
theorem Zun (x5 : Int) (x6 x7 x8 : List Int) (x9 : List (Tup [.int .u64, .int .u64])) (i_ : ((x6).length = 5) ∧ ((x7).length = 5) ∧ ((x8).length = 5) ∧ ((x9).length = 5) ∧ (0 ≤ (x5)) ∧ ((x5) ≤ 5)) : Z177 (fun R next k0 => Zfa Zo Zg Za R x5 x6 x7 x8 x9 next k0) (fun nx5 nx6 nx7 nx8 nx9 => ((nx6).length = 5) ∧ ((nx7).length = 5) ∧ ((nx8).length = 5) ∧ ((nx9).length = 5) ∧ (0 ≤ (nx5)) ∧ ((nx5) ≤ 5) ∧ ((5 - (nx5)).toNat < (5 - (x5)).toNat)) (fun z0 z1 => ((z0).length = 5) ∧ ((z1).length = 5)) := by
  obtain ⟨i_0, i_1, i_2, i_3, i_4, i_5⟩ := i_
  refine Z177.of ?_
  delta Zfa
  refine Tot.br (fun h1 => ?_) (fun h1 => ?_)
  · first | simp (disch := omega) only [ts, *] at h1 | skip
    all_goals
      refine T_5.bind (Z109 x5 x5 0 x6 x7 x8 x9) (fun y41 y42 y43 y44 y45 q2 => ?_)
      obtain ⟨q2_0, q2_1, q2_2, q2_3, q2_4⟩ := q2
      exact Tot.ret _
  · first | simp (disch := omega) only [ts, *] at h1 | skip
    all_goals
      exact Tot.ret _
theorem Z100 (x5 : Int) (x6 x7 x8 : List Int) (x9 : List (Tup [.int .u64, .int .u64])) (i_ : autoParam (((x6).length = 5) ∧ ((x7).length = 5) ∧ ((x8).length = 5) ∧ ((x9).length = 5) ∧ (0 ≤ (x5)) ∧ ((x5) ≤ 5)) sA._auto_1) : T_2 (fun R k0 => Zu3 Zo Zg Za R x5 x6 x7 x8 x9 k0) (fun z0 z1 => ((z0).length = 5) ∧ ((z1).length = 5)) := by
  have h := loopS (T := Zix) (E := Zja) (step := (Zbc Zo Zg Za).step) (A := ((List Int) × (List (Tup [.int .u64, .int .u64])))) (fun R k => (fun r => k (r), ())) (fun v => ((v.2.1.1).length = 5) ∧ ((v.2.2.1.1).length = 5) ∧ ((v.2.2.2.1.1).length = 5) ∧ ((v.2.2.2.2.1.1).length = 5) ∧ (0 ≤ (v.1.2.2.2.2.1)) ∧ ((v.1.2.2.2.2.1) ≤ 5)) (fun v => (5 - (v.1.2.2.2.2.1)).toNat) (fun p => ((p.1).length = 5) ∧ ((p.2).length = 5)) ?hs (Z9w x5 x6 x7 x8 x9) (((), (), (), (), x5, ()), ((x6, ()), (x7, ()), (x8, ()), (x9, ()), ())) i_ (by obtain ⟨i_0, i_1, i_2, i_3, i_4, i_5⟩ := i_; have hh : Z9w x5 x6 x7 x8 x9 = 100000 + (x5.toNat + x6.length + x7.length + x8.length + x9.length) := rfl; rw [hh]; first | omega | (simp only [ts] <;> omega))
  case hs =>
    intro v hv
    rcases Zun (v.1.2.2.2.2.1) (v.2.1.1) (v.2.2.1.1) (v.2.2.2.1.1) (v.2.2.2.2.1.1) hv with ⟨nx5, nx6, nx7, nx8, nx9, hq, e⟩ | ⟨z0, z1, hq, e⟩
    · exact .inl ⟨(((), (), (), (), nx5, ()), ((nx6, ()), (nx7, ()), (nx8, ()), (nx9, ()), ())), (by obtain ⟨hq0, hq1, hq2, hq3, hq4, hq5, hq6⟩ := hq; exact ⟨⟨hq0, hq1, hq2, hq3, hq4, hq5⟩, hq6⟩), fun R next k => e R (fun nx5 nx6 nx7 nx8 nx9 => next (((), (), (), (), nx5, ()), ((nx6, ()), (nx7, ()), (nx8, ()), (nx9, ()), ()))) (fun z0 z1 => k ((z0, z1)))⟩
    · exact .inr ⟨(z0, z1), hq, fun R next k => e R (fun nx5 nx6 nx7 nx8 nx9 => next (((), (), (), (), nx5, ()), ((nx6, ()), (nx7, ()), (nx8, ()), (nx9, ()), ()))) (fun z0 z1 => k ((z0, z1)))⟩
  obtain ⟨⟨z0, z1⟩, hq, e⟩ := h
  · exact ⟨z0, z1, hq, fun R k0 => e R (fun r => k0 (r.1) (r.2))⟩
theorem Zvq (x49 : Int) (x50 : List (Tup [.int .u64, .int .u64])) (x51 : Int) (x52 x53 : List Int) (i_ : ((x50).length = 5) ∧ ((x52).length = 5) ∧ ((x53).length = 5) ∧ (0 ≤ (x51)) ∧ ((x51) ≤ 5)) : Zwk (fun R next k0 => Zex Zo Zg Za R x49 x50 x51 x52 x53 next k0) (fun nx49 nx50 nx51 nx52 nx53 => ((nx50).length = 5) ∧ ((nx52).length = 5) ∧ ((nx53).length = 5) ∧ (0 ≤ (nx51)) ∧ ((nx51) ≤ 5) ∧ ((5 - (nx51)).toNat < (5 - (x51)).toNat)) (fun z0 z1 z2 => ((z1).length = 5) ∧ ((z2).length = 5)) := by
  obtain ⟨i_0, i_1, i_2, i_3, i_4⟩ := i_
  refine Zwk.of ?_
  delta Zex
  refine Tot.br (fun h1 => ?_) (fun h1 => ?_)
  · first | simp (disch := omega) only [ts, *] at h1 | skip
    all_goals
      refine Tot.gd ?_
      refine Tot.lett (fun v54 e_v54 => ?_)
      first | simp (disch := omega) only [ts, *] at e_v54 | skip
      refine Tot.lett (fun v55 e_v55 => ?_)
      first | simp (disch := omega) only [ts, *] at e_v55 | skip
      refine T_2.bind (Zc5 v55 x49 0) (fun r56 r57 q2 => ?_)
      obtain ⟨q2_0, q2_1, q2_2, q2_3⟩ := q2
      refine Tot.lett (fun v58 e_v58 => ?_)
      first | simp (disch := omega) only [ts, *] at e_v58 | skip
      refine Tot.gd ?_
      refine Tot.lett (fun v59 e_v59 => ?_)
      first | simp (disch := omega) only [ts, *] at e_v59 | skip
      refine Tot.lett (fun v60 e_v60 => ?_)
      first | simp (disch := omega) only [ts, *] at e_v60 | skip
      exact Tot.ret _
  · first | simp (disch := omega) only [ts, *] at h1 | skip
    all_goals
      exact Tot.ret _
theorem Zzw (x49 : Int) (x50 : List (Tup [.int .u64, .int .u64])) (x51 : Int) (x52 x53 : List Int) (i_ : autoParam (((x50).length = 5) ∧ ((x52).length = 5) ∧ ((x53).length = 5) ∧ (0 ≤ (x51)) ∧ ((x51) ≤ 5)) sA._auto_1) : T_3 (fun R k0 => Zv4 Zo Zg Za R x49 x50 x51 x52 x53 k0) (fun z0 z1 z2 => ((z1).length = 5) ∧ ((z2).length = 5)) := by
  have h := loopS (T := Zji) (E := Zj7) (step := (Zan Zo Zg Za).step) (A := (Int × (List Int) × (List Int))) (fun R k => (fun r => k (r), ())) (fun v => ((v.1.2.2.2.1.1).length = 5) ∧ ((v.2.1.1).length = 5) ∧ ((v.2.2.1.1).length = 5) ∧ (0 ≤ (v.1.2.2.2.2.1)) ∧ ((v.1.2.2.2.2.1) ≤ 5)) (fun v => (5 - (v.1.2.2.2.2.1)).toNat) (fun p => ((p.2.1).length = 5) ∧ ((p.2.2).length = 5)) ?hs (Zaf x49 x50 x51 x52 x53) (((), (), x49, (x50, ()), x51, ()), ((x52, ()), (x53, ()), ())) i_ (by obtain ⟨i_0, i_1, i_2, i_3, i_4⟩ := i_; have hh : Zaf x49 x50 x51 x52 x53 = 100000 + (x49.toNat + x50.length + x51.toNat + x52.length + x53.length) := rfl; rw [hh]; first | omega | (simp only [ts] <;> omega))
  case hs =>
    intro v hv
    rcases Zvq (v.1.2.2.1) (v.1.2.2.2.1.1) (v.1.2.2.2.2.1) (v.2.1.1) (v.2.2.1.1) hv with ⟨nx49, nx50, nx51, nx52, nx53, hq, e⟩ | ⟨z0, z1, z2, hq, e⟩
    · exact .inl ⟨(((), (), nx49, (nx50, ()), nx51, ()), ((nx52, ()), (nx53, ()), ())), (by obtain ⟨hq0, hq1, hq2, hq3, hq4, hq5⟩ := hq; exact ⟨⟨hq0, hq1, hq2, hq3, hq4⟩, hq5⟩), fun R next k => e R (fun nx49 nx50 nx51 nx52 nx53 => next (((), (), nx49, (nx50, ()), nx51, ()), ((nx52, ()), (nx53, ()), ()))) (fun z0 z1 z2 => k ((z0, z1, z2)))⟩
    · exact .inr ⟨(z0, z1, z2), hq, fun R next k => e R (fun nx49 nx50 nx51 nx52 nx53 => next (((), (), nx49, (nx50, ()), nx51, ()), ((nx52, ()), (nx53, ()), ()))) (fun z0 z1 z2 => k ((z0, z1, z2)))⟩
  obtain ⟨⟨z0, z1, z2⟩, hq, e⟩ := h
  · exact ⟨z0, z1, z2, hq, fun R k0 => e R (fun r => k0 (r.1) (r.2.1) (r.2.2))⟩
theorem Z3 (a1 a2 : List Int) (h_ : autoParam (((a1).length = 5) ∧ ((a2).length = 5)) sA._auto_1) : T_1 (fun R k0 => Z2 R a1 a2 k0) (fun z0 => ((z0).length = 5)) := by
  obtain ⟨h_0, h_1⟩ := h_
  refine T_1.of ?_
  delta Z2 Zn4
  refine Tot.lett (fun v3 e_v3 => ?_)
  have l_v3 := congrArg List.length e_v3
  first | simp (disch := omega) only [ts, *] at l_v3 | skip
  refine Tot.lett (fun v4 e_v4 => ?_)
  have l_v4 := congrArg List.length e_v4
  first | simp (disch := omega) only [ts, *] at l_v4 | skip
  refine T_2.bind (Z100 0 a1 a2 v3 v4) (fun y46 y47 q1 => ?_)
  obtain ⟨q1_0, q1_1⟩ := q1
  refine Tot.lett (fun v48 e_v48 => ?_)
  have l_v48 := congrArg List.length e_v48
  first | simp (disch := omega) only [ts, *] at l_v48 | skip
  refine T_3.bind (Zzw 0 y47 0 y46 v48) (fun y61 y62 y63 q2 => ?_)
  obtain ⟨q2_0, q2_1⟩ := q2
  refine Tot.lett (fun v64 e_v64 => ?_)
  first | simp (disch := omega) only [ts, *] at e_v64 | skip
  refine T_1.bind (Z7g (y63.set 0 v64)) (fun r65 q3 => ?_)
  replace q3 : (r65).length = 5 := q3
  exact Tot.ret _
theorem Zut (x4 : Int) (x5 x6 x7 : List Int) (i_ : ((x5).length = 5) ∧ ((x6).length = 5) ∧ ((x7).length = 5) ∧ (0 ≤ (x4)) ∧ ((x4) ≤ 5)) : Zqa (fun R next k0 => Zfh Za R x4 x5 x6 x7 next k0) (fun nx4 nx5 nx6 nx7 => ((nx5).length = 5) ∧ ((nx6).length = 5) ∧ ((nx7).length = 5) ∧ (0 ≤ (nx4)) ∧ ((nx4) ≤ 5) ∧ ((5 - (nx4)).toNat < (5 - (x4)).toNat)) (fun z0 z1 => ((z0).length = 5) ∧ ((z1).length = 5)) := by
  obtain ⟨i_0, i_1, i_2, i_3, i_4⟩ := i_
  refine Zqa.of ?_
  delta Zfh
  refine Tot.br (fun h1 => ?_) (fun h1 => ?_)
  · first | simp (disch := omega) only [ts, *] at h1 | skip
    all_goals
      refine Tot.gd ?_
      refine Tot.gd ?_
      refine Tot.lett (fun v8 e_v8 => ?_)
      first | simp (disch := omega) only [ts, *] at e_v8 | skip
      refine Tot.lett (fun v9 e_v9 => ?_)
      first | simp (disch := omega) only [ts, *] at e_v9 | skip
      refine Tot.gd ?_
      exact Tot.ret _
  · first | simp (disch := omega) only [ts, *] at h1 | skip
    all_goals
      exact Tot.ret _
theorem Zzu (x4 : Int) (x5 x6 x7 : List Int) (i_ : autoParam (((x5).length = 5) ∧ ((x6).length = 5) ∧ ((x7).length = 5) ∧ (0 ≤ (x4)) ∧ ((x4) ≤ 5)) sA._auto_1) : T_2 (fun R k0 => Zum Za R x4 x5 x6 x7 k0) (fun z0 z1 => ((z0).length = 5) ∧ ((z1).length = 5)) := by
  have h := loopS (T := Zio) (E := Zjh) (step := (Zar Za).step) (A := ((List Int) × (List Int))) (fun R k => (fun r => k (r), ())) (fun v => ((v.2.1.1).length = 5) ∧ ((v.2.2.1.1).length = 5) ∧ ((v.2.2.2.1.1).length = 5) ∧ (0 ≤ (v.1.2.2.2.1)) ∧ ((v.1.2.2.2.1) ≤ 5)) (fun v => (5 - (v.1.2.2.2.1)).toNat) (fun p => ((p.1).length = 5) ∧ ((p.2).length = 5)) ?hs (Za7 x4 x5 x6 x7) (((), (), (), x4, ()), ((x5, ()), (x6, ()), (x7, ()), ())) i_ (by obtain ⟨i_0, i_1, i_2, i_3, i_4⟩ := i_; have hh : Za7 x4 x5 x6 x7 = 100000 + (x4.toNat + x5.length + x6.length + x7.length) := rfl; rw [hh]; first | omega | (simp only [ts] <;> omega))
  case hs =>
    intro v hv
    rcases Zut (v.1.2.2.2.1) (v.2.1.1) (v.2.2.1.1) (v.2.2.2.1.1) hv with ⟨nx4, nx5, nx6, nx7, hq, e⟩ | ⟨z0, z1, hq, e⟩
    · exact .inl ⟨(((), (), (), nx4, ()), ((nx5, ()), (nx6, ()), (nx7, ()), ())), (by obtain ⟨hq0, hq1, hq2, hq3, hq4, hq5⟩ := hq; exact ⟨⟨hq0, hq1, hq2, hq3, hq4⟩, hq5⟩), fun R next k => e R (fun nx4 nx5 nx6 nx7 => next (((), (), (), nx4, ()), ((nx5, ()), (nx6, ()), (nx7, ()), ()))) (fun z0 z1 => k ((z0, z1)))⟩
    · exact .inr ⟨(z0, z1), hq, fun R next k => e R (fun nx4 nx5 nx6 nx7 => next (((), (), (), nx4, ()), ((nx5, ()), (nx6, ()), (nx7, ()), ()))) (fun z0 z1 => k ((z0, z1)))⟩
  obtain ⟨⟨z0, z1⟩, hq, e⟩ := h
  · exact ⟨z0, z1, hq, fun R k0 => e R (fun r => k0 (r.1) (r.2))⟩
theorem Z1v (a1 a2 : List Int) (h_ : autoParam (((a1).length = 5) ∧ ((a2).length = 5)) sA._auto_1) : T_1 (fun R k0 => Zr R a1 a2 k0) (fun z0 => ((z0).length = 5)) := by
  obtain ⟨h_0, h_1⟩ := h_
  refine T_1.of ?_
  delta Zr Zna
  refine Tot.lett (fun v3 e_v3 => ?_)
  have l_v3 := congrArg List.length e_v3
  first | simp (disch := omega) only [ts, *] at l_v3 | skip
  refine T_2.bind (Zzu 0 a1 a2 v3) (fun y10 y11 q1 => ?_)
  obtain ⟨q1_0, q1_1⟩ := q1
  refine Tot.lett (fun v12 e_v12 => ?_)
  first | simp (disch := omega) only [ts, *] at e_v12 | skip
  refine T_1.bind (Z7g (y10.set 0 v12)) (fun r13 q2 => ?_)
  replace q2 : (r13).length = 5 := q2
  exact Tot.ret _
theorem Z42 (a1 : Int) : T_1 (fun R k0 => Zp R a1 k0) (fun z0 => ((z0).length = 5)) := by
  refine T_1.of ?_
  delta Zp Zsk
  refine Tot.lett (fun v2 e_v2 => ?_)
  have l_v2 := congrArg List.length e_v2
  first | simp (disch := omega) only [ts, *] at l_v2 | skip
  refine Tot.br (fun h1 => ?_) (fun h1 => ?_)
  · first | simp (disch := omega) only [ts, *] at h1 | skip
    all_goals
      refine Tot.lett (fun v3 e_v3 => ?_)
      first | simp (disch := omega) only [ts, *] at e_v3 | skip
      refine Tot.lett (fun v4 e_v4 => ?_)
      first | simp (disch := omega) only [ts, *] at e_v4 | skip
      refine Tot.lett (fun v5 e_v5 => ?_)
      first | simp (disch := omega) only [ts, *] at e_v5 | skip
      refine T_1.bind (Z7g (((List.replicate 5 (0 : Int)).set 0 v5).set 1 (shrI .u64 v4 51))) (fun r6 q2 => ?_)
      replace q2 : (r6).length = 5 := q2
      refine T_1.bind (Z1v (List.replicate 5 (0 : Int)) r6) (fun r7 q3 => ?_)
      replace q3 : (r7).length = 5 := q3
      exact Tot.ret _
  · first | simp (disch := omega) only [ts, *] at h1 | skip
    all_goals
      refine Tot.lett (fun v8 e_v8 => ?_)
      first | simp (disch := omega) only [ts, *] at e_v8 | skip
      refine Tot.lett (fun v9 e_v9 => ?_)
      first | simp (disch := omega) only [ts, *] at e_v9 | skip
      refine T_1.bind (Z7g (((List.replicate 5 (0 : Int)).set 0 v8).set 1 v9)) (fun r10 q4 => ?_)
      replace q4 : (r10).length = 5 := q4
      exact Tot.ret _
theorem Zq1 (x4 x5 : Int) (x6 x7 : List Int) (i_ : ((x6).length = 5) ∧ ((x7).length = 5) ∧ (0 ≤ (x5)) ∧ ((x5) ≤ (x4)) ∧ ((x4) ≤ 1000)) : Zqa (fun R next k0 => Zb2 Z2 R x4 x5 x6 x7 next k0) (fun nx4 nx5 nx6 nx7 => ((nx6).length = 5) ∧ ((nx7).length = 5) ∧ (0 ≤ (nx5)) ∧ ((nx5) ≤ (nx4)) ∧ ((nx4) ≤ 1000) ∧ (((nx4) - (nx5)).toNat < ((x4) - (x5)).toNat)) (fun z0 z1 => ((z0).length = 5) ∧ ((z1).length = 5)) := by
  obtain ⟨i_0, i_1, i_2, i_3, i_4⟩ := i_
  refine Zqa.of ?_
  delta Zb2
  refine Tot.br (fun h1 => ?_) (fun h1 => ?_)
  · first | simp (disch := omega) only [ts, *] at h1 | skip
    all_goals
      refine T_1.bind (Z3 x6 x6) (fun r8 q2 => ?_)
      replace q2 : (r8).length = 5 := q2
      exact Tot.ret _
  · first | simp (disch := omega) only [ts, *] at h1 | skip
    all_goals
      exact Tot.ret _
theorem Zua (x4 x5 : Int) (x6 x7 : List Int) (i_ : autoParam (((x6).length = 5) ∧ ((x7).length = 5) ∧ (0 ≤ (x5)) ∧ ((x5) ≤ (x4)) ∧ ((x4) ≤ 1000)) sA._auto_1) : T_2 (fun R k0 => Zmc Z2 R x4 x5 x6 x7 k0) (fun z0 z1 => ((z0).length = 5) ∧ ((z1).length = 5)) := by
  have h := loopS (T := Ze8) (E := Zeh) (step := (Z77 Z2).step) (A := ((List Int) × (List Int))) (fun R k => (fun r => k (r), ())) (fun v => ((v.2.1.1).length = 5) ∧ ((v.2.2.1.1).length = 5) ∧ (0 ≤ (v.1.2.2.2.1)) ∧ ((v.1.2.2.2.1) ≤ (v.1.2.2.1)) ∧ ((v.1.2.2.1) ≤ 1000)) (fun v => ((v.1.2.2.1) - (v.1.2.2.2.1)).toNat) (fun p => ((p.1).length = 5) ∧ ((p.2).length = 5)) ?hs (Z71 x4 x5 x6 x7) (((), (), x4, x5, ()), ((x6, ()), (x7, ()), ())) i_ (by obtain ⟨i_0, i_1, i_2, i_3, i_4⟩ := i_; have hh : Z71 x4 x5 x6 x7 = 100000 + (x4.toNat + x5.toNat + x6.length + x7.length) := rfl; rw [hh]; first | omega | (simp only [ts] <;> omega))
  case hs =>
    intro v hv
    rcases Zq1 (v.1.2.2.1) (v.1.2.2.2.1) (v.2.1.1) (v.2.2.1.1) hv with ⟨nx4, nx5, nx6, nx7, hq, e⟩ | ⟨z0, z1, hq, e⟩
    · exact .inl ⟨(((), (), nx4, nx5, ()), ((nx6, ()), (nx7, ()), ())), (by obtain ⟨hq0, hq1, hq2, hq3, hq4, hq5⟩ := hq; exact ⟨⟨hq0, hq1, hq2, hq3, hq4⟩, hq5⟩), fun R next k => e R (fun nx4 nx5 nx6 nx7 => next (((), (), nx4, nx5, ()), ((nx6, ()), (nx7, ()), ()))) (fun z0 z1 => k ((z0, z1)))⟩
    · exact .inr ⟨(z0, z1), hq, fun R next k => e R (fun nx4 nx5 nx6 nx7 => next (((), (), nx4, nx5, ()), ((nx6, ()), (nx7, ()), ()))) (fun z0 z1 => k ((z0, z1)))⟩
  obtain ⟨⟨z0, z1⟩, hq, e⟩ := h
  · exact ⟨z0, z1, hq, fun R k0 => e R (fun r => k0 (r.1) (r.2))⟩
theorem Z16 (a1 : List Int) (a2 : Int) (h_ : autoParam (((a1).length = 5) ∧ (0 ≤ (a2)) ∧ ((a2) ≤ 1000)) sA._auto_1) : T_1 (fun R k0 => Z15 R a1 a2 k0) (fun z0 => ((z0).length = 5)) := by
  obtain ⟨h_0, h_1, h_2⟩ := h_
  refine T_1.of ?_
  delta Z15 Zgi
  refine Tot.lett (fun v3 e_v3 => ?_)
  have l_v3 := congrArg List.length e_v3
  first | simp (disch := omega) only [ts, *] at l_v3 | skip
  refine T_2.bind (Zua a2 0 a1 v3) (fun y9 y10 q1 => ?_)
  obtain ⟨q1_0, q1_1⟩ := q1
  exact Tot.ret _
theorem Zgl (a1 : List Int) (h_ : autoParam (((a1).length = 5)) sA._auto_1) : T_2 (fun R k0 => Z1r R a1 k0) (fun z0 z1 => ((z0).length = 5) ∧ ((z1).length = 5)) := by
  refine T_2.of ?_
  delta Z1r Zl8
  refine Tot.lett (fun v2 e_v2 => ?_)
  have l_v2 := congrArg List.length e_v2
  first | simp (disch := omega) only [ts, *] at l_v2 | skip
  refine Tot.lett (fun v3 e_v3 => ?_)
  have l_v3 := congrArg List.length e_v3
  first | simp (disch := omega) only [ts, *] at l_v3 | skip
  refine T_1.bind (Z16 a1 1) (fun r4 q1 => ?_)
  replace q1 : (r4).length = 5 := q1
  refine Tot.lett (fun v5 e_v5 => ?_)
  have l_v5 := congrArg List.length e_v5
  first | simp (disch := omega) only [ts, *] at l_v5 | skip
  refine Tot.lett (fun v6 e_v6 => ?_)
  have l_v6 := congrArg List.length e_v6
  first | simp (disch := omega) only [ts, *] at l_v6 | skip
  refine T_1.bind (Z16 r4 2) (fun r7 q2 => ?_)
  replace q2 : (r7).length = 5 := q2
  refine T_1.bind (Z3 r7 a1) (fun r8 q3 => ?_)
  replace q3 : (r8).length = 5 := q3
  refine T_1.bind (Z3 r8 r4) (fun r9 q4 => ?_)
  replace q4 : (r9).length = 5 := q4
  refine Tot.lett (fun v10 e_v10 => ?_)
  have l_v10 := congrArg List.length e_v10
  first | simp (disch := omega) only [ts, *] at l_v10 | skip
  refine Tot.lett (fun v11 e_v11 => ?_)
  have l_v11 := congrArg List.length e_v11
  first | simp (disch := omega) only [ts, *] at l_v11 | skip
  refine T_1.bind (Z16 r9 1) (fun r12 q5 => ?_)
  replace q5 : (r12).length = 5 := q5
  refine T_1.bind (Z3 r12 r8) (fun r13 q6 => ?_)
  replace q6 : (r13).length = 5 := q6
  refine Tot.lett (fun v14 e_v14 => ?_)
  have l_v14 := congrArg List.length e_v14
  first | simp (disch := omega) only [ts, *] at l_v14 | skip
  refine T_1.bind (Z16 r13 5) (fun r15 q7 => ?_)
  replace q7 : (r15).length = 5 := q7
  refine T_1.bind (Z3 r15 r13) (fun r16 q8 => ?_)
  replace q8 : (r16).length = 5 := q8
  refine Tot.lett (fun v17 e_v17 => ?_)
  have l_v17 := congrArg List.length e_v17
  first | simp (disch := omega) only [ts, *] at l_v17 | skip
  refine T_1.bind (Z16 r16 10) (fun r18 q9 => ?_)
  replace q9 : (r18).length = 5 := q9
  refine T_1.bind (Z3 r18 r16) (fun r19 q10 => ?_)
  replace q10 : (r19).length = 5 := q10
  refine Tot.lett (fun v20 e_v20 => ?_)
  have l_v20 := congrArg List.length e_v20
  first | simp (disch := omega) only [ts, *] at l_v20 | skip
  refine T_1.bind (Z16 r19 20) (fun r21 q11 => ?_)
  replace q11 : (r21).length = 5 := q11
  refine T_1.bind (Z3 r21 r19) (fun r22 q12 => ?_)
  replace q12 : (r22).length = 5 := q12
  refine Tot.lett (fun v23 e_v23 => ?_)
  have l_v23 := congrArg List.length e_v23
  first | simp (disch := omega) only [ts, *] at l_v23 | skip
  refine T_1.bind (Z16 r22 10) (fun r24 q13 => ?_)
  replace q13 : (r24).length = 5 := q13
  refine T_1.bind (Z3 r24 r16) (fun r25 q14 => ?_)
  replace q14 : (r25).length = 5 := q14
  refine Tot.lett (fun v26 e_v26 => ?_)
  have l_v26 := congrArg List.length e_v26
  first | simp (disch := omega) only [ts, *] at l_v26 | skip
  refine T_1.bind (Z16 r25 50) (fun r27 q15 => ?_)
  replace q15 : (r27).length = 5 := q15
  refine T_1.bind (Z3 r27 r25) (fun r28 q16 => ?_)
  replace q16 : (r28).length = 5 := q16
  refine Tot.lett (fun v29 e_v29 => ?_)
  have l_v29 := congrArg List.length e_v29
  first | simp (disch := omega) only [ts, *] at l_v29 | skip
  refine T_1.bind (Z16 r28 100) (fun r30 q17 => ?_)
  replace q17 : (r30).length = 5 := q17
  refine T_1.bind (Z3 r30 r28) (fun r31 q18 => ?_)
  replace q18 : (r31).length = 5 := q18
  refine T_1.bind (Z16 r31 50) (fun r32 q19 => ?_)
  replace q19 : (r32).length = 5 := q19
  refine T_1.bind (Z3 r32 r25) (fun r33 q20 => ?_)
  replace q20 : (r33).length = 5 := q20
  exact Tot.ret _
theorem Zbt (a1 : List Int) (h_ : autoParam (((a1).length = 5)) sA._auto_1) : T_1 (fun R k0 => Z1y R a1 k0) (fun z0 => ((z0).length = 5)) := by
  refine T_1.of ?_
  delta Z1y Znd
  refine Tot.lett (fun v2 e_v2 => ?_)
  have l_v2 := congrArg List.length e_v2
  first | simp (disch := omega) only [ts, *] at l_v2 | skip
  refine T_2.bind (Zgl a1) (fun r3 r4 q1 => ?_)
  obtain ⟨q1_0, q1_1⟩ := q1
  refine Tot.lett (fun v5 e_v5 => ?_)
  have l_v5 := congrArg List.length e_v5
  first | simp (disch := omega) only [ts, *] at l_v5 | skip
  refine Tot.lett (fun v6 e_v6 => ?_)
  have l_v6 := congrArg List.length e_v6
  first | simp (disch := omega) only [ts, *] at l_v6 | skip
  refine T_1.bind (Z16 r3 5) (fun r7 q2 => ?_)
  replace q2 : (r7).length = 5 := q2
  refine T_1.bind (Z3 r7 r4) (fun r8 q3 => ?_)
  replace q3 : (r8).length = 5 := q3
  exact Tot.ret _
theorem Zvr (x4 : Int) (x5 x6 x7 : List Int) (i_ : ((x5).length = 5) ∧ ((x6).length = 5) ∧ ((x7).length = 5) ∧ (0 ≤ (x4)) ∧ ((x4) ≤ 5)) : Zqa (fun R next k0 => Zfg Za R x4 x5 x6 x7 next k0) (fun nx4 nx5 nx6 nx7 => ((nx5).length = 5) ∧ ((nx6).length = 5) ∧ ((nx7).length = 5) ∧ (0 ≤ (nx4)) ∧ ((nx4) ≤ 5) ∧ ((5 - (nx4)).toNat < (5 - (x4)).toNat)) (fun z0 z1 => ((z0).length = 5) ∧ ((z1).length = 5)) := by
  obtain ⟨i_0, i_1, i_2, i_3, i_4⟩ := i_
  refine Zqa.of ?_
  delta Zfg
  refine Tot.br (fun h1 => ?_) (fun h1 => ?_)
  · first | simp (disch := omega) only [ts, *] at h1 | skip
    all_goals
      refine Tot.gd ?_
      refine Tot.gd ?_
      refine Tot.lett (fun v8 e_v8 => ?_)
      first | simp (disch := omega) only [ts, *] at e_v8 | skip
      refine Tot.gd ?_
      exact Tot.ret _
  · first | simp (disch := omega) only [ts, *] at h1 | skip
    all_goals
      exact Tot.ret _
theorem Zzt (x4 : Int) (x5 x6 x7 : List Int) (i_ : autoParam (((x5).length = 5) ∧ ((x6).length = 5) ∧ ((x7).length = 5) ∧ (0 ≤ (x4)) ∧ ((x4) ≤ 5)) sA._auto_1) : T_2 (fun R k0 => Zvd Za R x4 x5 x6 x7 k0) (fun z0 z1 => ((z0).length = 5) ∧ ((z1).length = 5)) := by
  have h := loopS (T := Zis) (E := Zj3) (step := (Zaz Za).step) (A := ((List Int) × (List Int))) (fun R k => (fun r => k (r), ())) (fun v => ((v.2.1.1).length = 5) ∧ ((v.2.2.1.1).length = 5) ∧ ((v.2.2.2.1.1).length = 5) ∧ (0 ≤ (v.1.2.2.2.1)) ∧ ((v.1.2.2.2.1) ≤ 5)) (fun v => (5 - (v.1.2.2.2.1)).toNat) (fun p => ((p.1).length = 5) ∧ ((p.2).length = 5)) ?hs (Zae x4 x5 x6 x7) (((), (), (), x4, ()), ((x5, ()), (x6, ()), (x7, ()), ())) i_ (by obtain ⟨i_0, i_1, i_2, i_3, i_4⟩ := i_; have hh : Zae x4 x5 x6 x7 = 100000 + (x4.toNat + x5.length + x6.length + x7.length) := rfl; rw [hh]; first | omega | (simp only [ts] <;> omega))
  case hs =>
    intro v hv
    rcases Zvr (v.1.2.2.2.1) (v.2.1.1) (v.2.2.1.1) (v.2.2.2.1.1) hv with ⟨nx4, nx5, nx6, nx7, hq, e⟩ | ⟨z0, z1, hq, e⟩
    · exact .inl ⟨(((), (), (), nx4, ()), ((nx5, ()), (nx6, ()), (nx7, ()), ())), (by obtain ⟨hq0, hq1, hq2, hq3, hq4, hq5⟩ := hq; exact ⟨⟨hq0, hq1, hq2, hq3, hq4⟩, hq5⟩), fun R next k => e R (fun nx4 nx5 nx6 nx7 => next (((), (), (), nx4, ()), ((nx5, ()), (nx6, ()), (nx7, ()), ()))) (fun z0 z1 => k ((z0, z1)))⟩
    · exact .inr ⟨(z0, z1), hq, fun R next k => e R (fun nx4 nx5 nx6 nx7 => next (((), (), (), nx4, ()), ((nx5, ()), (nx6, ()), (nx7, ()), ()))) (fun z0 z1 => k ((z0, z1)))⟩
  obtain ⟨⟨z0, z1⟩, hq, e⟩ := h
  · exact ⟨z0, z1, hq, fun R k0 => e R (fun r => k0 (r.1) (r.2))⟩
theorem Z3w (a1 a2 : List Int) (h_ : autoParam (((a1).length = 5) ∧ ((a2).length = 5)) sA._auto_1) : T_1 (fun R k0 => Z2q R a1 a2 k0) (fun z0 => ((z0).length = 5)) := by
  obtain ⟨h_0, h_1⟩ := h_
  refine T_1.of ?_
  delta Z2q Zms
  refine Tot.lett (fun v3 e_v3 => ?_)
  have l_v3 := congrArg List.length e_v3
  first | simp (disch := omega) only [ts, *] at l_v3 | skip
  refine T_2.bind (Zzt 0 a1 a2 v3) (fun y9 y10 q1 => ?_)
  obtain ⟨q1_0, q1_1⟩ := q1
  refine T_1.bind (Z7g y9) (fun r11 q2 => ?_)
  replace q2 : (r11).length = 5 := q2
  exact Tot.ret _
theorem Ztl (x12 : Bool) (x13 x14 x15 : List Int) (i_ : ((x13).length = 5) ∧ ((x14).length = 5) ∧ ((x15).length = 5)) : T_3 (fun R k0 => Zdz Z1r Z15 Z2 Zp Zr R x12 x13 x14 x15 k0) (fun z0 z1 z2 => ((z0).length = 5) ∧ ((z1).length = 5) ∧ ((z2).length = 5)) := by
  obtain ⟨i_0, i_1, i_2⟩ := i_
  refine T_3.of ?_
  delta Zdz
  refine Tot.br (fun h1 => ?_) (fun h1 => ?_)
  · first | simp (disch := omega) only [ts, *] at h1 | skip
    all_goals
      refine T_1.bind (Z42 2) (fun r16 q2 => ?_)
      replace q2 : (r16).length = 5 := q2
      refine T_2.bind (Zgl r16) (fun r17 r18 q3 => ?_)
      obtain ⟨q3_0, q3_1⟩ := q3
      refine Tot.lett (fun v19 e_v19 => ?_)
      have l_v19 := congrArg List.length e_v19
      first | simp (disch := omega) only [ts, *] at l_v19 | skip
      refine Tot.lett (fun v20 e_v20 => ?_)
      have l_v20 := congrArg List.length e_v20
      first | simp (disch := omega) only [ts, *] at l_v20 | skip
      refine T_1.bind (Z16 r17 3) (fun r21 q4 => ?_)
      replace q4 : (r21).length = 5 := q4
      refine T_1.bind (Z42 8) (fun r22 q5 => ?_)
      replace q5 : (r22).length = 5 := q5
      refine T_1.bind (Z3 r21 r22) (fun r23 q6 => ?_)
      replace q6 : (r23).length = 5 := q6
      refine T_1.bind (Z3 x15 r23) (fun r24 q7 => ?_)
      replace q7 : (r24).length = 5 := q7
      exact Tot.ret _
  · first | simp (disch := omega) only [ts, *] at h1 | skip
    all_goals
      exact Tot.ret _
theorem Zyn (x12 : Bool) (x13 x14 x15 : List Int) (i_ : autoParam (((x13).length = 5) ∧ ((x14).length = 5) ∧ ((x15).length = 5)) sA._auto_1) : T_3 (fun R k0 => Zsz Z1r Z15 Z2 Zp Zr R x12 x13 x14 x15 k0) (fun z0 z1 z2 => ((z0).length = 5) ∧ ((z1).length = 5) ∧ ((z2).length = 5)) := by
  exact T_3.congr (fun R k0 => by kernel_rfl) (Ztl x12 x13 x14 x15 i_)
theorem Zt5 (x31 : Bool) (x32 x33 : List Int) (i_ : ((x32).length = 5) ∧ ((x33).length = 5)) : T_2 (fun R k0 => Ze2 Z1r Z15 Z2 Zp Zr R x31 x32 x33 k0) (fun z0 z1 => ((z0).length = 5) ∧ ((z1).length = 5)) := by
  obtain ⟨i_0, i_1⟩ := i_
  refine T_2.of ?_
  delta Ze2
  refine Tot.br (fun h1 => ?_) (fun h1 => ?_)
  · first | simp (disch := omega) only [ts, *] at h1 | skip
    all_goals
      refine T_1.bind (Z1v (List.replicate 5 (0 : Int)) x33) (fun r34 q2 => ?_)
      replace q2 : (r34).length = 5 := q2
      exact Tot.ret _
  · first | simp (disch := omega) only [ts, *] at h1 | skip
    all_goals
      exact Tot.ret _
theorem Zz1 (x31 : Bool) (x32 x33 : List Int) (i_ : autoParam (((x32).length = 5) ∧ ((x33).length = 5)) sA._auto_1) : T_2 (fun R k0 => Zt1 Z1r Z15 Z2 Zp Zr R x31 x32 x33 k0) (fun z0 z1 => ((z0).length = 5) ∧ ((z1).length = 5)) := by
  exact T_2.congr (fun R k0 => by kernel_rfl) (Zt5 x31 x32 x33 i_)
theorem Z115 (a1 : List Int) (h_ : autoParam (((a1).length = 5)) sA._auto_1) : T_2 (fun R k0 => Z4i R a1 k0) (fun z0 z1 => ((z0).length = 5)) := by
  refine T_2.of ?_
  delta Z4i Zkz
  refine Tot.lett (fun v2 e_v2 => ?_)
  have l_v2 := congrArg List.length e_v2
  first | simp (disch := omega) only [ts, *] at l_v2 | skip
  refine T_2.bind (Zgl a1) (fun r3 r4 q1 => ?_)
  obtain ⟨q1_0, q1_1⟩ := q1
  refine Tot.lett (fun v5 e_v5 => ?_)
  have l_v5 := congrArg List.length e_v5
  first | simp (disch := omega) only [ts, *] at l_v5 | skip
  refine Tot.lett (fun v6 e_v6 => ?_)
  have l_v6 := congrArg List.length e_v6
  first | simp (disch := omega) only [ts, *] at l_v6 | skip
  refine Tot.lett (fun v7 e_v7 => ?_)
  have l_v7 := congrArg List.length e_v7
  first | simp (disch := omega) only [ts, *] at l_v7 | skip
  refine T_1.bind (Z16 r3 2) (fun r8 q2 => ?_)
  replace q2 : (r8).length = 5 := q2
  refine T_1.bind (Z3 r8 a1) (fun r9 q3 => ?_)
  replace q3 : (r9).length = 5 := q3
  refine T_1.bind (Z3 r9 a1) (fun r10 q4 => ?_)
  replace q4 : (r10).length = 5 := q4
  refine T_1.bind (Z3 r10 r10) (fun r11 q5 => ?_)
  replace q5 : (r11).length = 5 := q5
  refine T_3.bind (Zyn (!(eqL r11 a1)) a1 v2 r10) (fun y25 y26 y27 q6 => ?_)
  obtain ⟨q6_0, q6_1, q6_2⟩ := q6
  refine T_1.bind (Z3 y27 y27) (fun r28 q7 => ?_)
  replace q7 : (r28).length = 5 := q7
  refine Tot.br (fun h8 => ?_) (fun h8 => ?_)
  · first | simp (disch := omega) only [ts, *] at h8 | skip
    all_goals
      refine Tot.lett (fun v29 e_v29 => ?_)
      have l_v29 := congrArg List.length e_v29
      first | simp (disch := omega) only [ts, *] at l_v29 | skip
      exact Tot.ret _
  · first | simp (disch := omega) only [ts, *] at h8 | skip
    all_goals
      refine Tot.lett (fun v30 e_v30 => ?_)
      first | simp (disch := omega) only [ts, *] at e_v30 | skip
      refine T_2.bind (Zz1 (eqI v30 1) y26 y27) (fun y35 y36 q9 => ?_)
      obtain ⟨q9_0, q9_1⟩ := q9
      exact Tot.ret _
theorem Z6k : T_1 (fun R k0 => Z53 R  k0) (fun z0 => ((z0).length = 5)) := by
  refine T_1.of ?_
  delta Z53 Zxi
  refine Tot.lett (fun v1 e_v1 => ?_)
  have l_v1 := congrArg List.length e_v1
  first | simp (disch := omega) only [ts, *] at l_v1 | skip
  refine T_1.bind (Z42 1) (fun r2 q1 => ?_)
  replace q1 : (r2).length = 5 := q1
  exact Tot.ret _
theorem Zj6 : T_1 (fun R k0 => Z1c R  k0) (fun z0 => ((z0).length = 5)) := by
  refine T_1.of ?_
  delta Z1c Zpl
  refine Tot.lett (fun v1 e_v1 => ?_)
  have l_v1 := congrArg List.length e_v1
  first | simp (disch := omega) only [ts, *] at l_v1 | skip
  refine T_1.bind (Z42 (-121665)) (fun r2 q1 => ?_)
  replace q1 : (r2).length = 5 := q1
  refine T_1.bind (Z42 121666) (fun r3 q2 => ?_)
  replace q2 : (r3).length = 5 := q2
  refine T_1.bind (Zbt r3) (fun r4 q3 => ?_)
  replace q3 : (r4).length = 5 := q3
  refine T_1.bind (Z3 r2 r4) (fun r5 q4 => ?_)
  replace q4 : (r5).length = 5 := q4
  exact Tot.ret _
theorem Zmp (a1 a2 a3 a4 : List Int) (h_ : autoParam (((a1).length = 5) ∧ ((a2).length = 5) ∧ ((a3).length = 5) ∧ ((a4).length = 5)) sA._auto_1) : T_4 (fun R k0 => Z5u R a1 a2 a3 a4 k0) (fun z0 z1 z2 z3 => ((z0).length = 5) ∧ ((z1).length = 5) ∧ ((z2).length = 5) ∧ ((z3).length = 5)) := by
  obtain ⟨h_0, h_1, h_2, h_3⟩ := h_
  refine T_4.of ?_
  delta Z5u Zva
  refine Tot.lett (fun v5 e_v5 => ?_)
  have l_v5 := congrArg List.length e_v5
  first | simp (disch := omega) only [ts, *] at l_v5 | skip
  refine Tot.lett (fun v6 e_v6 => ?_)
  have l_v6 := congrArg List.length e_v6
  first | simp (disch := omega) only [ts, *] at l_v6 | skip
  refine Tot.lett (fun v7 e_v7 => ?_)
  have l_v7 := congrArg List.length e_v7
  first | simp (disch := omega) only [ts, *] at l_v7 | skip
  refine Tot.lett (fun v8 e_v8 => ?_)
  have l_v8 := congrArg List.length e_v8
  first | simp (disch := omega) only [ts, *] at l_v8 | skip
  refine T_1.bind (Z6k) (fun r9 q1 => ?_)
  replace q1 : (r9).length = 5 := q1
  refine T_1.bind (Z1v a2 r9) (fun r10 q2 => ?_)
  replace q2 : (r10).length = 5 := q2
  refine T_1.bind (Z6k) (fun r11 q3 => ?_)
  replace q3 : (r11).length = 5 := q3
  refine T_1.bind (Z1v a3 r11) (fun r12 q4 => ?_)
  replace q4 : (r12).length = 5 := q4
  exact Tot.ret _
theorem Z11c (x44 : Bool) (x45 x46 x47 x48 x49 x50 : List Int) (i_ : ((x45).length = 5) ∧ ((x46).length = 5) ∧ ((x47).length = 5) ∧ ((x48).length = 5) ∧ ((x49).length = 5) ∧ ((x50).length = 5)) : T_6 (fun R k0 => Zn9 Zc3 Z20 Z2 Z53 Zr Z1c Z2q Z1y Z4i Z5u R x44 x45 x46 x47 x48 x49 x50 k0) (fun z0 z1 z2 z3 z4 z5 => ((z0).length = 5) ∧ ((z1).length = 5) ∧ ((z2).length = 5) ∧ ((z3).length = 5) ∧ ((z4).length = 5) ∧ ((z5).length = 5)) := by
  obtain ⟨i_0, i_1, i_2, i_3, i_4, i_5⟩ := i_
  refine T_6.of ?_
  delta Zn9
  refine Tot.br (fun h1 => ?_) (fun h1 => ?_)
  · first | simp (disch := omega) only [ts, *] at h1 | skip
    all_goals
      refine T_1.bind (Z1v (List.replicate 5 (0 : Int)) x50) (fun r51 q2 => ?_)
      replace q2 : (r51).length = 5 := q2
      exact Tot.ret _
  · first | simp (disch := omega) only [ts, *] at h1 | skip
    all_goals
      exact Tot.ret _
theorem Zwp (x44 : Bool) (x45 x46 x47 x48 x49 x50 : List Int) (i_ : autoParam (((x45).length = 5) ∧ ((x46).length = 5) ∧ ((x47).length = 5) ∧ ((x48).length = 5) ∧ ((x49).length = 5) ∧ ((x50).length = 5)) sA._auto_1) : T_6 (fun R k0 => Zxe Zc3 Z20 Z2 Z53 Zr Z1c Z2q Z1y Z4i Z5u R x44 x45 x46 x47 x48 x49 x50 k0) (fun z0 z1 z2 z3 z4 z5 => ((z0).length = 5) ∧ ((z1).length = 5) ∧ ((z2).length = 5) ∧ ((z3).length = 5) ∧ ((z4).length = 5) ∧ ((z5).length = 5)) := by
  exact T_6.congr (fun R k0 => by kernel_rfl) (Z11c x44 x45 x46 x47 x48 x49 x50 i_)
theorem Z10u (a1 : Str) : T_5 (fun R k0 => Zhj R a1 k0) (fun z0 z1 z2 z3 z4 => ((z0).length = 5) ∧ ((z1).length = 5) ∧ ((z2).length = 5) ∧ ((z3).length = 5) ∧ ((z4) = 0 → ((a1)).length = 32)) := by
  refine T_5.of ?_
  delta Zhj Zzy
  refine Tot.lett (fun v2 e_v2 => ?_)
  have l_v2 := congrArg List.length e_v2
  first | simp (disch := omega) only [ts, *] at l_v2 | skip
  refine Tot.lett (fun v3 e_v3 => ?_)
  have l_v3 := congrArg List.length e_v3
  first | simp (disch := omega) only [ts, *] at l_v3 | skip
  refine Tot.lett (fun v4 e_v4 => ?_)
  have l_v4 := congrArg List.length e_v4
  first | simp (disch := omega) only [ts, *] at l_v4 | skip
  refine Tot.lett (fun v5 e_v5 => ?_)
  have l_v5 := congrArg List.length e_v5
  first | simp (disch := omega) only [ts, *] at l_v5 | skip
  refine Tot.lett (fun v6 e_v6 => ?_)
  first | simp (disch := omega) only [ts, *] at e_v6 | skip
  refine Tot.br (fun h1 => ?_) (fun h1 => ?_)
  · first | simp (disch := omega) only [ts, *] at h1 | skip
    all_goals
      refine Tot.lett (fun v7 e_v7 => ?_)
      have l_v7 := congrArg List.length e_v7
      first | simp (disch := omega) only [ts, *] at l_v7 | skip
      refine Tot.lett (fun v8 e_v8 => ?_)
      have l_v8 := congrArg List.length e_v8
      first | simp (disch := omega) only [ts, *] at l_v8 | skip
      refine Tot.lett (fun v9 e_v9 => ?_)
      have l_v9 := congrArg List.length e_v9
      first | simp (disch := omega) only [ts, *] at l_v9 | skip
      refine Tot.lett (fun v10 e_v10 => ?_)
      have l_v10 := congrArg List.length e_v10
      first | simp (disch := omega) only [ts, *] at l_v10 | skip
      exact Tot.ret _
  · first | simp (disch := omega) only [ts, *] at h1 | skip
    all_goals
      refine Tot.gd ?_
      refine Tot.lett (fun v11 e_v11 => ?_)
      first | simp (disch := omega) only [ts, *] at e_v11 | skip
      refine Tot.gd ?_
      refine Tot.lett (fun v12 e_v12 => ?_)
      first | simp (disch := omega) only [ts, *] at e_v12 | skip
      refine Tot.gd ?_
      refine Tot.lett (fun v13 e_v13 => ?_)
      have l_v13 := congrArg List.length e_v13
      first | simp (disch := omega) only [ts, *] at l_v13 | skip
      refine T_2.bind (Z16p v13) (fun r14 r15 q2 => ?_)
      replace q2 : (r14).length = 5 := q2
      refine Tot.lett (fun v16 e_v16 => ?_)
      have l_v16 := congrArg List.length e_v16
      first | simp (disch := omega) only [ts, *] at l_v16 | skip
      refine T_1.bind (Zah r14) (fun r17 q3 => ?_)
      replace q3 : ((r17)).length = 32 := q3
      refine Tot.br (fun h4 => ?_) (fun h4 => ?_)
      · first | simp (disch := omega) only [ts, *] at h4 | skip
        all_goals
          refine Tot.lett (fun v18 e_v18 => ?_)
          have l_v18 := congrArg List.length e_v18
          first | simp (disch := omega) only [ts, *] at l_v18 | skip
          refine Tot.lett (fun v19 e_v19 => ?_)
          have l_v19 := congrArg List.length e_v19
          first | simp (disch := omega) only [ts, *] at l_v19 | skip
          refine Tot.lett (fun v20 e_v20 => ?_)
          have l_v20 := congrArg List.length e_v20
          first | simp (disch := omega) only [ts, *] at l_v20 | skip
          refine Tot.lett (fun v21 e_v21 => ?_)
          have l_v21 := congrArg List.length e_v21
          first | simp (disch := omega) only [ts, *] at l_v21 | skip
          exact Tot.ret _
      · first | simp (disch := omega) only [ts, *] at h4 | skip
        all_goals
          refine T_1.bind (Z3 r14 r14) (fun r22 q5 => ?_)
          replace q5 : (r22).length = 5 := q5
          refine Tot.lett (fun v23 e_v23 => ?_)
          have l_v23 := congrArg List.length e_v23
          first | simp (disch := omega) only [ts, *] at l_v23 | skip
          refine Tot.lett (fun v24 e_v24 => ?_)
          have l_v24 := congrArg List.length e_v24
          first | simp (disch := omega) only [ts, *] at l_v24 | skip
          refine T_1.bind (Z6k) (fun r25 q6 => ?_)
          replace q6 : (r25).length = 5 := q6
          refine T_1.bind (Z1v r22 r25) (fun r26 q7 => ?_)
          replace q7 : (r26).length = 5 := q7
          refine T_1.bind (Zj6) (fun r27 q8 => ?_)
          replace q8 : (r27).length = 5 := q8
          refine T_1.bind (Z3 r27 r22) (fun r28 q9 => ?_)
          replace q9 : (r28).length = 5 := q9
          refine T_1.bind (Z6k) (fun r29 q10 => ?_)
          replace q10 : (r29).length = 5 := q10
          refine T_1.bind (Z3w r28 r29) (fun r30 q11 => ?_)
          replace q11 : (r30).length = 5 := q11
          refine T_1.bind (Zbt r30) (fun r31 q12 => ?_)
          replace q12 : (r31).length = 5 := q12
          refine T_1.bind (Z3 r26 r31) (fun r32 q13 => ?_)
          replace q13 : (r32).length = 5 := q13
          refine T_2.bind (Z115 r32) (fun r33 r34 q14 => ?_)
          replace q14 : (r33).length = 5 := q14
          refine Tot.br (fun h15 => ?_) (fun h15 => ?_)
          · first | simp (disch := omega) only [ts, *] at h15 | skip
            all_goals
              refine Tot.lett (fun v35 e_v35 => ?_)
              have l_v35 := congrArg List.length e_v35
              first | simp (disch := omega) only [ts, *] at l_v35 | skip
              refine Tot.lett (fun v36 e_v36 => ?_)
              have l_v36 := congrArg List.length e_v36
              first | simp (disch := omega) only [ts, *] at l_v36 | skip
              refine Tot.lett (fun v37 e_v37 => ?_)
              have l_v37 := congrArg List.length e_v37
              first | simp (disch := omega) only [ts, *] at l_v37 | skip
              refine Tot.lett (fun v38 e_v38 => ?_)
              have l_v38 := congrArg List.length e_v38
              first | simp (disch := omega) only [ts, *] at l_v38 | skip
              exact Tot.ret _
          · first | simp (disch := omega) only [ts, *] at h15 | skip
            all_goals
              refine Tot.br (fun h16 => ?_) (fun h16 => ?_)
              · first | simp (disch := omega) only [ts, *] at h16 | skip
                all_goals
                  refine Tot.lett (fun v39 e_v39 => ?_)
                  refine Tot.br (fun h17 => ?_) (fun h17 => ?_)
                  · first | simp (disch := omega) only [ts, *] at h17 | skip
                    all_goals
                      refine Tot.lett (fun v40 e_v40 => ?_)
                      have l_v40 := congrArg List.length e_v40
                      first | simp (disch := omega) only [ts, *] at l_v40 | skip
                      refine Tot.lett (fun v41 e_v41 => ?_)
                      have l_v41 := congrArg List.length e_v41
                      first | simp (disch := omega) only [ts, *] at l_v41 | skip
                      refine Tot.lett (fun v42 e_v42 => ?_)
                      have l_v42 := congrArg List.length e_v42
                      first | simp (disch := omega) only [ts, *] at l_v42 | skip
                      refine Tot.lett (fun v43 e_v43 => ?_)
                      have l_v43 := congrArg List.length e_v43
                      first | simp (disch := omega) only [ts, *] at l_v43 | skip
                      exact Tot.ret _
                  · first | simp (disch := omega) only [ts, *] at h17 | skip
                    all_goals
                      refine T_6.bind (Zwp (eqI (shrI .u8 v11 7) 1) v2 v3 v4 v5 r14 r33) (fun y52 y53 y54 y55 y56 y57 q18 => ?_)
                      obtain ⟨q18_0, q18_1, q18_2, q18_3, q18_4, q18_5⟩ := q18
                      refine T_1.bind (Z6k) (fun r58 q19 => ?_)
                      replace q19 : (r58).length = 5 := q19
                      refine T_1.bind (Z3 y57 y56) (fun r59 q20 => ?_)
                      replace q20 : (r59).length = 5 := q20
                      refine T_4.bind (Zmp y57 y56 r58 r59) (fun r60 r61 r62 r63 q21 => ?_)
                      obtain ⟨q21_0, q21_1, q21_2, q21_3⟩ := q21
                      exact Tot.ret _
              · first | simp (disch := omega) only [ts, *] at h16 | skip
                all_goals
                  refine T_6.bind (Zwp (eqI (shrI .u8 v11 7) 1) v2 v3 v4 v5 r14 r33) (fun y64 y65 y66 y67 y68 y69 q22 => ?_)
                  obtain ⟨q22_0, q22_1, q22_2, q22_3, q22_4, q22_5⟩ := q22
                  refine T_1.bind (Z6k) (fun r70 q23 => ?_)
                  replace q23 : (r70).length = 5 := q23
                  refine T_1.bind (Z3 y69 y68) (fun r71 q24 => ?_)
                  replace q24 : (r71).length = 5 := q24
                  refine T_4.bind (Zmp y69 y68 r70 r71) (fun r72 r73 r74 r75 q25 => ?_)
                  obtain ⟨q25_0, q25_1, q25_2, q25_3⟩ := q25
                  exact Tot.ret _
theorem Zwo : T_4 (fun R k0 => Zcu R  k0) (fun z0 z1 z2 z3 => ((z0).length = 5) ∧ ((z1).length = 5) ∧ ((z2).length = 5) ∧ ((z3).length = 5)) := by
  refine T_4.of ?_
  delta Zcu Zu7
  refine Tot.lett (fun v1 e_v1 => ?_)
  have l_v1 := congrArg List.length e_v1
  first | simp (disch := omega) only [ts, *] at l_v1 | skip
  refine Tot.lett (fun v2 e_v2 => ?_)
  have l_v2 := congrArg List.length e_v2
  first | simp (disch := omega) only [ts, *] at l_v2 | skip
  refine Tot.lett (fun v3 e_v3 => ?_)
  have l_v3 := congrArg List.length e_v3
  first | simp (disch := omega) only [ts, *] at l_v3 | skip
  refine Tot.lett (fun v4 e_v4 => ?_)
  have l_v4 := congrArg List.length e_v4
  first | simp (disch := omega) only [ts, *] at l_v4 | skip
  refine T_1.bind (Z42 4) (fun r5 q1 => ?_)
  replace q1 : (r5).length = 5 := q1
  refine T_1.bind (Z42 5) (fun r6 q2 => ?_)
  replace q2 : (r6).length = 5 := q2
  refine T_1.bind (Zbt r6) (fun r7 q3 => ?_)
  replace q3 : (r7).length = 5 := q3
  refine T_1.bind (Z3 r5 r7) (fun r8 q4 => ?_)
  replace q4 : (r8).length = 5 := q4
  refine T_1.bind (Zah r8) (fun r9 q5 => ?_)
  replace q5 : ((r9)).length = 32 := q5
  refine T_5.bind (Z10u r9) (fun r10 r11 r12 r13 r14 q6 => ?_)
  obtain ⟨q6_0, q6_1, q6_2, q6_3, q6_4⟩ := q6
  refine Tot.lett (fun v15 e_v15 => ?_)
  have l_v15 := congrArg List.length e_v15
  first | simp (disch := omega) only [ts, *] at l_v15 | skip
  refine Tot.lett (fun v16 e_v16 => ?_)
  have l_v16 := congrArg List.length e_v16
  first | simp (disch := omega) only [ts, *] at l_v16 | skip
  refine Tot.lett (fun v17 e_v17 => ?_)
  have l_v17 := congrArg List.length e_v17
  first | simp (disch := omega) only [ts, *] at l_v17 | skip
  refine Tot.lett (fun v18 e_v18 => ?_)
  have l_v18 := congrArg List.length e_v18
  first | simp (disch := omega) only [ts, *] at l_v18 | skip
  exact Tot.ret _
theorem Zef (a1 a2 a3 a4 : List Int) (h_ : autoParam (((a1).length = 5) ∧ ((a2).length = 5) ∧ ((a3).length = 5) ∧ ((a4).length = 5)) sA._auto_1) : T_4 (fun R k0 => Z5g R a1 a2 a3 a4 k0) (fun z0 z1 z2 z3 => ((z0).length = 5) ∧ ((z1).length = 5) ∧ ((z2).length = 5) ∧ ((z3).length = 5)) := by
  obtain ⟨h_0, h_1, h_2, h_3⟩ := h_
  refine T_4.of ?_
  delta Z5g Zh9
  refine Tot.lett (fun v5 e_v5 => ?_)
  have l_v5 := congrArg List.length e_v5
  first | simp (disch := omega) only [ts, *] at l_v5 | skip
  refine Tot.lett (fun v6 e_v6 => ?_)
  have l_v6 := congrArg List.length e_v6
  first | simp (disch := omega) only [ts, *] at l_v6 | skip
  refine Tot.lett (fun v7 e_v7 => ?_)
  have l_v7 := congrArg List.length e_v7
  first | simp (disch := omega) only [ts, *] at l_v7 | skip
  refine Tot.lett (fun v8 e_v8 => ?_)
  have l_v8 := congrArg List.length e_v8
  first | simp (disch := omega) only [ts, *] at l_v8 | skip
  refine T_1.bind (Z6k) (fun r9 q1 => ?_)
  replace q1 : (r9).length = 5 := q1
  refine T_1.bind (Z3w a2 r9) (fun r10 q2 => ?_)
  replace q2 : (r10).length = 5 := q2
  refine T_1.bind (Z6k) (fun r11 q3 => ?_)
  replace q3 : (r11).length = 5 := q3
  refine T_1.bind (Z3w a3 r11) (fun r12 q4 => ?_)
  replace q4 : (r12).length = 5 := q4
  exact Tot.ret _
theorem Zf0 (a1 a2 a3 a4 a5 a6 a7 a8 a9 : List Int) (h_ : autoParam (((a1).length = 5) ∧ ((a2).length = 5) ∧ ((a3).length = 5) ∧ ((a4).length = 5) ∧ ((a5).length = 5) ∧ ((a6).length = 5) ∧ ((a7).length = 5) ∧ ((a8).length = 5) ∧ ((a9).length = 5)) sA._auto_1) : T_4 (fun R k0 => Z1f R a1 a2 a3 a4 a5 a6 a7 a8 a9 k0) (fun z0 z1 z2 z3 => ((z0).length = 5) ∧ ((z1).length = 5) ∧ ((z2).length = 5) ∧ ((z3).length = 5)) := by
  obtain ⟨h_0, h_1, h_2, h_3, h_4, h_5, h_6, h_7, h_8⟩ := h_
  refine T_4.of ?_
  delta Z1f Zje
  refine Tot.lett (fun v10 e_v10 => ?_)
  have l_v10 := congrArg List.length e_v10
  first | simp (disch := omega) only [ts, *] at l_v10 | skip
  refine Tot.lett (fun v11 e_v11 => ?_)
  have l_v11 := congrArg List.length e_v11
  first | simp (disch := omega) only [ts, *] at l_v11 | skip
  refine Tot.lett (fun v12 e_v12 => ?_)
  have l_v12 := congrArg List.length e_v12
  first | simp (disch := omega) only [ts, *] at l_v12 | skip
  refine Tot.lett (fun v13 e_v13 => ?_)
  have l_v13 := congrArg List.length e_v13
  first | simp (disch := omega) only [ts, *] at l_v13 | skip
  refine T_4.bind (Zef a1 a2 a3 a4) (fun r14 r15 r16 r17 q1 => ?_)
  obtain ⟨q1_0, q1_1, q1_2, q1_3⟩ := q1
  refine Tot.lett (fun v18 e_v18 => ?_)
  have l_v18 := congrArg List.length e_v18
  first | simp (disch := omega) only [ts, *] at l_v18 | skip
  refine Tot.lett (fun v19 e_v19 => ?_)
  have l_v19 := congrArg List.length e_v19
  first | simp (disch := omega) only [ts, *] at l_v19 | skip
  refine Tot.lett (fun v20 e_v20 => ?_)
  have l_v20 := congrArg List.length e_v20
  first | simp (disch := omega) only [ts, *] at l_v20 | skip
  refine Tot.lett (fun v21 e_v21 => ?_)
  have l_v21 := congrArg List.length e_v21
  first | simp (disch := omega) only [ts, *] at l_v21 | skip
  refine T_4.bind (Zef a5 a6 a7 a8) (fun r22 r23 r24 r25 q2 => ?_)
  obtain ⟨q2_0, q2_1, q2_2, q2_3⟩ := q2
  refine Tot.lett (fun v26 e_v26 => ?_)
  have l_v26 := congrArg List.length e_v26
  first | simp (disch := omega) only [ts, *] at l_v26 | skip
  refine Tot.lett (fun v27 e_v27 => ?_)
  have l_v27 := congrArg List.length e_v27
  first | simp (disch := omega) only [ts, *] at l_v27 | skip
  refine Tot.lett (fun v28 e_v28 => ?_)
  have l_v28 := congrArg List.length e_v28
  first | simp (disch := omega) only [ts, *] at l_v28 | skip
  refine Tot.lett (fun v29 e_v29 => ?_)
  have l_v29 := congrArg List.length e_v29
  first | simp (disch := omega) only [ts, *] at l_v29 | skip
  refine Tot.lett (fun v30 e_v30 => ?_)
  have l_v30 := congrArg List.length e_v30
  first | simp (disch := omega) only [ts, *] at l_v30 | skip
  refine T_1.bind (Z1v r15 r14) (fun r31 q3 => ?_)
  replace q3 : (r31).length = 5 := q3
  refine T_1.bind (Z1v r23 r22) (fun r32 q4 => ?_)
  replace q4 : (r32).length = 5 := q4
  refine T_1.bind (Z3 r31 r32) (fun r33 q5 => ?_)
  replace q5 : (r33).length = 5 := q5
  refine Tot.lett (fun v34 e_v34 => ?_)
  have l_v34 := congrArg List.length e_v34
  first | simp (disch := omega) only [ts, *] at l_v34 | skip
  refine T_1.bind (Z3w r15 r14) (fun r35 q6 => ?_)
  replace q6 : (r35).length = 5 := q6
  refine T_1.bind (Z3w r23 r22) (fun r36 q7 => ?_)
  replace q7 : (r36).length = 5 := q7
  refine T_1.bind (Z3 r35 r36) (fun r37 q8 => ?_)
  replace q8 : (r37).length = 5 := q8
  refine Tot.lett (fun v38 e_v38 => ?_)
  have l_v38 := congrArg List.length e_v38
  first | simp (disch := omega) only [ts, *] at l_v38 | skip
  refine T_1.bind (Z3 r17 a9) (fun r39 q9 => ?_)
  replace q9 : (r39).length = 5 := q9
  refine T_1.bind (Z3 r39 r25) (fun r40 q10 => ?_)
  replace q10 : (r40).length = 5 := q10
  refine Tot.lett (fun v41 e_v41 => ?_)
  have l_v41 := congrArg List.length e_v41
  first | simp (disch := omega) only [ts, *] at l_v41 | skip
  refine T_1.bind (Z3w r16 r16) (fun r42 q11 => ?_)
  replace q11 : (r42).length = 5 := q11
  refine T_1.bind (Z3 r42 r24) (fun r43 q12 => ?_)
  replace q12 : (r43).length = 5 := q12
  refine Tot.lett (fun v44 e_v44 => ?_)
  have l_v44 := congrArg List.length e_v44
  first | simp (disch := omega) only [ts, *] at l_v44 | skip
  refine Tot.lett (fun v45 e_v45 => ?_)
  have l_v45 := congrArg List.length e_v45
  first | simp (disch := omega) only [ts, *] at l_v45 | skip
  refine Tot.lett (fun v46 e_v46 => ?_)
  have l_v46 := congrArg List.length e_v46
  first | simp (disch := omega) only [ts, *] at l_v46 | skip
  refine Tot.lett (fun v47 e_v47 => ?_)
  have l_v47 := congrArg List.length e_v47
  first | simp (disch := omega) only [ts, *] at l_v47 | skip
  refine T_1.bind (Z1v r37 r33) (fun r48 q13 => ?_)
  replace q13 : (r48).length = 5 := q13
  refine T_1.bind (Z1v r43 r40) (fun r49 q14 => ?_)
  replace q14 : (r49).length = 5 := q14
  refine T_1.bind (Z3w r43 r40) (fun r50 q15 => ?_)
  replace q15 : (r50).length = 5 := q15
  refine T_1.bind (Z3w r37 r33) (fun r51 q16 => ?_)
  replace q16 : (r51).length = 5 := q16
  refine T_1.bind (Z3 r48 r49) (fun r52 q17 => ?_)
  replace q17 : (r52).length = 5 := q17
  refine T_1.bind (Z3 r50 r51) (fun r53 q18 => ?_)
  replace q18 : (r53).length = 5 := q18
  refine T_1.bind (Z3 r49 r50) (fun r54 q19 => ?_)
  replace q19 : (r54).length = 5 := q19
  refine T_1.bind (Z3 r48 r51) (fun r55 q20 => ?_)
  replace q20 : (r55).length = 5 := q20
  refine T_4.bind (Zmp r52 r53 r54 r55) (fun r56 r57 r58 r59 q21 => ?_)
  obtain ⟨q21_0, q21_1, q21_2, q21_3⟩ := q21
  exact Tot.ret _
theorem Zry (x38 : Str) (x39 : Int) (x40 x41 x42 x43 x44 x45 x46 x47 x48 x49 x50 x51 x52 : List Int) (i_ : ((x40).length = 5) ∧ ((x41).length = 5) ∧ ((x42).length = 5) ∧ ((x43).length = 5) ∧ ((x44).length = 5) ∧ ((x45).length = 5) ∧ ((x46).length = 5) ∧ ((x47).length = 5) ∧ ((x48).length = 5) ∧ ((x49).length = 5) ∧ ((x50).length = 5) ∧ ((x51).length = 5) ∧ ((x52).length = 5) ∧ (((x38)).length = 32) ∧ (0 ≤ (x39)) ∧ ((x39) < 256)) : T_15 (fun R k0 => Zd0 Z1c Zp Z2 Z1f R x38 x39 x40 x41 x42 x43 x44 x45 x46 x47 x48 x49 x50 x51 x52 k0) (fun z0 z1 z2 z3 z4 z5 z6 z7 z8 z9 z10 z11 z12 z13 z14 => ((z2).length = 5) ∧ ((z3).length = 5) ∧ ((z4).length = 5) ∧ ((z5).length = 5) ∧ ((z6).length = 5) ∧ ((z7).length = 5) ∧ ((z8).length = 5) ∧ ((z9).length = 5) ∧ ((z10).length = 5) ∧ ((z11).length = 5) ∧ ((z12).length = 5) ∧ ((z13).length = 5) ∧ ((z14).length = 5) ∧ ((z0) = (x38)) ∧ ((z1) = (x39))) := by
  obtain ⟨i_0, i_1, i_2, i_3, i_4, i_5, i_6, i_7, i_8, i_9, i_10, i_11, i_12, i_13, i_14, i_15⟩ := i_
  refine T_15.of ?_
  delta Zd0
  refine T_4.bind (Zf0 x49 x50 x51 x52 x49 x50 x51 x52 x48) (fun r53 r54 r55 r56 q1 => ?_)
  obtain ⟨q1_0, q1_1, q1_2, q1_3⟩ := q1
  refine Tot.gd ?_
  refine Tot.lett (fun v57 e_v57 => ?_)
  first | simp (disch := omega) only [ts, *] at e_v57 | skip
  refine Tot.gd ?_
  refine Tot.lett (fun v58 e_v58 => ?_)
  first | simp (disch := omega) only [ts, *] at e_v58 | skip
  refine Tot.br (fun h2 => ?_) (fun h2 => ?_)
  · first | simp (disch := omega) only [ts, *] at h2 | skip
    all_goals
      refine T_4.bind (Zf0 r53 r54 r55 r56 x40 x41 x42 x43 x48) (fun r59 r60 r61 r62 q3 => ?_)
      obtain ⟨q3_0, q3_1, q3_2, q3_3⟩ := q3
      exact Tot.ret _
  · first | simp (disch := omega) only [ts, *] at h2 | skip
    all_goals
      exact Tot.ret _
theorem Zxm (x38 : Str) (x39 : Int) (x40 x41 x42 x43 x44 x45 x46 x47 x48 x49 x50 x51 x52 : List Int) (i_ : autoParam (((x40).length = 5) ∧ ((x41).length = 5) ∧ ((x42).length = 5) ∧ ((x43).length = 5) ∧ ((x44).length = 5) ∧ ((x45).length = 5) ∧ ((x46).length = 5) ∧ ((x47).length = 5) ∧ ((x48).length = 5) ∧ ((x49).length = 5) ∧ ((x50).length = 5) ∧ ((x51).length = 5) ∧ ((x52).length = 5) ∧ (((x38)).length = 32) ∧ (0 ≤ (x39)) ∧ ((x39) < 256)) sA._auto_1) : T_15 (fun R k0 => Zra Z1c Zp Z2 Z1f R x38 x39 x40 x41 x42 x43 x44 x45 x46 x47 x48 x49 x50 x51 x52 k0) (fun z0 z1 z2 z3 z4 z5 z6 z7 z8 z9 z10 z11 z12 z13 z14 => ((z2).length = 5) ∧ ((z3).length = 5) ∧ ((z4).length = 5) ∧ ((z5).length = 5) ∧ ((z6).length = 5) ∧ ((z7).length = 5) ∧ ((z8).length = 5) ∧ ((z9).length = 5) ∧ ((z10).length = 5) ∧ ((z11).length = 5) ∧ ((z12).length = 5) ∧ ((z13).length = 5) ∧ ((z14).length = 5) ∧ ((z0) = (x38)) ∧ ((z1) = (x39))) := by
  exact T_15.congr (fun R k0 => by kernel_rfl) (Zry x38 x39 x40 x41 x42 x43 x44 x45 x46 x47 x48 x49 x50 x51 x52 i_)
theorem Zsm (x23 : Str) (x24 : Int) (x25 x26 x27 x28 x29 x30 x31 x32 x33 x34 x35 x36 x37 : List Int) (i_ : ((x25).length = 5) ∧ ((x26).length = 5) ∧ ((x27).length = 5) ∧ ((x28).length = 5) ∧ ((x29).length = 5) ∧ ((x30).length = 5) ∧ ((x31).length = 5) ∧ ((x32).length = 5) ∧ ((x33).length = 5) ∧ ((x34).length = 5) ∧ ((x35).length = 5) ∧ ((x36).length = 5) ∧ ((x37).length = 5) ∧ (-1 ≤ (x24)) ∧ (((x23)).length = 32) ∧ ((x24) < 256)) : Z14v (fun R next k0 => Zcl Z1c Zp Z2 Z1f R x23 x24 x25 x26 x27 x28 x29 x30 x31 x32 x33 x34 x35 x36 x37 next k0) (fun nx23 nx24 nx25 nx26 nx27 nx28 nx29 nx30 nx31 nx32 nx33 nx34 nx35 nx36 nx37 => ((nx25).length = 5) ∧ ((nx26).length = 5) ∧ ((nx27).length = 5) ∧ ((nx28).length = 5) ∧ ((nx29).length = 5) ∧ ((nx30).length = 5) ∧ ((nx31).length = 5) ∧ ((nx32).length = 5) ∧ ((nx33).length = 5) ∧ ((nx34).length = 5) ∧ ((nx35).length = 5) ∧ ((nx36).length = 5) ∧ ((nx37).length = 5) ∧ (-1 ≤ (nx24)) ∧ (((nx23)).length = 32) ∧ ((nx24) < 256) ∧ (((nx24) + 1).toNat < ((x24) + 1).toNat)) (fun z0 z1 z2 z3 z4 z5 z6 z7 => ((z0).length = 5) ∧ ((z1).length = 5) ∧ ((z2).length = 5) ∧ ((z3).length = 5) ∧ ((z4).length = 5) ∧ ((z5).length = 5) ∧ ((z6).length = 5) ∧ ((z7).length = 5)) := by
  obtain ⟨i_0, i_1, i_2, i_3, i_4, i_5, i_6, i_7, i_8, i_9, i_10, i_11, i_12, i_13, i_14, i_15⟩ := i_
  refine Z14v.of ?_
  delta Zcl
  refine Tot.br (fun h1 => ?_) (fun h1 => ?_)
  · first | simp (disch := omega) only [ts, *] at h1 | skip
    all_goals
      refine T_15.bind (Zxm x23 x24 x25 x26 x27 x28 x29 x30 x31 x32 x33 x34 x35 x36 x37) (fun y63 y64 y65 y66 y67 y68 y69 y70 y71 y72 y73 y74 y75 y76 y77 q2 => ?_)
      obtain ⟨q2_0, q2_1, q2_2, q2_3, q2_4, q2_5, q2_6, q2_7, q2_8, q2_9, q2_10, q2_11, q2_12, q2_13, q2_14⟩ := q2
      exact Tot.ret _
  · first | simp (disch := omega) only [ts, *] at h1 | skip
    all_goals
      exact Tot.ret _
theorem Zxk (x23 : Str) (x24 : Int) (x25 x26 x27 x28 x29 x30 x31 x32 x33 x34 x35 x36 x37 : List Int) (i_ : autoParam (((x25).length = 5) ∧ ((x26).length = 5) ∧ ((x27).length = 5) ∧ ((x28).length = 5) ∧ ((x29).length = 5) ∧ ((x30).length = 5) ∧ ((x31).length = 5) ∧ ((x32).length = 5) ∧ ((x33).length = 5) ∧ ((x34).length = 5) ∧ ((x35).length = 5) ∧ ((x36).length = 5) ∧ ((x37).length = 5) ∧ (-1 ≤ (x24)) ∧ (((x23)).length = 32) ∧ ((x24) < 256)) sA._auto_1) : T_8 (fun R k0 => Zqv Z1c Zp Z2 Z1f R x23 x24 x25 x26 x27 x28 x29 x30 x31 x32 x33 x34 x35 x36 x37 k0) (fun z0 z1 z2 z3 z4 z5 z6 z7 => ((z0).length = 5) ∧ ((z1).length = 5) ∧ ((z2).length = 5) ∧ ((z3).length = 5) ∧ ((z4).length = 5) ∧ ((z5).length = 5) ∧ ((z6).length = 5) ∧ ((z7).length = 5)) := by
  have h := loopS (T := Zge) (E := Zgo) (step := (Z99 Z1c Zp Z2 Z1f).step) (A := ((List Int) × (List Int) × (List Int) × (List Int) × (List Int) × (List Int) × (List Int) × (List Int))) (fun R k => (fun r => k (r), ())) (fun v => ((v.2.1.1).length = 5) ∧ ((v.2.1.2.1).length = 5) ∧ ((v.2.1.2.2.1).length = 5) ∧ ((v.2.1.2.2.2.1).length = 5) ∧ ((v.2.2.1.1).length = 5) ∧ ((v.2.2.1.2.1).length = 5) ∧ ((v.2.2.1.2.2.1).length = 5) ∧ ((v.2.2.1.2.2.2.1).length = 5) ∧ ((v.2.2.2.1.1).length = 5) ∧ ((v.2.2.2.2.1.1).length = 5) ∧ ((v.2.2.2.2.1.2.1).length = 5) ∧ ((v.2.2.2.2.1.2.2.1).length = 5) ∧ ((v.2.2.2.2.1.2.2.2.1).length = 5) ∧ (-1 ≤ (v.1.2.2.2.2.2.1)) ∧ (((v.1.1)).length = 32) ∧ ((v.1.2.2.2.2.2.1) < 256)) (fun v => ((v.1.2.2.2.2.2.1) + 1).toNat) (fun p => ((p.1).length = 5) ∧ ((p.2.1).length = 5) ∧ ((p.2.2.1).length = 5) ∧ ((p.2.2.2.1).length = 5) ∧ ((p.2.2.2.2.1).length = 5) ∧ ((p.2.2.2.2.2.1).length = 5) ∧ ((p.2.2.2.2.2.2.1).length = 5) ∧ ((p.2.2.2.2.2.2.2).length = 5)) ?hs (Z8r x23 x24 x25 x26 x27 x28 x29 x30 x31 x32 x33 x34 x35 x36 x37) ((x23, (), (), (), (), x24, ()), ((x25, x26, x27, x28, ()), (x29, x30, x31, x32, ()), (x33, ()), (x34, x35, x36, x37, ()), ())) i_ (by obtain ⟨i_0, i_1, i_2, i_3, i_4, i_5, i_6, i_7, i_8, i_9, i_10, i_11, i_12, i_13, i_14, i_15⟩ := i_; have hh : Z8r x23 x24 x25 x26 x27 x28 x29 x30 x31 x32 x33 x34 x35 x36 x37 = 100000 + (x23.length + x24.toNat + x25.length + x26.length + x27.length + x28.length + x29.length + x30.length + x31.length + x32.length + x33.length + x34.length + x35.length + x36.length + x37.length) := rfl; rw [hh]; first | omega | (simp only [ts] <;> omega))
  case hs =>
    intro v hv
    rcases Zsm (v.1.1) (v.1.2.2.2.2.2.1) (v.2.1.1) (v.2.1.2.1) (v.2.1.2.2.1) (v.2.1.2.2.2.1) (v.2.2.1.1) (v.2.2.1.2.1) (v.2.2.1.2.2.1) (v.2.2.1.2.2.2.1) (v.2.2.2.1.1) (v.2.2.2.2.1.1) (v.2.2.2.2.1.2.1) (v.2.2.2.2.1.2.2.1) (v.2.2.2.2.1.2.2.2.1) hv with ⟨nx23, nx24, nx25, nx26, nx27, nx28, nx29, nx30, nx31, nx32, nx33, nx34, nx35, nx36, nx37, hq, e⟩ | ⟨z0, z1, z2, z3, z4, z5, z6, z7, hq, e⟩
    · exact .inl ⟨((nx23, (), (), (), (), nx24, ()), ((nx25, nx26, nx27, nx28, ()), (nx29, nx30, nx31, nx32, ()), (nx33, ()), (nx34, nx35, nx36, nx37, ()), ())), (by obtain ⟨hq0, hq1, hq2, hq3, hq4, hq5, hq6, hq7, hq8, hq9, hq10, hq11, hq12, hq13, hq14, hq15, hq16⟩ := hq; exact ⟨⟨hq0, hq1, hq2, hq3, hq4, hq5, hq6, hq7, hq8, hq9, hq10, hq11, hq12, hq13, hq14, hq15⟩, hq16⟩), fun R next k => e R (fun nx23 nx24 nx25 nx26 nx27 nx28 nx29 nx30 nx31 nx32 nx33 nx34 nx35 nx36 nx37 => next ((nx23, (), (), (), (), nx24, ()), ((nx25, nx26, nx27, nx28, ()), (nx29, nx30, nx31, nx32, ()), (nx33, ()), (nx34, nx35, nx36, nx37, ()), ()))) (fun z0 z1 z2 z3 z4 z5 z6 z7 => k ((z0, z1, z2, z3, z4, z5, z6, z7)))⟩
    · exact .inr ⟨(z0, z1, z2, z3, z4, z5, z6, z7), hq, fun R next k => e R (fun nx23 nx24 nx25 nx26 nx27 nx28 nx29 nx30 nx31 nx32 nx33 nx34 nx35 nx36 nx37 => next ((nx23, (), (), (), (), nx24, ()), ((nx25, nx26, nx27, nx28, ()), (nx29, nx30, nx31, nx32, ()), (nx33, ()), (nx34, nx35, nx36, nx37, ()), ()))) (fun z0 z1 z2 z3 z4 z5 z6 z7 => k ((z0, z1, z2, z3, z4, z5, z6, z7)))⟩
  obtain ⟨⟨z0, z1, z2, z3, z4, z5, z6, z7⟩, hq, e⟩ := h
  · exact ⟨z0, z1, z2, z3, z4, z5, z6, z7, hq, fun R k0 => e R (fun r => k0 (r.1) (r.2.1) (r.2.2.1) (r.2.2.2.1) (r.2.2.2.2.1) (r.2.2.2.2.2.1) (r.2.2.2.2.2.2.1) (r.2.2.2.2.2.2.2))⟩
theorem Zew (a1 a2 a3 a4 : List Int) (a5 : Str) (h_ : autoParam (((a1).length = 5) ∧ ((a2).length = 5) ∧ ((a3).length = 5) ∧ ((a4).length = 5)) sA._auto_1) : T_5 (fun R k0 => Z6c R a1 a2 a3 a4 a5 k0) (fun z0 z1 z2 z3 z4 => ((z0).length = 5) ∧ ((z1).length = 5) ∧ ((z2).length = 5) ∧ ((z3).length = 5)) := by
  obtain ⟨h_0, h_1, h_2, h_3⟩ := h_
  refine T_5.of ?_
  delta Z6c Zjf
  refine Tot.lett (fun v6 e_v6 => ?_)
  have l_v6 := congrArg List.length e_v6
  first | simp (disch := omega) only [ts, *] at l_v6 | skip
  refine Tot.lett (fun v7 e_v7 => ?_)
  have l_v7 := congrArg List.length e_v7
  first | simp (disch := omega) only [ts, *] at l_v7 | skip
  refine Tot.lett (fun v8 e_v8 => ?_)
  have l_v8 := congrArg List.length e_v8
  first | simp (disch := omega) only [ts, *] at l_v8 | skip
  refine Tot.lett (fun v9 e_v9 => ?_)
  have l_v9 := congrArg List.length e_v9
  first | simp (disch := omega) only [ts, *] at l_v9 | skip
  refine Tot.lett (fun v10 e_v10 => ?_)
  first | simp (disch := omega) only [ts, *] at e_v10 | skip
  refine Tot.br (fun h1 => ?_) (fun h1 => ?_)
  · first | simp (disch := omega) only [ts, *] at h1 | skip
    all_goals
      refine Tot.lett (fun v11 e_v11 => ?_)
      have l_v11 := congrArg List.length e_v11
      first | simp (disch := omega) only [ts, *] at l_v11 | skip
      refine Tot.lett (fun v12 e_v12 => ?_)
      have l_v12 := congrArg List.length e_v12
      first | simp (disch := omega) only [ts, *] at l_v12 | skip
      refine Tot.lett (fun v13 e_v13 => ?_)
      have l_v13 := congrArg List.length e_v13
      first | simp (disch := omega) only [ts, *] at l_v13 | skip
      refine Tot.lett (fun v14 e_v14 => ?_)
      have l_v14 := congrArg List.length e_v14
      first | simp (disch := omega) only [ts, *] at l_v14 | skip
      exact Tot.ret _
  · first | simp (disch := omega) only [ts, *] at h1 | skip
    all_goals
      refine T_1.bind (Zj6) (fun r15 q2 => ?_)
      replace q2 : (r15).length = 5 := q2
      refine T_1.bind (Z42 2) (fun r16 q3 => ?_)
      replace q3 : (r16).length = 5 := q3
      refine T_1.bind (Z3 r15 r16) (fun r17 q4 => ?_)
      replace q4 : (r17).length = 5 := q4
      refine Tot.lett (fun v18 e_v18 => ?_)
      have l_v18 := congrArg List.length e_v18
      first | simp (disch := omega) only [ts, *] at l_v18 | skip
      refine Tot.lett (fun v19 e_v19 => ?_)
      have l_v19 := congrArg List.length e_v19
      first | simp (disch := omega) only [ts, *] at l_v19 | skip
      refine Tot.lett (fun v20 e_v20 => ?_)
      have l_v20 := congrArg List.length e_v20
      first | simp (disch := omega) only [ts, *] at l_v20 | skip
      refine Tot.lett (fun v21 e_v21 => ?_)
      have l_v21 := congrArg List.length e_v21
      first | simp (disch := omega) only [ts, *] at l_v21 | skip
      refine Tot.lett (fun v22 e_v22 => ?_)
      have l_v22 := congrArg List.length e_v22
      first | simp (disch := omega) only [ts, *] at l_v22 | skip
      refine T_8.bind (Zxk a5 255 a1 a2 a3 a4 v6 v7 v8 v9 r17 v19 v20 v21 v22) (fun y78 y79 y80 y81 y82 y83 y84 y85 q5 => ?_)
      obtain ⟨q5_0, q5_1, q5_2, q5_3, q5_4, q5_5, q5_6, q5_7⟩ := q5
      exact Tot.ret _
theorem Z101 (a1 a2 a3 a4 : List Int) (h_ : autoParam (((a1).length = 5) ∧ ((a2).length = 5) ∧ ((a3).length = 5) ∧ ((a4).length = 5)) sA._auto_1) : T_4 (fun R k0 => Zbd R a1 a2 a3 a4 k0) (fun z0 z1 z2 z3 => ((z0).length = 5) ∧ ((z1).length = 5) ∧ ((z2).length = 5) ∧ ((z3).length = 5)) := by
  obtain ⟨h_0, h_1, h_2, h_3⟩ := h_
  refine T_4.of ?_
  delta Zbd Zj0
  refine Tot.lett (fun v5 e_v5 => ?_)
  have l_v5 := congrArg List.length e_v5
  first | simp (disch := omega) only [ts, *] at l_v5 | skip
  refine Tot.lett (fun v6 e_v6 => ?_)
  have l_v6 := congrArg List.length e_v6
  first | simp (disch := omega) only [ts, *] at l_v6 | skip
  refine Tot.lett (fun v7 e_v7 => ?_)
  have l_v7 := congrArg List.length e_v7
  first | simp (disch := omega) only [ts, *] at l_v7 | skip
  refine Tot.lett (fun v8 e_v8 => ?_)
  have l_v8 := congrArg List.length e_v8
  first | simp (disch := omega) only [ts, *] at l_v8 | skip
  refine Tot.lett (fun v9 e_v9 => ?_)
  have l_v9 := congrArg List.length e_v9
  first | simp (disch := omega) only [ts, *] at l_v9 | skip
  refine T_1.bind (Z1v v9 a1) (fun r10 q1 => ?_)
  replace q1 : (r10).length = 5 := q1
  refine T_1.bind (Z1v v9 a4) (fun r11 q2 => ?_)
  replace q2 : (r11).length = 5 := q2
  exact Tot.ret _
theorem Z10d (a1 a2 a3 a4 a5 a6 a7 a8 : List Int) (h_ : autoParam (((a1).length = 5) ∧ ((a2).length = 5) ∧ ((a3).length = 5) ∧ ((a4).length = 5) ∧ ((a5).length = 5) ∧ ((a6).length = 5) ∧ ((a7).length = 5) ∧ ((a8).length = 5)) sA._auto_1) : T_4 (fun R k0 => Zax R a1 a2 a3 a4 a5 a6 a7 a8 k0) (fun z0 z1 z2 z3 => ((z0).length = 5) ∧ ((z1).length = 5) ∧ ((z2).length = 5) ∧ ((z3).length = 5)) := by
  obtain ⟨h_0, h_1, h_2, h_3, h_4, h_5, h_6, h_7⟩ := h_
  refine T_4.of ?_
  delta Zax Zj1
  refine Tot.lett (fun v9 e_v9 => ?_)
  have l_v9 := congrArg List.length e_v9
  first | simp (disch := omega) only [ts, *] at l_v9 | skip
  refine Tot.lett (fun v10 e_v10 => ?_)
  have l_v10 := congrArg List.length e_v10
  first | simp (disch := omega) only [ts, *] at l_v10 | skip
  refine Tot.lett (fun v11 e_v11 => ?_)
  have l_v11 := congrArg List.length e_v11
  first | simp (disch := omega) only [ts, *] at l_v11 | skip
  refine Tot.lett (fun v12 e_v12 => ?_)
  have l_v12 := congrArg List.length e_v12
  first | simp (disch := omega) only [ts, *] at l_v12 | skip
  refine T_1.bind (Zj6) (fun r13 q1 => ?_)
  replace q1 : (r13).length = 5 := q1
  refine T_1.bind (Z42 2) (fun r14 q2 => ?_)
  replace q2 : (r14).length = 5 := q2
  refine T_1.bind (Z3 r13 r14) (fun r15 q3 => ?_)
  replace q3 : (r15).length = 5 := q3
  refine T_4.bind (Zf0 a1 a2 a3 a4 a5 a6 a7 a8 r15) (fun r16 r17 r18 r19 q4 => ?_)
  obtain ⟨q4_0, q4_1, q4_2, q4_3⟩ := q4
  exact Tot.ret _
theorem Zka (a1 a2 a3 a4 : List Int) (h_ : autoParam (((a1).length = 5) ∧ ((a2).length = 5) ∧ ((a3).length = 5) ∧ ((a4).length = 5)) sA._auto_1) : T_1 (fun R k0 => Z4m R a1 a2 a3 a4 k0) (fun z0 => (((z0)).length = 32)) := by
  obtain ⟨h_0, h_1, h_2, h_3⟩ := h_
  refine T_1.of ?_
  delta Z4m Zgf
  refine T_4.bind (Zef a1 a2 a3 a4) (fun r5 r6 r7 r8 q1 => ?_)
  obtain ⟨q1_0, q1_1, q1_2, q1_3⟩ := q1
  refine Tot.lett (fun v9 e_v9 => ?_)
  have l_v9 := congrArg List.length e_v9
  first | simp (disch := omega) only [ts, *] at l_v9 | skip
  refine Tot.lett (fun v10 e_v10 => ?_)
  have l_v10 := congrArg List.length e_v10
  first | simp (disch := omega) only [ts, *] at l_v10 | skip
  refine Tot.lett (fun v11 e_v11 => ?_)
  have l_v11 := congrArg List.length e_v11
  first | simp (disch := omega) only [ts, *] at l_v11 | skip
  refine Tot.lett (fun v12 e_v12 => ?_)
  have l_v12 := congrArg List.length e_v12
  first | simp (disch := omega) only [ts, *] at l_v12 | skip
  refine T_1.bind (Zbt r7) (fun r13 q2 => ?_)
  replace q2 : (r13).length = 5 := q2
  refine Tot.lett (fun v14 e_v14 => ?_)
  have l_v14 := congrArg List.length e_v14
  first | simp (disch := omega) only [ts, *] at l_v14 | skip
  refine T_1.bind (Z3 r6 r13) (fun r15 q3 => ?_)
  replace q3 : (r15).length = 5 := q3
  refine T_1.bind (Zah r15) (fun r16 q4 => ?_)
  replace q4 : ((r16)).length = 32 := q4
  refine Tot.gd ?_
  refine Tot.lett (fun v17 e_v17 => ?_)
  first | simp (disch := omega) only [ts, *] at e_v17 | skip
  refine T_1.bind (Z3 r5 r13) (fun r18 q5 => ?_)
  replace q5 : (r18).length = 5 := q5
  refine T_1.bind (Zah r18) (fun r19 q6 => ?_)
  replace q6 : ((r19)).length = 32 := q6
  refine Tot.gd ?_
  refine Tot.lett (fun v20 e_v20 => ?_)
  first | simp (disch := omega) only [ts, *] at e_v20 | skip
  refine Tot.lett (fun v21 e_v21 => ?_)
  first | simp (disch := omega) only [ts, *] at e_v21 | skip
  refine Tot.gd ?_
  refine Tot.lett (fun v22 e_v22 => ?_)
  have l_v22 := congrArg List.length e_v22
  first | simp (disch := omega) only [ts, *] at l_v22 | skip
  exact Tot.ret _
end Go.Ev
