/- Texts Psha, Pfield, Ppoint, Pscalar, Psign, Pcert, CertAr, Htime, Lcert, Llib, Ufield of this proof; printed names are shortened. -/
import Derived.Test.YtlomoioolngohaaGreatDoorP3
import Derived.Test.YtlomoioolngohaaGreatDoorP1
import Derived.Lib.ItoaNum
import Derived.Lib.Repeat
import Derived.KernelRfl
set_option linter.unusedVariables false
set_option linter.unusedSimpArgs false
set_option maxRecDepth 100000
set_option maxHeartbeats 2000000
namespace Go.Ev
noncomputable section
abbrev Zb8 := (R : Type) → (Int → Int → Option R) → Option R
def Zwi (R : Type) (k0 : Int → Int → Option R) : Option R :=
 k0 0 64
def Z6z : Zb8 := Zwi
abbrev Z3n := (R : Type) → Str → Int → (Int → Int → Str → Option R) → Option R
def Zqr (R : Type) (a1 : Str) (a2 : Int) (k0 : Int → Int → Str → Option R) : Option R :=
 gd (appB 0 a1.length 1) <|
 k0 0 a2 (([] : Str) ++ a1)
def Z3p : Z3n := Zqr
abbrev Z3o := (R : Type) → Str → Int → Str → (Int → Int → Str → Option R) → Option R
def Zi1 (R : Type) (a1 : Str) (a2 : Int) (a3 : Str) (k0 : Int → Int → Str → Option R) : Option R :=
 gd (appB a3.length a1.length 1) <|
 k0 0 a2 (a3 ++ a1)
def Z2g : Z3o := Zi1
abbrev Z53 := (R : Type) → ((List Int) → Option R) → Option R
def Zqu (R : Type) (k0 : (List Int) → Option R) : Option R :=
 lett (((((((((((((((((((((((((((((((((((((((((((((((((((((((((((((((((((((((((((((((((List.replicate 80 (0 : Int)).set 0 4794697086780616226).set 1 8158064640168781261).set 2 13096744586834688815).set 3 16840607885511220156).set 4 4131703408338449720).set 5 6480981068601479193).set 6 10538285296894168987).set 7 12329834152419229976).set 8 15566598209576043074).set 9 1334009975649890238).set 10 2608012711638119052).set 11 6128411473006802146).set 12 8268148722764581231).set 13 9286055187155687089).set 14 11230858885718282805).set 15 13951009754708518548).set 16 16472876342353939154).set 17 17275323862435702243).set 18 1135362057144423861).set 19 2597628984639134821).set 20 3308224258029322869).set 21 5365058923640841347).set 22 6679025012923562964).set 23 8573033837759648693).set 24 10970295158949994411).set 25 12119686244451234320).set 26 12683024718118986047).set 27 13788192230050041572).set 28 14330467153632333762).set 29 15395433587784984357).set 30 489312712824947311).set 31 1452737877330783856).set 32 2861767655752347644).set 33 3322285676063803686).set 34 5560940570517711597).set 35 5996557281743188959).set 36 7280758554555802590).set 37 8532644243296465576).set 38 9350256976987008742).set 39 10552545826968843579).set 40 11727347734174303076).set 41 12113106623233404929).set 42 14000437183269869457).set 43 14369950271660146224).set 44 15101387698204529176).set 45 15463397548674623760).set 46 17586052441742319658).set 47 1182934255886127544).set 48 1847814050463011016).set 49 2177327727835720531).set 50 2830643537854262169).set 51 3796741975233480872).set 52 4115178125766777443).set 53 5681478168544905931).set 54 6601373596472566643).set 55 7507060721942968483).set 56 8399075790359081724).set 57 8693463985226723168).set 58 9568029438360202098).set 59 10144078919501101548).set 60 10430055236837252648).set 61 11840083180663258601).set 62 13761210420658862357).set 63 14299343276471374635).set 64 14566680578165727644).set 65 15097957966210449927).set 66 16922976911328602910).set 67 17689382322260857208).set 68 500013540394364858).set 69 748580250866718886).set 70 1242879168328830382).set 71 1977374033974150939).set 72 2944078676154940804).set 73 3659926193048069267).set 74 4368137639120453308).set 75 4836135668995329356).set 76 5532061633213252278).set 77 6448918945643986474).set 78 6902733635092675308).set 79 7801388544844847127) fun (v1 : List Int) =>
 k0 v1
def Z3b : Z53 := Zqu
abbrev Z8s := (R : Type) → ((List Int) → Option R) → Option R
def Zzo (R : Type) (k0 : (List Int) → Option R) : Option R :=
 lett (List.replicate 8 (0 : Int)) fun (v1 : List Int) =>
 lett (((((((((List.replicate 8 (0 : Int)).set 0 7640891576956012808).set 1 13503953896175478587).set 2 4354685564936845355).set 3 11912009170470909681).set 4 5840696475078001361).set 5 11170449401992604703).set 6 2270897969802886507).set 7 6620516959819538809) fun (v2 : List Int) =>
 k0 v2
def Z5w : Z8s := Zzo
def Zu3 : StK := ⟨[(2, .sc (.ptr 0 0 0 0 0)), (13, .agg [.ints .u64 (some 8)]), (14, .sc (.i .i64))], [(true, [.one (.i .i64), .one (.i .i64), .ints .i64 (some 3), .ints .i64 (some 3), .ints .i64 (some 3), .ints .i64 (some 3), .one (.fn Zd [1]), .ints .u32 (some 8)]), (true, [.one (.ptr 2 0 0 0 0)]), (true, [.ints .u64 (some 80)])]⟩
def Zto : List PShape := [⟨Int × Int × (List Int) × (List Int) × (List Int) × (List Int) × (List Int) × (List Int), fun r => (.exit 0, ⟨[(2, .c (.sc (.ptr 0 0 0 0 0)))], [(0, ⟨true, [.one (.int .i64 r.1), .one (.int .i64 r.2.1), .ints .i64 r.2.2.1 3, .ints .i64 r.2.2.2.1 3, .ints .i64 r.2.2.2.2.1 3, .ints .i64 r.2.2.2.2.2.1 3, .one (.fn Zd [1]), .ints .u32 r.2.2.2.2.2.2.1 8]⟩), (1, ⟨true, [.one (.ptr 2 0 0 0 0)]⟩), (2, ⟨true, [.ints .u64 r.2.2.2.2.2.2.2 80]⟩)], 3⟩)⟩]
def Zmx (g0 : Z53) (g1 : Z8s) (R : Type) (x8 : List Int) (x9 x10 x11 : Int) (x12 x13 x14 x15 x16 x17 : List Int) (next : (List Int) → Int → Int → Int → (List Int) → (List Int) → (List Int) → (List Int) → (List Int) → (List Int) → Option R) (k0 : Int → Int → (List Int) → (List Int) → (List Int) → (List Int) → (List Int) → (List Int) → Option R) : Option R :=
 br (ltI x9 8)
 (gd (inB x9 8) <|
 lett (shrI .u64 (x8.getD x9.toNat 0) 32) fun (v18 : Int) =>
 gd (inB x9 8) <|
 gd (Nat.blt x9.toNat 8) <|
 lett (x16.set x9.toNat (cvtI .u32 v18)) fun (v19 : List Int) =>
 next x8 (addI .i64 x9 1) x10 x11 x12 x13 x14 x15 v19 x17)
 (k0 x10 x11 x12 x13 x14 x15 x16 x17)
def Zgr (x8 : List Int) (x9 x10 x11 : Int) (x12 x13 x14 x15 x16 x17 : List Int) : Nat := 100000 + (x8.length + x9.toNat + x10.toNat + x11.toNat + x12.length + x13.length + x14.length + x15.length + x16.length + x17.length)
def Ziu (g0 : Z53) (g1 : Z8s) : Piece := { T := Zu3, shapes := Zto, step := fun R x next k => Zmx g0 g1 R (x.1.2.1.1) (x.1.2.2.1) (x.2.1.1) (x.2.1.2.1) (x.2.1.2.2.1) (x.2.1.2.2.2.1) (x.2.1.2.2.2.2.1) (x.2.1.2.2.2.2.2.1) (x.2.1.2.2.2.2.2.2.2.1) (x.2.2.2.1.1) (fun x8 x9 x10 x11 x12 x13 x14 x15 x16 x17 => next (((), (x8, ()), x9, ()), ((x10, x11, x12, x13, x14, x15, (), x16, ()), ((), ()), (x17, ()), ()))) (fun z0 z1 z2 z3 z4 z5 z6 z7 => k.1 (z0, z1, z2, z3, z4, z5, z6, z7)), fuel := fun x => Zgr (x.1.2.1.1) (x.1.2.2.1) (x.2.1.1) (x.2.1.2.1) (x.2.1.2.2.1) (x.2.1.2.2.2.1) (x.2.1.2.2.2.2.1) (x.2.1.2.2.2.2.2.1) (x.2.1.2.2.2.2.2.2.2.1) (x.2.2.2.1.1) }
def Z14p (g0 : Z53) (g1 : Z8s) (R : Type) (x8 : List Int) (x9 x10 x11 : Int) (x12 x13 x14 x15 x16 x17 : List Int) (k0 : Int → Int → (List Int) → (List Int) → (List Int) → (List Int) → (List Int) → (List Int) → Option R) : Option R :=
 runP Zu3 Zto (Ziu g0 g1).step R (Zgr x8 x9 x10 x11 x12 x13 x14 x15 x16 x17) (((), (x8, ()), x9, ()), ((x10, x11, x12, x13, x14, x15, (), x16, ()), ((), ()), (x17, ()), ())) (fun r => k0 (r.1) (r.2.1) (r.2.2.1) (r.2.2.2.1) (r.2.2.2.2.1) (r.2.2.2.2.2.1) (r.2.2.2.2.2.2.1) (r.2.2.2.2.2.2.2), ())
abbrev Zui := (R : Type) → (Int → Int → (List Int) → (List Int) → (List Int) → (List Int) → (List Int) → (List Int) → Option R) → Option R
def Zy9 (g0 : Z53) (g1 : Z8s) (R : Type) (k0 : Int → Int → (List Int) → (List Int) → (List Int) → (List Int) → (List Int) → (List Int) → Option R) : Option R :=
 g0 R fun r1 =>
 lett ((((List.replicate 3 (0 : Int)).set 0 7).set 1 18).set 2 3) fun (v2 : List Int) =>
 lett ((((List.replicate 3 (0 : Int)).set 0 17).set 1 19).set 2 10) fun (v3 : List Int) =>
 lett ((((List.replicate 3 (0 : Int)).set 0 6).set 1 11).set 2 25) fun (v4 : List Int) =>
 lett ((((List.replicate 3 (0 : Int)).set 0 2).set 1 13).set 2 22) fun (v5 : List Int) =>
 lett (List.replicate 8 (0 : Int)) fun (v6 : List Int) =>
 g1 R fun r7 =>
 Z14p g0 g1 R r7 0 32 64 v2 v3 v4 v5 v6 r1 fun y20 y21 y22 y23 y24 y25 y26 y27 =>
 k0 y20 y21 y22 y23 y24 y25 y26 y27
def Zng : Zui := Zy9 Z3b Z5w
abbrev Zb := (R : Type) → Int → Int → (List Int) → (List Int) → (List Int) → (List Int) → (List Int) → (List Int) → (Int → Int → Int → (List Int) → (List Int) → (List Int) → (List Int) → (List Int) → (List Int) → Option R) → Option R
def Zbc (R : Type) (a1 a2 : Int) (a3 a4 a5 a6 a7 a8 : List Int) (k0 : Int → Int → Int → (List Int) → (List Int) → (List Int) → (List Int) → (List Int) → (List Int) → Option R) : Option R :=
 k0 (mulI .i64 2 a1) a1 a2 a3 a4 a5 a6 a7 a8
def Z1 : Zb := Zbc
abbrev Z3i := (R : Type) → Int → Int → Int → Int → (List Int) → (List Int) → (List Int) → (List Int) → (List Int) → (List Int) → (Int → Int → Int → (List Int) → (List Int) → (List Int) → (List Int) → (List Int) → (List Int) → Option R) → Option R
def Zc0 (R : Type) (a1 a2 a3 a4 : Int) (a5 a6 a7 a8 a9 a10 : List Int) (k0 : Int → Int → Int → (List Int) → (List Int) → (List Int) → (List Int) → (List Int) → (List Int) → Option R) : Option R :=
 gd (leI 0 a2) <|
 gd (leI 0 (subI .i64 a3 a2)) <|
 lett (shlI .u32 a1 (subI .i64 a3 a2)) fun (v11 : Int) =>
 lett (orI .u32 (shrI .u32 a1 a2) v11) fun (v12 : Int) =>
 k0 v12 a3 a4 a5 a6 a7 a8 a9 a10
def Z2s : Z3i := Zc0
abbrev Zq := (R : Type) → Int → (List Int) → Int → Int → (List Int) → (List Int) → (List Int) → (List Int) → (List Int) → (List Int) → (Int → Int → Int → (List Int) → (List Int) → (List Int) → (List Int) → (List Int) → (List Int) → Option R) → Option R
def Zcr (g0 : Z3i) (R : Type) (a1 : Int) (a2 : List Int) (a3 a4 : Int) (a5 a6 a7 a8 a9 a10 : List Int) (k0 : Int → Int → Int → (List Int) → (List Int) → (List Int) → (List Int) → (List Int) → (List Int) → Option R) : Option R :=
 gd (leI 0 (a2.getD 2 0)) <|
 lett (shrI .u32 a1 (a2.getD 2 0)) fun (v11 : Int) =>
 g0 R a1 (a2.getD 0 0) a3 a4 a5 a6 a7 a8 a9 a10 fun r12 r13 r14 r15 r16 r17 r18 r19 r20 =>
 g0 R a1 (a2.getD 1 0) a3 a4 a5 a6 a7 a8 a9 a10 fun r21 r22 r23 r24 r25 r26 r27 r28 r29 =>
 lett (xorI .u32 (xorI .u32 r12 r21) v11) fun (v30 : Int) =>
 k0 v30 a3 a4 a5 a6 a7 a8 a9 a10
def Zi : Zq := Zcr Z2s
def Z9r : StK := ⟨[(0, .sc (.ptr 0 0 0 0 0)), (1, .sc (.s)), (5, .sc (.sl 3 1 none)), (6, .sc (.i .i64)), (7, .sc (.i .i64)), (20, .sc (.i .i64)), (21, .sc (.i .i64)), (26, .sc (.i .i64)), (27, .sc (.i .i64))], [(true, [.one (.i .i64), .one (.i .i64), .ints .i64 (some 3), .ints .i64 (some 3), .ints .i64 (some 3), .ints .i64 (some 3), .one (.fn Zd [1]), .ints .u32 (some 8)]), (false, [.one (.ptr 2 0 0 0 0)]), (true, [.ints .u64 (some 80)]), (true, [.ints .u32 none])]⟩
def Z9d : List PShape := [⟨Str × Int × Int × Int × Int × Int × (List Int) × (List Int) × (List Int) × (List Int) × (List Int) × (List Int) × (List Int), fun r => (.exit 2, ⟨[(0, .c (.sc (.ptr 0 0 0 0 0))), (1, .c (.sc (.str r.1))), (5, .c (.sc (.slice 3 1 none none))), (6, .c (.sc (.int .i64 r.2.1))), (20, .c (.sc (.int .i64 r.2.2.1))), (21, .c (.sc (.int .i64 r.2.2.2.1)))], [(0, ⟨true, [.one (.int .i64 r.2.2.2.2.1), .one (.int .i64 r.2.2.2.2.2.1), .ints .i64 r.2.2.2.2.2.2.1 3, .ints .i64 r.2.2.2.2.2.2.2.1 3, .ints .i64 r.2.2.2.2.2.2.2.2.1 3, .ints .i64 r.2.2.2.2.2.2.2.2.2.1 3, .one (.fn Zd [1]), .ints .u32 r.2.2.2.2.2.2.2.2.2.2.1 8]⟩), (1, ⟨false, [.one (.ptr 2 0 0 0 0)]⟩), (2, ⟨true, [.ints .u64 r.2.2.2.2.2.2.2.2.2.2.2.1 80]⟩), (3, ⟨true, [.ints .u32 r.2.2.2.2.2.2.2.2.2.2.2.2 r.2.2.2.2.2.2.2.2.2.2.2.2.length]⟩)], 4⟩)⟩]
def Z7p (g0 : Zq) (R : Type) (x38 : Str) (x39 x40 x41 x42 x43 x44 x45 x46 : Int) (x47 x48 x49 x50 x51 x52 x53 : List Int) (next : Str → Int → Int → Int → Int → Int → Int → Int → Int → (List Int) → (List Int) → (List Int) → (List Int) → (List Int) → (List Int) → (List Int) → Option R) (k0 : Str → Int → Int → Int → Int → Int → (List Int) → (List Int) → (List Int) → (List Int) → (List Int) → (List Int) → (List Int) → Option R) : Option R :=
 br (ltI x44 x43)
 (gd (inB x40 x53.length) <|
 lett (shlI .u32 (x53.getD x40.toNat 0) 8) fun (v54 : Int) =>
 lett (addI .i64 (mulI .i64 x39 x40) x44) fun (v55 : Int) =>
 gd (inB v55 x38.length) <|
 lett (((x38.getD v55.toNat 0).toNat : Int)) fun (v56 : Int) =>
 lett (orI .u32 v54 (cvtI .u32 v56)) fun (v57 : Int) =>
 gd (inB x40 x53.length) <|
 next x38 x39 x40 x41 x42 x43 (addI .i64 x44 1) x45 x46 x47 x48 x49 x50 x51 x52 (x53.set x40.toNat v57))
 (k0 x38 x39 x41 x42 x45 x46 x47 x48 x49 x50 x51 x52 x53)
def Z4m (x38 : Str) (x39 x40 x41 x42 x43 x44 x45 x46 : Int) (x47 x48 x49 x50 x51 x52 x53 : List Int) : Nat := 100000 + (x38.length + x39.toNat + x40.toNat + x41.toNat + x42.toNat + x43.toNat + x44.toNat + x45.toNat + x46.toNat + x47.length + x48.length + x49.length + x50.length + x51.length + x52.length + x53.length)
def Z45 (g0 : Zq) : Piece := { T := Z9r, shapes := Z9d, step := fun R x next k => Z7p g0 R (x.1.2.1) (x.1.2.2.2.1) (x.1.2.2.2.2.1) (x.1.2.2.2.2.2.1) (x.1.2.2.2.2.2.2.1) (x.1.2.2.2.2.2.2.2.1) (x.1.2.2.2.2.2.2.2.2.1) (x.2.1.1) (x.2.1.2.1) (x.2.1.2.2.1) (x.2.1.2.2.2.1) (x.2.1.2.2.2.2.1) (x.2.1.2.2.2.2.2.1) (x.2.1.2.2.2.2.2.2.2.1) (x.2.2.2.1.1) (x.2.2.2.2.1.1) (fun x38 x39 x40 x41 x42 x43 x44 x45 x46 x47 x48 x49 x50 x51 x52 x53 => next (((), x38, (), x39, x40, x41, x42, x43, x44, ()), ((x45, x46, x47, x48, x49, x50, (), x51, ()), ((), ()), (x52, ()), (x53, ()), ()))) (fun z0 z1 z2 z3 z4 z5 z6 z7 z8 z9 z10 z11 z12 => k.1 (z0, z1, z2, z3, z4, z5, z6, z7, z8, z9, z10, z11, z12)), fuel := fun x => Z4m (x.1.2.1) (x.1.2.2.2.1) (x.1.2.2.2.2.1) (x.1.2.2.2.2.2.1) (x.1.2.2.2.2.2.2.1) (x.1.2.2.2.2.2.2.2.1) (x.1.2.2.2.2.2.2.2.2.1) (x.2.1.1) (x.2.1.2.1) (x.2.1.2.2.1) (x.2.1.2.2.2.1) (x.2.1.2.2.2.2.1) (x.2.1.2.2.2.2.2.1) (x.2.1.2.2.2.2.2.2.2.1) (x.2.2.2.1.1) (x.2.2.2.2.1.1) }
def Zho (g0 : Zq) (R : Type) (x38 : Str) (x39 x40 x41 x42 x43 x44 x45 x46 : Int) (x47 x48 x49 x50 x51 x52 x53 : List Int) (k0 : Str → Int → Int → Int → Int → Int → (List Int) → (List Int) → (List Int) → (List Int) → (List Int) → (List Int) → (List Int) → Option R) : Option R :=
 runP Z9r Z9d (Z45 g0).step R (Z4m x38 x39 x40 x41 x42 x43 x44 x45 x46 x47 x48 x49 x50 x51 x52 x53) (((), x38, (), x39, x40, x41, x42, x43, x44, ()), ((x45, x46, x47, x48, x49, x50, (), x51, ()), ((), ()), (x52, ()), (x53, ()), ())) (fun r => k0 (r.1) (r.2.1) (r.2.2.1) (r.2.2.2.1) (r.2.2.2.2.1) (r.2.2.2.2.2.1) (r.2.2.2.2.2.2.1) (r.2.2.2.2.2.2.2.1) (r.2.2.2.2.2.2.2.2.1) (r.2.2.2.2.2.2.2.2.2.1) (r.2.2.2.2.2.2.2.2.2.2.1) (r.2.2.2.2.2.2.2.2.2.2.2.1) (r.2.2.2.2.2.2.2.2.2.2.2.2), ())
def Zg3 : StK := ⟨[(0, .sc (.ptr 0 0 0 0 0)), (1, .sc (.s)), (5, .sc (.sl 3 1 none)), (6, .sc (.i .i64)), (20, .sc (.i .i64)), (21, .sc (.i .i64))], [(true, [.one (.i .i64), .one (.i .i64), .ints .i64 (some 3), .ints .i64 (some 3), .ints .i64 (some 3), .ints .i64 (some 3), .one (.fn Zd [1]), .ints .u32 (some 8)]), (false, [.one (.ptr 2 0 0 0 0)]), (true, [.ints .u64 (some 80)]), (true, [.ints .u32 none])]⟩
def Zg2 : List PShape := [⟨Str × Int × Int × Int × Int × Int × (List Int) × (List Int) × (List Int) × (List Int) × (List Int) × (List Int) × (List Int), fun r => (.normal, ⟨[(0, .c (.sc (.ptr 0 0 0 0 0))), (1, .c (.sc (.str r.1))), (5, .c (.sc (.slice 3 1 none none))), (6, .c (.sc (.int .i64 r.2.1))), (20, .c (.sc (.int .i64 r.2.2.1))), (21, .c (.sc (.int .i64 r.2.2.2.1)))], [(0, ⟨true, [.one (.int .i64 r.2.2.2.2.1), .one (.int .i64 r.2.2.2.2.2.1), .ints .i64 r.2.2.2.2.2.2.1 3, .ints .i64 r.2.2.2.2.2.2.2.1 3, .ints .i64 r.2.2.2.2.2.2.2.2.1 3, .ints .i64 r.2.2.2.2.2.2.2.2.2.1 3, .one (.fn Zd [1]), .ints .u32 r.2.2.2.2.2.2.2.2.2.2.1 8]⟩), (1, ⟨false, [.one (.ptr 2 0 0 0 0)]⟩), (2, ⟨true, [.ints .u64 r.2.2.2.2.2.2.2.2.2.2.2.1 80]⟩), (3, ⟨true, [.ints .u32 r.2.2.2.2.2.2.2.2.2.2.2.2 r.2.2.2.2.2.2.2.2.2.2.2.2.length]⟩)], 4⟩)⟩, ⟨Str × Int × Int × Int × Int × Int × (List Int) × (List Int) × (List Int) × (List Int) × (List Int) × (List Int) × (List Int) × Nat, fun r => (.normal, ⟨[(0, .c (.sc (.ptr 0 0 0 0 0))), (1, .c (.sc (.str r.1))), (5, .c (.sc (.slice 3 1 none none))), (6, .c (.sc (.int .i64 r.2.1))), (20, .c (.sc (.int .i64 r.2.2.1))), (21, .c (.sc (.int .i64 r.2.2.2.1)))], [(0, ⟨true, [.one (.int .i64 r.2.2.2.2.1), .one (.int .i64 r.2.2.2.2.2.1), .ints .i64 r.2.2.2.2.2.2.1 3, .ints .i64 r.2.2.2.2.2.2.2.1 3, .ints .i64 r.2.2.2.2.2.2.2.2.1 3, .ints .i64 r.2.2.2.2.2.2.2.2.2.1 3, .one (.fn Zd [1]), .ints .u32 r.2.2.2.2.2.2.2.2.2.2.1 8]⟩), (1, ⟨false, [.one (.ptr 2 0 0 0 0)]⟩), (2, ⟨true, [.ints .u64 r.2.2.2.2.2.2.2.2.2.2.2.1 80]⟩), (3, ⟨true, [.ints .u32 r.2.2.2.2.2.2.2.2.2.2.2.2.1 r.2.2.2.2.2.2.2.2.2.2.2.2.2]⟩)], 4⟩)⟩]
def Z7j (g0 : Zq) (R : Type) (x25 : Str) (x26 x27 x28 x29 x30 : Int) (x31 x32 x33 x34 x35 x36 x37 : List Int) (k0 : Str → Int → Int → Int → Int → Int → (List Int) → (List Int) → (List Int) → (List Int) → (List Int) → (List Int) → (List Int) → Option R) (k1 : Str → Int → Int → Int → Int → Int → (List Int) → (List Int) → (List Int) → (List Int) → (List Int) → (List Int) → (List Int) → Nat → Option R) : Option R :=
 br (ltI x28 16)
 (Zho g0 R x25 x26 x28 x27 x28 x26 0 x29 x30 x31 x32 x33 x34 x35 x36 x37 fun y58 y59 y60 y61 y62 y63 y64 y65 y66 y67 y68 y69 y70 =>
 k0 y58 y59 y60 y61 y62 y63 y64 y65 y66 y67 y68 y69 y70)
 (gd (inB (subI .i64 x28 16) x37.length) <|
 lett (x37.getD ((subI .i64 x28 16).toNat) 0) fun (v71 : Int) =>
 gd (inB (subI .i64 x28 7) x37.length) <|
 lett (x37.getD ((subI .i64 x28 7).toNat) 0) fun (v72 : Int) =>
 gd (inB (subI .i64 x28 15) x37.length) <|
 lett (x37.getD ((subI .i64 x28 15).toNat) 0) fun (v73 : Int) =>
 gd (inB (subI .i64 x28 2) x37.length) <|
 lett (x37.getD ((subI .i64 x28 2).toNat) 0) fun (v74 : Int) =>
 g0 R v73 x31 x29 x30 x31 x32 x33 x34 x35 x36 fun r75 r76 r77 r78 r79 r80 r81 r82 r83 =>
 lett (addI .u32 (addI .u32 v71 v72) r75) fun (v84 : Int) =>
 g0 R v74 x32 x29 x30 x31 x32 x33 x34 x35 x36 fun r85 r86 r87 r88 r89 r90 r91 r92 r93 =>
 gd (inB x28 x37.length) <|
 lett (x37.set x28.toNat (addI .u32 v84 r85)) fun (v94 : List Int) =>
 k1 x25 x26 x27 x28 x29 x30 x31 x32 x33 x34 x35 x36 v94 x37.length)
def Zdl (x25 : Str) (x26 x27 x28 x29 x30 : Int) (x31 x32 x33 x34 x35 x36 x37 : List Int) : Nat := 1
def Z62 (g0 : Zq) : Piece := { T := Zg3, shapes := Zg2, step := fun R x next k => Z7j g0 R (x.1.2.1) (x.1.2.2.2.1) (x.1.2.2.2.2.1) (x.1.2.2.2.2.2.1) (x.2.1.1) (x.2.1.2.1) (x.2.1.2.2.1) (x.2.1.2.2.2.1) (x.2.1.2.2.2.2.1) (x.2.1.2.2.2.2.2.1) (x.2.1.2.2.2.2.2.2.2.1) (x.2.2.2.1.1) (x.2.2.2.2.1.1) (fun z0 z1 z2 z3 z4 z5 z6 z7 z8 z9 z10 z11 z12 => k.1 (z0, z1, z2, z3, z4, z5, z6, z7, z8, z9, z10, z11, z12)) (fun z0 z1 z2 z3 z4 z5 z6 z7 z8 z9 z10 z11 z12 z13 => k.2.1 (z0, z1, z2, z3, z4, z5, z6, z7, z8, z9, z10, z11, z12, z13)), fuel := fun x => Zdl (x.1.2.1) (x.1.2.2.2.1) (x.1.2.2.2.2.1) (x.1.2.2.2.2.2.1) (x.2.1.1) (x.2.1.2.1) (x.2.1.2.2.1) (x.2.1.2.2.2.1) (x.2.1.2.2.2.2.1) (x.2.1.2.2.2.2.2.1) (x.2.1.2.2.2.2.2.2.2.1) (x.2.2.2.1.1) (x.2.2.2.2.1.1) }
def Zh5 (g0 : Zq) (R : Type) (x25 : Str) (x26 x27 x28 x29 x30 : Int) (x31 x32 x33 x34 x35 x36 x37 : List Int) (k0 : Str → Int → Int → Int → Int → Int → (List Int) → (List Int) → (List Int) → (List Int) → (List Int) → (List Int) → (List Int) → Option R) (k1 : Str → Int → Int → Int → Int → Int → (List Int) → (List Int) → (List Int) → (List Int) → (List Int) → (List Int) → (List Int) → Nat → Option R) : Option R :=
 runP Zg3 Zg2 (Z62 g0).step R (Zdl x25 x26 x27 x28 x29 x30 x31 x32 x33 x34 x35 x36 x37) (((), x25, (), x26, x27, x28, ()), ((x29, x30, x31, x32, x33, x34, (), x35, ()), ((), ()), (x36, ()), (x37, ()), ())) (fun r => k0 (r.1) (r.2.1) (r.2.2.1) (r.2.2.2.1) (r.2.2.2.2.1) (r.2.2.2.2.2.1) (r.2.2.2.2.2.2.1) (r.2.2.2.2.2.2.2.1) (r.2.2.2.2.2.2.2.2.1) (r.2.2.2.2.2.2.2.2.2.1) (r.2.2.2.2.2.2.2.2.2.2.1) (r.2.2.2.2.2.2.2.2.2.2.2.1) (r.2.2.2.2.2.2.2.2.2.2.2.2), fun r => k1 (r.1) (r.2.1) (r.2.2.1) (r.2.2.2.1) (r.2.2.2.2.1) (r.2.2.2.2.2.1) (r.2.2.2.2.2.2.1) (r.2.2.2.2.2.2.2.1) (r.2.2.2.2.2.2.2.2.1) (r.2.2.2.2.2.2.2.2.2.1) (r.2.2.2.2.2.2.2.2.2.2.1) (r.2.2.2.2.2.2.2.2.2.2.2.1) (r.2.2.2.2.2.2.2.2.2.2.2.2.1) (r.2.2.2.2.2.2.2.2.2.2.2.2.2), ())
def Z9l : StK := ⟨[(0, .sc (.ptr 0 0 0 0 0)), (1, .sc (.s)), (5, .sc (.sl 3 1 none)), (6, .sc (.i .i64)), (20, .sc (.i .i64)), (21, .sc (.i .i64))], [(true, [.one (.i .i64), .one (.i .i64), .ints .i64 (some 3), .ints .i64 (some 3), .ints .i64 (some 3), .ints .i64 (some 3), .one (.fn Zd [1]), .ints .u32 (some 8)]), (false, [.one (.ptr 2 0 0 0 0)]), (true, [.ints .u64 (some 80)]), (true, [.ints .u32 none])]⟩
def Z9k : List PShape := [⟨Int × Int × (List Int) × (List Int) × (List Int) × (List Int) × (List Int) × (List Int) × (List Int), fun r => (.exit 0, ⟨[(5, .c (.sc (.slice 3 1 none none)))], [(0, ⟨true, [.one (.int .i64 r.1), .one (.int .i64 r.2.1), .ints .i64 r.2.2.1 3, .ints .i64 r.2.2.2.1 3, .ints .i64 r.2.2.2.2.1 3, .ints .i64 r.2.2.2.2.2.1 3, .one (.fn Zd [1]), .ints .u32 r.2.2.2.2.2.2.1 8]⟩), (1, ⟨false, [.one (.ptr 2 0 0 0 0)]⟩), (2, ⟨true, [.ints .u64 r.2.2.2.2.2.2.2.1 80]⟩), (3, ⟨true, [.ints .u32 r.2.2.2.2.2.2.2.2 r.2.2.2.2.2.2.2.2.length]⟩)], 4⟩)⟩]
def Z7n (g0 : Zq) (R : Type) (x12 : Str) (x13 x14 x15 x16 x17 : Int) (x18 x19 x20 x21 x22 x23 x24 : List Int) (next : Str → Int → Int → Int → Int → Int → (List Int) → (List Int) → (List Int) → (List Int) → (List Int) → (List Int) → (List Int) → Option R) (k0 : Int → Int → (List Int) → (List Int) → (List Int) → (List Int) → (List Int) → (List Int) → (List Int) → Option R) : Option R :=
 br (ltI x15 x14)
 (Zh5 g0 R x12 x13 x14 x15 x16 x17 x18 x19 x20 x21 x22 x23 x24
 (fun y95 y96 y97 y98 y99 y100 y101 y102 y103 y104 y105 y106 y107 =>
 next y95 y96 y97 (addI .i64 y98 1) y99 y100 y101 y102 y103 y104 y105 y106 y107)
 (fun y108 y109 y110 y111 y112 y113 y114 y115 y116 y117 y118 y119 y120 y121 =>
 next y108 y109 y110 (addI .i64 y111 1) y112 y113 y114 y115 y116 y117 y118 y119 y120))
 (k0 x16 x17 x18 x19 x20 x21 x22 x23 x24)
def Z4j (x12 : Str) (x13 x14 x15 x16 x17 : Int) (x18 x19 x20 x21 x22 x23 x24 : List Int) : Nat := 100000 + (x12.length + x13.toNat + x14.toNat + x15.toNat + x16.toNat + x17.toNat + x18.length + x19.length + x20.length + x21.length + x22.length + x23.length + x24.length)
def Z41 (g0 : Zq) : Piece := { T := Z9l, shapes := Z9k, step := fun R x next k => Z7n g0 R (x.1.2.1) (x.1.2.2.2.1) (x.1.2.2.2.2.1) (x.1.2.2.2.2.2.1) (x.2.1.1) (x.2.1.2.1) (x.2.1.2.2.1) (x.2.1.2.2.2.1) (x.2.1.2.2.2.2.1) (x.2.1.2.2.2.2.2.1) (x.2.1.2.2.2.2.2.2.2.1) (x.2.2.2.1.1) (x.2.2.2.2.1.1) (fun x12 x13 x14 x15 x16 x17 x18 x19 x20 x21 x22 x23 x24 => next (((), x12, (), x13, x14, x15, ()), ((x16, x17, x18, x19, x20, x21, (), x22, ()), ((), ()), (x23, ()), (x24, ()), ()))) (fun z0 z1 z2 z3 z4 z5 z6 z7 z8 => k.1 (z0, z1, z2, z3, z4, z5, z6, z7, z8)), fuel := fun x => Z4j (x.1.2.1) (x.1.2.2.2.1) (x.1.2.2.2.2.1) (x.1.2.2.2.2.2.1) (x.2.1.1) (x.2.1.2.1) (x.2.1.2.2.1) (x.2.1.2.2.2.1) (x.2.1.2.2.2.2.1) (x.2.1.2.2.2.2.2.1) (x.2.1.2.2.2.2.2.2.2.1) (x.2.2.2.1.1) (x.2.2.2.2.1.1) }
def Zhl (g0 : Zq) (R : Type) (x12 : Str) (x13 x14 x15 x16 x17 : Int) (x18 x19 x20 x21 x22 x23 x24 : List Int) (k0 : Int → Int → (List Int) → (List Int) → (List Int) → (List Int) → (List Int) → (List Int) → (List Int) → Option R) : Option R :=
 runP Z9l Z9k (Z41 g0).step R (Z4j x12 x13 x14 x15 x16 x17 x18 x19 x20 x21 x22 x23 x24) (((), x12, (), x13, x14, x15, ()), ((x16, x17, x18, x19, x20, x21, (), x22, ()), ((), ()), (x23, ()), (x24, ()), ())) (fun r => k0 (r.1) (r.2.1) (r.2.2.1) (r.2.2.2.1) (r.2.2.2.2.1) (r.2.2.2.2.2.1) (r.2.2.2.2.2.2.1) (r.2.2.2.2.2.2.2.1) (r.2.2.2.2.2.2.2.2), ())
abbrev Z11 := (R : Type) → Str → Int → Int → (List Int) → (List Int) → (List Int) → (List Int) → (List Int) → (List Int) → (Int → Int → (List Int) → (List Int) → (List Int) → (List Int) → (List Int) → (List Int) → (List Int) → Option R) → Option R
def Zbm (g0 : Zq) (R : Type) (a1 : Str) (a2 a3 : Int) (a4 a5 a6 a7 a8 a9 : List Int) (k0 : Int → Int → (List Int) → (List Int) → (List Int) → (List Int) → (List Int) → (List Int) → (List Int) → Option R) : Option R :=
 gd (makeB a3 4) <|
 gd (leB a3 a3.toNat) <|
 lett (List.replicate a3.toNat (0 : Int)) fun (v10 : List Int) =>
 lett (((v10.length : Nat) : Int)) fun (v11 : Int) =>
 Zhl g0 R a1 (quoI .i64 a2 8) v11 0 a2 a3 a4 a5 a6 a7 a8 a9 v10 fun y122 y123 y124 y125 y126 y127 y128 y129 y130 =>
 k0 y122 y123 y124 y125 y126 y127 y128 y129 y130
def Zo : Z11 := Zbm Zi
abbrev Z13 := (R : Type) → Int → (List Int) → Int → Int → (List Int) → (List Int) → (List Int) → (List Int) → (List Int) → (List Int) → (Int → Int → Int → (List Int) → (List Int) → (List Int) → (List Int) → (List Int) → (List Int) → Option R) → Option R
def Zbh (g0 : Z3i) (R : Type) (a1 : Int) (a2 : List Int) (a3 a4 : Int) (a5 a6 a7 a8 a9 a10 : List Int) (k0 : Int → Int → Int → (List Int) → (List Int) → (List Int) → (List Int) → (List Int) → (List Int) → Option R) : Option R :=
 g0 R a1 (a2.getD 0 0) a3 a4 a5 a6 a7 a8 a9 a10 fun r11 r12 r13 r14 r15 r16 r17 r18 r19 =>
 g0 R a1 (a2.getD 1 0) a3 a4 a5 a6 a7 a8 a9 a10 fun r20 r21 r22 r23 r24 r25 r26 r27 r28 =>
 g0 R a1 (a2.getD 2 0) a3 a4 a5 a6 a7 a8 a9 a10 fun r29 r30 r31 r32 r33 r34 r35 r36 r37 =>
 lett (xorI .u32 (xorI .u32 r11 r20) r29) fun (v38 : Int) =>
 k0 v38 a3 a4 a5 a6 a7 a8 a9 a10
def Zp : Z13 := Zbh Z2s
abbrev Z28 := (R : Type) → Int → (List Int) → (Int → (List Int) → Option R) → Option R
def Zk9 (R : Type) (a1 : Int) (a2 : List Int) (k0 : Int → (List Int) → Option R) : Option R :=
 gd (inB a1 80) <|
 lett (shrI .u64 (a2.getD a1.toNat 0) 32) fun (v3 : Int) =>
 k0 (cvtI .u32 v3) a2
def Z1j : Z28 := Zk9
def Z9e : StK := ⟨[(0, .sc (.ptr 0 0 0 0 0)), (4, .sc (.ptr 3 0 0 0 0)), (6, .sc (.ptr 4 0 0 0 0)), (7, .sc (.ptr 5 0 0 0 0)), (18, .sc (.sl 6 1 none)), (19, .sc (.i .i64)), (20, .sc (.i .i64))], [(true, [.one (.i .i64), .one (.i .i64), .ints .i64 (some 3), .ints .i64 (some 3), .ints .i64 (some 3), .ints .i64 (some 3), .one (.fn Zd [1]), .ints .u32 (some 8)]), (false, [.one (.ptr 2 0 0 0 0)]), (true, [.ints .u64 (some 80)]), (true, [.ints .u32 (some 8)]), (true, [.ints .u32 (some 8)]), (true, [.ints .u32 (some 8)]), (true, [.ints .u32 none])]⟩
def Z9m : List PShape := [⟨Int × Int × (List Int) × (List Int) × (List Int) × (List Int) × (List Int) × (List Int) × (List Int) × (List Int) × (List Int), fun r => (.exit 0, ⟨[(4, .c (.sc (.ptr 3 0 0 0 0))), (6, .c (.sc (.ptr 4 0 0 0 0))), (7, .c (.sc (.ptr 5 0 0 0 0)))], [(0, ⟨true, [.one (.int .i64 r.1), .one (.int .i64 r.2.1), .ints .i64 r.2.2.1 3, .ints .i64 r.2.2.2.1 3, .ints .i64 r.2.2.2.2.1 3, .ints .i64 r.2.2.2.2.2.1 3, .one (.fn Zd [1]), .ints .u32 r.2.2.2.2.2.2.1 8]⟩), (1, ⟨false, [.one (.ptr 2 0 0 0 0)]⟩), (2, ⟨true, [.ints .u64 r.2.2.2.2.2.2.2.1 80]⟩), (3, ⟨true, [.ints .u32 r.2.2.2.2.2.2.2.2.1 8]⟩), (4, ⟨true, [.ints .u32 r.2.2.2.2.2.2.2.2.2.1 8]⟩), (5, ⟨true, [.ints .u32 r.2.2.2.2.2.2.2.2.2.2 8]⟩)], 6⟩)⟩]
def Z7r (g0 : Z11) (g1 : Z13) (g2 : Z28) (R : Type) (x23 x24 x25 x26 : Int) (x27 x28 x29 x30 x31 x32 x33 x34 x35 x36 : List Int) (next : Int → Int → Int → Int → (List Int) → (List Int) → (List Int) → (List Int) → (List Int) → (List Int) → (List Int) → (List Int) → (List Int) → (List Int) → Option R) (k0 : Int → Int → (List Int) → (List Int) → (List Int) → (List Int) → (List Int) → (List Int) → (List Int) → (List Int) → (List Int) → Option R) : Option R :=
 br (ltI x24 x23)
 (gd (inB x24 x36.length) <|
 lett (andI .u32 (x35.getD 4 0) (x35.getD 5 0)) fun (v37 : Int) =>
 lett (andI .u32 (notI .u32 (x35.getD 4 0)) (x35.getD 6 0)) fun (v38 : Int) =>
 g1 R (x35.getD 4 0) x29 x25 x26 x27 x28 x29 x30 x31 x32 fun r39 r40 r41 r42 r43 r44 r45 r46 r47 =>
 lett (addI .u32 (x35.getD 7 0) r39) fun (v48 : Int) =>
 lett (addI .u32 v48 (xorI .u32 v37 v38)) fun (v49 : Int) =>
 g2 R x24 x32 fun r50 r51 =>
 lett (addI .u32 (addI .u32 v49 r50) (x36.getD x24.toNat 0)) fun (v52 : Int) =>
 lett (andI .u32 (x35.getD 0 0) (x35.getD 1 0)) fun (v53 : Int) =>
 lett (andI .u32 (x35.getD 0 0) (x35.getD 2 0)) fun (v54 : Int) =>
 lett (andI .u32 (x35.getD 1 0) (x35.getD 2 0)) fun (v55 : Int) =>
 lett (xorI .u32 (xorI .u32 v53 v54) v55) fun (v56 : Int) =>
 g1 R (x35.getD 0 0) x30 x25 x26 x27 x28 x29 x30 x31 x32 fun r57 r58 r59 r60 r61 r62 r63 r64 r65 =>
 lett (addI .u32 v52 (addI .u32 r57 v56)) fun (v66 : Int) =>
 lett (addI .u32 (x35.getD 3 0) v52) fun (v67 : Int) =>
 lett (((((((((List.replicate 8 (0 : Int)).set 0 v66).set 1 (x35.getD 0 0)).set 2 (x35.getD 1 0)).set 3 (x35.getD 2 0)).set 4 v67).set 5 (x35.getD 4 0)).set 6 (x35.getD 5 0)).set 7 (x35.getD 6 0)) fun (v68 : List Int) =>
 next x23 (addI .i64 x24 1) x25 x26 x27 x28 x29 x30 x31 x32 x33 x34 v68 x36)
 (k0 x25 x26 x27 x28 x29 x30 x31 x32 x33 x34 x35)
def Z4n (x23 x24 x25 x26 : Int) (x27 x28 x29 x30 x31 x32 x33 x34 x35 x36 : List Int) : Nat := 100000 + (x23.toNat + x24.toNat + x25.toNat + x26.toNat + x27.length + x28.length + x29.length + x30.length + x31.length + x32.length + x33.length + x34.length + x35.length + x36.length)
def Z42 (g0 : Z11) (g1 : Z13) (g2 : Z28) : Piece := { T := Z9e, shapes := Z9m, step := fun R x next k => Z7r g0 g1 g2 R (x.1.2.2.2.2.2.1) (x.1.2.2.2.2.2.2.1) (x.2.1.1) (x.2.1.2.1) (x.2.1.2.2.1) (x.2.1.2.2.2.1) (x.2.1.2.2.2.2.1) (x.2.1.2.2.2.2.2.1) (x.2.1.2.2.2.2.2.2.2.1) (x.2.2.2.1.1) (x.2.2.2.2.1.1) (x.2.2.2.2.2.1.1) (x.2.2.2.2.2.2.1.1) (x.2.2.2.2.2.2.2.1.1) (fun x23 x24 x25 x26 x27 x28 x29 x30 x31 x32 x33 x34 x35 x36 => next (((), (), (), (), (), x23, x24, ()), ((x25, x26, x27, x28, x29, x30, (), x31, ()), ((), ()), (x32, ()), (x33, ()), (x34, ()), (x35, ()), (x36, ()), ()))) (fun z0 z1 z2 z3 z4 z5 z6 z7 z8 z9 z10 => k.1 (z0, z1, z2, z3, z4, z5, z6, z7, z8, z9, z10)), fuel := fun x => Z4n (x.1.2.2.2.2.2.1) (x.1.2.2.2.2.2.2.1) (x.2.1.1) (x.2.1.2.1) (x.2.1.2.2.1) (x.2.1.2.2.2.1) (x.2.1.2.2.2.2.1) (x.2.1.2.2.2.2.2.1) (x.2.1.2.2.2.2.2.2.2.1) (x.2.2.2.1.1) (x.2.2.2.2.1.1) (x.2.2.2.2.2.1.1) (x.2.2.2.2.2.2.1.1) (x.2.2.2.2.2.2.2.1.1) }
def Zhd (g0 : Z11) (g1 : Z13) (g2 : Z28) (R : Type) (x23 x24 x25 x26 : Int) (x27 x28 x29 x30 x31 x32 x33 x34 x35 x36 : List Int) (k0 : Int → Int → (List Int) → (List Int) → (List Int) → (List Int) → (List Int) → (List Int) → (List Int) → (List Int) → (List Int) → Option R) : Option R :=
 runP Z9e Z9m (Z42 g0 g1 g2).step R (Z4n x23 x24 x25 x26 x27 x28 x29 x30 x31 x32 x33 x34 x35 x36) (((), (), (), (), (), x23, x24, ()), ((x25, x26, x27, x28, x29, x30, (), x31, ()), ((), ()), (x32, ()), (x33, ()), (x34, ()), (x35, ()), (x36, ()), ())) (fun r => k0 (r.1) (r.2.1) (r.2.2.1) (r.2.2.2.1) (r.2.2.2.2.1) (r.2.2.2.2.2.1) (r.2.2.2.2.2.2.1) (r.2.2.2.2.2.2.2.1) (r.2.2.2.2.2.2.2.2.1) (r.2.2.2.2.2.2.2.2.2.1) (r.2.2.2.2.2.2.2.2.2.2), ())
def Z9o : StK := ⟨[(4, .sc (.ptr 3 0 0 0 0)), (6, .sc (.ptr 4 0 0 0 0)), (7, .sc (.ptr 5 0 0 0 0)), (103, .sc (.i .i64))], [(true, [.one (.i .i64), .one (.i .i64), .ints .i64 (some 3), .ints .i64 (some 3), .ints .i64 (some 3), .ints .i64 (some 3), .one (.fn Zd [1]), .ints .u32 (some 8)]), (false, [.one (.ptr 2 0 0 0 0)]), (true, [.ints .u64 (some 80)]), (true, [.ints .u32 (some 8)]), (true, [.ints .u32 (some 8)]), (true, [.ints .u32 (some 8)])]⟩
def Z9v : List PShape := [⟨Int × Int × (List Int) × (List Int) × (List Int) × (List Int) × (List Int) × (List Int) × (List Int) × (List Int), fun r => (.exit 2, ⟨[(4, .c (.sc (.ptr 3 0 0 0 0))), (6, .c (.sc (.ptr 4 0 0 0 0)))], [(0, ⟨true, [.one (.int .i64 r.1), .one (.int .i64 r.2.1), .ints .i64 r.2.2.1 3, .ints .i64 r.2.2.2.1 3, .ints .i64 r.2.2.2.2.1 3, .ints .i64 r.2.2.2.2.2.1 3, .one (.fn Zd [1]), .ints .u32 r.2.2.2.2.2.2.1 8]⟩), (1, ⟨false, [.one (.ptr 2 0 0 0 0)]⟩), (2, ⟨true, [.ints .u64 r.2.2.2.2.2.2.2.1 80]⟩), (3, ⟨true, [.ints .u32 r.2.2.2.2.2.2.2.2.1 8]⟩), (4, ⟨true, [.ints .u32 r.2.2.2.2.2.2.2.2.2 8]⟩)], 5⟩)⟩]
def Z7l (g0 : Z11) (g1 : Z13) (g2 : Z28) (R : Type) (x80 x81 x82 : Int) (x83 x84 x85 x86 x87 x88 x89 x90 x91 : List Int) (next : Int → Int → Int → (List Int) → (List Int) → (List Int) → (List Int) → (List Int) → (List Int) → (List Int) → (List Int) → (List Int) → Option R) (k0 : Int → Int → (List Int) → (List Int) → (List Int) → (List Int) → (List Int) → (List Int) → (List Int) → (List Int) → Option R) : Option R :=
 br (ltI x80 8)
 (gd (inB x80 8) <|
 gd (inB x80 8) <|
 lett (addI .u32 (x89.getD x80.toNat 0) (x91.getD x80.toNat 0)) fun (v92 : Int) =>
 gd (inB x80 8) <|
 next (addI .i64 x80 1) x81 x82 x83 x84 x85 x86 x87 x88 (x89.set x80.toNat v92) x90 x91)
 (k0 x81 x82 x83 x84 x85 x86 x87 x88 x89 x90)
def Z4l (x80 x81 x82 : Int) (x83 x84 x85 x86 x87 x88 x89 x90 x91 : List Int) : Nat := 100000 + (x80.toNat + x81.toNat + x82.toNat + x83.length + x84.length + x85.length + x86.length + x87.length + x88.length + x89.length + x90.length + x91.length)
def Z40 (g0 : Z11) (g1 : Z13) (g2 : Z28) : Piece := { T := Z9o, shapes := Z9v, step := fun R x next k => Z7l g0 g1 g2 R (x.1.2.2.2.1) (x.2.1.1) (x.2.1.2.1) (x.2.1.2.2.1) (x.2.1.2.2.2.1) (x.2.1.2.2.2.2.1) (x.2.1.2.2.2.2.2.1) (x.2.1.2.2.2.2.2.2.2.1) (x.2.2.2.1.1) (x.2.2.2.2.1.1) (x.2.2.2.2.2.1.1) (x.2.2.2.2.2.2.1.1) (fun x80 x81 x82 x83 x84 x85 x86 x87 x88 x89 x90 x91 => next (((), (), (), x80, ()), ((x81, x82, x83, x84, x85, x86, (), x87, ()), ((), ()), (x88, ()), (x89, ()), (x90, ()), (x91, ()), ()))) (fun z0 z1 z2 z3 z4 z5 z6 z7 z8 z9 => k.1 (z0, z1, z2, z3, z4, z5, z6, z7, z8, z9)), fuel := fun x => Z4l (x.1.2.2.2.1) (x.2.1.1) (x.2.1.2.1) (x.2.1.2.2.1) (x.2.1.2.2.2.1) (x.2.1.2.2.2.2.1) (x.2.1.2.2.2.2.2.1) (x.2.1.2.2.2.2.2.2.2.1) (x.2.2.2.1.1) (x.2.2.2.2.1.1) (x.2.2.2.2.2.1.1) (x.2.2.2.2.2.2.1.1) }
def Zhc (g0 : Z11) (g1 : Z13) (g2 : Z28) (R : Type) (x80 x81 x82 : Int) (x83 x84 x85 x86 x87 x88 x89 x90 x91 : List Int) (k0 : Int → Int → (List Int) → (List Int) → (List Int) → (List Int) → (List Int) → (List Int) → (List Int) → (List Int) → Option R) : Option R :=
 runP Z9o Z9v (Z40 g0 g1 g2).step R (Z4l x80 x81 x82 x83 x84 x85 x86 x87 x88 x89 x90 x91) (((), (), (), x80, ()), ((x81, x82, x83, x84, x85, x86, (), x87, ()), ((), ()), (x88, ()), (x89, ()), (x90, ()), (x91, ()), ())) (fun r => k0 (r.1) (r.2.1) (r.2.2.1) (r.2.2.2.1) (r.2.2.2.2.1) (r.2.2.2.2.2.1) (r.2.2.2.2.2.2.1) (r.2.2.2.2.2.2.2.1) (r.2.2.2.2.2.2.2.2.1) (r.2.2.2.2.2.2.2.2.2), ())
abbrev Za := (R : Type) → (List Int) → Str → Int → Int → (List Int) → (List Int) → (List Int) → (List Int) → (List Int) → (List Int) → ((List Int) → Int → Int → (List Int) → (List Int) → (List Int) → (List Int) → (List Int) → (List Int) → Option R) → Option R
def Zbk (g0 : Z11) (g1 : Z13) (g2 : Z28) (R : Type) (a1 : List Int) (a2 : Str) (a3 a4 : Int) (a5 a6 a7 a8 a9 a10 : List Int) (k0 : (List Int) → Int → Int → (List Int) → (List Int) → (List Int) → (List Int) → (List Int) → (List Int) → Option R) : Option R :=
 lett (List.replicate 8 (0 : Int)) fun (v11 : List Int) =>
 lett (List.replicate 8 (0 : Int)) fun (v12 : List Int) =>
 g0 R a2 a3 a4 a5 a6 a7 a8 a9 a10 fun r13 r14 r15 r16 r17 r18 r19 r20 r21 =>
 lett (((r21.length : Nat) : Int)) fun (v22 : Int) =>
 Zhd g0 g1 g2 R v22 0 r13 r14 r15 r16 r17 r18 r19 r20 a1 v11 a1 r21 fun y69 y70 y71 y72 y73 y74 y75 y76 y77 y78 y79 =>
 Zhc g0 g1 g2 R 0 y69 y70 y71 y72 y73 y74 y75 y76 y77 y78 y79 fun y93 y94 y95 y96 y97 y98 y99 y100 y101 y102 =>
 k0 y101 y93 y94 y95 y96 y97 y98 y99 y100
def Z0 : Za := Zbk Zo Zp Z1j
def Zck : StK := ⟨[(0, .sc (.ptr 0 0 0 0 0)), (1, .sc (.s)), (5, .sc (.sl 3 1 none))], [(true, [.one (.i .i64), .one (.i .i64), .ints .i64 (some 3), .ints .i64 (some 3), .ints .i64 (some 3), .ints .i64 (some 3), .one (.fn Zd [1]), .ints .u32 (some 8)]), (false, [.one (.ptr 2 0 0 0 0)]), (true, [.ints .u64 (some 80)]), (true, [.bytes none])]⟩
def Zcb : List PShape := [⟨Str × Int × Int × (List Int) × (List Int) × (List Int) × (List Int) × (List Int) × (List Int) × Str, fun r => (.exit 0, ⟨[(0, .c (.sc (.ptr 0 0 0 0 0))), (1, .c (.sc (.str r.1))), (5, .c (.sc (.slice 3 1 none none)))], [(0, ⟨true, [.one (.int .i64 r.2.1), .one (.int .i64 r.2.2.1), .ints .i64 r.2.2.2.1 3, .ints .i64 r.2.2.2.2.1 3, .ints .i64 r.2.2.2.2.2.1 3, .ints .i64 r.2.2.2.2.2.2.1 3, .one (.fn Zd [1]), .ints .u32 r.2.2.2.2.2.2.2.1 8]⟩), (1, ⟨false, [.one (.ptr 2 0 0 0 0)]⟩), (2, ⟨true, [.ints .u64 r.2.2.2.2.2.2.2.2.1 80]⟩), (3, ⟨true, [.bytes r.2.2.2.2.2.2.2.2.2 r.2.2.2.2.2.2.2.2.2.length]⟩)], 4⟩)⟩]
def Zaf (g0 : Zb) (g1 : Za) (R : Type) (x10 : Str) (x11 x12 : Int) (x13 x14 x15 x16 x17 x18 : List Int) (x19 : Str) (next : Str → Int → Int → (List Int) → (List Int) → (List Int) → (List Int) → (List Int) → (List Int) → Str → Option R) (k0 : Str → Int → Int → (List Int) → (List Int) → (List Int) → (List Int) → (List Int) → (List Int) → Str → Option R) : Option R :=
 lett (((x19.length : Nat) : Int)) fun (v20 : Int) =>
 lett (addI .i64 v20 (quoI .i64 x11 4)) fun (v21 : Int) =>
 g0 R x11 x12 x13 x14 x15 x16 x17 x18 fun r22 r23 r24 r25 r26 r27 r28 r29 r30 =>
 gd (!(eqI r22 0)) <|
 br (!(eqI (remI v21 r22) 0))
 (gd (appB x19.length 1 1) <|
 next x10 x11 x12 x13 x14 x15 x16 x17 x18 (x19 ++ ([0] : Str)))
 (k0 x10 x11 x12 x13 x14 x15 x16 x17 x18 x19)
def Z64 (x10 : Str) (x11 x12 : Int) (x13 x14 x15 x16 x17 x18 : List Int) (x19 : Str) : Nat := 100000 + (x10.length + x11.toNat + x12.toNat + x13.length + x14.length + x15.length + x16.length + x17.length + x18.length + x19.length)
def Z5k (g0 : Zb) (g1 : Za) : Piece := { T := Zck, shapes := Zcb, step := fun R x next k => Zaf g0 g1 R (x.1.2.1) (x.2.1.1) (x.2.1.2.1) (x.2.1.2.2.1) (x.2.1.2.2.2.1) (x.2.1.2.2.2.2.1) (x.2.1.2.2.2.2.2.1) (x.2.1.2.2.2.2.2.2.2.1) (x.2.2.2.1.1) (x.2.2.2.2.1.1) (fun x10 x11 x12 x13 x14 x15 x16 x17 x18 x19 => next (((), x10, (), ()), ((x11, x12, x13, x14, x15, x16, (), x17, ()), ((), ()), (x18, ()), (x19, ()), ()))) (fun z0 z1 z2 z3 z4 z5 z6 z7 z8 z9 => k.1 (z0, z1, z2, z3, z4, z5, z6, z7, z8, z9)), fuel := fun x => Z64 (x.1.2.1) (x.2.1.1) (x.2.1.2.1) (x.2.1.2.2.1) (x.2.1.2.2.2.1) (x.2.1.2.2.2.2.1) (x.2.1.2.2.2.2.2.1) (x.2.1.2.2.2.2.2.2.2.1) (x.2.2.2.1.1) (x.2.2.2.2.1.1) }
def Zl5 (g0 : Zb) (g1 : Za) (R : Type) (x10 : Str) (x11 x12 : Int) (x13 x14 x15 x16 x17 x18 : List Int) (x19 : Str) (k0 : Str → Int → Int → (List Int) → (List Int) → (List Int) → (List Int) → (List Int) → (List Int) → Str → Option R) : Option R :=
 runP Zck Zcb (Z5k g0 g1).step R (Z64 x10 x11 x12 x13 x14 x15 x16 x17 x18 x19) (((), x10, (), ()), ((x11, x12, x13, x14, x15, x16, (), x17, ()), ((), ()), (x18, ()), (x19, ()), ())) (fun r => k0 (r.1) (r.2.1) (r.2.2.1) (r.2.2.2.1) (r.2.2.2.2.1) (r.2.2.2.2.2.1) (r.2.2.2.2.2.2.1) (r.2.2.2.2.2.2.2.1) (r.2.2.2.2.2.2.2.2.1) (r.2.2.2.2.2.2.2.2.2), ())
def Zcm : StK := ⟨[(0, .sc (.ptr 0 0 0 0 0)), (1, .sc (.s)), (5, .sc (.sl 3 1 none)), (6, .sc (.i .i64))], [(true, [.one (.i .i64), .one (.i .i64), .ints .i64 (some 3), .ints .i64 (some 3), .ints .i64 (some 3), .ints .i64 (some 3), .one (.fn Zd [1]), .ints .u32 (some 8)]), (false, [.one (.ptr 2 0 0 0 0)]), (true, [.ints .u64 (some 80)]), (true, [.bytes none])]⟩
def Zcn : List PShape := [⟨Int × Int × (List Int) × (List Int) × (List Int) × (List Int) × (List Int) × (List Int) × Str, fun r => (.exit 2, ⟨[(0, .c (.sc (.ptr 0 0 0 0 0))), (5, .c (.sc (.slice 3 1 none none)))], [(0, ⟨true, [.one (.int .i64 r.1), .one (.int .i64 r.2.1), .ints .i64 r.2.2.1 3, .ints .i64 r.2.2.2.1 3, .ints .i64 r.2.2.2.2.1 3, .ints .i64 r.2.2.2.2.2.1 3, .one (.fn Zd [1]), .ints .u32 r.2.2.2.2.2.2.1 8]⟩), (1, ⟨false, [.one (.ptr 2 0 0 0 0)]⟩), (2, ⟨true, [.ints .u64 r.2.2.2.2.2.2.2.1 80]⟩), (3, ⟨true, [.bytes r.2.2.2.2.2.2.2.2 r.2.2.2.2.2.2.2.2.length]⟩)], 4⟩)⟩]
def Zam (g0 : Zb) (g1 : Za) (R : Type) (x42 : Str) (x43 x44 x45 : Int) (x46 x47 x48 x49 x50 x51 : List Int) (x52 : Str) (next : Str → Int → Int → Int → (List Int) → (List Int) → (List Int) → (List Int) → (List Int) → (List Int) → Str → Option R) (k0 : Int → Int → (List Int) → (List Int) → (List Int) → (List Int) → (List Int) → (List Int) → Str → Option R) : Option R :=
 br (leI 0 x43)
 (lett (((x42.length : Nat) : Int)) fun (v53 : Int) =>
 lett (mulI .u64 (cvtI .u64 v53) 8) fun (v54 : Int) =>
 gd (leI 0 (mulI .i64 8 x43)) <|
 lett (shrI .u64 v54 (mulI .i64 8 x43)) fun (v55 : Int) =>
 lett ([UInt8.ofNat ((cvtI .u8 v55).toNat)]) fun (v56 : Str) =>
 gd (appB x52.length v56.length 1) <|
 next x42 (subI .i64 x43 1) x44 x45 x46 x47 x48 x49 x50 x51 (x52 ++ v56))
 (k0 x44 x45 x46 x47 x48 x49 x50 x51 x52)
def Z6d (x42 : Str) (x43 x44 x45 : Int) (x46 x47 x48 x49 x50 x51 : List Int) (x52 : Str) : Nat := 100000 + (x42.length + x43.toNat + x44.toNat + x45.toNat + x46.length + x47.length + x48.length + x49.length + x50.length + x51.length + x52.length)
def Z5r (g0 : Zb) (g1 : Za) : Piece := { T := Zcm, shapes := Zcn, step := fun R x next k => Zam g0 g1 R (x.1.2.1) (x.1.2.2.2.1) (x.2.1.1) (x.2.1.2.1) (x.2.1.2.2.1) (x.2.1.2.2.2.1) (x.2.1.2.2.2.2.1) (x.2.1.2.2.2.2.2.1) (x.2.1.2.2.2.2.2.2.2.1) (x.2.2.2.1.1) (x.2.2.2.2.1.1) (fun x42 x43 x44 x45 x46 x47 x48 x49 x50 x51 x52 => next (((), x42, (), x43, ()), ((x44, x45, x46, x47, x48, x49, (), x50, ()), ((), ()), (x51, ()), (x52, ()), ()))) (fun z0 z1 z2 z3 z4 z5 z6 z7 z8 => k.1 (z0, z1, z2, z3, z4, z5, z6, z7, z8)), fuel := fun x => Z6d (x.1.2.1) (x.1.2.2.2.1) (x.2.1.1) (x.2.1.2.1) (x.2.1.2.2.1) (x.2.1.2.2.2.1) (x.2.1.2.2.2.2.1) (x.2.1.2.2.2.2.2.1) (x.2.1.2.2.2.2.2.2.2.1) (x.2.2.2.1.1) (x.2.2.2.2.1.1) }
def Zks (g0 : Zb) (g1 : Za) (R : Type) (x42 : Str) (x43 x44 x45 : Int) (x46 x47 x48 x49 x50 x51 : List Int) (x52 : Str) (k0 : Int → Int → (List Int) → (List Int) → (List Int) → (List Int) → (List Int) → (List Int) → Str → Option R) : Option R :=
 runP Zcm Zcn (Z5r g0 g1).step R (Z6d x42 x43 x44 x45 x46 x47 x48 x49 x50 x51 x52) (((), x42, (), x43, ()), ((x44, x45, x46, x47, x48, x49, (), x50, ()), ((), ()), (x51, ()), (x52, ()), ())) (fun r => k0 (r.1) (r.2.1) (r.2.2.1) (r.2.2.2.1) (r.2.2.2.2.1) (r.2.2.2.2.2.1) (r.2.2.2.2.2.2.1) (r.2.2.2.2.2.2.2.1) (r.2.2.2.2.2.2.2.2), ())
def Zcv : StK := ⟨[(0, .sc (.ptr 0 0 0 0 0)), (5, .sc (.sl 3 1 none)), (7, .sc (.ptr 4 0 0 0 0)), (8, .sc (.i .i64))], [(true, [.one (.i .i64), .one (.i .i64), .ints .i64 (some 3), .ints .i64 (some 3), .ints .i64 (some 3), .ints .i64 (some 3), .one (.fn Zd [1]), .ints .u32 (some 8)]), (false, [.one (.ptr 2 0 0 0 0)]), (true, [.ints .u64 (some 80)]), (true, [.bytes none]), (true, [.ints .u32 (some 8)])]⟩
def Zca : List PShape := [⟨Int × Int × (List Int) × (List Int) × (List Int) × (List Int) × (List Int) × (List Int) × (List Int), fun r => (.exit 4, ⟨[(0, .c (.sc (.ptr 0 0 0 0 0))), (7, .c (.sc (.ptr 3 0 0 0 0)))], [(0, ⟨true, [.one (.int .i64 r.1), .one (.int .i64 r.2.1), .ints .i64 r.2.2.1 3, .ints .i64 r.2.2.2.1 3, .ints .i64 r.2.2.2.2.1 3, .ints .i64 r.2.2.2.2.2.1 3, .one (.fn Zd [1]), .ints .u32 r.2.2.2.2.2.2.1 8]⟩), (1, ⟨false, [.one (.ptr 2 0 0 0 0)]⟩), (2, ⟨true, [.ints .u64 r.2.2.2.2.2.2.2.1 80]⟩), (3, ⟨true, [.ints .u32 r.2.2.2.2.2.2.2.2 8]⟩)], 4⟩)⟩]
def Zad (g0 : Zb) (g1 : Za) (R : Type) (x67 x68 x69 : Int) (x70 x71 x72 x73 x74 x75 : List Int) (x76 : Str) (x77 : List Int) (next : Int → Int → Int → (List Int) → (List Int) → (List Int) → (List Int) → (List Int) → (List Int) → Str → (List Int) → Option R) (k0 : Int → Int → (List Int) → (List Int) → (List Int) → (List Int) → (List Int) → (List Int) → (List Int) → Option R) : Option R :=
 lett (((x76.length : Nat) : Int)) fun (v78 : Int) =>
 br (ltI x67 v78)
 (g0 R x68 x69 x70 x71 x72 x73 x74 x75 fun r79 r80 r81 r82 r83 r84 r85 r86 r87 =>
 gd (leB (addI .i64 x67 r79) x76.length) <|
 gd (leB x67 ((addI .i64 x67 r79).toNat)) <|
 lett ((x76.drop (0 + x67.toNat)).take (((addI .i64 x67 r79).toNat) - x67.toNat)) fun (v88 : Str) =>
 g1 R x77 v88 x68 x69 x70 x71 x72 x73 x74 x75 fun r89 r90 r91 r92 r93 r94 r95 r96 r97 =>
 g0 R r90 r91 r92 r93 r94 r95 r96 r97 fun r98 r99 r100 r101 r102 r103 r104 r105 r106 =>
 next (addI .i64 x67 r98) r90 r91 r92 r93 r94 r95 r96 r97 x76 r89)
 (k0 x68 x69 x70 x71 x72 x73 x74 x75 x77)
def Z69 (x67 x68 x69 : Int) (x70 x71 x72 x73 x74 x75 : List Int) (x76 : Str) (x77 : List Int) : Nat := 100000 + (x67.toNat + x68.toNat + x69.toNat + x70.length + x71.length + x72.length + x73.length + x74.length + x75.length + x76.length + x77.length)
def Z5j (g0 : Zb) (g1 : Za) : Piece := { T := Zcv, shapes := Zca, step := fun R x next k => Zad g0 g1 R (x.1.2.2.2.1) (x.2.1.1) (x.2.1.2.1) (x.2.1.2.2.1) (x.2.1.2.2.2.1) (x.2.1.2.2.2.2.1) (x.2.1.2.2.2.2.2.1) (x.2.1.2.2.2.2.2.2.2.1) (x.2.2.2.1.1) (x.2.2.2.2.1.1) (x.2.2.2.2.2.1.1) (fun x67 x68 x69 x70 x71 x72 x73 x74 x75 x76 x77 => next (((), (), (), x67, ()), ((x68, x69, x70, x71, x72, x73, (), x74, ()), ((), ()), (x75, ()), (x76, ()), (x77, ()), ()))) (fun z0 z1 z2 z3 z4 z5 z6 z7 z8 => k.1 (z0, z1, z2, z3, z4, z5, z6, z7, z8)), fuel := fun x => Z69 (x.1.2.2.2.1) (x.2.1.1) (x.2.1.2.1) (x.2.1.2.2.1) (x.2.1.2.2.2.1) (x.2.1.2.2.2.2.1) (x.2.1.2.2.2.2.2.1) (x.2.1.2.2.2.2.2.2.2.1) (x.2.2.2.1.1) (x.2.2.2.2.1.1) (x.2.2.2.2.2.1.1) }
def Zl7 (g0 : Zb) (g1 : Za) (R : Type) (x67 x68 x69 : Int) (x70 x71 x72 x73 x74 x75 : List Int) (x76 : Str) (x77 : List Int) (k0 : Int → Int → (List Int) → (List Int) → (List Int) → (List Int) → (List Int) → (List Int) → (List Int) → Option R) : Option R :=
 runP Zcv Zca (Z5j g0 g1).step R (Z69 x67 x68 x69 x70 x71 x72 x73 x74 x75 x76 x77) (((), (), (), x67, ()), ((x68, x69, x70, x71, x72, x73, (), x74, ()), ((), ()), (x75, ()), (x76, ()), (x77, ()), ())) (fun r => k0 (r.1) (r.2.1) (r.2.2.1) (r.2.2.2.1) (r.2.2.2.2.1) (r.2.2.2.2.2.1) (r.2.2.2.2.2.2.1) (r.2.2.2.2.2.2.2.1) (r.2.2.2.2.2.2.2.2), ())
def Zcy : StK := ⟨[(0, .sc (.ptr 0 0 0 0 0)), (9, .sc (.sl 3 1 none)), (11, .sc (.i .u32)), (12, .sc (.i .i64)), (77, .agg [.ints .u32 (some 8)]), (78, .sc (.i .i64))], [(true, [.one (.i .i64), .one (.i .i64), .ints .i64 (some 3), .ints .i64 (some 3), .ints .i64 (some 3), .ints .i64 (some 3), .one (.fn Zd [1]), .ints .u32 (some 8)]), (false, [.one (.ptr 2 0 0 0 0)]), (true, [.ints .u64 (some 80)]), (true, [.bytes none])]⟩
def Zch : List PShape := [⟨(List Int) × Int × Int × Int × (List Int) × (List Int) × (List Int) × (List Int) × (List Int) × (List Int) × Str, fun r => (.exit 8, ⟨[(0, .c (.sc (.ptr 0 0 0 0 0))), (9, .c (.sc (.slice 3 1 none none))), (77, .c (.agg [.ints .u32 r.1 8])), (78, .c (.sc (.int .i64 r.2.1)))], [(0, ⟨true, [.one (.int .i64 r.2.2.1), .one (.int .i64 r.2.2.2.1), .ints .i64 r.2.2.2.2.1 3, .ints .i64 r.2.2.2.2.2.1 3, .ints .i64 r.2.2.2.2.2.2.1 3, .ints .i64 r.2.2.2.2.2.2.2.1 3, .one (.fn Zd [1]), .ints .u32 r.2.2.2.2.2.2.2.2.1 8]⟩), (1, ⟨false, [.one (.ptr 2 0 0 0 0)]⟩), (2, ⟨true, [.ints .u64 r.2.2.2.2.2.2.2.2.2.1 80]⟩), (3, ⟨true, [.bytes r.2.2.2.2.2.2.2.2.2.2 r.2.2.2.2.2.2.2.2.2.2.length]⟩)], 4⟩)⟩]
def Za9 (g0 : Zb) (g1 : Za) (R : Type) (x177 x178 : Int) (x179 : List Int) (x180 x181 x182 : Int) (x183 x184 x185 x186 x187 x188 : List Int) (x189 : Str) (next : Int → Int → (List Int) → Int → Int → Int → (List Int) → (List Int) → (List Int) → (List Int) → (List Int) → (List Int) → Str → Option R) (k0 : (List Int) → Int → Int → Int → (List Int) → (List Int) → (List Int) → (List Int) → (List Int) → (List Int) → Str → Option R) : Option R :=
 br (leI 0 x178)
 (gd (leI 0 x178) <|
 lett (cvtI .u8 (shrI .u32 x177 x178)) fun (v190 : Int) =>
 gd (appB x189.length ([UInt8.ofNat v190.toNat].length) 1) <|
 lett (x189 ++ [UInt8.ofNat v190.toNat]) fun (v191 : Str) =>
 next x177 (subI .i64 x178 8) x179 x180 x181 x182 x183 x184 x185 x186 x187 x188 v191)
 (k0 x179 x180 x181 x182 x183 x184 x185 x186 x187 x188 x189)
def Z6a (x177 x178 : Int) (x179 : List Int) (x180 x181 x182 : Int) (x183 x184 x185 x186 x187 x188 : List Int) (x189 : Str) : Nat := 100000 + (x177.toNat + x178.toNat + x179.length + x180.toNat + x181.toNat + x182.toNat + x183.length + x184.length + x185.length + x186.length + x187.length + x188.length + x189.length)
def Z5l (g0 : Zb) (g1 : Za) : Piece := { T := Zcy, shapes := Zch, step := fun R x next k => Za9 g0 g1 R (x.1.2.2.1) (x.1.2.2.2.1) (x.1.2.2.2.2.1.1) (x.1.2.2.2.2.2.1) (x.2.1.1) (x.2.1.2.1) (x.2.1.2.2.1) (x.2.1.2.2.2.1) (x.2.1.2.2.2.2.1) (x.2.1.2.2.2.2.2.1) (x.2.1.2.2.2.2.2.2.2.1) (x.2.2.2.1.1) (x.2.2.2.2.1.1) (fun x177 x178 x179 x180 x181 x182 x183 x184 x185 x186 x187 x188 x189 => next (((), (), x177, x178, (x179, ()), x180, ()), ((x181, x182, x183, x184, x185, x186, (), x187, ()), ((), ()), (x188, ()), (x189, ()), ()))) (fun z0 z1 z2 z3 z4 z5 z6 z7 z8 z9 z10 => k.1 (z0, z1, z2, z3, z4, z5, z6, z7, z8, z9, z10)), fuel := fun x => Z6a (x.1.2.2.1) (x.1.2.2.2.1) (x.1.2.2.2.2.1.1) (x.1.2.2.2.2.2.1) (x.2.1.1) (x.2.1.2.1) (x.2.1.2.2.1) (x.2.1.2.2.2.1) (x.2.1.2.2.2.2.1) (x.2.1.2.2.2.2.2.1) (x.2.1.2.2.2.2.2.2.2.1) (x.2.2.2.1.1) (x.2.2.2.2.1.1) }
def Zki (g0 : Zb) (g1 : Za) (R : Type) (x177 x178 : Int) (x179 : List Int) (x180 x181 x182 : Int) (x183 x184 x185 x186 x187 x188 : List Int) (x189 : Str) (k0 : (List Int) → Int → Int → Int → (List Int) → (List Int) → (List Int) → (List Int) → (List Int) → (List Int) → Str → Option R) : Option R :=
 runP Zcy Zch (Z5l g0 g1).step R (Z6a x177 x178 x179 x180 x181 x182 x183 x184 x185 x186 x187 x188 x189) (((), (), x177, x178, (x179, ()), x180, ()), ((x181, x182, x183, x184, x185, x186, (), x187, ()), ((), ()), (x188, ()), (x189, ()), ())) (fun r => k0 (r.1) (r.2.1) (r.2.2.1) (r.2.2.2.1) (r.2.2.2.2.1) (r.2.2.2.2.2.1) (r.2.2.2.2.2.2.1) (r.2.2.2.2.2.2.2.1) (r.2.2.2.2.2.2.2.2.1) (r.2.2.2.2.2.2.2.2.2.1) (r.2.2.2.2.2.2.2.2.2.2), ())
def Zco : StK := ⟨[(0, .sc (.ptr 0 0 0 0 0)), (9, .sc (.sl 3 1 none)), (77, .agg [.ints .u32 (some 8)]), (78, .sc (.i .i64))], [(true, [.one (.i .i64), .one (.i .i64), .ints .i64 (some 3), .ints .i64 (some 3), .ints .i64 (some 3), .ints .i64 (some 3), .one (.fn Zd [1]), .ints .u32 (some 8)]), (false, [.one (.ptr 2 0 0 0 0)]), (true, [.ints .u64 (some 80)]), (true, [.bytes none])]⟩
def Zcc : List PShape := [⟨Int × Int × (List Int) × (List Int) × (List Int) × (List Int) × (List Int) × (List Int) × Str, fun r => (.exit 6, ⟨[(9, .c (.sc (.slice 3 1 none none)))], [(0, ⟨true, [.one (.int .i64 r.1), .one (.int .i64 r.2.1), .ints .i64 r.2.2.1 3, .ints .i64 r.2.2.2.1 3, .ints .i64 r.2.2.2.2.1 3, .ints .i64 r.2.2.2.2.2.1 3, .one (.fn Zd [1]), .ints .u32 r.2.2.2.2.2.2.1 8]⟩), (1, ⟨false, [.one (.ptr 2 0 0 0 0)]⟩), (2, ⟨true, [.ints .u64 r.2.2.2.2.2.2.2.1 80]⟩), (3, ⟨true, [.bytes r.2.2.2.2.2.2.2.2 r.2.2.2.2.2.2.2.2.length]⟩)], 4⟩)⟩]
def Za6 (g0 : Zb) (g1 : Za) (R : Type) (x166 : List Int) (x167 x168 x169 : Int) (x170 x171 x172 x173 x174 x175 : List Int) (x176 : Str) (next : (List Int) → Int → Int → Int → (List Int) → (List Int) → (List Int) → (List Int) → (List Int) → (List Int) → Str → Option R) (k0 : Int → Int → (List Int) → (List Int) → (List Int) → (List Int) → (List Int) → (List Int) → Str → Option R) : Option R :=
 br (ltI x167 8)
 (gd (inB x167 8) <|
 Zki g0 g1 R (x166.getD x167.toNat 0) (subI .i64 x168 8) x166 x167 x168 x169 x170 x171 x172 x173 x174 x175 x176 fun y192 y193 y194 y195 y196 y197 y198 y199 y200 y201 y202 =>
 next y192 (addI .i64 y193 1) y194 y195 y196 y197 y198 y199 y200 y201 y202)
 (k0 x168 x169 x170 x171 x172 x173 x174 x175 x176)
def Z6e (x166 : List Int) (x167 x168 x169 : Int) (x170 x171 x172 x173 x174 x175 : List Int) (x176 : Str) : Nat := 100000 + (x166.length + x167.toNat + x168.toNat + x169.toNat + x170.length + x171.length + x172.length + x173.length + x174.length + x175.length + x176.length)
def Z5m (g0 : Zb) (g1 : Za) : Piece := { T := Zco, shapes := Zcc, step := fun R x next k => Za6 g0 g1 R (x.1.2.2.1.1) (x.1.2.2.2.1) (x.2.1.1) (x.2.1.2.1) (x.2.1.2.2.1) (x.2.1.2.2.2.1) (x.2.1.2.2.2.2.1) (x.2.1.2.2.2.2.2.1) (x.2.1.2.2.2.2.2.2.2.1) (x.2.2.2.1.1) (x.2.2.2.2.1.1) (fun x166 x167 x168 x169 x170 x171 x172 x173 x174 x175 x176 => next (((), (), (x166, ()), x167, ()), ((x168, x169, x170, x171, x172, x173, (), x174, ()), ((), ()), (x175, ()), (x176, ()), ()))) (fun z0 z1 z2 z3 z4 z5 z6 z7 z8 => k.1 (z0, z1, z2, z3, z4, z5, z6, z7, z8)), fuel := fun x => Z6e (x.1.2.2.1.1) (x.1.2.2.2.1) (x.2.1.1) (x.2.1.2.1) (x.2.1.2.2.1) (x.2.1.2.2.2.1) (x.2.1.2.2.2.2.1) (x.2.1.2.2.2.2.2.1) (x.2.1.2.2.2.2.2.2.2.1) (x.2.2.2.1.1) (x.2.2.2.2.1.1) }
def Zkw (g0 : Zb) (g1 : Za) (R : Type) (x166 : List Int) (x167 x168 x169 : Int) (x170 x171 x172 x173 x174 x175 : List Int) (x176 : Str) (k0 : Int → Int → (List Int) → (List Int) → (List Int) → (List Int) → (List Int) → (List Int) → Str → Option R) : Option R :=
 runP Zco Zcc (Z5m g0 g1).step R (Z6e x166 x167 x168 x169 x170 x171 x172 x173 x174 x175 x176) (((), (), (x166, ()), x167, ()), ((x168, x169, x170, x171, x172, x173, (), x174, ()), ((), ()), (x175, ()), (x176, ()), ())) (fun r => k0 (r.1) (r.2.1) (r.2.2.1) (r.2.2.2.1) (r.2.2.2.2.1) (r.2.2.2.2.2.1) (r.2.2.2.2.2.2.1) (r.2.2.2.2.2.2.2.1) (r.2.2.2.2.2.2.2.2), ())
abbrev Zay := (R : Type) → Str → Int → Int → (List Int) → (List Int) → (List Int) → (List Int) → (List Int) → (List Int) → (Str → Int → Int → (List Int) → (List Int) → (List Int) → (List Int) → (List Int) → (List Int) → Option R) → Option R
def Zef (g0 : Zb) (g1 : Za) (R : Type) (a1 : Str) (a2 a3 : Int) (a4 a5 a6 a7 a8 a9 : List Int) (k0 : Str → Int → Int → (List Int) → (List Int) → (List Int) → (List Int) → (List Int) → (List Int) → Option R) : Option R :=
 gd (appB a1.length 1 1) <|
 Zl5 g0 g1 R a1 a2 a3 a4 a5 a6 a7 a8 a9 (a1 ++ ([128] : Str)) fun y31 y32 y33 y34 y35 y36 y37 y38 y39 y40 =>
 lett (subI .i64 (quoI .i64 y32 4) 1) fun (v41 : Int) =>
 Zks g0 g1 R y31 v41 y32 y33 y34 y35 y36 y37 y38 y39 y40 fun y57 y58 y59 y60 y61 y62 y63 y64 y65 =>
 lett (List.replicate 8 (0 : Int)) fun (v66 : List Int) =>
 Zl7 g0 g1 R 0 y57 y58 y59 y60 y61 y62 y63 y64 y65 y63 fun y107 y108 y109 y110 y111 y112 y113 y114 y115 =>
 Zkw g0 g1 R y115 0 y107 y108 y109 y110 y111 y112 y113 y114 ([] : Str) fun y203 y204 y205 y206 y207 y208 y209 y210 y211 =>
 k0 y211 y203 y204 y205 y206 y207 y208 y209 y210
def Z71 : Zay := Zef Z1 Z0
abbrev Zjb := (R : Type) → Str → (Str → Option R) → Option R
def Zz6 (g0 : Zui) (g1 : Zay) (R : Type) (a1 : Str) (k0 : Str → Option R) : Option R :=
 g0 R fun r2 r3 r4 r5 r6 r7 r8 r9 =>
 g1 R a1 r2 r3 r4 r5 r6 r7 r8 r9 fun r10 r11 r12 r13 r14 r15 r16 r17 r18 =>
 k0 r10
def Zfy : Zjb := Zz6 Zng Z71
abbrev Zuh := (R : Type) → (Int → Int → (List Int) → (List Int) → (List Int) → (List Int) → (List Int) → (List Int) → Option R) → Option R
def Zyf (g0 : Z53) (g1 : Z8s) (R : Type) (k0 : Int → Int → (List Int) → (List Int) → (List Int) → (List Int) → (List Int) → (List Int) → Option R) : Option R :=
 g0 R fun r1 =>
 g1 R fun r2 =>
 lett ((((List.replicate 3 (0 : Int)).set 0 1).set 1 8).set 2 7) fun (v3 : List Int) =>
 lett ((((List.replicate 3 (0 : Int)).set 0 19).set 1 61).set 2 6) fun (v4 : List Int) =>
 lett ((((List.replicate 3 (0 : Int)).set 0 14).set 1 18).set 2 41) fun (v5 : List Int) =>
 lett ((((List.replicate 3 (0 : Int)).set 0 28).set 1 34).set 2 39) fun (v6 : List Int) =>
 k0 64 80 v3 v4 v5 v6 r2 r1
def Znx : Zuh := Zyf Z3b Z5w
abbrev Z9 := (R : Type) → Int → Int → (List Int) → (List Int) → (List Int) → (List Int) → (List Int) → (List Int) → (Int → Int → Int → (List Int) → (List Int) → (List Int) → (List Int) → (List Int) → (List Int) → Option R) → Option R
def Zbn (R : Type) (a1 a2 : Int) (a3 a4 a5 a6 a7 a8 : List Int) (k0 : Int → Int → Int → (List Int) → (List Int) → (List Int) → (List Int) → (List Int) → (List Int) → Option R) : Option R :=
 k0 (mulI .i64 2 a1) a1 a2 a3 a4 a5 a6 a7 a8
def Z2 : Z9 := Zbn
abbrev Z3j := (R : Type) → Int → Int → Int → Int → (List Int) → (List Int) → (List Int) → (List Int) → (List Int) → (List Int) → (Int → Int → Int → (List Int) → (List Int) → (List Int) → (List Int) → (List Int) → (List Int) → Option R) → Option R
def Zc2 (R : Type) (a1 a2 a3 a4 : Int) (a5 a6 a7 a8 a9 a10 : List Int) (k0 : Int → Int → Int → (List Int) → (List Int) → (List Int) → (List Int) → (List Int) → (List Int) → Option R) : Option R :=
 gd (leI 0 a2) <|
 gd (leI 0 (subI .i64 a3 a2)) <|
 lett (shlI .u64 a1 (subI .i64 a3 a2)) fun (v11 : Int) =>
 lett (orI .u64 (shrI .u64 a1 a2) v11) fun (v12 : Int) =>
 k0 v12 a3 a4 a5 a6 a7 a8 a9 a10
def Z2t : Z3j := Zc2
abbrev Zr := (R : Type) → Int → (List Int) → Int → Int → (List Int) → (List Int) → (List Int) → (List Int) → (List Int) → (List Int) → (Int → Int → Int → (List Int) → (List Int) → (List Int) → (List Int) → (List Int) → (List Int) → Option R) → Option R
def Zce (g0 : Z3j) (R : Type) (a1 : Int) (a2 : List Int) (a3 a4 : Int) (a5 a6 a7 a8 a9 a10 : List Int) (k0 : Int → Int → Int → (List Int) → (List Int) → (List Int) → (List Int) → (List Int) → (List Int) → Option R) : Option R :=
 gd (leI 0 (a2.getD 2 0)) <|
 lett (shrI .u64 a1 (a2.getD 2 0)) fun (v11 : Int) =>
 g0 R a1 (a2.getD 0 0) a3 a4 a5 a6 a7 a8 a9 a10 fun r12 r13 r14 r15 r16 r17 r18 r19 r20 =>
 g0 R a1 (a2.getD 1 0) a3 a4 a5 a6 a7 a8 a9 a10 fun r21 r22 r23 r24 r25 r26 r27 r28 r29 =>
 lett (xorI .u64 (xorI .u64 r12 r21) v11) fun (v30 : Int) =>
 k0 v30 a3 a4 a5 a6 a7 a8 a9 a10
def Zh : Zr := Zce Z2t
def Z9f : StK := ⟨[(0, .sc (.ptr 0 0 0 0 0)), (1, .sc (.s)), (5, .sc (.sl 3 1 none)), (6, .sc (.i .i64)), (7, .sc (.i .i64)), (20, .sc (.i .i64)), (21, .sc (.i .i64)), (26, .sc (.i .i64)), (27, .sc (.i .i64))], [(true, [.one (.i .i64), .one (.i .i64), .ints .i64 (some 3), .ints .i64 (some 3), .ints .i64 (some 3), .ints .i64 (some 3), .one (.fn Zf [1]), .ints .u64 (some 8)]), (false, [.one (.ptr 2 0 0 0 0)]), (true, [.ints .u64 (some 80)]), (true, [.ints .u64 none])]⟩
def Z9n : List PShape := [⟨Str × Int × Int × Int × Int × Int × (List Int) × (List Int) × (List Int) × (List Int) × (List Int) × (List Int) × (List Int), fun r => (.exit 2, ⟨[(0, .c (.sc (.ptr 0 0 0 0 0))), (1, .c (.sc (.str r.1))), (5, .c (.sc (.slice 3 1 none none))), (6, .c (.sc (.int .i64 r.2.1))), (20, .c (.sc (.int .i64 r.2.2.1))), (21, .c (.sc (.int .i64 r.2.2.2.1)))], [(0, ⟨true, [.one (.int .i64 r.2.2.2.2.1), .one (.int .i64 r.2.2.2.2.2.1), .ints .i64 r.2.2.2.2.2.2.1 3, .ints .i64 r.2.2.2.2.2.2.2.1 3, .ints .i64 r.2.2.2.2.2.2.2.2.1 3, .ints .i64 r.2.2.2.2.2.2.2.2.2.1 3, .one (.fn Zf [1]), .ints .u64 r.2.2.2.2.2.2.2.2.2.2.1 8]⟩), (1, ⟨false, [.one (.ptr 2 0 0 0 0)]⟩), (2, ⟨true, [.ints .u64 r.2.2.2.2.2.2.2.2.2.2.2.1 80]⟩), (3, ⟨true, [.ints .u64 r.2.2.2.2.2.2.2.2.2.2.2.2 r.2.2.2.2.2.2.2.2.2.2.2.2.length]⟩)], 4⟩)⟩]
def Z7t (g0 : Zr) (R : Type) (x38 : Str) (x39 x40 x41 x42 x43 x44 x45 x46 : Int) (x47 x48 x49 x50 x51 x52 x53 : List Int) (next : Str → Int → Int → Int → Int → Int → Int → Int → Int → (List Int) → (List Int) → (List Int) → (List Int) → (List Int) → (List Int) → (List Int) → Option R) (k0 : Str → Int → Int → Int → Int → Int → (List Int) → (List Int) → (List Int) → (List Int) → (List Int) → (List Int) → (List Int) → Option R) : Option R :=
 br (ltI x44 x43)
 (gd (inB x40 x53.length) <|
 lett (shlI .u64 (x53.getD x40.toNat 0) 8) fun (v54 : Int) =>
 lett (addI .i64 (mulI .i64 x39 x40) x44) fun (v55 : Int) =>
 gd (inB v55 x38.length) <|
 lett (((x38.getD v55.toNat 0).toNat : Int)) fun (v56 : Int) =>
 lett (orI .u64 v54 (cvtI .u64 v56)) fun (v57 : Int) =>
 gd (inB x40 x53.length) <|
 next x38 x39 x40 x41 x42 x43 (addI .i64 x44 1) x45 x46 x47 x48 x49 x50 x51 x52 (x53.set x40.toNat v57))
 (k0 x38 x39 x41 x42 x45 x46 x47 x48 x49 x50 x51 x52 x53)
def Z4k (x38 : Str) (x39 x40 x41 x42 x43 x44 x45 x46 : Int) (x47 x48 x49 x50 x51 x52 x53 : List Int) : Nat := 100000 + (x38.length + x39.toNat + x40.toNat + x41.toNat + x42.toNat + x43.toNat + x44.toNat + x45.toNat + x46.toNat + x47.length + x48.length + x49.length + x50.length + x51.length + x52.length + x53.length)
def Z48 (g0 : Zr) : Piece := { T := Z9f, shapes := Z9n, step := fun R x next k => Z7t g0 R (x.1.2.1) (x.1.2.2.2.1) (x.1.2.2.2.2.1) (x.1.2.2.2.2.2.1) (x.1.2.2.2.2.2.2.1) (x.1.2.2.2.2.2.2.2.1) (x.1.2.2.2.2.2.2.2.2.1) (x.2.1.1) (x.2.1.2.1) (x.2.1.2.2.1) (x.2.1.2.2.2.1) (x.2.1.2.2.2.2.1) (x.2.1.2.2.2.2.2.1) (x.2.1.2.2.2.2.2.2.2.1) (x.2.2.2.1.1) (x.2.2.2.2.1.1) (fun x38 x39 x40 x41 x42 x43 x44 x45 x46 x47 x48 x49 x50 x51 x52 x53 => next (((), x38, (), x39, x40, x41, x42, x43, x44, ()), ((x45, x46, x47, x48, x49, x50, (), x51, ()), ((), ()), (x52, ()), (x53, ()), ()))) (fun z0 z1 z2 z3 z4 z5 z6 z7 z8 z9 z10 z11 z12 => k.1 (z0, z1, z2, z3, z4, z5, z6, z7, z8, z9, z10, z11, z12)), fuel := fun x => Z4k (x.1.2.1) (x.1.2.2.2.1) (x.1.2.2.2.2.1) (x.1.2.2.2.2.2.1) (x.1.2.2.2.2.2.2.1) (x.1.2.2.2.2.2.2.2.1) (x.1.2.2.2.2.2.2.2.2.1) (x.2.1.1) (x.2.1.2.1) (x.2.1.2.2.1) (x.2.1.2.2.2.1) (x.2.1.2.2.2.2.1) (x.2.1.2.2.2.2.2.1) (x.2.1.2.2.2.2.2.2.2.1) (x.2.2.2.1.1) (x.2.2.2.2.1.1) }
def Zgv (g0 : Zr) (R : Type) (x38 : Str) (x39 x40 x41 x42 x43 x44 x45 x46 : Int) (x47 x48 x49 x50 x51 x52 x53 : List Int) (k0 : Str → Int → Int → Int → Int → Int → (List Int) → (List Int) → (List Int) → (List Int) → (List Int) → (List Int) → (List Int) → Option R) : Option R :=
 runP Z9f Z9n (Z48 g0).step R (Z4k x38 x39 x40 x41 x42 x43 x44 x45 x46 x47 x48 x49 x50 x51 x52 x53) (((), x38, (), x39, x40, x41, x42, x43, x44, ()), ((x45, x46, x47, x48, x49, x50, (), x51, ()), ((), ()), (x52, ()), (x53, ()), ())) (fun r => k0 (r.1) (r.2.1) (r.2.2.1) (r.2.2.2.1) (r.2.2.2.2.1) (r.2.2.2.2.2.1) (r.2.2.2.2.2.2.1) (r.2.2.2.2.2.2.2.1) (r.2.2.2.2.2.2.2.2.1) (r.2.2.2.2.2.2.2.2.2.1) (r.2.2.2.2.2.2.2.2.2.2.1) (r.2.2.2.2.2.2.2.2.2.2.2.1) (r.2.2.2.2.2.2.2.2.2.2.2.2), ())
def Zg4 : StK := ⟨[(0, .sc (.ptr 0 0 0 0 0)), (1, .sc (.s)), (5, .sc (.sl 3 1 none)), (6, .sc (.i .i64)), (20, .sc (.i .i64)), (21, .sc (.i .i64))], [(true, [.one (.i .i64), .one (.i .i64), .ints .i64 (some 3), .ints .i64 (some 3), .ints .i64 (some 3), .ints .i64 (some 3), .one (.fn Zf [1]), .ints .u64 (some 8)]), (false, [.one (.ptr 2 0 0 0 0)]), (true, [.ints .u64 (some 80)]), (true, [.ints .u64 none])]⟩
def Zg1 : List PShape := [⟨Str × Int × Int × Int × Int × Int × (List Int) × (List Int) × (List Int) × (List Int) × (List Int) × (List Int) × (List Int), fun r => (.normal, ⟨[(0, .c (.sc (.ptr 0 0 0 0 0))), (1, .c (.sc (.str r.1))), (5, .c (.sc (.slice 3 1 none none))), (6, .c (.sc (.int .i64 r.2.1))), (20, .c (.sc (.int .i64 r.2.2.1))), (21, .c (.sc (.int .i64 r.2.2.2.1)))], [(0, ⟨true, [.one (.int .i64 r.2.2.2.2.1), .one (.int .i64 r.2.2.2.2.2.1), .ints .i64 r.2.2.2.2.2.2.1 3, .ints .i64 r.2.2.2.2.2.2.2.1 3, .ints .i64 r.2.2.2.2.2.2.2.2.1 3, .ints .i64 r.2.2.2.2.2.2.2.2.2.1 3, .one (.fn Zf [1]), .ints .u64 r.2.2.2.2.2.2.2.2.2.2.1 8]⟩), (1, ⟨false, [.one (.ptr 2 0 0 0 0)]⟩), (2, ⟨true, [.ints .u64 r.2.2.2.2.2.2.2.2.2.2.2.1 80]⟩), (3, ⟨true, [.ints .u64 r.2.2.2.2.2.2.2.2.2.2.2.2 r.2.2.2.2.2.2.2.2.2.2.2.2.length]⟩)], 4⟩)⟩, ⟨Str × Int × Int × Int × Int × Int × (List Int) × (List Int) × (List Int) × (List Int) × (List Int) × (List Int) × (List Int) × Nat, fun r => (.normal, ⟨[(0, .c (.sc (.ptr 0 0 0 0 0))), (1, .c (.sc (.str r.1))), (5, .c (.sc (.slice 3 1 none none))), (6, .c (.sc (.int .i64 r.2.1))), (20, .c (.sc (.int .i64 r.2.2.1))), (21, .c (.sc (.int .i64 r.2.2.2.1)))], [(0, ⟨true, [.one (.int .i64 r.2.2.2.2.1), .one (.int .i64 r.2.2.2.2.2.1), .ints .i64 r.2.2.2.2.2.2.1 3, .ints .i64 r.2.2.2.2.2.2.2.1 3, .ints .i64 r.2.2.2.2.2.2.2.2.1 3, .ints .i64 r.2.2.2.2.2.2.2.2.2.1 3, .one (.fn Zf [1]), .ints .u64 r.2.2.2.2.2.2.2.2.2.2.1 8]⟩), (1, ⟨false, [.one (.ptr 2 0 0 0 0)]⟩), (2, ⟨true, [.ints .u64 r.2.2.2.2.2.2.2.2.2.2.2.1 80]⟩), (3, ⟨true, [.ints .u64 r.2.2.2.2.2.2.2.2.2.2.2.2.1 r.2.2.2.2.2.2.2.2.2.2.2.2.2]⟩)], 4⟩)⟩]
def Z7y (g0 : Zr) (R : Type) (x25 : Str) (x26 x27 x28 x29 x30 : Int) (x31 x32 x33 x34 x35 x36 x37 : List Int) (k0 : Str → Int → Int → Int → Int → Int → (List Int) → (List Int) → (List Int) → (List Int) → (List Int) → (List Int) → (List Int) → Option R) (k1 : Str → Int → Int → Int → Int → Int → (List Int) → (List Int) → (List Int) → (List Int) → (List Int) → (List Int) → (List Int) → Nat → Option R) : Option R :=
 br (ltI x28 16)
 (Zgv g0 R x25 x26 x28 x27 x28 x26 0 x29 x30 x31 x32 x33 x34 x35 x36 x37 fun y58 y59 y60 y61 y62 y63 y64 y65 y66 y67 y68 y69 y70 =>
 k0 y58 y59 y60 y61 y62 y63 y64 y65 y66 y67 y68 y69 y70)
 (gd (inB (subI .i64 x28 16) x37.length) <|
 lett (x37.getD ((subI .i64 x28 16).toNat) 0) fun (v71 : Int) =>
 gd (inB (subI .i64 x28 7) x37.length) <|
 lett (x37.getD ((subI .i64 x28 7).toNat) 0) fun (v72 : Int) =>
 gd (inB (subI .i64 x28 15) x37.length) <|
 lett (x37.getD ((subI .i64 x28 15).toNat) 0) fun (v73 : Int) =>
 gd (inB (subI .i64 x28 2) x37.length) <|
 lett (x37.getD ((subI .i64 x28 2).toNat) 0) fun (v74 : Int) =>
 g0 R v73 x31 x29 x30 x31 x32 x33 x34 x35 x36 fun r75 r76 r77 r78 r79 r80 r81 r82 r83 =>
 lett (addI .u64 (addI .u64 v71 v72) r75) fun (v84 : Int) =>
 g0 R v74 x32 x29 x30 x31 x32 x33 x34 x35 x36 fun r85 r86 r87 r88 r89 r90 r91 r92 r93 =>
 gd (inB x28 x37.length) <|
 lett (x37.set x28.toNat (addI .u64 v84 r85)) fun (v94 : List Int) =>
 k1 x25 x26 x27 x28 x29 x30 x31 x32 x33 x34 x35 x36 v94 x37.length)
def Ze2 (x25 : Str) (x26 x27 x28 x29 x30 : Int) (x31 x32 x33 x34 x35 x36 x37 : List Int) : Nat := 1
def Z68 (g0 : Zr) : Piece := { T := Zg4, shapes := Zg1, step := fun R x next k => Z7y g0 R (x.1.2.1) (x.1.2.2.2.1) (x.1.2.2.2.2.1) (x.1.2.2.2.2.2.1) (x.2.1.1) (x.2.1.2.1) (x.2.1.2.2.1) (x.2.1.2.2.2.1) (x.2.1.2.2.2.2.1) (x.2.1.2.2.2.2.2.1) (x.2.1.2.2.2.2.2.2.2.1) (x.2.2.2.1.1) (x.2.2.2.2.1.1) (fun z0 z1 z2 z3 z4 z5 z6 z7 z8 z9 z10 z11 z12 => k.1 (z0, z1, z2, z3, z4, z5, z6, z7, z8, z9, z10, z11, z12)) (fun z0 z1 z2 z3 z4 z5 z6 z7 z8 z9 z10 z11 z12 z13 => k.2.1 (z0, z1, z2, z3, z4, z5, z6, z7, z8, z9, z10, z11, z12, z13)), fuel := fun x => Ze2 (x.1.2.1) (x.1.2.2.2.1) (x.1.2.2.2.2.1) (x.1.2.2.2.2.2.1) (x.2.1.1) (x.2.1.2.1) (x.2.1.2.2.1) (x.2.1.2.2.2.1) (x.2.1.2.2.2.2.1) (x.2.1.2.2.2.2.2.1) (x.2.1.2.2.2.2.2.2.2.1) (x.2.2.2.1.1) (x.2.2.2.2.1.1) }
def Zgz (g0 : Zr) (R : Type) (x25 : Str) (x26 x27 x28 x29 x30 : Int) (x31 x32 x33 x34 x35 x36 x37 : List Int) (k0 : Str → Int → Int → Int → Int → Int → (List Int) → (List Int) → (List Int) → (List Int) → (List Int) → (List Int) → (List Int) → Option R) (k1 : Str → Int → Int → Int → Int → Int → (List Int) → (List Int) → (List Int) → (List Int) → (List Int) → (List Int) → (List Int) → Nat → Option R) : Option R :=
 runP Zg4 Zg1 (Z68 g0).step R (Ze2 x25 x26 x27 x28 x29 x30 x31 x32 x33 x34 x35 x36 x37) (((), x25, (), x26, x27, x28, ()), ((x29, x30, x31, x32, x33, x34, (), x35, ()), ((), ()), (x36, ()), (x37, ()), ())) (fun r => k0 (r.1) (r.2.1) (r.2.2.1) (r.2.2.2.1) (r.2.2.2.2.1) (r.2.2.2.2.2.1) (r.2.2.2.2.2.2.1) (r.2.2.2.2.2.2.2.1) (r.2.2.2.2.2.2.2.2.1) (r.2.2.2.2.2.2.2.2.2.1) (r.2.2.2.2.2.2.2.2.2.2.1) (r.2.2.2.2.2.2.2.2.2.2.2.1) (r.2.2.2.2.2.2.2.2.2.2.2.2), fun r => k1 (r.1) (r.2.1) (r.2.2.1) (r.2.2.2.1) (r.2.2.2.2.1) (r.2.2.2.2.2.1) (r.2.2.2.2.2.2.1) (r.2.2.2.2.2.2.2.1) (r.2.2.2.2.2.2.2.2.1) (r.2.2.2.2.2.2.2.2.2.1) (r.2.2.2.2.2.2.2.2.2.2.1) (r.2.2.2.2.2.2.2.2.2.2.2.1) (r.2.2.2.2.2.2.2.2.2.2.2.2.1) (r.2.2.2.2.2.2.2.2.2.2.2.2.2), ())
def Z9q : StK := ⟨[(0, .sc (.ptr 0 0 0 0 0)), (1, .sc (.s)), (5, .sc (.sl 3 1 none)), (6, .sc (.i .i64)), (20, .sc (.i .i64)), (21, .sc (.i .i64))], [(true, [.one (.i .i64), .one (.i .i64), .ints .i64 (some 3), .ints .i64 (some 3), .ints .i64 (some 3), .ints .i64 (some 3), .one (.fn Zf [1]), .ints .u64 (some 8)]), (false, [.one (.ptr 2 0 0 0 0)]), (true, [.ints .u64 (some 80)]), (true, [.ints .u64 none])]⟩
def Z9h : List PShape := [⟨Int × Int × (List Int) × (List Int) × (List Int) × (List Int) × (List Int) × (List Int) × (List Int), fun r => (.exit 0, ⟨[(5, .c (.sc (.slice 3 1 none none)))], [(0, ⟨true, [.one (.int .i64 r.1), .one (.int .i64 r.2.1), .ints .i64 r.2.2.1 3, .ints .i64 r.2.2.2.1 3, .ints .i64 r.2.2.2.2.1 3, .ints .i64 r.2.2.2.2.2.1 3, .one (.fn Zf [1]), .ints .u64 r.2.2.2.2.2.2.1 8]⟩), (1, ⟨false, [.one (.ptr 2 0 0 0 0)]⟩), (2, ⟨true, [.ints .u64 r.2.2.2.2.2.2.2.1 80]⟩), (3, ⟨true, [.ints .u64 r.2.2.2.2.2.2.2.2 r.2.2.2.2.2.2.2.2.length]⟩)], 4⟩)⟩]
def Z7i (g0 : Zr) (R : Type) (x12 : Str) (x13 x14 x15 x16 x17 : Int) (x18 x19 x20 x21 x22 x23 x24 : List Int) (next : Str → Int → Int → Int → Int → Int → (List Int) → (List Int) → (List Int) → (List Int) → (List Int) → (List Int) → (List Int) → Option R) (k0 : Int → Int → (List Int) → (List Int) → (List Int) → (List Int) → (List Int) → (List Int) → (List Int) → Option R) : Option R :=
 br (ltI x15 x14)
 (Zgz g0 R x12 x13 x14 x15 x16 x17 x18 x19 x20 x21 x22 x23 x24
 (fun y95 y96 y97 y98 y99 y100 y101 y102 y103 y104 y105 y106 y107 =>
 next y95 y96 y97 (addI .i64 y98 1) y99 y100 y101 y102 y103 y104 y105 y106 y107)
 (fun y108 y109 y110 y111 y112 y113 y114 y115 y116 y117 y118 y119 y120 y121 =>
 next y108 y109 y110 (addI .i64 y111 1) y112 y113 y114 y115 y116 y117 y118 y119 y120))
 (k0 x16 x17 x18 x19 x20 x21 x22 x23 x24)
def Z4q (x12 : Str) (x13 x14 x15 x16 x17 : Int) (x18 x19 x20 x21 x22 x23 x24 : List Int) : Nat := 100000 + (x12.length + x13.toNat + x14.toNat + x15.toNat + x16.toNat + x17.toNat + x18.length + x19.length + x20.length + x21.length + x22.length + x23.length + x24.length)
def Z46 (g0 : Zr) : Piece := { T := Z9q, shapes := Z9h, step := fun R x next k => Z7i g0 R (x.1.2.1) (x.1.2.2.2.1) (x.1.2.2.2.2.1) (x.1.2.2.2.2.2.1) (x.2.1.1) (x.2.1.2.1) (x.2.1.2.2.1) (x.2.1.2.2.2.1) (x.2.1.2.2.2.2.1) (x.2.1.2.2.2.2.2.1) (x.2.1.2.2.2.2.2.2.2.1) (x.2.2.2.1.1) (x.2.2.2.2.1.1) (fun x12 x13 x14 x15 x16 x17 x18 x19 x20 x21 x22 x23 x24 => next (((), x12, (), x13, x14, x15, ()), ((x16, x17, x18, x19, x20, x21, (), x22, ()), ((), ()), (x23, ()), (x24, ()), ()))) (fun z0 z1 z2 z3 z4 z5 z6 z7 z8 => k.1 (z0, z1, z2, z3, z4, z5, z6, z7, z8)), fuel := fun x => Z4q (x.1.2.1) (x.1.2.2.2.1) (x.1.2.2.2.2.1) (x.1.2.2.2.2.2.1) (x.2.1.1) (x.2.1.2.1) (x.2.1.2.2.1) (x.2.1.2.2.2.1) (x.2.1.2.2.2.2.1) (x.2.1.2.2.2.2.2.1) (x.2.1.2.2.2.2.2.2.2.1) (x.2.2.2.1.1) (x.2.2.2.2.1.1) }
def Zhb (g0 : Zr) (R : Type) (x12 : Str) (x13 x14 x15 x16 x17 : Int) (x18 x19 x20 x21 x22 x23 x24 : List Int) (k0 : Int → Int → (List Int) → (List Int) → (List Int) → (List Int) → (List Int) → (List Int) → (List Int) → Option R) : Option R :=
 runP Z9q Z9h (Z46 g0).step R (Z4q x12 x13 x14 x15 x16 x17 x18 x19 x20 x21 x22 x23 x24) (((), x12, (), x13, x14, x15, ()), ((x16, x17, x18, x19, x20, x21, (), x22, ()), ((), ()), (x23, ()), (x24, ()), ())) (fun r => k0 (r.1) (r.2.1) (r.2.2.1) (r.2.2.2.1) (r.2.2.2.2.1) (r.2.2.2.2.2.1) (r.2.2.2.2.2.2.1) (r.2.2.2.2.2.2.2.1) (r.2.2.2.2.2.2.2.2), ())
abbrev Z12 := (R : Type) → Str → Int → Int → (List Int) → (List Int) → (List Int) → (List Int) → (List Int) → (List Int) → (Int → Int → (List Int) → (List Int) → (List Int) → (List Int) → (List Int) → (List Int) → (List Int) → Option R) → Option R
def Zbj (g0 : Zr) (R : Type) (a1 : Str) (a2 a3 : Int) (a4 a5 a6 a7 a8 a9 : List Int) (k0 : Int → Int → (List Int) → (List Int) → (List Int) → (List Int) → (List Int) → (List Int) → (List Int) → Option R) : Option R :=
 gd (makeB a3 8) <|
 gd (leB a3 a3.toNat) <|
 lett (List.replicate a3.toNat (0 : Int)) fun (v10 : List Int) =>
 lett (((v10.length : Nat) : Int)) fun (v11 : Int) =>
 Zhb g0 R a1 (quoI .i64 a2 8) v11 0 a2 a3 a4 a5 a6 a7 a8 a9 v10 fun y122 y123 y124 y125 y126 y127 y128 y129 y130 =>
 k0 y122 y123 y124 y125 y126 y127 y128 y129 y130
def Zm : Z12 := Zbj Zh
abbrev Z14 := (R : Type) → Int → (List Int) → Int → Int → (List Int) → (List Int) → (List Int) → (List Int) → (List Int) → (List Int) → (Int → Int → Int → (List Int) → (List Int) → (List Int) → (List Int) → (List Int) → (List Int) → Option R) → Option R
def Zbb (g0 : Z3j) (R : Type) (a1 : Int) (a2 : List Int) (a3 a4 : Int) (a5 a6 a7 a8 a9 a10 : List Int) (k0 : Int → Int → Int → (List Int) → (List Int) → (List Int) → (List Int) → (List Int) → (List Int) → Option R) : Option R :=
 g0 R a1 (a2.getD 0 0) a3 a4 a5 a6 a7 a8 a9 a10 fun r11 r12 r13 r14 r15 r16 r17 r18 r19 =>
 g0 R a1 (a2.getD 1 0) a3 a4 a5 a6 a7 a8 a9 a10 fun r20 r21 r22 r23 r24 r25 r26 r27 r28 =>
 g0 R a1 (a2.getD 2 0) a3 a4 a5 a6 a7 a8 a9 a10 fun r29 r30 r31 r32 r33 r34 r35 r36 r37 =>
 lett (xorI .u64 (xorI .u64 r11 r20) r29) fun (v38 : Int) =>
 k0 v38 a3 a4 a5 a6 a7 a8 a9 a10
def Zn : Z14 := Zbb Z2t
abbrev Z29 := (R : Type) → Int → (List Int) → (Int → (List Int) → Option R) → Option R
def Zkn (R : Type) (a1 : Int) (a2 : List Int) (k0 : Int → (List Int) → Option R) : Option R :=
 gd (inB a1 80) <|
 k0 (a2.getD a1.toNat 0) a2
def Z1k : Z29 := Zkn
def Z9y : StK := ⟨[(0, .sc (.ptr 0 0 0 0 0)), (4, .sc (.ptr 3 0 0 0 0)), (6, .sc (.ptr 4 0 0 0 0)), (7, .sc (.ptr 5 0 0 0 0)), (18, .sc (.sl 6 1 none)), (19, .sc (.i .i64)), (20, .sc (.i .i64))], [(true, [.one (.i .i64), .one (.i .i64), .ints .i64 (some 3), .ints .i64 (some 3), .ints .i64 (some 3), .ints .i64 (some 3), .one (.fn Zf [1]), .ints .u64 (some 8)]), (false, [.one (.ptr 2 0 0 0 0)]), (true, [.ints .u64 (some 80)]), (true, [.ints .u64 (some 8)]), (true, [.ints .u64 (some 8)]), (true, [.ints .u64 (some 8)]), (true, [.ints .u64 none])]⟩
def Z9u : List PShape := [⟨Int × Int × (List Int) × (List Int) × (List Int) × (List Int) × (List Int) × (List Int) × (List Int) × (List Int) × (List Int), fun r => (.exit 0, ⟨[(4, .c (.sc (.ptr 3 0 0 0 0))), (6, .c (.sc (.ptr 4 0 0 0 0))), (7, .c (.sc (.ptr 5 0 0 0 0)))], [(0, ⟨true, [.one (.int .i64 r.1), .one (.int .i64 r.2.1), .ints .i64 r.2.2.1 3, .ints .i64 r.2.2.2.1 3, .ints .i64 r.2.2.2.2.1 3, .ints .i64 r.2.2.2.2.2.1 3, .one (.fn Zf [1]), .ints .u64 r.2.2.2.2.2.2.1 8]⟩), (1, ⟨false, [.one (.ptr 2 0 0 0 0)]⟩), (2, ⟨true, [.ints .u64 r.2.2.2.2.2.2.2.1 80]⟩), (3, ⟨true, [.ints .u64 r.2.2.2.2.2.2.2.2.1 8]⟩), (4, ⟨true, [.ints .u64 r.2.2.2.2.2.2.2.2.2.1 8]⟩), (5, ⟨true, [.ints .u64 r.2.2.2.2.2.2.2.2.2.2 8]⟩)], 6⟩)⟩]
def Z7v (g0 : Z12) (g1 : Z14) (g2 : Z29) (R : Type) (x23 x24 x25 x26 : Int) (x27 x28 x29 x30 x31 x32 x33 x34 x35 x36 : List Int) (next : Int → Int → Int → Int → (List Int) → (List Int) → (List Int) → (List Int) → (List Int) → (List Int) → (List Int) → (List Int) → (List Int) → (List Int) → Option R) (k0 : Int → Int → (List Int) → (List Int) → (List Int) → (List Int) → (List Int) → (List Int) → (List Int) → (List Int) → (List Int) → Option R) : Option R :=
 br (ltI x24 x23)
 (gd (inB x24 x36.length) <|
 lett (andI .u64 (x35.getD 4 0) (x35.getD 5 0)) fun (v37 : Int) =>
 lett (andI .u64 (notI .u64 (x35.getD 4 0)) (x35.getD 6 0)) fun (v38 : Int) =>
 g1 R (x35.getD 4 0) x29 x25 x26 x27 x28 x29 x30 x31 x32 fun r39 r40 r41 r42 r43 r44 r45 r46 r47 =>
 lett (addI .u64 (x35.getD 7 0) r39) fun (v48 : Int) =>
 lett (addI .u64 v48 (xorI .u64 v37 v38)) fun (v49 : Int) =>
 g2 R x24 x32 fun r50 r51 =>
 lett (addI .u64 (addI .u64 v49 r50) (x36.getD x24.toNat 0)) fun (v52 : Int) =>
 lett (andI .u64 (x35.getD 0 0) (x35.getD 1 0)) fun (v53 : Int) =>
 lett (andI .u64 (x35.getD 0 0) (x35.getD 2 0)) fun (v54 : Int) =>
 lett (andI .u64 (x35.getD 1 0) (x35.getD 2 0)) fun (v55 : Int) =>
 lett (xorI .u64 (xorI .u64 v53 v54) v55) fun (v56 : Int) =>
 g1 R (x35.getD 0 0) x30 x25 x26 x27 x28 x29 x30 x31 x32 fun r57 r58 r59 r60 r61 r62 r63 r64 r65 =>
 lett (addI .u64 v52 (addI .u64 r57 v56)) fun (v66 : Int) =>
 lett (addI .u64 (x35.getD 3 0) v52) fun (v67 : Int) =>
 lett (((((((((List.replicate 8 (0 : Int)).set 0 v66).set 1 (x35.getD 0 0)).set 2 (x35.getD 1 0)).set 3 (x35.getD 2 0)).set 4 v67).set 5 (x35.getD 4 0)).set 6 (x35.getD 5 0)).set 7 (x35.getD 6 0)) fun (v68 : List Int) =>
 next x23 (addI .i64 x24 1) x25 x26 x27 x28 x29 x30 x31 x32 x33 x34 v68 x36)
 (k0 x25 x26 x27 x28 x29 x30 x31 x32 x33 x34 x35)
def Z4o (x23 x24 x25 x26 : Int) (x27 x28 x29 x30 x31 x32 x33 x34 x35 x36 : List Int) : Nat := 100000 + (x23.toNat + x24.toNat + x25.toNat + x26.toNat + x27.length + x28.length + x29.length + x30.length + x31.length + x32.length + x33.length + x34.length + x35.length + x36.length)
def Z47 (g0 : Z12) (g1 : Z14) (g2 : Z29) : Piece := { T := Z9y, shapes := Z9u, step := fun R x next k => Z7v g0 g1 g2 R (x.1.2.2.2.2.2.1) (x.1.2.2.2.2.2.2.1) (x.2.1.1) (x.2.1.2.1) (x.2.1.2.2.1) (x.2.1.2.2.2.1) (x.2.1.2.2.2.2.1) (x.2.1.2.2.2.2.2.1) (x.2.1.2.2.2.2.2.2.2.1) (x.2.2.2.1.1) (x.2.2.2.2.1.1) (x.2.2.2.2.2.1.1) (x.2.2.2.2.2.2.1.1) (x.2.2.2.2.2.2.2.1.1) (fun x23 x24 x25 x26 x27 x28 x29 x30 x31 x32 x33 x34 x35 x36 => next (((), (), (), (), (), x23, x24, ()), ((x25, x26, x27, x28, x29, x30, (), x31, ()), ((), ()), (x32, ()), (x33, ()), (x34, ()), (x35, ()), (x36, ()), ()))) (fun z0 z1 z2 z3 z4 z5 z6 z7 z8 z9 z10 => k.1 (z0, z1, z2, z3, z4, z5, z6, z7, z8, z9, z10)), fuel := fun x => Z4o (x.1.2.2.2.2.2.1) (x.1.2.2.2.2.2.2.1) (x.2.1.1) (x.2.1.2.1) (x.2.1.2.2.1) (x.2.1.2.2.2.1) (x.2.1.2.2.2.2.1) (x.2.1.2.2.2.2.2.1) (x.2.1.2.2.2.2.2.2.2.1) (x.2.2.2.1.1) (x.2.2.2.2.1.1) (x.2.2.2.2.2.1.1) (x.2.2.2.2.2.2.1.1) (x.2.2.2.2.2.2.2.1.1) }
def Zh6 (g0 : Z12) (g1 : Z14) (g2 : Z29) (R : Type) (x23 x24 x25 x26 : Int) (x27 x28 x29 x30 x31 x32 x33 x34 x35 x36 : List Int) (k0 : Int → Int → (List Int) → (List Int) → (List Int) → (List Int) → (List Int) → (List Int) → (List Int) → (List Int) → (List Int) → Option R) : Option R :=
 runP Z9y Z9u (Z47 g0 g1 g2).step R (Z4o x23 x24 x25 x26 x27 x28 x29 x30 x31 x32 x33 x34 x35 x36) (((), (), (), (), (), x23, x24, ()), ((x25, x26, x27, x28, x29, x30, (), x31, ()), ((), ()), (x32, ()), (x33, ()), (x34, ()), (x35, ()), (x36, ()), ())) (fun r => k0 (r.1) (r.2.1) (r.2.2.1) (r.2.2.2.1) (r.2.2.2.2.1) (r.2.2.2.2.2.1) (r.2.2.2.2.2.2.1) (r.2.2.2.2.2.2.2.1) (r.2.2.2.2.2.2.2.2.1) (r.2.2.2.2.2.2.2.2.2.1) (r.2.2.2.2.2.2.2.2.2.2), ())
def Z9g : StK := ⟨[(4, .sc (.ptr 3 0 0 0 0)), (6, .sc (.ptr 4 0 0 0 0)), (7, .sc (.ptr 5 0 0 0 0)), (103, .sc (.i .i64))], [(true, [.one (.i .i64), .one (.i .i64), .ints .i64 (some 3), .ints .i64 (some 3), .ints .i64 (some 3), .ints .i64 (some 3), .one (.fn Zf [1]), .ints .u64 (some 8)]), (false, [.one (.ptr 2 0 0 0 0)]), (true, [.ints .u64 (some 80)]), (true, [.ints .u64 (some 8)]), (true, [.ints .u64 (some 8)]), (true, [.ints .u64 (some 8)])]⟩
def Z9j : List PShape := [⟨Int × Int × (List Int) × (List Int) × (List Int) × (List Int) × (List Int) × (List Int) × (List Int) × (List Int), fun r => (.exit 2, ⟨[(4, .c (.sc (.ptr 3 0 0 0 0))), (6, .c (.sc (.ptr 4 0 0 0 0)))], [(0, ⟨true, [.one (.int .i64 r.1), .one (.int .i64 r.2.1), .ints .i64 r.2.2.1 3, .ints .i64 r.2.2.2.1 3, .ints .i64 r.2.2.2.2.1 3, .ints .i64 r.2.2.2.2.2.1 3, .one (.fn Zf [1]), .ints .u64 r.2.2.2.2.2.2.1 8]⟩), (1, ⟨false, [.one (.ptr 2 0 0 0 0)]⟩), (2, ⟨true, [.ints .u64 r.2.2.2.2.2.2.2.1 80]⟩), (3, ⟨true, [.ints .u64 r.2.2.2.2.2.2.2.2.1 8]⟩), (4, ⟨true, [.ints .u64 r.2.2.2.2.2.2.2.2.2 8]⟩)], 5⟩)⟩]
def Z7s (g0 : Z12) (g1 : Z14) (g2 : Z29) (R : Type) (x80 x81 x82 : Int) (x83 x84 x85 x86 x87 x88 x89 x90 x91 : List Int) (next : Int → Int → Int → (List Int) → (List Int) → (List Int) → (List Int) → (List Int) → (List Int) → (List Int) → (List Int) → (List Int) → Option R) (k0 : Int → Int → (List Int) → (List Int) → (List Int) → (List Int) → (List Int) → (List Int) → (List Int) → (List Int) → Option R) : Option R :=
 br (ltI x80 8)
 (gd (inB x80 8) <|
 gd (inB x80 8) <|
 lett (addI .u64 (x89.getD x80.toNat 0) (x91.getD x80.toNat 0)) fun (v92 : Int) =>
 gd (inB x80 8) <|
 next (addI .i64 x80 1) x81 x82 x83 x84 x85 x86 x87 x88 (x89.set x80.toNat v92) x90 x91)
 (k0 x81 x82 x83 x84 x85 x86 x87 x88 x89 x90)
def Z4p (x80 x81 x82 : Int) (x83 x84 x85 x86 x87 x88 x89 x90 x91 : List Int) : Nat := 100000 + (x80.toNat + x81.toNat + x82.toNat + x83.length + x84.length + x85.length + x86.length + x87.length + x88.length + x89.length + x90.length + x91.length)
def Z44 (g0 : Z12) (g1 : Z14) (g2 : Z29) : Piece := { T := Z9g, shapes := Z9j, step := fun R x next k => Z7s g0 g1 g2 R (x.1.2.2.2.1) (x.2.1.1) (x.2.1.2.1) (x.2.1.2.2.1) (x.2.1.2.2.2.1) (x.2.1.2.2.2.2.1) (x.2.1.2.2.2.2.2.1) (x.2.1.2.2.2.2.2.2.2.1) (x.2.2.2.1.1) (x.2.2.2.2.1.1) (x.2.2.2.2.2.1.1) (x.2.2.2.2.2.2.1.1) (fun x80 x81 x82 x83 x84 x85 x86 x87 x88 x89 x90 x91 => next (((), (), (), x80, ()), ((x81, x82, x83, x84, x85, x86, (), x87, ()), ((), ()), (x88, ()), (x89, ()), (x90, ()), (x91, ()), ()))) (fun z0 z1 z2 z3 z4 z5 z6 z7 z8 z9 => k.1 (z0, z1, z2, z3, z4, z5, z6, z7, z8, z9)), fuel := fun x => Z4p (x.1.2.2.2.1) (x.2.1.1) (x.2.1.2.1) (x.2.1.2.2.1) (x.2.1.2.2.2.1) (x.2.1.2.2.2.2.1) (x.2.1.2.2.2.2.2.1) (x.2.1.2.2.2.2.2.2.2.1) (x.2.2.2.1.1) (x.2.2.2.2.1.1) (x.2.2.2.2.2.1.1) (x.2.2.2.2.2.2.1.1) }
def Zh1 (g0 : Z12) (g1 : Z14) (g2 : Z29) (R : Type) (x80 x81 x82 : Int) (x83 x84 x85 x86 x87 x88 x89 x90 x91 : List Int) (k0 : Int → Int → (List Int) → (List Int) → (List Int) → (List Int) → (List Int) → (List Int) → (List Int) → (List Int) → Option R) : Option R :=
 runP Z9g Z9j (Z44 g0 g1 g2).step R (Z4p x80 x81 x82 x83 x84 x85 x86 x87 x88 x89 x90 x91) (((), (), (), x80, ()), ((x81, x82, x83, x84, x85, x86, (), x87, ()), ((), ()), (x88, ()), (x89, ()), (x90, ()), (x91, ()), ())) (fun r => k0 (r.1) (r.2.1) (r.2.2.1) (r.2.2.2.1) (r.2.2.2.2.1) (r.2.2.2.2.2.1) (r.2.2.2.2.2.2.1) (r.2.2.2.2.2.2.2.1) (r.2.2.2.2.2.2.2.2.1) (r.2.2.2.2.2.2.2.2.2), ())
abbrev Z8 := (R : Type) → (List Int) → Str → Int → Int → (List Int) → (List Int) → (List Int) → (List Int) → (List Int) → (List Int) → ((List Int) → Int → Int → (List Int) → (List Int) → (List Int) → (List Int) → (List Int) → (List Int) → Option R) → Option R
def Zb5 (g0 : Z12) (g1 : Z14) (g2 : Z29) (R : Type) (a1 : List Int) (a2 : Str) (a3 a4 : Int) (a5 a6 a7 a8 a9 a10 : List Int) (k0 : (List Int) → Int → Int → (List Int) → (List Int) → (List Int) → (List Int) → (List Int) → (List Int) → Option R) : Option R :=
 lett (List.replicate 8 (0 : Int)) fun (v11 : List Int) =>
 lett (List.replicate 8 (0 : Int)) fun (v12 : List Int) =>
 g0 R a2 a3 a4 a5 a6 a7 a8 a9 a10 fun r13 r14 r15 r16 r17 r18 r19 r20 r21 =>
 lett (((r21.length : Nat) : Int)) fun (v22 : Int) =>
 Zh6 g0 g1 g2 R v22 0 r13 r14 r15 r16 r17 r18 r19 r20 a1 v11 a1 r21 fun y69 y70 y71 y72 y73 y74 y75 y76 y77 y78 y79 =>
 Zh1 g0 g1 g2 R 0 y69 y70 y71 y72 y73 y74 y75 y76 y77 y78 y79 fun y93 y94 y95 y96 y97 y98 y99 y100 y101 y102 =>
 k0 y101 y93 y94 y95 y96 y97 y98 y99 y100
def Z3 : Z8 := Zb5 Zm Zn Z1k
def Zd4 : StK := ⟨[(0, .sc (.ptr 0 0 0 0 0)), (1, .sc (.s)), (5, .sc (.sl 3 1 none))], [(true, [.one (.i .i64), .one (.i .i64), .ints .i64 (some 3), .ints .i64 (some 3), .ints .i64 (some 3), .ints .i64 (some 3), .one (.fn Zf [1]), .ints .u64 (some 8)]), (false, [.one (.ptr 2 0 0 0 0)]), (true, [.ints .u64 (some 80)]), (true, [.bytes none])]⟩
def Zd1 : List PShape := [⟨Str × Int × Int × (List Int) × (List Int) × (List Int) × (List Int) × (List Int) × (List Int) × Str, fun r => (.exit 0, ⟨[(0, .c (.sc (.ptr 0 0 0 0 0))), (1, .c (.sc (.str r.1))), (5, .c (.sc (.slice 3 1 none none)))], [(0, ⟨true, [.one (.int .i64 r.2.1), .one (.int .i64 r.2.2.1), .ints .i64 r.2.2.2.1 3, .ints .i64 r.2.2.2.2.1 3, .ints .i64 r.2.2.2.2.2.1 3, .ints .i64 r.2.2.2.2.2.2.1 3, .one (.fn Zf [1]), .ints .u64 r.2.2.2.2.2.2.2.1 8]⟩), (1, ⟨false, [.one (.ptr 2 0 0 0 0)]⟩), (2, ⟨true, [.ints .u64 r.2.2.2.2.2.2.2.2.1 80]⟩), (3, ⟨true, [.bytes r.2.2.2.2.2.2.2.2.2 r.2.2.2.2.2.2.2.2.2.length]⟩)], 4⟩)⟩]
def Zac (g0 : Z9) (g1 : Z8) (R : Type) (x10 : Str) (x11 x12 : Int) (x13 x14 x15 x16 x17 x18 : List Int) (x19 : Str) (next : Str → Int → Int → (List Int) → (List Int) → (List Int) → (List Int) → (List Int) → (List Int) → Str → Option R) (k0 : Str → Int → Int → (List Int) → (List Int) → (List Int) → (List Int) → (List Int) → (List Int) → Str → Option R) : Option R :=
 lett (((x19.length : Nat) : Int)) fun (v20 : Int) =>
 lett (addI .i64 v20 (quoI .i64 x11 4)) fun (v21 : Int) =>
 g0 R x11 x12 x13 x14 x15 x16 x17 x18 fun r22 r23 r24 r25 r26 r27 r28 r29 r30 =>
 gd (!(eqI r22 0)) <|
 br (!(eqI (remI v21 r22) 0))
 (gd (appB x19.length 1 1) <|
 next x10 x11 x12 x13 x14 x15 x16 x17 x18 (x19 ++ ([0] : Str)))
 (k0 x10 x11 x12 x13 x14 x15 x16 x17 x18 x19)
def Z6f (x10 : Str) (x11 x12 : Int) (x13 x14 x15 x16 x17 x18 : List Int) (x19 : Str) : Nat := 100000 + (x10.length + x11.toNat + x12.toNat + x13.length + x14.length + x15.length + x16.length + x17.length + x18.length + x19.length)
def Z5i (g0 : Z9) (g1 : Z8) : Piece := { T := Zd4, shapes := Zd1, step := fun R x next k => Zac g0 g1 R (x.1.2.1) (x.2.1.1) (x.2.1.2.1) (x.2.1.2.2.1) (x.2.1.2.2.2.1) (x.2.1.2.2.2.2.1) (x.2.1.2.2.2.2.2.1) (x.2.1.2.2.2.2.2.2.2.1) (x.2.2.2.1.1) (x.2.2.2.2.1.1) (fun x10 x11 x12 x13 x14 x15 x16 x17 x18 x19 => next (((), x10, (), ()), ((x11, x12, x13, x14, x15, x16, (), x17, ()), ((), ()), (x18, ()), (x19, ()), ()))) (fun z0 z1 z2 z3 z4 z5 z6 z7 z8 z9 => k.1 (z0, z1, z2, z3, z4, z5, z6, z7, z8, z9)), fuel := fun x => Z6f (x.1.2.1) (x.2.1.1) (x.2.1.2.1) (x.2.1.2.2.1) (x.2.1.2.2.2.1) (x.2.1.2.2.2.2.1) (x.2.1.2.2.2.2.2.1) (x.2.1.2.2.2.2.2.2.2.1) (x.2.2.2.1.1) (x.2.2.2.2.1.1) }
def Zl4 (g0 : Z9) (g1 : Z8) (R : Type) (x10 : Str) (x11 x12 : Int) (x13 x14 x15 x16 x17 x18 : List Int) (x19 : Str) (k0 : Str → Int → Int → (List Int) → (List Int) → (List Int) → (List Int) → (List Int) → (List Int) → Str → Option R) : Option R :=
 runP Zd4 Zd1 (Z5i g0 g1).step R (Z6f x10 x11 x12 x13 x14 x15 x16 x17 x18 x19) (((), x10, (), ()), ((x11, x12, x13, x14, x15, x16, (), x17, ()), ((), ()), (x18, ()), (x19, ()), ())) (fun r => k0 (r.1) (r.2.1) (r.2.2.1) (r.2.2.2.1) (r.2.2.2.2.1) (r.2.2.2.2.2.1) (r.2.2.2.2.2.2.1) (r.2.2.2.2.2.2.2.1) (r.2.2.2.2.2.2.2.2.1) (r.2.2.2.2.2.2.2.2.2), ())
def Zc7 : StK := ⟨[(0, .sc (.ptr 0 0 0 0 0)), (1, .sc (.s)), (5, .sc (.sl 3 1 none)), (6, .sc (.i .i64))], [(true, [.one (.i .i64), .one (.i .i64), .ints .i64 (some 3), .ints .i64 (some 3), .ints .i64 (some 3), .ints .i64 (some 3), .one (.fn Zf [1]), .ints .u64 (some 8)]), (false, [.one (.ptr 2 0 0 0 0)]), (true, [.ints .u64 (some 80)]), (true, [.bytes none])]⟩
def Zcw : List PShape := [⟨Int × Int × (List Int) × (List Int) × (List Int) × (List Int) × (List Int) × (List Int) × Str, fun r => (.exit 2, ⟨[(0, .c (.sc (.ptr 0 0 0 0 0))), (5, .c (.sc (.slice 3 1 none none)))], [(0, ⟨true, [.one (.int .i64 r.1), .one (.int .i64 r.2.1), .ints .i64 r.2.2.1 3, .ints .i64 r.2.2.2.1 3, .ints .i64 r.2.2.2.2.1 3, .ints .i64 r.2.2.2.2.2.1 3, .one (.fn Zf [1]), .ints .u64 r.2.2.2.2.2.2.1 8]⟩), (1, ⟨false, [.one (.ptr 2 0 0 0 0)]⟩), (2, ⟨true, [.ints .u64 r.2.2.2.2.2.2.2.1 80]⟩), (3, ⟨true, [.bytes r.2.2.2.2.2.2.2.2 r.2.2.2.2.2.2.2.2.length]⟩)], 4⟩)⟩]
def Zal (g0 : Z9) (g1 : Z8) (R : Type) (x42 : Str) (x43 x44 x45 : Int) (x46 x47 x48 x49 x50 x51 : List Int) (x52 : Str) (next : Str → Int → Int → Int → (List Int) → (List Int) → (List Int) → (List Int) → (List Int) → (List Int) → Str → Option R) (k0 : Int → Int → (List Int) → (List Int) → (List Int) → (List Int) → (List Int) → (List Int) → Str → Option R) : Option R :=
 br (leI 0 x43)
 (lett (((x42.length : Nat) : Int)) fun (v53 : Int) =>
 lett (mulI .u64 (cvtI .u64 v53) 8) fun (v54 : Int) =>
 gd (leI 0 (mulI .i64 8 x43)) <|
 lett (shrI .u64 v54 (mulI .i64 8 x43)) fun (v55 : Int) =>
 lett ([UInt8.ofNat ((cvtI .u8 v55).toNat)]) fun (v56 : Str) =>
 gd (appB x52.length v56.length 1) <|
 next x42 (subI .i64 x43 1) x44 x45 x46 x47 x48 x49 x50 x51 (x52 ++ v56))
 (k0 x44 x45 x46 x47 x48 x49 x50 x51 x52)
def Z61 (x42 : Str) (x43 x44 x45 : Int) (x46 x47 x48 x49 x50 x51 : List Int) (x52 : Str) : Nat := 100000 + (x42.length + x43.toNat + x44.toNat + x45.toNat + x46.length + x47.length + x48.length + x49.length + x50.length + x51.length + x52.length)
def Z5n (g0 : Z9) (g1 : Z8) : Piece := { T := Zc7, shapes := Zcw, step := fun R x next k => Zal g0 g1 R (x.1.2.1) (x.1.2.2.2.1) (x.2.1.1) (x.2.1.2.1) (x.2.1.2.2.1) (x.2.1.2.2.2.1) (x.2.1.2.2.2.2.1) (x.2.1.2.2.2.2.2.1) (x.2.1.2.2.2.2.2.2.2.1) (x.2.2.2.1.1) (x.2.2.2.2.1.1) (fun x42 x43 x44 x45 x46 x47 x48 x49 x50 x51 x52 => next (((), x42, (), x43, ()), ((x44, x45, x46, x47, x48, x49, (), x50, ()), ((), ()), (x51, ()), (x52, ()), ()))) (fun z0 z1 z2 z3 z4 z5 z6 z7 z8 => k.1 (z0, z1, z2, z3, z4, z5, z6, z7, z8)), fuel := fun x => Z61 (x.1.2.1) (x.1.2.2.2.1) (x.2.1.1) (x.2.1.2.1) (x.2.1.2.2.1) (x.2.1.2.2.2.1) (x.2.1.2.2.2.2.1) (x.2.1.2.2.2.2.2.1) (x.2.1.2.2.2.2.2.2.2.1) (x.2.2.2.1.1) (x.2.2.2.2.1.1) }
def Zl3 (g0 : Z9) (g1 : Z8) (R : Type) (x42 : Str) (x43 x44 x45 : Int) (x46 x47 x48 x49 x50 x51 : List Int) (x52 : Str) (k0 : Int → Int → (List Int) → (List Int) → (List Int) → (List Int) → (List Int) → (List Int) → Str → Option R) : Option R :=
 runP Zc7 Zcw (Z5n g0 g1).step R (Z61 x42 x43 x44 x45 x46 x47 x48 x49 x50 x51 x52) (((), x42, (), x43, ()), ((x44, x45, x46, x47, x48, x49, (), x50, ()), ((), ()), (x51, ()), (x52, ()), ())) (fun r => k0 (r.1) (r.2.1) (r.2.2.1) (r.2.2.2.1) (r.2.2.2.2.1) (r.2.2.2.2.2.1) (r.2.2.2.2.2.2.1) (r.2.2.2.2.2.2.2.1) (r.2.2.2.2.2.2.2.2), ())
def Zd3 : StK := ⟨[(0, .sc (.ptr 0 0 0 0 0)), (5, .sc (.sl 3 1 none)), (7, .sc (.ptr 4 0 0 0 0)), (8, .sc (.i .i64))], [(true, [.one (.i .i64), .one (.i .i64), .ints .i64 (some 3), .ints .i64 (some 3), .ints .i64 (some 3), .ints .i64 (some 3), .one (.fn Zf [1]), .ints .u64 (some 8)]), (false, [.one (.ptr 2 0 0 0 0)]), (true, [.ints .u64 (some 80)]), (true, [.bytes none]), (true, [.ints .u64 (some 8)])]⟩
def Zct : List PShape := [⟨Int × Int × (List Int) × (List Int) × (List Int) × (List Int) × (List Int) × (List Int) × (List Int), fun r => (.exit 4, ⟨[(0, .c (.sc (.ptr 0 0 0 0 0))), (7, .c (.sc (.ptr 3 0 0 0 0)))], [(0, ⟨true, [.one (.int .i64 r.1), .one (.int .i64 r.2.1), .ints .i64 r.2.2.1 3, .ints .i64 r.2.2.2.1 3, .ints .i64 r.2.2.2.2.1 3, .ints .i64 r.2.2.2.2.2.1 3, .one (.fn Zf [1]), .ints .u64 r.2.2.2.2.2.2.1 8]⟩), (1, ⟨false, [.one (.ptr 2 0 0 0 0)]⟩), (2, ⟨true, [.ints .u64 r.2.2.2.2.2.2.2.1 80]⟩), (3, ⟨true, [.ints .u64 r.2.2.2.2.2.2.2.2 8]⟩)], 4⟩)⟩]
def Zan (g0 : Z9) (g1 : Z8) (R : Type) (x67 x68 x69 : Int) (x70 x71 x72 x73 x74 x75 : List Int) (x76 : Str) (x77 : List Int) (next : Int → Int → Int → (List Int) → (List Int) → (List Int) → (List Int) → (List Int) → (List Int) → Str → (List Int) → Option R) (k0 : Int → Int → (List Int) → (List Int) → (List Int) → (List Int) → (List Int) → (List Int) → (List Int) → Option R) : Option R :=
 lett (((x76.length : Nat) : Int)) fun (v78 : Int) =>
 br (ltI x67 v78)
 (g0 R x68 x69 x70 x71 x72 x73 x74 x75 fun r79 r80 r81 r82 r83 r84 r85 r86 r87 =>
 gd (leB (addI .i64 x67 r79) x76.length) <|
 gd (leB x67 ((addI .i64 x67 r79).toNat)) <|
 lett ((x76.drop (0 + x67.toNat)).take (((addI .i64 x67 r79).toNat) - x67.toNat)) fun (v88 : Str) =>
 g1 R x77 v88 x68 x69 x70 x71 x72 x73 x74 x75 fun r89 r90 r91 r92 r93 r94 r95 r96 r97 =>
 g0 R r90 r91 r92 r93 r94 r95 r96 r97 fun r98 r99 r100 r101 r102 r103 r104 r105 r106 =>
 next (addI .i64 x67 r98) r90 r91 r92 r93 r94 r95 r96 r97 x76 r89)
 (k0 x68 x69 x70 x71 x72 x73 x74 x75 x77)
def Z6b (x67 x68 x69 : Int) (x70 x71 x72 x73 x74 x75 : List Int) (x76 : Str) (x77 : List Int) : Nat := 100000 + (x67.toNat + x68.toNat + x69.toNat + x70.length + x71.length + x72.length + x73.length + x74.length + x75.length + x76.length + x77.length)
def Z5v (g0 : Z9) (g1 : Z8) : Piece := { T := Zd3, shapes := Zct, step := fun R x next k => Zan g0 g1 R (x.1.2.2.2.1) (x.2.1.1) (x.2.1.2.1) (x.2.1.2.2.1) (x.2.1.2.2.2.1) (x.2.1.2.2.2.2.1) (x.2.1.2.2.2.2.2.1) (x.2.1.2.2.2.2.2.2.2.1) (x.2.2.2.1.1) (x.2.2.2.2.1.1) (x.2.2.2.2.2.1.1) (fun x67 x68 x69 x70 x71 x72 x73 x74 x75 x76 x77 => next (((), (), (), x67, ()), ((x68, x69, x70, x71, x72, x73, (), x74, ()), ((), ()), (x75, ()), (x76, ()), (x77, ()), ()))) (fun z0 z1 z2 z3 z4 z5 z6 z7 z8 => k.1 (z0, z1, z2, z3, z4, z5, z6, z7, z8)), fuel := fun x => Z6b (x.1.2.2.2.1) (x.2.1.1) (x.2.1.2.1) (x.2.1.2.2.1) (x.2.1.2.2.2.1) (x.2.1.2.2.2.2.1) (x.2.1.2.2.2.2.2.1) (x.2.1.2.2.2.2.2.2.2.1) (x.2.2.2.1.1) (x.2.2.2.2.1.1) (x.2.2.2.2.2.1.1) }
def Zkf (g0 : Z9) (g1 : Z8) (R : Type) (x67 x68 x69 : Int) (x70 x71 x72 x73 x74 x75 : List Int) (x76 : Str) (x77 : List Int) (k0 : Int → Int → (List Int) → (List Int) → (List Int) → (List Int) → (List Int) → (List Int) → (List Int) → Option R) : Option R :=
 runP Zd3 Zct (Z5v g0 g1).step R (Z6b x67 x68 x69 x70 x71 x72 x73 x74 x75 x76 x77) (((), (), (), x67, ()), ((x68, x69, x70, x71, x72, x73, (), x74, ()), ((), ()), (x75, ()), (x76, ()), (x77, ()), ())) (fun r => k0 (r.1) (r.2.1) (r.2.2.1) (r.2.2.2.1) (r.2.2.2.2.1) (r.2.2.2.2.2.1) (r.2.2.2.2.2.2.1) (r.2.2.2.2.2.2.2.1) (r.2.2.2.2.2.2.2.2), ())
def Zcl : StK := ⟨[(0, .sc (.ptr 0 0 0 0 0)), (9, .sc (.sl 3 1 none)), (11, .sc (.i .u64)), (12, .sc (.i .i64)), (77, .agg [.ints .u64 (some 8)]), (78, .sc (.i .i64))], [(true, [.one (.i .i64), .one (.i .i64), .ints .i64 (some 3), .ints .i64 (some 3), .ints .i64 (some 3), .ints .i64 (some 3), .one (.fn Zf [1]), .ints .u64 (some 8)]), (false, [.one (.ptr 2 0 0 0 0)]), (true, [.ints .u64 (some 80)]), (true, [.bytes none])]⟩
def Zd0 : List PShape := [⟨(List Int) × Int × Int × Int × (List Int) × (List Int) × (List Int) × (List Int) × (List Int) × (List Int) × Str, fun r => (.exit 8, ⟨[(0, .c (.sc (.ptr 0 0 0 0 0))), (9, .c (.sc (.slice 3 1 none none))), (77, .c (.agg [.ints .u64 r.1 8])), (78, .c (.sc (.int .i64 r.2.1)))], [(0, ⟨true, [.one (.int .i64 r.2.2.1), .one (.int .i64 r.2.2.2.1), .ints .i64 r.2.2.2.2.1 3, .ints .i64 r.2.2.2.2.2.1 3, .ints .i64 r.2.2.2.2.2.2.1 3, .ints .i64 r.2.2.2.2.2.2.2.1 3, .one (.fn Zf [1]), .ints .u64 r.2.2.2.2.2.2.2.2.1 8]⟩), (1, ⟨false, [.one (.ptr 2 0 0 0 0)]⟩), (2, ⟨true, [.ints .u64 r.2.2.2.2.2.2.2.2.2.1 80]⟩), (3, ⟨true, [.bytes r.2.2.2.2.2.2.2.2.2.2 r.2.2.2.2.2.2.2.2.2.2.length]⟩)], 4⟩)⟩]
def Zag (g0 : Z9) (g1 : Z8) (R : Type) (x177 x178 : Int) (x179 : List Int) (x180 x181 x182 : Int) (x183 x184 x185 x186 x187 x188 : List Int) (x189 : Str) (next : Int → Int → (List Int) → Int → Int → Int → (List Int) → (List Int) → (List Int) → (List Int) → (List Int) → (List Int) → Str → Option R) (k0 : (List Int) → Int → Int → Int → (List Int) → (List Int) → (List Int) → (List Int) → (List Int) → (List Int) → Str → Option R) : Option R :=
 br (leI 0 x178)
 (gd (leI 0 x178) <|
 lett (cvtI .u8 (shrI .u64 x177 x178)) fun (v190 : Int) =>
 gd (appB x189.length ([UInt8.ofNat v190.toNat].length) 1) <|
 lett (x189 ++ [UInt8.ofNat v190.toNat]) fun (v191 : Str) =>
 next x177 (subI .i64 x178 8) x179 x180 x181 x182 x183 x184 x185 x186 x187 x188 v191)
 (k0 x179 x180 x181 x182 x183 x184 x185 x186 x187 x188 x189)
def Z66 (x177 x178 : Int) (x179 : List Int) (x180 x181 x182 : Int) (x183 x184 x185 x186 x187 x188 : List Int) (x189 : Str) : Nat := 100000 + (x177.toNat + x178.toNat + x179.length + x180.toNat + x181.toNat + x182.toNat + x183.length + x184.length + x185.length + x186.length + x187.length + x188.length + x189.length)
def Z5s (g0 : Z9) (g1 : Z8) : Piece := { T := Zcl, shapes := Zd0, step := fun R x next k => Zag g0 g1 R (x.1.2.2.1) (x.1.2.2.2.1) (x.1.2.2.2.2.1.1) (x.1.2.2.2.2.2.1) (x.2.1.1) (x.2.1.2.1) (x.2.1.2.2.1) (x.2.1.2.2.2.1) (x.2.1.2.2.2.2.1) (x.2.1.2.2.2.2.2.1) (x.2.1.2.2.2.2.2.2.2.1) (x.2.2.2.1.1) (x.2.2.2.2.1.1) (fun x177 x178 x179 x180 x181 x182 x183 x184 x185 x186 x187 x188 x189 => next (((), (), x177, x178, (x179, ()), x180, ()), ((x181, x182, x183, x184, x185, x186, (), x187, ()), ((), ()), (x188, ()), (x189, ()), ()))) (fun z0 z1 z2 z3 z4 z5 z6 z7 z8 z9 z10 => k.1 (z0, z1, z2, z3, z4, z5, z6, z7, z8, z9, z10)), fuel := fun x => Z66 (x.1.2.2.1) (x.1.2.2.2.1) (x.1.2.2.2.2.1.1) (x.1.2.2.2.2.2.1) (x.2.1.1) (x.2.1.2.1) (x.2.1.2.2.1) (x.2.1.2.2.2.1) (x.2.1.2.2.2.2.1) (x.2.1.2.2.2.2.2.1) (x.2.1.2.2.2.2.2.2.2.1) (x.2.2.2.1.1) (x.2.2.2.2.1.1) }
def Zke (g0 : Z9) (g1 : Z8) (R : Type) (x177 x178 : Int) (x179 : List Int) (x180 x181 x182 : Int) (x183 x184 x185 x186 x187 x188 : List Int) (x189 : Str) (k0 : (List Int) → Int → Int → Int → (List Int) → (List Int) → (List Int) → (List Int) → (List Int) → (List Int) → Str → Option R) : Option R :=
 runP Zcl Zd0 (Z5s g0 g1).step R (Z66 x177 x178 x179 x180 x181 x182 x183 x184 x185 x186 x187 x188 x189) (((), (), x177, x178, (x179, ()), x180, ()), ((x181, x182, x183, x184, x185, x186, (), x187, ()), ((), ()), (x188, ()), (x189, ()), ())) (fun r => k0 (r.1) (r.2.1) (r.2.2.1) (r.2.2.2.1) (r.2.2.2.2.1) (r.2.2.2.2.2.1) (r.2.2.2.2.2.2.1) (r.2.2.2.2.2.2.2.1) (r.2.2.2.2.2.2.2.2.1) (r.2.2.2.2.2.2.2.2.2.1) (r.2.2.2.2.2.2.2.2.2.2), ())
def Zcp : StK := ⟨[(0, .sc (.ptr 0 0 0 0 0)), (9, .sc (.sl 3 1 none)), (77, .agg [.ints .u64 (some 8)]), (78, .sc (.i .i64))], [(true, [.one (.i .i64), .one (.i .i64), .ints .i64 (some 3), .ints .i64 (some 3), .ints .i64 (some 3), .ints .i64 (some 3), .one (.fn Zf [1]), .ints .u64 (some 8)]), (false, [.one (.ptr 2 0 0 0 0)]), (true, [.ints .u64 (some 80)]), (true, [.bytes none])]⟩
def Zd2 : List PShape := [⟨Int × Int × (List Int) × (List Int) × (List Int) × (List Int) × (List Int) × (List Int) × Str, fun r => (.exit 6, ⟨[(9, .c (.sc (.slice 3 1 none none)))], [(0, ⟨true, [.one (.int .i64 r.1), .one (.int .i64 r.2.1), .ints .i64 r.2.2.1 3, .ints .i64 r.2.2.2.1 3, .ints .i64 r.2.2.2.2.1 3, .ints .i64 r.2.2.2.2.2.1 3, .one (.fn Zf [1]), .ints .u64 r.2.2.2.2.2.2.1 8]⟩), (1, ⟨false, [.one (.ptr 2 0 0 0 0)]⟩), (2, ⟨true, [.ints .u64 r.2.2.2.2.2.2.2.1 80]⟩), (3, ⟨true, [.bytes r.2.2.2.2.2.2.2.2 r.2.2.2.2.2.2.2.2.length]⟩)], 4⟩)⟩]
def Zaa (g0 : Z9) (g1 : Z8) (R : Type) (x166 : List Int) (x167 x168 x169 : Int) (x170 x171 x172 x173 x174 x175 : List Int) (x176 : Str) (next : (List Int) → Int → Int → Int → (List Int) → (List Int) → (List Int) → (List Int) → (List Int) → (List Int) → Str → Option R) (k0 : Int → Int → (List Int) → (List Int) → (List Int) → (List Int) → (List Int) → (List Int) → Str → Option R) : Option R :=
 br (ltI x167 8)
 (gd (inB x167 8) <|
 Zke g0 g1 R (x166.getD x167.toNat 0) (subI .i64 x168 8) x166 x167 x168 x169 x170 x171 x172 x173 x174 x175 x176 fun y192 y193 y194 y195 y196 y197 y198 y199 y200 y201 y202 =>
 next y192 (addI .i64 y193 1) y194 y195 y196 y197 y198 y199 y200 y201 y202)
 (k0 x168 x169 x170 x171 x172 x173 x174 x175 x176)
def Z67 (x166 : List Int) (x167 x168 x169 : Int) (x170 x171 x172 x173 x174 x175 : List Int) (x176 : Str) : Nat := 100000 + (x166.length + x167.toNat + x168.toNat + x169.toNat + x170.length + x171.length + x172.length + x173.length + x174.length + x175.length + x176.length)
def Z5p (g0 : Z9) (g1 : Z8) : Piece := { T := Zcp, shapes := Zd2, step := fun R x next k => Zaa g0 g1 R (x.1.2.2.1.1) (x.1.2.2.2.1) (x.2.1.1) (x.2.1.2.1) (x.2.1.2.2.1) (x.2.1.2.2.2.1) (x.2.1.2.2.2.2.1) (x.2.1.2.2.2.2.2.1) (x.2.1.2.2.2.2.2.2.2.1) (x.2.2.2.1.1) (x.2.2.2.2.1.1) (fun x166 x167 x168 x169 x170 x171 x172 x173 x174 x175 x176 => next (((), (), (x166, ()), x167, ()), ((x168, x169, x170, x171, x172, x173, (), x174, ()), ((), ()), (x175, ()), (x176, ()), ()))) (fun z0 z1 z2 z3 z4 z5 z6 z7 z8 => k.1 (z0, z1, z2, z3, z4, z5, z6, z7, z8)), fuel := fun x => Z67 (x.1.2.2.1.1) (x.1.2.2.2.1) (x.2.1.1) (x.2.1.2.1) (x.2.1.2.2.1) (x.2.1.2.2.2.1) (x.2.1.2.2.2.2.1) (x.2.1.2.2.2.2.2.1) (x.2.1.2.2.2.2.2.2.2.1) (x.2.2.2.1.1) (x.2.2.2.2.1.1) }
def Zkm (g0 : Z9) (g1 : Z8) (R : Type) (x166 : List Int) (x167 x168 x169 : Int) (x170 x171 x172 x173 x174 x175 : List Int) (x176 : Str) (k0 : Int → Int → (List Int) → (List Int) → (List Int) → (List Int) → (List Int) → (List Int) → Str → Option R) : Option R :=
 runP Zcp Zd2 (Z5p g0 g1).step R (Z67 x166 x167 x168 x169 x170 x171 x172 x173 x174 x175 x176) (((), (), (x166, ()), x167, ()), ((x168, x169, x170, x171, x172, x173, (), x174, ()), ((), ()), (x175, ()), (x176, ()), ())) (fun r => k0 (r.1) (r.2.1) (r.2.2.1) (r.2.2.2.1) (r.2.2.2.2.1) (r.2.2.2.2.2.1) (r.2.2.2.2.2.2.1) (r.2.2.2.2.2.2.2.1) (r.2.2.2.2.2.2.2.2), ())
abbrev Zaq := (R : Type) → Str → Int → Int → (List Int) → (List Int) → (List Int) → (List Int) → (List Int) → (List Int) → (Str → Int → Int → (List Int) → (List Int) → (List Int) → (List Int) → (List Int) → (List Int) → Option R) → Option R
def Zed (g0 : Z9) (g1 : Z8) (R : Type) (a1 : Str) (a2 a3 : Int) (a4 a5 a6 a7 a8 a9 : List Int) (k0 : Str → Int → Int → (List Int) → (List Int) → (List Int) → (List Int) → (List Int) → (List Int) → Option R) : Option R :=
 gd (appB a1.length 1 1) <|
 Zl4 g0 g1 R a1 a2 a3 a4 a5 a6 a7 a8 a9 (a1 ++ ([128] : Str)) fun y31 y32 y33 y34 y35 y36 y37 y38 y39 y40 =>
 lett (subI .i64 (quoI .i64 y32 4) 1) fun (v41 : Int) =>
 Zl3 g0 g1 R y31 v41 y32 y33 y34 y35 y36 y37 y38 y39 y40 fun y57 y58 y59 y60 y61 y62 y63 y64 y65 =>
 lett (List.replicate 8 (0 : Int)) fun (v66 : List Int) =>
 Zkf g0 g1 R 0 y57 y58 y59 y60 y61 y62 y63 y64 y65 y63 fun y107 y108 y109 y110 y111 y112 y113 y114 y115 =>
 Zkm g0 g1 R y115 0 y107 y108 y109 y110 y111 y112 y113 y114 ([] : Str) fun y203 y204 y205 y206 y207 y208 y209 y210 y211 =>
 k0 y211 y203 y204 y205 y206 y207 y208 y209 y210
def Z70 : Zaq := Zed Z2 Z3
abbrev Zj4 := (R : Type) → Str → (Str → Option R) → Option R
def Zz9 (g0 : Zuh) (g1 : Zaq) (R : Type) (a1 : Str) (k0 : Str → Option R) : Option R :=
 g0 R fun r2 r3 r4 r5 r6 r7 r8 r9 =>
 g1 R a1 r2 r3 r4 r5 r6 r7 r8 r9 fun r10 r11 r12 r13 r14 r15 r16 r17 r18 =>
 k0 r10
def Zfw : Zj4 := Zz9 Znx Z70
abbrev Z54 := (R : Type) → Int → Str → (Str → Int → Str → Option R) → Option R
def Zlb (g0 : Zjb) (g1 : Zj4) (R : Type) (a1 : Int) (a2 : Str) (k0 : Str → Int → Str → Option R) : Option R :=
 br (eqI a1 32)
 (g0 R a2 fun r3 =>
 k0 r3 a1 a2)
 (g1 R a2 fun r4 =>
 k0 r4 a1 a2)
def Z38 : Z54 := Zlb Zfy Zfw
end
noncomputable section
def Zts : StK := ⟨[(0, .sc (.s)), (3, .sc (.i .u64)), (5, .sc (.i .i64))], []⟩
def Ztp : List PShape := [⟨Int, fun r => (.exit 0, ⟨[(3, .c (.sc (.int .u64 r)))], [], 0⟩)⟩]
def Zmi (R : Type) (x2 : Str) (x3 x4 : Int) (next : Str → Int → Int → Option R) (k0 : Int → Option R) : Option R :=
 br (ltI x4 8)
 (gd (inB x4 x2.length) <|
 lett (((x2.getD x4.toNat 0).toNat : Int)) fun (v5 : Int) =>
 gd (leI 0 (mulI .i64 8 x4)) <|
 lett (shlI .u64 (cvtI .u64 v5) (mulI .i64 8 x4)) fun (v6 : Int) =>
 next x2 (orI .u64 x3 v6) (addI .i64 x4 1))
 (k0 x3)
def Zgg (x2 : Str) (x3 x4 : Int) : Nat := 100000 + (x2.length + x3.toNat + x4.toNat)
def Zj2 : Piece := { T := Zts, shapes := Ztp, step := fun R x next k => Zmi R (x.1.1) (x.1.2.1) (x.1.2.2.1) (fun x2 x3 x4 => next ((x2, x3, x4, ()), (()))) (fun z0 => k.1 z0), fuel := fun x => Zgg (x.1.1) (x.1.2.1) (x.1.2.2.1) }
def Z14n (R : Type) (x2 : Str) (x3 x4 : Int) (k0 : Int → Option R) : Option R :=
 runP Zts Ztp (Zj2).step R (Zgg x2 x3 x4) ((x2, x3, x4, ()), (())) (fun r => k0 (r), ())
abbrev Zuj := (R : Type) → Str → (Int → Option R) → Option R
def Zzl (R : Type) (a1 : Str) (k0 : Int → Option R) : Option R :=
 Z14n R a1 0 0 fun y7 =>
 k0 y7
def Znp : Zuj := Zzl
def Zn8 : StK := ⟨[(1, .sc (.ptr 0 0 0 0 0)), (2, .sc (.ptr 1 0 0 0 0)), (3, .sc (.i .u64)), (5, .sc (.i .i64))], [(true, [.ints .u64 (some 5)]), (true, [.ints .u64 (some 5)])]⟩
def Zn1 : List PShape := [⟨Int × (List Int) × (List Int), fun r => (.exit 0, ⟨[(1, .c (.sc (.ptr 0 0 0 0 0))), (2, .c (.sc (.ptr 1 0 0 0 0))), (3, .c (.sc (.int .u64 r.1)))], [(0, ⟨true, [.ints .u64 r.2.1 5]⟩), (1, ⟨true, [.ints .u64 r.2.2 5]⟩)], 2⟩)⟩]
def Zia (R : Type) (x3 x4 : Int) (x5 x6 : List Int) (next : Int → Int → (List Int) → (List Int) → Option R) (k0 : Int → (List Int) → (List Int) → Option R) : Option R :=
 br (ltI x4 5)
 (gd (inB x4 5) <|
 lett (addI .u64 (x5.getD x4.toNat 0) x3) fun (v7 : Int) =>
 gd (inB x4 5) <|
 gd (inB x4 5) <|
 lett ((x5.set x4.toNat v7).getD x4.toNat 0) fun (v8 : Int) =>
 gd (inB x4 5) <|
 lett ((x5.set x4.toNat v7).getD x4.toNat 0) fun (v9 : Int) =>
 lett (andI .u64 v9 2251799813685247) fun (v10 : Int) =>
 gd (inB x4 5) <|
 lett ((x5.set x4.toNat v7).set x4.toNat v10) fun (v11 : List Int) =>
 next (shrI .u64 v8 51) (addI .i64 x4 1) v11 x6)
 (k0 x3 x5 x6)
def Zc9 (x3 x4 : Int) (x5 x6 : List Int) : Nat := 100000 + (x3.toNat + x4.toNat + x5.length + x6.length)
def Zdu : Piece := { T := Zn8, shapes := Zn1, step := fun R x next k => Zia R (x.1.2.2.1) (x.1.2.2.2.1) (x.2.1.1) (x.2.2.1.1) (fun x3 x4 x5 x6 => next (((), (), x3, x4, ()), ((x5, ()), (x6, ()), ()))) (fun z0 z1 z2 => k.1 (z0, z1, z2)), fuel := fun x => Zc9 (x.1.2.2.1) (x.1.2.2.2.1) (x.2.1.1) (x.2.2.1.1) }
def Zzk (R : Type) (x3 x4 : Int) (x5 x6 : List Int) (k0 : Int → (List Int) → (List Int) → Option R) : Option R :=
 runP Zn8 Zn1 (Zdu).step R (Zc9 x3 x4 x5 x6) (((), (), x3, x4, ()), ((x5, ()), (x6, ()), ())) (fun r => k0 (r.1) (r.2.1) (r.2.2), ())
abbrev Z89 := (R : Type) → (List Int) → ((List Int) → Option R) → Option R
def Zr8 (R : Type) (a1 : List Int) (k0 : (List Int) → Option R) : Option R :=
 lett (List.replicate 5 (0 : Int)) fun (v2 : List Int) =>
 Zzk R 0 0 a1 v2 fun y12 y13 y14 =>
 lett (addI .u64 (y13.getD 0 0) (mulI .u64 19 y12)) fun (v15 : Int) =>
 k0 (y13.set 0 v15)
def Z51 : Z89 := Zr8
def Zt4 : StK := ⟨[(1, .sc (.ptr 0 0 0 0 0)), (2, .sc (.ptr 1 0 0 0 0)), (3, .sc (.ptr 2 0 0 0 0)), (13, .sc (.i .i64))], [(true, [.ints .u64 (some 5)]), (true, [.ints .u64 (some 5)]), (true, [.ints .u64 (some 5)])]⟩
def Zu7 : List PShape := [⟨(List Int) × (List Int) × (List Int), fun r => (.exit 0, ⟨[(1, .c (.sc (.ptr 0 0 0 0 0))), (2, .c (.sc (.ptr 1 0 0 0 0))), (3, .c (.sc (.ptr 2 0 0 0 0)))], [(0, ⟨true, [.ints .u64 r.1 5]⟩), (1, ⟨true, [.ints .u64 r.2.1 5]⟩), (2, ⟨true, [.ints .u64 r.2.2 5]⟩)], 3⟩)⟩]
def Zmn (g0 : Z89) (R : Type) (x7 : Int) (x8 x9 x10 : List Int) (next : Int → (List Int) → (List Int) → (List Int) → Option R) (k0 : (List Int) → (List Int) → (List Int) → Option R) : Option R :=
 br (ltI x7 4)
 (gd (inB (addI .i64 x7 1) 5) <|
 lett (x10.getD ((addI .i64 x7 1).toNat) 0) fun (v11 : Int) =>
 gd (inB x7 5) <|
 lett (shrI .u64 (x10.getD x7.toNat 0) 51) fun (v12 : Int) =>
 gd (inB (addI .i64 x7 1) 5) <|
 lett (x10.set ((addI .i64 x7 1).toNat) (addI .u64 v11 v12)) fun (v13 : List Int) =>
 gd (inB x7 5) <|
 lett (andI .u64 (v13.getD x7.toNat 0) 2251799813685247) fun (v14 : Int) =>
 gd (inB x7 5) <|
 next (addI .i64 x7 1) x8 x9 (v13.set x7.toNat v14))
 (k0 x8 x9 x10)
def Zge (x7 : Int) (x8 x9 x10 : List Int) : Nat := 100000 + (x7.toNat + x8.length + x9.length + x10.length)
def Zik (g0 : Z89) : Piece := { T := Zt4, shapes := Zu7, step := fun R x next k => Zmn g0 R (x.1.2.2.2.1) (x.2.1.1) (x.2.2.1.1) (x.2.2.2.1.1) (fun x7 x8 x9 x10 => next (((), (), (), x7, ()), ((x8, ()), (x9, ()), (x10, ()), ()))) (fun z0 z1 z2 => k.1 (z0, z1, z2)), fuel := fun x => Zge (x.1.2.2.2.1) (x.2.1.1) (x.2.2.1.1) (x.2.2.2.1.1) }
def Z14m (g0 : Z89) (R : Type) (x7 : Int) (x8 x9 x10 : List Int) (k0 : (List Int) → (List Int) → (List Int) → Option R) : Option R :=
 runP Zt4 Zu7 (Zik g0).step R (Zge x7 x8 x9 x10) (((), (), (), x7, ()), ((x8, ()), (x9, ()), (x10, ()), ())) (fun r => k0 (r.1) (r.2.1) (r.2.2), ())
abbrev Zub := (R : Type) → (List Int) → ((List Int) → Option R) → Option R
def Zy6 (g0 : Z89) (R : Type) (a1 : List Int) (k0 : (List Int) → Option R) : Option R :=
 lett (List.replicate 5 (0 : Int)) fun (v2 : List Int) =>
 g0 R a1 fun r3 =>
 g0 R r3 fun r4 =>
 lett (List.replicate 5 (0 : Int)) fun (v5 : List Int) =>
 lett (addI .u64 (r4.getD 0 0) 19) fun (v6 : Int) =>
 Z14m g0 R 0 r4 v2 (r4.set 0 v6) fun y15 y16 y17 =>
 lett (shrI .u64 (y17.getD 4 0) 51) fun (v18 : Int) =>
 br (ltI 0 v18)
 (lett (andI .u64 (y17.getD 4 0) 2251799813685247) fun (v19 : Int) =>
 k0 (y17.set 4 v19))
 (k0 y15)
def Zne : Zub := Zy6 Z51
abbrev Zg := (R : Type) → (List Int) → ((List Int) → Option R) → Option R
def Zsz (g0 : Zub) (R : Type) (a1 : List Int) (k0 : (List Int) → Option R) : Option R :=
 lett (List.replicate 5 (0 : Int)) fun (v2 : List Int) =>
 g0 R a1 fun r3 =>
 k0 r3
def Zc : Zg := Zsz Zne
abbrev Zhs := (R : Type) → Str → ((List Int) → Int → Option R) → Option R
def Z148 (g0 : Zuj) (g1 : Zg) (R : Type) (a1 : Str) (k0 : (List Int) → Int → Option R) : Option R :=
 lett (List.replicate 5 (0 : Int)) fun (v2 : List Int) =>
 lett (((a1.length : Nat) : Int)) fun (v3 : Int) =>
 br (!(eqI v3 32))
 (lett (List.replicate 5 (0 : Int)) fun (v4 : List Int) =>
 k0 v4 1)
 (gd (leB 8 a1.length) <|
 gd (leB 16 a1.length) <|
 gd (leB 24 a1.length) <|
 g0 R a1 fun r5 =>
 g0 R (a1.drop 8) fun r6 =>
 g0 R (a1.drop 16) fun r7 =>
 g0 R (a1.drop 24) fun r8 =>
 lett (andI .u64 r5 2251799813685247) fun (v9 : Int) =>
 lett (orI .u64 (shrI .u64 r5 51) (shlI .u64 r6 13)) fun (v10 : Int) =>
 lett (andI .u64 v10 2251799813685247) fun (v11 : Int) =>
 lett (orI .u64 (shrI .u64 r6 38) (shlI .u64 r7 26)) fun (v12 : Int) =>
 lett (andI .u64 v12 2251799813685247) fun (v13 : Int) =>
 lett (orI .u64 (shrI .u64 r7 25) (shlI .u64 r8 39)) fun (v14 : Int) =>
 lett (andI .u64 v14 2251799813685247) fun (v15 : Int) =>
 g1 R ((((((List.replicate 5 (0 : Int)).set 0 v9).set 1 v11).set 2 v13).set 3 v15).set 4 (shrI .u64 r8 12)) fun r16 =>
 k0 r16 0)
def Zep : Zhs := Z148 Znp Zc
def Zjk : StK := ⟨[(1, .sc (.ptr 0 0 0 0 0)), (3, .sc (.ptr 1 0 0 0 0)), (5, .sc (.i .i64))], [(true, [.ints .u64 (some 5)]), (true, [.bytes (some 32)])]⟩
def Zjt : List PShape := [⟨Str, fun r => (.exit 0, ⟨[(3, .c (.sc (.ptr 0 0 0 0 0)))], [(0, ⟨true, [.bytes r 32]⟩)], 1⟩)⟩]
def Zfp (R : Type) (x3 : Int) (x4 : List Int) (x5 : Str) (next : Int → (List Int) → Str → Option R) (k0 : Str → Option R) : Option R :=
 br (ltI x3 255)
 (gd (inB (quoI .i64 x3 8) 32) <|
 lett (((x5.getD ((quoI .i64 x3 8).toNat) 0).toNat : Int)) fun (v6 : Int) =>
 gd (inB (quoI .i64 x3 51) 5) <|
 lett (x4.getD ((quoI .i64 x3 51).toNat) 0) fun (v7 : Int) =>
 gd (leI 0 (remI x3 51)) <|
 lett (shrI .u64 v7 (remI x3 51)) fun (v8 : Int) =>
 lett (cvtI .u8 (andI .u64 v8 1)) fun (v9 : Int) =>
 gd (leI 0 (remI x3 8)) <|
 lett (orI .u8 v6 (shlI .u8 v9 (remI x3 8))) fun (v10 : Int) =>
 gd (inB (quoI .i64 x3 8) 32) <|
 lett (x5.set ((quoI .i64 x3 8).toNat) (UInt8.ofNat v10.toNat)) fun (v11 : Str) =>
 next (addI .i64 x3 1) x4 v11)
 (k0 x5)
def Zax (x3 : Int) (x4 : List Int) (x5 : Str) : Nat := 100000 + (x3.toNat + x4.length + x5.length)
def Zb9 : Piece := { T := Zjk, shapes := Zjt, step := fun R x next k => Zfp R (x.1.2.2.1) (x.2.1.1) (x.2.2.1.1) (fun x3 x4 x5 => next (((), (), x3, ()), ((x4, ()), (x5, ()), ()))) (fun z0 => k.1 z0), fuel := fun x => Zax (x.1.2.2.1) (x.2.1.1) (x.2.2.1.1) }
def Zuk (R : Type) (x3 : Int) (x4 : List Int) (x5 : Str) (k0 : Str → Option R) : Option R :=
 runP Zjk Zjt (Zb9).step R (Zax x3 x4 x5) (((), (), x3, ()), ((x4, ()), (x5, ()), ())) (fun r => k0 (r), ())
abbrev Z2i := (R : Type) → (List Int) → (Str → Option R) → Option R
def Zn0 (R : Type) (a1 : List Int) (k0 : Str → Option R) : Option R :=
 lett (List.replicate 32 (0 : UInt8)) fun (v2 : Str) =>
 Zuk R 0 a1 v2 fun y12 =>
 k0 ((y12.drop 0).take 32)
def Z21 : Z2i := Zn0
abbrev Z16 := (R : Type) → Int → Int → Int → Int → (Int → Int → Option R) → Option R
def Zml (g0 : Z2h) (g1 : Zu) (R : Type) (a1 a2 a3 a4 : Int) (k0 : Int → Int → Option R) : Option R :=
 g0 R a3 a4 fun r5 r6 =>
 g1 R a2 r6 0 fun r7 r8 =>
 lett (addI .u64 a1 (addI .u64 r5 r8)) fun (v9 : Int) =>
 k0 v9 r7
def Zt : Z16 := Zml Z1m Zj
def Zx6 : StK := ⟨[(2, .sc (.ptr 0 0 0 0 0)), (3, .sc (.ptr 1 0 0 0 0)), (4, .sc (.ptr 2 0 0 0 0)), (5, .sc (.ptr 3 0 0 0 0)), (6, .sc (.i .i64)), (15, .sc (.i .i64)), (18, .sc (.i .i64))], [(true, [.ints .u64 (some 5)]), (true, [.ints .u64 (some 5)]), (true, [.ints .u64 (some 5)]), (true, [.recs [.int .u64, .int .u64] (some 5)])]⟩
def Zx3 : List PShape := [⟨Int × Int × Int × (List Int) × (List Int) × (List Int) × (List (Tup [.int .u64, .int .u64])), fun r => (.normal, ⟨[(2, .c (.sc (.ptr 0 0 0 0 0))), (3, .c (.sc (.ptr 1 0 0 0 0))), (4, .c (.sc (.ptr 2 0 0 0 0))), (5, .c (.sc (.ptr 3 0 0 0 0))), (6, .c (.sc (.int .i64 r.1))), (15, .c (.sc (.int .i64 r.2.1))), (18, .c (.sc (.int .i64 r.2.2.1)))], [(0, ⟨true, [.ints .u64 r.2.2.2.1 5]⟩), (1, ⟨true, [.ints .u64 r.2.2.2.2.1 5]⟩), (2, ⟨true, [.ints .u64 r.2.2.2.2.2.1 5]⟩), (3, ⟨true, [.recs [.int .u64, .int .u64] r.2.2.2.2.2.2 5]⟩)], 4⟩)⟩]
def Zih (g0 : Z16) (g1 : Zu) (g2 : Zg) (R : Type) (x17 x18 x19 : Int) (x20 x21 x22 : List Int) (x23 : List (Tup [.int .u64, .int .u64])) (k0 : Int → Int → Int → (List Int) → (List Int) → (List Int) → (List (Tup [.int .u64, .int .u64])) → Option R) : Option R :=
 lett (ltI (addI .i64 x17 x19) 5) fun (v24 : Bool) =>
 br (v24)
 (gd (inB (addI .i64 x17 x19) 5) <|
 gd (inB x17 5) <|
 gd (inB x19 5) <|
 g0 R ((x23.getD ((addI .i64 x17 x19).toNat) (tupD [.int .u64, .int .u64])).1) ((x23.getD ((addI .i64 x17 x19).toNat) (tupD [.int .u64, .int .u64])).2.1) (x20.getD x17.toNat 0) (x21.getD x19.toNat 0) fun r25 r26 =>
 gd (inB (addI .i64 x17 x19) 5) <|
 lett (x23.set ((addI .i64 x17 x19).toNat) (r25, r26, ())) fun (v27 : List (Tup [.int .u64, .int .u64])) =>
 k0 x17 x18 x19 x20 x21 x22 v27)
 (lett (subI .i64 (addI .i64 x17 x19) 5) fun (v28 : Int) =>
 lett (subI .i64 (addI .i64 x17 x19) 5) fun (v29 : Int) =>
 gd (inB v29 5) <|
 gd (inB x17 5) <|
 lett (mulI .u64 19 (x20.getD x17.toNat 0)) fun (v30 : Int) =>
 gd (inB x19 5) <|
 g0 R ((x23.getD v29.toNat (tupD [.int .u64, .int .u64])).1) ((x23.getD v29.toNat (tupD [.int .u64, .int .u64])).2.1) v30 (x21.getD x19.toNat 0) fun r31 r32 =>
 gd (inB v28 5) <|
 lett (x23.set v28.toNat (r31, r32, ())) fun (v33 : List (Tup [.int .u64, .int .u64])) =>
 k0 x17 x18 x19 x20 x21 x22 v33)
def Zqf (x17 x18 x19 : Int) (x20 x21 x22 : List Int) (x23 : List (Tup [.int .u64, .int .u64])) : Nat := 1
def Zi0 (g0 : Z16) (g1 : Zu) (g2 : Zg) : Piece := { T := Zx6, shapes := Zx3, step := fun R x next k => Zih g0 g1 g2 R (x.1.2.2.2.2.1) (x.1.2.2.2.2.2.1) (x.1.2.2.2.2.2.2.1) (x.2.1.1) (x.2.2.1.1) (x.2.2.2.1.1) (x.2.2.2.2.1.1) (fun z0 z1 z2 z3 z4 z5 z6 => k.1 (z0, z1, z2, z3, z4, z5, z6)), fuel := fun x => Zqf (x.1.2.2.2.2.1) (x.1.2.2.2.2.2.1) (x.1.2.2.2.2.2.2.1) (x.2.1.1) (x.2.2.1.1) (x.2.2.2.1.1) (x.2.2.2.2.1.1) }
def Zyj (g0 : Z16) (g1 : Zu) (g2 : Zg) (R : Type) (x17 x18 x19 : Int) (x20 x21 x22 : List Int) (x23 : List (Tup [.int .u64, .int .u64])) (k0 : Int → Int → Int → (List Int) → (List Int) → (List Int) → (List (Tup [.int .u64, .int .u64])) → Option R) : Option R :=
 runP Zx6 Zx3 (Zi0 g0 g1 g2).step R (Zqf x17 x18 x19 x20 x21 x22 x23) (((), (), (), (), x17, x18, x19, ()), ((x20, ()), (x21, ()), (x22, ()), (x23, ()), ())) (fun r => k0 (r.1) (r.2.1) (r.2.2.1) (r.2.2.2.1) (r.2.2.2.2.1) (r.2.2.2.2.2.1) (r.2.2.2.2.2.2), ())
def Zn6 : StK := ⟨[(2, .sc (.ptr 0 0 0 0 0)), (3, .sc (.ptr 1 0 0 0 0)), (4, .sc (.ptr 2 0 0 0 0)), (5, .sc (.ptr 3 0 0 0 0)), (6, .sc (.i .i64)), (15, .sc (.i .i64)), (18, .sc (.i .i64))], [(true, [.ints .u64 (some 5)]), (true, [.ints .u64 (some 5)]), (true, [.ints .u64 (some 5)]), (true, [.recs [.int .u64, .int .u64] (some 5)])]⟩
def Zms : List PShape := [⟨Int × (List Int) × (List Int) × (List Int) × (List (Tup [.int .u64, .int .u64])), fun r => (.exit 2, ⟨[(2, .c (.sc (.ptr 0 0 0 0 0))), (3, .c (.sc (.ptr 1 0 0 0 0))), (4, .c (.sc (.ptr 2 0 0 0 0))), (5, .c (.sc (.ptr 3 0 0 0 0))), (15, .c (.sc (.int .i64 r.1)))], [(0, ⟨true, [.ints .u64 r.2.1 5]⟩), (1, ⟨true, [.ints .u64 r.2.2.1 5]⟩), (2, ⟨true, [.ints .u64 r.2.2.2.1 5]⟩), (3, ⟨true, [.recs [.int .u64, .int .u64] r.2.2.2.2 5]⟩)], 4⟩)⟩]
def Zic (g0 : Z16) (g1 : Zu) (g2 : Zg) (R : Type) (x10 x11 x12 : Int) (x13 x14 x15 : List Int) (x16 : List (Tup [.int .u64, .int .u64])) (next : Int → Int → Int → (List Int) → (List Int) → (List Int) → (List (Tup [.int .u64, .int .u64])) → Option R) (k0 : Int → (List Int) → (List Int) → (List Int) → (List (Tup [.int .u64, .int .u64])) → Option R) : Option R :=
 br (ltI x12 5)
 (Zyj g0 g1 g2 R x10 x11 x12 x13 x14 x15 x16 fun y34 y35 y36 y37 y38 y39 y40 =>
 next y34 y35 (addI .i64 y36 1) y37 y38 y39 y40)
 (k0 x11 x13 x14 x15 x16)
def Zcj (x10 x11 x12 : Int) (x13 x14 x15 : List Int) (x16 : List (Tup [.int .u64, .int .u64])) : Nat := 100000 + (x10.toNat + x11.toNat + x12.toNat + x13.length + x14.length + x15.length + x16.length)
def Zdn (g0 : Z16) (g1 : Zu) (g2 : Zg) : Piece := { T := Zn6, shapes := Zms, step := fun R x next k => Zic g0 g1 g2 R (x.1.2.2.2.2.1) (x.1.2.2.2.2.2.1) (x.1.2.2.2.2.2.2.1) (x.2.1.1) (x.2.2.1.1) (x.2.2.2.1.1) (x.2.2.2.2.1.1) (fun x10 x11 x12 x13 x14 x15 x16 => next (((), (), (), (), x10, x11, x12, ()), ((x13, ()), (x14, ()), (x15, ()), (x16, ()), ()))) (fun z0 z1 z2 z3 z4 => k.1 (z0, z1, z2, z3, z4)), fuel := fun x => Zcj (x.1.2.2.2.2.1) (x.1.2.2.2.2.2.1) (x.1.2.2.2.2.2.2.1) (x.2.1.1) (x.2.2.1.1) (x.2.2.2.1.1) (x.2.2.2.2.1.1) }
def Zyh (g0 : Z16) (g1 : Zu) (g2 : Zg) (R : Type) (x10 x11 x12 : Int) (x13 x14 x15 : List Int) (x16 : List (Tup [.int .u64, .int .u64])) (k0 : Int → (List Int) → (List Int) → (List Int) → (List (Tup [.int .u64, .int .u64])) → Option R) : Option R :=
 runP Zn6 Zms (Zdn g0 g1 g2).step R (Zcj x10 x11 x12 x13 x14 x15 x16) (((), (), (), (), x10, x11, x12, ()), ((x13, ()), (x14, ()), (x15, ()), (x16, ()), ())) (fun r => k0 (r.1) (r.2.1) (r.2.2.1) (r.2.2.2.1) (r.2.2.2.2), ())
def Zmp : StK := ⟨[(2, .sc (.ptr 0 0 0 0 0)), (3, .sc (.ptr 1 0 0 0 0)), (4, .sc (.ptr 2 0 0 0 0)), (5, .sc (.ptr 3 0 0 0 0)), (15, .sc (.i .i64))], [(true, [.ints .u64 (some 5)]), (true, [.ints .u64 (some 5)]), (true, [.ints .u64 (some 5)]), (true, [.recs [.int .u64, .int .u64] (some 5)])]⟩
def Zn3 : List PShape := [⟨(List Int) × (List (Tup [.int .u64, .int .u64])), fun r => (.exit 0, ⟨[(4, .c (.sc (.ptr 0 0 0 0 0))), (5, .c (.sc (.ptr 1 0 0 0 0)))], [(0, ⟨true, [.ints .u64 r.1 5]⟩), (1, ⟨true, [.recs [.int .u64, .int .u64] r.2 5]⟩)], 2⟩)⟩]
def Zi7 (g0 : Z16) (g1 : Zu) (g2 : Zg) (R : Type) (x5 : Int) (x6 x7 x8 : List Int) (x9 : List (Tup [.int .u64, .int .u64])) (next : Int → (List Int) → (List Int) → (List Int) → (List (Tup [.int .u64, .int .u64])) → Option R) (k0 : (List Int) → (List (Tup [.int .u64, .int .u64])) → Option R) : Option R :=
 br (ltI x5 5)
 (Zyh g0 g1 g2 R x5 x5 0 x6 x7 x8 x9 fun y41 y42 y43 y44 y45 =>
 next (addI .i64 y41 1) y42 y43 y44 y45)
 (k0 x8 x9)
def Zcg (x5 : Int) (x6 x7 x8 : List Int) (x9 : List (Tup [.int .u64, .int .u64])) : Nat := 100000 + (x5.toNat + x6.length + x7.length + x8.length + x9.length)
def Zdt (g0 : Z16) (g1 : Zu) (g2 : Zg) : Piece := { T := Zmp, shapes := Zn3, step := fun R x next k => Zi7 g0 g1 g2 R (x.1.2.2.2.2.1) (x.2.1.1) (x.2.2.1.1) (x.2.2.2.1.1) (x.2.2.2.2.1.1) (fun x5 x6 x7 x8 x9 => next (((), (), (), (), x5, ()), ((x6, ()), (x7, ()), (x8, ()), (x9, ()), ()))) (fun z0 z1 => k.1 (z0, z1)), fuel := fun x => Zcg (x.1.2.2.2.2.1) (x.2.1.1) (x.2.2.1.1) (x.2.2.2.1.1) (x.2.2.2.2.1.1) }
def Zy3 (g0 : Z16) (g1 : Zu) (g2 : Zg) (R : Type) (x5 : Int) (x6 x7 x8 : List Int) (x9 : List (Tup [.int .u64, .int .u64])) (k0 : (List Int) → (List (Tup [.int .u64, .int .u64])) → Option R) : Option R :=
 runP Zmp Zn3 (Zdt g0 g1 g2).step R (Zcg x5 x6 x7 x8 x9) (((), (), (), (), x5, ()), ((x6, ()), (x7, ()), (x8, ()), (x9, ()), ())) (fun r => k0 (r.1) (r.2), ())
def Zmt : StK := ⟨[(4, .sc (.ptr 0 0 0 0 0)), (8, .sc (.ptr 1 0 0 0 0)), (9, .sc (.i .u64)), (66, .agg [.recs [.int .u64, .int .u64] (some 5)]), (67, .sc (.i .i64))], [(true, [.ints .u64 (some 5)]), (true, [.ints .u64 (some 5)])]⟩
def Zmj : List PShape := [⟨Int × (List Int) × (List Int), fun r => (.exit 4, ⟨[(4, .c (.sc (.ptr 0 0 0 0 0))), (8, .c (.sc (.ptr 1 0 0 0 0))), (9, .c (.sc (.int .u64 r.1)))], [(0, ⟨true, [.ints .u64 r.2.1 5]⟩), (1, ⟨true, [.ints .u64 r.2.2 5]⟩)], 2⟩)⟩]
def Zii (g0 : Z16) (g1 : Zu) (g2 : Zg) (R : Type) (x49 : Int) (x50 : List (Tup [.int .u64, .int .u64])) (x51 : Int) (x52 x53 : List Int) (next : Int → (List (Tup [.int .u64, .int .u64])) → Int → (List Int) → (List Int) → Option R) (k0 : Int → (List Int) → (List Int) → Option R) : Option R :=
 br (ltI x51 5)
 (gd (inB x51 5) <|
 lett ((x50.getD x51.toNat (tupD [.int .u64, .int .u64])).1) fun (v54 : Int) =>
 lett ((x50.getD x51.toNat (tupD [.int .u64, .int .u64])).2.1) fun (v55 : Int) =>
 g1 R v55 x49 0 fun r56 r57 =>
 lett (andI .u64 r56 2251799813685247) fun (v58 : Int) =>
 gd (inB x51 5) <|
 lett (shlI .u64 (addI .u64 v54 r57) 13) fun (v59 : Int) =>
 lett (orI .u64 v59 (shrI .u64 r56 51)) fun (v60 : Int) =>
 next v60 x50 (addI .i64 x51 1) x52 (x53.set x51.toNat v58))
 (k0 x49 x52 x53)
def Zd6 (x49 : Int) (x50 : List (Tup [.int .u64, .int .u64])) (x51 : Int) (x52 x53 : List Int) : Nat := 100000 + (x49.toNat + x50.length + x51.toNat + x52.length + x53.length)
def Zdp (g0 : Z16) (g1 : Zu) (g2 : Zg) : Piece := { T := Zmt, shapes := Zmj, step := fun R x next k => Zii g0 g1 g2 R (x.1.2.2.1) (x.1.2.2.2.1.1) (x.1.2.2.2.2.1) (x.2.1.1) (x.2.2.1.1) (fun x49 x50 x51 x52 x53 => next (((), (), x49, (x50, ()), x51, ()), ((x52, ()), (x53, ()), ()))) (fun z0 z1 z2 => k.1 (z0, z1, z2)), fuel := fun x => Zd6 (x.1.2.2.1) (x.1.2.2.2.1.1) (x.1.2.2.2.2.1) (x.2.1.1) (x.2.2.1.1) }
def Zzh (g0 : Z16) (g1 : Zu) (g2 : Zg) (R : Type) (x49 : Int) (x50 : List (Tup [.int .u64, .int .u64])) (x51 : Int) (x52 x53 : List Int) (k0 : Int → (List Int) → (List Int) → Option R) : Option R :=
 runP Zmt Zmj (Zdp g0 g1 g2).step R (Zd6 x49 x50 x51 x52 x53) (((), (), x49, (x50, ()), x51, ()), ((x52, ()), (x53, ()), ())) (fun r => k0 (r.1) (r.2.1) (r.2.2), ())
abbrev Z6 := (R : Type) → (List Int) → (List Int) → ((List Int) → Option R) → Option R
def Zr3 (g0 : Z16) (g1 : Zu) (g2 : Zg) (R : Type) (a1 a2 : List Int) (k0 : (List Int) → Option R) : Option R :=
 lett (List.replicate 5 (0 : Int)) fun (v3 : List Int) =>
 lett (List.replicate 5 (tupD [.int .u64, .int .u64])) fun (v4 : List (Tup [.int .u64, .int .u64])) =>
 Zy3 g0 g1 g2 R 0 a1 a2 v3 v4 fun y46 y47 =>
 lett (List.replicate 5 (0 : Int)) fun (v48 : List Int) =>
 Zzh g0 g1 g2 R 0 y47 0 y46 v48 fun y61 y62 y63 =>
 lett (addI .u64 (y63.getD 0 0) (mulI .u64 19 y61)) fun (v64 : Int) =>
 g2 R (y63.set 0 v64) fun r65 =>
 k0 r65
def Z4 : Z6 := Zr3 Zt Zj Zc
def Zmz : StK := ⟨[(2, .sc (.ptr 0 0 0 0 0)), (3, .sc (.ptr 1 0 0 0 0)), (4, .sc (.ptr 2 0 0 0 0)), (6, .sc (.i .i64))], [(true, [.ints .u64 (some 5)]), (true, [.ints .u64 (some 5)]), (true, [.ints .u64 (some 5)])]⟩
def Zmm : List PShape := [⟨(List Int) × (List Int), fun r => (.exit 0, ⟨[(2, .c (.sc (.ptr 0 0 0 0 0))), (4, .c (.sc (.ptr 1 0 0 0 0)))], [(0, ⟨true, [.ints .u64 r.1 5]⟩), (1, ⟨true, [.ints .u64 r.2 5]⟩)], 2⟩)⟩]
def Zhu (g0 : Zg) (R : Type) (x4 : Int) (x5 x6 x7 : List Int) (next : Int → (List Int) → (List Int) → (List Int) → Option R) (k0 : (List Int) → (List Int) → Option R) : Option R :=
 br (ltI x4 5)
 (gd (inB x4 5) <|
 gd (inB x4 5) <|
 lett (subI .u64 4503599627370494 (x6.getD x4.toNat 0)) fun (v8 : Int) =>
 lett (addI .u64 (x5.getD x4.toNat 0) v8) fun (v9 : Int) =>
 gd (inB x4 5) <|
 next (addI .i64 x4 1) (x5.set x4.toNat v9) x6 x7)
 (k0 x5 x7)
def Zcx (x4 : Int) (x5 x6 x7 : List Int) : Nat := 100000 + (x4.toNat + x5.length + x6.length + x7.length)
def Zdg (g0 : Zg) : Piece := { T := Zmz, shapes := Zmm, step := fun R x next k => Zhu g0 R (x.1.2.2.2.1) (x.2.1.1) (x.2.2.1.1) (x.2.2.2.1.1) (fun x4 x5 x6 x7 => next (((), (), (), x4, ()), ((x5, ()), (x6, ()), (x7, ()), ()))) (fun z0 z1 => k.1 (z0, z1)), fuel := fun x => Zcx (x.1.2.2.2.1) (x.2.1.1) (x.2.2.1.1) (x.2.2.2.1.1) }
def Zy8 (g0 : Zg) (R : Type) (x4 : Int) (x5 x6 x7 : List Int) (k0 : (List Int) → (List Int) → Option R) : Option R :=
 runP Zmz Zmm (Zdg g0).step R (Zcx x4 x5 x6 x7) (((), (), (), x4, ()), ((x5, ()), (x6, ()), (x7, ()), ())) (fun r => k0 (r.1) (r.2), ())
abbrev Zy := (R : Type) → (List Int) → (List Int) → ((List Int) → Option R) → Option R
def Zrw (g0 : Zg) (R : Type) (a1 a2 : List Int) (k0 : (List Int) → Option R) : Option R :=
 lett (List.replicate 5 (0 : Int)) fun (v3 : List Int) =>
 Zy8 g0 R 0 a1 a2 v3 fun y10 y11 =>
 lett (subI .u64 (y10.getD 0 0) 36) fun (v12 : Int) =>
 g0 R (y10.set 0 v12) fun r13 =>
 k0 r13
def Zw : Zy := Zrw Zc
abbrev Zz := (R : Type) → Int → ((List Int) → Option R) → Option R
def Zwe (g0 : Zg) (g1 : Zy) (R : Type) (a1 : Int) (k0 : (List Int) → Option R) : Option R :=
 lett (List.replicate 5 (0 : Int)) fun (v2 : List Int) =>
 br (ltI a1 0)
 (lett (subI .i64 0 (addI .i64 a1 1)) fun (v3 : Int) =>
 lett (addI .u64 (cvtI .u64 v3) 1) fun (v4 : Int) =>
 lett (andI .u64 v4 2251799813685247) fun (v5 : Int) =>
 g0 R (((List.replicate 5 (0 : Int)).set 0 v5).set 1 (shrI .u64 v4 51)) fun r6 =>
 g1 R (List.replicate 5 (0 : Int)) r6 fun r7 =>
 k0 r7)
 (lett (andI .u64 (cvtI .u64 a1) 2251799813685247) fun (v8 : Int) =>
 lett (shrI .u64 (cvtI .u64 a1) 51) fun (v9 : Int) =>
 g0 R (((List.replicate 5 (0 : Int)).set 0 v8).set 1 v9) fun r10 =>
 k0 r10)
def Zv : Zz := Zwe Zc Zw
def Zh9 : StK := ⟨[(2, .sc (.ptr 0 0 0 0 0)), (4, .sc (.ptr 1 0 0 0 0)), (5, .sc (.i .i64)), (6, .sc (.i .i64))], [(true, [.ints .u64 (some 5)]), (true, [.ints .u64 (some 5)])]⟩
def Zhp : List PShape := [⟨(List Int) × (List Int), fun r => (.exit 0, ⟨[(2, .c (.sc (.ptr 0 0 0 0 0))), (4, .c (.sc (.ptr 1 0 0 0 0)))], [(0, ⟨true, [.ints .u64 r.1 5]⟩), (1, ⟨true, [.ints .u64 r.2 5]⟩)], 2⟩)⟩]
def Zds (g0 : Z6) (R : Type) (x4 x5 : Int) (x6 x7 : List Int) (next : Int → Int → (List Int) → (List Int) → Option R) (k0 : (List Int) → (List Int) → Option R) : Option R :=
 br (ltI x5 x4)
 (g0 R x6 x6 fun r8 =>
 next x4 (addI .i64 x5 1) r8 x7)
 (k0 x6 x7)
def Z97 (x4 x5 : Int) (x6 x7 : List Int) : Nat := 100000 + (x4.toNat + x5.toNat + x6.length + x7.length)
def Z94 (g0 : Z6) : Piece := { T := Zh9, shapes := Zhp, step := fun R x next k => Zds g0 R (x.1.2.2.1) (x.1.2.2.2.1) (x.2.1.1) (x.2.2.1.1) (fun x4 x5 x6 x7 => next (((), (), x4, x5, ()), ((x6, ()), (x7, ()), ()))) (fun z0 z1 => k.1 (z0, z1)), fuel := fun x => Z97 (x.1.2.2.1) (x.1.2.2.2.1) (x.2.1.1) (x.2.2.1.1) }
def Zqy (g0 : Z6) (R : Type) (x4 x5 : Int) (x6 x7 : List Int) (k0 : (List Int) → (List Int) → Option R) : Option R :=
 runP Zh9 Zhp (Z94 g0).step R (Z97 x4 x5 x6 x7) (((), (), x4, x5, ()), ((x6, ()), (x7, ()), ())) (fun r => k0 (r.1) (r.2), ())
abbrev Z1b := (R : Type) → (List Int) → Int → ((List Int) → Option R) → Option R
def Zjv (g0 : Z6) (R : Type) (a1 : List Int) (a2 : Int) (k0 : (List Int) → Option R) : Option R :=
 lett (List.replicate 5 (0 : Int)) fun (v3 : List Int) =>
 Zqy g0 R a2 0 a1 v3 fun y9 y10 =>
 k0 y9
def Z18 : Z1b := Zjv Z4
abbrev Z20 := (R : Type) → (List Int) → ((List Int) → (List Int) → Option R) → Option R
def Zpb (g0 : Z1b) (g1 : Z6) (R : Type) (a1 : List Int) (k0 : (List Int) → (List Int) → Option R) : Option R :=
 lett (List.replicate 5 (0 : Int)) fun (v2 : List Int) =>
 lett (List.replicate 5 (0 : Int)) fun (v3 : List Int) =>
 g0 R a1 1 fun r4 =>
 lett (List.replicate 5 (0 : Int)) fun (v5 : List Int) =>
 lett (List.replicate 5 (0 : Int)) fun (v6 : List Int) =>
 g0 R r4 2 fun r7 =>
 g1 R r7 a1 fun r8 =>
 g1 R r8 r4 fun r9 =>
 lett (List.replicate 5 (0 : Int)) fun (v10 : List Int) =>
 lett (List.replicate 5 (0 : Int)) fun (v11 : List Int) =>
 g0 R r9 1 fun r12 =>
 g1 R r12 r8 fun r13 =>
 lett (List.replicate 5 (0 : Int)) fun (v14 : List Int) =>
 g0 R r13 5 fun r15 =>
 g1 R r15 r13 fun r16 =>
 lett (List.replicate 5 (0 : Int)) fun (v17 : List Int) =>
 g0 R r16 10 fun r18 =>
 g1 R r18 r16 fun r19 =>
 lett (List.replicate 5 (0 : Int)) fun (v20 : List Int) =>
 g0 R r19 20 fun r21 =>
 g1 R r21 r19 fun r22 =>
 lett (List.replicate 5 (0 : Int)) fun (v23 : List Int) =>
 g0 R r22 10 fun r24 =>
 g1 R r24 r16 fun r25 =>
 lett (List.replicate 5 (0 : Int)) fun (v26 : List Int) =>
 g0 R r25 50 fun r27 =>
 g1 R r27 r25 fun r28 =>
 lett (List.replicate 5 (0 : Int)) fun (v29 : List Int) =>
 g0 R r28 100 fun r30 =>
 g1 R r30 r28 fun r31 =>
 g0 R r31 50 fun r32 =>
 g1 R r32 r25 fun r33 =>
 k0 r33 r9
def Z1w : Z20 := Zpb Z18 Z4
abbrev Z2b := (R : Type) → (List Int) → ((List Int) → Option R) → Option R
def Zqj (g0 : Z20) (g1 : Z1b) (g2 : Z6) (R : Type) (a1 : List Int) (k0 : (List Int) → Option R) : Option R :=
 lett (List.replicate 5 (0 : Int)) fun (v2 : List Int) =>
 g0 R a1 fun r3 r4 =>
 lett (List.replicate 5 (0 : Int)) fun (v5 : List Int) =>
 lett (List.replicate 5 (0 : Int)) fun (v6 : List Int) =>
 g1 R r3 5 fun r7 =>
 g2 R r7 r4 fun r8 =>
 k0 r8
def Z23 : Z2b := Zqj Z1w Z18 Z4
def Zm5 : StK := ⟨[(2, .sc (.ptr 0 0 0 0 0)), (3, .sc (.ptr 1 0 0 0 0)), (4, .sc (.ptr 2 0 0 0 0)), (6, .sc (.i .i64))], [(true, [.ints .u64 (some 5)]), (true, [.ints .u64 (some 5)]), (true, [.ints .u64 (some 5)])]⟩
def Zn2 : List PShape := [⟨(List Int) × (List Int), fun r => (.exit 0, ⟨[(2, .c (.sc (.ptr 0 0 0 0 0))), (4, .c (.sc (.ptr 1 0 0 0 0)))], [(0, ⟨true, [.ints .u64 r.1 5]⟩), (1, ⟨true, [.ints .u64 r.2 5]⟩)], 2⟩)⟩]
def Zhy (g0 : Zg) (R : Type) (x4 : Int) (x5 x6 x7 : List Int) (next : Int → (List Int) → (List Int) → (List Int) → Option R) (k0 : (List Int) → (List Int) → Option R) : Option R :=
 br (ltI x4 5)
 (gd (inB x4 5) <|
 gd (inB x4 5) <|
 lett (addI .u64 (x5.getD x4.toNat 0) (x6.getD x4.toNat 0)) fun (v8 : Int) =>
 gd (inB x4 5) <|
 next (addI .i64 x4 1) (x5.set x4.toNat v8) x6 x7)
 (k0 x5 x7)
def Zci (x4 : Int) (x5 x6 x7 : List Int) : Nat := 100000 + (x4.toNat + x5.length + x6.length + x7.length)
def Zdm (g0 : Zg) : Piece := { T := Zm5, shapes := Zn2, step := fun R x next k => Zhy g0 R (x.1.2.2.2.1) (x.2.1.1) (x.2.2.1.1) (x.2.2.2.1.1) (fun x4 x5 x6 x7 => next (((), (), (), x4, ()), ((x5, ()), (x6, ()), (x7, ()), ()))) (fun z0 z1 => k.1 (z0, z1)), fuel := fun x => Zci (x.1.2.2.2.1) (x.2.1.1) (x.2.2.1.1) (x.2.2.2.1.1) }
def Zyd (g0 : Zg) (R : Type) (x4 : Int) (x5 x6 x7 : List Int) (k0 : (List Int) → (List Int) → Option R) : Option R :=
 runP Zm5 Zn2 (Zdm g0).step R (Zci x4 x5 x6 x7) (((), (), (), x4, ()), ((x5, ()), (x6, ()), (x7, ()), ())) (fun r => k0 (r.1) (r.2), ())
abbrev Z3c := (R : Type) → (List Int) → (List Int) → ((List Int) → Option R) → Option R
def Zqw (g0 : Zg) (R : Type) (a1 a2 : List Int) (k0 : (List Int) → Option R) : Option R :=
 lett (List.replicate 5 (0 : Int)) fun (v3 : List Int) =>
 Zyd g0 R 0 a1 a2 v3 fun y9 y10 =>
 g0 R y9 fun r11 =>
 k0 r11
def Z30 : Z3c := Zqw Zc
def Zvh : StK := ⟨[(1, .sc (.ptr 0 0 0 0 0)), (2, .sc (.ptr 1 0 0 0 0)), (6, .sc (.ptr 2 0 0 0 0)), (24, .sc (.b))], [(true, [.ints .u64 (some 5)]), (true, [.ints .u64 (some 5)]), (true, [.ints .u64 (some 5)])]⟩
def Zux : List PShape := [⟨(List Int) × (List Int) × (List Int), fun r => (.normal, ⟨[(1, .c (.sc (.ptr 0 0 0 0 0))), (2, .c (.sc (.ptr 1 0 0 0 0))), (6, .c (.sc (.ptr 2 0 0 0 0)))], [(0, ⟨true, [.ints .u64 r.1 5]⟩), (1, ⟨true, [.ints .u64 r.2.1 5]⟩), (2, ⟨true, [.ints .u64 r.2.2 5]⟩)], 3⟩)⟩]
def Zh4 (g0 : Z20) (g1 : Z1b) (g2 : Z6) (g3 : Zz) (g4 : Zy) (R : Type) (x12 : Bool) (x13 x14 x15 : List Int) (k0 : (List Int) → (List Int) → (List Int) → Option R) : Option R :=
 br (x12)
 (g3 R 2 fun r16 =>
 g0 R r16 fun r17 r18 =>
 lett (List.replicate 5 (0 : Int)) fun (v19 : List Int) =>
 lett (List.replicate 5 (0 : Int)) fun (v20 : List Int) =>
 g1 R r17 3 fun r21 =>
 g3 R 8 fun r22 =>
 g2 R r21 r22 fun r23 =>
 g2 R x15 r23 fun r24 =>
 k0 x13 x14 r24)
 (k0 x13 x14 x15)
def Zpg (x12 : Bool) (x13 x14 x15 : List Int) : Nat := 1
def Zgj (g0 : Z20) (g1 : Z1b) (g2 : Z6) (g3 : Zz) (g4 : Zy) : Piece := { T := Zvh, shapes := Zux, step := fun R x next k => Zh4 g0 g1 g2 g3 g4 R (x.1.2.2.2.1) (x.2.1.1) (x.2.2.1.1) (x.2.2.2.1.1) (fun z0 z1 z2 => k.1 (z0, z1, z2)), fuel := fun x => Zpg (x.1.2.2.2.1) (x.2.1.1) (x.2.2.1.1) (x.2.2.2.1.1) }
def Zx4 (g0 : Z20) (g1 : Z1b) (g2 : Z6) (g3 : Zz) (g4 : Zy) (R : Type) (x12 : Bool) (x13 x14 x15 : List Int) (k0 : (List Int) → (List Int) → (List Int) → Option R) : Option R :=
 runP Zvh Zux (Zgj g0 g1 g2 g3 g4).step R (Zpg x12 x13 x14 x15) (((), (), (), x12, ()), ((x13, ()), (x14, ()), (x15, ()), ())) (fun r => k0 (r.1) (r.2.1) (r.2.2), ())
def Zv6 : StK := ⟨[(2, .sc (.ptr 0 0 0 0 0)), (6, .sc (.ptr 1 0 0 0 0)), (46, .sc (.b))], [(true, [.ints .u64 (some 5)]), (true, [.ints .u64 (some 5)])]⟩
def Zva : List PShape := [⟨(List Int) × (List Int), fun r => (.normal, ⟨[(2, .c (.sc (.ptr 0 0 0 0 0))), (6, .c (.sc (.ptr 1 0 0 0 0)))], [(0, ⟨true, [.ints .u64 r.1 5]⟩), (1, ⟨true, [.ints .u64 r.2 5]⟩)], 2⟩)⟩]
def Zhm (g0 : Z20) (g1 : Z1b) (g2 : Z6) (g3 : Zz) (g4 : Zy) (R : Type) (x31 : Bool) (x32 x33 : List Int) (k0 : (List Int) → (List Int) → Option R) : Option R :=
 br (x31)
 (g4 R (List.replicate 5 (0 : Int)) x33 fun r34 =>
 k0 x32 r34)
 (k0 x32 x33)
def Zph (x31 : Bool) (x32 x33 : List Int) : Nat := 1
def Zgc (g0 : Z20) (g1 : Z1b) (g2 : Z6) (g3 : Zz) (g4 : Zy) : Piece := { T := Zv6, shapes := Zva, step := fun R x next k => Zhm g0 g1 g2 g3 g4 R (x.1.2.2.1) (x.2.1.1) (x.2.2.1.1) (fun z0 z1 => k.1 (z0, z1)), fuel := fun x => Zph (x.1.2.2.1) (x.2.1.1) (x.2.2.1.1) }
def Zx5 (g0 : Z20) (g1 : Z1b) (g2 : Z6) (g3 : Zz) (g4 : Zy) (R : Type) (x31 : Bool) (x32 x33 : List Int) (k0 : (List Int) → (List Int) → Option R) : Option R :=
 runP Zv6 Zva (Zgc g0 g1 g2 g3 g4).step R (Zph x31 x32 x33) (((), (), x31, ()), ((x32, ()), (x33, ()), ())) (fun r => k0 (r.1) (r.2), ())
abbrev Z6w := (R : Type) → (List Int) → ((List Int) → Bool → Option R) → Option R
def Zov (g0 : Z20) (g1 : Z1b) (g2 : Z6) (g3 : Zz) (g4 : Zy) (R : Type) (a1 : List Int) (k0 : (List Int) → Bool → Option R) : Option R :=
 lett (List.replicate 5 (0 : Int)) fun (v2 : List Int) =>
 g0 R a1 fun r3 r4 =>
 lett (List.replicate 5 (0 : Int)) fun (v5 : List Int) =>
 lett (List.replicate 5 (0 : Int)) fun (v6 : List Int) =>
 lett (List.replicate 5 (0 : Int)) fun (v7 : List Int) =>
 g1 R r3 2 fun r8 =>
 g2 R r8 a1 fun r9 =>
 g2 R r9 a1 fun r10 =>
 g2 R r10 r10 fun r11 =>
 Zx4 g0 g1 g2 g3 g4 R (!(eqL r11 a1)) a1 v2 r10 fun y25 y26 y27 =>
 g2 R y27 y27 fun r28 =>
 br (!(eqL r28 y25))
 (lett (List.replicate 5 (0 : Int)) fun (v29 : List Int) =>
 k0 v29 false)
 (lett (andI .u64 (y27.getD 0 0) 1) fun (v30 : Int) =>
 Zx5 g0 g1 g2 g3 g4 R (eqI v30 1) y26 y27 fun y35 y36 =>
 k0 y36 true)
def Z57 : Z6w := Zov Z1w Z18 Z4 Zv Zw
end
noncomputable section
abbrev Z7g := (R : Type) → ((List Int) → Option R) → Option R
def Z115 (g0 : Zz) (R : Type) (k0 : (List Int) → Option R) : Option R :=
 lett (List.replicate 5 (0 : Int)) fun (v1 : List Int) =>
 g0 R 1 fun r2 =>
 k0 r2
def Z5z : Z7g := Z115 Zv
abbrev Z1g := (R : Type) → ((List Int) → Option R) → Option R
def Zu8 (g0 : Zz) (g1 : Z2b) (g2 : Z6) (R : Type) (k0 : (List Int) → Option R) : Option R :=
 lett (List.replicate 5 (0 : Int)) fun (v1 : List Int) =>
 g0 R (-121665) fun r2 =>
 g0 R 121666 fun r3 =>
 g1 R r3 fun r4 =>
 g2 R r2 r4 fun r5 =>
 k0 r5
def Z1f : Z1g := Zu8 Zv Z23 Z4
abbrev Z8u := (R : Type) → (List Int) → (List Int) → (List Int) → (List Int) → ((List Int) → (List Int) → (List Int) → (List Int) → Option R) → Option R
def Zzs (g0 : Z7g) (g1 : Zy) (R : Type) (a1 a2 a3 a4 : List Int) (k0 : (List Int) → (List Int) → (List Int) → (List Int) → Option R) : Option R :=
 lett (List.replicate 5 (0 : Int)) fun (v5 : List Int) =>
 lett (List.replicate 5 (0 : Int)) fun (v6 : List Int) =>
 lett (List.replicate 5 (0 : Int)) fun (v7 : List Int) =>
 lett (List.replicate 5 (0 : Int)) fun (v8 : List Int) =>
 g0 R fun r9 =>
 g1 R a2 r9 fun r10 =>
 g0 R fun r11 =>
 g1 R a3 r11 fun r12 =>
 k0 a1 r10 r12 a4
def Z72 : Z8u := Zzs Z5z Zw
def Z16c : StK := ⟨[(2, .sc (.ptr 0 0 0 0 0)), (6, .sc (.ptr 1 0 0 0 0)), (9, .sc (.ptr 2 0 0 0 0)), (67, .sc (.b))], [(true, [.ints .u64 (some 5), .ints .u64 (some 5), .ints .u64 (some 5), .ints .u64 (some 5)]), (true, [.ints .u64 (some 5)]), (true, [.ints .u64 (some 5)])]⟩
def Z16n : List PShape := [⟨(List Int) × (List Int) × (List Int) × (List Int) × (List Int) × (List Int), fun r => (.normal, ⟨[(2, .c (.sc (.ptr 0 0 0 0 0))), (6, .c (.sc (.ptr 1 0 0 0 0))), (9, .c (.sc (.ptr 2 0 0 0 0)))], [(0, ⟨true, [.ints .u64 r.1 5, .ints .u64 r.2.1 5, .ints .u64 r.2.2.1 5, .ints .u64 r.2.2.2.1 5]⟩), (1, ⟨true, [.ints .u64 r.2.2.2.2.1 5]⟩), (2, ⟨true, [.ints .u64 r.2.2.2.2.2 5]⟩)], 3⟩)⟩]
def Zrj (g0 : Zhs) (g1 : Z2i) (g2 : Z6) (g3 : Z7g) (g4 : Zy) (g5 : Z1g) (g6 : Z3c) (g7 : Z2b) (g8 : Z6w) (g9 : Z8u) (R : Type) (x44 : Bool) (x45 x46 x47 x48 x49 x50 : List Int) (k0 : (List Int) → (List Int) → (List Int) → (List Int) → (List Int) → (List Int) → Option R) : Option R :=
 br (x44)
 (g4 R (List.replicate 5 (0 : Int)) x50 fun r51 =>
 k0 x45 x46 x47 x48 x49 r51)
 (k0 x45 x46 x47 x48 x49 x50)
def Z10h (x44 : Bool) (x45 x46 x47 x48 x49 x50 : List Int) : Nat := 1
def Zud (g0 : Zhs) (g1 : Z2i) (g2 : Z6) (g3 : Z7g) (g4 : Zy) (g5 : Z1g) (g6 : Z3c) (g7 : Z2b) (g8 : Z6w) (g9 : Z8u) : Piece := { T := Z16c, shapes := Z16n, step := fun R x next k => Zrj g0 g1 g2 g3 g4 g5 g6 g7 g8 g9 R (x.1.2.2.2.1) (x.2.1.1) (x.2.1.2.1) (x.2.1.2.2.1) (x.2.1.2.2.2.1) (x.2.2.1.1) (x.2.2.2.1.1) (fun z0 z1 z2 z3 z4 z5 => k.1 (z0, z1, z2, z3, z4, z5)), fuel := fun x => Z10h (x.1.2.2.2.1) (x.2.1.1) (x.2.1.2.1) (x.2.1.2.2.1) (x.2.1.2.2.2.1) (x.2.2.1.1) (x.2.2.2.1.1) }
def Z112 (g0 : Zhs) (g1 : Z2i) (g2 : Z6) (g3 : Z7g) (g4 : Zy) (g5 : Z1g) (g6 : Z3c) (g7 : Z2b) (g8 : Z6w) (g9 : Z8u) (R : Type) (x44 : Bool) (x45 x46 x47 x48 x49 x50 : List Int) (k0 : (List Int) → (List Int) → (List Int) → (List Int) → (List Int) → (List Int) → Option R) : Option R :=
 runP Z16c Z16n (Zud g0 g1 g2 g3 g4 g5 g6 g7 g8 g9).step R (Z10h x44 x45 x46 x47 x48 x49 x50) (((), (), (), x44, ()), ((x45, x46, x47, x48, ()), (x49, ()), (x50, ()), ())) (fun r => k0 (r.1) (r.2.1) (r.2.2.1) (r.2.2.2.1) (r.2.2.2.2.1) (r.2.2.2.2.2), ())
abbrev Zpj := (R : Type) → Str → ((List Int) → (List Int) → (List Int) → (List Int) → Int → Option R) → Option R
def Z145 (g0 : Zhs) (g1 : Z2i) (g2 : Z6) (g3 : Z7g) (g4 : Zy) (g5 : Z1g) (g6 : Z3c) (g7 : Z2b) (g8 : Z6w) (g9 : Z8u) (R : Type) (a1 : Str) (k0 : (List Int) → (List Int) → (List Int) → (List Int) → Int → Option R) : Option R :=
 lett (List.replicate 5 (0 : Int)) fun (v2 : List Int) =>
 lett (List.replicate 5 (0 : Int)) fun (v3 : List Int) =>
 lett (List.replicate 5 (0 : Int)) fun (v4 : List Int) =>
 lett (List.replicate 5 (0 : Int)) fun (v5 : List Int) =>
 lett (((a1.length : Nat) : Int)) fun (v6 : Int) =>
 br (!(eqI v6 32))
 (lett (List.replicate 5 (0 : Int)) fun (v7 : List Int) =>
 lett (List.replicate 5 (0 : Int)) fun (v8 : List Int) =>
 lett (List.replicate 5 (0 : Int)) fun (v9 : List Int) =>
 lett (List.replicate 5 (0 : Int)) fun (v10 : List Int) =>
 k0 v7 v8 v9 v10 1)
 (gd (inB 31 a1.length) <|
 lett (((a1.getD 31 0).toNat : Int)) fun (v11 : Int) =>
 gd (inB 31 a1.length) <|
 lett (((a1.getD 31 0).toNat : Int)) fun (v12 : Int) =>
 gd (inB 31 a1.length) <|
 lett (a1.set 31 (UInt8.ofNat ((andI .u8 v12 127).toNat))) fun (v13 : Str) =>
 g0 R v13 fun r14 r15 =>
 lett (List.replicate 5 (0 : Int)) fun (v16 : List Int) =>
 g1 R r14 fun r17 =>
 br (!(eqS r17 v13))
 (lett (List.replicate 5 (0 : Int)) fun (v18 : List Int) =>
 lett (List.replicate 5 (0 : Int)) fun (v19 : List Int) =>
 lett (List.replicate 5 (0 : Int)) fun (v20 : List Int) =>
 lett (List.replicate 5 (0 : Int)) fun (v21 : List Int) =>
 k0 v18 v19 v20 v21 21)
 (g2 R r14 r14 fun r22 =>
 lett (List.replicate 5 (0 : Int)) fun (v23 : List Int) =>
 lett (List.replicate 5 (0 : Int)) fun (v24 : List Int) =>
 g3 R fun r25 =>
 g4 R r22 r25 fun r26 =>
 g5 R fun r27 =>
 g2 R r27 r22 fun r28 =>
 g3 R fun r29 =>
 g6 R r28 r29 fun r30 =>
 g7 R r30 fun r31 =>
 g2 R r26 r31 fun r32 =>
 g8 R r32 fun r33 r34 =>
 br (!r34)
 (lett (List.replicate 5 (0 : Int)) fun (v35 : List Int) =>
 lett (List.replicate 5 (0 : Int)) fun (v36 : List Int) =>
 lett (List.replicate 5 (0 : Int)) fun (v37 : List Int) =>
 lett (List.replicate 5 (0 : Int)) fun (v38 : List Int) =>
 k0 v35 v36 v37 v38 21)
 (br (eqI (shrI .u8 v11 7) 1)
 (lett (eqL r33 (List.replicate 5 (0 : Int))) fun (v39 : Bool) =>
 br (v39)
 (lett (List.replicate 5 (0 : Int)) fun (v40 : List Int) =>
 lett (List.replicate 5 (0 : Int)) fun (v41 : List Int) =>
 lett (List.replicate 5 (0 : Int)) fun (v42 : List Int) =>
 lett (List.replicate 5 (0 : Int)) fun (v43 : List Int) =>
 k0 v40 v41 v42 v43 21)
 (Z112 g0 g1 g2 g3 g4 g5 g6 g7 g8 g9 R (eqI (shrI .u8 v11 7) 1) v2 v3 v4 v5 r14 r33 fun y52 y53 y54 y55 y56 y57 =>
 g3 R fun r58 =>
 g2 R y57 y56 fun r59 =>
 g9 R y57 y56 r58 r59 fun r60 r61 r62 r63 =>
 k0 r60 r61 r62 r63 0))
 (Z112 g0 g1 g2 g3 g4 g5 g6 g7 g8 g9 R (eqI (shrI .u8 v11 7) 1) v2 v3 v4 v5 r14 r33 fun y64 y65 y66 y67 y68 y69 =>
 g3 R fun r70 =>
 g2 R y69 y68 fun r71 =>
 g9 R y69 y68 r70 r71 fun r72 r73 r74 r75 =>
 k0 r72 r73 r74 r75 0))))
def Zle : Zpj := Z145 Zep Z21 Z4 Z5z Zw Z1f Z30 Z23 Z57 Z72
abbrev Zj7 := (R : Type) → ((List Int) → (List Int) → (List Int) → (List Int) → Option R) → Option R
def Zyq (g0 : Zz) (g1 : Z2b) (g2 : Z6) (g3 : Z2i) (g4 : Zpj) (R : Type) (k0 : (List Int) → (List Int) → (List Int) → (List Int) → Option R) : Option R :=
 lett (List.replicate 5 (0 : Int)) fun (v1 : List Int) =>
 lett (List.replicate 5 (0 : Int)) fun (v2 : List Int) =>
 lett (List.replicate 5 (0 : Int)) fun (v3 : List Int) =>
 lett (List.replicate 5 (0 : Int)) fun (v4 : List Int) =>
 g0 R 4 fun r5 =>
 g0 R 5 fun r6 =>
 g1 R r6 fun r7 =>
 g2 R r5 r7 fun r8 =>
 g3 R r8 fun r9 =>
 g4 R r9 fun r10 r11 r12 r13 r14 =>
 lett (List.replicate 5 (0 : Int)) fun (v15 : List Int) =>
 lett (List.replicate 5 (0 : Int)) fun (v16 : List Int) =>
 lett (List.replicate 5 (0 : Int)) fun (v17 : List Int) =>
 lett (List.replicate 5 (0 : Int)) fun (v18 : List Int) =>
 k0 r10 r11 r12 r13
def Zfx : Zj7 := Zyq Zv Z23 Z4 Z21 Zle
abbrev Z9a := (R : Type) → (List Int) → (List Int) → (List Int) → (List Int) → ((List Int) → (List Int) → (List Int) → (List Int) → Option R) → Option R
def Zl0 (g0 : Z7g) (g1 : Z3c) (R : Type) (a1 a2 a3 a4 : List Int) (k0 : (List Int) → (List Int) → (List Int) → (List Int) → Option R) : Option R :=
 lett (List.replicate 5 (0 : Int)) fun (v5 : List Int) =>
 lett (List.replicate 5 (0 : Int)) fun (v6 : List Int) =>
 lett (List.replicate 5 (0 : Int)) fun (v7 : List Int) =>
 lett (List.replicate 5 (0 : Int)) fun (v8 : List Int) =>
 g0 R fun r9 =>
 g1 R a2 r9 fun r10 =>
 g0 R fun r11 =>
 g1 R a3 r11 fun r12 =>
 k0 a1 r10 r12 a4
def Z6o : Z9a := Zl0 Z5z Z30
abbrev Z1u := (R : Type) → (List Int) → (List Int) → (List Int) → (List Int) → (List Int) → (List Int) → (List Int) → (List Int) → (List Int) → ((List Int) → (List Int) → (List Int) → (List Int) → Option R) → Option R
def Zme (g0 : Z9a) (g1 : Zy) (g2 : Z6) (g3 : Z3c) (g4 : Z8u) (R : Type) (a1 a2 a3 a4 a5 a6 a7 a8 a9 : List Int) (k0 : (List Int) → (List Int) → (List Int) → (List Int) → Option R) : Option R :=
 lett (List.replicate 5 (0 : Int)) fun (v10 : List Int) =>
 lett (List.replicate 5 (0 : Int)) fun (v11 : List Int) =>
 lett (List.replicate 5 (0 : Int)) fun (v12 : List Int) =>
 lett (List.replicate 5 (0 : Int)) fun (v13 : List Int) =>
 g0 R a1 a2 a3 a4 fun r14 r15 r16 r17 =>
 lett (List.replicate 5 (0 : Int)) fun (v18 : List Int) =>
 lett (List.replicate 5 (0 : Int)) fun (v19 : List Int) =>
 lett (List.replicate 5 (0 : Int)) fun (v20 : List Int) =>
 lett (List.replicate 5 (0 : Int)) fun (v21 : List Int) =>
 g0 R a5 a6 a7 a8 fun r22 r23 r24 r25 =>
 lett (List.replicate 5 (0 : Int)) fun (v26 : List Int) =>
 lett (List.replicate 5 (0 : Int)) fun (v27 : List Int) =>
 lett (List.replicate 5 (0 : Int)) fun (v28 : List Int) =>
 lett (List.replicate 5 (0 : Int)) fun (v29 : List Int) =>
 lett (List.replicate 5 (0 : Int)) fun (v30 : List Int) =>
 g1 R r15 r14 fun r31 =>
 g1 R r23 r22 fun r32 =>
 g2 R r31 r32 fun r33 =>
 lett (List.replicate 5 (0 : Int)) fun (v34 : List Int) =>
 g3 R r15 r14 fun r35 =>
 g3 R r23 r22 fun r36 =>
 g2 R r35 r36 fun r37 =>
 lett (List.replicate 5 (0 : Int)) fun (v38 : List Int) =>
 g2 R r17 a9 fun r39 =>
 g2 R r39 r25 fun r40 =>
 lett (List.replicate 5 (0 : Int)) fun (v41 : List Int) =>
 g3 R r16 r16 fun r42 =>
 g2 R r42 r24 fun r43 =>
 lett (List.replicate 5 (0 : Int)) fun (v44 : List Int) =>
 lett (List.replicate 5 (0 : Int)) fun (v45 : List Int) =>
 lett (List.replicate 5 (0 : Int)) fun (v46 : List Int) =>
 lett (List.replicate 5 (0 : Int)) fun (v47 : List Int) =>
 g1 R r37 r33 fun r48 =>
 g1 R r43 r40 fun r49 =>
 g3 R r43 r40 fun r50 =>
 g3 R r37 r33 fun r51 =>
 g2 R r48 r49 fun r52 =>
 g2 R r50 r51 fun r53 =>
 g2 R r49 r50 fun r54 =>
 g2 R r48 r51 fun r55 =>
 g4 R r52 r53 r54 r55 fun r56 r57 r58 r59 =>
 k0 r56 r57 r58 r59
def Z1i : Z1u := Zme Z6o Zw Z4 Z30 Z72
def Zsm : StK := ⟨[(1, .sc (.s)), (2, .sc (.ptr 0 0 0 0 0)), (4, .sc (.ptr 1 0 0 0 0)), (6, .sc (.ptr 2 0 0 0 0)), (7, .sc (.ptr 3 0 0 0 0)), (8, .sc (.i .i64))], [(true, [.ints .u64 (some 5), .ints .u64 (some 5), .ints .u64 (some 5), .ints .u64 (some 5)]), (true, [.ints .u64 (some 5), .ints .u64 (some 5), .ints .u64 (some 5), .ints .u64 (some 5)]), (true, [.ints .u64 (some 5)]), (true, [.ints .u64 (some 5), .ints .u64 (some 5), .ints .u64 (some 5), .ints .u64 (some 5)])]⟩
def Zsk : List PShape := [⟨Str × Int × (List Int) × (List Int) × (List Int) × (List Int) × (List Int) × (List Int) × (List Int) × (List Int) × (List Int) × (List Int) × (List Int) × (List Int) × (List Int), fun r => (.normal, ⟨[(1, .c (.sc (.str r.1))), (2, .c (.sc (.ptr 0 0 0 0 0))), (4, .c (.sc (.ptr 1 0 0 0 0))), (6, .c (.sc (.ptr 2 0 0 0 0))), (7, .c (.sc (.ptr 3 0 0 0 0))), (8, .c (.sc (.int .i64 r.2.1)))], [(0, ⟨true, [.ints .u64 r.2.2.1 5, .ints .u64 r.2.2.2.1 5, .ints .u64 r.2.2.2.2.1 5, .ints .u64 r.2.2.2.2.2.1 5]⟩), (1, ⟨true, [.ints .u64 r.2.2.2.2.2.2.1 5, .ints .u64 r.2.2.2.2.2.2.2.1 5, .ints .u64 r.2.2.2.2.2.2.2.2.1 5, .ints .u64 r.2.2.2.2.2.2.2.2.2.1 5]⟩), (2, ⟨true, [.ints .u64 r.2.2.2.2.2.2.2.2.2.2.1 5]⟩), (3, ⟨true, [.ints .u64 r.2.2.2.2.2.2.2.2.2.2.2.1 5, .ints .u64 r.2.2.2.2.2.2.2.2.2.2.2.2.1 5, .ints .u64 r.2.2.2.2.2.2.2.2.2.2.2.2.2.1 5, .ints .u64 r.2.2.2.2.2.2.2.2.2.2.2.2.2.2 5]⟩)], 4⟩)⟩]
def Zft (g0 : Z1g) (g1 : Zz) (g2 : Z6) (g3 : Z1u) (R : Type) (x38 : Str) (x39 : Int) (x40 x41 x42 x43 x44 x45 x46 x47 x48 x49 x50 x51 x52 : List Int) (k0 : Str → Int → (List Int) → (List Int) → (List Int) → (List Int) → (List Int) → (List Int) → (List Int) → (List Int) → (List Int) → (List Int) → (List Int) → (List Int) → (List Int) → Option R) : Option R :=
 g3 R x49 x50 x51 x52 x49 x50 x51 x52 x48 fun r53 r54 r55 r56 =>
 gd (inB (quoI .i64 x39 8) x38.length) <|
 lett (((x38.getD ((quoI .i64 x39 8).toNat) 0).toNat : Int)) fun (v57 : Int) =>
 gd (leI 0 (remI x39 8)) <|
 lett (shrI .u8 v57 (remI x39 8)) fun (v58 : Int) =>
 br (eqI (andI .u8 v58 1) 1)
 (g3 R r53 r54 r55 r56 x40 x41 x42 x43 x48 fun r59 r60 r61 r62 =>
 k0 x38 x39 x40 x41 x42 x43 x44 x45 x46 x47 x48 r59 r60 r61 r62)
 (k0 x38 x39 x40 x41 x42 x43 x44 x45 x46 x47 x48 r53 r54 r55 r56)
def Zo0 (x38 : Str) (x39 : Int) (x40 x41 x42 x43 x44 x45 x46 x47 x48 x49 x50 x51 x52 : List Int) : Nat := 1
def Zf8 (g0 : Z1g) (g1 : Zz) (g2 : Z6) (g3 : Z1u) : Piece := { T := Zsm, shapes := Zsk, step := fun R x next k => Zft g0 g1 g2 g3 R (x.1.1) (x.1.2.2.2.2.2.1) (x.2.1.1) (x.2.1.2.1) (x.2.1.2.2.1) (x.2.1.2.2.2.1) (x.2.2.1.1) (x.2.2.1.2.1) (x.2.2.1.2.2.1) (x.2.2.1.2.2.2.1) (x.2.2.2.1.1) (x.2.2.2.2.1.1) (x.2.2.2.2.1.2.1) (x.2.2.2.2.1.2.2.1) (x.2.2.2.2.1.2.2.2.1) (fun z0 z1 z2 z3 z4 z5 z6 z7 z8 z9 z10 z11 z12 z13 z14 => k.1 (z0, z1, z2, z3, z4, z5, z6, z7, z8, z9, z10, z11, z12, z13, z14)), fuel := fun x => Zo0 (x.1.1) (x.1.2.2.2.2.2.1) (x.2.1.1) (x.2.1.2.1) (x.2.1.2.2.1) (x.2.1.2.2.2.1) (x.2.2.1.1) (x.2.2.1.2.1) (x.2.2.1.2.2.1) (x.2.2.1.2.2.2.1) (x.2.2.2.1.1) (x.2.2.2.2.1.1) (x.2.2.2.2.1.2.1) (x.2.2.2.2.1.2.2.1) (x.2.2.2.2.1.2.2.2.1) }
def Zuv (g0 : Z1g) (g1 : Zz) (g2 : Z6) (g3 : Z1u) (R : Type) (x38 : Str) (x39 : Int) (x40 x41 x42 x43 x44 x45 x46 x47 x48 x49 x50 x51 x52 : List Int) (k0 : Str → Int → (List Int) → (List Int) → (List Int) → (List Int) → (List Int) → (List Int) → (List Int) → (List Int) → (List Int) → (List Int) → (List Int) → (List Int) → (List Int) → Option R) : Option R :=
 runP Zsm Zsk (Zf8 g0 g1 g2 g3).step R (Zo0 x38 x39 x40 x41 x42 x43 x44 x45 x46 x47 x48 x49 x50 x51 x52) ((x38, (), (), (), (), x39, ()), ((x40, x41, x42, x43, ()), (x44, x45, x46, x47, ()), (x48, ()), (x49, x50, x51, x52, ()), ())) (fun r => k0 (r.1) (r.2.1) (r.2.2.1) (r.2.2.2.1) (r.2.2.2.2.1) (r.2.2.2.2.2.1) (r.2.2.2.2.2.2.1) (r.2.2.2.2.2.2.2.1) (r.2.2.2.2.2.2.2.2.1) (r.2.2.2.2.2.2.2.2.2.1) (r.2.2.2.2.2.2.2.2.2.2.1) (r.2.2.2.2.2.2.2.2.2.2.2.1) (r.2.2.2.2.2.2.2.2.2.2.2.2.1) (r.2.2.2.2.2.2.2.2.2.2.2.2.2.1) (r.2.2.2.2.2.2.2.2.2.2.2.2.2.2), ())
def Zjn : StK := ⟨[(1, .sc (.s)), (2, .sc (.ptr 0 0 0 0 0)), (4, .sc (.ptr 1 0 0 0 0)), (6, .sc (.ptr 2 0 0 0 0)), (7, .sc (.ptr 3 0 0 0 0)), (8, .sc (.i .i64))], [(true, [.ints .u64 (some 5), .ints .u64 (some 5), .ints .u64 (some 5), .ints .u64 (some 5)]), (true, [.ints .u64 (some 5), .ints .u64 (some 5), .ints .u64 (some 5), .ints .u64 (some 5)]), (true, [.ints .u64 (some 5)]), (true, [.ints .u64 (some 5), .ints .u64 (some 5), .ints .u64 (some 5), .ints .u64 (some 5)])]⟩
def Zje : List PShape := [⟨(List Int) × (List Int) × (List Int) × (List Int) × (List Int) × (List Int) × (List Int) × (List Int), fun r => (.exit 0, ⟨[(4, .c (.sc (.ptr 0 0 0 0 0))), (7, .c (.sc (.ptr 1 0 0 0 0)))], [(0, ⟨true, [.ints .u64 r.1 5, .ints .u64 r.2.1 5, .ints .u64 r.2.2.1 5, .ints .u64 r.2.2.2.1 5]⟩), (1, ⟨true, [.ints .u64 r.2.2.2.2.1 5, .ints .u64 r.2.2.2.2.2.1 5, .ints .u64 r.2.2.2.2.2.2.1 5, .ints .u64 r.2.2.2.2.2.2.2 5]⟩)], 2⟩)⟩]
def Zfm (g0 : Z1g) (g1 : Zz) (g2 : Z6) (g3 : Z1u) (R : Type) (x23 : Str) (x24 : Int) (x25 x26 x27 x28 x29 x30 x31 x32 x33 x34 x35 x36 x37 : List Int) (next : Str → Int → (List Int) → (List Int) → (List Int) → (List Int) → (List Int) → (List Int) → (List Int) → (List Int) → (List Int) → (List Int) → (List Int) → (List Int) → (List Int) → Option R) (k0 : (List Int) → (List Int) → (List Int) → (List Int) → (List Int) → (List Int) → (List Int) → (List Int) → Option R) : Option R :=
 br (leI 0 x24)
 (Zuv g0 g1 g2 g3 R x23 x24 x25 x26 x27 x28 x29 x30 x31 x32 x33 x34 x35 x36 x37 fun y63 y64 y65 y66 y67 y68 y69 y70 y71 y72 y73 y74 y75 y76 y77 =>
 next y63 (subI .i64 y64 1) y65 y66 y67 y68 y69 y70 y71 y72 y73 y74 y75 y76 y77)
 (k0 x29 x30 x31 x32 x34 x35 x36 x37)
def Zaw (x23 : Str) (x24 : Int) (x25 x26 x27 x28 x29 x30 x31 x32 x33 x34 x35 x36 x37 : List Int) : Nat := 100000 + (x23.length + x24.toNat + x25.length + x26.length + x27.length + x28.length + x29.length + x30.length + x31.length + x32.length + x33.length + x34.length + x35.length + x36.length + x37.length)
def Zb7 (g0 : Z1g) (g1 : Zz) (g2 : Z6) (g3 : Z1u) : Piece := { T := Zjn, shapes := Zje, step := fun R x next k => Zfm g0 g1 g2 g3 R (x.1.1) (x.1.2.2.2.2.2.1) (x.2.1.1) (x.2.1.2.1) (x.2.1.2.2.1) (x.2.1.2.2.2.1) (x.2.2.1.1) (x.2.2.1.2.1) (x.2.2.1.2.2.1) (x.2.2.1.2.2.2.1) (x.2.2.2.1.1) (x.2.2.2.2.1.1) (x.2.2.2.2.1.2.1) (x.2.2.2.2.1.2.2.1) (x.2.2.2.2.1.2.2.2.1) (fun x23 x24 x25 x26 x27 x28 x29 x30 x31 x32 x33 x34 x35 x36 x37 => next ((x23, (), (), (), (), x24, ()), ((x25, x26, x27, x28, ()), (x29, x30, x31, x32, ()), (x33, ()), (x34, x35, x36, x37, ()), ()))) (fun z0 z1 z2 z3 z4 z5 z6 z7 => k.1 (z0, z1, z2, z3, z4, z5, z6, z7)), fuel := fun x => Zaw (x.1.1) (x.1.2.2.2.2.2.1) (x.2.1.1) (x.2.1.2.1) (x.2.1.2.2.1) (x.2.1.2.2.2.1) (x.2.2.1.1) (x.2.2.1.2.1) (x.2.2.1.2.2.1) (x.2.2.1.2.2.2.1) (x.2.2.2.1.1) (x.2.2.2.2.1.1) (x.2.2.2.2.1.2.1) (x.2.2.2.2.1.2.2.1) (x.2.2.2.2.1.2.2.2.1) }
def Zus (g0 : Z1g) (g1 : Zz) (g2 : Z6) (g3 : Z1u) (R : Type) (x23 : Str) (x24 : Int) (x25 x26 x27 x28 x29 x30 x31 x32 x33 x34 x35 x36 x37 : List Int) (k0 : (List Int) → (List Int) → (List Int) → (List Int) → (List Int) → (List Int) → (List Int) → (List Int) → Option R) : Option R :=
 runP Zjn Zje (Zb7 g0 g1 g2 g3).step R (Zaw x23 x24 x25 x26 x27 x28 x29 x30 x31 x32 x33 x34 x35 x36 x37) ((x23, (), (), (), (), x24, ()), ((x25, x26, x27, x28, ()), (x29, x30, x31, x32, ()), (x33, ()), (x34, x35, x36, x37, ()), ())) (fun r => k0 (r.1) (r.2.1) (r.2.2.1) (r.2.2.2.1) (r.2.2.2.2.1) (r.2.2.2.2.2.1) (r.2.2.2.2.2.2.1) (r.2.2.2.2.2.2.2), ())
abbrev Zaj := (R : Type) → (List Int) → (List Int) → (List Int) → (List Int) → Str → ((List Int) → (List Int) → (List Int) → (List Int) → Int → Option R) → Option R
def Zm8 (g0 : Z1g) (g1 : Zz) (g2 : Z6) (g3 : Z1u) (R : Type) (a1 a2 a3 a4 : List Int) (a5 : Str) (k0 : (List Int) → (List Int) → (List Int) → (List Int) → Int → Option R) : Option R :=
 lett (List.replicate 5 (0 : Int)) fun (v6 : List Int) =>
 lett (List.replicate 5 (0 : Int)) fun (v7 : List Int) =>
 lett (List.replicate 5 (0 : Int)) fun (v8 : List Int) =>
 lett (List.replicate 5 (0 : Int)) fun (v9 : List Int) =>
 lett (((a5.length : Nat) : Int)) fun (v10 : Int) =>
 br (!(eqI v10 32))
 (lett (List.replicate 5 (0 : Int)) fun (v11 : List Int) =>
 lett (List.replicate 5 (0 : Int)) fun (v12 : List Int) =>
 lett (List.replicate 5 (0 : Int)) fun (v13 : List Int) =>
 lett (List.replicate 5 (0 : Int)) fun (v14 : List Int) =>
 k0 v11 v12 v13 v14 1)
 (g0 R fun r15 =>
 g1 R 2 fun r16 =>
 g2 R r15 r16 fun r17 =>
 lett (List.replicate 5 (0 : Int)) fun (v18 : List Int) =>
 lett (List.replicate 5 (0 : Int)) fun (v19 : List Int) =>
 lett (List.replicate 5 (0 : Int)) fun (v20 : List Int) =>
 lett (List.replicate 5 (0 : Int)) fun (v21 : List Int) =>
 lett (List.replicate 5 (0 : Int)) fun (v22 : List Int) =>
 Zus g0 g1 g2 g3 R a5 255 a1 a2 a3 a4 v6 v7 v8 v9 r17 v19 v20 v21 v22 fun y78 y79 y80 y81 y82 y83 y84 y85 =>
 k0 y82 y83 y84 y85 0)
def Z7x : Zaj := Zm8 Z1f Zv Z4 Z1i
abbrev Zid := (R : Type) → (List Int) → (List Int) → (List Int) → (List Int) → ((List Int) → (List Int) → (List Int) → (List Int) → Option R) → Option R
def Zmw (g0 : Zy) (R : Type) (a1 a2 a3 a4 : List Int) (k0 : (List Int) → (List Int) → (List Int) → (List Int) → Option R) : Option R :=
 lett (List.replicate 5 (0 : Int)) fun (v5 : List Int) =>
 lett (List.replicate 5 (0 : Int)) fun (v6 : List Int) =>
 lett (List.replicate 5 (0 : Int)) fun (v7 : List Int) =>
 lett (List.replicate 5 (0 : Int)) fun (v8 : List Int) =>
 lett (List.replicate 5 (0 : Int)) fun (v9 : List Int) =>
 g0 R v9 a1 fun r10 =>
 g0 R v9 a4 fun r11 =>
 k0 r10 a2 a3 r11
def Zdi : Zid := Zmw Zw
abbrev Zhz := (R : Type) → (List Int) → (List Int) → (List Int) → (List Int) → (List Int) → (List Int) → (List Int) → (List Int) → ((List Int) → (List Int) → (List Int) → (List Int) → Option R) → Option R
def Zmu (g0 : Z1g) (g1 : Zz) (g2 : Z6) (g3 : Z1u) (R : Type) (a1 a2 a3 a4 a5 a6 a7 a8 : List Int) (k0 : (List Int) → (List Int) → (List Int) → (List Int) → Option R) : Option R :=
 lett (List.replicate 5 (0 : Int)) fun (v9 : List Int) =>
 lett (List.replicate 5 (0 : Int)) fun (v10 : List Int) =>
 lett (List.replicate 5 (0 : Int)) fun (v11 : List Int) =>
 lett (List.replicate 5 (0 : Int)) fun (v12 : List Int) =>
 g0 R fun r13 =>
 g1 R 2 fun r14 =>
 g2 R r13 r14 fun r15 =>
 g3 R a1 a2 a3 a4 a5 a6 a7 a8 r15 fun r16 r17 r18 r19 =>
 k0 r16 r17 r18 r19
def Zdx : Zhz := Zmu Z1f Zv Z4 Z1i
abbrev Z8a := (R : Type) → (List Int) → (List Int) → (List Int) → (List Int) → (Str → Option R) → Option R
def Zjl (g0 : Z9a) (g1 : Z2b) (g2 : Z6) (g3 : Z2i) (R : Type) (a1 a2 a3 a4 : List Int) (k0 : Str → Option R) : Option R :=
 g0 R a1 a2 a3 a4 fun r5 r6 r7 r8 =>
 lett (List.replicate 5 (0 : Int)) fun (v9 : List Int) =>
 lett (List.replicate 5 (0 : Int)) fun (v10 : List Int) =>
 lett (List.replicate 5 (0 : Int)) fun (v11 : List Int) =>
 lett (List.replicate 5 (0 : Int)) fun (v12 : List Int) =>
 g1 R r7 fun r13 =>
 lett (List.replicate 5 (0 : Int)) fun (v14 : List Int) =>
 g2 R r6 r13 fun r15 =>
 g3 R r15 fun r16 =>
 gd (inB 31 r16.length) <|
 lett (((r16.getD 31 0).toNat : Int)) fun (v17 : Int) =>
 g2 R r5 r13 fun r18 =>
 g3 R r18 fun r19 =>
 gd (inB 0 r19.length) <|
 lett (((r19.getD 0 0).toNat : Int)) fun (v20 : Int) =>
 lett (shlI .u8 (andI .u8 v20 1) 7) fun (v21 : Int) =>
 gd (inB 31 r16.length) <|
 lett (r16.set 31 (UInt8.ofNat ((orI .u8 v17 v21).toNat))) fun (v22 : Str) =>
 k0 v22
def Z5q : Z8a := Zjl Z6o Z23 Z4 Z21
end
noncomputable section
def Zol : StK := ⟨[(0, .sc (.s)), (3, .sc (.sl 0 1 none)), (10, .sc (.i .i64)), (11, .sc (.i .i64))], [(true, [.ints .u64 none])]⟩
def Zpc : List PShape := [⟨(List Int), fun r => (.exit 0, ⟨[(3, .c (.sc (.slice 0 1 none none)))], [(0, ⟨true, [.ints .u64 r r.length]⟩)], 1⟩)⟩]
def Zji (R : Type) (x5 : Str) (x6 x7 : Int) (x8 : List Int) (next : Str → Int → Int → (List Int) → Option R) (k0 : (List Int) → Option R) : Option R :=
 br (ltI x7 x6)
 (gd (inB (quoI .i64 x7 8) x8.length) <|
 lett (x8.getD ((quoI .i64 x7 8).toNat) 0) fun (v9 : Int) =>
 gd (inB x7 x5.length) <|
 lett (((x5.getD x7.toNat 0).toNat : Int)) fun (v10 : Int) =>
 gd (leI 0 (mulI .i64 8 (remI x7 8))) <|
 lett (shlI .u64 (cvtI .u64 v10) (mulI .i64 8 (remI x7 8))) fun (v11 : Int) =>
 gd (inB (quoI .i64 x7 8) x8.length) <|
 lett (x8.set ((quoI .i64 x7 8).toNat) (orI .u64 v9 v11)) fun (v12 : List Int) =>
 next x5 x6 (addI .i64 x7 1) v12)
 (k0 x8)
def Ze6 (x5 : Str) (x6 x7 : Int) (x8 : List Int) : Nat := 100000 + (x5.length + x6.toNat + x7.toNat + x8.length)
def Zez : Piece := { T := Zol, shapes := Zpc, step := fun R x next k => Zji R (x.1.1) (x.1.2.2.1) (x.1.2.2.2.1) (x.2.1.1) (fun x5 x6 x7 x8 => next ((x5, (), x6, x7, ()), ((x8, ()), ()))) (fun z0 => k.1 z0), fuel := fun x => Ze6 (x.1.1) (x.1.2.2.1) (x.1.2.2.2.1) (x.2.1.1) }
def Z110 (R : Type) (x5 : Str) (x6 x7 : Int) (x8 : List Int) (k0 : (List Int) → Option R) : Option R :=
 runP Zol Zpc (Zez).step R (Ze6 x5 x6 x7 x8) ((x5, (), x6, x7, ()), ((x8, ()), ())) (fun r => k0 (r), ())
abbrev Z1h := (R : Type) → Str → ((List Int) → Option R) → Option R
def Ztx (R : Type) (a1 : Str) (k0 : (List Int) → Option R) : Option R :=
 lett (((a1.length : Nat) : Int)) fun (v2 : Int) =>
 gd (makeB (quoI .i64 v2 8) 8) <|
 gd (leB (quoI .i64 v2 8) ((quoI .i64 v2 8).toNat)) <|
 lett (List.replicate ((quoI .i64 v2 8).toNat) (0 : Int)) fun (v3 : List Int) =>
 lett (((a1.length : Nat) : Int)) fun (v4 : Int) =>
 Z110 R a1 v4 0 v3 fun y13 =>
 k0 y13
def Z17 : Z1h := Ztx
abbrev Z5x := (R : Type) → ((List Int) → Option R) → Option R
def Zt5 (R : Type) (k0 : (List Int) → Option R) : Option R :=
 lett (List.replicate 4 (0 : Int)) fun (v1 : List Int) =>
 lett (((((List.replicate 4 (0 : Int)).set 0 6346243789798364141).set 1 1503914060200516822).set 2 0).set 3 1152921504606846976) fun (v2 : List Int) =>
 k0 v2
def Z3x : Z5x := Zt5
def Zfn : StK := ⟨[(2, .sc (.ptr 0 0 0 0 0)), (3, .sc (.ptr 1 0 0 0 0)), (4, .sc (.ptr 2 0 0 0 0)), (6, .sc (.i .u64)), (8, .sc (.i .i64))], [(true, [.ints .u64 (some 4)]), (true, [.ints .u64 (some 4)]), (true, [.ints .u64 (some 4)])]⟩
def Zfo : List PShape := [⟨Int × (List Int) × (List Int), fun r => (.exit 0, ⟨[(2, .c (.sc (.ptr 0 0 0 0 0))), (4, .c (.sc (.ptr 1 0 0 0 0))), (6, .c (.sc (.int .u64 r.1)))], [(0, ⟨true, [.ints .u64 r.2.1 4]⟩), (1, ⟨true, [.ints .u64 r.2.2 4]⟩)], 2⟩)⟩]
def Zcf (g0 : Zfl) (R : Type) (x4 x5 : Int) (x6 x7 x8 : List Int) (next : Int → Int → (List Int) → (List Int) → (List Int) → Option R) (k0 : Int → (List Int) → (List Int) → Option R) : Option R :=
 br (ltI x5 4)
 (gd (inB x5 4) <|
 gd (inB x5 4) <|
 g0 R (x6.getD x5.toNat 0) (x7.getD x5.toNat 0) x4 fun r9 r10 =>
 gd (inB x5 4) <|
 next r10 (addI .i64 x5 1) (x6.set x5.toNat r9) x7 x8)
 (k0 x4 x6 x8)
def Z8h (x4 x5 : Int) (x6 x7 x8 : List Int) : Nat := 100000 + (x4.toNat + x5.toNat + x6.length + x7.length + x8.length)
def Z85 (g0 : Zfl) : Piece := { T := Zfn, shapes := Zfo, step := fun R x next k => Zcf g0 R (x.1.2.2.2.1) (x.1.2.2.2.2.1) (x.2.1.1) (x.2.2.1.1) (x.2.2.2.1.1) (fun x4 x5 x6 x7 x8 => next (((), (), (), x4, x5, ()), ((x6, ()), (x7, ()), (x8, ()), ()))) (fun z0 z1 z2 => k.1 (z0, z1, z2)), fuel := fun x => Z8h (x.1.2.2.2.1) (x.1.2.2.2.2.1) (x.2.1.1) (x.2.2.1.1) (x.2.2.2.1.1) }
def Zpe (g0 : Zfl) (R : Type) (x4 x5 : Int) (x6 x7 x8 : List Int) (k0 : Int → (List Int) → (List Int) → Option R) : Option R :=
 runP Zfn Zfo (Z85 g0).step R (Z8h x4 x5 x6 x7 x8) (((), (), (), x4, x5, ()), ((x6, ()), (x7, ()), (x8, ()), ())) (fun r => k0 (r.1) (r.2.1) (r.2.2), ())
abbrev Z2f := (R : Type) → (List Int) → (List Int) → ((List Int) → Int → Option R) → Option R
def Zhx (g0 : Zfl) (R : Type) (a1 a2 : List Int) (k0 : (List Int) → Int → Option R) : Option R :=
 lett (List.replicate 4 (0 : Int)) fun (v3 : List Int) =>
 Zpe g0 R 0 0 a1 a2 v3 fun y11 y12 y13 =>
 k0 y12 y11
def Z1o : Z2f := Zhx Zb2
abbrev Zo8 := (R : Type) → Str → (Bool → Option R) → Option R
def Ztz (g0 : Z1h) (g1 : Z5x) (g2 : Z2f) (R : Type) (a1 : Str) (k0 : Bool → Option R) : Option R :=
 lett (((a1.length : Nat) : Int)) fun (v2 : Int) =>
 br (!(eqI v2 32))
 (k0 false)
 (lett (List.replicate 4 (0 : Int)) fun (v3 : List Int) =>
 g0 R a1 fun r4 =>
 gd (Nat.ble 4 r4.length) <|
 gd (Nat.ble 4 r4.length) <|
 g1 R fun r5 =>
 g2 R ((r4.drop 0).take 4) r5 fun r6 r7 =>
 k0 (eqI r7 1))
def Zj0 : Zo8 := Ztz Z17 Z3x Z1o
def Zfk : StK := ⟨[(1, .sc (.i .u64)), (2, .sc (.ptr 0 0 0 0 0)), (4, .sc (.ptr 1 0 0 0 0)), (8, .sc (.i .i64))], [(true, [.ints .u64 (some 4)]), (true, [.ints .u64 (some 4)])]⟩
def Zfq : List PShape := [⟨(List Int) × (List Int), fun r => (.exit 0, ⟨[(2, .c (.sc (.ptr 0 0 0 0 0))), (4, .c (.sc (.ptr 1 0 0 0 0)))], [(0, ⟨true, [.ints .u64 r.1 4]⟩), (1, ⟨true, [.ints .u64 r.2 4]⟩)], 2⟩)⟩]
def Zd5 (g0 : Z5x) (g1 : Z2f) (R : Type) (x4 x5 : Int) (x6 x7 : List Int) (next : Int → Int → (List Int) → (List Int) → Option R) (k0 : (List Int) → (List Int) → Option R) : Option R :=
 br (ltI x5 4)
 (gd (inB x5 4) <|
 lett (shlI .u64 (x6.getD x5.toNat 0) 1) fun (v8 : Int) =>
 gd (inB x5 4) <|
 lett (shrI .u64 (x6.getD x5.toNat 0) 63) fun (v9 : Int) =>
 gd (inB x5 4) <|
 lett (x6.set x5.toNat (orI .u64 v8 x4)) fun (v10 : List Int) =>
 next v9 (addI .i64 x5 1) v10 x7)
 (k0 x6 x7)
def Z8d (x4 x5 : Int) (x6 x7 : List Int) : Nat := 100000 + (x4.toNat + x5.toNat + x6.length + x7.length)
def Z83 (g0 : Z5x) (g1 : Z2f) : Piece := { T := Zfk, shapes := Zfq, step := fun R x next k => Zd5 g0 g1 R (x.1.1) (x.1.2.2.2.1) (x.2.1.1) (x.2.2.1.1) (fun x4 x5 x6 x7 => next ((x4, (), (), x5, ()), ((x6, ()), (x7, ()), ()))) (fun z0 z1 => k.1 (z0, z1)), fuel := fun x => Z8d (x.1.1) (x.1.2.2.2.1) (x.2.1.1) (x.2.2.1.1) }
def Zpf (g0 : Z5x) (g1 : Z2f) (R : Type) (x4 x5 : Int) (x6 x7 : List Int) (k0 : (List Int) → (List Int) → Option R) : Option R :=
 runP Zfk Zfq (Z83 g0 g1).step R (Z8d x4 x5 x6 x7) ((x4, (), (), x5, ()), ((x6, ()), (x7, ()), ())) (fun r => k0 (r.1) (r.2), ())
abbrev Z1p := (R : Type) → (List Int) → Int → ((List Int) → Option R) → Option R
def Zi5 (g0 : Z5x) (g1 : Z2f) (R : Type) (a1 : List Int) (a2 : Int) (k0 : (List Int) → Option R) : Option R :=
 lett (List.replicate 4 (0 : Int)) fun (v3 : List Int) =>
 Zpf g0 g1 R a2 0 a1 v3 fun y11 y12 =>
 lett (List.replicate 4 (0 : Int)) fun (v13 : List Int) =>
 g0 R fun r14 =>
 g1 R y11 r14 fun r15 r16 =>
 br (eqI r16 0)
 (k0 r15)
 (k0 y11)
def Z1c : Z1p := Zi5 Z3x Z1o
def Zjf : StK := ⟨[(0, .sc (.sl 0 1 none)), (2, .sc (.ptr 1 0 0 0 0)), (3, .sc (.ptr 2 0 0 0 0)), (4, .sc (.i .i64)), (5, .sc (.i .i64))], [(true, [.ints .u64 none]), (true, [.ints .u64 (some 4)]), (true, [.ints .u64 (some 4)])]⟩
def Zjp : List PShape := [⟨Int × (List Int) × (List Int) × (List Int), fun r => (.exit 2, ⟨[(0, .c (.sc (.slice 0 1 none none))), (2, .c (.sc (.ptr 1 0 0 0 0))), (3, .c (.sc (.ptr 2 0 0 0 0))), (4, .c (.sc (.int .i64 r.1)))], [(0, ⟨true, [.ints .u64 r.2.1 r.2.1.length]⟩), (1, ⟨true, [.ints .u64 r.2.2.1 4]⟩), (2, ⟨true, [.ints .u64 r.2.2.2 4]⟩)], 3⟩)⟩]
def Zfj (g0 : Z1p) (R : Type) (x9 x10 : Int) (x11 x12 x13 : List Int) (next : Int → Int → (List Int) → (List Int) → (List Int) → Option R) (k0 : Int → (List Int) → (List Int) → (List Int) → Option R) : Option R :=
 br (leI 0 x10)
 (gd (inB x9 x11.length) <|
 gd (leI 0 x10) <|
 lett (shrI .u64 (x11.getD x9.toNat 0) x10) fun (v14 : Int) =>
 g0 R x13 (andI .u64 v14 1) fun r15 =>
 next x9 (subI .i64 x10 1) x11 x12 r15)
 (k0 x9 x11 x12 x13)
def Zb3 (x9 x10 : Int) (x11 x12 x13 : List Int) : Nat := 100000 + (x9.toNat + x10.toNat + x11.length + x12.length + x13.length)
def Zb6 (g0 : Z1p) : Piece := { T := Zjf, shapes := Zjp, step := fun R x next k => Zfj g0 R (x.1.2.2.2.1) (x.1.2.2.2.2.1) (x.2.1.1) (x.2.2.1.1) (x.2.2.2.1.1) (fun x9 x10 x11 x12 x13 => next (((), (), (), x9, x10, ()), ((x11, ()), (x12, ()), (x13, ()), ()))) (fun z0 z1 z2 z3 => k.1 (z0, z1, z2, z3)), fuel := fun x => Zb3 (x.1.2.2.2.1) (x.1.2.2.2.2.1) (x.2.1.1) (x.2.2.1.1) (x.2.2.2.1.1) }
def Zuz (g0 : Z1p) (R : Type) (x9 x10 : Int) (x11 x12 x13 : List Int) (k0 : Int → (List Int) → (List Int) → (List Int) → Option R) : Option R :=
 runP Zjf Zjp (Zb6 g0).step R (Zb3 x9 x10 x11 x12 x13) (((), (), (), x9, x10, ()), ((x11, ()), (x12, ()), (x13, ()), ())) (fun r => k0 (r.1) (r.2.1) (r.2.2.1) (r.2.2.2), ())
def Zjq : StK := ⟨[(0, .sc (.sl 0 1 none)), (2, .sc (.ptr 1 0 0 0 0)), (3, .sc (.ptr 2 0 0 0 0)), (4, .sc (.i .i64))], [(true, [.ints .u64 none]), (true, [.ints .u64 (some 4)]), (true, [.ints .u64 (some 4)])]⟩
def Zjo : List PShape := [⟨(List Int) × (List Int) × (List Int), fun r => (.exit 0, ⟨[(2, .c (.sc (.ptr 1 0 0 0 0))), (3, .c (.sc (.ptr 2 0 0 0 0)))], [(0, ⟨true, [.ints .u64 r.1 r.1.length]⟩), (1, ⟨true, [.ints .u64 r.2.1 4]⟩), (2, ⟨true, [.ints .u64 r.2.2 4]⟩)], 3⟩)⟩]
def Zfe (g0 : Z1p) (R : Type) (x5 : Int) (x6 x7 x8 : List Int) (next : Int → (List Int) → (List Int) → (List Int) → Option R) (k0 : (List Int) → (List Int) → (List Int) → Option R) : Option R :=
 br (leI 0 x5)
 (Zuz g0 R x5 63 x6 x7 x8 fun y16 y17 y18 y19 =>
 next (subI .i64 y16 1) y17 y18 y19)
 (k0 x6 x7 x8)
def Zb1 (x5 : Int) (x6 x7 x8 : List Int) : Nat := 100000 + (x5.toNat + x6.length + x7.length + x8.length)
def Zbe (g0 : Z1p) : Piece := { T := Zjq, shapes := Zjo, step := fun R x next k => Zfe g0 R (x.1.2.2.2.1) (x.2.1.1) (x.2.2.1.1) (x.2.2.2.1.1) (fun x5 x6 x7 x8 => next (((), (), (), x5, ()), ((x6, ()), (x7, ()), (x8, ()), ()))) (fun z0 z1 z2 => k.1 (z0, z1, z2)), fuel := fun x => Zb1 (x.1.2.2.2.1) (x.2.1.1) (x.2.2.1.1) (x.2.2.2.1.1) }
def Zut (g0 : Z1p) (R : Type) (x5 : Int) (x6 x7 x8 : List Int) (k0 : (List Int) → (List Int) → (List Int) → Option R) : Option R :=
 runP Zjq Zjo (Zbe g0).step R (Zb1 x5 x6 x7 x8) (((), (), (), x5, ()), ((x6, ()), (x7, ()), (x8, ()), ())) (fun r => k0 (r.1) (r.2.1) (r.2.2), ())
abbrev Z1d := (R : Type) → (List Int) → ((List Int) → (List Int) → Option R) → Option R
def Zn4 (g0 : Z1p) (R : Type) (a1 : List Int) (k0 : (List Int) → (List Int) → Option R) : Option R :=
 lett (List.replicate 4 (0 : Int)) fun (v2 : List Int) =>
 lett (List.replicate 4 (0 : Int)) fun (v3 : List Int) =>
 lett (((a1.length : Nat) : Int)) fun (v4 : Int) =>
 Zut g0 R (subI .i64 v4 1) a1 v2 v3 fun y20 y21 y22 =>
 k0 y22 y20
def Z10 : Z1d := Zn4 Z1c
def Zel : StK := ⟨[(1, .sc (.ptr 0 0 0 0 0)), (3, .sc (.ptr 1 0 0 0 0)), (5, .sc (.i .i64))], [(true, [.ints .u64 (some 4)]), (true, [.bytes (some 32)])]⟩
def Zej : List PShape := [⟨Str, fun r => (.exit 0, ⟨[(3, .c (.sc (.ptr 0 0 0 0 0)))], [(0, ⟨true, [.bytes r 32]⟩)], 1⟩)⟩]
def Zc3 (R : Type) (x3 : Int) (x4 : List Int) (x5 : Str) (next : Int → (List Int) → Str → Option R) (k0 : Str → Option R) : Option R :=
 br (ltI x3 32)
 (gd (inB (quoI .i64 x3 8) 4) <|
 lett (x4.getD ((quoI .i64 x3 8).toNat) 0) fun (v6 : Int) =>
 gd (leI 0 (mulI .i64 8 (remI x3 8))) <|
 lett (shrI .u64 v6 (mulI .i64 8 (remI x3 8))) fun (v7 : Int) =>
 gd (inB x3 32) <|
 lett (x5.set x3.toNat (UInt8.ofNat ((cvtI .u8 v7).toNat))) fun (v8 : Str) =>
 next (addI .i64 x3 1) x4 v8)
 (k0 x5)
def Z7a (x3 : Int) (x4 : List Int) (x5 : Str) : Nat := 100000 + (x3.toNat + x4.length + x5.length)
def Z75 : Piece := { T := Zel, shapes := Zej, step := fun R x next k => Zc3 R (x.1.2.2.1) (x.2.1.1) (x.2.2.1.1) (fun x3 x4 x5 => next (((), (), x3, ()), ((x4, ()), (x5, ()), ()))) (fun z0 => k.1 z0), fuel := fun x => Z7a (x.1.2.2.1) (x.2.1.1) (x.2.2.1.1) }
def Zo4 (R : Type) (x3 : Int) (x4 : List Int) (x5 : Str) (k0 : Str → Option R) : Option R :=
 runP Zel Zej (Z75).step R (Z7a x3 x4 x5) (((), (), x3, ()), ((x4, ()), (x5, ()), ())) (fun r => k0 (r), ())
abbrev Zx := (R : Type) → (List Int) → (Str → Option R) → Option R
def Zhg (R : Type) (a1 : List Int) (k0 : Str → Option R) : Option R :=
 lett (List.replicate 32 (0 : UInt8)) fun (v2 : Str) =>
 Zo4 R 0 a1 v2 fun y9 =>
 k0 ((y9.drop 0).take 32)
def Zk : Zx := Zhg
abbrev Zba := (R : Type) → Str → (Str → Int → Option R) → Option R
def Zvq (g0 : Z1h) (g1 : Z1d) (g2 : Zx) (R : Type) (a1 : Str) (k0 : Str → Int → Option R) : Option R :=
 lett (((a1.length : Nat) : Int)) fun (v2 : Int) =>
 br (!(eqI v2 64))
 (k0 ([] : Str) 1)
 (g0 R a1 fun r3 =>
 g1 R r3 fun r4 r5 =>
 g2 R r4 fun r6 =>
 k0 r6 0)
def Z76 : Zba := Zvq Z17 Z10 Zk
def Zn5 : StK := ⟨[(1, .sc (.s)), (8, .sc (.sl 0 1 none)), (9, .sc (.i .i64)), (10, .sc (.i .u64)), (11, .sc (.i .u64)), (36, .sc (.sl 1 1 none)), (37, .sc (.i .i64)), (38, .sc (.i .i64)), (44, .sc (.sl 2 1 none)), (45, .sc (.i .i64)), (46, .sc (.i .i64))], [(true, [.ints .u64 none]), (true, [.ints .u64 none]), (true, [.ints .u64 none])]⟩
def Zmr : List PShape := [⟨Str × Int × Int × Int × Int × (List Int) × (List Int), fun r => (.exit 2, ⟨[(1, .c (.sc (.str r.1))), (8, .c (.sc (.slice 0 1 none none))), (9, .c (.sc (.int .i64 r.2.1))), (11, .c (.sc (.int .u64 r.2.2.1))), (36, .c (.sc (.slice 1 1 none none))), (37, .c (.sc (.int .i64 r.2.2.2.1))), (38, .c (.sc (.int .i64 r.2.2.2.2.1)))], [(0, ⟨true, [.ints .u64 r.2.2.2.2.2.1 r.2.2.2.2.2.1.length]⟩), (1, ⟨true, [.ints .u64 r.2.2.2.2.2.2 r.2.2.2.2.2.2.length]⟩)], 2⟩)⟩]
def Zie (g0 : Z1h) (g1 : Z2h) (g2 : Zu) (g3 : Z1d) (g4 : Zx) (R : Type) (x17 : Str) (x18 x19 x20 x21 x22 x23 x24 : Int) (x25 x26 x27 : List Int) (next : Str → Int → Int → Int → Int → Int → Int → Int → (List Int) → (List Int) → (List Int) → Option R) (k0 : Str → Int → Int → Int → Int → (List Int) → (List Int) → Option R) : Option R :=
 br (ltI x24 x23)
 (gd (inB x24 x27.length) <|
 g1 R x19 (x27.getD x24.toNat 0) fun r28 r29 =>
 g2 R r29 x20 0 fun r30 r31 =>
 gd (inB (addI .i64 x18 x24) x25.length) <|
 lett (x25.getD ((addI .i64 x18 x24).toNat) 0) fun (v32 : Int) =>
 g2 R v32 r30 0 fun r33 r34 =>
 gd (inB (addI .i64 x18 x24) x25.length) <|
 lett (x25.set ((addI .i64 x18 x24).toNat) r33) fun (v35 : List Int) =>
 lett (addI .u64 (addI .u64 r28 r31) r34) fun (v36 : Int) =>
 next x17 x18 x19 v36 x21 x22 x23 (addI .i64 x24 1) v35 x26 x27)
 (k0 x17 x18 x20 x21 x22 x25 x26)
def Zcu (x17 : Str) (x18 x19 x20 x21 x22 x23 x24 : Int) (x25 x26 x27 : List Int) : Nat := 100000 + (x17.length + x18.toNat + x19.toNat + x20.toNat + x21.toNat + x22.toNat + x23.toNat + x24.toNat + x25.length + x26.length + x27.length)
def Ze0 (g0 : Z1h) (g1 : Z2h) (g2 : Zu) (g3 : Z1d) (g4 : Zx) : Piece := { T := Zn5, shapes := Zmr, step := fun R x next k => Zie g0 g1 g2 g3 g4 R (x.1.1) (x.1.2.2.1) (x.1.2.2.2.1) (x.1.2.2.2.2.1) (x.1.2.2.2.2.2.2.1) (x.1.2.2.2.2.2.2.2.1) (x.1.2.2.2.2.2.2.2.2.2.1) (x.1.2.2.2.2.2.2.2.2.2.2.1) (x.2.1.1) (x.2.2.1.1) (x.2.2.2.1.1) (fun x17 x18 x19 x20 x21 x22 x23 x24 x25 x26 x27 => next ((x17, (), x18, x19, x20, (), x21, x22, (), x23, x24, ()), ((x25, ()), (x26, ()), (x27, ()), ()))) (fun z0 z1 z2 z3 z4 z5 z6 => k.1 (z0, z1, z2, z3, z4, z5, z6)), fuel := fun x => Zcu (x.1.1) (x.1.2.2.1) (x.1.2.2.2.1) (x.1.2.2.2.2.1) (x.1.2.2.2.2.2.2.1) (x.1.2.2.2.2.2.2.2.1) (x.1.2.2.2.2.2.2.2.2.2.1) (x.1.2.2.2.2.2.2.2.2.2.2.1) (x.2.1.1) (x.2.2.1.1) (x.2.2.2.1.1) }
def Zya (g0 : Z1h) (g1 : Z2h) (g2 : Zu) (g3 : Z1d) (g4 : Zx) (R : Type) (x17 : Str) (x18 x19 x20 x21 x22 x23 x24 : Int) (x25 x26 x27 : List Int) (k0 : Str → Int → Int → Int → Int → (List Int) → (List Int) → Option R) : Option R :=
 runP Zn5 Zmr (Ze0 g0 g1 g2 g3 g4).step R (Zcu x17 x18 x19 x20 x21 x22 x23 x24 x25 x26 x27) ((x17, (), x18, x19, x20, (), x21, x22, (), x23, x24, ()), ((x25, ()), (x26, ()), (x27, ()), ())) (fun r => k0 (r.1) (r.2.1) (r.2.2.1) (r.2.2.2.1) (r.2.2.2.2.1) (r.2.2.2.2.2.1) (r.2.2.2.2.2.2), ())
def Zmh : StK := ⟨[(1, .sc (.s)), (8, .sc (.sl 0 1 none)), (11, .sc (.i .u64)), (17, .sc (.i .i64)), (36, .sc (.sl 1 1 none)), (37, .sc (.i .i64)), (38, .sc (.i .i64))], [(true, [.ints .u64 none]), (true, [.ints .u64 none])]⟩
def Zn9 : List PShape := [⟨Str × Int × Int × (List Int) × (List Int), fun r => (.exit 4, ⟨[(1, .c (.sc (.str r.1))), (8, .c (.sc (.slice 0 1 none none))), (36, .c (.sc (.slice 1 1 none none))), (37, .c (.sc (.int .i64 r.2.1))), (38, .c (.sc (.int .i64 r.2.2.1)))], [(0, ⟨true, [.ints .u64 r.2.2.2.1 r.2.2.2.1.length]⟩), (1, ⟨true, [.ints .u64 r.2.2.2.2 r.2.2.2.2.length]⟩)], 2⟩)⟩]
def Zi3 (g0 : Z1h) (g1 : Z2h) (g2 : Zu) (g3 : Z1d) (g4 : Zx) (R : Type) (x44 : Str) (x45 x46 x47 x48 : Int) (x49 x50 : List Int) (next : Str → Int → Int → Int → Int → (List Int) → (List Int) → Option R) (k0 : Str → Int → Int → (List Int) → (List Int) → Option R) : Option R :=
 lett (((x49.length : Nat) : Int)) fun (v51 : Int) =>
 br (ltI x46 v51)
 (gd (inB x46 x49.length) <|
 g2 R (x49.getD x46.toNat 0) x45 0 fun r52 r53 =>
 gd (inB x46 x49.length) <|
 next x44 r53 (addI .i64 x46 1) x47 x48 (x49.set x46.toNat r52) x50)
 (k0 x44 x47 x48 x49 x50)
def Zc8 (x44 : Str) (x45 x46 x47 x48 : Int) (x49 x50 : List Int) : Nat := 100000 + (x44.length + x45.toNat + x46.toNat + x47.toNat + x48.toNat + x49.length + x50.length)
def Zdz (g0 : Z1h) (g1 : Z2h) (g2 : Zu) (g3 : Z1d) (g4 : Zx) : Piece := { T := Zmh, shapes := Zn9, step := fun R x next k => Zi3 g0 g1 g2 g3 g4 R (x.1.1) (x.1.2.2.1) (x.1.2.2.2.1) (x.1.2.2.2.2.2.1) (x.1.2.2.2.2.2.2.1) (x.2.1.1) (x.2.2.1.1) (fun x44 x45 x46 x47 x48 x49 x50 => next ((x44, (), x45, x46, (), x47, x48, ()), ((x49, ()), (x50, ()), ()))) (fun z0 z1 z2 z3 z4 => k.1 (z0, z1, z2, z3, z4)), fuel := fun x => Zc8 (x.1.1) (x.1.2.2.1) (x.1.2.2.2.1) (x.1.2.2.2.2.2.1) (x.1.2.2.2.2.2.2.1) (x.2.1.1) (x.2.2.1.1) }
def Zz0 (g0 : Z1h) (g1 : Z2h) (g2 : Zu) (g3 : Z1d) (g4 : Zx) (R : Type) (x44 : Str) (x45 x46 x47 x48 : Int) (x49 x50 : List Int) (k0 : Str → Int → Int → (List Int) → (List Int) → Option R) : Option R :=
 runP Zmh Zn9 (Zdz g0 g1 g2 g3 g4).step R (Zc8 x44 x45 x46 x47 x48 x49 x50) ((x44, (), x45, x46, (), x47, x48, ()), ((x49, ()), (x50, ()), ())) (fun r => k0 (r.1) (r.2.1) (r.2.2.1) (r.2.2.2.1) (r.2.2.2.2), ())
def Zm2 : StK := ⟨[(1, .sc (.s)), (8, .sc (.sl 0 1 none)), (36, .sc (.sl 1 1 none)), (37, .sc (.i .i64)), (38, .sc (.i .i64))], [(true, [.ints .u64 none]), (true, [.ints .u64 none])]⟩
def Zmv : List PShape := [⟨(List Int), fun r => (.exit 0, ⟨[(8, .c (.sc (.slice 0 1 none none)))], [(0, ⟨true, [.ints .u64 r r.length]⟩)], 1⟩)⟩]
def Zig (g0 : Z1h) (g1 : Z2h) (g2 : Zu) (g3 : Z1d) (g4 : Zx) (R : Type) (x10 : Str) (x11 x12 : Int) (x13 x14 : List Int) (next : Str → Int → Int → (List Int) → (List Int) → Option R) (k0 : (List Int) → Option R) : Option R :=
 br (ltI x12 x11)
 (gd (inB x12 x14.length) <|
 g0 R x10 fun r15 =>
 lett (((r15.length : Nat) : Int)) fun (v16 : Int) =>
 Zya g0 g1 g2 g3 g4 R x10 x12 (x14.getD x12.toNat 0) 0 x11 x12 v16 0 x13 x14 r15 fun y37 y38 y39 y40 y41 y42 y43 =>
 Zz0 g0 g1 g2 g3 g4 R y37 y39 (addI .i64 y38 4) y40 y41 y42 y43 fun y54 y55 y56 y57 y58 =>
 next y54 y55 (addI .i64 y56 1) y57 y58)
 (k0 x13)
def Zcs (x10 : Str) (x11 x12 : Int) (x13 x14 : List Int) : Nat := 100000 + (x10.length + x11.toNat + x12.toNat + x13.length + x14.length)
def Zdy (g0 : Z1h) (g1 : Z2h) (g2 : Zu) (g3 : Z1d) (g4 : Zx) : Piece := { T := Zm2, shapes := Zmv, step := fun R x next k => Zig g0 g1 g2 g3 g4 R (x.1.1) (x.1.2.2.2.1) (x.1.2.2.2.2.1) (x.2.1.1) (x.2.2.1.1) (fun x10 x11 x12 x13 x14 => next ((x10, (), (), x11, x12, ()), ((x13, ()), (x14, ()), ()))) (fun z0 => k.1 z0), fuel := fun x => Zcs (x.1.1) (x.1.2.2.2.1) (x.1.2.2.2.2.1) (x.2.1.1) (x.2.2.1.1) }
def Zyi (g0 : Z1h) (g1 : Z2h) (g2 : Zu) (g3 : Z1d) (g4 : Zx) (R : Type) (x10 : Str) (x11 x12 : Int) (x13 x14 : List Int) (k0 : (List Int) → Option R) : Option R :=
 runP Zm2 Zmv (Zdy g0 g1 g2 g3 g4).step R (Zcs x10 x11 x12 x13 x14) ((x10, (), (), x11, x12, ()), ((x13, ()), (x14, ()), ())) (fun r => k0 (r), ())
abbrev Zly := (R : Type) → Str → Str → Str → (Str → Int → Option R) → Option R
def Zrr (g0 : Z1h) (g1 : Z2h) (g2 : Zu) (g3 : Z1d) (g4 : Zx) (R : Type) (a1 a2 a3 : Str) (k0 : Str → Int → Option R) : Option R :=
 lett (((a1.length : Nat) : Int)) fun (v4 : Int) =>
 br (!(eqI v4 32))
 (k0 ([] : Str) 1)
 (lett (((a2.length : Nat) : Int)) fun (v5 : Int) =>
 br (!(eqI v5 32))
 (k0 ([] : Str) 1)
 (lett (((a3.length : Nat) : Int)) fun (v6 : Int) =>
 br (!(eqI v6 32))
 (k0 ([] : Str) 1)
 (g0 R a3 fun r7 =>
 gd (appB r7.length 4 8) <|
 g0 R a1 fun r8 =>
 lett (((r8.length : Nat) : Int)) fun (v9 : Int) =>
 Zyi g0 g1 g2 g3 g4 R a2 v9 0 (r7 ++ [0, 0, 0, 0]) r8 fun y59 =>
 g3 R y59 fun r60 r61 =>
 g4 R r60 fun r62 =>
 k0 r62 0)))
def Zh8 : Zly := Zrr Z17 Z1m Zj Z10 Zk
end
noncomputable section
def Zju : StK := ⟨[(3, .sc (.ptr 1 0 0 0 0)), (13, .sc (.sl 0 1 none)), (14, .sc (.i .i64)), (15, .sc (.i .i64))], [(true, [.strs none]), (true, [.one (.i .i64), .one (.sl 2 1 none)]), (true, [.bytes none])]⟩
def Zjr : List PShape := [⟨(List Str) × Int × Str, fun r => (.exit 0, ⟨[(3, .c (.sc (.ptr 1 0 0 0 0)))], [(0, ⟨true, [.strs r.1 r.1.length]⟩), (1, ⟨true, [.one (.int .i64 r.2.1), .one (.slice 2 1 none none)]⟩), (2, ⟨true, [.bytes r.2.2 r.2.2.length]⟩)], 3⟩)⟩]
def Zfb (g0 : Zb8) (g1 : Z3n) (g2 : Z3o) (g3 : Z54) (g4 : Zba) (R : Type) (x12 x13 : Int) (x14 : List Str) (x15 : Int) (x16 : Str) (next : Int → Int → (List Str) → Int → Str → Option R) (k0 : (List Str) → Int → Str → Option R) : Option R :=
 br (ltI x13 x12)
 (gd (inB x13 x14.length) <|
 g2 R (x14.getD x13.toNat []) x15 x16 fun r17 r18 r19 =>
 next x12 (addI .i64 x13 1) x14 r18 r19)
 (k0 x14 x15 x16)
def Zb0 (x12 x13 : Int) (x14 : List Str) (x15 : Int) (x16 : Str) : Nat := 100000 + (x12.toNat + x13.toNat + x14.length + x15.toNat + x16.length)
def Zbd (g0 : Zb8) (g1 : Z3n) (g2 : Z3o) (g3 : Z54) (g4 : Zba) : Piece := { T := Zju, shapes := Zjr, step := fun R x next k => Zfb g0 g1 g2 g3 g4 R (x.1.2.2.1) (x.1.2.2.2.1) (x.2.1.1) (x.2.2.1.1) (x.2.2.2.1.1) (fun x12 x13 x14 x15 x16 => next (((), (), x12, x13, ()), ((x14, ()), (x15, (), ()), (x16, ()), ()))) (fun z0 z1 z2 => k.1 (z0, z1, z2)), fuel := fun x => Zb0 (x.1.2.2.1) (x.1.2.2.2.1) (x.2.1.1) (x.2.2.1.1) (x.2.2.2.1.1) }
def Zv7 (g0 : Zb8) (g1 : Z3n) (g2 : Z3o) (g3 : Z54) (g4 : Zba) (R : Type) (x12 x13 : Int) (x14 : List Str) (x15 : Int) (x16 : Str) (k0 : (List Str) → Int → Str → Option R) : Option R :=
 runP Zju Zjr (Zbd g0 g1 g2 g3 g4).step R (Zb0 x12 x13 x14 x15 x16) (((), (), x12, x13, ()), ((x14, ()), (x15, (), ()), (x16, ()), ())) (fun r => k0 (r.1) (r.2.1) (r.2.2), ())
abbrev Za8 := (R : Type) → (List Str) → (Str → (List Str) → Option R) → Option R
def Zn7 (g0 : Zb8) (g1 : Z3n) (g2 : Z3o) (g3 : Z54) (g4 : Zba) (R : Type) (a1 : List Str) (k0 : Str → (List Str) → Option R) : Option R :=
 g0 R fun r2 r3 =>
 lett (((a1.length : Nat) : Int)) fun (v4 : Int) =>
 Zv7 g0 g1 g2 g3 g4 R v4 0 a1 r3 ([] : Str) fun y20 y21 y22 =>
 g3 R y21 y22 fun r23 r24 r25 =>
 g4 R r23 fun r26 r27 =>
 k0 r26 y20
def Z7w : Za8 := Zn7 Z6z Z3p Z2g Z38 Z76
abbrev Zrq := (R : Type) → Str → Str → Str → (Int → Option R) → Option R
def Zwn (g0 : Zpj) (g1 : Zo8) (g2 : Zj7) (g3 : Zaj) (g4 : Za8) (g5 : Zid) (g6 : Zhz) (g7 : Z8a) (R : Type) (a1 a2 a3 : Str) (k0 : Int → Option R) : Option R :=
 g0 R a1 fun r4 r5 r6 r7 r8 =>
 lett (List.replicate 5 (0 : Int)) fun (v9 : List Int) =>
 lett (List.replicate 5 (0 : Int)) fun (v10 : List Int) =>
 lett (List.replicate 5 (0 : Int)) fun (v11 : List Int) =>
 lett (List.replicate 5 (0 : Int)) fun (v12 : List Int) =>
 br (!(eqI r8 0))
 (k0 21)
 (lett (((a3.length : Nat) : Int)) fun (v13 : Int) =>
 br (!(eqI v13 64))
 (k0 22)
 (gd (leB 32 a3.length) <|
 g1 R (a3.drop 32) fun r14 =>
 br (!r14)
 (k0 22)
 (gd (leB 32 a3.length) <|
 gd (leB 32 a3.length) <|
 lett (List.replicate 5 (0 : Int)) fun (v15 : List Int) =>
 lett (List.replicate 5 (0 : Int)) fun (v16 : List Int) =>
 lett (List.replicate 5 (0 : Int)) fun (v17 : List Int) =>
 lett (List.replicate 5 (0 : Int)) fun (v18 : List Int) =>
 g2 R fun r19 r20 r21 r22 =>
 g3 R r19 r20 r21 r22 (a3.drop 32) fun r23 r24 r25 r26 r27 =>
 lett (List.replicate 5 (0 : Int)) fun (v28 : List Int) =>
 lett (List.replicate 5 (0 : Int)) fun (v29 : List Int) =>
 lett (List.replicate 5 (0 : Int)) fun (v30 : List Int) =>
 lett (List.replicate 5 (0 : Int)) fun (v31 : List Int) =>
 g4 R ([a3.take 32, a1, a2] : List Str) fun r32 r33 =>
 g3 R r4 r5 r6 r7 r32 fun r34 r35 r36 r37 r38 =>
 g5 R r34 r35 r36 r37 fun r39 r40 r41 r42 =>
 g6 R r23 r24 r25 r26 r39 r40 r41 r42 fun r43 r44 r45 r46 =>
 g7 R r43 r44 r45 r46 fun r47 =>
 br (!(eqS r47 (a3.take 32)))
 (k0 22)
 (k0 0))))
def Zhe : Zrq := Zwn Zle Zj0 Zfx Z7x Z7w Zdi Zdx Z5q
abbrev Zjd := (R : Type) → Str → (Str → Option R) → Option R
def Zza (g0 : Zj7) (g1 : Zaj) (g2 : Z8a) (R : Type) (a1 : Str) (k0 : Str → Option R) : Option R :=
 g0 R fun r2 r3 r4 r5 =>
 g1 R r2 r3 r4 r5 a1 fun r6 r7 r8 r9 r10 =>
 lett (List.replicate 5 (0 : Int)) fun (v11 : List Int) =>
 lett (List.replicate 5 (0 : Int)) fun (v12 : List Int) =>
 lett (List.replicate 5 (0 : Int)) fun (v13 : List Int) =>
 lett (List.replicate 5 (0 : Int)) fun (v14 : List Int) =>
 g2 R r6 r7 r8 r9 fun r15 =>
 k0 r15
def Zfv : Zjd := Zza Zfx Z7x Z5q
abbrev Zj5 := (R : Type) → Str → (Str → Str → Str → Int → Option R) → Option R
def Zy2 (g0 : Zj4) (g1 : Zjd) (R : Type) (a1 : Str) (k0 : Str → Str → Str → Int → Option R) : Option R :=
 lett (((a1.length : Nat) : Int)) fun (v2 : Int) =>
 br (!(eqI v2 32))
 (k0 ([] : Str) ([] : Str) ([] : Str) 21)
 (g0 R a1 fun r3 =>
 gd (inB 0 r3.length) <|
 lett (((r3.getD 0 0).toNat : Int)) fun (v4 : Int) =>
 gd (inB 0 r3.length) <|
 lett (r3.set 0 (UInt8.ofNat ((andNotI .u8 v4 7).toNat))) fun (v5 : Str) =>
 gd (inB 31 v5.length) <|
 lett (((v5.getD 31 0).toNat : Int)) fun (v6 : Int) =>
 lett (orI .u8 (andI .u8 v6 127) 64) fun (v7 : Int) =>
 gd (inB 31 v5.length) <|
 lett (v5.set 31 (UInt8.ofNat v7.toNat)) fun (v8 : Str) =>
 gd (leB 32 v8.length) <|
 gd (leB 32 v8.length) <|
 lett ((v8.drop 32).take (v8.length - 32)) fun (v9 : Str) =>
 g1 R ((v8.drop 0).take 32) fun r10 =>
 k0 ((v8.drop 0).take 32) v9 r10 0)
def Zfs : Zj5 := Zy2 Zfw Zfv
abbrev Zrm := (R : Type) → Str → (Str → Int → Option R) → Option R
def Zwo (g0 : Zj5) (R : Type) (a1 : Str) (k0 : Str → Int → Option R) : Option R :=
 g0 R a1 fun r2 r3 r4 r5 =>
 k0 r4 r5
def Zgw : Zrm := Zwo Zfs
abbrev Zxl := (R : Type) → Str → Str → (Str → Int → Option R) → Option R
def Z11j (g0 : Zj5) (g1 : Za8) (g2 : Zjd) (g3 : Zly) (R : Type) (a1 a2 : Str) (k0 : Str → Int → Option R) : Option R :=
 g0 R a1 fun r3 r4 r5 r6 =>
 br (!(eqI r6 0))
 (k0 ([] : Str) r6)
 (g1 R ([r4, a2] : List Str) fun r7 r8 =>
 g2 R r7 fun r9 =>
 g1 R ([r9, r5, a2] : List Str) fun r10 r11 =>
 g3 R r10 r3 r7 fun r12 r13 =>
 br (!(eqI r13 0))
 (k0 ([] : Str) r13)
 (gd (catB r9 r12) <|
 k0 (r9 ++ r12) 0))
def Zll : Zxl := Z11j Zfs Z7w Zfv Zh8
end
noncomputable section
abbrev Zxm := (R : Type) → Int → (Int → Int → Int → Option R) → Option R
def Z11p (R : Type) (a1 : Int) (k0 : Int → Int → Int → Option R) : Option R :=
 lett (quoI .i64 (addI .i64 a1 719468) 146097) fun (v2 : Int) =>
 lett (remI (addI .i64 a1 719468) 146097) fun (v3 : Int) =>
 lett (subI .i64 v3 (quoI .i64 v3 1460)) fun (v4 : Int) =>
 lett (addI .i64 v4 (quoI .i64 v3 36524)) fun (v5 : Int) =>
 lett (subI .i64 v5 (quoI .i64 v3 146096)) fun (v6 : Int) =>
 lett (mulI .i64 365 (quoI .i64 v6 365)) fun (v7 : Int) =>
 lett (quoI .i64 (quoI .i64 v6 365) 4) fun (v8 : Int) =>
 lett (quoI .i64 (quoI .i64 v6 365) 100) fun (v9 : Int) =>
 lett (subI .i64 (addI .i64 v7 v8) v9) fun (v10 : Int) =>
 lett (mulI .i64 5 (subI .i64 v3 v10)) fun (v11 : Int) =>
 lett (quoI .i64 (addI .i64 v11 2) 153) fun (v12 : Int) =>
 lett (addI .i64 (mulI .i64 153 v12) 2) fun (v13 : Int) =>
 lett (subI .i64 (subI .i64 v3 v10) (quoI .i64 v13 5)) fun (v14 : Int) =>
 lett (addI .i64 (quoI .i64 v6 365) (mulI .i64 400 v2)) fun (v15 : Int) =>
 br (leI 10 v12)
 (k0 (addI .i64 v15 1) (subI .i64 v12 9) (addI .i64 v14 1))
 (k0 v15 (addI .i64 v12 3) (addI .i64 v14 1))
def Zlh : Zxm := Z11p
abbrev Zqs := (R : Type) → Int → Int → (Str → Option R) → Option R
def Z14o (g0 : Zwt) (g1 : Zqo) (R : Type) (a1 a2 : Int) (k0 : Str → Option R) : Option R :=
 g0 R a1 fun r3 =>
 lett (((r3.length : Nat) : Int)) fun (v4 : Int) =>
 g1 R [48] (mxI 0 (subI .i64 a2 v4)) fun r5 =>
 gd (catB r5 r3) <|
 k0 (r5 ++ r3)
def Zbp : Zqs := Z14o Zwy Zrl
abbrev Z3q := (R : Type) → Int → (Str → Int → Option R) → Option R
def Zue (g0 : Zxm) (g1 : Zqs) (R : Type) (a1 : Int) (k0 : Str → Int → Option R) : Option R :=
 br (ltI a1 0)
 (k0 ([] : Str) 1)
 (br (ltI 253402300799 a1)
 (k0 ([] : Str) 1)
 (g0 R (quoI .i64 a1 86400) fun r2 r3 r4 =>
 g1 R r2 4 fun r5 =>
 g1 R r3 2 fun r6 =>
 gd (catB r5 r6) <|
 g1 R r4 2 fun r7 =>
 gd (catB (r5 ++ r6) r7) <|
 lett (quoI .i64 (remI a1 86400) 3600) fun (v8 : Int) =>
 g1 R v8 2 fun r9 =>
 gd (catB ((r5 ++ r6) ++ r7) r9) <|
 lett (quoI .i64 (remI a1 86400) 60) fun (v10 : Int) =>
 g1 R (remI v10 60) 2 fun r11 =>
 gd (catB (((r5 ++ r6) ++ r7) ++ r9) r11) <|
 lett ((((r5 ++ r6) ++ r7) ++ r9) ++ r11) fun (v12 : Str) =>
 g1 R (remI (remI a1 86400) 60) 2 fun r13 =>
 gd (catB v12 r13) <|
 gd (catB (v12 ++ r13) [90]) <|
 k0 ((v12 ++ r13) ++ [90]) 0))
def Z1n : Z3q := Zue Zlh Zbp
abbrev Z37 := (R : Type) → Int → Str → Bool → (Str → Str → Bool → Option R) → Option R
def Z52 (g0 : Z10q) (R : Type) (a1 : Int) (a2 : Str) (a3 : Bool) (k0 : Str → Str → Bool → Option R) : Option R :=
 g0 R a2 fun r4 r5 r6 r7 =>
 br (!(eqI r7 0))
 (k0 ([] : Str) a2 true)
 (br (!(eqI r4 a1))
 (k0 ([] : Str) a2 true)
 (k0 r5 r6 a3))
def Z15 : Z37 := Z52 Z9c
abbrev Zbs := (R : Type) → Int → Str → Bool → (Str → Bool → Str → Bool → Option R) → Option R
def Zaz (g0 : Z37) (R : Type) (a1 : Int) (a2 : Str) (a3 : Bool) (k0 : Str → Bool → Str → Bool → Option R) : Option R :=
 g0 R a1 a2 a3 fun r4 r5 r6 =>
 k0 r5 r6 r4 r6
def Z1z : Zbs := Zaz Z15
abbrev Zbz := (R : Type) → Str → Bool → (Str → Str → Bool → Option R) → Option R
def Zau (g0 : Z37) (g1 : Zi9) (R : Type) (a1 : Str) (a2 : Bool) (k0 : Str → Str → Bool → Option R) : Option R :=
 g0 R 3 a1 a2 fun r3 r4 r5 =>
 g1 R r3 fun r6 r7 r8 =>
 k0 r7 r4 r5
def Z2d : Zbz := Zau Z15 Zah
def Z14r : StK := ⟨[(0, .sc (.i .i64)), (1, .sc (.i .i64)), (2, .sc (.i .i64)), (8, .sc (.b))], []⟩
def Z14s : List PShape := [⟨Int × Int × Int, fun r => (.normal, ⟨[(0, .c (.sc (.int .i64 r.1))), (1, .c (.sc (.int .i64 r.2.1))), (2, .c (.sc (.int .i64 r.2.2)))], [], 0⟩)⟩]
def Zdw (R : Type) (x4 x5 x6 : Int) (x7 : Bool) (k0 : Int → Int → Int → Option R) : Option R :=
 br (x7)
 (k0 (subI .i64 x4 1) (addI .i64 x5 12) x6)
 (k0 x4 x5 x6)
def Zyz (x4 x5 x6 : Int) (x7 : Bool) : Nat := 1
def Zr5 : Piece := { T := Z14r, shapes := Z14s, step := fun R x next k => Zdw R (x.1.1) (x.1.2.1) (x.1.2.2.1) (x.1.2.2.2.1) (fun z0 z1 z2 => k.1 (z0, z1, z2)), fuel := fun x => Zyz (x.1.1) (x.1.2.1) (x.1.2.2.1) (x.1.2.2.2.1) }
def Z169 (R : Type) (x4 x5 x6 : Int) (x7 : Bool) (k0 : Int → Int → Int → Option R) : Option R :=
 runP Z14r Z14s (Zr5).step R (Zyz x4 x5 x6 x7) ((x4, x5, x6, x7, ()), (())) (fun r => k0 (r.1) (r.2.1) (r.2.2), ())
abbrev Z7b := (R : Type) → Int → Int → Int → (Int → Option R) → Option R
def Znm (R : Type) (a1 a2 a3 : Int) (k0 : Int → Option R) : Option R :=
 Z169 R a1 a2 a3 (leI a2 2) fun y8 y9 y10 =>
 lett (addI .i64 (mulI .i64 365 y8) (quoI .i64 y8 4)) fun (v11 : Int) =>
 lett (subI .i64 v11 (quoI .i64 y8 100)) fun (v12 : Int) =>
 lett (addI .i64 v12 (quoI .i64 y8 400)) fun (v13 : Int) =>
 lett (mulI .i64 153 (subI .i64 y9 3)) fun (v14 : Int) =>
 lett (quoI .i64 (addI .i64 v14 2) 5) fun (v15 : Int) =>
 lett (addI .i64 (addI .i64 v13 v15) y10) fun (v16 : Int) =>
 lett (subI .i64 (subI .i64 v16 1) 719468) fun (v17 : Int) =>
 k0 v17
def Z3d : Z7b := Znm
def Z17h : StK := ⟨[(0, .sc (.s)), (4, .sc (.ptr 0 0 0 0 0)), (5, .sc (.i .i64)), (6, .sc (.i .i64)), (7, .sc (.i .i64)), (20, .agg [.ints .i64 (some 6)]), (21, .sc (.i .i64)), (28, .sc (.b))], [(true, [.ints .i64 (some 6)])]⟩
def Z17g : List PShape := [⟨Str × Int × Int × Int × (List Int) × Int × (List Int), fun r => (.normal, ⟨[(0, .c (.sc (.str r.1))), (4, .c (.sc (.ptr 0 0 0 0 0))), (5, .c (.sc (.int .i64 r.2.1))), (6, .c (.sc (.int .i64 r.2.2.1))), (7, .c (.sc (.int .i64 r.2.2.2.1))), (20, .c (.agg [.ints .i64 r.2.2.2.2.1 6])), (21, .c (.sc (.int .i64 r.2.2.2.2.2.1)))], [(0, ⟨true, [.ints .i64 r.2.2.2.2.2.2 6]⟩)], 1⟩)⟩]
def Zty (g0 : Z3w) (g1 : Z4s) (g2 : Z7b) (g3 : Z3q) (R : Type) (x10 : Str) (x11 x12 x13 : Int) (x14 : List Int) (x15 : Int) (x16 : Bool) (x17 : List Int) (k0 : Str → Int → Int → Int → (List Int) → Int → (List Int) → Option R) : Option R :=
 br (x16)
 (k0 x10 x11 x12 0 x14 x15 x17)
 (k0 x10 x11 x12 x13 x14 x15 x17)
def Z13i (x10 : Str) (x11 x12 x13 : Int) (x14 : List Int) (x15 : Int) (x16 : Bool) (x17 : List Int) : Nat := 1
def Zxs (g0 : Z3w) (g1 : Z4s) (g2 : Z7b) (g3 : Z3q) : Piece := { T := Z17h, shapes := Z17g, step := fun R x next k => Zty g0 g1 g2 g3 R (x.1.1) (x.1.2.2.1) (x.1.2.2.2.1) (x.1.2.2.2.2.1) (x.1.2.2.2.2.2.1.1) (x.1.2.2.2.2.2.2.1) (x.1.2.2.2.2.2.2.2.1) (x.2.1.1) (fun z0 z1 z2 z3 z4 z5 z6 => k.1 (z0, z1, z2, z3, z4, z5, z6)), fuel := fun x => Z13i (x.1.1) (x.1.2.2.1) (x.1.2.2.2.1) (x.1.2.2.2.2.1) (x.1.2.2.2.2.2.1.1) (x.1.2.2.2.2.2.2.1) (x.1.2.2.2.2.2.2.2.1) (x.2.1.1) }
def Z19r (g0 : Z3w) (g1 : Z4s) (g2 : Z7b) (g3 : Z3q) (R : Type) (x10 : Str) (x11 x12 x13 : Int) (x14 : List Int) (x15 : Int) (x16 : Bool) (x17 : List Int) (k0 : Str → Int → Int → Int → (List Int) → Int → (List Int) → Option R) : Option R :=
 runP Z17h Z17g (Zxs g0 g1 g2 g3).step R (Z13i x10 x11 x12 x13 x14 x15 x16 x17) ((x10, (), x11, x12, x13, (x14, ()), x15, x16, ()), ((x17, ()), ())) (fun r => k0 (r.1) (r.2.1) (r.2.2.1) (r.2.2.2.1) (r.2.2.2.2.1) (r.2.2.2.2.2.1) (r.2.2.2.2.2.2), ())
def Z11h : StK := ⟨[(0, .sc (.s)), (4, .sc (.ptr 0 0 0 0 0)), (20, .agg [.ints .i64 (some 6)]), (21, .sc (.i .i64))], [(true, [.ints .i64 (some 6)])]⟩
def Z11v : List PShape := [⟨Str × (List Int), fun r => (.exit 0, ⟨[(0, .c (.sc (.str r.1))), (4, .c (.sc (.ptr 0 0 0 0 0)))], [(0, ⟨true, [.ints .i64 r.2 6]⟩)], 1⟩)⟩]
def Zls (g0 : Z3w) (g1 : Z4s) (g2 : Z7b) (g3 : Z3q) (R : Type) (x5 : Str) (x6 : List Int) (x7 : Int) (x8 : List Int) (next : Str → (List Int) → Int → (List Int) → Option R) (k0 : Str → (List Int) → Option R) : Option R :=
 br (ltI x7 6)
 (gd (inB x7 6) <|
 lett (subI .i64 (x6.getD x7.toNat 0) 2) fun (v9 : Int) =>
 Z19r g0 g1 g2 g3 R x5 x7 (x6.getD x7.toNat 0) v9 x6 x7 (eqI x7 0) x8 fun y18 y19 y20 y21 y22 y23 y24 =>
 gd (leB y20 y18.length) <|
 gd (leB y21 y20.toNat) <|
 lett ((y18.take y20.toNat).drop y21.toNat) fun (v25 : Str) =>
 g1 R v25 fun r26 =>
 gd (inB y19 6) <|
 next y18 y22 (addI .i64 y23 1) (y24.set y19.toNat r26))
 (k0 x5 x8)
def Zde (x5 : Str) (x6 : List Int) (x7 : Int) (x8 : List Int) : Nat := 100000 + (x5.length + x6.length + x7.toNat + x8.length)
def Zr6 (g0 : Z3w) (g1 : Z4s) (g2 : Z7b) (g3 : Z3q) : Piece := { T := Z11h, shapes := Z11v, step := fun R x next k => Zls g0 g1 g2 g3 R (x.1.1) (x.1.2.2.1.1) (x.1.2.2.2.1) (x.2.1.1) (fun x5 x6 x7 x8 => next ((x5, (), (x6, ()), x7, ()), ((x8, ()), ()))) (fun z0 z1 => k.1 (z0, z1)), fuel := fun x => Zde (x.1.1) (x.1.2.2.1.1) (x.1.2.2.2.1) (x.2.1.1) }
def Z19g (g0 : Z3w) (g1 : Z4s) (g2 : Z7b) (g3 : Z3q) (R : Type) (x5 : Str) (x6 : List Int) (x7 : Int) (x8 : List Int) (k0 : Str → (List Int) → Option R) : Option R :=
 runP Z11h Z11v (Zr6 g0 g1 g2 g3).step R (Zde x5 x6 x7 x8) ((x5, (), (x6, ()), x7, ()), ((x8, ()), ())) (fun r => k0 (r.1) (r.2), ())
abbrev Z14e := (R : Type) → Str → (Int → Bool → Option R) → Option R
def Z10w (g0 : Z3w) (g1 : Z4s) (g2 : Z7b) (g3 : Z3q) (R : Type) (a1 : Str) (k0 : Int → Bool → Option R) : Option R :=
 lett (((a1.length : Nat) : Int)) fun (v2 : Int) =>
 br (!(eqI v2 15))
 (k0 0 false)
 (gd (leB 14 a1.length) <|
 g0 R (a1.take 14) [48, 49, 50, 51, 52, 53, 54, 55, 56, 57] fun r3 =>
 br (!(eqS r3 []))
 (k0 0 false)
 (lett (List.replicate 6 (0 : Int)) fun (v4 : List Int) =>
 Z19g g0 g1 g2 g3 R a1 (((((((List.replicate 6 (0 : Int)).set 0 4).set 1 6).set 2 8).set 3 10).set 4 12).set 5 14) 0 v4 fun y27 y28 =>
 lett (mulI .i64 3600 (y28.getD 3 0)) fun (v29 : Int) =>
 lett (mulI .i64 60 (y28.getD 4 0)) fun (v30 : Int) =>
 g2 R (y28.getD 0 0) (y28.getD 1 0) (y28.getD 2 0) fun r31 =>
 lett (addI .i64 (mulI .i64 86400 r31) v29) fun (v32 : Int) =>
 lett (addI .i64 (addI .i64 v32 v30) (y28.getD 5 0)) fun (v33 : Int) =>
 g3 R v33 fun r34 r35 =>
 br (eqI r35 0)
 (k0 v33 (eqS r34 y27))
 (k0 v33 false)))
def Zff : Z14e := Z10w Z33 Z32 Z3d Z1n
abbrev Zug := (R : Type) → Str → (Int → Str → Int → Int → Str → Str → Option R) → Option R
def Zqb (g0 : Zbs) (g1 : Z37) (g2 : Zbz) (g3 : Zrg) (g4 : Z14e) (R : Type) (a1 : Str) (k0 : Int → Str → Int → Int → Str → Str → Option R) : Option R :=
 g0 R 48 a1 false fun r2 r3 r4 r5 =>
 g0 R 48 r4 r5 fun r6 r7 r8 r9 =>
 g1 R 48 r6 r7 fun r10 r11 r12 =>
 g2 R r11 r12 fun r13 r14 r15 =>
 g1 R 2 r8 r9 fun r16 r17 r18 =>
 g3 R r16 fun r19 r20 =>
 g1 R 48 r17 r18 fun r21 r22 r23 =>
 g0 R 48 r22 r23 fun r24 r25 r26 r27 =>
 g0 R 49 r26 r27 fun r28 r29 r30 r31 =>
 g0 R 48 r30 r31 fun r32 r33 r34 r35 =>
 g1 R 6 r34 r35 fun r36 r37 r38 =>
 g1 R 12 r37 r38 fun r39 r40 r41 =>
 g0 R 48 r24 r25 fun r42 r43 r44 r45 =>
 g1 R 24 r44 r45 fun r46 r47 r48 =>
 g4 R r46 fun r49 r50 =>
 g1 R 24 r47 r48 fun r51 r52 r53 =>
 g4 R r51 fun r54 r55 =>
 g1 R 48 r42 r43 fun r56 r57 r58 =>
 g0 R 48 r57 r58 fun r59 r60 r61 r62 =>
 g1 R 48 r61 r62 fun r63 r64 r65 =>
 g2 R r64 r65 fun r66 r67 r68 =>
 k0 r19 r39 r49 r54 r66 r13
def Z8t : Zug := Zqb Z1z Z15 Z2d Zdh Zff
abbrev Z84 := (R : Type) → Int → (Bool → Option R) → Option R
def Zr1 (R : Type) (a1 : Int) (k0 : Bool → Option R) : Option R :=
 br (ltI a1 32)
 (k0 true)
 (k0 (ltI 126 a1))
def Z4z : Z84 := Zr1
def Z6l : StK := ⟨[(0, .sc (.sl 0 1 none)), (1, .sc (.fn Zru [])), (7, .sc (.i .i64)), (8, .sc (.i .i64))], [(true, [.bytes none])]⟩
def Z6m : List PShape := [⟨Int × Str, fun r => (.ret, ⟨[(4, .c (.sc (.int .i64 r.1)))], [(0, ⟨true, [.bytes r.2 r.2.length]⟩)], 1⟩)⟩, ⟨Str, fun r => (.exit 0, ⟨[], [(0, ⟨true, [.bytes r r.length]⟩)], 1⟩)⟩]
def Z3a (g0 : Z84) (R : Type) (x3 x4 : Int) (x5 : Str) (next : Int → Int → Str → Option R) (k0 : Int → Str → Option R) (k1 : Str → Option R) : Option R :=
 br (ltI x4 x3)
 (gd (inB x4 x5.length) <|
 lett (((x5.getD x4.toNat 0).toNat : Int)) fun (v6 : Int) =>
 g0 R v6 fun r7 =>
 br (r7)
 (k0 x4 x5)
 (next x3 (addI .i64 x4 1) x5))
 (k1 x5)
def Z27 (x3 x4 : Int) (x5 : Str) : Nat := 100000 + (x3.toNat + x4.toNat + x5.length)
def Z2x (g0 : Z84) : Piece := { T := Z6l, shapes := Z6m, step := fun R x next k => Z3a g0 R (x.1.2.2.1) (x.1.2.2.2.1) (x.2.1.1) (fun x3 x4 x5 => next (((), (), x3, x4, ()), ((x5, ()), ()))) (fun z0 z1 => k.1 (z0, z1)) (fun z0 => k.2.1 z0), fuel := fun x => Z27 (x.1.2.2.1) (x.1.2.2.2.1) (x.2.1.1) }
def Zd8 (g0 : Z84) (R : Type) (x3 x4 : Int) (x5 : Str) (k0 : Int → Str → Option R) (k1 : Str → Option R) : Option R :=
 runP Z6l Z6m (Z2x g0).step R (Z27 x3 x4 x5) (((), (), x3, x4, ()), ((x5, ()), ())) (fun r => k0 (r.1) (r.2), fun r => k1 (r), ())
abbrev Z4v := (R : Type) → Str → (Int → Str → Option R) → Option R
def Z7m (g0 : Z84) (R : Type) (a1 : Str) (k0 : Int → Str → Option R) : Option R :=
 lett (((a1.length : Nat) : Int)) fun (v2 : Int) =>
 Zd8 g0 R v2 0 a1
 (fun y8 y9 =>
 k0 y8 y9)
 (fun y10 =>
 k0 (-1) y10)
def Z4w : Z4v := Z7m Z4z
abbrev Z3s := (R : Type) → Str → (Bool → Str → Option R) → Option R
def Z60 (g0 : Z4v) (R : Type) (a1 : Str) (k0 : Bool → Str → Option R) : Option R :=
 g0 R a1 fun r2 r3 =>
 k0 (leI 0 r2) r3
def Z3v : Z3s := Z60 Z4w
abbrev Zqa := (R : Type) → Str → (Bool → Option R) → Option R
def Zvl (g0 : Z3s) (R : Type) (a1 : Str) (k0 : Bool → Option R) : Option R :=
 br (!(eqS a1 []))
 (lett (((a1.length : Nat) : Int)) fun (v2 : Int) =>
 br (leI v2 32)
 (g0 R a1 fun r3 r4 =>
 k0 !r3)
 (k0 false))
 (k0 false)
def Zkd : Zqa := Zvl Z3v
abbrev Zj9 := (R : Type) → Int → Str → Int → Int → Str → (Bool → Option R) → Option R
def Zzv (g0 : Zqa) (R : Type) (a1 : Int) (a2 : Str) (a3 a4 : Int) (a5 : Str) (k0 : Bool → Option R) : Option R :=
 br (leI 1 a1)
 (g0 R a2 fun r6 =>
 br (r6)
 (br (leI 0 a3)
 (br (leI a3 a4)
 (k0 (leI a4 253402300799))
 (k0 false))
 (k0 false))
 (k0 false))
 (k0 false)
def Zfa : Zj9 := Zzv Zkd
abbrev Zem := (R : Type) → (List Int) → (Str → (List Int) → Option R) → Option R
def Z127 (g0 : Zqm) (R : Type) (a1 : List Int) (k0 : Str → (List Int) → Option R) : Option R :=
 g0 R a1 fun r2 r3 r4 =>
 k0 r2 r4
def Zc1 : Zem := Z127 Zz1
abbrev Z49 := (R : Type) → Int → (List Str) → (Str → (List Str) → Option R) → Option R
def Zor (g0 : Zwa) (g1 : Z2e) (R : Type) (a1 : Int) (a2 : List Str) (k0 : Str → (List Str) → Option R) : Option R :=
 g0 R ([] : Str) a2 fun r3 =>
 g1 R a1 r3 fun r4 r5 =>
 k0 r4 a2
def Z3e : Z49 := Zor Zo6 Z1v
abbrev Zua := (R : Type) → Str → (Str → Option R) → Option R
def Zyp (g0 : Zem) (g1 : Z49) (R : Type) (a1 : Str) (k0 : Str → Option R) : Option R :=
 g0 R ([2, 5, 4, 3] : List Int) fun r2 r3 =>
 g1 R 12 ([a1] : List Str) fun r4 r5 =>
 g1 R 48 ([r2, r4] : List Str) fun r6 r7 =>
 g1 R 49 ([r6] : List Str) fun r8 r9 =>
 g1 R 48 ([r8] : List Str) fun r10 r11 =>
 k0 r10
def Znl : Zua := Zyp Zc1 Z3e
abbrev Zbx := (R : Type) → (Str → Option R) → Option R
def Zoh (g0 : Zem) (g1 : Z49) (R : Type) (k0 : Str → Option R) : Option R :=
 g0 R ([1, 3, 101, 112] : List Int) fun r1 r2 =>
 g1 R 48 ([r1] : List Str) fun r3 r4 =>
 k0 r3
def Z93 : Zbx := Zoh Zc1 Z3e
abbrev Zjc := (R : Type) → Int → Str → Int → Int → Str → (Str → Option R) → Option R
def Zzf (g0 : Z3q) (g1 : Zua) (g2 : Z146) (g3 : Zbx) (g4 : Z49) (R : Type) (a1 : Int) (a2 : Str) (a3 a4 : Int) (a5 : Str) (k0 : Str → Option R) : Option R :=
 g0 R a3 fun r6 r7 =>
 g0 R a4 fun r8 r9 =>
 g1 R a2 fun r10 =>
 gd (catB [0] a5) <|
 g2 R a1 fun r11 =>
 g3 R fun r12 =>
 g4 R 24 ([r6] : List Str) fun r13 r14 =>
 g4 R 24 ([r8] : List Str) fun r15 r16 =>
 g4 R 48 ([r13, r15] : List Str) fun r17 r18 =>
 g3 R fun r19 =>
 g4 R 3 ([[0] ++ a5] : List Str) fun r20 r21 =>
 g4 R 48 ([r19, r20] : List Str) fun r22 r23 =>
 g4 R 48 ([r11, r12, r10, r17, r10, r22] : List Str) fun r24 r25 =>
 k0 r24
def Z78 : Zjc := Zzf Z1n Znl Zzq Z93 Z3e
abbrev Zj8 := (R : Type) → Str → Str → (Str → Option R) → Option R
def Zyv (g0 : Zbx) (g1 : Z49) (R : Type) (a1 a2 : Str) (k0 : Str → Option R) : Option R :=
 g0 R fun r3 =>
 gd (catB [0] a2) <|
 g1 R 3 ([[0] ++ a2] : List Str) fun r4 r5 =>
 g1 R 48 ([a1, r3, r4] : List Str) fun r6 r7 =>
 k0 r6
def Zat : Zj8 := Zyv Z93 Z3e
abbrev Zey := (R : Type) → Str → (Int → Str → Int → Int → Str → Int → Option R) → Option R
def Zuf (g0 : Zug) (g1 : Zj9) (g2 : Zjc) (g3 : Zj8) (g4 : Zrq) (R : Type) (a1 : Str) (k0 : Int → Str → Int → Int → Str → Int → Option R) : Option R :=
 lett (((a1.length : Nat) : Int)) fun (v2 : Int) =>
 br (ltI 1000 v2)
 (k0 0 ([] : Str) 0 0 ([] : Str) 13)
 (g0 R a1 fun r3 r4 r5 r6 r7 r8 =>
 g1 R r3 r4 r5 r6 r7 fun r9 =>
 br (!r9)
 (k0 0 ([] : Str) 0 0 ([] : Str) 11)
 (lett (((r7.length : Nat) : Int)) fun (v10 : Int) =>
 br (!(eqI v10 32))
 (k0 0 ([] : Str) 0 0 ([] : Str) 11)
 (lett (((r8.length : Nat) : Int)) fun (v11 : Int) =>
 br (!(eqI v11 64))
 (k0 0 ([] : Str) 0 0 ([] : Str) 11)
 (g2 R r3 r4 r5 r6 r7 fun r12 =>
 g3 R r12 r8 fun r13 =>
 br (!(eqS r13 a1))
 (k0 0 ([] : Str) 0 0 ([] : Str) 11)
 (g2 R r3 r4 r5 r6 r7 fun r14 =>
 g4 R r7 r14 r8 fun r15 =>
 br (!(eqI r15 0))
 (k0 0 ([] : Str) 0 0 ([] : Str) 22)
 (k0 r3 r4 r5 r6 r7 0))))))
def Z2c : Zey := Zuf Z8t Zfa Z78 Zat Zhe
abbrev Zx9 := (R : Type) → Int → Str → Int → Int → Str → Str → (Str → Int → Option R) → Option R
def Zj6 (g0 : Zj9) (g1 : Zrm) (g2 : Zjc) (g3 : Zxl) (g4 : Zj8) (R : Type) (a1 : Int) (a2 : Str) (a3 a4 : Int) (a5 a6 : Str) (k0 : Str → Int → Option R) : Option R :=
 g0 R a1 a2 a3 a4 a5 fun r7 =>
 br (!r7)
 (k0 ([] : Str) 1)
 (g1 R a6 fun r8 r9 =>
 br (!(eqI r9 0))
 (k0 ([] : Str) 21)
 (br (!(eqS a5 []))
 (br (!(eqS a5 r8))
 (k0 ([] : Str) 21)
 (g2 R a1 a2 a3 a4 r8 fun r10 =>
 g3 R a6 r10 fun r11 r12 =>
 br (!(eqI r12 0))
 (k0 ([] : Str) r12)
 (g4 R r10 r11 fun r13 =>
 k0 r13 0)))
 (g2 R a1 a2 a3 a4 r8 fun r14 =>
 g3 R a6 r14 fun r15 r16 =>
 br (!(eqI r16 0))
 (k0 ([] : Str) r16)
 (g4 R r14 r15 fun r17 =>
 k0 r17 0))))
def Z79 : Zx9 := Zj6 Zfa Zgw Z78 Zll Zat
abbrev Zdd := (R : Type) → Str → (Str → Option R) → Option R
def Z167 (g0 : Zjb) (R : Type) (a1 : Str) (k0 : Str → Option R) : Option R :=
 g0 R a1 fun r2 =>
 k0 r2
def Zd7 : Zdd := Z167 Zfy
abbrev Zjw := (R : Type) → Str → Int → (Int → Option R) → Option R
def Zox (g0 : Zey) (g1 : Zdd) (g2 : Z3t) (R : Type) (a1 : Str) (a2 : Int) (k0 : Int → Option R) : Option R :=
 g0 R a1 fun r3 r4 r5 r6 r7 r8 =>
 br (!(eqI r8 0))
 (k0 r8)
 (g1 R a1 fun r9 =>
 g2 R r9 fun r10 =>
 br (!r10)
 (k0 24)
 (br (ltI a2 r5)
 (k0 23)
 (br (ltI r6 a2)
 (k0 23)
 (k0 0))))
def Zev : Zjw := Zox Z2c Zd7 Z2m
abbrev Zk2 := (R : Type) → Str → Int → (List Str) → (Int → (List Str) → Option R) → Option R
def Zoq (g0 : Zey) (g1 : Zdd) (g2 : Z3u) (R : Type) (a1 : Str) (a2 : Int) (a3 : List Str) (k0 : Int → (List Str) → Option R) : Option R :=
 g0 R a1 fun r4 r5 r6 r7 r8 r9 =>
 br (!(eqI r9 0))
 (k0 r9 a3)
 (g1 R a1 fun r10 =>
 g2 R r10 a3 fun r11 r12 =>
 br (!r11)
 (k0 24 r12)
 (br (ltI a2 r6)
 (k0 23 r12)
 (br (ltI r7 a2)
 (k0 23 r12)
 (k0 0 r12))))
def Zf1 : Zk2 := Zoq Z2c Zd7 Z2l
end
theorem wrap_i64 {a : Int} (h0 : -9223372036854775808 ≤ a) (h1 : a ≤ 9223372036854775807) : IntKind.wrap .i64 a = a := by
  unfold IntKind.wrap
  simp [IntKind.signed, IntKind.bits]
  omega
theorem addI_eq {a b : Int} (h0 : -9223372036854775808 ≤ a + b) (h1 : a + b ≤ 9223372036854775807) : addI .i64 a b = a + b := wrap_i64 h0 h1
theorem subI_eq {a b : Int} (h0 : -9223372036854775808 ≤ a - b) (h1 : a - b ≤ 9223372036854775807) : subI .i64 a b = a - b := wrap_i64 h0 h1
theorem mulI_eq {a b : Int} (h0 : -9223372036854775808 ≤ a * b) (h1 : a * b ≤ 9223372036854775807) : mulI .i64 a b = a * b := wrap_i64 h0 h1
theorem quoI_eq {a b : Int} (h : 0 ≤ a) (h1 : a ≤ 9223372036854775807) (hb : 0 < b) : quoI .i64 a b = a / b := by
  have e : a.tdiv b = a / b := by rw [Int.tdiv_eq_ediv_of_nonneg h]
  unfold quoI
  rw [e]
  refine wrap_i64 ?_ ?_
  · have := Int.ediv_nonneg h (Int.le_of_lt hb); omega
  · have := Int.ediv_le_self b h; omega
theorem remI_eq {a b : Int} (h : 0 ≤ a) : remI a b = a % b := by
  unfold remI
  rw [Int.tmod_eq_emod_of_nonneg h]
def leapP (y : Int) : Prop := (y % 4 = 0 ∧ y % 100 ≠ 0) ∨ y % 400 = 0
instance (y : Int) : Decidable (leapP y) := by unfold leapP; infer_instance
def dayOf (y : Int) : Int := 365 * (y - 1970) + ((y - 1) / 4 - (y - 1) / 100 + (y - 1) / 400) - 477
def ylen (y : Int) : Int := if leapP y then 366 else 365
def cum (m : Int) : Int := if m ≤ 1 then 0 else if m = 2 then 31 else if m = 3 then 59 else if m = 4 then 90 else if m = 5 then 120 else if m = 6 then 151 else if m = 7 then 181 else if m = 8 then 212 else if m = 9 then 243 else if m = 10 then 273 else if m = 11 then 304 else if m = 12 then 334 else 365
def monthAt (y m : Int) : Int := cum m + if 2 < m ∧ leapP y then 1 else 0
theorem dayOf_next (y : Int) (h : 1 ≤ y) : dayOf (y + 1) = dayOf y + ylen y := by
  unfold dayOf ylen
  rcases Classical.em (leapP y) with hl | hl
  · rw [if_pos hl]
    unfold leapP at hl
    omega
  · rw [if_neg hl]
    unfold leapP at hl
    omega
theorem dayOf_mono {y z : Int} (h : 1 ≤ y) (hz : y ≤ z) : dayOf y ≤ dayOf z := by
  unfold dayOf; omega
structure IsDate (days y m d : Int) : Prop where
  m1 : 1 ≤ m
  m2 : m ≤ 12
  d1 : 1 ≤ d
  d2 : monthAt y m + d ≤ monthAt y (m + 1)
  eq : days = dayOf y + monthAt y m + d - 1
theorem monthAt_end (y : Int) : monthAt y 13 = ylen y := by
  unfold monthAt ylen cum
  by_cases h : leapP y <;> simp [h]
theorem era_spec (i : Int) (h0 : 0 ≤ i) (h1 : i < 146097) :
    let y := (i - i / 1460 + i / 36524 - i / 146096) / 365
    let r := i - (365 * y + y / 4 - y / 100)
    0 ≤ y ∧ y ≤ 399 ∧ 0 ≤ r ∧ (r ≤ 364 ∨ (r = 365 ∧ (((y + 1) % 4 = 0 ∧ (y + 1) % 100 ≠ 0) ∨ y = 399))) := by
  by_cases hi : i = 146096
  · subst hi
    decide
  have hs : i / 146096 = 0 := by omega
  rw [hs]
  have hq : i / 36524 = 0 ∨ i / 36524 = 1 ∨ i / 36524 = 2 ∨ i / 36524 = 3 := by omega
  generalize hp : i / 1460 = p
  have hp1 : 1460 * p ≤ i := by omega
  have hp2 : i < 1460 * p + 1460 := by omega
  have key : ∀ q : Int, (q = 0 ∨ q = 1 ∨ q = 2 ∨ q = 3) → 36524 * q ≤ i → i < 36524 * q + 36524 → i / 36524 = q → 
      (let y := (i - p + i / 36524 - 0) / 365
       let r := i - (365 * y + y / 4 - y / 100)
       0 ≤ y ∧ y ≤ 399 ∧ 0 ≤ r ∧ (r ≤ 364 ∨ (r = 365 ∧ (((y + 1) % 4 = 0 ∧ (y + 1) % 100 ≠ 0) ∨ y = 399)))) := by
    intro q hq' g1 g2 hqe
    rw [hqe]
    intro y r
    have hy1 : 365 * y ≤ i - p + q := by omega
    have hy2 : i - p + q < 365 * y + 365 := by omega
    have hc : y / 100 = q := by
      have : 100 * q ≤ y := by omega
      have : y < 100 * q + 100 := by omega
      omega
    generalize hw : y / 4 = w at *
    have hw1 : 4 * w ≤ y := by omega
    have hw2 : y < 4 * w + 4 := by omega
    have hw3 : 25 * q ≤ w := by omega
    have hp0 : 0 ≤ p := by omega
    have hw4 : w ≤ 99 := by omega
    have hd1 : p ≤ w + 1 := by omega
    have hd2 : w ≤ p := by omega
    have hd : p = w ∨ p = w + 1 := by omega
    clear_value y
    have hr : r = i - (365 * y + w - q) := by show i - (365 * y + y / 4 - y / 100) = _; rw [hw, hc]
    clear_value r
    subst hr
    clear hw hp hi hs
    refine ⟨by omega, by omega, by omega, ?_⟩
    by_cases he : i - (365 * y + w - q) ≤ 364
    · exact .inl he
    · right
      have h1 : p = w + 1 := by omega
      have h2 : i = 365 * y + 365 + w - q := by omega
      have h3 : y = 4 * w + 3 := by omega
      refine ⟨by omega, .inl ⟨by omega, ?_⟩⟩
      intro h4
      have h5 : y = 100 * q + 99 := by omega
      omega
  rcases hq with h | h | h | h
  · exact key 0 (by omega) (by omega) (by omega) h
  · exact key 1 (by omega) (by omega) (by omega) h
  · exact key 2 (by omega) (by omega) (by omega) h
  · exact key 3 (by omega) (by omega) (by omega) h
theorem dayOf_leap (y : Int) : dayOf y + (if leapP y then 1 else 0) = 365 * (y - 1970) + (y / 4 - y / 100 + y / 400) - 477 := by
  unfold dayOf
  rcases Classical.em (leapP y) with hl | hl
  · rw [if_pos hl]; unfold leapP at hl; omega
  · rw [if_neg hl]; unfold leapP at hl; omega
theorem late_month {year m d rest days mm : Int} (h1 : 3 ≤ m) (h2 : m ≤ 12) (hmm : m = mm + 3) (hr : 153 * mm ≤ 5 * rest + 2) (hr2 : 5 * rest + 2 < 153 * mm + 153) (hd : d = rest - (153 * mm + 2) / 5 + 1)
    (he : days = 365 * (year - 1970) + (year / 4 - year / 100 + year / 400) - 477 + 59 + rest) : IsDate days year m d := by
  have hl := dayOf_leap year
  have hm : m = 3 ∨ m = 4 ∨ m = 5 ∨ m = 6 ∨ m = 7 ∨ m = 8 ∨ m = 9 ∨ m = 10 ∨ m = 11 ∨ m = 12 := by omega
  have e1 : monthAt year m = cum m + if leapP year then 1 else 0 := by
    unfold monthAt
    by_cases h : leapP year
    · rw [if_pos ⟨by omega, h⟩, if_pos h]
    · rw [if_neg (fun x => h x.2), if_neg h]
  have e2 : monthAt year (m + 1) = cum (m + 1) + if leapP year then 1 else 0 := by
    unfold monthAt
    by_cases h : leapP year
    · rw [if_pos ⟨by omega, h⟩, if_pos h]
    · rw [if_neg (fun x => h x.2), if_neg h]
  have e3 : cum m = 59 + (153 * mm + 2) / 5 ∧ cum (m + 1) = 59 + (if m = 12 then 306 else (153 * (mm + 1) + 2) / 5) := by
    have : mm = m - 3 := by omega
    subst this
    rcases hm with rfl | rfl | rfl | rfl | rfl | rfl | rfl | rfl | rfl | rfl <;> decide
  refine ⟨by omega, h2, by omega, ?_, by omega⟩
  rw [e1, e2, e3.1, e3.2, hd]
  split <;> omega
theorem early_month {year m d rest days mm : Int} (hmm : m = mm - 9) (h1 : mm = 10 ∨ mm = 11) (hr2 : 5 * rest + 2 < 153 * mm + 153) (hr : 153 * mm ≤ 5 * rest + 2) (hd : d = rest - (153 * mm + 2) / 5 + 1)
    (hle : rest ≤ 364 ∨ (rest = 365 ∧ leapP year)) (he : days = dayOf year - 306 + rest) : IsDate days year m d := by
  rcases h1 with rfl | rfl
  · have hm : m = 1 := by omega
    subst hm
    have e1 : monthAt year 1 = 0 := by unfold monthAt cum; simp
    have e2 : monthAt year 2 = 31 := by unfold monthAt cum; simp
    exact ⟨by omega, by omega, by omega, by rw [e1, show (1 : Int) + 1 = 2 from rfl, e2]; omega, by rw [e1]; omega⟩
  · have hm : m = 2 := by omega
    subst hm
    have e1 : monthAt year 2 = 31 := by unfold monthAt cum; simp
    have e2 : monthAt year 3 = 59 + if leapP year then 1 else 0 := by unfold monthAt cum; simp
    refine ⟨by omega, by omega, by omega, ?_, by rw [e1]; omega⟩
    rw [e1, show (2 : Int) + 1 = 3 from rfl, e2]
    rcases hle with h | ⟨h, hl⟩
    · split <;> omega
    · rw [if_pos hl]; omega
theorem date_spec (days : Int) (h0 : 0 ≤ days) :
    let t := days + 719468
    let i := t % 146097
    let y := (i - i / 1460 + i / 36524 - i / 146096) / 365
    let r := i - (365 * y + y / 4 - y / 100)
    let m := (5 * r + 2) / 153
    let d := r - (153 * m + 2) / 5 + 1
    let year := y + 400 * (t / 146097)
    0 ≤ m ∧ m ≤ 11 ∧ (10 ≤ m → IsDate days (year + 1) (m - 9) d) ∧ (m < 10 → IsDate days year (m + 3) d) := by
  intro t i y r m d year
  obtain ⟨h1, h2, h3, h4⟩ := era_spec i (by omega) (by omega)
  have hm1 : 153 * m ≤ 5 * r + 2 := by omega
  have hm2 : 5 * r + 2 < 153 * m + 153 := by omega
  have h1' : 0 ≤ y := h1
  have h2' : y ≤ 399 := h2
  have h3' : 0 ≤ r := h3
  have h5 : r ≤ 365 := by
    rcases h4 with h | h
    · have : r ≤ 364 := h
      omega
    · have : r = 365 := h.1
      omega
  have hy4 : (y + 400 * (t / 146097)) / 4 = y / 4 + 100 * (t / 146097) := by omega
  have hy100 : (y + 400 * (t / 146097)) / 100 = y / 100 + 4 * (t / 146097) := by omega
  have hy400 : (y + 400 * (t / 146097)) / 400 = t / 146097 := by omega
  have hri : i = r + (365 * y + y / 4 - y / 100) := by omega
  have ht : t = 146097 * (t / 146097) + i := by omega
  have hday : days = t - 719468 := by omega
  refine ⟨by omega, by omega, ?_, ?_⟩
  · intro h10
    refine early_month rfl (by omega) hm2 hm1 rfl ?_ ?_
    · rcases h4 with h | ⟨h, hl⟩
      · exact .inl h
      · refine .inr ⟨h, ?_⟩
        unfold leapP
        rcases hl with ⟨a, b⟩ | a
        · left
          have a' : (y + 1) % 4 = 0 := a
          have b' : (y + 1) % 100 ≠ 0 := b
          refine ⟨by omega, by omega⟩
        · right
          have a' : y = 399 := a
          omega
    · unfold dayOf
      rw [show year + 1 - 1 = y + 400 * (t / 146097) by omega, hy4, hy100, hy400]
      omega
  · intro h10
    refine late_month (by omega) (by omega) rfl hm1 hm2 rfl ?_
    rw [show year = y + 400 * (t / 146097) from rfl, hy4, hy100, hy400]
    omega
theorem monthAt_step (y m : Int) (h1 : 1 ≤ m) (h2 : m ≤ 12) : monthAt y m + 28 ≤ monthAt y (m + 1) := by
  have hm : m = 1 ∨ m = 2 ∨ m = 3 ∨ m = 4 ∨ m = 5 ∨ m = 6 ∨ m = 7 ∨ m = 8 ∨ m = 9 ∨ m = 10 ∨ m = 11 ∨ m = 12 := by omega
  unfold monthAt cum
  rcases hm with rfl | rfl | rfl | rfl | rfl | rfl | rfl | rfl | rfl | rfl | rfl | rfl <;> by_cases h : leapP y <;> simp [h]
theorem monthAt_mono (y : Int) : ∀ (k : Nat) (m : Int), 1 ≤ m → m + k ≤ 13 → monthAt y m ≤ monthAt y (m + k)
  | 0, m, _, _ => by simp
  | k + 1, m, h1, h2 => by
    have := monthAt_mono y k m h1 (by omega)
    have := monthAt_step y (m + k) (by omega) (by omega)
    rw [show m + ((k + 1 : Nat) : Int) = m + k + 1 by omega]
    omega
theorem monthAt_le {y m n : Int} (h1 : 1 ≤ m) (h2 : m ≤ n) (h3 : n ≤ 13) : monthAt y m ≤ monthAt y n := by
  have := monthAt_mono y (n - m).toNat m h1 (by omega)
  rwa [show m + ((n - m).toNat : Int) = n by omega] at this
theorem monthAt_pos {y m : Int} (h1 : 1 ≤ m) (h2 : m ≤ 13) : 0 ≤ monthAt y m := by
  have := monthAt_le (y := y) (Int.le_refl 1) h1 h2
  have e : monthAt y 1 = 0 := by unfold monthAt cum; simp
  omega
theorem IsDate.lo {days y m d : Int} (h : IsDate days y m d) : dayOf y ≤ days := by
  have := monthAt_pos (y := y) h.m1 (by have := h.m2; omega)
  have := h.eq; have := h.d1
  omega
theorem IsDate.hi {days y m d : Int} (h : IsDate days y m d) : days < dayOf y + ylen y := by
  have := monthAt_le (y := y) (m := m + 1) (n := 13) (by have := h.m1; omega) (by have := h.m2; omega) (by omega)
  have := monthAt_end y
  have := h.eq; have := h.d2
  omega
theorem ylen_bounds (y : Int) : 365 ≤ ylen y ∧ ylen y ≤ 366 := by unfold ylen; split <;> omega
theorem IsDate.year {days y m d : Int} (h : IsDate days y m d) (h0 : 0 ≤ days) (h1 : days ≤ 2932896) : 1970 ≤ y ∧ y ≤ 9999 := by
  have a := h.lo
  have b := h.hi
  have c := ylen_bounds y
  constructor
  · rcases Int.lt_or_le y 1970 with hy | hy
    · have e1 : dayOf 1970 = 0 := by decide
      rcases Int.lt_or_le y 1 with hz | hz
      · have : dayOf y + 366 ≤ 0 := by unfold dayOf; omega
        omega
      · have := dayOf_next y hz
        have := dayOf_mono (y := y + 1) (z := 1970) (by omega) (by omega)
        omega
    · exact hy
  · rcases Int.lt_or_le 9999 y with hy | hy
    · have := dayOf_mono (y := 10000) (z := y) (by omega) (by omega)
      have e1 : dayOf 10000 = 2932897 := by decide
      omega
    · exact hy
theorem IsDate.day {days y m d : Int} (h : IsDate days y m d) : d ≤ 31 := by
  have h2 := h.d2
  have hm : m = 1 ∨ m = 2 ∨ m = 3 ∨ m = 4 ∨ m = 5 ∨ m = 6 ∨ m = 7 ∨ m = 8 ∨ m = 9 ∨ m = 10 ∨ m = 11 ∨ m = 12 := by have := h.m1; have := h.m2; omega
  unfold monthAt cum at h2
  rcases hm with rfl | rfl | rfl | rfl | rfl | rfl | rfl | rfl | rfl | rfl | rfl | rfl <;> by_cases hl : leapP y <;> simp [hl] at h2 <;> omega
def dig : Nat → Nat → Str
  | 0, _ => []
  | k + 1, n => dig k (n / 10) ++ [UInt8.ofNat (48 + n % 10)]
theorem dig_length : ∀ (k n : Nat), (dig k n).length = k
  | 0, _ => rfl
  | k + 1, n => by simp [dig, dig_length k]
theorem dig_zero : ∀ (k : Nat), dig k 0 = List.replicate k 48
  | 0 => rfl
  | k + 1 => by
    rw [dig, show 0 / 10 = 0 from rfl, dig_zero k, List.replicate_succ']
    rfl
theorem repeat48 : ∀ (k : Nat), Lib.repeatL [48] k = List.replicate k 48
  | 0 => rfl
  | k + 1 => by rw [Lib.repeatL, repeat48 k]; rfl
theorem padded_dig : ∀ (k n : Nat), n < 10 ^ (k + 1) → Lib.repeatL [48] (k + 1 - (Lib.decDigits n).length) ++ Lib.decDigits n = dig (k + 1) n ∧ (Lib.decDigits n).length ≤ k + 1
  | 0, n, h => by
    have hn : n < 10 := by omega
    rw [Lib.decDigits, dif_pos hn]
    refine ⟨?_, by simp⟩
    simp [dig, Lib.repeatL, Nat.mod_eq_of_lt hn]
  | k + 1, n, h => by
    by_cases hn : n < 10
    · rw [Lib.decDigits, dif_pos hn]
      refine ⟨?_, by simp⟩
      rw [dig, Nat.div_eq_of_lt hn, dig_zero, repeat48, Nat.mod_eq_of_lt hn]
      simp
    · obtain ⟨h1, h2⟩ := padded_dig k (n / 10) (by rw [Nat.div_lt_iff_lt_mul (by omega)]; rw [Nat.pow_succ] at h; exact h)
      rw [Lib.decDigits, dif_neg hn]
      refine ⟨?_, by simp; omega⟩
      rw [dig, ← h1, List.length_append, List.length_singleton, ← List.append_assoc]
      congr 3
      omega
theorem IsDate.uniq {days y m d y' m' d' : Int} (h : IsDate days y m d) (h' : IsDate days y' m' d') (hy : 1 ≤ y) (hy' : 1 ≤ y') : y = y' ∧ m = m' ∧ d = d' := by
  have a := h.lo; have b := h.hi; have a' := h'.lo; have b' := h'.hi
  have := h.m1; have := h.m2; have := h.d1
  have := h'.m1; have := h'.m2; have := h'.d1
  have e1 := dayOf_next y' hy'
  have e2 := dayOf_next y hy
  have hyy : y = y' := by
    rcases Int.lt_or_le y' y with hc | hc
    · have := dayOf_mono (y := y' + 1) (z := y) (by omega) (by omega)
      omega
    · rcases Int.lt_or_le y y' with hc2 | hc2
      · have := dayOf_mono (y := y + 1) (z := y') (by omega) (by omega)
        omega
      · omega
  subst hyy
  have e := h.eq; have e' := h'.eq
  have hmm : m = m' := by
    rcases Int.lt_or_le m' m with hm | hm
    · have := monthAt_le (y := y) (m := m' + 1) (n := m) (by omega) (by omega) (by omega)
      have := h'.d2
      omega
    · rcases Int.lt_or_le m m' with hm2 | hm2
      · have := monthAt_le (y := y) (m := m + 1) (n := m') (by omega) (by omega) (by omega)
        have := h.d2
        omega
      · omega
  subst hmm
  exact ⟨rfl, rfl, by omega⟩
theorem fcert_padded_eq (k : Nat) (hk : k ≤ 18) (n : Int) (h0 : 0 ≤ n) (h1 : n.toNat < 10 ^ (k + 1)) (many : Int) (hm : many = k + 1) (R : Type) (K : Str → Option R) : Zbp R n many K = K (dig (k + 1) n.toNat) := by
  obtain ⟨p1, p2⟩ := padded_dig k n.toNat h1
  have hi : Lib.itoa n = Lib.decDigits n.toNat := by unfold Lib.itoa; rw [if_neg (by omega)]
  show gd true (gd (repB [48] (mxI 0 (subI .i64 many (((Lib.itoa n).length : Nat) : Int)))) (gd (catB _ (Lib.itoa n)) (K (_ ++ Lib.itoa n)))) = _
  rw [hi]
  generalize hl : (Lib.decDigits n.toNat).length = l at *
  have e1 : subI .i64 many (l : Int) = many - l := subI_eq (by omega) (by omega)
  have e2 : mxI 0 (many - l) = many - l := by unfold mxI; split <;> omega
  rw [e1, e2]
  have e3 : (many - (l : Int)).toNat = k + 1 - l := by omega
  have e4 : repB [48] (many - l) = true := by
    unfold repB
    simp only [Bool.and_eq_true, decide_eq_true_eq, e3]
    refine ⟨by omega, ?_⟩
    simp only [List.length_singleton]
    omega
  rw [e4, e3]
  have e5 : catB (Lib.repeatL [48] (k + 1 - l)) (Lib.decDigits n.toNat) = true := by
    unfold catB
    rw [decide_eq_true_eq, Lib.repeatL_length, hl]
    simp only [List.length_singleton]
    omega
  show gd (catB _ _) (K _) = _
  rw [e5, p1]
  rfl
def stamp (y m d s : Int) : Str :=
  dig 4 y.toNat ++ dig 2 m.toNat ++ dig 2 d.toNat ++ dig 2 (s / 3600).toNat ++ dig 2 (s / 60 % 60).toNat ++ dig 2 (s % 60).toNat ++ [90]
theorem fcert_date_eq (days : Int) (h0 : 0 ≤ days) (h1 : days ≤ 2932896) : ∃ y m d, IsDate days y m d ∧ ∀ (R : Type) (K : Int → Int → Int → Option R), Zlh R days K = K y m d := by
  have hs := date_spec days h0
  have he := era_spec ((days + 719468) % 146097) (by omega) (by omega)
  have ht : addI .i64 days 719468 = days + 719468 := addI_eq (by omega) (by omega)
  simp only at hs he
  generalize hI : (days + 719468) % 146097 = i at hs he
  generalize hA : (days + 719468) / 146097 = age at hs
  have hi0 : 0 ≤ i := by omega
  have hi1 : i < 146097 := by omega
  have ha0 : 0 ≤ age := by omega
  have ha1 : age ≤ 30 := by omega
  generalize hY : (i - i / 1460 + i / 36524 - i / 146096) / 365 = y at hs he
  obtain ⟨hy0, hy1, hr0, hr1⟩ := he
  generalize hR : i - (365 * y + y / 4 - y / 100) = r at hs hr0 hr1
  have hr2 : r ≤ 365 := by rcases hr1 with h | ⟨h, _⟩ <;> omega
  generalize hM : (5 * r + 2) / 153 = m at hs
  generalize hD : r - (153 * m + 2) / 5 + 1 = d at hs
  obtain ⟨hm0, hm1, s1, s2⟩ := hs
  have v1 : quoI .i64 (addI .i64 days 719468) 146097 = age := by rw [ht, quoI_eq (by omega) (by omega) (by omega), hA]
  have v2 : remI (addI .i64 days 719468) 146097 = i := by rw [ht, remI_eq (by omega), hI]
  have v3 : quoI .i64 (subI .i64 (addI .i64 (subI .i64 i (quoI .i64 i 1460)) (quoI .i64 i 36524)) (quoI .i64 i 146096)) 365 = y := by
    have a1 : quoI .i64 i 1460 = i / 1460 := quoI_eq hi0 (by omega) (by omega)
    have a2 : quoI .i64 i 36524 = i / 36524 := quoI_eq hi0 (by omega) (by omega)
    have a3 : quoI .i64 i 146096 = i / 146096 := quoI_eq hi0 (by omega) (by omega)
    have a4 : subI .i64 i (i / 1460) = i - i / 1460 := subI_eq (by omega) (by omega)
    have a5 : addI .i64 (i - i / 1460) (i / 36524) = i - i / 1460 + i / 36524 := addI_eq (by omega) (by omega)
    have a6 : subI .i64 (i - i / 1460 + i / 36524) (i / 146096) = i - i / 1460 + i / 36524 - i / 146096 := subI_eq (by omega) (by omega)
    have a7 : quoI .i64 (i - i / 1460 + i / 36524 - i / 146096) 365 = y := by rw [quoI_eq (by omega) (by omega) (by omega), hY]
    rw [a1, a2, a3, a4, a5, a6, a7]
  have v4 : subI .i64 i (subI .i64 (addI .i64 (mulI .i64 365 y) (quoI .i64 y 4)) (quoI .i64 y 100)) = r := by
    have a1 : quoI .i64 y 4 = y / 4 := quoI_eq hy0 (by omega) (by omega)
    have a2 : quoI .i64 y 100 = y / 100 := quoI_eq hy0 (by omega) (by omega)
    have a3 : mulI .i64 365 y = 365 * y := mulI_eq (by omega) (by omega)
    have a4 : addI .i64 (365 * y) (y / 4) = 365 * y + y / 4 := addI_eq (by omega) (by omega)
    have a5 : subI .i64 (365 * y + y / 4) (y / 100) = 365 * y + y / 4 - y / 100 := subI_eq (by omega) (by omega)
    have a6 : subI .i64 i (365 * y + y / 4 - y / 100) = r := by rw [subI_eq (by omega) (by omega), hR]
    rw [a1, a2, a3, a4, a5, a6]
  have v5 : quoI .i64 (addI .i64 (mulI .i64 5 r) 2) 153 = m := by
    have a1 : mulI .i64 5 r = 5 * r := mulI_eq (by omega) (by omega)
    have a2 : addI .i64 (5 * r) 2 = 5 * r + 2 := addI_eq (by omega) (by omega)
    rw [a1, a2, quoI_eq (by omega) (by omega) (by omega), hM]
  have v6 : addI .i64 (subI .i64 r (quoI .i64 (addI .i64 (mulI .i64 153 m) 2) 5)) 1 = d := by
    have a1 : mulI .i64 153 m = 153 * m := mulI_eq (by omega) (by omega)
    have a2 : addI .i64 (153 * m) 2 = 153 * m + 2 := addI_eq (by omega) (by omega)
    have a3 : quoI .i64 (153 * m + 2) 5 = (153 * m + 2) / 5 := quoI_eq (by omega) (by omega) (by omega)
    have a4 : subI .i64 r ((153 * m + 2) / 5) = r - (153 * m + 2) / 5 := subI_eq (by omega) (by omega)
    have a5 : addI .i64 (r - (153 * m + 2) / 5) 1 = d := by rw [addI_eq (by omega) (by omega), hD]
    rw [a1, a2, a3, a4, a5]
  have v7 : addI .i64 y (mulI .i64 400 age) = y + 400 * age := by
    have a1 : mulI .i64 400 age = 400 * age := mulI_eq (by omega) (by omega)
    have a2 : addI .i64 y (400 * age) = y + 400 * age := addI_eq (by omega) (by omega)
    rw [a1, a2]
  have main : ∀ (R : Type) (K : Int → Int → Int → Option R), Zlh R days K = br (leI 10 m) (K (addI .i64 (y + 400 * age) 1) (subI .i64 m 9) d) (K (y + 400 * age) (addI .i64 m 3) d) := by
    intro R K
    unfold Zlh Z11p lett
    simp only [v1, v2, v3, v4, v5, v6, v7]
  by_cases hm : 10 ≤ m
  · refine ⟨y + 400 * age + 1, m - 9, d, s1 hm, fun R K => ?_⟩
    rw [main, show leI 10 m = true by unfold leI; rw [decide_eq_true_eq]; exact hm, br_true, addI_eq (by omega) (by omega), subI_eq (by omega) (by omega)]
  · refine ⟨y + 400 * age, m + 3, d, s2 (by omega), fun R K => ?_⟩
    rw [main, show leI 10 m = false by unfold leI; rw [decide_eq_false_iff_not]; exact hm, br_false, addI_eq (by omega) (by omega)]
theorem fcert_Time_bad (n : Int) (h : n < 0 ∨ 253402300799 < n) (R : Type) (K : Str → Int → Option R) : Z1n R n K = K [] 1 := by
  unfold Z1n Zue
  rcases h with h | h
  · rw [show ltI n 0 = true by unfold ltI; rw [decide_eq_true_eq]; exact h]; rfl
  · rw [show ltI n 0 = false by unfold ltI; rw [decide_eq_false_iff_not]; omega, show ltI 253402300799 n = true by unfold ltI; rw [decide_eq_true_eq]; exact h]; rfl
theorem fcert_Time_eq (n : Int) (h0 : 0 ≤ n) (h1 : n ≤ 253402300799) : ∃ y m d, IsDate (n / 86400) y m d ∧ ∀ (R : Type) (K : Str → Int → Option R), Z1n R n K = K (stamp y m d (n % 86400)) 0 := by
  obtain ⟨y, m, d, hd, he⟩ := fcert_date_eq (n / 86400) (by omega) (by omega)
  refine ⟨y, m, d, hd, fun R K => ?_⟩
  have hy := hd.year (by omega) (by omega)
  have := hd.m1; have := hd.m2; have := hd.d1; have := hd.day
  unfold Z1n Zue
  dsimp only [lett]
  rw [show ltI n 0 = false by unfold ltI; rw [decide_eq_false_iff_not]; omega, show ltI 253402300799 n = false by unfold ltI; rw [decide_eq_false_iff_not]; omega, br_false, br_false]
  rw [quoI_eq h0 (by omega) (by omega), remI_eq h0]
  generalize hs : n % 86400 = s
  have hs0 : 0 ≤ s := by omega
  have hs1 : s < 86400 := by omega
  rw [he, quoI_eq hs0 (by omega) (by omega), quoI_eq hs0 (by omega) (by omega), remI_eq (a := s) hs0, remI_eq (a := s / 60) (by omega)]
  rw [fcert_padded_eq 3 (by omega) y (by omega) (by omega) 4 (by rfl), fcert_padded_eq 1 (by omega) m (by omega) (by omega) 2 (by rfl)]
  rw [catB_of (by simp [dig_length])]
  show Zbp R d 2 _ = _
  rw [fcert_padded_eq 1 (by omega) d (by omega) (by omega) 2 (by rfl), catB_of (by simp [dig_length])]
  show Zbp R (s / 3600) 2 _ = _
  rw [fcert_padded_eq 1 (by omega) (s / 3600) (by omega) (by omega) 2 (by rfl), catB_of (by simp [dig_length])]
  show Zbp R (s / 60 % 60) 2 _ = _
  rw [fcert_padded_eq 1 (by omega) (s / 60 % 60) (by omega) (by omega) 2 (by rfl), catB_of (by simp [dig_length])]
  show Zbp R (s % 60) 2 _ = _
  rw [fcert_padded_eq 1 (by omega) (s % 60) (by omega) (by omega) 2 (by rfl), catB_of (by simp [dig_length])]
  rw [gd_true, catB_of (by simp [dig_length])]
  rfl
def code (y m d s : Int) : Nat := (((((y.toNat * 100 + m.toNat) * 100 + d.toNat) * 100 + (s / 3600).toNat) * 100 + (s / 60 % 60).toNat) * 100 + (s % 60).toNat)
theorem fcert_Time_at (n : Int) (h0 : 0 ≤ n) (h1 : n ≤ 253402300799) {y m d : Int} (hd : IsDate (n / 86400) y m d) (hy : 1 ≤ y) (R : Type) (K : Str → Int → Option R) : Z1n R n K = K (stamp y m d (n % 86400)) 0 := by
  obtain ⟨y', m', d', hd', he⟩ := fcert_Time_eq n h0 h1
  have hy' := hd'.year (by omega) (by omega)
  obtain ⟨rfl, rfl, rfl⟩ := hd.uniq hd' hy (by omega)
  exact he R K
noncomputable section
theorem Ztu (R : Type) (x4 x5 x6 : Int) (x7 : Bool) (k0 : Int → Int → Int → Option R) : Z169 R x4 x5 x6 x7 k0 = Zdw R x4 x5 x6 x7 k0 := by kernel_rfl
theorem Z1bj (R : Type) (x10 : Str) (x11 x12 x13 : Int) (x14 : List Int) (x15 : Int) (x16 : Bool) (x17 : List Int) (k0 : Str → Int → Int → Int → (List Int) → Int → (List Int) → Option R) : Z19r Z33 Z32 Z3d Z1n R x10 x11 x12 x13 x14 x15 x16 x17 k0 = Zty Z33 Z32 Z3d Z1n R x10 x11 x12 x13 x14 x15 x16 x17 k0 := by kernel_rfl
def Zi8 (R : Type) (n : Nat) (x5 : Str) (x6 : List Int) (x7 : Int) (x8 : List Int) (k0 : Str → (List Int) → Option R) : Option R :=
 runP Z11h Z11v (Zr6 Z33 Z32 Z3d Z1n).step R n ((x5, (), (x6, ()), x7, ()), ((x8, ()), ())) (fun r => k0 (r.1) (r.2), ())
theorem Z10y (R : Type) (n : Nat) (x5 : Str) (x6 : List Int) (x7 : Int) (x8 : List Int) (k0 : Str → (List Int) → Option R) : Zi8 R (n + 1) x5 x6 x7 x8 k0 = Zls Z33 Z32 Z3d Z1n R x5 x6 x7 x8 (fun x5 x6 x7 x8 => Zi8 R n x5 x6 x7 x8 k0) k0 := rfl
theorem Z1bm (R : Type) (x5 : Str) (x6 : List Int) (x7 : Int) (x8 : List Int) (k0 : Str → (List Int) → Option R) : Z19g Z33 Z32 Z3d Z1n R x5 x6 x7 x8 k0 = Zi8 R (Zde x5 x6 x7 x8) x5 x6 x7 x8 k0 := rfl
def Z4c (R : Type) (n : Nat) (x3 x4 : Int) (x5 : Str) (k0 : Int → Str → Option R) (k1 : Str → Option R) : Option R :=
 runP Z6l Z6m (Z2x Z4z).step R n (((), (), x3, x4, ()), ((x5, ()), ())) (fun r => k0 (r.1) (r.2), fun r => k1 (r), ())
theorem Za5 (R : Type) (n : Nat) (x3 x4 : Int) (x5 : Str) (k0 : Int → Str → Option R) (k1 : Str → Option R) : Z4c R (n + 1) x3 x4 x5 k0 k1 = Z3a Z4z R x3 x4 x5 (fun x3 x4 x5 => Z4c R n x3 x4 x5 k0 k1) k0 k1 := rfl
theorem Zlk (R : Type) (x3 x4 : Int) (x5 : Str) (k0 : Int → Str → Option R) (k1 : Str → Option R) : Zd8 Z4z R x3 x4 x5 k0 k1 = Z4c R (Z27 x3 x4 x5) x3 x4 x5 k0 k1 := rfl
end
noncomputable section
def Z2n (R : Type) (n : Nat) (x3 : Str) (x4 : List (Tup [.bool])) (k0 : Str → (List (Tup [.bool])) → Option R) : Option R :=
 runP Z96 Z8w (Z3m Ze).step R n ((x3, (), ()), ((x4, ()), ())) (fun r => k0 (r.1) (r.2), ())
theorem Zm9 (R : Type) (n : Nat) (x3 : Str) (x4 : List (Tup [.bool])) (k0 : Str → (List (Tup [.bool])) → Option R) : Z2n R (n + 1) x3 x4 k0 = Z74 Ze R x3 x4 (fun x3 x4 => Z2n R n x3 x4 k0) k0 := rfl
theorem Zpz (R : Type) (x3 : Str) (x4 : List (Tup [.bool])) (k0 : Str → (List (Tup [.bool])) → Option R) : Zg8 Ze R x3 x4 k0 = Z2n R (Z2v x3 x4) x3 x4 k0 := rfl
def Z31 (R : Type) (n : Nat) (x3 : Str) (x4 : List (Tup [.bool])) (k0 : Str → (List (Tup [.bool])) → Option R) : Option R :=
 runP Z9w Z9x (Z3z Ze).step R n ((x3, (), ()), ((x4, ()), ())) (fun r => k0 (r.1) (r.2), ())
theorem Znr (R : Type) (n : Nat) (x3 : Str) (x4 : List (Tup [.bool])) (k0 : Str → (List (Tup [.bool])) → Option R) : Z31 R (n + 1) x3 x4 k0 = Z7u Ze R x3 x4 (fun x3 x4 => Z31 R n x3 x4 k0) k0 := rfl
theorem Zr9 (R : Type) (x3 : Str) (x4 : List (Tup [.bool])) (k0 : Str → (List (Tup [.bool])) → Option R) : Zgx Ze R x3 x4 k0 = Z31 R (Z34 x3 x4) x3 x4 k0 := rfl
def Z77 (R : Type) (n : Nat) (x2 : Str) (x3 x4 : Int) (k0 : Unit → Option R) : Option R :=
 runP Z6n Z6q (Z2y).step R n (((), x2, x3, x4, ()), (())) (fun r => k0 (), ())
theorem Zjs (R : Type) (n : Nat) (x2 : Str) (x3 x4 : Int) (k0 : Unit → Option R) : Z77 R (n + 1) x2 x3 x4 k0 = Zap R x2 x3 x4 (fun x2 x3 x4 => Z77 R n x2 x3 x4 k0) k0 := rfl
theorem Zlq (R : Type) (x2 : Str) (x3 x4 : Int) (k0 : Unit → Option R) : Zd9 R x2 x3 x4 k0 = Z77 R (Z26 x2 x3 x4) x2 x3 x4 k0 := rfl
def Z4d (R : Type) (n : Nat) (x4 : Str) (x5 x6 : Int) (x7 : List Str) (k0 : Int → (List Str) → Option R) (k1 : (List Str) → Option R) : Option R :=
 runP Z6s Z6r (Z2w).step R n (((), x4, x5, x6, ()), ((x7, ()), ())) (fun r => k0 (r.1) (r.2), fun r => k1 (r), ())
theorem Z55 (R : Type) (n : Nat) (x4 : Str) (x5 x6 : Int) (x7 : List Str) (k0 : Int → (List Str) → Option R) (k1 : (List Str) → Option R) : Z4d R (n + 1) x4 x5 x6 x7 k0 k1 = Z25 R x4 x5 x6 x7 (fun x4 x5 x6 x7 => Z4d R n x4 x5 x6 x7 k0 k1) k0 k1 := rfl
theorem Zlp (R : Type) (x4 : Str) (x5 x6 : Int) (x7 : List Str) (k0 : Int → (List Str) → Option R) (k1 : (List Str) → Option R) : Zdc R x4 x5 x6 x7 k0 k1 = Z4d R (Z24 x4 x5 x6 x7) x4 x5 x6 x7 k0 k1 := rfl
end
abbrev Zlo (x2 : Str) (x3 x4 : Int) : Prop := (0 ≤ (x4)) ∧ ((x4) ≤ 8) ∧ (8 ≤ ((x2)).length)
theorem Z137 (x2 : Str) (x3 x4 : Int) (i_ : Zlo x2 x3 x4) : Zxb (fun R next k0 => Zmi R x2 x3 x4 next k0) (fun nx2 nx3 nx4 => Zlo nx2 nx3 nx4 ∧ (8 - (nx4)).toNat < (8 - (x4)).toNat) (fun z0 => True) := by
  obtain ⟨i_0, i_1, i_2⟩ := i_
  refine Zxb.of ?_
  delta Zmi
  refine Tot.br (fun h1 => ?_) (fun h1 => ?_)
  · first | simp (disch := omega) only [ts, *] at h1 | skip
    all_goals
      refine Tot.gd ?_
      refine Tot.lett (fun v5 e_v5 => ?_)
      refine Tot.gd ?_
      refine Tot.lett (fun v6 e_v6 => ?_)
      exact Tot.ret _
  · first | simp (disch := omega) only [ts, *] at h1 | skip
    all_goals
      exact Tot.ret _
theorem Z173 (x2 : Str) (x3 x4 : Int) (i_ : autoParam (Zlo x2 x3 x4) sA._auto_1) : T_1 (fun R k0 => Z14n R x2 x3 x4 k0) (fun z0 => True) :=
 Z1bi (r := fun R n x2 x3 x4 k0 => runP Zts Ztp (Zj2).step R n ((x2, x3, x4, ()), (())) (fun r => k0 (r), ())) (fun _ _ _ _ _ _ => rfl) Zlo (fun x2 x3 x4 => (8 - (x4)).toNat) Z137 (Zgg x2 x3 x4) x2 x3 x4 i_ (by obtain ⟨i_0, i_1, i_2⟩ := i_; unfold Zgg; first | omega | (simp only [ts] <;> omega))
theorem Zk0 (a1 : Str) (h_ : autoParam ((8 ≤ ((a1)).length)) sA._auto_1) : T_1 (fun R k0 => Znp R a1 k0) (fun z0 => True) := by
  refine T_1.of ?_
  delta Znp Zzl
  refine T_1.bind (Z173 a1 0 0) (fun y7 q1 => ?_)
  exact Tot.ret _
abbrev Zgu (x3 x4 : Int) (x5 x6 : List Int) : Prop := ((x5).length = 5) ∧ ((x6).length = 5) ∧ (0 ≤ (x4)) ∧ ((x4) ≤ 5)
theorem Zyg (x3 x4 : Int) (x5 x6 : List Int) (i_ : Zgu x3 x4 x5 x6) : Zxh (fun R next k0 => Zia R x3 x4 x5 x6 next k0) (fun nx3 nx4 nx5 nx6 => Zgu nx3 nx4 nx5 nx6 ∧ (5 - (nx4)).toNat < (5 - (x4)).toNat) (fun z0 z1 z2 => ((z1).length = 5) ∧ ((z2).length = 5)) := by
  obtain ⟨i_0, i_1, i_2, i_3⟩ := i_
  refine Zxh.of ?_
  delta Zia
  refine Tot.br (fun h1 => ?_) (fun h1 => ?_)
  · first | simp (disch := omega) only [ts, *] at h1 | skip
    all_goals
      refine Tot.gd ?_
      refine Tot.lett (fun v7 e_v7 => ?_)
      refine Tot.gd ?_
      refine Tot.gd ?_
      refine Tot.lett (fun v8 e_v8 => ?_)
      refine Tot.gd ?_
      refine Tot.lett (fun v9 e_v9 => ?_)
      refine Tot.lett (fun v10 e_v10 => ?_)
      refine Tot.gd ?_
      refine Tot.lett (fun v11 e_v11 => ?_)
      exact Tot.ret _
  · first | simp (disch := omega) only [ts, *] at h1 | skip
    all_goals
      exact Tot.ret _
theorem Z142 (x3 x4 : Int) (x5 x6 : List Int) (i_ : autoParam (Zgu x3 x4 x5 x6) sA._auto_1) : T_3 (fun R k0 => Zzk R x3 x4 x5 x6 k0) (fun z0 z1 z2 => ((z1).length = 5) ∧ ((z2).length = 5)) :=
 Z1bh (r := fun R n x3 x4 x5 x6 k0 => runP Zn8 Zn1 (Zdu).step R n (((), (), x3, x4, ()), ((x5, ()), (x6, ()), ())) (fun r => k0 (r.1) (r.2.1) (r.2.2), ())) (fun _ _ _ _ _ _ _ => rfl) Zgu (fun x3 x4 x5 x6 => (5 - (x4)).toNat) Zyg (Zc9 x3 x4 x5 x6) x3 x4 x5 x6 i_ (by obtain ⟨i_0, i_1, i_2, i_3⟩ := i_; unfold Zc9; first | omega | (simp only [ts] <;> omega))
theorem Zvf (a1 : List Int) (h_ : autoParam (((a1).length = 5)) sA._auto_1) : T_1 (fun R k0 => Z51 R a1 k0) (fun z0 => ((z0).length = 5)) := by
  refine T_1.of ?_
  delta Z51 Zr8
  refine Tot.lett (fun v2 e_v2 => ?_)
  refine T_3.bind (Z142 0 0 a1 v2) (fun y12 y13 y14 q1 => ?_)
  obtain ⟨q1_0, q1_1⟩ := q1
  refine Tot.lett (fun v15 e_v15 => ?_)
  exact Tot.ret _
abbrev Zlj (x7 : Int) (x8 x9 x10 : List Int) : Prop := ((x8).length = 5) ∧ ((x9).length = 5) ∧ ((x10).length = 5) ∧ (0 ≤ (x7)) ∧ ((x7) ≤ 4)
theorem Z12r (x7 : Int) (x8 x9 x10 : List Int) (i_ : Zlj x7 x8 x9 x10) : Zxh (fun R next k0 => Zmn Z51 R x7 x8 x9 x10 next k0) (fun nx7 nx8 nx9 nx10 => Zlj nx7 nx8 nx9 nx10 ∧ (4 - (nx7)).toNat < (4 - (x7)).toNat) (fun z0 z1 z2 => ((z0).length = 5) ∧ ((z1).length = 5) ∧ ((z2).length = 5)) := by
  obtain ⟨i_0, i_1, i_2, i_3, i_4⟩ := i_
  refine Zxh.of ?_
  delta Zmn
  refine Tot.br (fun h1 => ?_) (fun h1 => ?_)
  · first | simp (disch := omega) only [ts, *] at h1 | skip
    all_goals
      refine Tot.gd ?_
      refine Tot.lett (fun v11 e_v11 => ?_)
      refine Tot.gd ?_
      refine Tot.lett (fun v12 e_v12 => ?_)
      refine Tot.gd ?_
      refine Tot.lett (fun v13 e_v13 => ?_)
      refine Tot.gd ?_
      refine Tot.lett (fun v14 e_v14 => ?_)
      refine Tot.gd ?_
      exact Tot.ret _
  · first | simp (disch := omega) only [ts, *] at h1 | skip
    all_goals
      exact Tot.ret _
theorem Z176 (x7 : Int) (x8 x9 x10 : List Int) (i_ : autoParam (Zlj x7 x8 x9 x10) sA._auto_1) : T_3 (fun R k0 => Z14m Z51 R x7 x8 x9 x10 k0) (fun z0 z1 z2 => ((z0).length = 5) ∧ ((z1).length = 5) ∧ ((z2).length = 5)) :=
 Z1bh (r := fun R n x7 x8 x9 x10 k0 => runP Zt4 Zu7 (Zik Z51).step R n (((), (), (), x7, ()), ((x8, ()), (x9, ()), (x10, ()), ())) (fun r => k0 (r.1) (r.2.1) (r.2.2), ())) (fun _ _ _ _ _ _ _ => rfl) Zlj (fun x7 x8 x9 x10 => (4 - (x7)).toNat) Z12r (Zge x7 x8 x9 x10) x7 x8 x9 x10 i_ (by obtain ⟨i_0, i_1, i_2, i_3, i_4⟩ := i_; unfold Zge; first | omega | (simp only [ts] <;> omega))
theorem Z19s (a1 : List Int) (h_ : autoParam (((a1).length = 5)) sA._auto_1) : T_1 (fun R k0 => Zne R a1 k0) (fun z0 => ((z0).length = 5)) := by
  refine T_1.of ?_
  delta Zne Zy6
  refine Tot.lett (fun v2 e_v2 => ?_)
  refine T_1.bind (Zvf a1) (fun r3 q1 => ?_)
  replace q1 : (r3).length = 5 := q1
  refine T_1.bind (Zvf r3) (fun r4 q2 => ?_)
  replace q2 : (r4).length = 5 := q2
  refine Tot.lett (fun v5 e_v5 => ?_)
  refine Tot.lett (fun v6 e_v6 => ?_)
  refine T_3.bind (Z176 0 r4 v2 (r4.set 0 v6)) (fun y15 y16 y17 q3 => ?_)
  obtain ⟨q3_0, q3_1, q3_2⟩ := q3
  refine Tot.lett (fun v18 e_v18 => ?_)
  refine Tot.br (fun h4 => ?_) (fun h4 => ?_)
  · first | simp (disch := omega) only [ts, *] at h4 | skip
    all_goals
      refine Tot.lett (fun v19 e_v19 => ?_)
      exact Tot.ret _
  · first | simp (disch := omega) only [ts, *] at h4 | skip
    all_goals
      exact Tot.ret _
theorem Z99 (a1 : List Int) (h_ : autoParam (((a1).length = 5)) sA._auto_1) : T_1 (fun R k0 => Zc R a1 k0) (fun z0 => ((z0).length = 5)) := by
  refine T_1.of ?_
  delta Zc Zsz
  refine Tot.lett (fun v2 e_v2 => ?_)
  refine T_1.bind (Z19s a1) (fun r3 q1 => ?_)
  replace q1 : (r3).length = 5 := q1
  exact Tot.ret _
theorem Z1b9 (a1 : Str) : T_2 (fun R k0 => Zep R a1 k0) (fun z0 z1 => ((z0).length = 5)) := by
  refine T_2.of ?_
  delta Zep Z148
  refine Tot.lett (fun v2 e_v2 => ?_)
  refine Tot.lett (fun v3 e_v3 => ?_)
  refine Tot.br (fun h1 => ?_) (fun h1 => ?_)
  · first | simp (disch := omega) only [ts, *] at h1 | skip
    all_goals
      refine Tot.lett (fun v4 e_v4 => ?_)
      exact Tot.ret _
  · first | simp (disch := omega) only [ts, *] at h1 | skip
    all_goals
      refine Tot.gd ?_
      refine Tot.gd ?_
      refine Tot.gd ?_
      refine T_1.bind (Zk0 a1) (fun r5 q2 => ?_)
      refine T_1.bind (Zk0 (a1.drop 8)) (fun r6 q3 => ?_)
      refine T_1.bind (Zk0 (a1.drop 16)) (fun r7 q4 => ?_)
      refine T_1.bind (Zk0 (a1.drop 24)) (fun r8 q5 => ?_)
      refine Tot.lett (fun v9 e_v9 => ?_)
      refine Tot.lett (fun v10 e_v10 => ?_)
      refine Tot.lett (fun v11 e_v11 => ?_)
      refine Tot.lett (fun v12 e_v12 => ?_)
      refine Tot.lett (fun v13 e_v13 => ?_)
      refine Tot.lett (fun v14 e_v14 => ?_)
      refine Tot.lett (fun v15 e_v15 => ?_)
      refine T_1.bind (Z99 ((((((List.replicate 5 (0 : Int)).set 0 v9).set 1 v11).set 2 v13).set 3 v15).set 4 (shrI .u64 r8 12))) (fun r16 q6 => ?_)
      replace q6 : (r16).length = 5 := q6
      exact Tot.ret _
abbrev Ze7 (x3 : Int) (x4 : List Int) (x5 : Str) : Prop := ((x4).length = 5) ∧ ((x5).length = 32) ∧ (0 ≤ (x3)) ∧ ((x3) ≤ 255)
theorem Zwl (x3 : Int) (x4 : List Int) (x5 : Str) (i_ : Ze7 x3 x4 x5) : Zxb (fun R next k0 => Zfp R x3 x4 x5 next k0) (fun nx3 nx4 nx5 => Ze7 nx3 nx4 nx5 ∧ (255 - (nx3)).toNat < (255 - (x3)).toNat) (fun z0 => ((z0).length = 32)) := by
  obtain ⟨i_0, i_1, i_2, i_3⟩ := i_
  refine Zxb.of ?_
  delta Zfp
  refine Tot.br (fun h1 => ?_) (fun h1 => ?_)
  · first | simp (disch := omega) only [ts, *] at h1 | skip
    all_goals
      refine Tot.gd ?_
      refine Tot.lett (fun v6 e_v6 => ?_)
      refine Tot.gd ?_
      refine Tot.lett (fun v7 e_v7 => ?_)
      refine Tot.gd ?_
      refine Tot.lett (fun v8 e_v8 => ?_)
      refine Tot.lett (fun v9 e_v9 => ?_)
      refine Tot.gd ?_
      refine Tot.lett (fun v10 e_v10 => ?_)
      refine Tot.gd ?_
      refine Tot.lett (fun v11 e_v11 => ?_)
      exact Tot.ret _
  · first | simp (disch := omega) only [ts, *] at h1 | skip
    all_goals
      exact Tot.ret _
theorem Z118 (x3 : Int) (x4 : List Int) (x5 : Str) (i_ : autoParam (Ze7 x3 x4 x5) sA._auto_1) : T_1 (fun R k0 => Zuk R x3 x4 x5 k0) (fun z0 => ((z0).length = 32)) :=
 Z1bi (r := fun R n x3 x4 x5 k0 => runP Zjk Zjt (Zb9).step R n (((), (), x3, ()), ((x4, ()), (x5, ()), ())) (fun r => k0 (r), ())) (fun _ _ _ _ _ _ => rfl) Ze7 (fun x3 x4 x5 => (255 - (x3)).toNat) Zwl (Zax x3 x4 x5) x3 x4 x5 i_ (by obtain ⟨i_0, i_1, i_2, i_3⟩ := i_; unfold Zax; first | omega | (simp only [ts] <;> omega))
theorem Zcq (a1 : List Int) (h_ : autoParam (((a1).length = 5)) sA._auto_1) : T_1 (fun R k0 => Z21 R a1 k0) (fun z0 => (((z0)).length = 32)) := by
  refine T_1.of ?_
  delta Z21 Zn0
  refine Tot.lett (fun v2 e_v2 => ?_)
  refine T_1.bind (Z118 0 a1 v2) (fun y12 q1 => ?_)
  replace q1 : (y12).length = 32 := q1
  exact Tot.ret _
theorem Zrb (a1 a2 a3 a4 : Int) : T_2 (fun R k0 => Zt R a1 a2 a3 a4 k0) (fun z0 z1 => True) := by
  refine T_2.of ?_
  delta Zt Zml
  refine T_2.bind (Z10x a3 a4) (fun r5 r6 q1 => ?_)
  refine T_2.bind (Zes a2 r6 0) (fun r7 r8 q2 => ?_)
  obtain ⟨q2_0, q2_1, q2_2, q2_3⟩ := q2
  refine Tot.lett (fun v9 e_v9 => ?_)
  exact Tot.ret _
theorem Zyo (x17 x18 x19 : Int) (x20 x21 x22 : List Int) (x23 : List (Tup [.int .u64, .int .u64])) (i_ : ((x20).length = 5) ∧ ((x21).length = 5) ∧ ((x22).length = 5) ∧ ((x23).length = 5) ∧ (0 ≤ (x17)) ∧ ((x17) < 5) ∧ (0 ≤ (x19)) ∧ ((x19) < 5)) : T_7 (fun R k0 => Zih Zt Zj Zc R x17 x18 x19 x20 x21 x22 x23 k0) (fun z0 z1 z2 z3 z4 z5 z6 => ((z3).length = 5) ∧ ((z4).length = 5) ∧ ((z5).length = 5) ∧ ((z6).length = 5) ∧ ((z0) = (x17)) ∧ ((z1) = (x18)) ∧ ((z2) = (x19))) := by
  obtain ⟨i_0, i_1, i_2, i_3, i_4, i_5, i_6, i_7⟩ := i_
  refine T_7.of ?_
  delta Zih
  refine Tot.lett (fun v24 e_v24 => ?_)
  refine Tot.br (fun h1 => ?_) (fun h1 => ?_)
  · first | simp (disch := omega) only [ts, *] at h1 | skip
    all_goals
      refine Tot.gd ?_
      refine Tot.gd ?_
      refine Tot.gd ?_
      refine T_2.bind (Zrb ((x23.getD ((addI .i64 x17 x19).toNat) (tupD [.int .u64, .int .u64])).1) ((x23.getD ((addI .i64 x17 x19).toNat) (tupD [.int .u64, .int .u64])).2.1) (x20.getD x17.toNat 0) (x21.getD x19.toNat 0)) (fun r25 r26 q2 => ?_)
      refine Tot.gd ?_
      refine Tot.lett (fun v27 e_v27 => ?_)
      exact Tot.ret _
  · first | simp (disch := omega) only [ts, *] at h1 | skip
    all_goals
      refine Tot.lett (fun v28 e_v28 => ?_)
      refine Tot.lett (fun v29 e_v29 => ?_)
      refine Tot.gd ?_
      refine Tot.gd ?_
      refine Tot.lett (fun v30 e_v30 => ?_)
      refine Tot.gd ?_
      refine T_2.bind (Zrb ((x23.getD v29.toNat (tupD [.int .u64, .int .u64])).1) ((x23.getD v29.toNat (tupD [.int .u64, .int .u64])).2.1) v30 (x21.getD x19.toNat 0)) (fun r31 r32 q3 => ?_)
      refine Tot.gd ?_
      refine Tot.lett (fun v33 e_v33 => ?_)
      exact Tot.ret _
theorem Z13v (x17 x18 x19 : Int) (x20 x21 x22 : List Int) (x23 : List (Tup [.int .u64, .int .u64])) (i_ : autoParam (((x20).length = 5) ∧ ((x21).length = 5) ∧ ((x22).length = 5) ∧ ((x23).length = 5) ∧ (0 ≤ (x17)) ∧ ((x17) < 5) ∧ (0 ≤ (x19)) ∧ ((x19) < 5)) sA._auto_1) : T_7 (fun R k0 => Zyj Zt Zj Zc R x17 x18 x19 x20 x21 x22 x23 k0) (fun z0 z1 z2 z3 z4 z5 z6 => ((z3).length = 5) ∧ ((z4).length = 5) ∧ ((z5).length = 5) ∧ ((z6).length = 5) ∧ ((z0) = (x17)) ∧ ((z1) = (x18)) ∧ ((z2) = (x19))) := by
  exact T_7.congr (fun R k0 => by kernel_rfl) (Zyo x17 x18 x19 x20 x21 x22 x23 i_)
abbrev Zgb (gx10 gx11 gx12 : Int) (gx13 gx14 gx15 : List Int) (gx16 : List (Tup [.int .u64, .int .u64])) (x10 x11 x12 : Int) (x13 x14 x15 : List Int) (x16 : List (Tup [.int .u64, .int .u64])) : Prop := ((x13).length = 5) ∧ ((x14).length = 5) ∧ ((x15).length = 5) ∧ ((x16).length = 5) ∧ (0 ≤ (x12)) ∧ ((x12) ≤ 5) ∧ (0 ≤ (x10)) ∧ ((x10) < 5) ∧ ((x10) = (gx10)) ∧ ((x11) = (gx11))
theorem Zyc (gx10 gx11 gx12 : Int) (gx13 gx14 gx15 : List Int) (gx16 : List (Tup [.int .u64, .int .u64])) (x10 x11 x12 : Int) (x13 x14 x15 : List Int) (x16 : List (Tup [.int .u64, .int .u64])) (i_ : Zgb gx10 gx11 gx12 gx13 gx14 gx15 gx16 x10 x11 x12 x13 x14 x15 x16) : Z14k (fun R next k0 => Zic Zt Zj Zc R x10 x11 x12 x13 x14 x15 x16 next k0) (fun nx10 nx11 nx12 nx13 nx14 nx15 nx16 => Zgb gx10 gx11 gx12 gx13 gx14 gx15 gx16 nx10 nx11 nx12 nx13 nx14 nx15 nx16 ∧ (5 - (nx12)).toNat < (5 - (x12)).toNat) (fun z0 z1 z2 z3 z4 => ((z1).length = 5) ∧ ((z2).length = 5) ∧ ((z3).length = 5) ∧ ((z4).length = 5) ∧ ((z0) = (gx11))) := by
  obtain ⟨i_0, i_1, i_2, i_3, i_4, i_5, i_6, i_7, i_8, i_9⟩ := i_
  refine Z14k.of ?_
  delta Zic
  refine Tot.br (fun h1 => ?_) (fun h1 => ?_)
  · first | simp (disch := omega) only [ts, *] at h1 | skip
    all_goals
      refine T_7.bind (Z13v x10 x11 x12 x13 x14 x15 x16) (fun y34 y35 y36 y37 y38 y39 y40 q2 => ?_)
      obtain ⟨q2_0, q2_1, q2_2, q2_3, q2_4, q2_5, q2_6⟩ := q2
      exact Tot.ret _
  · first | simp (disch := omega) only [ts, *] at h1 | skip
    all_goals
      exact Tot.ret _
theorem Z14a (x10 x11 x12 : Int) (x13 x14 x15 : List Int) (x16 : List (Tup [.int .u64, .int .u64])) (i_ : autoParam (Zgb x10 x11 x12 x13 x14 x15 x16 x10 x11 x12 x13 x14 x15 x16) sA._auto_1) : T_5 (fun R k0 => Zyh Zt Zj Zc R x10 x11 x12 x13 x14 x15 x16 k0) (fun z0 z1 z2 z3 z4 => ((z1).length = 5) ∧ ((z2).length = 5) ∧ ((z3).length = 5) ∧ ((z4).length = 5) ∧ ((z0) = (x11))) :=
 Z1cw (r := fun R n x10 x11 x12 x13 x14 x15 x16 k0 => runP Zn6 Zms (Zdn Zt Zj Zc).step R n (((), (), (), (), x10, x11, x12, ()), ((x13, ()), (x14, ()), (x15, ()), (x16, ()), ())) (fun r => k0 (r.1) (r.2.1) (r.2.2.1) (r.2.2.2.1) (r.2.2.2.2), ())) (fun _ _ _ _ _ _ _ _ _ _ => rfl) (Zgb x10 x11 x12 x13 x14 x15 x16) (fun x10 x11 x12 x13 x14 x15 x16 => (5 - (x12)).toNat) (Zyc x10 x11 x12 x13 x14 x15 x16) (Zcj x10 x11 x12 x13 x14 x15 x16) x10 x11 x12 x13 x14 x15 x16 i_ (by obtain ⟨i_0, i_1, i_2, i_3, i_4, i_5, i_6, i_7, i_8, i_9⟩ := i_; unfold Zcj; first | omega | (simp only [ts] <;> omega))
abbrev Zgs (x5 : Int) (x6 x7 x8 : List Int) (x9 : List (Tup [.int .u64, .int .u64])) : Prop := ((x6).length = 5) ∧ ((x7).length = 5) ∧ ((x8).length = 5) ∧ ((x9).length = 5) ∧ (0 ≤ (x5)) ∧ ((x5) ≤ 5)
theorem Zys (x5 : Int) (x6 x7 x8 : List Int) (x9 : List (Tup [.int .u64, .int .u64])) (i_ : Zgs x5 x6 x7 x8 x9) : Z19v (fun R next k0 => Zi7 Zt Zj Zc R x5 x6 x7 x8 x9 next k0) (fun nx5 nx6 nx7 nx8 nx9 => Zgs nx5 nx6 nx7 nx8 nx9 ∧ (5 - (nx5)).toNat < (5 - (x5)).toNat) (fun z0 z1 => ((z0).length = 5) ∧ ((z1).length = 5)) := by
  obtain ⟨i_0, i_1, i_2, i_3, i_4, i_5⟩ := i_
  refine Z19v.of ?_
  delta Zi7
  refine Tot.br (fun h1 => ?_) (fun h1 => ?_)
  · first | simp (disch := omega) only [ts, *] at h1 | skip
    all_goals
      refine T_5.bind (Z14a x5 x5 0 x6 x7 x8 x9) (fun y41 y42 y43 y44 y45 q2 => ?_)
      obtain ⟨q2_0, q2_1, q2_2, q2_3, q2_4⟩ := q2
      exact Tot.ret _
  · first | simp (disch := omega) only [ts, *] at h1 | skip
    all_goals
      exact Tot.ret _
theorem Z13x (x5 : Int) (x6 x7 x8 : List Int) (x9 : List (Tup [.int .u64, .int .u64])) (i_ : autoParam (Zgs x5 x6 x7 x8 x9) sA._auto_1) : T_2 (fun R k0 => Zy3 Zt Zj Zc R x5 x6 x7 x8 x9 k0) (fun z0 z1 => ((z0).length = 5) ∧ ((z1).length = 5)) :=
 Z1dk (r := fun R n x5 x6 x7 x8 x9 k0 => runP Zmp Zn3 (Zdt Zt Zj Zc).step R n (((), (), (), (), x5, ()), ((x6, ()), (x7, ()), (x8, ()), (x9, ()), ())) (fun r => k0 (r.1) (r.2), ())) (fun _ _ _ _ _ _ _ _ => rfl) Zgs (fun x5 x6 x7 x8 x9 => (5 - (x5)).toNat) Zys (Zcg x5 x6 x7 x8 x9) x5 x6 x7 x8 x9 i_ (by obtain ⟨i_0, i_1, i_2, i_3, i_4, i_5⟩ := i_; unfold Zcg; first | omega | (simp only [ts] <;> omega))
abbrev Zga (x49 : Int) (x50 : List (Tup [.int .u64, .int .u64])) (x51 : Int) (x52 x53 : List Int) : Prop := ((x50).length = 5) ∧ ((x52).length = 5) ∧ ((x53).length = 5) ∧ (0 ≤ (x51)) ∧ ((x51) ≤ 5)
theorem Zz3 (x49 : Int) (x50 : List (Tup [.int .u64, .int .u64])) (x51 : Int) (x52 x53 : List Int) (i_ : Zga x49 x50 x51 x52 x53) : Zxn (fun R next k0 => Zii Zt Zj Zc R x49 x50 x51 x52 x53 next k0) (fun nx49 nx50 nx51 nx52 nx53 => Zga nx49 nx50 nx51 nx52 nx53 ∧ (5 - (nx51)).toNat < (5 - (x51)).toNat) (fun z0 z1 z2 => ((z1).length = 5) ∧ ((z2).length = 5)) := by
  obtain ⟨i_0, i_1, i_2, i_3, i_4⟩ := i_
  refine Zxn.of ?_
  delta Zii
  refine Tot.br (fun h1 => ?_) (fun h1 => ?_)
  · first | simp (disch := omega) only [ts, *] at h1 | skip
    all_goals
      refine Tot.gd ?_
      refine Tot.lett (fun v54 e_v54 => ?_)
      refine Tot.lett (fun v55 e_v55 => ?_)
      refine T_2.bind (Zes v55 x49 0) (fun r56 r57 q2 => ?_)
      obtain ⟨q2_0, q2_1, q2_2, q2_3⟩ := q2
      refine Tot.lett (fun v58 e_v58 => ?_)
      refine Tot.gd ?_
      refine Tot.lett (fun v59 e_v59 => ?_)
      refine Tot.lett (fun v60 e_v60 => ?_)
      exact Tot.ret _
  · first | simp (disch := omega) only [ts, *] at h1 | skip
    all_goals
      exact Tot.ret _
theorem Z14c (x49 : Int) (x50 : List (Tup [.int .u64, .int .u64])) (x51 : Int) (x52 x53 : List Int) (i_ : autoParam (Zga x49 x50 x51 x52 x53) sA._auto_1) : T_3 (fun R k0 => Zzh Zt Zj Zc R x49 x50 x51 x52 x53 k0) (fun z0 z1 z2 => ((z1).length = 5) ∧ ((z2).length = 5)) :=
 Z1bg (r := fun R n x49 x50 x51 x52 x53 k0 => runP Zmt Zmj (Zdp Zt Zj Zc).step R n (((), (), x49, (x50, ()), x51, ()), ((x52, ()), (x53, ()), ())) (fun r => k0 (r.1) (r.2.1) (r.2.2), ())) (fun _ _ _ _ _ _ _ _ => rfl) Zga (fun x49 x50 x51 x52 x53 => (5 - (x51)).toNat) Zz3 (Zd6 x49 x50 x51 x52 x53) x49 x50 x51 x52 x53 i_ (by obtain ⟨i_0, i_1, i_2, i_3, i_4⟩ := i_; unfold Zd6; first | omega | (simp only [ts] <;> omega))
theorem Z5 (a1 a2 : List Int) (h_ : autoParam (((a1).length = 5) ∧ ((a2).length = 5)) sA._auto_1) : T_1 (fun R k0 => Z4 R a1 a2 k0) (fun z0 => ((z0).length = 5)) := by
  obtain ⟨h_0, h_1⟩ := h_
  refine T_1.of ?_
  delta Z4 Zr3
  refine Tot.lett (fun v3 e_v3 => ?_)
  refine Tot.lett (fun v4 e_v4 => ?_)
  refine T_2.bind (Z13x 0 a1 a2 v3 v4) (fun y46 y47 q1 => ?_)
  obtain ⟨q1_0, q1_1⟩ := q1
  refine Tot.lett (fun v48 e_v48 => ?_)
  refine T_3.bind (Z14c 0 y47 0 y46 v48) (fun y61 y62 y63 q2 => ?_)
  obtain ⟨q2_0, q2_1⟩ := q2
  refine Tot.lett (fun v64 e_v64 => ?_)
  refine T_1.bind (Z99 (y63.set 0 v64)) (fun r65 q3 => ?_)
  replace q3 : (r65).length = 5 := q3
  exact Tot.ret _
abbrev Zgh (x4 : Int) (x5 x6 x7 : List Int) : Prop := ((x5).length = 5) ∧ ((x6).length = 5) ∧ ((x7).length = 5) ∧ (0 ≤ (x4)) ∧ ((x4) ≤ 5)
theorem Zzb (x4 : Int) (x5 x6 x7 : List Int) (i_ : Zgh x4 x5 x6 x7) : Zr0 (fun R next k0 => Zhu Zc R x4 x5 x6 x7 next k0) (fun nx4 nx5 nx6 nx7 => Zgh nx4 nx5 nx6 nx7 ∧ (5 - (nx4)).toNat < (5 - (x4)).toNat) (fun z0 z1 => ((z0).length = 5) ∧ ((z1).length = 5)) := by
  obtain ⟨i_0, i_1, i_2, i_3, i_4⟩ := i_
  refine Zr0.of ?_
  delta Zhu
  refine Tot.br (fun h1 => ?_) (fun h1 => ?_)
  · first | simp (disch := omega) only [ts, *] at h1 | skip
    all_goals
      refine Tot.gd ?_
      refine Tot.gd ?_
      refine Tot.lett (fun v8 e_v8 => ?_)
      refine Tot.lett (fun v9 e_v9 => ?_)
      refine Tot.gd ?_
      exact Tot.ret _
  · first | simp (disch := omega) only [ts, *] at h1 | skip
    all_goals
      exact Tot.ret _
theorem Z14g (x4 : Int) (x5 x6 x7 : List Int) (i_ : autoParam (Zgh x4 x5 x6 x7) sA._auto_1) : T_2 (fun R k0 => Zy8 Zc R x4 x5 x6 x7 k0) (fun z0 z1 => ((z0).length = 5) ∧ ((z1).length = 5)) :=
 Z1a3 (r := fun R n x4 x5 x6 x7 k0 => runP Zmz Zmm (Zdg Zc).step R n (((), (), (), x4, ()), ((x5, ()), (x6, ()), (x7, ()), ())) (fun r => k0 (r.1) (r.2), ())) (fun _ _ _ _ _ _ _ => rfl) Zgh (fun x4 x5 x6 x7 => (5 - (x4)).toNat) Zzb (Zcx x4 x5 x6 x7) x4 x5 x6 x7 i_ (by obtain ⟨i_0, i_1, i_2, i_3, i_4⟩ := i_; unfold Zcx; first | omega | (simp only [ts] <;> omega))
theorem Z1y (a1 a2 : List Int) (h_ : autoParam (((a1).length = 5) ∧ ((a2).length = 5)) sA._auto_1) : T_1 (fun R k0 => Zw R a1 a2 k0) (fun z0 => ((z0).length = 5)) := by
  obtain ⟨h_0, h_1⟩ := h_
  refine T_1.of ?_
  delta Zw Zrw
  refine Tot.lett (fun v3 e_v3 => ?_)
  refine T_2.bind (Z14g 0 a1 a2 v3) (fun y10 y11 q1 => ?_)
  obtain ⟨q1_0, q1_1⟩ := q1
  refine Tot.lett (fun v12 e_v12 => ?_)
  refine T_1.bind (Z99 (y10.set 0 v12)) (fun r13 q2 => ?_)
  replace q2 : (r13).length = 5 := q2
  exact Tot.ret _
theorem Z4r (a1 : Int) : T_1 (fun R k0 => Zv R a1 k0) (fun z0 => ((z0).length = 5)) := by
  refine T_1.of ?_
  delta Zv Zwe
  refine Tot.lett (fun v2 e_v2 => ?_)
  refine Tot.br (fun h1 => ?_) (fun h1 => ?_)
  · first | simp (disch := omega) only [ts, *] at h1 | skip
    all_goals
      refine Tot.lett (fun v3 e_v3 => ?_)
      refine Tot.lett (fun v4 e_v4 => ?_)
      refine Tot.lett (fun v5 e_v5 => ?_)
      refine T_1.bind (Z99 (((List.replicate 5 (0 : Int)).set 0 v5).set 1 (shrI .u64 v4 51))) (fun r6 q2 => ?_)
      replace q2 : (r6).length = 5 := q2
      refine T_1.bind (Z1y (List.replicate 5 (0 : Int)) r6) (fun r7 q3 => ?_)
      replace q3 : (r7).length = 5 := q3
      exact Tot.ret _
  · first | simp (disch := omega) only [ts, *] at h1 | skip
    all_goals
      refine Tot.lett (fun v8 e_v8 => ?_)
      refine Tot.lett (fun v9 e_v9 => ?_)
      refine T_1.bind (Z99 (((List.replicate 5 (0 : Int)).set 0 v8).set 1 v9)) (fun r10 q4 => ?_)
      replace q4 : (r10).length = 5 := q4
      exact Tot.ret _
abbrev Zby (x4 x5 : Int) (x6 x7 : List Int) : Prop := ((x6).length = 5) ∧ ((x7).length = 5) ∧ (0 ≤ (x5)) ∧ ((x5) ≤ (x4)) ∧ ((x4) ≤ 1000)
theorem Ztn (x4 x5 : Int) (x6 x7 : List Int) (i_ : Zby x4 x5 x6 x7) : Zr0 (fun R next k0 => Zds Z4 R x4 x5 x6 x7 next k0) (fun nx4 nx5 nx6 nx7 => Zby nx4 nx5 nx6 nx7 ∧ ((nx4) - (nx5)).toNat < ((x4) - (x5)).toNat) (fun z0 z1 => ((z0).length = 5) ∧ ((z1).length = 5)) := by
  obtain ⟨i_0, i_1, i_2, i_3, i_4⟩ := i_
  refine Zr0.of ?_
  delta Zds
  refine Tot.br (fun h1 => ?_) (fun h1 => ?_)
  · first | simp (disch := omega) only [ts, *] at h1 | skip
    all_goals
      refine T_1.bind (Z5 x6 x6) (fun r8 q2 => ?_)
      replace q2 : (r8).length = 5 := q2
      exact Tot.ret _
  · first | simp (disch := omega) only [ts, *] at h1 | skip
    all_goals
      exact Tot.ret _
theorem Zz7 (x4 x5 : Int) (x6 x7 : List Int) (i_ : autoParam (Zby x4 x5 x6 x7) sA._auto_1) : T_2 (fun R k0 => Zqy Z4 R x4 x5 x6 x7 k0) (fun z0 z1 => ((z0).length = 5) ∧ ((z1).length = 5)) :=
 Z1a3 (r := fun R n x4 x5 x6 x7 k0 => runP Zh9 Zhp (Z94 Z4).step R n (((), (), x4, x5, ()), ((x6, ()), (x7, ()), ())) (fun r => k0 (r.1) (r.2), ())) (fun _ _ _ _ _ _ _ => rfl) Zby (fun x4 x5 x6 x7 => ((x4) - (x5)).toNat) Ztn (Z97 x4 x5 x6 x7) x4 x5 x6 x7 i_ (by obtain ⟨i_0, i_1, i_2, i_3, i_4⟩ := i_; unfold Z97; first | omega | (simp only [ts] <;> omega))
theorem Z19 (a1 : List Int) (a2 : Int) (h_ : autoParam (((a1).length = 5) ∧ (0 ≤ (a2)) ∧ ((a2) ≤ 1000)) sA._auto_1) : T_1 (fun R k0 => Z18 R a1 a2 k0) (fun z0 => ((z0).length = 5)) := by
  obtain ⟨h_0, h_1, h_2⟩ := h_
  refine T_1.of ?_
  delta Z18 Zjv
  refine Tot.lett (fun v3 e_v3 => ?_)
  refine T_2.bind (Zz7 a2 0 a1 v3) (fun y9 y10 q1 => ?_)
  obtain ⟨q1_0, q1_1⟩ := q1
  exact Tot.ret _
theorem Zjm (a1 : List Int) (h_ : autoParam (((a1).length = 5)) sA._auto_1) : T_2 (fun R k0 => Z1w R a1 k0) (fun z0 z1 => ((z0).length = 5) ∧ ((z1).length = 5)) := by
  refine T_2.of ?_
  delta Z1w Zpb
  refine Tot.lett (fun v2 e_v2 => ?_)
  refine Tot.lett (fun v3 e_v3 => ?_)
  refine T_1.bind (Z19 a1 1) (fun r4 q1 => ?_)
  replace q1 : (r4).length = 5 := q1
  refine Tot.lett (fun v5 e_v5 => ?_)
  refine Tot.lett (fun v6 e_v6 => ?_)
  refine T_1.bind (Z19 r4 2) (fun r7 q2 => ?_)
  replace q2 : (r7).length = 5 := q2
  refine T_1.bind (Z5 r7 a1) (fun r8 q3 => ?_)
  replace q3 : (r8).length = 5 := q3
  refine T_1.bind (Z5 r8 r4) (fun r9 q4 => ?_)
  replace q4 : (r9).length = 5 := q4
  refine Tot.lett (fun v10 e_v10 => ?_)
  refine Tot.lett (fun v11 e_v11 => ?_)
  refine T_1.bind (Z19 r9 1) (fun r12 q5 => ?_)
  replace q5 : (r12).length = 5 := q5
  refine T_1.bind (Z5 r12 r8) (fun r13 q6 => ?_)
  replace q6 : (r13).length = 5 := q6
  refine Tot.lett (fun v14 e_v14 => ?_)
  refine T_1.bind (Z19 r13 5) (fun r15 q7 => ?_)
  replace q7 : (r15).length = 5 := q7
  refine T_1.bind (Z5 r15 r13) (fun r16 q8 => ?_)
  replace q8 : (r16).length = 5 := q8
  refine Tot.lett (fun v17 e_v17 => ?_)
  refine T_1.bind (Z19 r16 10) (fun r18 q9 => ?_)
  replace q9 : (r18).length = 5 := q9
  refine T_1.bind (Z5 r18 r16) (fun r19 q10 => ?_)
  replace q10 : (r19).length = 5 := q10
  refine Tot.lett (fun v20 e_v20 => ?_)
  refine T_1.bind (Z19 r19 20) (fun r21 q11 => ?_)
  replace q11 : (r21).length = 5 := q11
  refine T_1.bind (Z5 r21 r19) (fun r22 q12 => ?_)
  replace q12 : (r22).length = 5 := q12
  refine Tot.lett (fun v23 e_v23 => ?_)
  refine T_1.bind (Z19 r22 10) (fun r24 q13 => ?_)
  replace q13 : (r24).length = 5 := q13
  refine T_1.bind (Z5 r24 r16) (fun r25 q14 => ?_)
  replace q14 : (r25).length = 5 := q14
  refine Tot.lett (fun v26 e_v26 => ?_)
  refine T_1.bind (Z19 r25 50) (fun r27 q15 => ?_)
  replace q15 : (r27).length = 5 := q15
  refine T_1.bind (Z5 r27 r25) (fun r28 q16 => ?_)
  replace q16 : (r28).length = 5 := q16
  refine Tot.lett (fun v29 e_v29 => ?_)
  refine T_1.bind (Z19 r28 100) (fun r30 q17 => ?_)
  replace q17 : (r30).length = 5 := q17
  refine T_1.bind (Z5 r30 r28) (fun r31 q18 => ?_)
  replace q18 : (r31).length = 5 := q18
  refine T_1.bind (Z19 r31 50) (fun r32 q19 => ?_)
  replace q19 : (r32).length = 5 := q19
  refine T_1.bind (Z5 r32 r25) (fun r33 q20 => ?_)
  replace q20 : (r33).length = 5 := q20
  exact Tot.ret _
theorem Zf2 (a1 : List Int) (h_ : autoParam (((a1).length = 5)) sA._auto_1) : T_1 (fun R k0 => Z23 R a1 k0) (fun z0 => ((z0).length = 5)) := by
  refine T_1.of ?_
  delta Z23 Zqj
  refine Tot.lett (fun v2 e_v2 => ?_)
  refine T_2.bind (Zjm a1) (fun r3 r4 q1 => ?_)
  obtain ⟨q1_0, q1_1⟩ := q1
  refine Tot.lett (fun v5 e_v5 => ?_)
  refine Tot.lett (fun v6 e_v6 => ?_)
  refine T_1.bind (Z19 r3 5) (fun r7 q2 => ?_)
  replace q2 : (r7).length = 5 := q2
  refine T_1.bind (Z5 r7 r4) (fun r8 q3 => ?_)
  replace q3 : (r8).length = 5 := q3
  exact Tot.ret _
abbrev Zgp (x4 : Int) (x5 x6 x7 : List Int) : Prop := ((x5).length = 5) ∧ ((x6).length = 5) ∧ ((x7).length = 5) ∧ (0 ≤ (x4)) ∧ ((x4) ≤ 5)
theorem Zzm (x4 : Int) (x5 x6 x7 : List Int) (i_ : Zgp x4 x5 x6 x7) : Zr0 (fun R next k0 => Zhy Zc R x4 x5 x6 x7 next k0) (fun nx4 nx5 nx6 nx7 => Zgp nx4 nx5 nx6 nx7 ∧ (5 - (nx4)).toNat < (5 - (x4)).toNat) (fun z0 z1 => ((z0).length = 5) ∧ ((z1).length = 5)) := by
  obtain ⟨i_0, i_1, i_2, i_3, i_4⟩ := i_
  refine Zr0.of ?_
  delta Zhy
  refine Tot.br (fun h1 => ?_) (fun h1 => ?_)
  · first | simp (disch := omega) only [ts, *] at h1 | skip
    all_goals
      refine Tot.gd ?_
      refine Tot.gd ?_
      refine Tot.lett (fun v8 e_v8 => ?_)
      refine Tot.gd ?_
      exact Tot.ret _
  · first | simp (disch := omega) only [ts, *] at h1 | skip
    all_goals
      exact Tot.ret _
theorem Z143 (x4 : Int) (x5 x6 x7 : List Int) (i_ : autoParam (Zgp x4 x5 x6 x7) sA._auto_1) : T_2 (fun R k0 => Zyd Zc R x4 x5 x6 x7 k0) (fun z0 z1 => ((z0).length = 5) ∧ ((z1).length = 5)) :=
 Z1a3 (r := fun R n x4 x5 x6 x7 k0 => runP Zm5 Zn2 (Zdm Zc).step R n (((), (), (), x4, ()), ((x5, ()), (x6, ()), (x7, ()), ())) (fun r => k0 (r.1) (r.2), ())) (fun _ _ _ _ _ _ _ => rfl) Zgp (fun x4 x5 x6 x7 => (5 - (x4)).toNat) Zzm (Zci x4 x5 x6 x7) x4 x5 x6 x7 i_ (by obtain ⟨i_0, i_1, i_2, i_3, i_4⟩ := i_; unfold Zci; first | omega | (simp only [ts] <;> omega))
theorem Z4e (a1 a2 : List Int) (h_ : autoParam (((a1).length = 5) ∧ ((a2).length = 5)) sA._auto_1) : T_1 (fun R k0 => Z30 R a1 a2 k0) (fun z0 => ((z0).length = 5)) := by
  obtain ⟨h_0, h_1⟩ := h_
  refine T_1.of ?_
  delta Z30 Zqw
  refine Tot.lett (fun v3 e_v3 => ?_)
  refine T_2.bind (Z143 0 a1 a2 v3) (fun y9 y10 q1 => ?_)
  obtain ⟨q1_0, q1_1⟩ := q1
  refine T_1.bind (Z99 y9) (fun r11 q2 => ?_)
  replace q2 : (r11).length = 5 := q2
  exact Tot.ret _
theorem Zxd (x12 : Bool) (x13 x14 x15 : List Int) (i_ : ((x13).length = 5) ∧ ((x14).length = 5) ∧ ((x15).length = 5)) : T_3 (fun R k0 => Zh4 Z1w Z18 Z4 Zv Zw R x12 x13 x14 x15 k0) (fun z0 z1 z2 => ((z0).length = 5) ∧ ((z1).length = 5) ∧ ((z2).length = 5)) := by
  obtain ⟨i_0, i_1, i_2⟩ := i_
  refine T_3.of ?_
  delta Zh4
  refine Tot.br (fun h1 => ?_) (fun h1 => ?_)
  · first | simp (disch := omega) only [ts, *] at h1 | skip
    all_goals
      refine T_1.bind (Z4r 2) (fun r16 q2 => ?_)
      replace q2 : (r16).length = 5 := q2
      refine T_2.bind (Zjm r16) (fun r17 r18 q3 => ?_)
      obtain ⟨q3_0, q3_1⟩ := q3
      refine Tot.lett (fun v19 e_v19 => ?_)
      refine Tot.lett (fun v20 e_v20 => ?_)
      refine T_1.bind (Z19 r17 3) (fun r21 q4 => ?_)
      replace q4 : (r21).length = 5 := q4
      refine T_1.bind (Z4r 8) (fun r22 q5 => ?_)
      replace q5 : (r22).length = 5 := q5
      refine T_1.bind (Z5 r21 r22) (fun r23 q6 => ?_)
      replace q6 : (r23).length = 5 := q6
      refine T_1.bind (Z5 x15 r23) (fun r24 q7 => ?_)
      replace q7 : (r24).length = 5 := q7
      exact Tot.ret _
  · first | simp (disch := omega) only [ts, *] at h1 | skip
    all_goals
      exact Tot.ret _
theorem Z12j (x12 : Bool) (x13 x14 x15 : List Int) (i_ : autoParam (((x13).length = 5) ∧ ((x14).length = 5) ∧ ((x15).length = 5)) sA._auto_1) : T_3 (fun R k0 => Zx4 Z1w Z18 Z4 Zv Zw R x12 x13 x14 x15 k0) (fun z0 z1 z2 => ((z0).length = 5) ∧ ((z1).length = 5) ∧ ((z2).length = 5)) := by
  exact T_3.congr (fun R k0 => by kernel_rfl) (Zxd x12 x13 x14 x15 i_)
theorem Zxw (x31 : Bool) (x32 x33 : List Int) (i_ : ((x32).length = 5) ∧ ((x33).length = 5)) : T_2 (fun R k0 => Zhm Z1w Z18 Z4 Zv Zw R x31 x32 x33 k0) (fun z0 z1 => ((z0).length = 5) ∧ ((z1).length = 5)) := by
  obtain ⟨i_0, i_1⟩ := i_
  refine T_2.of ?_
  delta Zhm
  refine Tot.br (fun h1 => ?_) (fun h1 => ?_)
  · first | simp (disch := omega) only [ts, *] at h1 | skip
    all_goals
      refine T_1.bind (Z1y (List.replicate 5 (0 : Int)) x33) (fun r34 q2 => ?_)
      replace q2 : (r34).length = 5 := q2
      exact Tot.ret _
  · first | simp (disch := omega) only [ts, *] at h1 | skip
    all_goals
      exact Tot.ret _
theorem Z123 (x31 : Bool) (x32 x33 : List Int) (i_ : autoParam (((x32).length = 5) ∧ ((x33).length = 5)) sA._auto_1) : T_2 (fun R k0 => Zx5 Z1w Z18 Z4 Zv Zw R x31 x32 x33 k0) (fun z0 z1 => ((z0).length = 5) ∧ ((z1).length = 5)) := by
  exact T_2.congr (fun R k0 => by kernel_rfl) (Zxw x31 x32 x33 i_)
theorem Z153 (a1 : List Int) (h_ : autoParam (((a1).length = 5)) sA._auto_1) : T_2 (fun R k0 => Z57 R a1 k0) (fun z0 z1 => ((z0).length = 5)) := by
  refine T_2.of ?_
  delta Z57 Zov
  refine Tot.lett (fun v2 e_v2 => ?_)
  refine T_2.bind (Zjm a1) (fun r3 r4 q1 => ?_)
  obtain ⟨q1_0, q1_1⟩ := q1
  refine Tot.lett (fun v5 e_v5 => ?_)
  refine Tot.lett (fun v6 e_v6 => ?_)
  refine Tot.lett (fun v7 e_v7 => ?_)
  refine T_1.bind (Z19 r3 2) (fun r8 q2 => ?_)
  replace q2 : (r8).length = 5 := q2
  refine T_1.bind (Z5 r8 a1) (fun r9 q3 => ?_)
  replace q3 : (r9).length = 5 := q3
  refine T_1.bind (Z5 r9 a1) (fun r10 q4 => ?_)
  replace q4 : (r10).length = 5 := q4
  refine T_1.bind (Z5 r10 r10) (fun r11 q5 => ?_)
  replace q5 : (r11).length = 5 := q5
  refine T_3.bind (Z12j (!(eqL r11 a1)) a1 v2 r10) (fun y25 y26 y27 q6 => ?_)
  obtain ⟨q6_0, q6_1, q6_2⟩ := q6
  refine T_1.bind (Z5 y27 y27) (fun r28 q7 => ?_)
  replace q7 : (r28).length = 5 := q7
  refine Tot.br (fun h8 => ?_) (fun h8 => ?_)
  · first | simp (disch := omega) only [ts, *] at h8 | skip
    all_goals
      refine Tot.lett (fun v29 e_v29 => ?_)
      exact Tot.ret _
  · first | simp (disch := omega) only [ts, *] at h8 | skip
    all_goals
      refine Tot.lett (fun v30 e_v30 => ?_)
      refine T_2.bind (Z123 (eqI v30 1) y26 y27) (fun y35 y36 q9 => ?_)
      obtain ⟨q9_0, q9_1⟩ := q9
      exact Tot.ret _
end Go.Ev
