/- Texts Csha, Cfield, Cpoint, Cscalar, Csign, Ccert, Claw14 of this proof; printed names are shortened. -/
import Derived.Test.YtlomoioolngohaaGreatDoorP4
import Derived.Test.YtlomoioolngohaaGreatDoorP2
import Derived.KernelRfl
import Derived.Test.YtlomoioolngohaaGreatDoorP5
set_option linter.unusedVariables false
set_option maxRecDepth 100000
namespace Go.Ev
noncomputable section
open Go.Proofs
def Zoa (f : Zb8) : Con := { args := [.sc (.ik .i64 64)], blks := [], shapes := [⟨Int × Int, fun r => (.tup [.sc (.ptr 0 0 0 0 0), .sc (.int .i64 r.1)], [(0, ⟨true, [.one (.int .i64 r.2), .one (.nilsl)]⟩)], 1)⟩], F := fun R x y k => f R (fun z0 z1 => k.1 (z0, z1)) }
def Z1br : Con := Zoa Z6z
theorem Z170 : (Zoa (Zwi)).Says Tryz.prog Tryz.f129 (conL []) (pieceL 0 []) .leaf := by
 intro R x y K
 kernel_rfl
theorem Z10s : ConOK Tryz.prog 129 Z1br :=
 con_o (Z170) (cons_ok trivial) orcs_0
def Zcz (f : Z3n) : Con := { args := [.sc (.ptr 0 0 0 0 0), .sc (.s)], blks := [(true, [.one (.i .i64), .one (.nilsl)])], shapes := [⟨Int × Int × Str, fun r => (.c (.sc (.int .i64 r.1)), [(0, ⟨true, [.one (.int .i64 r.2.1), .one (.slice 1 1 none none)]⟩), (1, ⟨true, [.bytes r.2.2 r.2.2.length]⟩)], 1)⟩], F := fun R x y k => f R (x.2.1) (y.1.1) (fun z0 z1 z2 => k.1 (z0, z1, z2)) }
def Z14z : Con := Zcz Z3p
theorem Zyx : (Zcz (Zqr)).Says Tryz.prog Tryz.f130 (conL []) (pieceL 1 []) .leaf := by
 intro R x y K
 kernel_rfl
theorem Zni : ConOK Tryz.prog 130 Z14z :=
 con_o (Zyx) (cons_ok trivial) orcs_0
def Zcd (f : Z3o) : Con := { args := [.sc (.ptr 0 0 0 0 0), .sc (.s)], blks := [(true, [.one (.i .i64), .one (.sl 1 1 none)]), (true, [.bytes none])], shapes := [⟨Int × Int × Str, fun r => (.c (.sc (.int .i64 r.1)), [(0, ⟨true, [.one (.int .i64 r.2.1), .one (.slice 2 1 none none)]⟩), (2, ⟨true, [.bytes r.2.2 r.2.2.length]⟩)], 1)⟩], F := fun R x y k => f R (x.2.1) (y.1.1) (y.2.1.1) (fun z0 z1 z2 => k.1 (z0, z1, z2)) }
def Z15g : Con := Zcd Z2g
theorem Zyy : (Zcd (Zi1)).Says Tryz.prog Tryz.f130 (conL []) (pieceL 2 []) .leaf := by
 intro R x y K
 kernel_rfl
theorem Zo3 : ConOK Tryz.prog 130 Z15g :=
 con_o (Zyy) (cons_ok trivial) orcs_0
def Zet (f : Z53) : Con := { args := [], blks := [], shapes := [⟨(List Int), fun r => (.c (.sc (.ptr 0 0 0 0 0)), [(0, ⟨true, [.ints .u64 r 80]⟩)], 1)⟩], F := fun R x y k => f R (fun z0 => k.1 z0) }
def Z1af : Con := Zet Z3b
theorem Z151 : (Zet (Zqu)).Says Tryz.prog Tryz.f159 (conL []) (pieceL 0 []) .leaf := by
 intro R x y K
 kernel_rfl
theorem Zmk : ConOK Tryz.prog 159 Z1af :=
 con_o (Z151) (cons_ok trivial) orcs_0
def Zko (f : Z8s) : Con := { args := [], blks := [], shapes := [⟨(List Int), fun r => (.c (.agg [.ints .u64 r 8]), [], 0)⟩], F := fun R x y k => f R (fun z0 => k.1 z0) }
def Z1c1 : Con := Zko Z5w
theorem Z18o : (Zko (Zzo)).Says Tryz.prog Tryz.f161 (conL []) (pieceL 0 []) .leaf := by
 intro R x y K
 kernel_rfl
theorem Zti : ConOK Tryz.prog 161 Z1c1 :=
 con_o (Z18o) (cons_ok trivial) orcs_0
theorem Z168 (g0 : Z53) (g1 : Z8s) : (Ziu g0 g1).Loops Tryz.prog 28 0 (conL [(159, Zet g0), (161, Zko g1)]) (pieceL 0 []) (fsub Tryz.f84 [1, 1, 1, 0, 1, 0, 0]) .leaf [2, 13, 14] [] [2] [] := by
 intro R v next K
 kernel_rfl
theorem Z18h : OrcOK Tryz.prog 28 0 (.loop (fsub Tryz.f84 [1, 1, 1, 0, 1, 0, 0])) (fun R => pieceG 0 (Ziu Z3b Z5w) R) :=
 piece_l (Z168 Z3b Z5w) (cons_ok ⟨.inl Zmk, .inl Zti, trivial⟩) orcs_0
def Zz5 (f : Zui) : Con := { args := [], blks := [], shapes := [⟨Int × Int × (List Int) × (List Int) × (List Int) × (List Int) × (List Int) × (List Int), fun r => (.c (.sc (.ptr 0 0 0 0 0)), [(0, ⟨true, [.one (.int .i64 r.1), .one (.int .i64 r.2.1), .ints .i64 r.2.2.1 3, .ints .i64 r.2.2.2.1 3, .ints .i64 r.2.2.2.2.1 3, .ints .i64 r.2.2.2.2.2.1 3, .one (.fn Zd [1]), .ints .u32 r.2.2.2.2.2.2.1 8]⟩), (1, ⟨true, [.one (.ptr 2 0 0 0 0)]⟩), (2, ⟨true, [.ints .u64 r.2.2.2.2.2.2.2 80]⟩)], 3)⟩], F := fun R x y k => f R (fun z0 z1 z2 z3 z4 z5 z6 z7 => k.1 (z0, z1, z2, z3, z4, z5, z6, z7)) }
def Z1cj : Con := Zz5 Zng
theorem Z18t (g0 : Z53) (g1 : Z8s) : (Zz5 (Zy9 g0 g1)).Says Tryz.prog Tryz.f84 (conL [(159, Zet g0), (161, Zko g1)]) (pieceL 0 [(0, Ziu g0 g1)]) (.node .leaf (.node .leaf (.node .leaf (.node (.node .leaf (.node (.orc 0 [2, 13, 14] []) .leaf)) .leaf)))) := by
 intro R x y K
 kernel_rfl
theorem Z1aq : ConOK Tryz.prog 84 Z1cj :=
 con_o (Z18t Z3b Z5w) (cons_ok ⟨.inl Zmk, .inl Zti, trivial⟩) (orcs_1 [(0, [1, 1, 1, 0, 1, 0])] ⟨piece_a Z18h, trivial⟩)
def Z1s (f : Zb) : Con := { args := [.sc (.ptr 0 0 0 0 0)], blks := [(false, [.one (.i .i64), .one (.i .i64), .ints .i64 (some 3), .ints .i64 (some 3), .ints .i64 (some 3), .ints .i64 (some 3), .one (.fn Zd [1]), .ints .u32 (some 8)]), (false, [.one (.ptr 2 0 0 0 0)]), (false, [.ints .u64 (some 80)])], shapes := [⟨Int × Int × Int × (List Int) × (List Int) × (List Int) × (List Int) × (List Int) × (List Int), fun r => (.c (.sc (.int .i64 r.1)), [(0, ⟨false, [.one (.int .i64 r.2.1), .one (.int .i64 r.2.2.1), .ints .i64 r.2.2.2.1 3, .ints .i64 r.2.2.2.2.1 3, .ints .i64 r.2.2.2.2.2.1 3, .ints .i64 r.2.2.2.2.2.2.1 3, .one (.fn Zd [1]), .ints .u32 r.2.2.2.2.2.2.2.1 8]⟩), (1, ⟨false, [.one (.ptr 2 0 0 0 0)]⟩), (2, ⟨false, [.ints .u64 r.2.2.2.2.2.2.2.2 80]⟩)], 0)⟩], F := fun R x y k => f R (y.1.1) (y.1.2.1) (y.1.2.2.1) (y.1.2.2.2.1) (y.1.2.2.2.2.1) (y.1.2.2.2.2.2.1) (y.1.2.2.2.2.2.2.2.1) (y.2.2.1.1) (fun z0 z1 z2 z3 z4 z5 z6 z7 z8 => k.1 (z0, z1, z2, z3, z4, z5, z6, z7, z8)) }
def Zvn : Con := Z1s Z1
theorem Zq2 : (Z1s (Zbc)).Says Tryz.prog Tryz.f157 (conL []) (pieceL 3 []) .leaf := by
 intro R x y K
 kernel_rfl
theorem Z2p : ConOK Tryz.prog 157 Zvn :=
 con_o (Zq2) (cons_ok trivial) orcs_0
def Z7f (f : Z3i) : Con := { args := [.sc (.ptr 0 0 0 0 0), .sc (.i .u32), .sc (.i .i64)], blks := [(false, [.one (.i .i64), .one (.i .i64), .ints .i64 (some 3), .ints .i64 (some 3), .ints .i64 (some 3), .ints .i64 (some 3), .one (.fn Zd [1]), .ints .u32 (some 8)]), (false, [.one (.ptr 2 0 0 0 0)]), (false, [.ints .u64 (some 80)])], shapes := [⟨Int × Int × Int × (List Int) × (List Int) × (List Int) × (List Int) × (List Int) × (List Int), fun r => (.c (.sc (.int .u32 r.1)), [(0, ⟨false, [.one (.int .i64 r.2.1), .one (.int .i64 r.2.2.1), .ints .i64 r.2.2.2.1 3, .ints .i64 r.2.2.2.2.1 3, .ints .i64 r.2.2.2.2.2.1 3, .ints .i64 r.2.2.2.2.2.2.1 3, .one (.fn Zd [1]), .ints .u32 r.2.2.2.2.2.2.2.1 8]⟩), (1, ⟨false, [.one (.ptr 2 0 0 0 0)]⟩), (2, ⟨false, [.ints .u64 r.2.2.2.2.2.2.2.2 80]⟩)], 0)⟩], F := fun R x y k => f R (x.2.1) (x.2.2.1) (y.1.1) (y.1.2.1) (y.1.2.2.1) (y.1.2.2.2.1) (y.1.2.2.2.2.1) (y.1.2.2.2.2.2.1) (y.1.2.2.2.2.2.2.2.1) (y.2.2.1.1) (fun z0 z1 z2 z3 z4 z5 z6 z7 z8 => k.1 (z0, z1, z2, z3, z4, z5, z6, z7, z8)) }
def Zxa : Con := Z7f Z2s
theorem Zqx : (Z7f (Zc0)).Says Tryz.prog Tryz.f228 (conL []) (pieceL 3 []) (.node .leaf (.node (.draw [⟨0, false, [], []⟩, ⟨1, false, [], []⟩, ⟨2, false, [], [0, 1]⟩, ⟨3, false, [], []⟩, ⟨4, false, [], []⟩, ⟨5, false, [], [4]⟩, ⟨6, false, [0], [4, 5]⟩, ⟨7, false, [0], [4, 5, 6]⟩, ⟨8, false, [], []⟩, ⟨9, false, [], [4, 5, 6, 7, 8]⟩, ⟨10, false, [], [3, 4, 5, 6, 7, 8, 9]⟩, ⟨11, false, [], [0, 1, 2, 3, 4, 5, 6, 7, 8, 9, 10]⟩, ⟨12, false, [], [0, 1, 2, 3, 4, 5, 6, 7, 8, 9, 10, 11]⟩]) .leaf)) := by
 intro R x y K
 kernel_rfl
theorem Zha : ConOK Tryz.prog 228 Zxa :=
 con_o (Zqx) (cons_ok trivial) orcs_0
def Z3g (f : Zq) : Con := { args := [.sc (.ptr 0 0 0 0 0), .sc (.i .u32), .agg [.ints .i64 (some 3)]], blks := [(false, [.one (.i .i64), .one (.i .i64), .ints .i64 (some 3), .ints .i64 (some 3), .ints .i64 (some 3), .ints .i64 (some 3), .one (.fn Zd [1]), .ints .u32 (some 8)]), (false, [.one (.ptr 2 0 0 0 0)]), (false, [.ints .u64 (some 80)])], shapes := [⟨Int × Int × Int × (List Int) × (List Int) × (List Int) × (List Int) × (List Int) × (List Int), fun r => (.c (.sc (.int .u32 r.1)), [(0, ⟨false, [.one (.int .i64 r.2.1), .one (.int .i64 r.2.2.1), .ints .i64 r.2.2.2.1 3, .ints .i64 r.2.2.2.2.1 3, .ints .i64 r.2.2.2.2.2.1 3, .ints .i64 r.2.2.2.2.2.2.1 3, .one (.fn Zd [1]), .ints .u32 r.2.2.2.2.2.2.2.1 8]⟩), (1, ⟨false, [.one (.ptr 2 0 0 0 0)]⟩), (2, ⟨false, [.ints .u64 r.2.2.2.2.2.2.2.2 80]⟩)], 0)⟩], F := fun R x y k => f R (x.2.1) (x.2.2.1.1) (y.1.1) (y.1.2.1) (y.1.2.2.1) (y.1.2.2.2.1) (y.1.2.2.2.2.1) (y.1.2.2.2.2.2.1) (y.1.2.2.2.2.2.2.2.1) (y.2.2.1.1) (fun z0 z1 z2 z3 z4 z5 z6 z7 z8 => k.1 (z0, z1, z2, z3, z4, z5, z6, z7, z8)) }
def Zym : Con := Z3g Zi
theorem Zsg (g0 : Z3i) : (Z3g (Zcr g0)).Says Tryz.prog Tryz.f227 (conL [(228, Z7f g0)]) (pieceL 3 []) (.node .leaf (.node (.draw [⟨0, false, [], []⟩, ⟨1, false, [], []⟩, ⟨2, false, [3], []⟩, ⟨3, false, [3], [2]⟩, ⟨5, false, [], []⟩, ⟨6, false, [], []⟩, ⟨7, false, [3], []⟩, ⟨8, false, [3], [7]⟩, ⟨11, false, [], []⟩, ⟨12, false, [3], []⟩, ⟨13, false, [3], [12]⟩, ⟨14, false, [], [11, 12, 13]⟩, ⟨4, true, [0, 1, 2], [0, 1, 2, 3]⟩, ⟨9, true, [0, 1, 2], [0, 1, 2, 3, 4, 5, 6, 7, 8]⟩, ⟨10, false, [], [0, 1, 2, 3, 4, 5, 6, 7, 8, 9]⟩, ⟨15, false, [], [0, 1, 2, 3, 4, 5, 6, 7, 8, 9, 10, 11, 12, 13, 14]⟩, ⟨16, false, [], [0, 1, 2, 3, 4, 5, 6, 7, 8, 9, 10, 11, 12, 13, 14, 15]⟩]) .leaf)) := by
 intro R x y K
 kernel_rfl
theorem Z6v : ConOK Tryz.prog 227 Zym :=
 con_o (Zsg Z2s) (cons_ok ⟨.inl Zha, trivial⟩) orcs_0
theorem Znz (g0 : Zq) : (Z45 g0).Loops Tryz.prog 88 3 (conL [(227, Z3g g0)]) (pieceL 3 []) (fsub Tryz.f201 [1, 1, 1, 0, 1, 0, 0, 1, 1, 0, 0, 1, 0, 1, 0, 0, 1, 0, 0]) (.node .leaf (.node .leaf (.node (.node (.node .leaf (.draw [⟨0, false, [], []⟩, ⟨1, false, [], []⟩, ⟨2, false, [], []⟩, ⟨3, false, [], []⟩, ⟨4, false, [3], [2, 3]⟩, ⟨5, false, [3], [2, 3, 4]⟩, ⟨6, false, [], [2, 3, 4, 5]⟩, ⟨7, false, [], []⟩, ⟨8, false, [], []⟩, ⟨9, false, [], []⟩, ⟨10, false, [], [8, 9]⟩, ⟨11, false, [], []⟩, ⟨12, false, [], [8, 9, 10, 11]⟩, ⟨13, false, [], [7, 8, 9, 10, 11, 12]⟩, ⟨14, false, [], [7, 8, 9, 10, 11, 12, 13]⟩, ⟨15, false, [], [2, 3, 4, 5, 6, 7, 8, 9, 10, 11, 12, 13, 14]⟩, ⟨16, false, [3], [0, 1, 2, 3, 4, 5, 6, 7, 8, 9, 10, 11, 12, 13, 14, 15]⟩, ⟨17, true, [3], [0, 1, 2, 3, 4, 5, 6, 7, 8, 9, 10, 11, 12, 13, 14, 15, 16]⟩])) .leaf) .leaf))) [0, 1, 5, 6, 7, 20, 21, 26, 27] [] [0, 1, 5, 6, 20, 21] [] := by
 intro R v next K
 kernel_rfl
theorem Zq1 : OrcOK Tryz.prog 88 3 (.loop (fsub Tryz.f201 [1, 1, 1, 0, 1, 0, 0, 1, 1, 0, 0, 1, 0, 1, 0, 0, 1, 0, 0])) (fun R => pieceG 3 (Z45 Zi) R) :=
 piece_l (Znz Zi) (cons_ok ⟨.inl Z6v, trivial⟩) orcs_0
theorem Zny (g0 : Zq) : (Z62 g0).Joins Tryz.prog 88 3 (conL [(227, Z3g g0)]) (pieceL 3 [(2, Z45 g0)]) (fsub Tryz.f201 [1, 1, 1, 0, 1, 0, 0, 1, 1, 0]) (.node (.node .leaf (.node (.node .leaf (.node (.node (.node .leaf (.node (.orc 2 [0, 1, 5, 6, 7, 20, 21, 26, 27] []) .leaf)) .leaf) .leaf)) (.draw [⟨0, false, [], []⟩, ⟨1, false, [], []⟩, ⟨2, false, [], []⟩, ⟨3, false, [], []⟩, ⟨4, false, [], [3]⟩, ⟨5, false, [3], [2, 3, 4]⟩, ⟨6, false, [3], [2, 3, 4, 5]⟩, ⟨7, false, [], []⟩, ⟨8, false, [], []⟩, ⟨9, false, [], [8]⟩, ⟨10, false, [3], [7, 8, 9]⟩, ⟨11, false, [3], [7, 8, 9, 10]⟩, ⟨12, false, [], [2, 3, 4, 5, 6, 7, 8, 9, 10, 11]⟩, ⟨13, false, [], []⟩, ⟨14, false, [], []⟩, ⟨15, false, [], []⟩, ⟨16, false, [], [15]⟩, ⟨17, false, [3], [14, 15, 16]⟩, ⟨18, false, [3], [14, 15, 16, 17]⟩, ⟨19, false, [], []⟩, ⟨20, false, [], [19]⟩, ⟨21, false, [0], [19, 20]⟩, ⟨22, false, [0], [19, 20, 21]⟩, ⟨25, false, [], []⟩, ⟨26, false, [], []⟩, ⟨27, false, [], []⟩, ⟨28, false, [], [27]⟩, ⟨29, false, [3], [26, 27, 28]⟩, ⟨30, false, [3], [26, 27, 28, 29]⟩, ⟨31, false, [], []⟩, ⟨32, false, [], [31]⟩, ⟨33, false, [0], [31, 32]⟩, ⟨34, false, [0], [31, 32, 33]⟩, ⟨23, true, [0, 1, 2], [13, 14, 15, 16, 17, 18, 19, 20, 21, 22]⟩, ⟨24, false, [], [2, 3, 4, 5, 6, 7, 8, 9, 10, 11, 12, 13, 14, 15, 16, 17, 18, 19, 20, 21, 22, 23]⟩, ⟨35, true, [0, 1, 2], [13, 14, 15, 16, 17, 18, 19, 20, 21, 22, 23, 25, 26, 27, 28, 29, 30, 31, 32, 33, 34]⟩, ⟨36, false, [], [2, 3, 4, 5, 6, 7, 8, 9, 10, 11, 12, 13, 14, 15, 16, 17, 18, 19, 20, 21, 22, 23, 24, 25, 26, 27, 28, 29, 30, 31, 32, 33, 34, 35]⟩, ⟨37, false, [3], [0, 1, 2, 3, 4, 5, 6, 7, 8, 9, 10, 11, 12, 13, 14, 15, 16, 17, 18, 19, 20, 21, 22, 23, 24, 25, 26, 27, 28, 29, 30, 31, 32, 33, 34, 35, 36]⟩, ⟨38, true, [3], [0, 1, 2, 3, 4, 5, 6, 7, 8, 9, 10, 11, 12, 13, 14, 15, 16, 17, 18, 19, 20, 21, 22, 23, 24, 25, 26, 27, 28, 29, 30, 31, 32, 33, 34, 35, 36, 37]⟩]))) .leaf) [0, 1, 5, 6, 20, 21] [] := by
 intro R v next K
 kernel_rfl
theorem Zpn : OrcOK Tryz.prog 88 3 (fsub Tryz.f201 [1, 1, 1, 0, 1, 0, 0, 1, 1, 0]) (fun R => pieceG 3 (Z62 Zi) R) :=
 piece_j (Zny Zi) (cons_ok ⟨.inl Z6v, trivial⟩) (orcs_1 [(2, [0, 1, 0, 1, 0, 0, 1, 0])] ⟨piece_a Zq1, trivial⟩)
theorem Znk (g0 : Zq) : (Z41 g0).Loops Tryz.prog 88 3 (conL [(227, Z3g g0)]) (pieceL 3 [(1, Z62 g0)]) (fsub Tryz.f201 [1, 1, 1, 0, 1, 0, 0]) (.node .leaf (.node .leaf (.node (.orc 1 [0, 1, 5, 6, 20, 21] []) .leaf))) [0, 1, 5, 6, 20, 21] [] [5] [] := by
 intro R v next K
 kernel_rfl
theorem Zpt : OrcOK Tryz.prog 88 3 (.loop (fsub Tryz.f201 [1, 1, 1, 0, 1, 0, 0])) (fun R => pieceG 3 (Z41 Zi) R) :=
 piece_l (Znk Zi) (cons_ok ⟨.inl Z6v, trivial⟩) (orcs_1 [(1, [1, 1, 0])] ⟨piece_a Zpn, trivial⟩)
def Z4i (f : Z11) : Con := { args := [.sc (.ptr 0 0 0 0 0), .sc (.s)], blks := [(true, [.one (.i .i64), .one (.i .i64), .ints .i64 (some 3), .ints .i64 (some 3), .ints .i64 (some 3), .ints .i64 (some 3), .one (.fn Zd [1]), .ints .u32 (some 8)]), (false, [.one (.ptr 2 0 0 0 0)]), (true, [.ints .u64 (some 80)])], shapes := [⟨Int × Int × (List Int) × (List Int) × (List Int) × (List Int) × (List Int) × (List Int) × (List Int), fun r => (.c (.sc (.slice 3 1 none none)), [(0, ⟨true, [.one (.int .i64 r.1), .one (.int .i64 r.2.1), .ints .i64 r.2.2.1 3, .ints .i64 r.2.2.2.1 3, .ints .i64 r.2.2.2.2.1 3, .ints .i64 r.2.2.2.2.2.1 3, .one (.fn Zd [1]), .ints .u32 r.2.2.2.2.2.2.1 8]⟩), (1, ⟨false, [.one (.ptr 2 0 0 0 0)]⟩), (2, ⟨true, [.ints .u64 r.2.2.2.2.2.2.2.1 80]⟩), (3, ⟨true, [.ints .u32 r.2.2.2.2.2.2.2.2 r.2.2.2.2.2.2.2.2.length]⟩)], 1)⟩], F := fun R x y k => f R (x.2.1) (y.1.1) (y.1.2.1) (y.1.2.2.1) (y.1.2.2.2.1) (y.1.2.2.2.2.1) (y.1.2.2.2.2.2.1) (y.1.2.2.2.2.2.2.2.1) (y.2.2.1.1) (fun z0 z1 z2 z3 z4 z5 z6 z7 z8 => k.1 (z0, z1, z2, z3, z4, z5, z6, z7, z8)) }
def Zvz : Con := Z4i Zo
theorem Zpv (g0 : Zq) : (Z4i (Zbm g0)).Says Tryz.prog Tryz.f201 (conL [(227, Z3g g0)]) (pieceL 3 [(0, Z41 g0)]) (.node .leaf (.node .leaf (.node .leaf (.node (.node .leaf (.node (.orc 0 [0, 1, 5, 6, 20, 21] []) .leaf)) .leaf)))) := by
 intro R x y K
 kernel_rfl
theorem Z9s : ConOK Tryz.prog 201 Zvz :=
 con_o (Zpv Zi) (cons_ok ⟨.inl Z6v, trivial⟩) (orcs_1 [(0, [1, 1, 1, 0, 1, 0])] ⟨piece_a Zpt, trivial⟩)
def Z4f (f : Z13) : Con := { args := [.sc (.ptr 0 0 0 0 0), .sc (.i .u32), .agg [.ints .i64 (some 3)]], blks := [(false, [.one (.i .i64), .one (.i .i64), .ints .i64 (some 3), .ints .i64 (some 3), .ints .i64 (some 3), .ints .i64 (some 3), .one (.fn Zd [1]), .ints .u32 (some 8)]), (false, [.one (.ptr 2 0 0 0 0)]), (false, [.ints .u64 (some 80)])], shapes := [⟨Int × Int × Int × (List Int) × (List Int) × (List Int) × (List Int) × (List Int) × (List Int), fun r => (.c (.sc (.int .u32 r.1)), [(0, ⟨false, [.one (.int .i64 r.2.1), .one (.int .i64 r.2.2.1), .ints .i64 r.2.2.2.1 3, .ints .i64 r.2.2.2.2.1 3, .ints .i64 r.2.2.2.2.2.1 3, .ints .i64 r.2.2.2.2.2.2.1 3, .one (.fn Zd [1]), .ints .u32 r.2.2.2.2.2.2.2.1 8]⟩), (1, ⟨false, [.one (.ptr 2 0 0 0 0)]⟩), (2, ⟨false, [.ints .u64 r.2.2.2.2.2.2.2.2 80]⟩)], 0)⟩], F := fun R x y k => f R (x.2.1) (x.2.2.1.1) (y.1.1) (y.1.2.1) (y.1.2.2.1) (y.1.2.2.2.1) (y.1.2.2.2.2.1) (y.1.2.2.2.2.2.1) (y.1.2.2.2.2.2.2.2.1) (y.2.2.1.1) (fun z0 z1 z2 z3 z4 z5 z6 z7 z8 => k.1 (z0, z1, z2, z3, z4, z5, z6, z7, z8)) }
def Zvw : Con := Z4f Zp
theorem Zq5 (g0 : Z3i) : (Z4f (Zbh g0)).Says Tryz.prog Tryz.f202 (conL [(228, Z7f g0)]) (pieceL 3 []) (.node .leaf (.node (.draw [⟨0, false, [], []⟩, ⟨1, false, [], []⟩, ⟨2, false, [3], []⟩, ⟨3, false, [3], [2]⟩, ⟨5, false, [], []⟩, ⟨6, false, [], []⟩, ⟨7, false, [3], []⟩, ⟨8, false, [3], [7]⟩, ⟨11, false, [], []⟩, ⟨12, false, [], []⟩, ⟨13, false, [3], []⟩, ⟨14, false, [3], [13]⟩, ⟨4, true, [0, 1, 2], [0, 1, 2, 3]⟩, ⟨9, true, [0, 1, 2], [0, 1, 2, 3, 4, 5, 6, 7, 8]⟩, ⟨10, false, [], [0, 1, 2, 3, 4, 5, 6, 7, 8, 9]⟩, ⟨15, true, [0, 1, 2], [0, 1, 2, 3, 4, 5, 6, 7, 8, 9, 11, 12, 13, 14]⟩, ⟨16, false, [], [0, 1, 2, 3, 4, 5, 6, 7, 8, 9, 10, 11, 12, 13, 14, 15]⟩, ⟨17, false, [], [0, 1, 2, 3, 4, 5, 6, 7, 8, 9, 10, 11, 12, 13, 14, 15, 16]⟩]) .leaf)) := by
 intro R x y K
 kernel_rfl
theorem Z9t : ConOK Tryz.prog 202 Zvw :=
 con_o (Zq5 Z2s) (cons_ok ⟨.inl Zha, trivial⟩) orcs_0
def Zbg (f : Z28) : Con := { args := [.sc (.i .i64), .sc (.ptr 0 0 0 0 0)], blks := [(false, [.one (.ptr 1 0 0 0 0)]), (false, [.ints .u64 (some 80)])], shapes := [⟨Int × (List Int), fun r => (.c (.sc (.int .u32 r.1)), [(0, ⟨false, [.one (.ptr 1 0 0 0 0)]⟩), (1, ⟨false, [.ints .u64 r.2 80]⟩)], 0)⟩], F := fun R x y k => f R (x.1) (y.2.1.1) (fun z0 z1 => k.1 (z0, z1)) }
def Z171 : Con := Zbg Z1j
theorem Z121 : (Zbg (Zk9)).Says Tryz.prog Tryz.f160 (conL []) (pieceL 2 []) .leaf := by
 intro R x y K
 kernel_rfl
theorem Zi4 : ConOK Tryz.prog 160 Z171 :=
 con_o (Z121) (cons_ok trivial) orcs_0
theorem Znf (g0 : Z11) (g1 : Z13) (g2 : Z28) : (Z42 g0 g1 g2).Loops Tryz.prog 116 3 (conL [(201, Z4i g0), (202, Z4f g1), (160, Zbg g2)]) (pieceL 3 []) (fsub Tryz.f158 [1, 1, 0, 1, 0, 0]) (.node .leaf (.node .leaf (.node (.node (.node .leaf (.node (.draw [⟨0, false, [5], []⟩, ⟨1, false, [5], [0]⟩, ⟨2, false, [5], []⟩, ⟨3, false, [5], [2]⟩, ⟨4, false, [], [0, 1]⟩, ⟨5, false, [], [0, 1, 2, 3, 4]⟩]) (.node (.draw [⟨0, false, [5], []⟩, ⟨1, false, [5], [0]⟩, ⟨2, false, [], []⟩, ⟨3, false, [], []⟩, ⟨4, false, [], []⟩, ⟨5, false, [], [4]⟩, ⟨6, false, [0], [4, 5]⟩, ⟨7, false, [0], [4, 5, 6]⟩, ⟨10, false, [], []⟩, ⟨11, false, [5], []⟩, ⟨12, false, [5], [11]⟩, ⟨13, false, [], [10, 11, 12]⟩, ⟨14, false, [], []⟩, ⟨15, false, [], [14]⟩, ⟨16, false, [5], []⟩, ⟨17, false, [5], [16]⟩, ⟨18, false, [], [14, 15, 16, 17]⟩, ⟨19, false, [], [10, 11, 12, 13, 14, 15, 16, 17, 18]⟩, ⟨21, false, [], []⟩, ⟨22, false, [], [21]⟩, ⟨23, false, [0], [21, 22]⟩, ⟨24, false, [0], [21, 22, 23]⟩, ⟨25, false, [], []⟩, ⟨28, false, [], []⟩, ⟨8, true, [0, 1, 2], [2, 3, 4, 5, 6, 7]⟩, ⟨9, false, [], [0, 1, 2, 3, 4, 5, 6, 7, 8]⟩, ⟨20, false, [], [0, 1, 2, 3, 4, 5, 6, 7, 8, 9, 10, 11, 12, 13, 14, 15, 16, 17, 18, 19]⟩, ⟨26, true, [1, 2], [2, 3, 4, 5, 6, 7, 8, 21, 22, 23, 24, 25]⟩, ⟨27, false, [], [0, 1, 2, 3, 4, 5, 6, 7, 8, 9, 10, 11, 12, 13, 14, 15, 16, 17, 18, 19, 20, 21, 22, 23, 24, 25, 26]⟩, ⟨29, false, [], [0, 1, 2, 3, 4, 5, 6, 7, 8, 9, 10, 11, 12, 13, 14, 15, 16, 17, 18, 19, 20, 21, 22, 23, 24, 25, 26, 27, 28]⟩, ⟨30, false, [], [0, 1, 2, 3, 4, 5, 6, 7, 8, 9, 10, 11, 12, 13, 14, 15, 16, 17, 18, 19, 20, 21, 22, 23, 24, 25, 26, 27, 28, 29]⟩]) (.node (.draw [⟨0, false, [], []⟩, ⟨1, false, [], []⟩, ⟨2, false, [], []⟩, ⟨3, false, [], [2]⟩, ⟨4, false, [0], [2, 3]⟩, ⟨5, false, [0], [2, 3, 4]⟩, ⟨7, false, [], []⟩, ⟨8, false, [5], []⟩, ⟨9, false, [5], [8]⟩, ⟨10, false, [], [7, 8, 9]⟩, ⟨11, false, [], []⟩, ⟨12, false, [5], []⟩, ⟨13, false, [5], [12]⟩, ⟨14, false, [], [11, 12, 13]⟩, ⟨15, false, [], [7, 8, 9, 10, 11, 12, 13, 14]⟩, ⟨16, false, [5], []⟩, ⟨17, false, [5], [16]⟩, ⟨18, false, [5], []⟩, ⟨19, false, [5], [18]⟩, ⟨20, false, [], [16, 17, 18, 19]⟩, ⟨21, false, [], [7, 8, 9, 10, 11, 12, 13, 14, 15, 16, 17, 18, 19, 20]⟩, ⟨6, true, [0, 1, 2], [0, 1, 2, 3, 4, 5]⟩, ⟨22, false, [], [0, 1, 2, 3, 4, 5, 6, 7, 8, 9, 10, 11, 12, 13, 14, 15, 16, 17, 18, 19, 20, 21]⟩, ⟨23, false, [], [0, 1, 2, 3, 4, 5, 6, 7, 8, 9, 10, 11, 12, 13, 14, 15, 16, 17, 18, 19, 20, 21, 22]⟩]) .leaf)))) .leaf) .leaf))) [0, 4, 6, 7, 18, 19, 20] [] [4, 6, 7] [] := by
 intro R v next K
 kernel_rfl
theorem Zq8 : OrcOK Tryz.prog 116 3 (.loop (fsub Tryz.f158 [1, 1, 0, 1, 0, 0])) (fun R => pieceG 3 (Z42 Zo Zp Z1j) R) :=
 piece_l (Znf Zo Zp Z1j) (cons_ok ⟨.inl Z9s, .inl Z9t, .inl Zi4, trivial⟩) orcs_0
theorem Zo1 (g0 : Z11) (g1 : Z13) (g2 : Z28) : (Z40 g0 g1 g2).Loops Tryz.prog 116 3 (conL [(201, Z4i g0), (202, Z4f g1), (160, Zbg g2)]) (pieceL 3 []) (fsub Tryz.f158 [1, 1, 1, 0, 1, 0, 0]) (.node .leaf (.node .leaf (.node (.node (.node .leaf (.draw [⟨0, false, [], []⟩, ⟨1, false, [3], [0]⟩, ⟨2, false, [3], [0, 1]⟩, ⟨3, false, [], []⟩, ⟨4, false, [5], [3]⟩, ⟨5, false, [5], [3, 4]⟩, ⟨6, false, [], [0, 1, 2, 3, 4, 5]⟩, ⟨7, false, [3], [0, 1, 2, 3, 4, 5, 6]⟩, ⟨8, true, [3], [0, 1, 2, 3, 4, 5, 6, 7]⟩])) .leaf) .leaf))) [4, 6, 7, 103] [] [4, 6] [] := by
 intro R v next K
 kernel_rfl
theorem Zpm : OrcOK Tryz.prog 116 3 (.loop (fsub Tryz.f158 [1, 1, 1, 0, 1, 0, 0])) (fun R => pieceG 3 (Z40 Zo Zp Z1j) R) :=
 piece_l (Zo1 Zo Zp Z1j) (cons_ok ⟨.inl Z9s, .inl Z9t, .inl Zi4, trivial⟩) orcs_0
def Z1q (f : Za) : Con := { args := [.sc (.ptr 0 0 0 0 0), .agg [.ints .u32 (some 8)], .sc (.s)], blks := [(true, [.one (.i .i64), .one (.i .i64), .ints .i64 (some 3), .ints .i64 (some 3), .ints .i64 (some 3), .ints .i64 (some 3), .one (.fn Zd [1]), .ints .u32 (some 8)]), (false, [.one (.ptr 2 0 0 0 0)]), (true, [.ints .u64 (some 80)])], shapes := [⟨(List Int) × Int × Int × (List Int) × (List Int) × (List Int) × (List Int) × (List Int) × (List Int), fun r => (.c (.agg [.ints .u32 r.1 8]), [(0, ⟨true, [.one (.int .i64 r.2.1), .one (.int .i64 r.2.2.1), .ints .i64 r.2.2.2.1 3, .ints .i64 r.2.2.2.2.1 3, .ints .i64 r.2.2.2.2.2.1 3, .ints .i64 r.2.2.2.2.2.2.1 3, .one (.fn Zd [1]), .ints .u32 r.2.2.2.2.2.2.2.1 8]⟩), (1, ⟨false, [.one (.ptr 2 0 0 0 0)]⟩), (2, ⟨true, [.ints .u64 r.2.2.2.2.2.2.2.2 80]⟩)], 0)⟩], F := fun R x y k => f R (x.2.1.1) (x.2.2.1) (y.1.1) (y.1.2.1) (y.1.2.2.1) (y.1.2.2.2.1) (y.1.2.2.2.2.1) (y.1.2.2.2.2.2.1) (y.1.2.2.2.2.2.2.2.1) (y.2.2.1.1) (fun z0 z1 z2 z3 z4 z5 z6 z7 z8 => k.1 (z0, z1, z2, z3, z4, z5, z6, z7, z8)) }
def Zwm : Con := Z1q Z0
theorem Zpw (g0 : Z11) (g1 : Z13) (g2 : Z28) : (Z1q (Zbk g0 g1 g2)).Says Tryz.prog Tryz.f158 (conL [(201, Z4i g0), (202, Z4f g1), (160, Zbg g2)]) (pieceL 3 [(0, Z42 g0 g1 g2), (1, Z40 g0 g1 g2)]) (.node .leaf (.node .leaf (.node (.node .leaf (.node (.orc 0 [0, 4, 6, 7, 18, 19, 20] []) .leaf)) (.node (.node .leaf (.node (.orc 1 [4, 6, 7, 103] []) .leaf)) .leaf)))) := by
 intro R x y K
 kernel_rfl
theorem Z2r : ConOK Tryz.prog 158 Zwm :=
 con_o (Zpw Zo Zp Z1j) (cons_ok ⟨.inl Z9s, .inl Z9t, .inl Zi4, trivial⟩) (orcs_1 [(0, [1, 1, 0, 1, 0]), (1, [1, 1, 1, 0, 1, 0])] ⟨piece_a Zq8, piece_a Zpm, trivial⟩)
theorem Zs2 (g0 : Zb) (g1 : Za) : (Z5k g0 g1).Loops Tryz.prog 100 3 (conL [(157, Z1s g0), (158, Z1q g1)]) (pieceL 3 []) (fsub Tryz.f83 [1, 1, 1, 0, 0, 0]) (.node (.node (.draw [⟨0, false, [], []⟩, ⟨1, false, [3], [0]⟩, ⟨2, false, [], []⟩, ⟨3, false, [], [2]⟩, ⟨4, false, [0], [2, 3]⟩, ⟨5, false, [0], [2, 3, 4]⟩, ⟨6, false, [], [2, 3, 4, 5]⟩, ⟨7, false, [], [0, 1, 2, 3, 4, 5, 6]⟩, ⟨8, false, [], []⟩, ⟨9, true, [0, 1, 2], [8]⟩, ⟨10, false, [], [0, 1, 2, 3, 4, 5, 6, 7, 8, 9]⟩, ⟨11, false, [], [0, 1, 2, 3, 4, 5, 6, 7, 8, 9, 10]⟩]) .leaf) .leaf) [0, 1, 5] [] [0, 1, 5] [] := by
 intro R v next K
 kernel_rfl
theorem Zuq : OrcOK Tryz.prog 100 3 (.loop (fsub Tryz.f83 [1, 1, 1, 0, 0, 0])) (fun R => pieceG 3 (Z5k Z1 Z0) R) :=
 piece_l (Zs2 Z1 Z0) (cons_ok ⟨.inl Z2p, .inl Z2r, trivial⟩) orcs_0
theorem Zs4 (g0 : Zb) (g1 : Za) : (Z5r g0 g1).Loops Tryz.prog 100 3 (conL [(157, Z1s g0), (158, Z1q g1)]) (pieceL 3 []) (fsub Tryz.f83 [1, 1, 1, 1, 0, 1, 0, 0]) .leaf [0, 1, 5, 6] [] [0, 5] [] := by
 intro R v next K
 kernel_rfl
theorem Zvd : OrcOK Tryz.prog 100 3 (.loop (fsub Tryz.f83 [1, 1, 1, 1, 0, 1, 0, 0])) (fun R => pieceG 3 (Z5r Z1 Z0) R) :=
 piece_l (Zs4 Z1 Z0) (cons_ok ⟨.inl Z2p, .inl Z2r, trivial⟩) orcs_0
theorem Zsj (g0 : Zb) (g1 : Za) : (Z5j g0 g1).Loops Tryz.prog 100 3 (conL [(157, Z1s g0), (158, Z1q g1)]) (pieceL 3 []) (fsub Tryz.f83 [1, 1, 1, 1, 1, 1, 0, 1, 0, 0]) (.node .leaf (.node (.node (.draw [⟨0, false, [], []⟩, ⟨1, false, [4], []⟩, ⟨2, false, [], []⟩, ⟨3, false, [], []⟩, ⟨4, false, [], []⟩, ⟨5, false, [], []⟩, ⟨6, true, [0, 1, 2], [5]⟩, ⟨7, false, [], [4, 5, 6]⟩, ⟨8, false, [3], [2, 3, 4, 5, 6, 7]⟩, ⟨9, false, [3], [2, 3, 4, 5, 6, 7, 8]⟩, ⟨10, true, [0, 1, 2], [0, 1, 2, 3, 4, 5, 6, 7, 8, 9]⟩, ⟨11, true, [4], [0, 1, 2, 3, 4, 5, 6, 7, 8, 9, 10]⟩]) .leaf) .leaf)) [0, 5, 7, 8] [] [0, 7] [] := by
 intro R v next K
 kernel_rfl
theorem Zv4 : OrcOK Tryz.prog 100 3 (.loop (fsub Tryz.f83 [1, 1, 1, 1, 1, 1, 0, 1, 0, 0])) (fun R => pieceG 3 (Z5j Z1 Z0) R) :=
 piece_l (Zsj Z1 Z0) (cons_ok ⟨.inl Z2p, .inl Z2r, trivial⟩) orcs_0
theorem Zs9 (g0 : Zb) (g1 : Za) : (Z5l g0 g1).Loops Tryz.prog 100 3 (conL [(157, Z1s g0), (158, Z1q g1)]) (pieceL 3 []) (fsub Tryz.f83 [1, 1, 1, 1, 1, 1, 1, 1, 0, 1, 0, 0, 1, 1, 0, 0, 1, 1, 0, 0]) .leaf [0, 9, 11, 12, 77, 78] [] [0, 9, 77, 78] [] := by
 intro R v next K
 kernel_rfl
theorem Zuu : OrcOK Tryz.prog 100 3 (.loop (fsub Tryz.f83 [1, 1, 1, 1, 1, 1, 1, 1, 0, 1, 0, 0, 1, 1, 0, 0, 1, 1, 0, 0])) (fun R => pieceG 3 (Z5l Z1 Z0) R) :=
 piece_l (Zs9 Z1 Z0) (cons_ok ⟨.inl Z2p, .inl Z2r, trivial⟩) orcs_0
theorem Zs7 (g0 : Zb) (g1 : Za) : (Z5m g0 g1).Loops Tryz.prog 100 3 (conL [(157, Z1s g0), (158, Z1q g1)]) (pieceL 3 [(4, Z5l g0 g1)]) (fsub Tryz.f83 [1, 1, 1, 1, 1, 1, 1, 1, 0, 1, 0, 0]) (.node .leaf (.node .leaf (.node (.node (.node .leaf (.node .leaf (.node (.orc 4 [0, 9, 11, 12, 77, 78] []) .leaf))) .leaf) .leaf))) [0, 9, 77, 78] [(9, .bytes [] 0)] [9] [] := by
 intro R v next K
 kernel_rfl
theorem Zvi : OrcOK Tryz.prog 100 3 (.loop (fsub Tryz.f83 [1, 1, 1, 1, 1, 1, 1, 1, 0, 1, 0, 0])) (fun R => pieceG 3 (Z5m Z1 Z0) R) :=
 piece_l (Zs7 Z1 Z0) (cons_ok ⟨.inl Z2p, .inl Z2r, trivial⟩) (orcs_1 [(4, [1, 1, 0, 0, 1, 1, 0])] ⟨piece_a Zuu, trivial⟩)
def Zek (f : Zay) : Con := { args := [.sc (.ptr 0 0 0 0 0), .sc (.s)], blks := [(true, [.one (.i .i64), .one (.i .i64), .ints .i64 (some 3), .ints .i64 (some 3), .ints .i64 (some 3), .ints .i64 (some 3), .one (.fn Zd [1]), .ints .u32 (some 8)]), (false, [.one (.ptr 2 0 0 0 0)]), (true, [.ints .u64 (some 80)])], shapes := [⟨Str × Int × Int × (List Int) × (List Int) × (List Int) × (List Int) × (List Int) × (List Int), fun r => (.c (.sc (.str r.1)), [(0, ⟨true, [.one (.int .i64 r.2.1), .one (.int .i64 r.2.2.1), .ints .i64 r.2.2.2.1 3, .ints .i64 r.2.2.2.2.1 3, .ints .i64 r.2.2.2.2.2.1 3, .ints .i64 r.2.2.2.2.2.2.1 3, .one (.fn Zd [1]), .ints .u32 r.2.2.2.2.2.2.2.1 8]⟩), (1, ⟨false, [.one (.ptr 2 0 0 0 0)]⟩), (2, ⟨true, [.ints .u64 r.2.2.2.2.2.2.2.2 80]⟩)], 0)⟩], F := fun R x y k => f R (x.2.1) (y.1.1) (y.1.2.1) (y.1.2.2.1) (y.1.2.2.2.1) (y.1.2.2.2.2.1) (y.1.2.2.2.2.2.1) (y.1.2.2.2.2.2.2.2.1) (y.2.2.1.1) (fun z0 z1 z2 z3 z4 z5 z6 z7 z8 => k.1 (z0, z1, z2, z3, z4, z5, z6, z7, z8)) }
def Z11d : Con := Zek Z71
theorem Zvb (g0 : Zb) (g1 : Za) : (Zek (Zef g0 g1)).Says Tryz.prog Tryz.f83 (conL [(157, Z1s g0), (158, Z1q g1)]) (pieceL 3 [(0, Z5k g0 g1), (1, Z5r g0 g1), (2, Z5j g0 g1), (3, Z5m g0 g1)]) (.node .leaf (.node .leaf (.node .leaf (.node (.node (.orc 0 [0, 1, 5] []) .leaf) (.node (.node .leaf (.node (.orc 1 [0, 1, 5, 6] []) .leaf)) (.node .leaf (.node (.node .leaf (.node (.orc 2 [0, 5, 7, 8] []) .leaf)) (.node .leaf (.node (.node .leaf (.node (.orc 3 [0, 9, 77, 78] [(9, .bytes [] 0)]) .leaf)) .leaf))))))))) := by
 intro R x y K
 kernel_rfl
theorem Zxp : ConOK Tryz.prog 83 Z11d :=
 con_o (Zvb Z1 Z0) (cons_ok ⟨.inl Z2p, .inl Z2r, trivial⟩) (orcs_1 [(0, [1, 1, 1, 0, 0]), (1, [1, 1, 1, 1, 0, 1, 0]), (2, [1, 1, 1, 1, 1, 1, 0, 1, 0]), (3, [1, 1, 1, 1, 1, 1, 1, 1, 0, 1, 0])] ⟨piece_a Zuq, piece_a Zvd, piece_a Zv4, piece_a Zvi, trivial⟩)
def Zrx (f : Zjb) : Con := { args := [.sc (.s)], blks := [], shapes := [⟨Str, fun r => (.c (.sc (.str r)), [], 0)⟩], F := fun R x y k => f R (x.1) (fun z0 => k.1 z0) }
def Z1cg : Con := Zrx Zfy
theorem Z18m (g0 : Zui) (g1 : Zay) : (Zrx (Zz6 g0 g1)).Says Tryz.prog Tryz.f39 (conL [(84, Zz5 g0), (83, Zek g1)]) (pieceL 0 []) .leaf := by
 intro R x y K
 kernel_rfl
theorem Z13f : ConOK Tryz.prog 39 Z1cg :=
 con_o (Z18m Zng Z71) (cons_ok ⟨.inl Z1aq, .inl Zxp, trivial⟩) orcs_0
def Zy1 (f : Zuh) : Con := { args := [], blks := [], shapes := [⟨Int × Int × (List Int) × (List Int) × (List Int) × (List Int) × (List Int) × (List Int), fun r => (.c (.sc (.ptr 0 0 0 0 0)), [(0, ⟨true, [.one (.int .i64 r.1), .one (.int .i64 r.2.1), .ints .i64 r.2.2.1 3, .ints .i64 r.2.2.2.1 3, .ints .i64 r.2.2.2.2.1 3, .ints .i64 r.2.2.2.2.2.1 3, .one (.fn Zf [1]), .ints .u64 r.2.2.2.2.2.2.1 8]⟩), (1, ⟨true, [.one (.ptr 2 0 0 0 0)]⟩), (2, ⟨true, [.ints .u64 r.2.2.2.2.2.2.2 80]⟩)], 3)⟩], F := fun R x y k => f R (fun z0 z1 z2 z3 z4 z5 z6 z7 => k.1 (z0, z1, z2, z3, z4, z5, z6, z7)) }
def Z1cf : Con := Zy1 Znx
theorem Z17s (g0 : Z53) (g1 : Z8s) : (Zy1 (Zyf g0 g1)).Says Tryz.prog Tryz.f167 (conL [(159, Zet g0), (161, Zko g1)]) (pieceL 0 []) .leaf := by
 intro R x y K
 kernel_rfl
theorem Z1ar : ConOK Tryz.prog 167 Z1cf :=
 con_o (Z17s Z3b Z5w) (cons_ok ⟨.inl Zmk, .inl Zti, trivial⟩) orcs_0
def Z1t (f : Z9) : Con := { args := [.sc (.ptr 0 0 0 0 0)], blks := [(false, [.one (.i .i64), .one (.i .i64), .ints .i64 (some 3), .ints .i64 (some 3), .ints .i64 (some 3), .ints .i64 (some 3), .one (.fn Zf [1]), .ints .u64 (some 8)]), (false, [.one (.ptr 2 0 0 0 0)]), (false, [.ints .u64 (some 80)])], shapes := [⟨Int × Int × Int × (List Int) × (List Int) × (List Int) × (List Int) × (List Int) × (List Int), fun r => (.c (.sc (.int .i64 r.1)), [(0, ⟨false, [.one (.int .i64 r.2.1), .one (.int .i64 r.2.2.1), .ints .i64 r.2.2.2.1 3, .ints .i64 r.2.2.2.2.1 3, .ints .i64 r.2.2.2.2.2.1 3, .ints .i64 r.2.2.2.2.2.2.1 3, .one (.fn Zf [1]), .ints .u64 r.2.2.2.2.2.2.2.1 8]⟩), (1, ⟨false, [.one (.ptr 2 0 0 0 0)]⟩), (2, ⟨false, [.ints .u64 r.2.2.2.2.2.2.2.2 80]⟩)], 0)⟩], F := fun R x y k => f R (y.1.1) (y.1.2.1) (y.1.2.2.1) (y.1.2.2.2.1) (y.1.2.2.2.2.1) (y.1.2.2.2.2.2.1) (y.1.2.2.2.2.2.2.2.1) (y.2.2.1.1) (fun z0 z1 z2 z3 z4 z5 z6 z7 z8 => k.1 (z0, z1, z2, z3, z4, z5, z6, z7, z8)) }
def Zvt : Con := Z1t Z2
theorem Zpr : (Z1t (Zbn)).Says Tryz.prog Tryz.f204 (conL []) (pieceL 3 []) .leaf := by
 intro R x y K
 kernel_rfl
theorem Z2q : ConOK Tryz.prog 204 Zvt :=
 con_o (Zpr) (cons_ok trivial) orcs_0
def Z7c (f : Z3j) : Con := { args := [.sc (.ptr 0 0 0 0 0), .sc (.i .u64), .sc (.i .i64)], blks := [(false, [.one (.i .i64), .one (.i .i64), .ints .i64 (some 3), .ints .i64 (some 3), .ints .i64 (some 3), .ints .i64 (some 3), .one (.fn Zf [1]), .ints .u64 (some 8)]), (false, [.one (.ptr 2 0 0 0 0)]), (false, [.ints .u64 (some 80)])], shapes := [⟨Int × Int × Int × (List Int) × (List Int) × (List Int) × (List Int) × (List Int) × (List Int), fun r => (.c (.sc (.int .u64 r.1)), [(0, ⟨false, [.one (.int .i64 r.2.1), .one (.int .i64 r.2.2.1), .ints .i64 r.2.2.2.1 3, .ints .i64 r.2.2.2.2.1 3, .ints .i64 r.2.2.2.2.2.1 3, .ints .i64 r.2.2.2.2.2.2.1 3, .one (.fn Zf [1]), .ints .u64 r.2.2.2.2.2.2.2.1 8]⟩), (1, ⟨false, [.one (.ptr 2 0 0 0 0)]⟩), (2, ⟨false, [.ints .u64 r.2.2.2.2.2.2.2.2 80]⟩)], 0)⟩], F := fun R x y k => f R (x.2.1) (x.2.2.1) (y.1.1) (y.1.2.1) (y.1.2.2.1) (y.1.2.2.2.1) (y.1.2.2.2.2.1) (y.1.2.2.2.2.2.1) (y.1.2.2.2.2.2.2.2.1) (y.2.2.1.1) (fun z0 z1 z2 z3 z4 z5 z6 z7 z8 => k.1 (z0, z1, z2, z3, z4, z5, z6, z7, z8)) }
def Zxx : Con := Z7c Z2t
theorem Zqe : (Z7c (Zc2)).Says Tryz.prog Tryz.f249 (conL []) (pieceL 3 []) (.node .leaf (.node (.draw [⟨0, false, [], []⟩, ⟨1, false, [], []⟩, ⟨2, false, [], [0, 1]⟩, ⟨3, false, [], []⟩, ⟨4, false, [], []⟩, ⟨5, false, [], [4]⟩, ⟨6, false, [0], [4, 5]⟩, ⟨7, false, [0], [4, 5, 6]⟩, ⟨8, false, [], []⟩, ⟨9, false, [], [4, 5, 6, 7, 8]⟩, ⟨10, false, [], [3, 4, 5, 6, 7, 8, 9]⟩, ⟨11, false, [], [0, 1, 2, 3, 4, 5, 6, 7, 8, 9, 10]⟩, ⟨12, false, [], [0, 1, 2, 3, 4, 5, 6, 7, 8, 9, 10, 11]⟩]) .leaf)) := by
 intro R x y K
 kernel_rfl
theorem Zhj : ConOK Tryz.prog 249 Zxx :=
 con_o (Zqe) (cons_ok trivial) orcs_0
def Z3h (f : Zr) : Con := { args := [.sc (.ptr 0 0 0 0 0), .sc (.i .u64), .agg [.ints .i64 (some 3)]], blks := [(false, [.one (.i .i64), .one (.i .i64), .ints .i64 (some 3), .ints .i64 (some 3), .ints .i64 (some 3), .ints .i64 (some 3), .one (.fn Zf [1]), .ints .u64 (some 8)]), (false, [.one (.ptr 2 0 0 0 0)]), (false, [.ints .u64 (some 80)])], shapes := [⟨Int × Int × Int × (List Int) × (List Int) × (List Int) × (List Int) × (List Int) × (List Int), fun r => (.c (.sc (.int .u64 r.1)), [(0, ⟨false, [.one (.int .i64 r.2.1), .one (.int .i64 r.2.2.1), .ints .i64 r.2.2.2.1 3, .ints .i64 r.2.2.2.2.1 3, .ints .i64 r.2.2.2.2.2.1 3, .ints .i64 r.2.2.2.2.2.2.1 3, .one (.fn Zf [1]), .ints .u64 r.2.2.2.2.2.2.2.1 8]⟩), (1, ⟨false, [.one (.ptr 2 0 0 0 0)]⟩), (2, ⟨false, [.ints .u64 r.2.2.2.2.2.2.2.2 80]⟩)], 0)⟩], F := fun R x y k => f R (x.2.1) (x.2.2.1.1) (y.1.1) (y.1.2.1) (y.1.2.2.1) (y.1.2.2.2.1) (y.1.2.2.2.2.1) (y.1.2.2.2.2.2.1) (y.1.2.2.2.2.2.2.2.1) (y.2.2.1.1) (fun z0 z1 z2 z3 z4 z5 z6 z7 z8 => k.1 (z0, z1, z2, z3, z4, z5, z6, z7, z8)) }
def Zzg : Con := Z3h Zh
theorem Zs1 (g0 : Z3j) : (Z3h (Zce g0)).Says Tryz.prog Tryz.f248 (conL [(249, Z7c g0)]) (pieceL 3 []) (.node .leaf (.node (.draw [⟨0, false, [], []⟩, ⟨1, false, [], []⟩, ⟨2, false, [3], []⟩, ⟨3, false, [3], [2]⟩, ⟨5, false, [], []⟩, ⟨6, false, [], []⟩, ⟨7, false, [3], []⟩, ⟨8, false, [3], [7]⟩, ⟨11, false, [], []⟩, ⟨12, false, [3], []⟩, ⟨13, false, [3], [12]⟩, ⟨14, false, [], [11, 12, 13]⟩, ⟨4, true, [0, 1, 2], [0, 1, 2, 3]⟩, ⟨9, true, [0, 1, 2], [0, 1, 2, 3, 4, 5, 6, 7, 8]⟩, ⟨10, false, [], [0, 1, 2, 3, 4, 5, 6, 7, 8, 9]⟩, ⟨15, false, [], [0, 1, 2, 3, 4, 5, 6, 7, 8, 9, 10, 11, 12, 13, 14]⟩, ⟨16, false, [], [0, 1, 2, 3, 4, 5, 6, 7, 8, 9, 10, 11, 12, 13, 14, 15]⟩]) .leaf)) := by
 intro R x y K
 kernel_rfl
theorem Z6y : ConOK Tryz.prog 248 Zzg :=
 con_o (Zs1 Z2t) (cons_ok ⟨.inl Zhj, trivial⟩) orcs_0
theorem Znu (g0 : Zr) : (Z48 g0).Loops Tryz.prog 88 3 (conL [(248, Z3h g0)]) (pieceL 3 []) (fsub Tryz.f229 [1, 1, 1, 0, 1, 0, 0, 1, 1, 0, 0, 1, 0, 1, 0, 0, 1, 0, 0]) (.node .leaf (.node .leaf (.node (.node (.node .leaf (.draw [⟨0, false, [], []⟩, ⟨1, false, [], []⟩, ⟨2, false, [], []⟩, ⟨3, false, [], []⟩, ⟨4, false, [3], [2, 3]⟩, ⟨5, false, [3], [2, 3, 4]⟩, ⟨6, false, [], [2, 3, 4, 5]⟩, ⟨7, false, [], []⟩, ⟨8, false, [], []⟩, ⟨9, false, [], []⟩, ⟨10, false, [], [8, 9]⟩, ⟨11, false, [], []⟩, ⟨12, false, [], [8, 9, 10, 11]⟩, ⟨13, false, [], [7, 8, 9, 10, 11, 12]⟩, ⟨14, false, [], [7, 8, 9, 10, 11, 12, 13]⟩, ⟨15, false, [], [2, 3, 4, 5, 6, 7, 8, 9, 10, 11, 12, 13, 14]⟩, ⟨16, false, [3], [0, 1, 2, 3, 4, 5, 6, 7, 8, 9, 10, 11, 12, 13, 14, 15]⟩, ⟨17, true, [3], [0, 1, 2, 3, 4, 5, 6, 7, 8, 9, 10, 11, 12, 13, 14, 15, 16]⟩])) .leaf) .leaf))) [0, 1, 5, 6, 7, 20, 21, 26, 27] [] [0, 1, 5, 6, 20, 21] [] := by
 intro R v next K
 kernel_rfl
theorem Zq3 : OrcOK Tryz.prog 88 3 (.loop (fsub Tryz.f229 [1, 1, 1, 0, 1, 0, 0, 1, 1, 0, 0, 1, 0, 1, 0, 0, 1, 0, 0])) (fun R => pieceG 3 (Z48 Zh) R) :=
 piece_l (Znu Zh) (cons_ok ⟨.inl Z6y, trivial⟩) orcs_0
theorem Zns (g0 : Zr) : (Z68 g0).Joins Tryz.prog 88 3 (conL [(248, Z3h g0)]) (pieceL 3 [(2, Z48 g0)]) (fsub Tryz.f229 [1, 1, 1, 0, 1, 0, 0, 1, 1, 0]) (.node (.node .leaf (.node (.node .leaf (.node (.node (.node .leaf (.node (.orc 2 [0, 1, 5, 6, 7, 20, 21, 26, 27] []) .leaf)) .leaf) .leaf)) (.draw [⟨0, false, [], []⟩, ⟨1, false, [], []⟩, ⟨2, false, [], []⟩, ⟨3, false, [], []⟩, ⟨4, false, [], [3]⟩, ⟨5, false, [3], [2, 3, 4]⟩, ⟨6, false, [3], [2, 3, 4, 5]⟩, ⟨7, false, [], []⟩, ⟨8, false, [], []⟩, ⟨9, false, [], [8]⟩, ⟨10, false, [3], [7, 8, 9]⟩, ⟨11, false, [3], [7, 8, 9, 10]⟩, ⟨12, false, [], [2, 3, 4, 5, 6, 7, 8, 9, 10, 11]⟩, ⟨13, false, [], []⟩, ⟨14, false, [], []⟩, ⟨15, false, [], []⟩, ⟨16, false, [], [15]⟩, ⟨17, false, [3], [14, 15, 16]⟩, ⟨18, false, [3], [14, 15, 16, 17]⟩, ⟨19, false, [], []⟩, ⟨20, false, [], [19]⟩, ⟨21, false, [0], [19, 20]⟩, ⟨22, false, [0], [19, 20, 21]⟩, ⟨25, false, [], []⟩, ⟨26, false, [], []⟩, ⟨27, false, [], []⟩, ⟨28, false, [], [27]⟩, ⟨29, false, [3], [26, 27, 28]⟩, ⟨30, false, [3], [26, 27, 28, 29]⟩, ⟨31, false, [], []⟩, ⟨32, false, [], [31]⟩, ⟨33, false, [0], [31, 32]⟩, ⟨34, false, [0], [31, 32, 33]⟩, ⟨23, true, [0, 1, 2], [13, 14, 15, 16, 17, 18, 19, 20, 21, 22]⟩, ⟨24, false, [], [2, 3, 4, 5, 6, 7, 8, 9, 10, 11, 12, 13, 14, 15, 16, 17, 18, 19, 20, 21, 22, 23]⟩, ⟨35, true, [0, 1, 2], [13, 14, 15, 16, 17, 18, 19, 20, 21, 22, 23, 25, 26, 27, 28, 29, 30, 31, 32, 33, 34]⟩, ⟨36, false, [], [2, 3, 4, 5, 6, 7, 8, 9, 10, 11, 12, 13, 14, 15, 16, 17, 18, 19, 20, 21, 22, 23, 24, 25, 26, 27, 28, 29, 30, 31, 32, 33, 34, 35]⟩, ⟨37, false, [3], [0, 1, 2, 3, 4, 5, 6, 7, 8, 9, 10, 11, 12, 13, 14, 15, 16, 17, 18, 19, 20, 21, 22, 23, 24, 25, 26, 27, 28, 29, 30, 31, 32, 33, 34, 35, 36]⟩, ⟨38, true, [3], [0, 1, 2, 3, 4, 5, 6, 7, 8, 9, 10, 11, 12, 13, 14, 15, 16, 17, 18, 19, 20, 21, 22, 23, 24, 25, 26, 27, 28, 29, 30, 31, 32, 33, 34, 35, 36, 37]⟩]))) .leaf) [0, 1, 5, 6, 20, 21] [] := by
 intro R v next K
 kernel_rfl
theorem Zq0 : OrcOK Tryz.prog 88 3 (fsub Tryz.f229 [1, 1, 1, 0, 1, 0, 0, 1, 1, 0]) (fun R => pieceG 3 (Z68 Zh) R) :=
 piece_j (Zns Zh) (cons_ok ⟨.inl Z6y, trivial⟩) (orcs_1 [(2, [0, 1, 0, 1, 0, 0, 1, 0])] ⟨piece_a Zq3, trivial⟩)
theorem Zno (g0 : Zr) : (Z46 g0).Loops Tryz.prog 88 3 (conL [(248, Z3h g0)]) (pieceL 3 [(1, Z68 g0)]) (fsub Tryz.f229 [1, 1, 1, 0, 1, 0, 0]) (.node .leaf (.node .leaf (.node (.orc 1 [0, 1, 5, 6, 20, 21] []) .leaf))) [0, 1, 5, 6, 20, 21] [] [5] [] := by
 intro R v next K
 kernel_rfl
theorem Zq7 : OrcOK Tryz.prog 88 3 (.loop (fsub Tryz.f229 [1, 1, 1, 0, 1, 0, 0])) (fun R => pieceG 3 (Z46 Zh) R) :=
 piece_l (Zno Zh) (cons_ok ⟨.inl Z6y, trivial⟩) (orcs_1 [(1, [1, 1, 0])] ⟨piece_a Zq0, trivial⟩)
def Z4h (f : Z12) : Con := { args := [.sc (.ptr 0 0 0 0 0), .sc (.s)], blks := [(true, [.one (.i .i64), .one (.i .i64), .ints .i64 (some 3), .ints .i64 (some 3), .ints .i64 (some 3), .ints .i64 (some 3), .one (.fn Zf [1]), .ints .u64 (some 8)]), (false, [.one (.ptr 2 0 0 0 0)]), (true, [.ints .u64 (some 80)])], shapes := [⟨Int × Int × (List Int) × (List Int) × (List Int) × (List Int) × (List Int) × (List Int) × (List Int), fun r => (.c (.sc (.slice 3 1 none none)), [(0, ⟨true, [.one (.int .i64 r.1), .one (.int .i64 r.2.1), .ints .i64 r.2.2.1 3, .ints .i64 r.2.2.2.1 3, .ints .i64 r.2.2.2.2.1 3, .ints .i64 r.2.2.2.2.2.1 3, .one (.fn Zf [1]), .ints .u64 r.2.2.2.2.2.2.1 8]⟩), (1, ⟨false, [.one (.ptr 2 0 0 0 0)]⟩), (2, ⟨true, [.ints .u64 r.2.2.2.2.2.2.2.1 80]⟩), (3, ⟨true, [.ints .u64 r.2.2.2.2.2.2.2.2 r.2.2.2.2.2.2.2.2.length]⟩)], 1)⟩], F := fun R x y k => f R (x.2.1) (y.1.1) (y.1.2.1) (y.1.2.2.1) (y.1.2.2.2.1) (y.1.2.2.2.2.1) (y.1.2.2.2.2.2.1) (y.1.2.2.2.2.2.2.2.1) (y.2.2.1.1) (fun z0 z1 z2 z3 z4 z5 z6 z7 z8 => k.1 (z0, z1, z2, z3, z4, z5, z6, z7, z8)) }
def Zvp : Con := Z4h Zm
theorem Zpp (g0 : Zr) : (Z4h (Zbj g0)).Says Tryz.prog Tryz.f229 (conL [(248, Z3h g0)]) (pieceL 3 [(0, Z46 g0)]) (.node .leaf (.node .leaf (.node .leaf (.node (.node .leaf (.node (.orc 0 [0, 1, 5, 6, 20, 21] []) .leaf)) .leaf)))) := by
 intro R x y K
 kernel_rfl
theorem Z9i : ConOK Tryz.prog 229 Zvp :=
 con_o (Zpp Zh) (cons_ok ⟨.inl Z6y, trivial⟩) (orcs_1 [(0, [1, 1, 1, 0, 1, 0])] ⟨piece_a Zq7, trivial⟩)
def Z4g (f : Z14) : Con := { args := [.sc (.ptr 0 0 0 0 0), .sc (.i .u64), .agg [.ints .i64 (some 3)]], blks := [(false, [.one (.i .i64), .one (.i .i64), .ints .i64 (some 3), .ints .i64 (some 3), .ints .i64 (some 3), .ints .i64 (some 3), .one (.fn Zf [1]), .ints .u64 (some 8)]), (false, [.one (.ptr 2 0 0 0 0)]), (false, [.ints .u64 (some 80)])], shapes := [⟨Int × Int × Int × (List Int) × (List Int) × (List Int) × (List Int) × (List Int) × (List Int), fun r => (.c (.sc (.int .u64 r.1)), [(0, ⟨false, [.one (.int .i64 r.2.1), .one (.int .i64 r.2.2.1), .ints .i64 r.2.2.2.1 3, .ints .i64 r.2.2.2.2.1 3, .ints .i64 r.2.2.2.2.2.1 3, .ints .i64 r.2.2.2.2.2.2.1 3, .one (.fn Zf [1]), .ints .u64 r.2.2.2.2.2.2.2.1 8]⟩), (1, ⟨false, [.one (.ptr 2 0 0 0 0)]⟩), (2, ⟨false, [.ints .u64 r.2.2.2.2.2.2.2.2 80]⟩)], 0)⟩], F := fun R x y k => f R (x.2.1) (x.2.2.1.1) (y.1.1) (y.1.2.1) (y.1.2.2.1) (y.1.2.2.2.1) (y.1.2.2.2.2.1) (y.1.2.2.2.2.2.1) (y.1.2.2.2.2.2.2.2.1) (y.2.2.1.1) (fun z0 z1 z2 z3 z4 z5 z6 z7 z8 => k.1 (z0, z1, z2, z3, z4, z5, z6, z7, z8)) }
def Zws : Con := Z4g Zn
theorem Zpo (g0 : Z3j) : (Z4g (Zbb g0)).Says Tryz.prog Tryz.f230 (conL [(249, Z7c g0)]) (pieceL 3 []) (.node .leaf (.node (.draw [⟨0, false, [], []⟩, ⟨1, false, [], []⟩, ⟨2, false, [3], []⟩, ⟨3, false, [3], [2]⟩, ⟨5, false, [], []⟩, ⟨6, false, [], []⟩, ⟨7, false, [3], []⟩, ⟨8, false, [3], [7]⟩, ⟨11, false, [], []⟩, ⟨12, false, [], []⟩, ⟨13, false, [3], []⟩, ⟨14, false, [3], [13]⟩, ⟨4, true, [0, 1, 2], [0, 1, 2, 3]⟩, ⟨9, true, [0, 1, 2], [0, 1, 2, 3, 4, 5, 6, 7, 8]⟩, ⟨10, false, [], [0, 1, 2, 3, 4, 5, 6, 7, 8, 9]⟩, ⟨15, true, [0, 1, 2], [0, 1, 2, 3, 4, 5, 6, 7, 8, 9, 11, 12, 13, 14]⟩, ⟨16, false, [], [0, 1, 2, 3, 4, 5, 6, 7, 8, 9, 10, 11, 12, 13, 14, 15]⟩, ⟨17, false, [], [0, 1, 2, 3, 4, 5, 6, 7, 8, 9, 10, 11, 12, 13, 14, 15, 16]⟩]) .leaf)) := by
 intro R x y K
 kernel_rfl
theorem Z9p : ConOK Tryz.prog 230 Zws :=
 con_o (Zpo Z2t) (cons_ok ⟨.inl Zhj, trivial⟩) orcs_0
def Zbi (f : Z29) : Con := { args := [.sc (.i .i64), .sc (.ptr 0 0 0 0 0)], blks := [(false, [.one (.ptr 1 0 0 0 0)]), (false, [.ints .u64 (some 80)])], shapes := [⟨Int × (List Int), fun r => (.c (.sc (.int .u64 r.1)), [(0, ⟨false, [.one (.ptr 1 0 0 0 0)]⟩), (1, ⟨false, [.ints .u64 r.2 80]⟩)], 0)⟩], F := fun R x y k => f R (x.1) (y.2.1.1) (fun z0 z1 => k.1 (z0, z1)) }
def Z16y : Con := Zbi Z1k
theorem Z111 : (Zbi (Zkn)).Says Tryz.prog Tryz.f206 (conL []) (pieceL 2 []) .leaf := by
 intro R x y K
 kernel_rfl
theorem Zhv : ConOK Tryz.prog 206 Z16y :=
 con_o (Z111) (cons_ok trivial) orcs_0
theorem Znw (g0 : Z12) (g1 : Z14) (g2 : Z29) : (Z47 g0 g1 g2).Loops Tryz.prog 116 3 (conL [(229, Z4h g0), (230, Z4g g1), (206, Zbi g2)]) (pieceL 3 []) (fsub Tryz.f205 [1, 1, 0, 1, 0, 0]) (.node .leaf (.node .leaf (.node (.node (.node .leaf (.node (.draw [⟨0, false, [5], []⟩, ⟨1, false, [5], [0]⟩, ⟨2, false, [5], []⟩, ⟨3, false, [5], [2]⟩, ⟨4, false, [], [0, 1]⟩, ⟨5, false, [], [0, 1, 2, 3, 4]⟩]) (.node (.draw [⟨0, false, [5], []⟩, ⟨1, false, [5], [0]⟩, ⟨2, false, [], []⟩, ⟨3, false, [], []⟩, ⟨4, false, [], []⟩, ⟨5, false, [], [4]⟩, ⟨6, false, [0], [4, 5]⟩, ⟨7, false, [0], [4, 5, 6]⟩, ⟨10, false, [], []⟩, ⟨11, false, [5], []⟩, ⟨12, false, [5], [11]⟩, ⟨13, false, [], [10, 11, 12]⟩, ⟨14, false, [], []⟩, ⟨15, false, [], [14]⟩, ⟨16, false, [5], []⟩, ⟨17, false, [5], [16]⟩, ⟨18, false, [], [14, 15, 16, 17]⟩, ⟨19, false, [], [10, 11, 12, 13, 14, 15, 16, 17, 18]⟩, ⟨21, false, [], []⟩, ⟨22, false, [], [21]⟩, ⟨23, false, [0], [21, 22]⟩, ⟨24, false, [0], [21, 22, 23]⟩, ⟨25, false, [], []⟩, ⟨28, false, [], []⟩, ⟨8, true, [0, 1, 2], [2, 3, 4, 5, 6, 7]⟩, ⟨9, false, [], [0, 1, 2, 3, 4, 5, 6, 7, 8]⟩, ⟨20, false, [], [0, 1, 2, 3, 4, 5, 6, 7, 8, 9, 10, 11, 12, 13, 14, 15, 16, 17, 18, 19]⟩, ⟨26, true, [1, 2], [2, 3, 4, 5, 6, 7, 8, 21, 22, 23, 24, 25]⟩, ⟨27, false, [], [0, 1, 2, 3, 4, 5, 6, 7, 8, 9, 10, 11, 12, 13, 14, 15, 16, 17, 18, 19, 20, 21, 22, 23, 24, 25, 26]⟩, ⟨29, false, [], [0, 1, 2, 3, 4, 5, 6, 7, 8, 9, 10, 11, 12, 13, 14, 15, 16, 17, 18, 19, 20, 21, 22, 23, 24, 25, 26, 27, 28]⟩, ⟨30, false, [], [0, 1, 2, 3, 4, 5, 6, 7, 8, 9, 10, 11, 12, 13, 14, 15, 16, 17, 18, 19, 20, 21, 22, 23, 24, 25, 26, 27, 28, 29]⟩]) (.node (.draw [⟨0, false, [], []⟩, ⟨1, false, [], []⟩, ⟨2, false, [], []⟩, ⟨3, false, [], [2]⟩, ⟨4, false, [0], [2, 3]⟩, ⟨5, false, [0], [2, 3, 4]⟩, ⟨7, false, [], []⟩, ⟨8, false, [5], []⟩, ⟨9, false, [5], [8]⟩, ⟨10, false, [], [7, 8, 9]⟩, ⟨11, false, [], []⟩, ⟨12, false, [5], []⟩, ⟨13, false, [5], [12]⟩, ⟨14, false, [], [11, 12, 13]⟩, ⟨15, false, [], [7, 8, 9, 10, 11, 12, 13, 14]⟩, ⟨16, false, [5], []⟩, ⟨17, false, [5], [16]⟩, ⟨18, false, [5], []⟩, ⟨19, false, [5], [18]⟩, ⟨20, false, [], [16, 17, 18, 19]⟩, ⟨21, false, [], [7, 8, 9, 10, 11, 12, 13, 14, 15, 16, 17, 18, 19, 20]⟩, ⟨6, true, [0, 1, 2], [0, 1, 2, 3, 4, 5]⟩, ⟨22, false, [], [0, 1, 2, 3, 4, 5, 6, 7, 8, 9, 10, 11, 12, 13, 14, 15, 16, 17, 18, 19, 20, 21]⟩, ⟨23, false, [], [0, 1, 2, 3, 4, 5, 6, 7, 8, 9, 10, 11, 12, 13, 14, 15, 16, 17, 18, 19, 20, 21, 22]⟩]) .leaf)))) .leaf) .leaf))) [0, 4, 6, 7, 18, 19, 20] [] [4, 6, 7] [] := by
 intro R v next K
 kernel_rfl
theorem Zpu : OrcOK Tryz.prog 116 3 (.loop (fsub Tryz.f205 [1, 1, 0, 1, 0, 0])) (fun R => pieceG 3 (Z47 Zm Zn Z1k) R) :=
 piece_l (Znw Zm Zn Z1k) (cons_ok ⟨.inl Z9i, .inl Z9p, .inl Zhv, trivial⟩) orcs_0
theorem Znt (g0 : Z12) (g1 : Z14) (g2 : Z29) : (Z44 g0 g1 g2).Loops Tryz.prog 116 3 (conL [(229, Z4h g0), (230, Z4g g1), (206, Zbi g2)]) (pieceL 3 []) (fsub Tryz.f205 [1, 1, 1, 0, 1, 0, 0]) (.node .leaf (.node .leaf (.node (.node (.node .leaf (.draw [⟨0, false, [], []⟩, ⟨1, false, [3], [0]⟩, ⟨2, false, [3], [0, 1]⟩, ⟨3, false, [], []⟩, ⟨4, false, [5], [3]⟩, ⟨5, false, [5], [3, 4]⟩, ⟨6, false, [], [0, 1, 2, 3, 4, 5]⟩, ⟨7, false, [3], [0, 1, 2, 3, 4, 5, 6]⟩, ⟨8, true, [3], [0, 1, 2, 3, 4, 5, 6, 7]⟩])) .leaf) .leaf))) [4, 6, 7, 103] [] [4, 6] [] := by
 intro R v next K
 kernel_rfl
theorem Zpl : OrcOK Tryz.prog 116 3 (.loop (fsub Tryz.f205 [1, 1, 1, 0, 1, 0, 0])) (fun R => pieceG 3 (Z44 Zm Zn Z1k) R) :=
 piece_l (Znt Zm Zn Z1k) (cons_ok ⟨.inl Z9i, .inl Z9p, .inl Zhv, trivial⟩) orcs_0
def Z1r (f : Z8) : Con := { args := [.sc (.ptr 0 0 0 0 0), .agg [.ints .u64 (some 8)], .sc (.s)], blks := [(true, [.one (.i .i64), .one (.i .i64), .ints .i64 (some 3), .ints .i64 (some 3), .ints .i64 (some 3), .ints .i64 (some 3), .one (.fn Zf [1]), .ints .u64 (some 8)]), (false, [.one (.ptr 2 0 0 0 0)]), (true, [.ints .u64 (some 80)])], shapes := [⟨(List Int) × Int × Int × (List Int) × (List Int) × (List Int) × (List Int) × (List Int) × (List Int), fun r => (.c (.agg [.ints .u64 r.1 8]), [(0, ⟨true, [.one (.int .i64 r.2.1), .one (.int .i64 r.2.2.1), .ints .i64 r.2.2.2.1 3, .ints .i64 r.2.2.2.2.1 3, .ints .i64 r.2.2.2.2.2.1 3, .ints .i64 r.2.2.2.2.2.2.1 3, .one (.fn Zf [1]), .ints .u64 r.2.2.2.2.2.2.2.1 8]⟩), (1, ⟨false, [.one (.ptr 2 0 0 0 0)]⟩), (2, ⟨true, [.ints .u64 r.2.2.2.2.2.2.2.2 80]⟩)], 0)⟩], F := fun R x y k => f R (x.2.1.1) (x.2.2.1) (y.1.1) (y.1.2.1) (y.1.2.2.1) (y.1.2.2.2.1) (y.1.2.2.2.2.1) (y.1.2.2.2.2.2.1) (y.1.2.2.2.2.2.2.2.1) (y.2.2.1.1) (fun z0 z1 z2 z3 z4 z5 z6 z7 z8 => k.1 (z0, z1, z2, z3, z4, z5, z6, z7, z8)) }
def Zwb : Con := Z1r Z3
theorem Zps (g0 : Z12) (g1 : Z14) (g2 : Z29) : (Z1r (Zb5 g0 g1 g2)).Says Tryz.prog Tryz.f205 (conL [(229, Z4h g0), (230, Z4g g1), (206, Zbi g2)]) (pieceL 3 [(0, Z47 g0 g1 g2), (1, Z44 g0 g1 g2)]) (.node .leaf (.node .leaf (.node (.node .leaf (.node (.orc 0 [0, 4, 6, 7, 18, 19, 20] []) .leaf)) (.node (.node .leaf (.node (.orc 1 [4, 6, 7, 103] []) .leaf)) .leaf)))) := by
 intro R x y K
 kernel_rfl
theorem Z2o : ConOK Tryz.prog 205 Zwb :=
 con_o (Zps Zm Zn Z1k) (cons_ok ⟨.inl Z9i, .inl Z9p, .inl Zhv, trivial⟩) (orcs_1 [(0, [1, 1, 0, 1, 0]), (1, [1, 1, 1, 0, 1, 0])] ⟨piece_a Zpu, piece_a Zpl, trivial⟩)
theorem Zsi (g0 : Z9) (g1 : Z8) : (Z5i g0 g1).Loops Tryz.prog 100 3 (conL [(204, Z1t g0), (205, Z1r g1)]) (pieceL 3 []) (fsub Tryz.f166 [1, 1, 1, 0, 0, 0]) (.node (.node (.draw [⟨0, false, [], []⟩, ⟨1, false, [3], [0]⟩, ⟨2, false, [], []⟩, ⟨3, false, [], [2]⟩, ⟨4, false, [0], [2, 3]⟩, ⟨5, false, [0], [2, 3, 4]⟩, ⟨6, false, [], [2, 3, 4, 5]⟩, ⟨7, false, [], [0, 1, 2, 3, 4, 5, 6]⟩, ⟨8, false, [], []⟩, ⟨9, true, [0, 1, 2], [8]⟩, ⟨10, false, [], [0, 1, 2, 3, 4, 5, 6, 7, 8, 9]⟩, ⟨11, false, [], [0, 1, 2, 3, 4, 5, 6, 7, 8, 9, 10]⟩]) .leaf) .leaf) [0, 1, 5] [] [0, 1, 5] [] := by
 intro R v next K
 kernel_rfl
theorem Zvc : OrcOK Tryz.prog 100 3 (.loop (fsub Tryz.f166 [1, 1, 1, 0, 0, 0])) (fun R => pieceG 3 (Z5i Z2 Z3) R) :=
 piece_l (Zsi Z2 Z3) (cons_ok ⟨.inl Z2q, .inl Z2o, trivial⟩) orcs_0
theorem Zs5 (g0 : Z9) (g1 : Z8) : (Z5n g0 g1).Loops Tryz.prog 100 3 (conL [(204, Z1t g0), (205, Z1r g1)]) (pieceL 3 []) (fsub Tryz.f166 [1, 1, 1, 1, 0, 1, 0, 0]) .leaf [0, 1, 5, 6] [] [0, 5] [] := by
 intro R v next K
 kernel_rfl
theorem Zv2 : OrcOK Tryz.prog 100 3 (.loop (fsub Tryz.f166 [1, 1, 1, 1, 0, 1, 0, 0])) (fun R => pieceG 3 (Z5n Z2 Z3) R) :=
 piece_l (Zs5 Z2 Z3) (cons_ok ⟨.inl Z2q, .inl Z2o, trivial⟩) orcs_0
theorem Zsc (g0 : Z9) (g1 : Z8) : (Z5v g0 g1).Loops Tryz.prog 100 3 (conL [(204, Z1t g0), (205, Z1r g1)]) (pieceL 3 []) (fsub Tryz.f166 [1, 1, 1, 1, 1, 1, 0, 1, 0, 0]) (.node .leaf (.node (.node (.draw [⟨0, false, [], []⟩, ⟨1, false, [4], []⟩, ⟨2, false, [], []⟩, ⟨3, false, [], []⟩, ⟨4, false, [], []⟩, ⟨5, false, [], []⟩, ⟨6, true, [0, 1, 2], [5]⟩, ⟨7, false, [], [4, 5, 6]⟩, ⟨8, false, [3], [2, 3, 4, 5, 6, 7]⟩, ⟨9, false, [3], [2, 3, 4, 5, 6, 7, 8]⟩, ⟨10, true, [0, 1, 2], [0, 1, 2, 3, 4, 5, 6, 7, 8, 9]⟩, ⟨11, true, [4], [0, 1, 2, 3, 4, 5, 6, 7, 8, 9, 10]⟩]) .leaf) .leaf)) [0, 5, 7, 8] [] [0, 7] [] := by
 intro R v next K
 kernel_rfl
theorem Zv1 : OrcOK Tryz.prog 100 3 (.loop (fsub Tryz.f166 [1, 1, 1, 1, 1, 1, 0, 1, 0, 0])) (fun R => pieceG 3 (Z5v Z2 Z3) R) :=
 piece_l (Zsc Z2 Z3) (cons_ok ⟨.inl Z2q, .inl Z2o, trivial⟩) orcs_0
theorem Zse (g0 : Z9) (g1 : Z8) : (Z5s g0 g1).Loops Tryz.prog 100 3 (conL [(204, Z1t g0), (205, Z1r g1)]) (pieceL 3 []) (fsub Tryz.f166 [1, 1, 1, 1, 1, 1, 1, 1, 0, 1, 0, 0, 1, 1, 0, 0, 1, 1, 0, 0]) .leaf [0, 9, 11, 12, 77, 78] [] [0, 9, 77, 78] [] := by
 intro R v next K
 kernel_rfl
theorem Zvj : OrcOK Tryz.prog 100 3 (.loop (fsub Tryz.f166 [1, 1, 1, 1, 1, 1, 1, 1, 0, 1, 0, 0, 1, 1, 0, 0, 1, 1, 0, 0])) (fun R => pieceG 3 (Z5s Z2 Z3) R) :=
 piece_l (Zse Z2 Z3) (cons_ok ⟨.inl Z2q, .inl Z2o, trivial⟩) orcs_0
theorem Zs6 (g0 : Z9) (g1 : Z8) : (Z5p g0 g1).Loops Tryz.prog 100 3 (conL [(204, Z1t g0), (205, Z1r g1)]) (pieceL 3 [(4, Z5s g0 g1)]) (fsub Tryz.f166 [1, 1, 1, 1, 1, 1, 1, 1, 0, 1, 0, 0]) (.node .leaf (.node .leaf (.node (.node (.node .leaf (.node .leaf (.node (.orc 4 [0, 9, 11, 12, 77, 78] []) .leaf))) .leaf) .leaf))) [0, 9, 77, 78] [(9, .bytes [] 0)] [9] [] := by
 intro R v next K
 kernel_rfl
theorem Zuw : OrcOK Tryz.prog 100 3 (.loop (fsub Tryz.f166 [1, 1, 1, 1, 1, 1, 1, 1, 0, 1, 0, 0])) (fun R => pieceG 3 (Z5p Z2 Z3) R) :=
 piece_l (Zs6 Z2 Z3) (cons_ok ⟨.inl Z2q, .inl Z2o, trivial⟩) (orcs_1 [(4, [1, 1, 0, 0, 1, 1, 0])] ⟨piece_a Zvj, trivial⟩)
def Zee (f : Zaq) : Con := { args := [.sc (.ptr 0 0 0 0 0), .sc (.s)], blks := [(true, [.one (.i .i64), .one (.i .i64), .ints .i64 (some 3), .ints .i64 (some 3), .ints .i64 (some 3), .ints .i64 (some 3), .one (.fn Zf [1]), .ints .u64 (some 8)]), (false, [.one (.ptr 2 0 0 0 0)]), (true, [.ints .u64 (some 80)])], shapes := [⟨Str × Int × Int × (List Int) × (List Int) × (List Int) × (List Int) × (List Int) × (List Int), fun r => (.c (.sc (.str r.1)), [(0, ⟨true, [.one (.int .i64 r.2.1), .one (.int .i64 r.2.2.1), .ints .i64 r.2.2.2.1 3, .ints .i64 r.2.2.2.2.1 3, .ints .i64 r.2.2.2.2.2.1 3, .ints .i64 r.2.2.2.2.2.2.1 3, .one (.fn Zf [1]), .ints .u64 r.2.2.2.2.2.2.2.1 8]⟩), (1, ⟨false, [.one (.ptr 2 0 0 0 0)]⟩), (2, ⟨true, [.ints .u64 r.2.2.2.2.2.2.2.2 80]⟩)], 0)⟩], F := fun R x y k => f R (x.2.1) (y.1.1) (y.1.2.1) (y.1.2.2.1) (y.1.2.2.2.1) (y.1.2.2.2.2.1) (y.1.2.2.2.2.2.1) (y.1.2.2.2.2.2.2.2.1) (y.2.2.1.1) (fun z0 z1 z2 z3 z4 z5 z6 z7 z8 => k.1 (z0, z1, z2, z3, z4, z5, z6, z7, z8)) }
def Z116 : Con := Zee Z70
theorem Zul (g0 : Z9) (g1 : Z8) : (Zee (Zed g0 g1)).Says Tryz.prog Tryz.f166 (conL [(204, Z1t g0), (205, Z1r g1)]) (pieceL 3 [(0, Z5i g0 g1), (1, Z5n g0 g1), (2, Z5v g0 g1), (3, Z5p g0 g1)]) (.node .leaf (.node .leaf (.node .leaf (.node (.node (.orc 0 [0, 1, 5] []) .leaf) (.node (.node .leaf (.node (.orc 1 [0, 1, 5, 6] []) .leaf)) (.node .leaf (.node (.node .leaf (.node (.orc 2 [0, 5, 7, 8] []) .leaf)) (.node .leaf (.node (.node .leaf (.node (.orc 3 [0, 9, 77, 78] [(9, .bytes [] 0)]) .leaf)) .leaf))))))))) := by
 intro R x y K
 kernel_rfl
theorem Zxv : ConOK Tryz.prog 166 Z116 :=
 con_o (Zul Z2 Z3) (cons_ok ⟨.inl Z2q, .inl Z2o, trivial⟩) (orcs_1 [(0, [1, 1, 1, 0, 0]), (1, [1, 1, 1, 1, 0, 1, 0]), (2, [1, 1, 1, 1, 1, 1, 0, 1, 0]), (3, [1, 1, 1, 1, 1, 1, 1, 1, 0, 1, 0])] ⟨piece_a Zvc, piece_a Zv2, piece_a Zv1, piece_a Zuw, trivial⟩)
def Zqt (f : Zj4) : Con := { args := [.sc (.s)], blks := [], shapes := [⟨Str, fun r => (.c (.sc (.str r)), [], 0)⟩], F := fun R x y k => f R (x.1) (fun z0 => k.1 z0) }
def Z1ci : Con := Zqt Zfw
theorem Z17m (g0 : Zuh) (g1 : Zaq) : (Zqt (Zz9 g0 g1)).Says Tryz.prog Tryz.f95 (conL [(167, Zy1 g0), (166, Zee g1)]) (pieceL 0 []) .leaf := by
 intro R x y K
 kernel_rfl
theorem Z139 : ConOK Tryz.prog 95 Z1ci :=
 con_o (Z17m Znx Z70) (cons_ok ⟨.inl Z1ar, .inl Zxv, trivial⟩) orcs_0
def Zf0 (f : Z54) : Con := { args := [.sc (.ptr 0 0 0 0 0)], blks := [(false, [.one (.i .i64), .one (.sl 1 1 none)]), (false, [.bytes none])], shapes := [⟨Str × Int × Str, fun r => (.c (.sc (.str r.1)), [(0, ⟨false, [.one (.int .i64 r.2.1), .one (.slice 1 1 none none)]⟩), (1, ⟨false, [.bytes r.2.2 r.2.2.length]⟩)], 0)⟩], F := fun R x y k => f R (y.1.1) (y.2.1.1) (fun z0 z1 z2 => k.1 (z0, z1, z2)) }
def Z17a : Con := Zf0 Z38
theorem Z11r (g0 : Zjb) (g1 : Zj4) : (Zf0 (Zlb g0 g1)).Says Tryz.prog Tryz.f132 (conL [(39, Zrx g0), (95, Zqt g1)]) (pieceL 2 []) .leaf := by
 intro R x y K
 kernel_rfl
theorem Zrs : ConOK Tryz.prog 132 Z17a :=
 con_o (Z11r Zfy Zfw) (cons_ok ⟨.inl Z13f, .inl Z139, trivial⟩) orcs_0
end
noncomputable section
open Go.Proofs
theorem Z16d : (Zj2).Loops Tryz.prog 19 0 (conL []) (pieceL 0 []) (fsub Tryz.f187 [1, 1, 0, 1, 0, 0]) .leaf [0, 3, 5] [] [3] [] := by
 intro R v next K
 kernel_rfl
theorem Z187 : OrcOK Tryz.prog 19 0 (.loop (fsub Tryz.f187 [1, 1, 0, 1, 0, 0])) (fun R => pieceG 0 (Zj2) R) :=
 piece_l (Z16d) (cons_ok trivial) orcs_0
def Zzu (f : Zuj) : Con := { args := [.sc (.s)], blks := [], shapes := [⟨Int, fun r => (.c (.sc (.int .u64 r)), [], 0)⟩], F := fun R x y k => f R (x.1) (fun z0 => k.1 z0) }
def Z1cd : Con := Zzu Znp
theorem Z17z : (Zzu (Zzl)).Says Tryz.prog Tryz.f187 (conL []) (pieceL 0 [(0, Zj2)]) (.node .leaf (.node .leaf (.node (.node .leaf (.node (.orc 0 [0, 3, 5] []) .leaf)) .leaf))) := by
 intro R x y K
 kernel_rfl
theorem Z1al : ConOK Tryz.prog 187 Z1cd :=
 con_o (Z17z) (cons_ok trivial) (orcs_1 [(0, [1, 1, 0, 1, 0])] ⟨piece_a Z187, trivial⟩)
theorem Z12e : (Zdu).Loops Tryz.prog 31 0 (conL []) (pieceL 0 []) (fsub Tryz.f247 [1, 1, 0, 1, 0, 0]) .leaf [1, 2, 3, 5] [] [1, 2, 3] [] := by
 intro R v next K
 kernel_rfl
theorem Z156 : OrcOK Tryz.prog 31 0 (.loop (fsub Tryz.f247 [1, 1, 0, 1, 0, 0])) (fun R => pieceG 0 (Zdu) R) :=
 piece_l (Z12e) (cons_ok trivial) orcs_0
def Zjz (f : Z89) : Con := { args := [.agg [.ints .u64 (some 5)]], blks := [], shapes := [⟨(List Int), fun r => (.c (.agg [.ints .u64 r 5]), [], 0)⟩], F := fun R x y k => f R (x.1.1) (fun z0 => k.1 z0) }
def Z1aj : Con := Zjz Z51
theorem Z15q : (Zjz (Zr8)).Says Tryz.prog Tryz.f247 (conL []) (pieceL 0 [(0, Zdu)]) (.node .leaf (.node .leaf (.node (.node .leaf (.node (.orc 0 [1, 2, 3, 5] []) .leaf)) .leaf))) := by
 intro R x y K
 kernel_rfl
theorem Zx2 : ConOK Tryz.prog 247 Z1aj :=
 con_o (Z15q) (cons_ok trivial) (orcs_1 [(0, [1, 1, 0, 1, 0])] ⟨piece_a Z156, trivial⟩)
theorem Z15w (g0 : Z89) : (Zik g0).Loops Tryz.prog 42 0 (conL [(247, Zjz g0)]) (pieceL 0 []) (fsub Tryz.f226 [1, 1, 1, 1, 0, 1, 0, 0]) (.node .leaf (.node .leaf (.node (.node (.node .leaf (.node (.draw [⟨0, false, [], []⟩, ⟨1, false, [], [0]⟩, ⟨2, false, [2], [0, 1]⟩, ⟨3, false, [2], [0, 1, 2]⟩, ⟨4, false, [], []⟩, ⟨5, false, [2], [4]⟩, ⟨6, false, [2], [4, 5]⟩, ⟨7, false, [], [4, 5, 6]⟩, ⟨8, false, [], [0, 1, 2, 3, 4, 5, 6, 7]⟩, ⟨9, false, [2], [0, 1, 2, 3, 4, 5, 6, 7, 8]⟩, ⟨10, true, [2], [0, 1, 2, 3, 4, 5, 6, 7, 8, 9]⟩]) .leaf)) .leaf) .leaf))) [1, 2, 3, 13] [] [1, 2, 3] [] := by
 intro R v next K
 kernel_rfl
theorem Z186 : OrcOK Tryz.prog 42 0 (.loop (fsub Tryz.f226 [1, 1, 1, 1, 0, 1, 0, 0])) (fun R => pieceG 0 (Zik Z51) R) :=
 piece_l (Z15w Z51) (cons_ok ⟨.inl Zx2, trivial⟩) orcs_0
def Zz4 (f : Zub) : Con := { args := [.agg [.ints .u64 (some 5)]], blks := [], shapes := [⟨(List Int), fun r => (.c (.agg [.ints .u64 r 5]), [], 0)⟩], F := fun R x y k => f R (x.1.1) (fun z0 => k.1 z0) }
def Z1ce : Con := Zz4 Zne
theorem Z17u (g0 : Z89) : (Zz4 (Zy6 g0)).Says Tryz.prog Tryz.f226 (conL [(247, Zjz g0)]) (pieceL 0 [(0, Zik g0)]) (.node .leaf (.node .leaf (.node .leaf (.node .leaf (.node (.node .leaf (.node (.orc 0 [1, 2, 3, 13] []) .leaf)) .leaf))))) := by
 intro R x y K
 kernel_rfl
theorem Z1au : ConOK Tryz.prog 226 Z1ce :=
 con_o (Z17u Z51) (cons_ok ⟨.inl Zx2, trivial⟩) (orcs_1 [(0, [1, 1, 1, 1, 0, 1, 0])] ⟨piece_a Z186, trivial⟩)
def Z2z (f : Zg) : Con := { args := [.agg [.ints .u64 (some 5)]], blks := [], shapes := [⟨(List Int), fun r => (.c (.agg [.ints .u64 r 5]), [], 0)⟩], F := fun R x y k => f R (x.1.1) (fun z0 => k.1 z0) }
def Z1b0 : Con := Z2z Zc
theorem Z16k (g0 : Zub) : (Z2z (Zsz g0)).Says Tryz.prog Tryz.f188 (conL [(226, Zz4 g0)]) (pieceL 0 []) .leaf := by
 intro R x y K
 kernel_rfl
theorem Z35 : ConOK Tryz.prog 188 Z1b0 :=
 con_o (Z16k Zne) (cons_ok ⟨.inl Z1au, trivial⟩) orcs_0
def Zxg (f : Zhs) : Con := { args := [.sc (.s)], blks := [], shapes := [⟨(List Int) × Int, fun r => (.tup [.agg [.ints .u64 r.1 5], .sc (.int .i64 r.2)], [], 0)⟩], F := fun R x y k => f R (x.1) (fun z0 z1 => k.1 (z0, z1)) }
def Z1dd : Con := Zxg Zep
theorem Z1ax (g0 : Zuj) (g1 : Zg) : (Zxg (Z148 g0 g1)).Says Tryz.prog Tryz.f114 (conL [(187, Zzu g0), (188, Z2z g1)]) (pieceL 0 []) (.node .leaf (.node .leaf (.node (.draw [⟨0, false, [], []⟩, ⟨2, false, [], []⟩, ⟨3, false, [], [2]⟩, ⟨5, false, [], []⟩, ⟨6, false, [], [5]⟩, ⟨8, false, [], []⟩, ⟨9, false, [], [8]⟩, ⟨1, true, [], [0]⟩, ⟨4, true, [], [0, 1, 2, 3]⟩, ⟨7, true, [], [0, 1, 2, 3, 4, 5, 6]⟩, ⟨10, true, [], [0, 1, 2, 3, 4, 5, 6, 7, 8, 9]⟩, ⟨11, false, [], [0, 1, 2, 3, 4, 5, 6, 7, 8, 9, 10]⟩, ⟨12, false, [], [0, 1, 2, 3, 4, 5, 6, 7, 8, 9, 10, 11]⟩, ⟨13, false, [], [0, 1, 2, 3, 4, 5, 6, 7, 8, 9, 10, 11, 12]⟩, ⟨14, false, [], [0, 1, 2, 3, 4, 5, 6, 7, 8, 9, 10, 11, 12, 13]⟩]) .leaf))) := by
 intro R x y K
 kernel_rfl
theorem Z16e : ConOK Tryz.prog 114 Z1dd :=
 con_o (Z1ax Znp Zc) (cons_ok ⟨.inl Z1al, .inl Z35, trivial⟩) orcs_0
theorem Zzz : (Zb9).Loops Tryz.prog 30 0 (conL []) (pieceL 0 []) (fsub Tryz.f115 [1, 1, 0, 1, 0, 0]) (.node .leaf (.node .leaf (.node (.node (.node .leaf (.draw [⟨0, false, [], []⟩, ⟨1, false, [], [0]⟩, ⟨2, false, [1], [0, 1]⟩, ⟨3, false, [1], [0, 1, 2]⟩, ⟨4, false, [], []⟩, ⟨5, false, [], [4]⟩, ⟨6, false, [0], []⟩, ⟨7, false, [0], [4, 5, 6]⟩, ⟨8, false, [0], [4, 5, 6, 7]⟩, ⟨9, false, [], []⟩, ⟨10, false, [], [9]⟩, ⟨11, false, [], [4, 5, 6, 7, 8, 9, 10]⟩, ⟨12, false, [], [4, 5, 6, 7, 8, 9, 10, 11]⟩, ⟨13, false, [], [4, 5, 6, 7, 8, 9, 10, 11, 12]⟩, ⟨14, false, [], []⟩, ⟨15, false, [], [14]⟩, ⟨16, false, [], [4, 5, 6, 7, 8, 9, 10, 11, 12, 13, 14, 15]⟩, ⟨17, false, [], [0, 1, 2, 3, 4, 5, 6, 7, 8, 9, 10, 11, 12, 13, 14, 15, 16]⟩, ⟨18, false, [1], [0, 1, 2, 3, 4, 5, 6, 7, 8, 9, 10, 11, 12, 13, 14, 15, 16, 17]⟩, ⟨19, true, [1], [0, 1, 2, 3, 4, 5, 6, 7, 8, 9, 10, 11, 12, 13, 14, 15, 16, 17, 18]⟩])) .leaf) .leaf))) [1, 3, 5] [] [3] [] := by
 intro R v next K
 kernel_rfl
theorem Z12v : OrcOK Tryz.prog 30 0 (.loop (fsub Tryz.f115 [1, 1, 0, 1, 0, 0])) (fun R => pieceG 0 (Zb9) R) :=
 piece_l (Zzz) (cons_ok trivial) orcs_0
def Z98 (f : Z2i) : Con := { args := [.agg [.ints .u64 (some 5)]], blks := [], shapes := [⟨Str, fun r => (.c (.sc (.str r)), [], 0)⟩], F := fun R x y k => f R (x.1.1) (fun z0 => k.1 z0) }
def Z18b : Con := Z98 Z21
theorem Z12k : (Z98 (Zn0)).Says Tryz.prog Tryz.f115 (conL []) (pieceL 0 [(0, Zb9)]) (.node .leaf (.node .leaf (.node (.node .leaf (.node (.orc 0 [1, 3, 5] []) .leaf)) .leaf))) := by
 intro R x y K
 kernel_rfl
theorem Ze4 : ConOK Tryz.prog 115 Z18b :=
 con_o (Z12k) (cons_ok trivial) (orcs_1 [(0, [1, 1, 0, 1, 0])] ⟨piece_a Z12v, trivial⟩)
def Z6p (f : Z16) : Con := { args := [.agg [.one (.i .u64), .one (.i .u64)], .sc (.i .u64), .sc (.i .u64)], blks := [], shapes := [⟨Int × Int, fun r => (.c (.agg [.one (.int .u64 r.1), .one (.int .u64 r.2)]), [], 0)⟩], F := fun R x y k => f R (x.1.1) (x.1.2.1) (x.2.1) (x.2.2.1) (fun z0 z1 => k.1 (z0, z1)) }
def Z180 : Con := Z6p Zt
theorem Z13q (g0 : Z2h) (g1 : Zu) : (Z6p (Zml g0 g1)).Says Tryz.prog Tryz.f189 (conL [(162, Ze1 g0), (163, Z5t g1)]) (pieceL 0 []) .leaf := by
 intro R x y K
 kernel_rfl
theorem Za4 : ConOK Tryz.prog 189 Z180 :=
 con_o (Z13q Z1m Zj) (cons_ok ⟨.inl Zhf, .inr Z50, trivial⟩) orcs_0
theorem Z12w (g0 : Z16) (g1 : Zu) (g2 : Zg) : (Zi0 g0 g1 g2).Joins Tryz.prog 100 0 (conL [(189, Z6p g0), (163, Z5t g1), (188, Z2z g2)]) (pieceL 0 []) (fsub Tryz.f116 [1, 1, 0, 1, 0, 0, 1, 1, 0, 0, 1, 1, 0, 0, 1, 1, 0]) (.node (.node .leaf (.node .leaf (.node (.draw [⟨0, false, [], []⟩, ⟨1, false, [], []⟩, ⟨2, false, [], [0, 1]⟩, ⟨3, false, [], []⟩, ⟨4, false, [], []⟩, ⟨5, false, [], [3, 4]⟩, ⟨6, false, [3], [3, 4, 5]⟩, ⟨7, false, [3], [3, 4, 5, 6]⟩, ⟨8, false, [], []⟩, ⟨9, false, [0], []⟩, ⟨10, false, [0], [8, 9]⟩, ⟨11, false, [0], [8, 9, 10]⟩, ⟨12, false, [], []⟩, ⟨13, false, [1], []⟩, ⟨14, false, [1], [12, 13]⟩, ⟨15, false, [1], [12, 13, 14]⟩, ⟨16, true, [], [3, 4, 5, 6, 7, 8, 9, 10, 11, 12, 13, 14, 15]⟩, ⟨17, false, [3], [0, 1, 2, 3, 4, 5, 6, 7, 8, 9, 10, 11, 12, 13, 14, 15, 16]⟩, ⟨18, true, [3], [0, 1, 2, 3, 4, 5, 6, 7, 8, 9, 10, 11, 12, 13, 14, 15, 16, 17]⟩]) (.draw [⟨0, false, [], []⟩, ⟨1, false, [], []⟩, ⟨2, false, [], [0, 1]⟩, ⟨3, false, [], [0, 1, 2]⟩, ⟨4, false, [], []⟩, ⟨5, false, [], []⟩, ⟨6, false, [], [4, 5]⟩, ⟨7, false, [], [4, 5, 6]⟩, ⟨8, false, [3], [4, 5, 6, 7]⟩, ⟨9, false, [3], [4, 5, 6, 7, 8]⟩, ⟨10, false, [], []⟩, ⟨11, false, [0], []⟩, ⟨12, false, [0], [10, 11]⟩, ⟨13, false, [0], [10, 11, 12]⟩, ⟨14, false, [], [10, 11, 12, 13]⟩, ⟨15, false, [], []⟩, ⟨16, false, [1], []⟩, ⟨17, false, [1], [15, 16]⟩, ⟨18, false, [1], [15, 16, 17]⟩, ⟨19, true, [], [4, 5, 6, 7, 8, 9, 10, 11, 12, 13, 14, 15, 16, 17, 18]⟩, ⟨20, false, [3], [0, 1, 2, 3, 4, 5, 6, 7, 8, 9, 10, 11, 12, 13, 14, 15, 16, 17, 18, 19]⟩, ⟨21, true, [3], [0, 1, 2, 3, 4, 5, 6, 7, 8, 9, 10, 11, 12, 13, 14, 15, 16, 17, 18, 19, 20]⟩])))) .leaf) [2, 3, 4, 5, 6, 15, 18] [] := by
 intro R v next K
 kernel_rfl
theorem Z15n : OrcOK Tryz.prog 100 0 (fsub Tryz.f116 [1, 1, 0, 1, 0, 0, 1, 1, 0, 0, 1, 1, 0, 0, 1, 1, 0]) (fun R => pieceG 0 (Zi0 Zt Zj Zc) R) :=
 piece_j (Z12w Zt Zj Zc) (cons_ok ⟨.inl Za4, .inr Z50, .inl Z35, trivial⟩) orcs_0
theorem Z12a (g0 : Z16) (g1 : Zu) (g2 : Zg) : (Zdn g0 g1 g2).Loops Tryz.prog 100 0 (conL [(189, Z6p g0), (163, Z5t g1), (188, Z2z g2)]) (pieceL 0 [(2, Zi0 g0 g1 g2)]) (fsub Tryz.f116 [1, 1, 0, 1, 0, 0, 1, 1, 0, 0, 1, 1, 0, 0]) (.node .leaf (.node .leaf (.node (.orc 2 [2, 3, 4, 5, 6, 15, 18] []) .leaf))) [2, 3, 4, 5, 6, 15, 18] [] [2, 3, 4, 5, 15] [] := by
 intro R v next K
 kernel_rfl
theorem Z15k : OrcOK Tryz.prog 100 0 (.loop (fsub Tryz.f116 [1, 1, 0, 1, 0, 0, 1, 1, 0, 0, 1, 1, 0, 0])) (fun R => pieceG 0 (Zdn Zt Zj Zc) R) :=
 piece_l (Z12a Zt Zj Zc) (cons_ok ⟨.inl Za4, .inr Z50, .inl Z35, trivial⟩) (orcs_1 [(2, [1, 1, 0])] ⟨piece_a Z15n, trivial⟩)
theorem Z12q (g0 : Z16) (g1 : Zu) (g2 : Zg) : (Zdt g0 g1 g2).Loops Tryz.prog 100 0 (conL [(189, Z6p g0), (163, Z5t g1), (188, Z2z g2)]) (pieceL 0 [(1, Zdn g0 g1 g2)]) (fsub Tryz.f116 [1, 1, 0, 1, 0, 0]) (.node .leaf (.node .leaf (.node (.node (.node .leaf (.node .leaf (.node (.orc 1 [2, 3, 4, 5, 6, 15, 18] []) .leaf))) .leaf) .leaf))) [2, 3, 4, 5, 15] [] [4, 5] [] := by
 intro R v next K
 kernel_rfl
theorem Z15a : OrcOK Tryz.prog 100 0 (.loop (fsub Tryz.f116 [1, 1, 0, 1, 0, 0])) (fun R => pieceG 0 (Zdt Zt Zj Zc) R) :=
 piece_l (Z12q Zt Zj Zc) (cons_ok ⟨.inl Za4, .inr Z50, .inl Z35, trivial⟩) (orcs_1 [(1, [1, 1, 0, 0, 1, 1, 0])] ⟨piece_a Z15k, trivial⟩)
theorem Z13d (g0 : Z16) (g1 : Zu) (g2 : Zg) : (Zdp g0 g1 g2).Loops Tryz.prog 100 0 (conL [(189, Z6p g0), (163, Z5t g1), (188, Z2z g2)]) (pieceL 0 []) (fsub Tryz.f116 [1, 1, 1, 1, 1, 0, 1, 0, 0]) .leaf [4, 8, 9, 66, 67] [] [4, 8, 9] [] := by
 intro R v next K
 kernel_rfl
theorem Z14y : OrcOK Tryz.prog 100 0 (.loop (fsub Tryz.f116 [1, 1, 1, 1, 1, 0, 1, 0, 0])) (fun R => pieceG 0 (Zdp Zt Zj Zc) R) :=
 piece_l (Z13d Zt Zj Zc) (cons_ok ⟨.inl Za4, .inr Z50, .inl Z35, trivial⟩) orcs_0
def Z1e (f : Z6) : Con := { args := [.agg [.ints .u64 (some 5)], .agg [.ints .u64 (some 5)]], blks := [], shapes := [⟨(List Int), fun r => (.c (.agg [.ints .u64 r 5]), [], 0)⟩], F := fun R x y k => f R (x.1.1) (x.2.1.1) (fun z0 => k.1 z0) }
def Z1ah : Con := Z1e Z4
theorem Z15o (g0 : Z16) (g1 : Zu) (g2 : Zg) : (Z1e (Zr3 g0 g1 g2)).Says Tryz.prog Tryz.f116 (conL [(189, Z6p g0), (163, Z5t g1), (188, Z2z g2)]) (pieceL 0 [(0, Zdt g0 g1 g2), (3, Zdp g0 g1 g2)]) (.node .leaf (.node .leaf (.node (.node .leaf (.node (.orc 0 [2, 3, 4, 5, 15] []) .leaf)) (.node .leaf (.node .leaf (.node (.node .leaf (.node (.orc 3 [4, 8, 9, 66, 67] []) .leaf)) .leaf)))))) := by
 intro R x y K
 kernel_rfl
theorem Z1a : ConOK Tryz.prog 116 Z1ah :=
 con_o (Z15o Zt Zj Zc) (cons_ok ⟨.inl Za4, .inr Z50, .inl Z35, trivial⟩) (orcs_1 [(0, [1, 1, 0, 1, 0]), (3, [1, 1, 1, 1, 1, 0, 1, 0])] ⟨piece_a Z15a, piece_a Z14y, trivial⟩)
theorem Z12l (g0 : Zg) : (Zdg g0).Loops Tryz.prog 31 0 (conL [(188, Z2z g0)]) (pieceL 0 []) (fsub Tryz.f117 [1, 0, 1, 0, 0]) (.node .leaf (.node .leaf (.node (.node (.node .leaf (.draw [⟨0, false, [], []⟩, ⟨1, false, [0], []⟩, ⟨2, false, [0], [0, 1]⟩, ⟨3, false, [0], [0, 1, 2]⟩, ⟨4, false, [], []⟩, ⟨5, false, [1], []⟩, ⟨6, false, [1], [4, 5]⟩, ⟨7, false, [1], [4, 5, 6]⟩, ⟨8, false, [], [4, 5, 6, 7]⟩, ⟨9, false, [], [0, 1, 2, 3, 4, 5, 6, 7, 8]⟩, ⟨10, false, [0], []⟩, ⟨11, false, [0], [0, 1, 2, 3, 4, 5, 6, 7, 8, 9, 10]⟩, ⟨12, true, [0], [0, 1, 2, 3, 4, 5, 6, 7, 8, 9, 10, 11]⟩])) .leaf) .leaf))) [2, 3, 4, 6] [] [2, 4] [] := by
 intro R v next K
 kernel_rfl
theorem Z150 : OrcOK Tryz.prog 31 0 (.loop (fsub Tryz.f117 [1, 0, 1, 0, 0])) (fun R => pieceG 0 (Zdg Zc) R) :=
 piece_l (Z12l Zc) (cons_ok ⟨.inl Z35, trivial⟩) orcs_0
def Z3f (f : Zy) : Con := { args := [.agg [.ints .u64 (some 5)], .agg [.ints .u64 (some 5)]], blks := [], shapes := [⟨(List Int), fun r => (.c (.agg [.ints .u64 r 5]), [], 0)⟩], F := fun R x y k => f R (x.1.1) (x.2.1.1) (fun z0 => k.1 z0) }
def Z1aw : Con := Z3f Zw
theorem Z15m (g0 : Zg) : (Z3f (Zrw g0)).Says Tryz.prog Tryz.f117 (conL [(188, Z2z g0)]) (pieceL 0 [(0, Zdg g0)]) (.node .leaf (.node (.node .leaf (.node (.orc 0 [2, 3, 4, 6] []) .leaf)) .leaf)) := by
 intro R x y K
 kernel_rfl
theorem Z3r : ConOK Tryz.prog 117 Z1aw :=
 con_o (Z15m Zc) (cons_ok ⟨.inl Z35, trivial⟩) (orcs_1 [(0, [1, 0, 1, 0])] ⟨piece_a Z150, trivial⟩)
def Z3y (f : Zz) : Con := { args := [.sc (.i .i64)], blks := [], shapes := [⟨(List Int), fun r => (.c (.agg [.ints .u64 r 5]), [], 0)⟩], F := fun R x y k => f R (x.1) (fun z0 => k.1 z0) }
def Z1bs : Con := Z3y Zv
theorem Z175 (g0 : Zg) (g1 : Zy) : (Z3y (Zwe g0 g1)).Says Tryz.prog Tryz.f127 (conL [(188, Z2z g0), (117, Z3f g1)]) (pieceL 0 []) .leaf := by
 intro R x y K
 kernel_rfl
theorem Z4a : ConOK Tryz.prog 127 Z1bs :=
 con_o (Z175 Zc Zw) (cons_ok ⟨.inl Z35, .inl Z3r, trivial⟩) orcs_0
theorem Zxc (g0 : Z6) : (Z94 g0).Loops Tryz.prog 13 0 (conL [(116, Z1e g0)]) (pieceL 0 []) (fsub Tryz.f191 [1, 0, 1, 0, 0]) .leaf [2, 4, 5, 6] [] [2, 4] [] := by
 intro R v next K
 kernel_rfl
theorem Z103 : OrcOK Tryz.prog 13 0 (.loop (fsub Tryz.f191 [1, 0, 1, 0, 0])) (fun R => pieceG 0 (Z94 Z4) R) :=
 piece_l (Zxc Z4) (cons_ok ⟨.inl Z1a, trivial⟩) orcs_0
def Z56 (f : Z1b) : Con := { args := [.agg [.ints .u64 (some 5)], .sc (.i .i64)], blks := [], shapes := [⟨(List Int), fun r => (.c (.agg [.ints .u64 r 5]), [], 0)⟩], F := fun R x y k => f R (x.1.1) (x.2.1) (fun z0 => k.1 z0) }
def Z16o : Con := Z56 Z18
theorem Z102 (g0 : Z6) : (Z56 (Zjv g0)).Says Tryz.prog Tryz.f191 (conL [(116, Z1e g0)]) (pieceL 0 [(0, Z94 g0)]) (.node .leaf (.node (.node .leaf (.node (.orc 0 [2, 4, 5, 6] []) .leaf)) .leaf)) := by
 intro R x y K
 kernel_rfl
theorem Z80 : ConOK Tryz.prog 191 Z16o :=
 con_o (Z102 Z4) (cons_ok ⟨.inl Z1a, trivial⟩) (orcs_1 [(0, [1, 0, 1, 0])] ⟨piece_a Z103, trivial⟩)
def Zak (f : Z20) : Con := { args := [.agg [.ints .u64 (some 5)]], blks := [], shapes := [⟨(List Int) × (List Int), fun r => (.tup [.agg [.ints .u64 r.1 5], .agg [.ints .u64 r.2 5]], [], 0)⟩], F := fun R x y k => f R (x.1.1) (fun z0 z1 => k.1 (z0, z1)) }
def Z196 : Con := Zak Z1w
theorem Z141 (g0 : Z1b) (g1 : Z6) : (Zak (Zpb g0 g1)).Says Tryz.prog Tryz.f190 (conL [(191, Z56 g0), (116, Z1e g1)]) (pieceL 0 []) (.node .leaf (.node .leaf (.node (.draw [⟨0, false, [3], []⟩, ⟨2, false, [0], []⟩, ⟨4, false, [], []⟩, ⟨1, true, [], [0]⟩, ⟨3, true, [], [0, 1, 2]⟩, ⟨5, true, [4], [0, 1, 2, 3, 4]⟩]) (.node .leaf (.node (.draw [⟨0, false, [5], []⟩, ⟨2, false, [4], []⟩, ⟨4, false, [], []⟩, ⟨1, true, [], [0]⟩, ⟨3, true, [], [0, 1, 2]⟩, ⟨5, true, [6], [0, 1, 2, 3, 4]⟩]) (.node (.draw [⟨0, false, [6], []⟩, ⟨2, false, [6], []⟩, ⟨4, false, [], []⟩, ⟨1, true, [], [0]⟩, ⟨3, true, [], [0, 1, 2]⟩, ⟨5, true, [7], [0, 1, 2, 3, 4]⟩]) (.node (.draw [⟨0, false, [7], []⟩, ⟨2, false, [7], []⟩, ⟨4, false, [], []⟩, ⟨1, true, [], [0]⟩, ⟨3, true, [], [0, 1, 2]⟩, ⟨5, true, [8], [0, 1, 2, 3, 4]⟩]) (.node (.draw [⟨0, false, [8], []⟩, ⟨2, false, [8], []⟩, ⟨4, false, [], []⟩, ⟨1, true, [], [0]⟩, ⟨3, true, [], [0, 1, 2]⟩, ⟨5, true, [9], [0, 1, 2, 3, 4]⟩]) (.node (.draw [⟨0, false, [9], []⟩, ⟨2, false, [7], []⟩, ⟨4, false, [], []⟩, ⟨1, true, [], [0]⟩, ⟨3, true, [], [0, 1, 2]⟩, ⟨5, true, [10], [0, 1, 2, 3, 4]⟩]) (.node (.draw [⟨0, false, [10], []⟩, ⟨2, false, [10], []⟩, ⟨4, false, [], []⟩, ⟨1, true, [], [0]⟩, ⟨3, true, [], [0, 1, 2]⟩, ⟨5, true, [11], [0, 1, 2, 3, 4]⟩]) (.node (.draw [⟨0, false, [11], []⟩, ⟨2, false, [11], []⟩, ⟨4, false, [], []⟩, ⟨1, true, [], [0]⟩, ⟨3, true, [], [0, 1, 2]⟩, ⟨5, true, [12], [0, 1, 2, 3, 4]⟩]) (.node (.draw [⟨0, false, [12], []⟩, ⟨2, false, [10], []⟩, ⟨4, false, [5], []⟩, ⟨1, true, [], [0]⟩, ⟨3, true, [], [0, 1, 2]⟩, ⟨5, true, [1], [0, 1, 2, 3]⟩, ⟨6, true, [2], [0, 1, 2, 3, 4, 5]⟩]) .leaf)))))))))))) := by
 intro R x y K
 kernel_rfl
theorem Zf3 : ConOK Tryz.prog 190 Z196 :=
 con_o (Z141 Z18 Z4) (cons_ok ⟨.inl Z80, .inl Z1a, trivial⟩) orcs_0
def Z91 (f : Z2b) : Con := { args := [.agg [.ints .u64 (some 5)]], blks := [], shapes := [⟨(List Int), fun r => (.c (.agg [.ints .u64 r 5]), [], 0)⟩], F := fun R x y k => f R (x.1.1) (fun z0 => k.1 z0) }
def Z1ac : Con := Z91 Z23
theorem Z15f (g0 : Z20) (g1 : Z1b) (g2 : Z6) : (Z91 (Zqj g0 g1 g2)).Says Tryz.prog Tryz.f121 (conL [(190, Zak g0), (191, Z56 g1), (116, Z1e g2)]) (pieceL 0 []) (.node .leaf (.node .leaf (.node (.draw [⟨0, false, [2], []⟩, ⟨2, false, [3], []⟩, ⟨1, true, [], [0]⟩, ⟨3, true, [], [0, 1, 2]⟩, ⟨4, true, [1], [0, 1, 2, 3]⟩]) .leaf))) := by
 intro R x y K
 kernel_rfl
theorem Zc5 : ConOK Tryz.prog 121 Z1ac :=
 con_o (Z15f Z1w Z18 Z4) (cons_ok ⟨.inl Zf3, .inl Z80, .inl Z1a, trivial⟩) orcs_0
theorem Z13h (g0 : Zg) : (Zdm g0).Loops Tryz.prog 24 0 (conL [(188, Z2z g0)]) (pieceL 0 []) (fsub Tryz.f120 [1, 0, 1, 0, 0]) (.node .leaf (.node .leaf (.node (.node (.node .leaf (.draw [⟨0, false, [], []⟩, ⟨1, false, [0], []⟩, ⟨2, false, [0], [0, 1]⟩, ⟨3, false, [0], [0, 1, 2]⟩, ⟨4, false, [], []⟩, ⟨5, false, [1], []⟩, ⟨6, false, [1], [4, 5]⟩, ⟨7, false, [1], [4, 5, 6]⟩, ⟨8, false, [], [0, 1, 2, 3, 4, 5, 6, 7]⟩, ⟨9, false, [0], []⟩, ⟨10, false, [0], [0, 1, 2, 3, 4, 5, 6, 7, 8, 9]⟩, ⟨11, true, [0], [0, 1, 2, 3, 4, 5, 6, 7, 8, 9, 10]⟩])) .leaf) .leaf))) [2, 3, 4, 6] [] [2, 4] [] := by
 intro R v next K
 kernel_rfl
theorem Z15e : OrcOK Tryz.prog 24 0 (.loop (fsub Tryz.f120 [1, 0, 1, 0, 0])) (fun R => pieceG 0 (Zdm Zc) R) :=
 piece_l (Z13h Zc) (cons_ok ⟨.inl Z35, trivial⟩) orcs_0
def Zbt (f : Z3c) : Con := { args := [.agg [.ints .u64 (some 5)], .agg [.ints .u64 (some 5)]], blks := [], shapes := [⟨(List Int), fun r => (.c (.agg [.ints .u64 r 5]), [], 0)⟩], F := fun R x y k => f R (x.1.1) (x.2.1.1) (fun z0 => k.1 z0) }
def Z1a8 : Con := Zbt Z30
theorem Z15i (g0 : Zg) : (Zbt (Zqw g0)).Says Tryz.prog Tryz.f120 (conL [(188, Z2z g0)]) (pieceL 0 [(0, Zdm g0)]) (.node .leaf (.node (.node .leaf (.node (.orc 0 [2, 3, 4, 6] []) .leaf)) .leaf)) := by
 intro R x y K
 kernel_rfl
theorem Zgo : ConOK Tryz.prog 120 Z1a8 :=
 con_o (Z15i Zc) (cons_ok ⟨.inl Z35, trivial⟩) (orcs_1 [(0, [1, 0, 1, 0])] ⟨piece_a Z15e, trivial⟩)
theorem Z122 (g0 : Z20) (g1 : Z1b) (g2 : Z6) (g3 : Zz) (g4 : Zy) : (Zgj g0 g1 g2 g3 g4).Joins Tryz.prog 51 0 (conL [(190, Zak g0), (191, Z56 g1), (116, Z1e g2), (127, Z3y g3), (117, Z3f g4)]) (pieceL 0 []) (fsub Tryz.f122 [1, 1, 1, 0, 1]) (.node (.node .leaf (.draw [⟨0, false, [2], []⟩, ⟨1, false, [3], []⟩, ⟨2, true, [], [1]⟩, ⟨3, true, [], [1, 2]⟩, ⟨4, true, [], [1, 2, 3]⟩, ⟨5, true, [], [0, 1, 2, 3, 4]⟩, ⟨6, true, [2], [0, 1, 2, 3, 4, 5]⟩])) .leaf) [1, 2, 6] [] := by
 intro R v next K
 kernel_rfl
theorem Z13z : OrcOK Tryz.prog 51 0 (fsub Tryz.f122 [1, 1, 1, 0, 1]) (fun R => pieceG 0 (Zgj Z1w Z18 Z4 Zv Zw) R) :=
 piece_j (Z122 Z1w Z18 Z4 Zv Zw) (cons_ok ⟨.inl Zf3, .inl Z80, .inl Z1a, .inl Z4a, .inl Z3r, trivial⟩) orcs_0
theorem Z11a (g0 : Z20) (g1 : Z1b) (g2 : Z6) (g3 : Zz) (g4 : Zy) : (Zgc g0 g1 g2 g3 g4).Joins Tryz.prog 51 0 (conL [(190, Zak g0), (191, Z56 g1), (116, Z1e g2), (127, Z3y g3), (117, Z3f g4)]) (pieceL 0 []) (fsub Tryz.f122 [1, 1, 1, 1, 1, 0, 1]) .leaf [2, 6] [] := by
 intro R v next K
 kernel_rfl
theorem Z149 : OrcOK Tryz.prog 51 0 (fsub Tryz.f122 [1, 1, 1, 1, 1, 0, 1]) (fun R => pieceG 0 (Zgc Z1w Z18 Z4 Zv Zw) R) :=
 piece_j (Z11a Z1w Z18 Z4 Zv Zw) (cons_ok ⟨.inl Zf3, .inl Z80, .inl Z1a, .inl Z4a, .inl Z3r, trivial⟩) orcs_0
def Zht (f : Z6w) : Con := { args := [.agg [.ints .u64 (some 5)]], blks := [], shapes := [⟨(List Int) × Bool, fun r => (.tup [.agg [.ints .u64 r.1 5], .sc (.bool r.2)], [], 0)⟩], F := fun R x y k => f R (x.1.1) (fun z0 z1 => k.1 (z0, z1)) }
def Z19l : Con := Zht Z57
theorem Z13w (g0 : Z20) (g1 : Z1b) (g2 : Z6) (g3 : Zz) (g4 : Zy) : (Zht (Zov g0 g1 g2 g3 g4)).Says Tryz.prog Tryz.f122 (conL [(190, Zak g0), (191, Z56 g1), (116, Z1e g2), (127, Z3y g3), (117, Z3f g4)]) (pieceL 0 [(0, Zgj g0 g1 g2 g3 g4), (1, Zgc g0 g1 g2 g3 g4)]) (.node .leaf (.node .leaf (.node (.draw [⟨0, false, [2], []⟩, ⟨2, false, [0], []⟩, ⟨4, false, [0], []⟩, ⟨6, false, [], []⟩, ⟨1, true, [], [0]⟩, ⟨3, true, [], [0, 1, 2]⟩, ⟨5, true, [], [0, 1, 2, 3, 4]⟩, ⟨7, true, [4], [0, 1, 2, 3, 4, 5, 6]⟩]) (.node (.node (.draw [⟨0, false, [4], []⟩, ⟨1, false, [4], []⟩, ⟨3, false, [0], []⟩, ⟨2, true, [], [0, 1]⟩, ⟨4, false, [], [0, 1, 2, 3]⟩]) (.orc 0 [1, 2, 6, 24] [])) (.node (.node (.draw [⟨0, false, [2], []⟩, ⟨1, false, [2], []⟩, ⟨3, false, [0], []⟩, ⟨2, true, [], [0, 1]⟩, ⟨4, false, [], [0, 1, 2, 3]⟩]) .leaf) (.node (.node .leaf (.orc 1 [2, 6, 46] [])) .leaf)))))) := by
 intro R x y K
 kernel_rfl
theorem Zum : ConOK Tryz.prog 122 Z19l :=
 con_o (Z13w Z1w Z18 Z4 Zv Zw) (cons_ok ⟨.inl Zf3, .inl Z80, .inl Z1a, .inl Z4a, .inl Z3r, trivial⟩) (orcs_1 [(0, [1, 1, 1, 0, 1]), (1, [1, 1, 1, 1, 1, 0, 1])] ⟨piece_a Z13z, piece_a Z149, trivial⟩)
end
noncomputable section
open Go.Proofs
def Zj3 (f : Z7g) : Con := { args := [], blks := [], shapes := [⟨(List Int), fun r => (.c (.agg [.ints .u64 r 5]), [], 0)⟩], F := fun R x y k => f R (fun z0 => k.1 z0) }
def Z1cv : Con := Zj3 Z5z
theorem Z1a6 (g0 : Zz) : (Zj3 (Z115 g0)).Says Tryz.prog Tryz.f118 (conL [(127, Z3y g0)]) (pieceL 0 []) .leaf := by
 intro R x y K
 kernel_rfl
theorem Zo5 : ConOK Tryz.prog 118 Z1cv :=
 con_o (Z1a6 Zv) (cons_ok ⟨.inl Z4a, trivial⟩) orcs_0
def Z87 (f : Z1g) : Con := { args := [], blks := [], shapes := [⟨(List Int), fun r => (.c (.agg [.ints .u64 r 5]), [], 0)⟩], F := fun R x y k => f R (fun z0 => k.1 z0) }
def Z1bc : Con := Z87 Z1f
theorem Z166 (g0 : Zz) (g1 : Z2b) (g2 : Z6) : (Z87 (Zu8 g0 g1 g2)).Says Tryz.prog Tryz.f119 (conL [(127, Z3y g0), (121, Z91 g1), (116, Z1e g2)]) (pieceL 0 []) .leaf := by
 intro R x y K
 kernel_rfl
theorem Za7 : ConOK Tryz.prog 119 Z1bc :=
 con_o (Z166 Zv Z23 Z4) (cons_ok ⟨.inl Z4a, .inl Zc5, .inl Z1a, trivial⟩) orcs_0
def Zkj (f : Z8u) : Con := { args := [.agg [.ints .u64 (some 5)], .agg [.ints .u64 (some 5)], .agg [.ints .u64 (some 5)], .agg [.ints .u64 (some 5)]], blks := [], shapes := [⟨(List Int) × (List Int) × (List Int) × (List Int), fun r => (.c (.agg [.ints .u64 r.1 5, .ints .u64 r.2.1 5, .ints .u64 r.2.2.1 5, .ints .u64 r.2.2.2 5]), [], 0)⟩], F := fun R x y k => f R (x.1.1) (x.2.1.1) (x.2.2.1.1) (x.2.2.2.1.1) (fun z0 z1 z2 z3 => k.1 (z0, z1, z2, z3)) }
def Z1ch : Con := Zkj Z72
theorem Z18u (g0 : Z7g) (g1 : Zy) : (Zkj (Zzs g0 g1)).Says Tryz.prog Tryz.f123 (conL [(118, Zj3 g0), (117, Z3f g1)]) (pieceL 0 []) (.node .leaf (.node (.draw [⟨0, false, [0], []⟩, ⟨1, false, [1], []⟩, ⟨4, false, [2], []⟩, ⟨7, false, [3], []⟩, ⟨2, true, [], []⟩, ⟨3, true, [], [1, 2]⟩, ⟨5, true, [], [1, 2, 3]⟩, ⟨6, true, [], [1, 2, 3, 4, 5]⟩, ⟨8, false, [], [0, 1, 2, 3, 4, 5, 6, 7]⟩, ⟨9, true, [4], [0, 1, 2, 3, 4, 5, 6, 7, 8]⟩]) .leaf)) := by
 intro R x y K
 kernel_rfl
theorem Zt9 : ConOK Tryz.prog 123 Z1ch :=
 con_o (Z18u Z5z Zw) (cons_ok ⟨.inl Zo5, .inl Z3r, trivial⟩) orcs_0
theorem Z18q (g0 : Zhs) (g1 : Z2i) (g2 : Z6) (g3 : Z7g) (g4 : Zy) (g5 : Z1g) (g6 : Z3c) (g7 : Z2b) (g8 : Z6w) (g9 : Z8u) : (Zud g0 g1 g2 g3 g4 g5 g6 g7 g8 g9).Joins Tryz.prog 78 0 (conL [(114, Zxg g0), (115, Z98 g1), (116, Z1e g2), (118, Zj3 g3), (117, Z3f g4), (119, Z87 g5), (120, Zbt g6), (121, Z91 g7), (122, Zht g8), (123, Zkj g9)]) (pieceL 0 []) (fsub Tryz.f58 [1, 1, 1, 1, 1, 1, 1, 1, 1, 1, 0, 1]) .leaf [2, 6, 9] [] := by
 intro R v next K
 kernel_rfl
theorem Z1ak : OrcOK Tryz.prog 78 0 (fsub Tryz.f58 [1, 1, 1, 1, 1, 1, 1, 1, 1, 1, 0, 1]) (fun R => pieceG 0 (Zud Zep Z21 Z4 Z5z Zw Z1f Z30 Z23 Z57 Z72) R) :=
 piece_j (Z18q Zep Z21 Z4 Z5z Zw Z1f Z30 Z23 Z57 Z72) (cons_ok ⟨.inl Z16e, .inl Ze4, .inl Z1a, .inl Zo5, .inl Z3r, .inl Za7, .inl Zgo, .inl Zc5, .inl Zum, .inl Zt9, trivial⟩) orcs_0
def Zxo (f : Zpj) : Con := { args := [.sc (.s)], blks := [], shapes := [⟨(List Int) × (List Int) × (List Int) × (List Int) × Int, fun r => (.tup [.agg [.ints .u64 r.1 5, .ints .u64 r.2.1 5, .ints .u64 r.2.2.1 5, .ints .u64 r.2.2.2.1 5], .sc (.int .i64 r.2.2.2.2)], [], 0)⟩], F := fun R x y k => f R (x.1) (fun z0 z1 z2 z3 z4 => k.1 (z0, z1, z2, z3, z4)) }
def Z1dg : Con := Zxo Zle
theorem Z1ab (g0 : Zhs) (g1 : Z2i) (g2 : Z6) (g3 : Z7g) (g4 : Zy) (g5 : Z1g) (g6 : Z3c) (g7 : Z2b) (g8 : Z6w) (g9 : Z8u) : (Zxo (Z145 g0 g1 g2 g3 g4 g5 g6 g7 g8 g9)).Says Tryz.prog Tryz.f58 (conL [(114, Zxg g0), (115, Z98 g1), (116, Z1e g2), (118, Zj3 g3), (117, Z3f g4), (119, Z87 g5), (120, Zbt g6), (121, Z91 g7), (122, Zht g8), (123, Zkj g9)]) (pieceL 0 [(0, Zud g0 g1 g2 g3 g4 g5 g6 g7 g8 g9)]) (.node .leaf (.node .leaf (.node .leaf (.node .leaf (.node .leaf (.node .leaf (.node (.node (.draw [⟨0, false, [2], []⟩, ⟨2, false, [], []⟩, ⟨3, false, [1], [2]⟩, ⟨1, true, [], [0]⟩, ⟨4, false, [], [0, 1, 2, 3]⟩]) .leaf) (.node .leaf (.node (.draw [⟨0, false, [3], []⟩, ⟨4, false, [3], []⟩, ⟨14, false, [], []⟩, ⟨1, true, [], []⟩, ⟨2, true, [], [0, 1]⟩, ⟨3, true, [], [0, 1, 2]⟩, ⟨5, true, [], [0, 1, 2, 3, 4]⟩, ⟨6, true, [], [0, 1, 2, 3, 4, 5]⟩, ⟨7, true, [], [0, 1, 2, 3, 4, 5, 6]⟩, ⟨8, true, [], [0, 1, 2, 3, 4, 5, 6, 7]⟩, ⟨9, true, [], [0, 1, 2, 3, 4, 5, 6, 7, 8]⟩, ⟨10, true, [], [0, 1, 2, 3, 4, 5, 6, 7, 8, 9]⟩, ⟨11, false, [], [0, 1, 2, 3, 4, 5, 6, 7, 8, 9, 10]⟩, ⟨12, false, [], [0, 1, 2, 3, 4, 5, 6, 7, 8, 9, 10, 11]⟩, ⟨13, false, [], [0, 1, 2, 3, 4, 5, 6, 7, 8, 9, 10, 11]⟩, ⟨15, true, [4], [0, 1, 2, 3, 4, 5, 6, 7, 8, 9, 10, 11, 12, 14]⟩, ⟨16, false, [], [0, 1, 2, 3, 4, 5, 6, 7, 8, 9, 10, 11, 12, 13, 14, 15]⟩]) (.node .leaf (.node (.node .leaf (.orc 0 [2, 6, 9, 67] [])) (.node (.draw [⟨0, false, [2], []⟩, ⟨1, false, [1], []⟩, ⟨3, false, [2], []⟩, ⟨4, false, [1], []⟩, ⟨2, true, [], []⟩, ⟨5, true, [], [2, 3, 4]⟩, ⟨6, true, [], [0, 1, 2, 3, 4, 5]⟩, ⟨7, true, [0], [0, 1, 2, 3, 4, 5, 6]⟩, ⟨8, false, [], [0, 1, 2, 3, 4, 5, 6, 7]⟩]) .leaf)))))))))))) := by
 intro R x y K
 kernel_rfl
theorem Z16f : ConOK Tryz.prog 58 Z1dg :=
 con_o (Z1ab Zep Z21 Z4 Z5z Zw Z1f Z30 Z23 Z57 Z72) (cons_ok ⟨.inl Z16e, .inl Ze4, .inl Z1a, .inl Zo5, .inl Z3r, .inl Za7, .inl Zgo, .inl Zc5, .inl Zum, .inl Zt9, trivial⟩) (orcs_1 [(0, [1, 1, 1, 1, 1, 1, 1, 1, 1, 1, 0, 1])] ⟨piece_a Z1ak, trivial⟩)
def Zqq (f : Zj7) : Con := { args := [], blks := [], shapes := [⟨(List Int) × (List Int) × (List Int) × (List Int), fun r => (.c (.agg [.ints .u64 r.1 5, .ints .u64 r.2.1 5, .ints .u64 r.2.2.1 5, .ints .u64 r.2.2.2 5]), [], 0)⟩], F := fun R x y k => f R (fun z0 z1 z2 z3 => k.1 (z0, z1, z2, z3)) }
def Z1c4 : Con := Zqq Zfx
theorem Z17w (g0 : Zz) (g1 : Z2b) (g2 : Z6) (g3 : Z2i) (g4 : Zpj) : (Zqq (Zyq g0 g1 g2 g3 g4)).Says Tryz.prog Tryz.f60 (conL [(127, Z3y g0), (121, Z91 g1), (116, Z1e g2), (115, Z98 g3), (58, Zxo g4)]) (pieceL 0 []) .leaf := by
 intro R x y K
 kernel_rfl
theorem Z133 : ConOK Tryz.prog 60 Z1c4 :=
 con_o (Z17w Zv Z23 Z4 Z21 Zle) (cons_ok ⟨.inl Z4a, .inl Zc5, .inl Z1a, .inl Ze4, .inl Z16f, trivial⟩) orcs_0
def Zer (f : Z9a) : Con := { args := [.agg [.ints .u64 (some 5), .ints .u64 (some 5), .ints .u64 (some 5), .ints .u64 (some 5)]], blks := [], shapes := [⟨(List Int) × (List Int) × (List Int) × (List Int), fun r => (.tup [.agg [.ints .u64 r.1 5], .agg [.ints .u64 r.2.1 5], .agg [.ints .u64 r.2.2.1 5], .agg [.ints .u64 r.2.2.2 5]], [], 0)⟩], F := fun R x y k => f R (x.1.1) (x.1.2.1) (x.1.2.2.1) (x.1.2.2.2.1) (fun z0 z1 z2 z3 => k.1 (z0, z1, z2, z3)) }
def Z17f : Con := Zer Z6o
theorem Z11c (g0 : Z7g) (g1 : Z3c) : (Zer (Zl0 g0 g1)).Says Tryz.prog Tryz.f133 (conL [(118, Zj3 g0), (120, Zbt g1)]) (pieceL 0 []) (.node .leaf (.node (.draw [⟨0, false, [0], []⟩, ⟨1, false, [0], [0]⟩, ⟨2, false, [0], []⟩, ⟨3, false, [0], [2]⟩, ⟨6, false, [0], []⟩, ⟨7, false, [0], [6]⟩, ⟨10, false, [0], []⟩, ⟨11, false, [0], [10]⟩, ⟨4, true, [], []⟩, ⟨5, true, [], [2, 3, 4]⟩, ⟨8, true, [], [2, 3, 4, 5]⟩, ⟨9, true, [], [2, 3, 4, 5, 6, 7, 8]⟩, ⟨12, true, [1], [0, 1, 2, 3, 4, 5, 6, 7, 8, 9]⟩, ⟨13, true, [2], [0, 1, 2, 3, 4, 5, 6, 7, 8, 9, 12]⟩, ⟨14, true, [3], [0, 1, 2, 3, 4, 5, 6, 7, 8, 9, 12, 13]⟩, ⟨15, true, [4], [0, 1, 2, 3, 4, 5, 6, 7, 8, 9, 10, 11, 12, 13, 14]⟩]) .leaf)) := by
 intro R x y K
 kernel_rfl
theorem Zqz : ConOK Tryz.prog 133 Z17f :=
 con_o (Z11c Z5z Z30) (cons_ok ⟨.inl Zo5, .inl Zgo, trivial⟩) orcs_0
def Z9b (f : Z1u) : Con := { args := [.agg [.ints .u64 (some 5), .ints .u64 (some 5), .ints .u64 (some 5), .ints .u64 (some 5)], .agg [.ints .u64 (some 5), .ints .u64 (some 5), .ints .u64 (some 5), .ints .u64 (some 5)], .agg [.ints .u64 (some 5)]], blks := [], shapes := [⟨(List Int) × (List Int) × (List Int) × (List Int), fun r => (.c (.agg [.ints .u64 r.1 5, .ints .u64 r.2.1 5, .ints .u64 r.2.2.1 5, .ints .u64 r.2.2.2 5]), [], 0)⟩], F := fun R x y k => f R (x.1.1) (x.1.2.1) (x.1.2.2.1) (x.1.2.2.2.1) (x.2.1.1) (x.2.1.2.1) (x.2.1.2.2.1) (x.2.1.2.2.2.1) (x.2.2.1.1) (fun z0 z1 z2 z3 => k.1 (z0, z1, z2, z3)) }
def Z17p : Con := Z9b Z1i
theorem Z131 (g0 : Z9a) (g1 : Zy) (g2 : Z6) (g3 : Z3c) (g4 : Z8u) : (Z9b (Zme g0 g1 g2 g3 g4)).Says Tryz.prog Tryz.f128 (conL [(133, Zer g0), (117, Z3f g1), (116, Z1e g2), (120, Zbt g3), (123, Zkj g4)]) (pieceL 0 []) (.node .leaf (.node .leaf (.node .leaf (.node (.draw [⟨0, false, [5], []⟩, ⟨1, false, [4], []⟩, ⟨3, false, [9], []⟩, ⟨4, false, [8], []⟩, ⟨7, false, [], []⟩, ⟨2, true, [], [0, 1]⟩, ⟨5, true, [], [0, 1, 2, 3, 4]⟩, ⟨6, true, [], [0, 1, 2, 3, 4, 5]⟩, ⟨8, true, [12], [0, 1, 2, 3, 4, 5, 6, 7]⟩]) (.node (.draw [⟨0, false, [5], []⟩, ⟨1, false, [4], []⟩, ⟨3, false, [9], []⟩, ⟨4, false, [8], []⟩, ⟨7, false, [], []⟩, ⟨2, true, [], [0, 1]⟩, ⟨5, true, [], [0, 1, 2, 3, 4]⟩, ⟨6, true, [], [0, 1, 2, 3, 4, 5]⟩, ⟨8, true, [13], [0, 1, 2, 3, 4, 5, 6, 7]⟩]) (.node (.draw [⟨0, false, [7], []⟩, ⟨1, false, [2], []⟩, ⟨3, false, [11], []⟩, ⟨5, false, [], []⟩, ⟨2, true, [], [0, 1]⟩, ⟨4, true, [], [0, 1, 2, 3]⟩, ⟨6, true, [14], [0, 1, 2, 3, 4, 5]⟩]) (.node (.draw [⟨0, false, [6], []⟩, ⟨1, false, [6], []⟩, ⟨3, false, [10], []⟩, ⟨5, false, [], []⟩, ⟨2, true, [], [0, 1]⟩, ⟨4, true, [], [0, 1, 2, 3]⟩, ⟨6, true, [15], [0, 1, 2, 3, 4, 5]⟩]) (.node (.draw [⟨0, false, [13], []⟩, ⟨1, false, [12], []⟩, ⟨3, false, [15], []⟩, ⟨4, false, [14], []⟩, ⟨6, false, [15], []⟩, ⟨7, false, [14], []⟩, ⟨9, false, [13], []⟩, ⟨10, false, [12], []⟩, ⟨12, false, [], []⟩, ⟨13, false, [], []⟩, ⟨14, false, [], []⟩, ⟨15, false, [], []⟩, ⟨2, true, [], [0, 1]⟩, ⟨5, true, [], [0, 1, 2, 3, 4]⟩, ⟨8, true, [], [0, 1, 2, 3, 4, 5, 6, 7]⟩, ⟨11, true, [], [0, 1, 2, 3, 4, 5, 6, 7, 8, 9, 10]⟩, ⟨16, true, [16], [0, 1, 2, 3, 4, 5, 6, 7, 8, 9, 10, 11, 12, 13, 14, 15]⟩, ⟨17, true, [17], [0, 1, 2, 3, 4, 5, 6, 7, 8, 9, 10, 11, 12, 13, 14, 15, 16]⟩, ⟨18, true, [18], [0, 1, 2, 3, 4, 5, 6, 7, 8, 9, 10, 11, 12, 13, 14, 15, 16, 17]⟩, ⟨19, true, [19], [0, 1, 2, 3, 4, 5, 6, 7, 8, 9, 10, 11, 12, 13, 14, 15, 16, 17, 18]⟩]) (.node (.draw [⟨0, false, [16], []⟩, ⟨1, false, [17], []⟩, ⟨3, false, [18], []⟩, ⟨4, false, [19], []⟩, ⟨6, false, [17], []⟩, ⟨7, false, [18], []⟩, ⟨9, false, [16], []⟩, ⟨10, false, [19], []⟩, ⟨2, true, [], [0, 1]⟩, ⟨5, true, [], [0, 1, 2, 3, 4]⟩, ⟨8, true, [], [0, 1, 2, 3, 4, 5, 6, 7]⟩, ⟨11, true, [], [0, 1, 2, 3, 4, 5, 6, 7, 8, 9, 10]⟩, ⟨12, true, [], [0, 1, 2, 3, 4, 5, 6, 7, 8, 9, 10, 11]⟩, ⟨13, true, [3], [0, 1, 2, 3, 4, 5, 6, 7, 8, 9, 10, 11, 12]⟩]) .leaf))))))))) := by
 intro R x y K
 kernel_rfl
theorem Ze5 : ConOK Tryz.prog 128 Z17p :=
 con_o (Z131 Z6o Zw Z4 Z30 Z72) (cons_ok ⟨.inl Zqz, .inl Z3r, .inl Z1a, .inl Zgo, .inl Zt9, trivial⟩) orcs_0
theorem Z10d (g0 : Z1g) (g1 : Zz) (g2 : Z6) (g3 : Z1u) : (Zf8 g0 g1 g2 g3).Joins Tryz.prog 38 0 (conL [(119, Z87 g0), (127, Z3y g1), (116, Z1e g2), (128, Z9b g3)]) (pieceL 0 []) (fsub Tryz.f61 [1, 1, 1, 1, 0, 1, 0, 0, 1, 0]) .leaf [1, 2, 4, 6, 7, 8] [] := by
 intro R v next K
 kernel_rfl
theorem Z13e : OrcOK Tryz.prog 38 0 (fsub Tryz.f61 [1, 1, 1, 1, 0, 1, 0, 0, 1, 0]) (fun R => pieceG 0 (Zf8 Z1f Zv Z4 Z1i) R) :=
 piece_j (Z10d Z1f Zv Z4 Z1i) (cons_ok ⟨.inl Za7, .inl Z4a, .inl Z1a, .inl Ze5, trivial⟩) orcs_0
theorem Zzw (g0 : Z1g) (g1 : Zz) (g2 : Z6) (g3 : Z1u) : (Zb7 g0 g1 g2 g3).Loops Tryz.prog 38 0 (conL [(119, Z87 g0), (127, Z3y g1), (116, Z1e g2), (128, Z9b g3)]) (pieceL 0 [(1, Zf8 g0 g1 g2 g3)]) (fsub Tryz.f61 [1, 1, 1, 1, 0, 1, 0, 0]) (.node .leaf (.node (.orc 1 [1, 2, 4, 6, 7, 8] []) .leaf)) [1, 2, 4, 6, 7, 8] [] [4, 7] [] := by
 intro R v next K
 kernel_rfl
theorem Z128 : OrcOK Tryz.prog 38 0 (.loop (fsub Tryz.f61 [1, 1, 1, 1, 0, 1, 0, 0])) (fun R => pieceG 0 (Zb7 Z1f Zv Z4 Z1i) R) :=
 piece_l (Zzw Z1f Zv Z4 Z1i) (cons_ok ⟨.inl Za7, .inl Z4a, .inl Z1a, .inl Ze5, trivial⟩) (orcs_1 [(1, [1, 0])] ⟨piece_a Z13e, trivial⟩)
def Zgf (f : Zaj) : Con := { args := [.agg [.ints .u64 (some 5), .ints .u64 (some 5), .ints .u64 (some 5), .ints .u64 (some 5)], .sc (.s)], blks := [], shapes := [⟨(List Int) × (List Int) × (List Int) × (List Int) × Int, fun r => (.tup [.agg [.ints .u64 r.1 5, .ints .u64 r.2.1 5, .ints .u64 r.2.2.1 5, .ints .u64 r.2.2.2.1 5], .sc (.int .i64 r.2.2.2.2)], [], 0)⟩], F := fun R x y k => f R (x.1.1) (x.1.2.1) (x.1.2.2.1) (x.1.2.2.2.1) (x.2.1) (fun z0 z1 z2 z3 z4 => k.1 (z0, z1, z2, z3, z4)) }
def Z18s : Con := Zgf Z7x
theorem Z126 (g0 : Z1g) (g1 : Zz) (g2 : Z6) (g3 : Z1u) : (Zgf (Zm8 g0 g1 g2 g3)).Says Tryz.prog Tryz.f61 (conL [(119, Z87 g0), (127, Z3y g1), (116, Z1e g2), (128, Z9b g3)]) (pieceL 0 [(0, Zb7 g0 g1 g2 g3)]) (.node .leaf (.node .leaf (.node .leaf (.node .leaf (.node (.node .leaf (.node (.orc 0 [1, 2, 4, 6, 7, 8] []) .leaf)) .leaf))))) := by
 intro R x y K
 kernel_rfl
theorem Zsx : ConOK Tryz.prog 61 Z18s :=
 con_o (Z126 Z1f Zv Z4 Z1i) (cons_ok ⟨.inl Za7, .inl Z4a, .inl Z1a, .inl Ze5, trivial⟩) (orcs_1 [(0, [1, 1, 1, 1, 0, 1, 0])] ⟨piece_a Z128, trivial⟩)
def Zmb (f : Zid) : Con := { args := [.agg [.ints .u64 (some 5), .ints .u64 (some 5), .ints .u64 (some 5), .ints .u64 (some 5)]], blks := [], shapes := [⟨(List Int) × (List Int) × (List Int) × (List Int), fun r => (.c (.agg [.ints .u64 r.1 5, .ints .u64 r.2.1 5, .ints .u64 r.2.2.1 5, .ints .u64 r.2.2.2 5]), [], 0)⟩], F := fun R x y k => f R (x.1.1) (x.1.2.1) (x.1.2.2.1) (x.1.2.2.2.1) (fun z0 z1 z2 z3 => k.1 (z0, z1, z2, z3)) }
def Z18r : Con := Zmb Zdi
theorem Z135 (g0 : Zy) : (Zmb (Zmw g0)).Says Tryz.prog Tryz.f64 (conL [(117, Z3f g0)]) (pieceL 0 []) (.node .leaf (.node .leaf (.node (.draw [⟨0, false, [2], []⟩, ⟨1, false, [0], []⟩, ⟨2, false, [0], [1]⟩, ⟨4, false, [0], []⟩, ⟨5, false, [0], [4]⟩, ⟨6, false, [0], []⟩, ⟨7, false, [0], [6]⟩, ⟨8, false, [2], []⟩, ⟨9, false, [0], []⟩, ⟨10, false, [0], [9]⟩, ⟨3, true, [], [0, 1, 2]⟩, ⟨11, true, [], [0, 1, 2, 3, 8, 9, 10]⟩, ⟨12, false, [], [0, 1, 2, 3, 4, 5, 6, 7, 8, 9, 10, 11]⟩, ⟨13, true, [1], [0, 1, 2, 3, 4, 5, 6, 7, 8, 9, 10, 11, 12]⟩]) .leaf))) := by
 intro R x y K
 kernel_rfl
theorem Z15r : ConOK Tryz.prog 64 Z18r :=
 con_o (Z135 Zw) (cons_ok ⟨.inl Z3r, trivial⟩) orcs_0
def Zm3 (f : Zhz) : Con := { args := [.agg [.ints .u64 (some 5), .ints .u64 (some 5), .ints .u64 (some 5), .ints .u64 (some 5)], .agg [.ints .u64 (some 5), .ints .u64 (some 5), .ints .u64 (some 5), .ints .u64 (some 5)]], blks := [], shapes := [⟨(List Int) × (List Int) × (List Int) × (List Int), fun r => (.c (.agg [.ints .u64 r.1 5, .ints .u64 r.2.1 5, .ints .u64 r.2.2.1 5, .ints .u64 r.2.2.2 5]), [], 0)⟩], F := fun R x y k => f R (x.1.1) (x.1.2.1) (x.1.2.2.1) (x.1.2.2.2.1) (x.2.1.1) (x.2.1.2.1) (x.2.1.2.2.1) (x.2.1.2.2.2.1) (fun z0 z1 z2 z3 => k.1 (z0, z1, z2, z3)) }
def Z18c : Con := Zm3 Zdx
theorem Z13m (g0 : Z1g) (g1 : Zz) (g2 : Z6) (g3 : Z1u) : (Zm3 (Zmu g0 g1 g2 g3)).Says Tryz.prog Tryz.f63 (conL [(119, Z87 g0), (127, Z3y g1), (116, Z1e g2), (128, Z9b g3)]) (pieceL 0 []) (.node .leaf (.node (.draw [⟨0, false, [0], []⟩, ⟨1, false, [1], []⟩, ⟨2, true, [], []⟩, ⟨3, true, [], [2]⟩, ⟨4, true, [], [2, 3]⟩, ⟨5, true, [], [0, 1, 2, 3, 4]⟩, ⟨6, true, [2], [0, 1, 2, 3, 4, 5]⟩]) .leaf)) := by
 intro R x y K
 kernel_rfl
theorem Z15h : ConOK Tryz.prog 63 Z18c :=
 con_o (Z13m Z1f Zv Z4 Z1i) (cons_ok ⟨.inl Za7, .inl Z4a, .inl Z1a, .inl Ze5, trivial⟩) orcs_0
def Ze9 (f : Z8a) : Con := { args := [.agg [.ints .u64 (some 5), .ints .u64 (some 5), .ints .u64 (some 5), .ints .u64 (some 5)]], blks := [], shapes := [⟨Str, fun r => (.c (.sc (.str r)), [], 0)⟩], F := fun R x y k => f R (x.1.1) (x.1.2.1) (x.1.2.2.1) (x.1.2.2.2.1) (fun z0 => k.1 z0) }
def Z16g : Con := Ze9 Z5q
theorem Z106 (g0 : Z9a) (g1 : Z2b) (g2 : Z6) (g3 : Z2i) : (Ze9 (Zjl g0 g1 g2 g3)).Says Tryz.prog Tryz.f65 (conL [(133, Zer g0), (121, Z91 g1), (116, Z1e g2), (115, Z98 g3)]) (pieceL 0 []) (.node .leaf (.node .leaf (.node .leaf (.node .leaf (.node (.draw [⟨0, false, [], []⟩, ⟨1, false, [6], [0]⟩, ⟨2, false, [6], [0, 1]⟩, ⟨3, false, [1], []⟩, ⟨4, false, [5], []⟩, ⟨5, true, [], [3, 4]⟩, ⟨6, true, [], [3, 4, 5]⟩, ⟨7, false, [], [3, 4, 5, 6]⟩, ⟨8, false, [], [3, 4, 5, 6, 7]⟩, ⟨9, false, [], [3, 4, 5, 6, 7, 8]⟩, ⟨10, false, [], [0, 1, 2, 3, 4, 5, 6, 7, 8, 9]⟩, ⟨11, false, [6], [0, 1, 2, 3, 4, 5, 6, 7, 8, 9, 10]⟩, ⟨12, true, [6], [0, 1, 2, 3, 4, 5, 6, 7, 8, 9, 10, 11]⟩]) .leaf))))) := by
 intro R x y K
 kernel_rfl
theorem Zpi : ConOK Tryz.prog 65 Z16g :=
 con_o (Z106 Z6o Z23 Z4 Z21) (cons_ok ⟨.inl Zqz, .inl Zc5, .inl Z1a, .inl Ze4, trivial⟩) orcs_0
end
noncomputable section
open Go.Proofs
theorem Z14d : (Zez).Loops Tryz.prog 31 0 (conL []) (pieceL 0 []) (fsub Tryz.f124 [1, 1, 0, 1, 0, 0]) (.node .leaf (.node .leaf (.node (.node (.node .leaf (.draw [⟨0, false, [], []⟩, ⟨1, false, [], []⟩, ⟨2, false, [], [1]⟩, ⟨3, false, [0], [0, 1, 2]⟩, ⟨4, false, [0], [0, 1, 2, 3]⟩, ⟨5, false, [], []⟩, ⟨6, false, [], []⟩, ⟨7, false, [], [5, 6]⟩, ⟨8, false, [], [5, 6, 7]⟩, ⟨9, false, [], []⟩, ⟨10, false, [], [9]⟩, ⟨11, false, [], [9, 10]⟩, ⟨12, false, [], [5, 6, 7, 8, 9, 10, 11]⟩, ⟨13, false, [], [0, 1, 2, 3, 4, 5, 6, 7, 8, 9, 10, 11, 12]⟩, ⟨14, false, [0], [0, 1, 2, 3, 4, 5, 6, 7, 8, 9, 10, 11, 12, 13]⟩, ⟨15, true, [0], [0, 1, 2, 3, 4, 5, 6, 7, 8, 9, 10, 11, 12, 13, 14]⟩])) .leaf) .leaf))) [0, 3, 10, 11] [] [3] [] := by
 intro R v next K
 kernel_rfl
theorem Z16m : OrcOK Tryz.prog 31 0 (.loop (fsub Tryz.f124 [1, 1, 0, 1, 0, 0])) (fun R => pieceG 0 (Zez) R) :=
 piece_l (Z14d) (cons_ok trivial) orcs_0
def Z82 (f : Z1h) : Con := { args := [.sc (.s)], blks := [], shapes := [⟨(List Int), fun r => (.c (.sc (.slice 0 1 none none)), [(0, ⟨true, [.ints .u64 r r.length]⟩)], 1)⟩], F := fun R x y k => f R (x.1) (fun z0 => k.1 z0) }
def Z1b2 : Con := Z82 Z17
theorem Z16b : (Z82 (Ztx)).Says Tryz.prog Tryz.f124 (conL []) (pieceL 0 [(0, Zez)]) (.node .leaf (.node .leaf (.node (.node .leaf (.node (.orc 0 [0, 3, 10, 11] []) .leaf)) .leaf))) := by
 intro R x y K
 kernel_rfl
theorem Zae : ConOK Tryz.prog 124 Z1b2 :=
 con_o (Z16b) (cons_ok trivial) (orcs_1 [(0, [1, 1, 0, 1, 0])] ⟨piece_a Z16m, trivial⟩)
def Zhn (f : Z5x) : Con := { args := [], blks := [], shapes := [⟨(List Int), fun r => (.c (.agg [.ints .u64 r 4]), [], 0)⟩], F := fun R x y k => f R (fun z0 => k.1 z0) }
def Z1b1 : Con := Zhn Z3x
theorem Z16h : (Zhn (Zt5)).Says Tryz.prog Tryz.f126 (conL []) (pieceL 0 []) .leaf := by
 intro R x y K
 kernel_rfl
theorem Zoe : ConOK Tryz.prog 126 Z1b1 :=
 con_o (Z16h) (cons_ok trivial) orcs_0
theorem Zwg (g0 : Zfl) : (Z85 g0).Loops Tryz.prog 27 0 (conL [(192, Zyu g0)]) (pieceL 0 []) (fsub Tryz.f125 [1, 1, 0, 1, 0, 0]) (.node .leaf (.node .leaf (.node (.node (.node .leaf (.draw [⟨0, false, [], []⟩, ⟨1, false, [], []⟩, ⟨2, false, [0], [1]⟩, ⟨3, false, [0], [1, 2]⟩, ⟨4, false, [], []⟩, ⟨5, false, [1], [4]⟩, ⟨6, false, [1], [4, 5]⟩, ⟨7, false, [], []⟩, ⟨8, true, [], [1, 2, 3, 4, 5, 6, 7]⟩, ⟨9, false, [], [1, 2, 3, 4, 5, 6, 7, 8]⟩, ⟨10, false, [], [1, 2, 3, 4, 5, 6, 7, 8, 9]⟩, ⟨11, false, [], [1, 2, 3, 4, 5, 6, 7, 8, 9]⟩, ⟨12, false, [0], [0, 1, 2, 3, 4, 5, 6, 7, 8, 9, 10]⟩, ⟨13, true, [0], [0, 1, 2, 3, 4, 5, 6, 7, 8, 9, 10, 12]⟩, ⟨14, false, [], [0, 1, 2, 3, 4, 5, 6, 7, 8, 9, 10, 11, 12, 13]⟩])) .leaf) .leaf))) [2, 3, 4, 6, 8] [] [2, 4, 6] [] := by
 intro R v next K
 kernel_rfl
theorem Zzc : OrcOK Tryz.prog 27 0 (.loop (fsub Tryz.f125 [1, 1, 0, 1, 0, 0])) (fun R => pieceG 0 (Z85 Zb2) R) :=
 piece_l (Zwg Zb2) (cons_ok ⟨.inr Z13p, trivial⟩) orcs_0
def Z8v (f : Z2f) : Con := { args := [.agg [.ints .u64 (some 4)], .agg [.ints .u64 (some 4)]], blks := [], shapes := [⟨(List Int) × Int, fun r => (.tup [.agg [.ints .u64 r.1 4], .sc (.int .u64 r.2)], [], 0)⟩], F := fun R x y k => f R (x.1.1) (x.2.1.1) (fun z0 z1 => k.1 (z0, z1)) }
def Z15l : Con := Z8v Z1o
theorem Zyt (g0 : Zfl) : (Z8v (Zhx g0)).Says Tryz.prog Tryz.f125 (conL [(192, Zyu g0)]) (pieceL 0 [(0, Z85 g0)]) (.node .leaf (.node .leaf (.node (.node .leaf (.node (.orc 0 [2, 3, 4, 6, 8] []) .leaf)) .leaf))) := by
 intro R x y K
 kernel_rfl
theorem Zfg : ConOK Tryz.prog 125 Z15l :=
 con_o (Zyt Zb2) (cons_ok ⟨.inr Z13p, trivial⟩) (orcs_1 [(0, [1, 1, 0, 1, 0])] ⟨piece_a Zzc, trivial⟩)
def Ztj (f : Zo8) : Con := { args := [.sc (.s)], blks := [], shapes := [⟨Bool, fun r => (.c (.sc (.bool r)), [], 0)⟩], F := fun R x y k => f R (x.1) (fun z0 => k.1 z0) }
def Z1bb : Con := Ztj Zj0
theorem Z15y (g0 : Z1h) (g1 : Z5x) (g2 : Z2f) : (Ztj (Ztz g0 g1 g2)).Says Tryz.prog Tryz.f59 (conL [(124, Z82 g0), (126, Zhn g1), (125, Z8v g2)]) (pieceL 0 []) (.node .leaf (.node .leaf (.node (.draw [⟨0, false, [], []⟩, ⟨9, false, [], []⟩, ⟨1, true, [], [0]⟩, ⟨2, false, [1], [0, 1]⟩, ⟨3, false, [1], [0, 1, 2]⟩, ⟨4, true, [], [0, 1]⟩, ⟨5, true, [], [0, 1, 2, 3, 4]⟩, ⟨6, false, [], [0, 1, 2, 3, 4, 5]⟩, ⟨7, false, [], [0, 1, 2, 3, 4, 5, 6]⟩, ⟨8, false, [], [0, 1, 2, 3, 4, 5, 6]⟩, ⟨10, true, [0], [0, 1, 2, 3, 4, 5, 6, 7, 9]⟩, ⟨11, false, [], [0, 1, 2, 3, 4, 5, 6, 7, 8, 9, 10]⟩]) .leaf))) := by
 intro R x y K
 kernel_rfl
theorem Z189 : ConOK Tryz.prog 59 Z1bb :=
 con_o (Z15y Z17 Z3x Z1o) (cons_ok ⟨.inl Zae, .inl Zoe, .inl Zfg, trivial⟩) orcs_0
theorem Zw9 (g0 : Z5x) (g1 : Z2f) : (Z83 g0 g1).Loops Tryz.prog 34 0 (conL [(126, Zhn g0), (125, Z8v g1)]) (pieceL 0 []) (fsub Tryz.f203 [1, 0, 1, 0, 0]) (.node .leaf (.node .leaf (.node (.node (.node .leaf (.draw [⟨0, false, [], []⟩, ⟨1, false, [], []⟩, ⟨2, false, [0], [1]⟩, ⟨3, false, [0], [1, 2]⟩, ⟨4, false, [], [1, 2, 3]⟩, ⟨5, false, [], []⟩, ⟨6, false, [], [1, 2, 3, 4, 5]⟩, ⟨7, false, [], []⟩, ⟨8, false, [0], [7]⟩, ⟨9, false, [0], [7, 8]⟩, ⟨10, false, [], [7, 8, 9]⟩, ⟨11, false, [0], [0, 1, 2, 3, 4, 5, 6, 7, 8, 9]⟩, ⟨12, true, [0], [0, 1, 2, 3, 4, 5, 6, 7, 8, 9, 11]⟩, ⟨13, false, [], [0, 1, 2, 3, 4, 5, 6, 7, 8, 9, 10, 11, 12]⟩])) .leaf) .leaf))) [1, 2, 4, 8] [] [2, 4] [] := by
 intro R v next K
 kernel_rfl
theorem Zzp : OrcOK Tryz.prog 34 0 (.loop (fsub Tryz.f203 [1, 0, 1, 0, 0])) (fun R => pieceG 0 (Z83 Z3x Z1o) R) :=
 piece_l (Zw9 Z3x Z1o) (cons_ok ⟨.inl Zoe, .inl Zfg, trivial⟩) orcs_0
def Z95 (f : Z1p) : Con := { args := [.agg [.ints .u64 (some 4)], .sc (.i .u64)], blks := [], shapes := [⟨(List Int), fun r => (.c (.agg [.ints .u64 r 4]), [], 0)⟩], F := fun R x y k => f R (x.1.1) (x.2.1) (fun z0 => k.1 z0) }
def Z155 : Con := Z95 Z1c
theorem Zzt (g0 : Z5x) (g1 : Z2f) : (Z95 (Zi5 g0 g1)).Says Tryz.prog Tryz.f203 (conL [(126, Zhn g0), (125, Z8v g1)]) (pieceL 0 [(0, Z83 g0 g1)]) (.node .leaf (.node (.node .leaf (.node (.orc 0 [1, 2, 4, 8] []) .leaf)) (.node (.node (.draw [⟨0, false, [0], []⟩, ⟨6, false, [], []⟩, ⟨1, true, [], []⟩, ⟨2, true, [], [0, 1]⟩, ⟨3, false, [], [0, 1, 2]⟩, ⟨4, false, [], [0, 1, 2, 3]⟩, ⟨5, false, [], [0, 1, 2, 3]⟩, ⟨7, true, [2], [0, 1, 2, 3, 4, 6]⟩, ⟨8, false, [], [0, 1, 2, 3, 4, 5, 6, 7]⟩]) .leaf) .leaf))) := by
 intro R x y K
 kernel_rfl
theorem Zg0 : ConOK Tryz.prog 203 Z155 :=
 con_o (Zzt Z3x Z1o) (cons_ok ⟨.inl Zoe, .inl Zfg, trivial⟩) (orcs_1 [(0, [1, 0, 1, 0])] ⟨piece_a Zzp, trivial⟩)
theorem Z10a (g0 : Z1p) : (Zb6 g0).Loops Tryz.prog 27 1 (conL [(203, Z95 g0)]) (pieceL 1 []) (fsub Tryz.f164 [1, 1, 0, 1, 0, 0, 1, 0, 0, 1, 0, 0]) (.node .leaf (.node (.node (.draw [⟨0, false, [2], []⟩, ⟨1, false, [], []⟩, ⟨2, false, [], []⟩, ⟨3, false, [0], [1, 2]⟩, ⟨4, false, [0], [1, 2, 3]⟩, ⟨5, false, [], []⟩, ⟨6, false, [], [1, 2, 3, 4, 5]⟩, ⟨7, false, [], [1, 2, 3, 4, 5, 6]⟩, ⟨8, true, [], [0, 1, 2, 3, 4, 5, 6, 7]⟩, ⟨9, true, [2], [0, 1, 2, 3, 4, 5, 6, 7, 8]⟩]) .leaf) .leaf)) [0, 2, 3, 4, 5] [] [0, 2, 3, 4] [] := by
 intro R v next K
 kernel_rfl
theorem Z13c : OrcOK Tryz.prog 27 1 (.loop (fsub Tryz.f164 [1, 1, 0, 1, 0, 0, 1, 0, 0, 1, 0, 0])) (fun R => pieceG 1 (Zb6 Z1c) R) :=
 piece_l (Z10a Z1c) (cons_ok ⟨.inl Zg0, trivial⟩) orcs_0
theorem Zzy (g0 : Z1p) : (Zbe g0).Loops Tryz.prog 27 1 (conL [(203, Z95 g0)]) (pieceL 1 [(1, Zb6 g0)]) (fsub Tryz.f164 [1, 1, 0, 1, 0, 0]) (.node .leaf (.node (.node (.node .leaf (.node (.orc 1 [0, 2, 3, 4, 5] []) .leaf)) .leaf) .leaf)) [0, 2, 3, 4] [] [2, 3] [] := by
 intro R v next K
 kernel_rfl
theorem Z13g : OrcOK Tryz.prog 27 1 (.loop (fsub Tryz.f164 [1, 1, 0, 1, 0, 0])) (fun R => pieceG 1 (Zbe Z1c) R) :=
 piece_l (Zzy Z1c) (cons_ok ⟨.inl Zg0, trivial⟩) (orcs_1 [(1, [1, 0, 0, 1, 0])] ⟨piece_a Z13c, trivial⟩)
def Z6t (f : Z1d) : Con := { args := [.sc (.sl 0 1 none)], blks := [(true, [.ints .u64 none])], shapes := [⟨(List Int) × (List Int), fun r => (.c (.agg [.ints .u64 r.1 4]), [(0, ⟨true, [.ints .u64 r.2 r.2.length]⟩)], 0)⟩], F := fun R x y k => f R (y.1.1) (fun z0 z1 => k.1 (z0, z1)) }
def Z18g : Con := Z6t Z10
theorem Z13j (g0 : Z1p) : (Z6t (Zn4 g0)).Says Tryz.prog Tryz.f164 (conL [(203, Z95 g0)]) (pieceL 1 [(0, Zbe g0)]) (.node .leaf (.node .leaf (.node (.node .leaf (.node (.orc 0 [0, 2, 3, 4] []) .leaf)) .leaf))) := by
 intro R x y K
 kernel_rfl
theorem Za3 : ConOK Tryz.prog 164 Z18g :=
 con_o (Z13j Z1c) (cons_ok ⟨.inl Zg0, trivial⟩) (orcs_1 [(0, [1, 1, 0, 1, 0])] ⟨piece_a Z13g, trivial⟩)
theorem Zv5 : (Z75).Loops Tryz.prog 22 0 (conL []) (pieceL 0 []) (fsub Tryz.f165 [1, 1, 0, 1, 0, 0]) .leaf [1, 3, 5] [] [3] [] := by
 intro R v next K
 kernel_rfl
theorem Zxk : OrcOK Tryz.prog 22 0 (.loop (fsub Tryz.f165 [1, 1, 0, 1, 0, 0])) (fun R => pieceG 0 (Z75) R) :=
 piece_l (Zv5) (cons_ok trivial) orcs_0
def Z43 (f : Zx) : Con := { args := [.agg [.ints .u64 (some 4)]], blks := [], shapes := [⟨Str, fun r => (.c (.sc (.str r)), [], 0)⟩], F := fun R x y k => f R (x.1.1) (fun z0 => k.1 z0) }
def Z14f : Con := Z43 Zk
theorem Zxf : (Z43 (Zhg)).Says Tryz.prog Tryz.f165 (conL []) (pieceL 0 [(0, Z75)]) (.node .leaf (.node .leaf (.node (.node .leaf (.node (.orc 0 [1, 3, 5] []) .leaf)) .leaf))) := by
 intro R x y K
 kernel_rfl
theorem Z6i : ConOK Tryz.prog 165 Z14f :=
 con_o (Zxf) (cons_ok trivial) (orcs_1 [(0, [1, 1, 0, 1, 0])] ⟨piece_a Zxk, trivial⟩)
def Zoc (f : Zba) : Con := { args := [.sc (.s)], blks := [], shapes := [⟨Str × Int, fun r => (.tup [.sc (.str r.1), .sc (.int .i64 r.2)], [], 0)⟩], F := fun R x y k => f R (x.1) (fun z0 z1 => k.1 (z0, z1)) }
def Z1by : Con := Zoc Z76
theorem Z177 (g0 : Z1h) (g1 : Z1d) (g2 : Zx) : (Zoc (Zvq g0 g1 g2)).Says Tryz.prog Tryz.f131 (conL [(124, Z82 g0), (164, Z6t g1), (165, Z43 g2)]) (pieceL 0 []) .leaf := by
 intro R x y K
 kernel_rfl
theorem Z10l : ConOK Tryz.prog 131 Z1by :=
 con_o (Z177 Z17 Z10 Zk) (cons_ok ⟨.inl Zae, .inl Za3, .inl Z6i, trivial⟩) orcs_0
theorem Z13o (g0 : Z1h) (g1 : Z2h) (g2 : Zu) (g3 : Z1d) (g4 : Zx) : (Ze0 g0 g1 g2 g3 g4).Loops Tryz.prog 110 0 (conL [(124, Z82 g0), (162, Ze1 g1), (163, Z5t g2), (164, Z6t g3), (165, Z43 g4)]) (pieceL 0 []) (fsub Tryz.f91 [1, 1, 1, 0, 1, 0, 0, 1, 1, 0, 0, 1, 1, 0, 1, 0, 0]) .leaf [1, 8, 9, 10, 11, 36, 37, 38, 44, 45, 46] [] [1, 8, 9, 11, 36, 37, 38] [] := by
 intro R v next K
 kernel_rfl
theorem Z15b : OrcOK Tryz.prog 110 0 (.loop (fsub Tryz.f91 [1, 1, 1, 0, 1, 0, 0, 1, 1, 0, 0, 1, 1, 0, 1, 0, 0])) (fun R => pieceG 0 (Ze0 Z17 Z1m Zj Z10 Zk) R) :=
 piece_l (Z13o Z17 Z1m Zj Z10 Zk) (cons_ok ⟨.inl Zae, .inl Zhf, .inr Z50, .inl Za3, .inl Z6i, trivial⟩) orcs_0
theorem Z12h (g0 : Z1h) (g1 : Z2h) (g2 : Zu) (g3 : Z1d) (g4 : Zx) : (Zdz g0 g1 g2 g3 g4).Loops Tryz.prog 110 0 (conL [(124, Z82 g0), (162, Ze1 g1), (163, Z5t g2), (164, Z6t g3), (165, Z43 g4)]) (pieceL 0 []) (fsub Tryz.f91 [1, 1, 1, 0, 1, 0, 0, 1, 1, 0, 0, 1, 1, 1, 1, 0, 0]) .leaf [1, 8, 11, 17, 36, 37, 38] [] [1, 8, 36, 37, 38] [] := by
 intro R v next K
 kernel_rfl
theorem Z157 : OrcOK Tryz.prog 110 0 (.loop (fsub Tryz.f91 [1, 1, 1, 0, 1, 0, 0, 1, 1, 0, 0, 1, 1, 1, 1, 0, 0])) (fun R => pieceG 0 (Zdz Z17 Z1m Zj Z10 Zk) R) :=
 piece_l (Z12h Z17 Z1m Zj Z10 Zk) (cons_ok ⟨.inl Zae, .inl Zhf, .inr Z50, .inl Za3, .inl Z6i, trivial⟩) orcs_0
theorem Z12t (g0 : Z1h) (g1 : Z2h) (g2 : Zu) (g3 : Z1d) (g4 : Zx) : (Zdy g0 g1 g2 g3 g4).Loops Tryz.prog 110 0 (conL [(124, Z82 g0), (162, Ze1 g1), (163, Z5t g2), (164, Z6t g3), (165, Z43 g4)]) (pieceL 0 [(1, Ze0 g0 g1 g2 g3 g4), (2, Zdz g0 g1 g2 g3 g4)]) (fsub Tryz.f91 [1, 1, 1, 0, 1, 0, 0]) (.node .leaf (.node .leaf (.node (.node (.node .leaf (.node .leaf (.node (.node .leaf (.node (.orc 1 [1, 8, 9, 10, 11, 36, 37, 38, 44, 45, 46] []) .leaf)) (.node .leaf (.node (.orc 2 [1, 8, 11, 17, 36, 37, 38] []) .leaf))))) .leaf) .leaf))) [1, 8, 36, 37, 38] [] [8] [] := by
 intro R v next K
 kernel_rfl
theorem Z15p : OrcOK Tryz.prog 110 0 (.loop (fsub Tryz.f91 [1, 1, 1, 0, 1, 0, 0])) (fun R => pieceG 0 (Zdy Z17 Z1m Zj Z10 Zk) R) :=
 piece_l (Z12t Z17 Z1m Zj Z10 Zk) (cons_ok ⟨.inl Zae, .inl Zhf, .inr Z50, .inl Za3, .inl Z6i, trivial⟩) (orcs_1 [(1, [1, 1, 0, 0, 1, 1, 0, 1, 0]), (2, [1, 1, 0, 0, 1, 1, 1, 1, 0])] ⟨piece_a Z15b, piece_a Z157, trivial⟩)
def Zrk (f : Zly) : Con := { args := [.sc (.s), .sc (.s), .sc (.s)], blks := [], shapes := [⟨Str × Int, fun r => (.tup [.sc (.str r.1), .sc (.int .i64 r.2)], [], 0)⟩], F := fun R x y k => f R (x.1) (x.2.1) (x.2.2.1) (fun z0 z1 => k.1 (z0, z1)) }
def Z1ad : Con := Zrk Zh8
theorem Z154 (g0 : Z1h) (g1 : Z2h) (g2 : Zu) (g3 : Z1d) (g4 : Zx) : (Zrk (Zrr g0 g1 g2 g3 g4)).Says Tryz.prog Tryz.f91 (conL [(124, Z82 g0), (162, Ze1 g1), (163, Z5t g2), (164, Z6t g3), (165, Z43 g4)]) (pieceL 0 [(0, Zdy g0 g1 g2 g3 g4)]) (.node .leaf (.node .leaf (.node .leaf (.node (.node .leaf (.node (.orc 0 [1, 8, 36, 37, 38] []) .leaf)) .leaf)))) := by
 intro R x y K
 kernel_rfl
theorem Z172 : ConOK Tryz.prog 91 Z1ad :=
 con_o (Z154 Z17 Z1m Zj Z10 Zk) (cons_ok ⟨.inl Zae, .inl Zhf, .inr Z50, .inl Za3, .inl Z6i, trivial⟩) (orcs_1 [(0, [1, 1, 1, 0, 1, 0])] ⟨piece_a Z15p, trivial⟩)
end
noncomputable section
open Go.Proofs
theorem Z10e (g0 : Zb8) (g1 : Z3n) (g2 : Z3o) (g3 : Z54) (g4 : Zba) : (Zbd g0 g1 g2 g3 g4).Loops Tryz.prog 30 1 (conL [(129, Zoa g0), (130, Zcz g1), (130, Zcd g2), (132, Zf0 g3), (131, Zoc g4)]) (pieceL 1 []) (fsub Tryz.f62 [1, 1, 0, 1, 0, 0]) .leaf [3, 13, 14, 15] [(200003, .bytes [] 0)] [3] [] := by
 intro R v next K
 kernel_rfl
theorem Z138 : OrcOK Tryz.prog 30 1 (.loop (fsub Tryz.f62 [1, 1, 0, 1, 0, 0])) (fun R => pieceG 1 (Zbd Z6z Z3p Z2g Z38 Z76) R) :=
 piece_l (Z10e Z6z Z3p Z2g Z38 Z76) (cons_ok ⟨.inl Z10s, .inl Zni, .inl Zo3, .inl Zrs, .inl Z10l, trivial⟩) orcs_0
def Zgd (f : Za8) : Con := { args := [.sc (.sl 0 1 none)], blks := [(true, [.strs none])], shapes := [⟨Str × (List Str), fun r => (.c (.sc (.str r.1)), [(0, ⟨true, [.strs r.2 r.2.length]⟩)], 0)⟩], F := fun R x y k => f R (y.1.1) (fun z0 z1 => k.1 (z0, z1)) }
def Z182 : Con := Zgd Z7w
theorem Z13b (g0 : Zb8) (g1 : Z3n) (g2 : Z3o) (g3 : Z54) (g4 : Zba) : (Zgd (Zn7 g0 g1 g2 g3 g4)).Says Tryz.prog Tryz.f62 (conL [(129, Zoa g0), (130, Zcz g1), (130, Zcd g2), (132, Zf0 g3), (131, Zoc g4)]) (pieceL 1 [(0, Zbd g0 g1 g2 g3 g4)]) (.node .leaf (.node .leaf (.node (.node .leaf (.node (.orc 0 [3, 13, 14, 15] [(200003, .bytes [] 0)]) .leaf)) .leaf))) := by
 intro R x y K
 kernel_rfl
theorem Zsv : ConOK Tryz.prog 62 Z182 :=
 con_o (Z13b Z6z Z3p Z2g Z38 Z76) (cons_ok ⟨.inl Z10s, .inl Zni, .inl Zo3, .inl Zrs, .inl Z10l, trivial⟩) (orcs_1 [(0, [1, 1, 0, 1, 0])] ⟨piece_a Z138, trivial⟩)
def Zvu (f : Zrq) : Con := { args := [.sc (.s), .sc (.s), .sc (.s)], blks := [], shapes := [⟨Int, fun r => (.c (.sc (.int .i64 r)), [], 0)⟩], F := fun R x y k => f R (x.1) (x.2.1) (x.2.2.1) (fun z0 => k.1 z0) }
def Z1bv : Con := Zvu Zhe
theorem Z179 (g0 : Zpj) (g1 : Zo8) (g2 : Zj7) (g3 : Zaj) (g4 : Za8) (g5 : Zid) (g6 : Zhz) (g7 : Z8a) : (Zvu (Zwn g0 g1 g2 g3 g4 g5 g6 g7)).Says Tryz.prog Tryz.f33 (conL [(58, Zxo g0), (59, Ztj g1), (60, Zqq g2), (61, Zgf g3), (62, Zgd g4), (64, Zmb g5), (63, Zm3 g6), (65, Ze9 g7)]) (pieceL 0 []) (.node .leaf (.node .leaf (.node .leaf (.node .leaf (.node (.draw [⟨1, false, [], []⟩, ⟨2, false, [], [1]⟩, ⟨7, false, [], []⟩, ⟨0, true, [], []⟩, ⟨3, true, [], [0, 1, 2]⟩, ⟨4, false, [], [0, 1, 2, 3]⟩, ⟨5, false, [], [0, 1, 2, 3, 4]⟩, ⟨6, false, [], [0, 1, 2, 3, 4]⟩, ⟨8, true, [1], [0, 1, 2, 3, 4, 5, 7]⟩, ⟨9, false, [], [0, 1, 2, 3, 4, 5, 6, 7, 8]⟩]) (.node (.draw [⟨0, false, [0], []⟩, ⟨1, false, [], []⟩, ⟨2, false, [], []⟩, ⟨3, false, [], []⟩, ⟨4, false, [], [1, 2, 3]⟩, ⟨10, false, [], []⟩, ⟨5, true, [2], [1, 2, 3, 4]⟩, ⟨6, true, [], [0, 1, 2, 3, 4, 5]⟩, ⟨7, false, [], [0, 1, 2, 3, 4, 5, 6]⟩, ⟨8, false, [], [0, 1, 2, 3, 4, 5, 6, 7]⟩, ⟨9, false, [], [0, 1, 2, 3, 4, 5, 6, 7]⟩, ⟨11, true, [3], [0, 1, 2, 3, 4, 5, 6, 7, 8, 10]⟩, ⟨12, false, [], [0, 1, 2, 3, 4, 5, 6, 7, 8, 9, 10, 11]⟩]) (.node (.node (.draw [⟨0, false, [1], []⟩, ⟨1, false, [3], []⟩, ⟨5, false, [], []⟩, ⟨2, true, [], [1]⟩, ⟨3, true, [], [0, 1, 2]⟩, ⟨4, true, [], [0, 1, 2, 3]⟩, ⟨6, false, [], [0, 1, 2, 3, 4, 5]⟩]) .leaf) .leaf))))))) := by
 intro R x y K
 kernel_rfl
theorem Z194 : ConOK Tryz.prog 33 Z1bv :=
 con_o (Z179 Zle Zj0 Zfx Z7x Z7w Zdi Zdx Z5q) (cons_ok ⟨.inl Z16f, .inl Z189, .inl Z133, .inl Zsx, .inl Zsv, .inl Z15r, .inl Z15h, .inl Zpi, trivial⟩) orcs_0
def Zra (f : Zjd) : Con := { args := [.sc (.s)], blks := [], shapes := [⟨Str, fun r => (.c (.sc (.str r)), [], 0)⟩], F := fun R x y k => f R (x.1) (fun z0 => k.1 z0) }
def Z1cc : Con := Zra Zfv
theorem Z184 (g0 : Zj7) (g1 : Zaj) (g2 : Z8a) : (Zra (Zza g0 g1 g2)).Says Tryz.prog Tryz.f90 (conL [(60, Zqq g0), (61, Zgf g1), (65, Ze9 g2)]) (pieceL 0 []) .leaf := by
 intro R x y K
 kernel_rfl
theorem Z13l : ConOK Tryz.prog 90 Z1cc :=
 con_o (Z184 Zfx Z7x Z5q) (cons_ok ⟨.inl Z133, .inl Zsx, .inl Zpi, trivial⟩) orcs_0
def Zr7 (f : Zj5) : Con := { args := [.sc (.s)], blks := [], shapes := [⟨Str × Str × Str × Int, fun r => (.tup [.agg [.one (.str r.1), .one (.str r.2.1), .one (.str r.2.2.1)], .sc (.int .i64 r.2.2.2)], [], 0)⟩], F := fun R x y k => f R (x.1) (fun z0 z1 z2 z3 => k.1 (z0, z1, z2, z3)) }
def Z1cb : Con := Zr7 Zfs
theorem Z18f (g0 : Zj4) (g1 : Zjd) : (Zr7 (Zy2 g0 g1)).Says Tryz.prog Tryz.f45 (conL [(95, Zqt g0), (90, Zra g1)]) (pieceL 0 []) (.node .leaf (.node .leaf (.node .leaf (.node .leaf (.node .leaf (.node .leaf (.node (.draw [⟨0, false, [], []⟩, ⟨1, false, [], []⟩, ⟨2, false, [1], [1]⟩, ⟨3, false, [1], [1, 2]⟩, ⟨4, false, [], []⟩, ⟨5, true, [], [4]⟩, ⟨6, false, [], [0, 1, 2, 3, 4, 5]⟩, ⟨7, true, [0], [0, 1, 2, 3, 4, 5, 6]⟩, ⟨8, false, [], [0, 1, 2, 3, 4, 5, 6, 7]⟩]) .leaf))))))) := by
 intro R x y K
 kernel_rfl
theorem Z12n : ConOK Tryz.prog 45 Z1cb :=
 con_o (Z18f Zfw Zfv) (cons_ok ⟨.inl Z139, .inl Z13l, trivial⟩) orcs_0
def Zw1 (f : Zrm) : Con := { args := [.sc (.s)], blks := [], shapes := [⟨Str × Int, fun r => (.tup [.sc (.str r.1), .sc (.int .i64 r.2)], [], 0)⟩], F := fun R x y k => f R (x.1) (fun z0 z1 => k.1 (z0, z1)) }
def Z1c0 : Con := Zw1 Zgw
theorem Z17c (g0 : Zj5) : (Zw1 (Zwo g0)).Says Tryz.prog Tryz.f22 (conL [(45, Zr7 g0)]) (pieceL 0 []) .leaf := by
 intro R x y K
 kernel_rfl
theorem Z19y : ConOK Tryz.prog 22 Z1c0 :=
 con_o (Z17c Zfs) (cons_ok ⟨.inl Z12n, trivial⟩) orcs_0
def Z11m (f : Zxl) : Con := { args := [.sc (.s), .sc (.s)], blks := [], shapes := [⟨Str × Int, fun r => (.tup [.sc (.str r.1), .sc (.int .i64 r.2)], [], 0)⟩], F := fun R x y k => f R (x.1) (x.2.1) (fun z0 z1 => k.1 (z0, z1)) }
def Z1d5 : Con := Z11m Zll
theorem Z19o (g0 : Zj5) (g1 : Za8) (g2 : Zjd) (g3 : Zly) : (Z11m (Z11j g0 g1 g2 g3)).Says Tryz.prog Tryz.f42 (conL [(45, Zr7 g0), (62, Zgd g1), (90, Zra g2), (91, Zrk g3)]) (pieceL 0 []) (.node .leaf (.node .leaf (.node .leaf (.node .leaf (.node .leaf (.node (.draw [⟨0, false, [], []⟩, ⟨1, false, [0], []⟩, ⟨2, false, [0], [1]⟩, ⟨3, false, [], []⟩, ⟨4, false, [], [0, 1, 2, 3]⟩, ⟨6, false, [0], []⟩, ⟨7, false, [0], [6]⟩, ⟨8, false, [], []⟩, ⟨5, true, [2], [0, 1, 2, 3, 4]⟩, ⟨9, true, [], [0, 1, 2, 3, 4, 5, 6, 7, 8]⟩, ⟨10, false, [], [0, 1, 2, 3, 4, 5, 6, 7, 8, 9]⟩, ⟨11, false, [], [0, 1, 2, 3, 4, 5, 6, 7, 8, 9, 10]⟩, ⟨12, false, [], [0, 1, 2, 3, 4, 5, 6, 7, 8, 9, 10]⟩, ⟨13, false, [], [0, 1, 2, 3, 4, 5, 6, 7, 8, 9, 10, 11]⟩, ⟨14, false, [], [0, 1, 2, 3, 4, 5, 6, 7, 8, 9, 10, 11, 12, 13]⟩]) .leaf)))))) := by
 intro R x y K
 kernel_rfl
theorem Z1b3 : ConOK Tryz.prog 42 Z1d5 :=
 con_o (Z19o Zfs Z7w Zfv Zh8) (cons_ok ⟨.inl Z12n, .inl Zsv, .inl Z13l, .inl Z172, trivial⟩) orcs_0
end
noncomputable section
open Go.Proofs
def Z11w (f : Zxm) : Con := { args := [.sc (.i .i64)], blks := [], shapes := [⟨Int × Int × Int, fun r => (.tup [.sc (.int .i64 r.1), .sc (.int .i64 r.2.1), .sc (.int .i64 r.2.2)], [], 0)⟩], F := fun R x y k => f R (x.1) (fun z0 z1 z2 => k.1 (z0, z1, z2)) }
def Z1cx : Con := Z11w Zlh
theorem Z1a0 : (Z11w (Z11p)).Says Tryz.prog Tryz.f23 (conL []) (pieceL 0 []) .leaf := by
 intro R x y K
 kernel_rfl
theorem Z1b5 : ConOK Tryz.prog 23 Z1cx :=
 con_o (Z1a0) (cons_ok trivial) orcs_0
def Zwu (f : Zqs) : Con := { args := [.sc (.i .i64), .sc (.i .i64)], blks := [], shapes := [⟨Str, fun r => (.c (.sc (.str r)), [], 0)⟩], F := fun R x y k => f R (x.1) (x.2.1) (fun z0 => k.1 z0) }
def Z1bw : Con := Zwu Zbp
theorem Z174 (g0 : Zwt) (g1 : Zqo) : (Zwu (Z14o g0 g1)).Says Tryz.prog Tryz.f24 (conL [(46, Z124 g0), (47, Zzd g1)]) (pieceL 0 []) .leaf := by
 intro R x y K
 kernel_rfl
theorem Z1a5 : ConOK Tryz.prog 24 Z1bw :=
 con_o (Z174 Zwy Zrl) (cons_ok ⟨.inl Z18l, .inl Z15s, trivial⟩) orcs_0
def Zfd (f : Z3q) : Con := { args := [.sc (.i .i64)], blks := [], shapes := [⟨Str × Int, fun r => (.tup [.sc (.str r.1), .sc (.int .i64 r.2)], [], 0)⟩], F := fun R x y k => f R (x.1) (fun z0 z1 => k.1 (z0, z1)) }
def Z1d2 : Con := Zfd Z1n
theorem Z19w (g0 : Zxm) (g1 : Zqs) : (Zfd (Zue g0 g1)).Says Tryz.prog Tryz.f10 (conL [(23, Z11w g0), (24, Zwu g1)]) (pieceL 0 []) .leaf := by
 intro R x y K
 kernel_rfl
theorem Zij : ConOK Tryz.prog 10 Z1d2 :=
 con_o (Z19w Zlh Zbp) (cons_ok ⟨.inl Z1b5, .inl Z1a5, trivial⟩) orcs_0
def Z73 (f : Z37) : Con := { args := [.sc (.ptr 0 0 0 0 0), .sc (.i .i64)], blks := [(true, [.one (.s), .one (.b)])], shapes := [⟨Str × Str × Bool, fun r => (.c (.sc (.str r.1)), [(0, ⟨true, [.one (.str r.2.1), .one (.bool r.2.2)]⟩)], 0)⟩], F := fun R x y k => f R (x.2.1) (y.1.1) (y.1.2.1) (fun z0 z1 z2 => k.1 (z0, z1, z2)) }
def Z13n : Con := Z73 Z15
theorem Zwf (g0 : Z10q) : (Z73 (Z52 g0)).Says Tryz.prog Tryz.f49 (conL [(103, Z14b g0)]) (pieceL 1 []) .leaf := by
 intro R x y K
 kernel_rfl
theorem Zdr : ConOK Tryz.prog 49 Z13n :=
 con_o (Zwf Z9c) (cons_ok ⟨.inl Z1bq, trivial⟩) orcs_0
def Zfc (f : Zbs) : Con := { args := [.sc (.ptr 0 0 0 0 0), .sc (.i .i64)], blks := [(true, [.one (.s), .one (.b)])], shapes := [⟨Str × Bool × Str × Bool, fun r => (.c (.sc (.ptr 1 0 0 0 0)), [(0, ⟨true, [.one (.str r.1), .one (.bool r.2.1)]⟩), (1, ⟨true, [.one (.str r.2.2.1), .one (.bool r.2.2.2)]⟩)], 1)⟩], F := fun R x y k => f R (x.2.1) (y.1.1) (y.1.2.1) (fun z0 z1 z2 z3 => k.1 (z0, z1, z2, z3)) }
def Z12x : Con := Zfc Z1z
theorem Zwh (g0 : Z37) : (Zfc (Zaz g0)).Says Tryz.prog Tryz.f48 (conL [(49, Z73 g0)]) (pieceL 1 []) .leaf := by
 intro R x y K
 kernel_rfl
theorem Zy7 : ConOK Tryz.prog 48 Z12x :=
 con_o (Zwh Z15) (cons_ok ⟨.inl Zdr, trivial⟩) orcs_0
def Zfz (f : Zbz) : Con := { args := [.sc (.ptr 0 0 0 0 0)], blks := [(true, [.one (.s), .one (.b)])], shapes := [⟨Str × Str × Bool, fun r => (.c (.sc (.str r.1)), [(0, ⟨true, [.one (.str r.2.1), .one (.bool r.2.2)]⟩)], 0)⟩], F := fun R x y k => f R (y.1.1) (y.1.2.1) (fun z0 z1 z2 => k.1 (z0, z1, z2)) }
def Z12i : Con := Zfz Z2d
theorem Zwd (g0 : Z37) (g1 : Zi9) : (Zfz (Zau g0 g1)).Says Tryz.prog Tryz.f50 (conL [(49, Z73 g0), (104, Zmf g1)]) (pieceL 1 []) .leaf := by
 intro R x y K
 kernel_rfl
theorem Zyl : ConOK Tryz.prog 50 Z12i :=
 con_o (Zwd Z15 Zah) (cons_ok ⟨.inl Zdr, .inl Z15d, trivial⟩) orcs_0
theorem Z16w : (Zr5).Joins Tryz.prog 34 0 (conL []) (pieceL 0 []) (fsub Tryz.f108 [1, 0, 1]) .leaf [0, 1, 2] [] := by
 intro R v next K
 kernel_rfl
theorem Z19h : OrcOK Tryz.prog 34 0 (fsub Tryz.f108 [1, 0, 1]) (fun R => pieceG 0 (Zr5) R) :=
 piece_j (Z16w) (cons_ok trivial) orcs_0
def Znq (f : Z7b) : Con := { args := [.sc (.i .i64), .sc (.i .i64), .sc (.i .i64)], blks := [], shapes := [⟨Int, fun r => (.c (.sc (.int .i64 r)), [], 0)⟩], F := fun R x y k => f R (x.1) (x.2.1) (x.2.2.1) (fun z0 => k.1 z0) }
def Z1d0 : Con := Znq Z3d
theorem Z19q : (Znq (Znm)).Says Tryz.prog Tryz.f108 (conL []) (pieceL 0 [(0, Zr5)]) (.node .leaf (.node (.node .leaf (.orc 0 [0, 1, 2, 8] [])) .leaf)) := by
 intro R x y K
 kernel_rfl
theorem Zvv : ConOK Tryz.prog 108 Z1d0 :=
 con_o (Z19q) (cons_ok trivial) (orcs_1 [(0, [1, 0, 1])] ⟨piece_a Z19h, trivial⟩)
theorem Z190 (g0 : Z3w) (g1 : Z4s) (g2 : Z7b) (g3 : Z3q) : (Zxs g0 g1 g2 g3).Joins Tryz.prog 72 0 (conL [(106, Zhi g0), (107, Zlr g1), (108, Znq g2), (10, Zfd g3)]) (pieceL 0 []) (fsub Tryz.f52 [1, 1, 1, 0, 1, 0, 0, 1, 1, 0, 0, 1, 1, 0, 1]) .leaf [0, 4, 5, 6, 7, 20, 21, 68, 69, 70] [] := by
 intro R v next K
 kernel_rfl
theorem Z1bf : OrcOK Tryz.prog 72 0 (fsub Tryz.f52 [1, 1, 1, 0, 1, 0, 0, 1, 1, 0, 0, 1, 1, 0, 1]) (fun R => pieceG 0 (Zxs Z33 Z32 Z3d Z1n) R) :=
 piece_j (Z190 Z33 Z32 Z3d Z1n) (cons_ok ⟨.inl Zou, .inl Zp9, .inl Zvv, .inl Zij, trivial⟩) orcs_0
theorem Z19p (g0 : Z3w) (g1 : Z4s) (g2 : Z7b) (g3 : Z3q) : (Zr6 g0 g1 g2 g3).Loops Tryz.prog 72 0 (conL [(106, Zhi g0), (107, Zlr g1), (108, Znq g2), (10, Zfd g3)]) (pieceL 0 [(1, Zxs g0 g1 g2 g3)]) (fsub Tryz.f52 [1, 1, 1, 0, 1, 0, 0]) (.node .leaf (.node .leaf (.node (.node (.node .leaf (.node .leaf (.node (.node .leaf (.orc 1 [0, 4, 5, 6, 7, 20, 21, 28] [])) .leaf))) .leaf) .leaf))) [0, 4, 20, 21] [] [0, 4, 68, 69, 70] [] := by
 intro R v next K
 kernel_rfl
theorem Z1b4 : OrcOK Tryz.prog 72 0 (.loop (fsub Tryz.f52 [1, 1, 1, 0, 1, 0, 0])) (fun R => pieceG 0 (Zr6 Z33 Z32 Z3d Z1n) R) :=
 piece_l (Z19p Z33 Z32 Z3d Z1n) (cons_ok ⟨.inl Zou, .inl Zp9, .inl Zvv, .inl Zij, trivial⟩) (orcs_1 [(1, [1, 1, 0, 0, 1, 1, 0, 1])] ⟨piece_a Z1bf, trivial⟩)
def Z162 (f : Z14e) : Con := { args := [.sc (.s)], blks := [], shapes := [⟨Int × Bool, fun r => (.tup [.sc (.int .i64 r.1), .sc (.bool r.2)], [], 0)⟩], F := fun R x y k => f R (x.1) (fun z0 z1 => k.1 (z0, z1)) }
def Z1dj : Con := Z162 Zff
theorem Z1b7 (g0 : Z3w) (g1 : Z4s) (g2 : Z7b) (g3 : Z3q) : (Z162 (Z10w g0 g1 g2 g3)).Says Tryz.prog Tryz.f52 (conL [(106, Zhi g0), (107, Zlr g1), (108, Znq g2), (10, Zfd g3)]) (pieceL 0 [(0, Zr6 g0 g1 g2 g3)]) (.node .leaf (.node .leaf (.node .leaf (.node (.node .leaf (.node (.orc 0 [0, 4, 20, 21] []) .leaf)) (.node (.draw [⟨0, false, [0], []⟩, ⟨1, false, [0], [0]⟩, ⟨2, false, [0], []⟩, ⟨3, false, [0], [2]⟩, ⟨4, false, [0], []⟩, ⟨5, false, [0], [4]⟩, ⟨8, false, [0], []⟩, ⟨9, false, [0], [8]⟩, ⟨10, false, [], [8, 9]⟩, ⟨12, false, [0], []⟩, ⟨13, false, [0], [12]⟩, ⟨14, false, [], [12, 13]⟩, ⟨16, false, [0], []⟩, ⟨17, false, [0], [16]⟩, ⟨6, true, [], [0, 1, 2, 3, 4, 5]⟩, ⟨7, false, [], [0, 1, 2, 3, 4, 5, 6]⟩, ⟨11, false, [], [0, 1, 2, 3, 4, 5, 6, 7, 8, 9, 10]⟩, ⟨15, false, [], [0, 1, 2, 3, 4, 5, 6, 7, 8, 9, 10, 11, 12, 13, 14]⟩, ⟨18, false, [], [0, 1, 2, 3, 4, 5, 6, 7, 8, 9, 10, 11, 12, 13, 14, 15, 16, 17]⟩, ⟨19, false, [], [0, 1, 2, 3, 4, 5, 6, 7, 8, 9, 10, 11, 12, 13, 14, 15, 16, 17, 18]⟩]) .leaf))))) := by
 intro R x y K
 kernel_rfl
theorem Z1c2 : ConOK Tryz.prog 52 Z1dj :=
 con_o (Z1b7 Z33 Z32 Z3d Z1n) (cons_ok ⟨.inl Zou, .inl Zp9, .inl Zvv, .inl Zij, trivial⟩) (orcs_1 [(0, [1, 1, 1, 0, 1, 0])] ⟨piece_a Z1b4, trivial⟩)
def Zz2 (f : Zug) : Con := { args := [.sc (.s)], blks := [], shapes := [⟨Int × Str × Int × Int × Str × Str, fun r => (.tup [.agg [.one (.int .i64 r.1), .one (.str r.2.1), .one (.int .i64 r.2.2.1), .one (.int .i64 r.2.2.2.1), .one (.str r.2.2.2.2.1)], .sc (.str r.2.2.2.2.2)], [], 0)⟩], F := fun R x y k => f R (x.1) (fun z0 z1 z2 z3 z4 z5 => k.1 (z0, z1, z2, z3, z4, z5)) }
def Z1ck : Con := Zz2 Z8t
theorem Z188 (g0 : Zbs) (g1 : Z37) (g2 : Zbz) (g3 : Zrg) (g4 : Z14e) : (Zz2 (Zqb g0 g1 g2 g3 g4)).Says Tryz.prog Tryz.f29 (conL [(48, Zfc g0), (49, Z73 g1), (50, Zfz g2), (51, Zwp g3), (52, Z162 g4)]) (pieceL 0 []) .leaf := by
 intro R x y K
 kernel_rfl
theorem Z1a9 : ConOK Tryz.prog 29 Z1ck :=
 con_o (Z188 Z1z Z15 Z2d Zdh Zff) (cons_ok ⟨.inl Zy7, .inl Zdr, .inl Zyl, .inl Z199, .inl Z1c2, trivial⟩) orcs_0
def Zjy (f : Z84) : Con := { args := [.sc (.i .u8)], blks := [], shapes := [⟨Bool, fun r => (.c (.sc (.bool r)), [], 0)⟩], F := fun R x y k => f R (x.1) (fun z0 => k.1 z0) }
def Z1aa : Con := Zjy Z4z
theorem Z152 : (Zjy (Zr1)).Says Tryz.prog Tryz.f110 (conL []) (pieceL 0 []) .leaf := by
 intro R x y K
 kernel_rfl
theorem Zwz : ConOK Tryz.prog 110 Z1aa :=
 con_o (Z152) (cons_ok trivial) orcs_0
theorem Zjg (g0 : Z84) : (Z2x g0).Loops Tryz.prog 19 1 (conL [(110, Zjy g0)]) (pieceL 1 []) (fsub Tryz.f185 [1, 0, 1, 0, 0]) .leaf [0, 1, 7, 8] [] [4] [] := by
 intro R v next K
 kernel_rfl
theorem Zl8 : OrcOK Tryz.prog 19 1 (.loop (fsub Tryz.f185 [1, 0, 1, 0, 0])) (fun R => pieceG 1 (Z2x Z4z) R) :=
 piece_l (Zjg Z4z) (cons_ok ⟨.inl Zwz, trivial⟩) orcs_0
def Z7k (f : Z4v) : Con := { args := [.sc (.sl 0 1 none), .sc (.fn Zru [])], blks := [(true, [.bytes none])], shapes := [⟨Int × Str, fun r => (.c (.sc (.int .i64 r.1)), [(0, ⟨true, [.bytes r.2 r.2.length]⟩)], 0)⟩], F := fun R x y k => f R (y.1.1) (fun z0 z1 => k.1 (z0, z1)) }
def Zpx : Con := Z7k Z4w
theorem Zl6 (g0 : Z84) : (Z7k (Z7m g0)).Says Tryz.prog Tryz.f185 (conL [(110, Zjy g0)]) (pieceL 1 [(0, Z2x g0)]) (.node .leaf (.node (.node .leaf (.node (.orc 0 [0, 1, 7, 8] []) .leaf)) .leaf)) := by
 intro R x y K
 kernel_rfl
theorem Zma : ConOK Tryz.prog 185 Zpx :=
 con_o (Zl6 Z4z) (cons_ok ⟨.inl Zwz, trivial⟩) (orcs_1 [(0, [1, 0, 1, 0])] ⟨piece_a Zl8, trivial⟩)
def Z65 (f : Z3s) : Con := { args := [.sc (.sl 0 1 none), .sc (.fn Zru [])], blks := [(true, [.bytes none])], shapes := [⟨Bool × Str, fun r => (.c (.sc (.bool r.1)), [(0, ⟨true, [.bytes r.2 r.2.length]⟩)], 0)⟩], F := fun R x y k => f R (y.1.1) (fun z0 z1 => k.1 (z0, z1)) }
def Zmc : Con := Z65 Z3v
theorem Zip (g0 : Z4v) : (Z65 (Z60 g0)).Says Tryz.prog Tryz.f109 (conL [(185, Z7k g0)]) (pieceL 1 []) .leaf := by
 intro R x y K
 kernel_rfl
theorem Zk3 : ConOK Tryz.prog 109 Zmc :=
 con_o (Zip Z4w) (cons_ok ⟨.inl Zma, trivial⟩) orcs_0
def Zw8 (f : Zqa) : Con := { args := [.sc (.s)], blks := [], shapes := [⟨Bool, fun r => (.c (.sc (.bool r)), [], 0)⟩], F := fun R x y k => f R (x.1) (fun z0 => k.1 z0) }
def Z1bk : Con := Zw8 Zkd
theorem Z16t (g0 : Z3s) : (Zw8 (Zvl g0)).Says Tryz.prog Tryz.f53 (conL [(109, Z65 g0)]) (pieceL 0 []) .leaf := by
 intro R x y K
 kernel_rfl
theorem Z1a1 : ConOK Tryz.prog 53 Z1bk :=
 con_o (Z16t Z3v) (cons_ok ⟨.inl Zk3, trivial⟩) orcs_0
def Zrc (f : Zj9) : Con := { args := [.agg [.one (.i .i64), .one (.s), .one (.i .i64), .one (.i .i64), .one (.s)]], blks := [], shapes := [⟨Bool, fun r => (.c (.sc (.bool r)), [], 0)⟩], F := fun R x y k => f R (x.1.1) (x.1.2.1) (x.1.2.2.1) (x.1.2.2.2.1) (x.1.2.2.2.2.1) (fun z0 => k.1 z0) }
def Z1c6 : Con := Zrc Zfa
theorem Z18n (g0 : Zqa) : (Zrc (Zzv g0)).Says Tryz.prog Tryz.f30 (conL [(53, Zw8 g0)]) (pieceL 0 []) .leaf := by
 intro R x y K
 kernel_rfl
theorem Z134 : ConOK Tryz.prog 30 Z1c6 :=
 con_o (Z18n Zkd) (cons_ok ⟨.inl Z1a1, trivial⟩) orcs_0
def Zlu (f : Zem) : Con := { args := [.sc (.sl 0 1 none)], blks := [(true, [.ints .i64 none])], shapes := [⟨Str × (List Int), fun r => (.c (.sc (.str r.1)), [(0, ⟨true, [.ints .i64 r.2 r.2.length]⟩)], 0)⟩], F := fun R x y k => f R (y.1.1) (fun z0 z1 => k.1 (z0, z1)) }
def Z1ba : Con := Zlu Zc1
theorem Z15u (g0 : Zqm) : (Zlu (Z127 g0)).Says Tryz.prog Tryz.f113 (conL [(186, Zwk g0)]) (pieceL 1 []) .leaf := by
 intro R x y K
 kernel_rfl
theorem Zye : ConOK Tryz.prog 113 Z1ba :=
 con_o (Z15u Zz1) (cons_ok ⟨.inl Z193, trivial⟩) orcs_0
def Zab (f : Z49) : Con := { args := [.sc (.i .i64), .sc (.sl 0 1 none)], blks := [(false, [.strs none])], shapes := [⟨Str × (List Str), fun r => (.c (.sc (.str r.1)), [(0, ⟨false, [.strs r.2 r.2.length]⟩)], 0)⟩], F := fun R x y k => f R (x.1) (y.1.1) (fun z0 z1 => k.1 (z0, z1)) }
def Z19a : Con := Zab Z3e
theorem Z147 (g0 : Zwa) (g1 : Z2e) : (Zab (Zor g0 g1)).Says Tryz.prog Tryz.f54 (conL [(112, Z129 g0), (111, Zda g1)]) (pieceL 1 []) .leaf := by
 intro R x y K
 kernel_rfl
theorem Zf4 : ConOK Tryz.prog 54 Z19a :=
 con_o (Z147 Zo6 Z1v) (cons_ok ⟨.inl Z18p, .inl Zen, trivial⟩) orcs_0
def Zz8 (f : Zua) : Con := { args := [.sc (.s)], blks := [], shapes := [⟨Str, fun r => (.c (.sc (.str r)), [], 0)⟩], F := fun R x y k => f R (x.1) (fun z0 => k.1 z0) }
def Z1cl : Con := Zz8 Znl
theorem Z17r (g0 : Zem) (g1 : Z49) : (Zz8 (Zyp g0 g1)).Says Tryz.prog Tryz.f56 (conL [(113, Zlu g0), (54, Zab g1)]) (pieceL 0 []) .leaf := by
 intro R x y K
 kernel_rfl
theorem Z1at : ConOK Tryz.prog 56 Z1cl :=
 con_o (Z17r Zc1 Z3e) (cons_ok ⟨.inl Zye, .inl Zf4, trivial⟩) orcs_0
def Zi6 (f : Zbx) : Con := { args := [], blks := [], shapes := [⟨Str, fun r => (.c (.sc (.str r)), [], 0)⟩], F := fun R x y k => f R (fun z0 => k.1 z0) }
def Z19j : Con := Zi6 Z93
theorem Z14h (g0 : Zem) (g1 : Z49) : (Zi6 (Zoh g0 g1)).Says Tryz.prog Tryz.f55 (conL [(113, Zlu g0), (54, Zab g1)]) (pieceL 0 []) .leaf := by
 intro R x y K
 kernel_rfl
theorem Zup : ConOK Tryz.prog 55 Z19j :=
 con_o (Z14h Zc1 Z3e) (cons_ok ⟨.inl Zye, .inl Zf4, trivial⟩) orcs_0
def Zri (f : Zjc) : Con := { args := [.agg [.one (.i .i64), .one (.s), .one (.i .i64), .one (.i .i64), .one (.s)]], blks := [], shapes := [⟨Str, fun r => (.c (.sc (.str r)), [], 0)⟩], F := fun R x y k => f R (x.1.1) (x.1.2.1) (x.1.2.2.1) (x.1.2.2.2.1) (x.1.2.2.2.2.1) (fun z0 => k.1 z0) }
def Z1ca : Con := Zri Z78
theorem Z18j (g0 : Z3q) (g1 : Zua) (g2 : Z146) (g3 : Zbx) (g4 : Z49) : (Zri (Zzf g0 g1 g2 g3 g4)).Says Tryz.prog Tryz.f32 (conL [(10, Zfd g0), (56, Zz8 g1), (57, Z16l g2), (55, Zi6 g3), (54, Zab g4)]) (pieceL 0 []) (.node .leaf (.node .leaf (.node .leaf (.node .leaf (.node (.draw [⟨0, false, [0], []⟩, ⟨1, false, [0], [0]⟩, ⟨4, false, [], []⟩, ⟨5, false, [], []⟩, ⟨6, false, [], [5]⟩, ⟨8, false, [], []⟩, ⟨9, false, [], [8]⟩, ⟨13, false, [], []⟩, ⟨15, false, [0], []⟩, ⟨16, false, [0], [15]⟩, ⟨17, false, [], [15, 16]⟩, ⟨18, false, [], [15, 16, 17]⟩, ⟨2, true, [], [0, 1]⟩, ⟨3, true, [], [0, 1, 2]⟩, ⟨7, true, [1], [0, 1, 2, 3, 5, 6]⟩, ⟨10, true, [2], [0, 1, 2, 3, 5, 6, 7, 8, 9]⟩, ⟨11, false, [], [0, 1, 2, 3, 5, 6, 7, 8, 9, 10]⟩, ⟨12, true, [4], [0, 1, 2, 3, 5, 6, 7, 8, 9, 10, 11]⟩, ⟨14, true, [], [0, 1, 2, 3, 5, 6, 7, 8, 9, 10, 11, 12]⟩, ⟨19, true, [3], [0, 1, 2, 3, 5, 6, 7, 8, 9, 10, 11, 12, 14, 15, 16, 17, 18]⟩, ⟨20, false, [], [0, 1, 2, 3, 5, 6, 7, 8, 9, 10, 11, 12, 14, 15, 16, 17, 18, 19]⟩, ⟨21, true, [5], [0, 1, 2, 3, 5, 6, 7, 8, 9, 10, 11, 12, 14, 15, 16, 17, 18, 19, 20]⟩, ⟨22, false, [], [0, 1, 2, 3, 4, 5, 6, 7, 8, 9, 10, 11, 12, 13, 14, 15, 16, 17, 18, 19, 20, 21]⟩, ⟨23, true, [6], [0, 1, 2, 3, 4, 5, 6, 7, 8, 9, 10, 11, 12, 13, 14, 15, 16, 17, 18, 19, 20, 21, 22]⟩, ⟨24, false, [], [0, 1, 2, 3, 4, 5, 6, 7, 8, 9, 10, 11, 12, 13, 14, 15, 16, 17, 18, 19, 20, 21, 22, 23]⟩]) .leaf))))) := by
 intro R x y K
 kernel_rfl
theorem Z12c : ConOK Tryz.prog 32 Z1ca :=
 con_o (Z18j Z1n Znl Zzq Z93 Z3e) (cons_ok ⟨.inl Zij, .inl Z1at, .inl Z1c7, .inl Zup, .inl Zf4, trivial⟩) orcs_0
def Zqp (f : Zj8) : Con := { args := [.sc (.s), .sc (.s)], blks := [], shapes := [⟨Str, fun r => (.c (.sc (.str r)), [], 0)⟩], F := fun R x y k => f R (x.1) (x.2.1) (fun z0 => k.1 z0) }
def Z1c9 : Con := Zqp Zat
theorem Z181 (g0 : Zbx) (g1 : Z49) : (Zqp (Zyv g0 g1)).Says Tryz.prog Tryz.f31 (conL [(55, Zi6 g0), (54, Zab g1)]) (pieceL 0 []) .leaf := by
 intro R x y K
 kernel_rfl
theorem Z12s : ConOK Tryz.prog 31 Z1c9 :=
 con_o (Z181 Z93 Z3e) (cons_ok ⟨.inl Zup, .inl Zf4, trivial⟩) orcs_0
def Znv (f : Zey) : Con := { args := [.sc (.s)], blks := [], shapes := [⟨Int × Str × Int × Int × Str × Int, fun r => (.tup [.agg [.one (.int .i64 r.1), .one (.str r.2.1), .one (.int .i64 r.2.2.1), .one (.int .i64 r.2.2.2.1), .one (.str r.2.2.2.2.1)], .sc (.int .i64 r.2.2.2.2.2)], [], 0)⟩], F := fun R x y k => f R (x.1) (fun z0 z1 z2 z3 z4 z5 => k.1 (z0, z1, z2, z3, z4, z5)) }
def Z1d3 : Con := Znv Z2c
theorem Z198 (g0 : Zug) (g1 : Zj9) (g2 : Zjc) (g3 : Zj8) (g4 : Zrq) : (Znv (Zuf g0 g1 g2 g3 g4)).Says Tryz.prog Tryz.f13 (conL [(29, Zz2 g0), (30, Zrc g1), (32, Zri g2), (31, Zqp g3), (33, Zvu g4)]) (pieceL 0 []) (.node .leaf (.node .leaf (.node .leaf (.node .leaf (.node (.node (.draw [⟨0, false, [1], []⟩, ⟨1, false, [1], [0]⟩, ⟨2, false, [1], []⟩, ⟨4, false, [], []⟩, ⟨3, true, [], [2]⟩, ⟨5, true, [], [0, 1, 2, 3, 4]⟩, ⟨6, false, [], [0, 1, 2, 3, 4, 5]⟩]) .leaf) .leaf))))) := by
 intro R x y K
 kernel_rfl
theorem Zw7 : ConOK Tryz.prog 13 Z1d3 :=
 con_o (Z198 Z8t Zfa Z78 Zat Zhe) (cons_ok ⟨.inl Z1a9, .inl Z134, .inl Z12c, .inl Z12s, .inl Z194, trivial⟩) orcs_0
def Z11l (f : Zx9) : Con := { args := [.agg [.one (.i .i64), .one (.s), .one (.i .i64), .one (.i .i64), .one (.s)], .sc (.s)], blks := [], shapes := [⟨Str × Int, fun r => (.tup [.sc (.str r.1), .sc (.int .i64 r.2)], [], 0)⟩], F := fun R x y k => f R (x.1.1) (x.1.2.1) (x.1.2.2.1) (x.1.2.2.2.1) (x.1.2.2.2.2.1) (x.2.1) (fun z0 z1 => k.1 (z0, z1)) }
def Z1d4 : Con := Z11l Z79
theorem Z19x (g0 : Zj9) (g1 : Zrm) (g2 : Zjc) (g3 : Zxl) (g4 : Zj8) : (Z11l (Zj6 g0 g1 g2 g3 g4)).Says Tryz.prog Tryz.f20 (conL [(30, Zrc g0), (22, Zw1 g1), (32, Zri g2), (42, Z11m g3), (31, Zqp g4)]) (pieceL 0 []) .leaf := by
 intro R x y K
 kernel_rfl
theorem Z1be : ConOK Tryz.prog 20 Z1d4 :=
 con_o (Z19x Zfa Zgw Z78 Zll Zat) (cons_ok ⟨.inl Z134, .inl Z19y, .inl Z12c, .inl Z1b3, .inl Z12s, trivial⟩) orcs_0
def Zl2 (f : Zdd) : Con := { args := [.sc (.s)], blks := [], shapes := [⟨Str, fun r => (.c (.sc (.str r)), [], 0)⟩], F := fun R x y k => f R (x.1) (fun z0 => k.1 z0) }
def Z1c8 : Con := Zl2 Zd7
theorem Z18i (g0 : Zjb) : (Zl2 (Z167 g0)).Says Tryz.prog Tryz.f15 (conL [(39, Zrx g0)]) (pieceL 0 []) .leaf := by
 intro R x y K
 kernel_rfl
theorem Ztt : ConOK Tryz.prog 15 Z1c8 :=
 con_o (Z18i Zfy) (cons_ok ⟨.inl Z13f, trivial⟩) orcs_0
def Zod (f : Zjw) : Con := { args := [.sc (.s), .sc (.i .i64), .sc (.nilsl)], blks := [], shapes := [⟨Int, fun r => (.c (.sc (.int .i64 r)), [], 0)⟩], F := fun R x y k => f R (x.1) (x.2.1) (fun z0 => k.1 z0) }
def Z18v : Con := Zod Zev
theorem Z13u (g0 : Zey) (g1 : Zdd) (g2 : Z3t) : (Zod (Zox g0 g1 g2)).Says Tryz.prog Tryz.f17 (conL [(13, Znv g0), (15, Zl2 g1), (41, Z6c g2)]) (pieceL 0 []) .leaf := by
 intro R x y K
 kernel_rfl
theorem Z16q : ConOK Tryz.prog 17 Z18v :=
 con_o (Z13u Z2c Zd7 Z2m) (cons_ok ⟨.inl Zw7, .inl Ztt, .inl Zk5, trivial⟩) orcs_0
def Zoj (f : Zk2) : Con := { args := [.sc (.s), .sc (.i .i64), .sc (.sl 0 1 none)], blks := [(true, [.strs none])], shapes := [⟨Int × (List Str), fun r => (.c (.sc (.int .i64 r.1)), [(0, ⟨true, [.strs r.2 r.2.length]⟩)], 0)⟩], F := fun R x y k => f R (x.1) (x.2.1) (y.1.1) (fun z0 z1 => k.1 (z0, z1)) }
def Z197 : Con := Zoj Zf1
theorem Z140 (g0 : Zey) (g1 : Zdd) (g2 : Z3u) : (Zoj (Zoq g0 g1 g2)).Says Tryz.prog Tryz.f17 (conL [(13, Znv g0), (15, Zl2 g1), (41, Z63 g2)]) (pieceL 1 []) .leaf := by
 intro R x y K
 kernel_rfl
theorem Z15t : ConOK Tryz.prog 17 Z197 :=
 con_o (Z140 Z2c Zd7 Z2l) (cons_ok ⟨.inl Zw7, .inl Ztt, .inl Zk4, trivial⟩) orcs_0
end
noncomputable section
open Go.Proofs
def Z120 (f : Zx8) : Con := { args := [.agg [.one (.i .i64), .one (.s), .one (.i .i64), .one (.i .i64), .one (.s)]], blks := [], shapes := [⟨Bool, fun r => (.c (.sc (.bool r)), [], 0)⟩], F := fun R x y k => f R (x.1.1) (x.1.2.1) (x.1.2.2.1) (x.1.2.2.2.1) (x.1.2.2.2.2.1) (fun z0 => k.1 z0) }
def Z1cy : Con := Z120 Zrf
theorem Z192 : (Z120 (Z11g)).Says Tryz.prog Tryz.f19 (conL []) (pieceL 0 []) .leaf := by
 intro R x y K
 kernel_rfl
theorem Z1ay : ConOK Tryz.prog 19 Z1cy :=
 con_o (Z192) (cons_ok trivial) orcs_0
def Zwv (f : Zqv) : Con := { args := [], blks := [], shapes := [⟨Bool, fun r => (.c (.sc (.bool r)), [], 0)⟩], F := fun R x y k => f R (fun z0 => k.1 z0) }
def Z1bu : Con := Zwv Zkh
theorem Z17d (g0 : Z3q) (g1 : Zey) : (Zwv (Zww g0 g1)).Says Tryz.prog Tryz.f12 (conL [(10, Zfd g0), (13, Znv g1)]) (pieceL 0 []) .leaf := by
 intro R x y K
 kernel_rfl
theorem Z19i : ConOK Tryz.prog 12 Z1bu :=
 con_o (Z17d Z1n Z2c) (cons_ok ⟨.inl Zij, .inl Zw7, trivial⟩) orcs_0
def Zyk (f : Z10p) : Con := { args := [.agg [.one (.i .i64), .one (.s), .one (.i .i64), .one (.i .i64), .one (.s)], .sc (.s), .sc (.i .i64)], blks := [], shapes := [⟨Bool, fun r => (.c (.sc (.bool r)), [], 0)⟩], F := fun R x y k => f R (x.1.1) (x.1.2.1) (x.1.2.2.1) (x.1.2.2.2.1) (x.1.2.2.2.2.1) (x.2.1) (x.2.2.1) (fun z0 => k.1 z0) }
def Z18x : Con := Zyk Zre
theorem Z13y (g0 : Zx8) (g1 : Zqv) (g2 : Zx9) (g3 : Zdd) (g4 : Zjw) (g5 : Zk2) : (Zyk (Zp4 g0 g1 g2 g3 g4 g5)).Says Tryz.prog Tryz.f9 (conL [(19, Z120 g0), (12, Zwv g1), (20, Z11l g2), (15, Zl2 g3), (17, Zod g4), (17, Zoj g5)]) (pieceL 0 []) .leaf := by
 intro R x y K
 kernel_rfl
theorem Z1d9 : ConOK Tryz.prog 9 Z18x :=
 con_o (Z13y Zrf Zkh Z79 Zd7 Zev Zf1) (cons_ok ⟨.inl Z1ay, .inl Z19i, .inl Z1be, .inl Ztt, .inl Z16q, .inl Z15t, trivial⟩) orcs_0
end
end Go.Ev
