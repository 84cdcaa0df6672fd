/- Texts Cscalar, Csha, Csign, Ccert, Claw14 of this proof; printed names are shortened. -/
import Derived.Test.YtlomoioolngohaaGreatDoorP3
import Derived.Test.YtlomoioolngohaaGreatDoorP2
import Derived.Test.YtlomoioolngohaaGreatDoorP5
import Derived.KernelRfl
import Derived.Test.YtlomoioolngohaaGreatDoorP4
set_option linter.unusedVariables false
set_option maxRecDepth 100000
namespace Go.Ev
noncomputable section
open Go.Proofs
theorem Z10b : (Zc6).Loops Tryz.prog 31 0 (conL []) (pieceL 0 []) (fsub Tryz.f124 [1, 1, 0, 1, 0, 0]) (.node .leaf (.node .leaf (.node (.node (.node .leaf (.draw [⟨0, false, [], []⟩, ⟨1, false, [], []⟩, ⟨2, false, [], [1]⟩, ⟨3, false, [0], [0, 1, 2]⟩, ⟨4, false, [0], [0, 1, 2, 3]⟩, ⟨5, false, [], []⟩, ⟨6, false, [], []⟩, ⟨7, false, [], [5, 6]⟩, ⟨8, false, [], [5, 6, 7]⟩, ⟨9, false, [], []⟩, ⟨10, false, [], [9]⟩, ⟨11, false, [], [9, 10]⟩, ⟨12, false, [], [5, 6, 7, 8, 9, 10, 11]⟩, ⟨13, false, [], [0, 1, 2, 3, 4, 5, 6, 7, 8, 9, 10, 11, 12]⟩, ⟨14, false, [0], [0, 1, 2, 3, 4, 5, 6, 7, 8, 9, 10, 11, 12, 13]⟩, ⟨15, true, [0], [0, 1, 2, 3, 4, 5, 6, 7, 8, 9, 10, 11, 12, 13, 14]⟩])) .leaf) .leaf))) [0, 3, 10, 11] [] [3] [] := by
 intro R v next K
 kernel_rfl
theorem Z12i : OrcOK Tryz.prog 31 0 (.loop (fsub Tryz.f124 [1, 1, 0, 1, 0, 0])) (fun R => pieceG 0 (Zc6) R) :=
 piece_l (Z10b) (cons_ok trivial) orcs_0
def Z6l (f : Z1d) : Con := { args := [.sc (.s)], blks := [], shapes := [⟨(List Int), fun r => (.c (.sc (.slice 0 1 none none)), [(0, ⟨true, [.ints .u64 r r.length]⟩)], 1)⟩], F := fun R x y k => f R (x.1) (fun z0 => k.1 z0) }
def Z173 : Con := Z6l Z14
theorem Z12b : (Z6l (Zph)).Says Tryz.prog Tryz.f124 (conL []) (pieceL 0 [(0, Zc6)]) (.node .leaf (.node .leaf (.node (.node .leaf (.node (.orc 0 [0, 3, 10, 11] []) .leaf)) .leaf))) := by
 intro R x y K
 kernel_rfl
theorem Z8d : ConOK Tryz.prog 124 Z173 :=
 con_o (Z12b) (cons_ok trivial) (orcs_1 [(0, [1, 1, 0, 1, 0])] ⟨piece_a Z12i, trivial⟩)
def Zdw (f : Z4t) : Con := { args := [], blks := [], shapes := [⟨(List Int), fun r => (.c (.agg [.ints .u64 r 4]), [], 0)⟩], F := fun R x y k => f R (fun z0 => k.1 z0) }
def Z16w : Con := Zdw Z3k
theorem Z123 : (Zdw (Zpx)).Says Tryz.prog Tryz.f126 (conL []) (pieceL 0 []) .leaf := by
 intro R x y K
 kernel_rfl
theorem Zkr : ConOK Tryz.prog 126 Z16w :=
 con_o (Z123) (cons_ok trivial) orcs_0
theorem Zrx (g0 : Zcy) : (Z6m g0).Loops Tryz.prog 27 0 (conL [(192, Zvn g0)]) (pieceL 0 []) (fsub Tryz.f125 [1, 1, 0, 1, 0, 0]) (.node .leaf (.node .leaf (.node (.node (.node .leaf (.draw [⟨0, false, [], []⟩, ⟨1, false, [], []⟩, ⟨2, false, [0], [1]⟩, ⟨3, false, [0], [1, 2]⟩, ⟨4, false, [], []⟩, ⟨5, false, [1], [4]⟩, ⟨6, false, [1], [4, 5]⟩, ⟨7, false, [], []⟩, ⟨8, true, [], [1, 2, 3, 4, 5, 6, 7]⟩, ⟨9, false, [], [1, 2, 3, 4, 5, 6, 7, 8]⟩, ⟨10, false, [], [1, 2, 3, 4, 5, 6, 7, 8, 9]⟩, ⟨11, false, [], [1, 2, 3, 4, 5, 6, 7, 8, 9]⟩, ⟨12, false, [0], [0, 1, 2, 3, 4, 5, 6, 7, 8, 9, 10]⟩, ⟨13, true, [0], [0, 1, 2, 3, 4, 5, 6, 7, 8, 9, 10, 12]⟩, ⟨14, false, [], [0, 1, 2, 3, 4, 5, 6, 7, 8, 9, 10, 11, 12, 13]⟩])) .leaf) .leaf))) [2, 3, 4, 6, 8] [] [2, 4, 6] [] := by
 intro R v next K
 kernel_rfl
theorem Zv0 : OrcOK Tryz.prog 27 0 (.loop (fsub Tryz.f125 [1, 1, 0, 1, 0, 0])) (fun R => pieceG 0 (Z6m Z8v) R) :=
 piece_l (Zrx Z8v) (cons_ok ⟨.inr Zyc, trivial⟩) orcs_0
def Z7e (f : Z29) : Con := { args := [.agg [.ints .u64 (some 4)], .agg [.ints .u64 (some 4)]], blks := [], shapes := [⟨(List Int) × Int, fun r => (.tup [.agg [.ints .u64 r.1 4], .sc (.int .u64 r.2)], [], 0)⟩], F := fun R x y k => f R (x.1.1) (x.2.1.1) (fun z0 z1 => k.1 (z0, z1)) }
def Z110 : Con := Z7e Z1k
theorem Zup (g0 : Zcy) : (Z7e (Zf9 g0)).Says Tryz.prog Tryz.f125 (conL [(192, Zvn g0)]) (pieceL 0 [(0, Z6m g0)]) (.node .leaf (.node .leaf (.node (.node .leaf (.node (.orc 0 [2, 3, 4, 6, 8] []) .leaf)) .leaf))) := by
 intro R x y K
 kernel_rfl
theorem Zcp : ConOK Tryz.prog 125 Z110 :=
 con_o (Zup Z8v) (cons_ok ⟨.inr Zyc, trivial⟩) (orcs_1 [(0, [1, 1, 0, 1, 0])] ⟨piece_a Zv0, trivial⟩)
def Zpy (f : Zkj) : Con := { args := [.sc (.s)], blks := [], shapes := [⟨Bool, fun r => (.c (.sc (.bool r)), [], 0)⟩], F := fun R x y k => f R (x.1) (fun z0 => k.1 z0) }
def Z175 : Con := Zpy Zg0
theorem Z12e (g0 : Z1d) (g1 : Z4t) (g2 : Z29) : (Zpy (Zq3 g0 g1 g2)).Says Tryz.prog Tryz.f59 (conL [(124, Z6l g0), (126, Zdw g1), (125, Z7e g2)]) (pieceL 0 []) (.node .leaf (.node .leaf (.node (.draw [⟨0, false, [], []⟩, ⟨9, false, [], []⟩, ⟨1, true, [], [0]⟩, ⟨2, false, [1], [0, 1]⟩, ⟨3, false, [1], [0, 1, 2]⟩, ⟨4, true, [], [0, 1]⟩, ⟨5, true, [], [0, 1, 2, 3, 4]⟩, ⟨6, false, [], [0, 1, 2, 3, 4, 5]⟩, ⟨7, false, [], [0, 1, 2, 3, 4, 5, 6]⟩, ⟨8, false, [], [0, 1, 2, 3, 4, 5, 6]⟩, ⟨10, true, [0], [0, 1, 2, 3, 4, 5, 6, 7, 9]⟩, ⟨11, false, [], [0, 1, 2, 3, 4, 5, 6, 7, 8, 9, 10]⟩]) .leaf))) := by
 intro R x y K
 kernel_rfl
theorem Z14n : ConOK Tryz.prog 59 Z175 :=
 con_o (Z12e Z14 Z3k Z1k) (cons_ok ⟨.inl Z8d, .inl Zkr, .inl Zcp, trivial⟩) orcs_0
theorem Zrs (g0 : Z4t) (g1 : Z29) : (Z6e g0 g1).Loops Tryz.prog 34 0 (conL [(126, Zdw g0), (125, Z7e g1)]) (pieceL 0 []) (fsub Tryz.f203 [1, 0, 1, 0, 0]) (.node .leaf (.node .leaf (.node (.node (.node .leaf (.draw [⟨0, false, [], []⟩, ⟨1, false, [], []⟩, ⟨2, false, [0], [1]⟩, ⟨3, false, [0], [1, 2]⟩, ⟨4, false, [], [1, 2, 3]⟩, ⟨5, false, [], []⟩, ⟨6, false, [], [1, 2, 3, 4, 5]⟩, ⟨7, false, [], []⟩, ⟨8, false, [0], [7]⟩, ⟨9, false, [0], [7, 8]⟩, ⟨10, false, [], [7, 8, 9]⟩, ⟨11, false, [0], [0, 1, 2, 3, 4, 5, 6, 7, 8, 9]⟩, ⟨12, true, [0], [0, 1, 2, 3, 4, 5, 6, 7, 8, 9, 11]⟩, ⟨13, false, [], [0, 1, 2, 3, 4, 5, 6, 7, 8, 9, 10, 11, 12]⟩])) .leaf) .leaf))) [1, 2, 4, 8] [] [2, 4] [] := by
 intro R v next K
 kernel_rfl
theorem Zvh : OrcOK Tryz.prog 34 0 (.loop (fsub Tryz.f203 [1, 0, 1, 0, 0])) (fun R => pieceG 0 (Z6e Z3k Z1k) R) :=
 piece_l (Zrs Z3k Z1k) (cons_ok ⟨.inl Zkr, .inl Zcp, trivial⟩) orcs_0
def Z7b (f : Z1l) : Con := { args := [.agg [.ints .u64 (some 4)], .sc (.i .u64)], blks := [], shapes := [⟨(List Int), fun r => (.c (.agg [.ints .u64 r 4]), [], 0)⟩], F := fun R x y k => f R (x.1.1) (x.2.1) (fun z0 => k.1 z0) }
def Z111 : Con := Z7b Z19
theorem Zvm (g0 : Z4t) (g1 : Z29) : (Z7b (Zf1 g0 g1)).Says Tryz.prog Tryz.f203 (conL [(126, Zdw g0), (125, Z7e g1)]) (pieceL 0 [(0, Z6e g0 g1)]) (.node .leaf (.node (.node .leaf (.node (.orc 0 [1, 2, 4, 8] []) .leaf)) (.node (.node (.draw [⟨0, false, [0], []⟩, ⟨6, false, [], []⟩, ⟨1, true, [], []⟩, ⟨2, true, [], [0, 1]⟩, ⟨3, false, [], [0, 1, 2]⟩, ⟨4, false, [], [0, 1, 2, 3]⟩, ⟨5, false, [], [0, 1, 2, 3]⟩, ⟨7, true, [2], [0, 1, 2, 3, 4, 6]⟩, ⟨8, false, [], [0, 1, 2, 3, 4, 5, 6, 7]⟩]) .leaf) .leaf))) := by
 intro R x y K
 kernel_rfl
theorem Zcd : ConOK Tryz.prog 203 Z111 :=
 con_o (Zvm Z3k Z1k) (cons_ok ⟨.inl Zkr, .inl Zcp, trivial⟩) (orcs_1 [(0, [1, 0, 1, 0])] ⟨piece_a Zvh, trivial⟩)
theorem Zvv (g0 : Z1l) : (Z90 g0).Loops Tryz.prog 27 1 (conL [(203, Z7b g0)]) (pieceL 1 []) (fsub Tryz.f164 [1, 1, 0, 1, 0, 0, 1, 0, 0, 1, 0, 0]) (.node .leaf (.node (.node (.draw [⟨0, false, [2], []⟩, ⟨1, false, [], []⟩, ⟨2, false, [], []⟩, ⟨3, false, [0], [1, 2]⟩, ⟨4, false, [0], [1, 2, 3]⟩, ⟨5, false, [], []⟩, ⟨6, false, [], [1, 2, 3, 4, 5]⟩, ⟨7, false, [], [1, 2, 3, 4, 5, 6]⟩, ⟨8, true, [], [0, 1, 2, 3, 4, 5, 6, 7]⟩, ⟨9, true, [2], [0, 1, 2, 3, 4, 5, 6, 7, 8]⟩]) .leaf) .leaf)) [0, 2, 3, 4, 5] [] [0, 2, 3, 4] [] := by
 intro R v next K
 kernel_rfl
theorem Zyr : OrcOK Tryz.prog 27 1 (.loop (fsub Tryz.f164 [1, 1, 0, 1, 0, 0, 1, 0, 0, 1, 0, 0])) (fun R => pieceG 1 (Z90 Z19) R) :=
 piece_l (Zvv Z19) (cons_ok ⟨.inl Zcd, trivial⟩) orcs_0
theorem Zw9 (g0 : Z1l) : (Z8y g0).Loops Tryz.prog 27 1 (conL [(203, Z7b g0)]) (pieceL 1 [(1, Z90 g0)]) (fsub Tryz.f164 [1, 1, 0, 1, 0, 0]) (.node .leaf (.node (.node (.node .leaf (.node (.orc 1 [0, 2, 3, 4, 5] []) .leaf)) .leaf) .leaf)) [0, 2, 3, 4] [] [2, 3] [] := by
 intro R v next K
 kernel_rfl
theorem Zz7 : OrcOK Tryz.prog 27 1 (.loop (fsub Tryz.f164 [1, 1, 0, 1, 0, 0])) (fun R => pieceG 1 (Z8y Z19) R) :=
 piece_l (Zw9 Z19) (cons_ok ⟨.inl Zcd, trivial⟩) (orcs_1 [(1, [1, 0, 0, 1, 0])] ⟨piece_a Zyr, trivial⟩)
def Z5f (f : Z1a) : Con := { args := [.sc (.sl 0 1 none)], blks := [(true, [.ints .u64 none])], shapes := [⟨(List Int) × (List Int), fun r => (.c (.agg [.ints .u64 r.1 4]), [(0, ⟨true, [.ints .u64 r.2 r.2.length]⟩)], 0)⟩], F := fun R x y k => f R (y.1.1) (fun z0 z1 => k.1 (z0, z1)) }
def Z14d : Con := Z5f Zv
theorem Zzp (g0 : Z1l) : (Z5f (Zjm g0)).Says Tryz.prog Tryz.f164 (conL [(203, Z7b g0)]) (pieceL 1 [(0, Z8y g0)]) (.node .leaf (.node .leaf (.node (.node .leaf (.node (.orc 0 [0, 2, 3, 4] []) .leaf)) .leaf))) := by
 intro R x y K
 kernel_rfl
theorem Z81 : ConOK Tryz.prog 164 Z14d :=
 con_o (Zzp Z19) (cons_ok ⟨.inl Zcd, trivial⟩) (orcs_1 [(0, [1, 1, 0, 1, 0])] ⟨piece_a Zz7, trivial⟩)
theorem Zqp : (Z5t).Loops Tryz.prog 22 0 (conL []) (pieceL 0 []) (fsub Tryz.f165 [1, 1, 0, 1, 0, 0]) .leaf [1, 3, 5] [] [3] [] := by
 intro R v next K
 kernel_rfl
theorem Zth : OrcOK Tryz.prog 22 0 (.loop (fsub Tryz.f165 [1, 1, 0, 1, 0, 0])) (fun R => pieceG 0 (Z5t) R) :=
 piece_l (Zqp) (cons_ok trivial) orcs_0
def Z3o (f : Zs) : Con := { args := [.agg [.ints .u64 (some 4)]], blks := [], shapes := [⟨Str, fun r => (.c (.sc (.str r)), [], 0)⟩], F := fun R x y k => f R (x.1.1) (fun z0 => k.1 z0) }
def Z10c : Con := Z3o Zh
theorem Zte : (Z3o (Zem)).Says Tryz.prog Tryz.f165 (conL []) (pieceL 0 [(0, Z5t)]) (.node .leaf (.node .leaf (.node (.node .leaf (.node (.orc 0 [1, 3, 5] []) .leaf)) .leaf))) := by
 intro R x y K
 kernel_rfl
theorem Z5c : ConOK Tryz.prog 165 Z10c :=
 con_o (Zte) (cons_ok trivial) (orcs_1 [(0, [1, 1, 0, 1, 0])] ⟨piece_a Zth, trivial⟩)
def Zkh (f : Z96) : Con := { args := [.sc (.s)], blks := [], shapes := [⟨Str × Int, fun r => (.tup [.sc (.str r.1), .sc (.int .i64 r.2)], [], 0)⟩], F := fun R x y k => f R (x.1) (fun z0 z1 => k.1 (z0, z1)) }
def Z17h : Con := Zkh Z5r
theorem Z139 (g0 : Z1d) (g1 : Z1a) (g2 : Zs) : (Zkh (Zrq g0 g1 g2)).Says Tryz.prog Tryz.f131 (conL [(124, Z6l g0), (164, Z5f g1), (165, Z3o g2)]) (pieceL 0 []) .leaf := by
 intro R x y K
 kernel_rfl
theorem Zwr : ConOK Tryz.prog 131 Z17h :=
 con_o (Z139 Z14 Zv Zh) (cons_ok ⟨.inl Z8d, .inl Z81, .inl Z5c, trivial⟩) orcs_0
theorem Zzg (g0 : Z1d) (g1 : Z28) (g2 : Zq) (g3 : Z1a) (g4 : Zs) : (Zao g0 g1 g2 g3 g4).Loops Tryz.prog 110 0 (conL [(124, Z6l g0), (162, Zb4 g1), (163, Z4k g2), (164, Z5f g3), (165, Z3o g4)]) (pieceL 0 []) (fsub Tryz.f91 [1, 1, 1, 0, 1, 0, 0, 1, 1, 0, 0, 1, 1, 0, 1, 0, 0]) .leaf [1, 8, 9, 10, 11, 36, 37, 38, 44, 45, 46] [] [1, 8, 9, 11, 36, 37, 38] [] := by
 intro R v next K
 kernel_rfl
theorem Z11b : OrcOK Tryz.prog 110 0 (.loop (fsub Tryz.f91 [1, 1, 1, 0, 1, 0, 0, 1, 1, 0, 0, 1, 1, 0, 1, 0, 0])) (fun R => pieceG 0 (Zao Z14 Z1i Zg Zv Zh) R) :=
 piece_l (Zzg Z14 Z1i Zg Zv Zh) (cons_ok ⟨.inl Z8d, .inl Zdx, .inr Z49, .inl Z81, .inl Z5c, trivial⟩) orcs_0
theorem Zy7 (g0 : Z1d) (g1 : Z28) (g2 : Zq) (g3 : Z1a) (g4 : Zs) : (Zaq g0 g1 g2 g3 g4).Loops Tryz.prog 110 0 (conL [(124, Z6l g0), (162, Zb4 g1), (163, Z4k g2), (164, Z5f g3), (165, Z3o g4)]) (pieceL 0 []) (fsub Tryz.f91 [1, 1, 1, 0, 1, 0, 0, 1, 1, 0, 0, 1, 1, 1, 1, 0, 0]) .leaf [1, 8, 11, 17, 36, 37, 38] [] [1, 8, 36, 37, 38] [] := by
 intro R v next K
 kernel_rfl
theorem Z112 : OrcOK Tryz.prog 110 0 (.loop (fsub Tryz.f91 [1, 1, 1, 0, 1, 0, 0, 1, 1, 0, 0, 1, 1, 1, 1, 0, 0])) (fun R => pieceG 0 (Zaq Z14 Z1i Zg Zv Zh) R) :=
 piece_l (Zy7 Z14 Z1i Zg Zv Zh) (cons_ok ⟨.inl Z8d, .inl Zdx, .inr Z49, .inl Z81, .inl Z5c, trivial⟩) orcs_0
theorem Zzh (g0 : Z1d) (g1 : Z28) (g2 : Zq) (g3 : Z1a) (g4 : Zs) : (Zav g0 g1 g2 g3 g4).Loops Tryz.prog 110 0 (conL [(124, Z6l g0), (162, Zb4 g1), (163, Z4k g2), (164, Z5f g3), (165, Z3o g4)]) (pieceL 0 [(1, Zao g0 g1 g2 g3 g4), (2, Zaq g0 g1 g2 g3 g4)]) (fsub Tryz.f91 [1, 1, 1, 0, 1, 0, 0]) (.node .leaf (.node .leaf (.node (.node (.node .leaf (.node .leaf (.node (.node .leaf (.node (.orc 1 [1, 8, 9, 10, 11, 36, 37, 38, 44, 45, 46] []) .leaf)) (.node .leaf (.node (.orc 2 [1, 8, 11, 17, 36, 37, 38] []) .leaf))))) .leaf) .leaf))) [1, 8, 36, 37, 38] [] [8] [] := by
 intro R v next K
 kernel_rfl
theorem Z11j : OrcOK Tryz.prog 110 0 (.loop (fsub Tryz.f91 [1, 1, 1, 0, 1, 0, 0])) (fun R => pieceG 0 (Zav Z14 Z1i Zg Zv Zh) R) :=
 piece_l (Zzh Z14 Z1i Zg Zv Zh) (cons_ok ⟨.inl Z8d, .inl Zdx, .inr Z49, .inl Z81, .inl Z5c, trivial⟩) (orcs_1 [(1, [1, 1, 0, 0, 1, 1, 0, 1, 0]), (2, [1, 1, 0, 0, 1, 1, 1, 1, 0])] ⟨piece_a Z11b, piece_a Z112, trivial⟩)
def Znb (f : Zi5) : Con := { args := [.sc (.s), .sc (.s), .sc (.s)], blks := [], shapes := [⟨Str × Int, fun r => (.tup [.sc (.str r.1), .sc (.int .i64 r.2)], [], 0)⟩], F := fun R x y k => f R (x.1) (x.2.1) (x.2.2.1) (fun z0 z1 => k.1 (z0, z1)) }
def Z16h : Con := Znb Zei
theorem Z11k (g0 : Z1d) (g1 : Z28) (g2 : Zq) (g3 : Z1a) (g4 : Zs) : (Znb (Znv g0 g1 g2 g3 g4)).Says Tryz.prog Tryz.f91 (conL [(124, Z6l g0), (162, Zb4 g1), (163, Z4k g2), (164, Z5f g3), (165, Z3o g4)]) (pieceL 0 [(0, Zav g0 g1 g2 g3 g4)]) (.node .leaf (.node .leaf (.node .leaf (.node (.node .leaf (.node (.orc 0 [1, 8, 36, 37, 38] []) .leaf)) .leaf)))) := by
 intro R x y K
 kernel_rfl
theorem Z13d : ConOK Tryz.prog 91 Z16h :=
 con_o (Z11k Z14 Z1i Zg Zv Zh) (cons_ok ⟨.inl Z8d, .inl Zdx, .inr Z49, .inl Z81, .inl Z5c, trivial⟩) (orcs_1 [(0, [1, 1, 1, 0, 1, 0])] ⟨piece_a Z11j, trivial⟩)
end
noncomputable section
open Go.Proofs
def Zkk (f : Z9c) : Con := { args := [.sc (.ik .i64 64)], blks := [], shapes := [⟨Int × Int, fun r => (.tup [.sc (.ptr 0 0 0 0 0), .sc (.int .i64 r.1)], [(0, ⟨true, [.one (.int .i64 r.2), .one (.nilsl)]⟩)], 1)⟩], F := fun R x y k => f R (fun z0 z1 => k.1 (z0, z1)) }
def Z17c : Con := Zkk Z5p
theorem Z133 : (Zkk (Zsd)).Says Tryz.prog Tryz.f129 (conL []) (pieceL 0 []) .leaf := by
 intro R x y K
 kernel_rfl
theorem Zwm : ConOK Tryz.prog 129 Z17c :=
 con_o (Z133) (cons_ok trivial) orcs_0
def Za8 (f : Z3b) : Con := { args := [.sc (.ptr 0 0 0 0 0), .sc (.s)], blks := [(true, [.one (.i .i64), .one (.nilsl)])], shapes := [⟨Int × Int × Str, fun r => (.c (.sc (.int .i64 r.1)), [(0, ⟨true, [.one (.int .i64 r.2.1), .one (.slice 1 1 none none)]⟩), (1, ⟨true, [.bytes r.2.2 r.2.2.length]⟩)], 1)⟩], F := fun R x y k => f R (x.2.1) (y.1.1) (fun z0 z1 z2 => k.1 (z0, z1, z2)) }
def Z11h : Con := Za8 Z3d
theorem Zux : (Za8 (Zmq)).Says Tryz.prog Tryz.f130 (conL []) (pieceL 1 []) .leaf := by
 intro R x y K
 kernel_rfl
theorem Zjw : ConOK Tryz.prog 130 Z11h :=
 con_o (Zux) (cons_ok trivial) orcs_0
def Zac (f : Z3c) : Con := { args := [.sc (.ptr 0 0 0 0 0), .sc (.s)], blks := [(true, [.one (.i .i64), .one (.sl 1 1 none)]), (true, [.bytes none])], shapes := [⟨Int × Int × Str, fun r => (.c (.sc (.int .i64 r.1)), [(0, ⟨true, [.one (.int .i64 r.2.1), .one (.slice 2 1 none none)]⟩), (2, ⟨true, [.bytes r.2.2 r.2.2.length]⟩)], 1)⟩], F := fun R x y k => f R (x.2.1) (y.1.1) (y.2.1.1) (fun z0 z1 z2 => k.1 (z0, z1, z2)) }
def Z117 : Con := Zac Z2a
theorem Ztz : (Zac (Zf2)).Says Tryz.prog Tryz.f130 (conL []) (pieceL 2 []) .leaf := by
 intro R x y K
 kernel_rfl
theorem Zjv : ConOK Tryz.prog 130 Z117 :=
 con_o (Ztz) (cons_ok trivial) orcs_0
def Zc4 (f : Z4a) : Con := { args := [], blks := [], shapes := [⟨(List Int), fun r => (.c (.sc (.ptr 0 0 0 0 0)), [(0, ⟨true, [.ints .u64 r 80]⟩)], 1)⟩], F := fun R x y k => f R (fun z0 => k.1 z0) }
def Z16l : Con := Zc4 Z4u
theorem Z10z : (Zc4 (Znp)).Says Tryz.prog Tryz.f159 (conL []) (pieceL 0 []) .leaf := by
 intro R x y K
 kernel_rfl
theorem Zir : ConOK Tryz.prog 159 Z16l :=
 con_o (Z10z) (cons_ok trivial) orcs_0
def Zhf (f : Z6x) : Con := { args := [], blks := [], shapes := [⟨(List Int), fun r => (.c (.agg [.ints .u64 r 8]), [], 0)⟩], F := fun R x y k => f R (fun z0 => k.1 z0) }
def Z17t : Con := Zhf Z8m
theorem Z14c : (Zhf (Zv5)).Says Tryz.prog Tryz.f161 (conL []) (pieceL 0 []) .leaf := by
 intro R x y K
 kernel_rfl
theorem Zpa : ConOK Tryz.prog 161 Z17t :=
 con_o (Z14c) (cons_ok trivial) orcs_0
theorem Z12j (g0 : Z4a) (g1 : Z6x) : (Zkl g0 g1).Loops Tryz.prog 28 0 (conL [(159, Zc4 g0), (161, Zhf g1)]) (pieceL 0 []) (fsub Tryz.f84 [1, 1, 1, 0, 1, 0, 0]) .leaf [2, 13, 14] [] [2] [] := by
 intro R v next K
 kernel_rfl
theorem Z14r : OrcOK Tryz.prog 28 0 (.loop (fsub Tryz.f84 [1, 1, 1, 0, 1, 0, 0])) (fun R => pieceG 0 (Zkl Z4u Z8m) R) :=
 piece_l (Z12j Z4u Z8m) (cons_ok ⟨.inl Zir, .inl Zpa, trivial⟩) orcs_0
def Zuc (f : Zq5) : Con := { args := [], blks := [], shapes := [⟨Int × Int × (List Int) × (List Int) × (List Int) × (List Int) × (List Int) × (List Int), fun r => (.c (.sc (.ptr 0 0 0 0 0)), [(0, ⟨true, [.one (.int .i64 r.1), .one (.int .i64 r.2.1), .ints .i64 r.2.2.1 3, .ints .i64 r.2.2.2.1 3, .ints .i64 r.2.2.2.2.1 3, .ints .i64 r.2.2.2.2.2.1 3, .one (.fn Zb [1]), .ints .u32 r.2.2.2.2.2.2.1 8]⟩), (1, ⟨true, [.one (.ptr 2 0 0 0 0)]⟩), (2, ⟨true, [.ints .u64 r.2.2.2.2.2.2.2 80]⟩)], 3)⟩], F := fun R x y k => f R (fun z0 z1 z2 z3 z4 z5 z6 z7 => k.1 (z0, z1, z2, z3, z4, z5, z6, z7)) }
def Z183 : Con := Zuc Zxz
theorem Z13o (g0 : Z4a) (g1 : Z6x) : (Zuc (Z11v g0 g1)).Says Tryz.prog Tryz.f84 (conL [(159, Zc4 g0), (161, Zhf g1)]) (pieceL 0 [(0, Zkl g0 g1)]) (.node .leaf (.node .leaf (.node .leaf (.node (.node .leaf (.node (.orc 0 [2, 13, 14] []) .leaf)) .leaf)))) := by
 intro R x y K
 kernel_rfl
theorem Z166 : ConOK Tryz.prog 84 Z183 :=
 con_o (Z13o Z4u Z8m) (cons_ok ⟨.inl Zir, .inl Zpa, trivial⟩) (orcs_1 [(0, [1, 1, 1, 0, 1, 0])] ⟨piece_a Z14r, trivial⟩)
def Z1o (f : Z8) : Con := { args := [.sc (.ptr 0 0 0 0 0)], blks := [(false, [.one (.i .i64), .one (.i .i64), .ints .i64 (some 3), .ints .i64 (some 3), .ints .i64 (some 3), .ints .i64 (some 3), .one (.fn Zb [1]), .ints .u32 (some 8)]), (false, [.one (.ptr 2 0 0 0 0)]), (false, [.ints .u64 (some 80)])], shapes := [⟨Int × Int × Int × (List Int) × (List Int) × (List Int) × (List Int) × (List Int) × (List Int), fun r => (.c (.sc (.int .i64 r.1)), [(0, ⟨false, [.one (.int .i64 r.2.1), .one (.int .i64 r.2.2.1), .ints .i64 r.2.2.2.1 3, .ints .i64 r.2.2.2.2.1 3, .ints .i64 r.2.2.2.2.2.1 3, .ints .i64 r.2.2.2.2.2.2.1 3, .one (.fn Zb [1]), .ints .u32 r.2.2.2.2.2.2.2.1 8]⟩), (1, ⟨false, [.one (.ptr 2 0 0 0 0)]⟩), (2, ⟨false, [.ints .u64 r.2.2.2.2.2.2.2.2 80]⟩)], 0)⟩], F := fun R x y k => f R (y.1.1) (y.1.2.1) (y.1.2.2.1) (y.1.2.2.2.1) (y.1.2.2.2.2.1) (y.1.2.2.2.2.2.1) (y.1.2.2.2.2.2.2.2.1) (y.2.2.1.1) (fun z0 z1 z2 z3 z4 z5 z6 z7 z8 => k.1 (z0, z1, z2, z3, z4, z5, z6, z7, z8)) }
def Zs9 : Con := Z1o Zx
theorem Zlw : (Z1o (Zeu)).Says Tryz.prog Tryz.f157 (conL []) (pieceL 3 []) .leaf := by
 intro R x y K
 kernel_rfl
theorem Z2k : ConOK Tryz.prog 157 Zs9 :=
 con_o (Zlw) (cons_ok trivial) orcs_0
def Z5x (f : Z35) : Con := { args := [.sc (.ptr 0 0 0 0 0), .sc (.i .u32), .sc (.i .i64)], blks := [(false, [.one (.i .i64), .one (.i .i64), .ints .i64 (some 3), .ints .i64 (some 3), .ints .i64 (some 3), .ints .i64 (some 3), .one (.fn Zb [1]), .ints .u32 (some 8)]), (false, [.one (.ptr 2 0 0 0 0)]), (false, [.ints .u64 (some 80)])], shapes := [⟨Int × Int × Int × (List Int) × (List Int) × (List Int) × (List Int) × (List Int) × (List Int), fun r => (.c (.sc (.int .u32 r.1)), [(0, ⟨false, [.one (.int .i64 r.2.1), .one (.int .i64 r.2.2.1), .ints .i64 r.2.2.2.1 3, .ints .i64 r.2.2.2.2.1 3, .ints .i64 r.2.2.2.2.2.1 3, .ints .i64 r.2.2.2.2.2.2.1 3, .one (.fn Zb [1]), .ints .u32 r.2.2.2.2.2.2.2.1 8]⟩), (1, ⟨false, [.one (.ptr 2 0 0 0 0)]⟩), (2, ⟨false, [.ints .u64 r.2.2.2.2.2.2.2.2 80]⟩)], 0)⟩], F := fun R x y k => f R (x.2.1) (x.2.2.1) (y.1.1) (y.1.2.1) (y.1.2.2.1) (y.1.2.2.2.1) (y.1.2.2.2.2.1) (y.1.2.2.2.2.2.1) (y.1.2.2.2.2.2.2.2.1) (y.2.2.1.1) (fun z0 z1 z2 z3 z4 z5 z6 z7 z8 => k.1 (z0, z1, z2, z3, z4, z5, z6, z7, z8)) }
def Ztm : Con := Z5x Z4h
theorem Zns : (Z5x (Zfy)).Says Tryz.prog Tryz.f228 (conL []) (pieceL 3 []) (.node .leaf (.node (.draw [⟨0, false, [], []⟩, ⟨1, false, [], []⟩, ⟨2, false, [], [0, 1]⟩, ⟨3, false, [], []⟩, ⟨4, false, [], []⟩, ⟨5, false, [], [4]⟩, ⟨6, false, [0], [4, 5]⟩, ⟨7, false, [0], [4, 5, 6]⟩, ⟨8, false, [], []⟩, ⟨9, false, [], [4, 5, 6, 7, 8]⟩, ⟨10, false, [], [3, 4, 5, 6, 7, 8, 9]⟩, ⟨11, false, [], [0, 1, 2, 3, 4, 5, 6, 7, 8, 9, 10]⟩, ⟨12, false, [], [0, 1, 2, 3, 4, 5, 6, 7, 8, 9, 10, 11]⟩]) .leaf)) := by
 intro R x y K
 kernel_rfl
theorem Zdv : ConOK Tryz.prog 228 Ztm :=
 con_o (Zns) (cons_ok trivial) orcs_0
def Z38 (f : Zm) : Con := { args := [.sc (.ptr 0 0 0 0 0), .sc (.i .u32), .agg [.ints .i64 (some 3)]], blks := [(false, [.one (.i .i64), .one (.i .i64), .ints .i64 (some 3), .ints .i64 (some 3), .ints .i64 (some 3), .ints .i64 (some 3), .one (.fn Zb [1]), .ints .u32 (some 8)]), (false, [.one (.ptr 2 0 0 0 0)]), (false, [.ints .u64 (some 80)])], shapes := [⟨Int × Int × Int × (List Int) × (List Int) × (List Int) × (List Int) × (List Int) × (List Int), fun r => (.c (.sc (.int .u32 r.1)), [(0, ⟨false, [.one (.int .i64 r.2.1), .one (.int .i64 r.2.2.1), .ints .i64 r.2.2.2.1 3, .ints .i64 r.2.2.2.2.1 3, .ints .i64 r.2.2.2.2.2.1 3, .ints .i64 r.2.2.2.2.2.2.1 3, .one (.fn Zb [1]), .ints .u32 r.2.2.2.2.2.2.2.1 8]⟩), (1, ⟨false, [.one (.ptr 2 0 0 0 0)]⟩), (2, ⟨false, [.ints .u64 r.2.2.2.2.2.2.2.2 80]⟩)], 0)⟩], F := fun R x y k => f R (x.2.1) (x.2.2.1.1) (y.1.1) (y.1.2.1) (y.1.2.2.1) (y.1.2.2.2.1) (y.1.2.2.2.2.1) (y.1.2.2.2.2.2.1) (y.1.2.2.2.2.2.2.2.1) (y.2.2.1.1) (fun z0 z1 z2 z3 z4 z5 z6 z7 z8 => k.1 (z0, z1, z2, z3, z4, z5, z6, z7, z8)) }
def Zur : Con := Z38 Z1t
theorem Zo8 (g0 : Z35) : (Z38 (Zh0 g0)).Says Tryz.prog Tryz.f227 (conL [(228, Z5x g0)]) (pieceL 3 []) (.node .leaf (.node (.draw [⟨0, false, [], []⟩, ⟨1, false, [], []⟩, ⟨2, false, [3], []⟩, ⟨3, false, [3], [2]⟩, ⟨5, false, [], []⟩, ⟨6, false, [], []⟩, ⟨7, false, [3], []⟩, ⟨8, false, [3], [7]⟩, ⟨11, false, [], []⟩, ⟨12, false, [3], []⟩, ⟨13, false, [3], [12]⟩, ⟨14, false, [], [11, 12, 13]⟩, ⟨4, true, [0, 1, 2], [0, 1, 2, 3]⟩, ⟨9, true, [0, 1, 2], [0, 1, 2, 3, 4, 5, 6, 7, 8]⟩, ⟨10, false, [], [0, 1, 2, 3, 4, 5, 6, 7, 8, 9]⟩, ⟨15, false, [], [0, 1, 2, 3, 4, 5, 6, 7, 8, 9, 10, 11, 12, 13, 14]⟩, ⟨16, false, [], [0, 1, 2, 3, 4, 5, 6, 7, 8, 9, 10, 11, 12, 13, 14, 15]⟩]) .leaf)) := by
 intro R x y K
 kernel_rfl
theorem Z5n : ConOK Tryz.prog 227 Zur :=
 con_o (Zo8 Z4h) (cons_ok ⟨.inl Zdv, trivial⟩) orcs_0
theorem Zjy (g0 : Zm) : (Z4y g0).Loops Tryz.prog 88 3 (conL [(227, Z38 g0)]) (pieceL 3 []) (fsub Tryz.f201 [1, 1, 1, 0, 1, 0, 0, 1, 1, 0, 0, 1, 0, 1, 0, 0, 1, 0, 0]) (.node .leaf (.node .leaf (.node (.node (.node .leaf (.draw [⟨0, false, [], []⟩, ⟨1, false, [], []⟩, ⟨2, false, [], []⟩, ⟨3, false, [], []⟩, ⟨4, false, [3], [2, 3]⟩, ⟨5, false, [3], [2, 3, 4]⟩, ⟨6, false, [], [2, 3, 4, 5]⟩, ⟨7, false, [], []⟩, ⟨8, false, [], []⟩, ⟨9, false, [], []⟩, ⟨10, false, [], [8, 9]⟩, ⟨11, false, [], []⟩, ⟨12, false, [], [8, 9, 10, 11]⟩, ⟨13, false, [], [7, 8, 9, 10, 11, 12]⟩, ⟨14, false, [], [7, 8, 9, 10, 11, 12, 13]⟩, ⟨15, false, [], [2, 3, 4, 5, 6, 7, 8, 9, 10, 11, 12, 13, 14]⟩, ⟨16, false, [3], [0, 1, 2, 3, 4, 5, 6, 7, 8, 9, 10, 11, 12, 13, 14, 15]⟩, ⟨17, true, [3], [0, 1, 2, 3, 4, 5, 6, 7, 8, 9, 10, 11, 12, 13, 14, 15, 16]⟩])) .leaf) .leaf))) [0, 1, 5, 6, 7, 20, 21, 26, 27] [] [0, 1, 5, 6, 20, 21] [] := by
 intro R v next K
 kernel_rfl
theorem Zm7 : OrcOK Tryz.prog 88 3 (.loop (fsub Tryz.f201 [1, 1, 1, 0, 1, 0, 0, 1, 1, 0, 0, 1, 0, 1, 0, 0, 1, 0, 0])) (fun R => pieceG 3 (Z4y Z1t) R) :=
 piece_l (Zjy Z1t) (cons_ok ⟨.inl Z5n, trivial⟩) orcs_0
theorem Zjp (g0 : Zm) : (Z50 g0).Joins Tryz.prog 88 3 (conL [(227, Z38 g0)]) (pieceL 3 [(2, Z4y g0)]) (fsub Tryz.f201 [1, 1, 1, 0, 1, 0, 0, 1, 1, 0]) (.node (.node .leaf (.node (.node .leaf (.node (.node (.node .leaf (.node (.orc 2 [0, 1, 5, 6, 7, 20, 21, 26, 27] []) .leaf)) .leaf) .leaf)) (.draw [⟨0, false, [], []⟩, ⟨1, false, [], []⟩, ⟨2, false, [], []⟩, ⟨3, false, [], []⟩, ⟨4, false, [], [3]⟩, ⟨5, false, [3], [2, 3, 4]⟩, ⟨6, false, [3], [2, 3, 4, 5]⟩, ⟨7, false, [], []⟩, ⟨8, false, [], []⟩, ⟨9, false, [], [8]⟩, ⟨10, false, [3], [7, 8, 9]⟩, ⟨11, false, [3], [7, 8, 9, 10]⟩, ⟨12, false, [], [2, 3, 4, 5, 6, 7, 8, 9, 10, 11]⟩, ⟨13, false, [], []⟩, ⟨14, false, [], []⟩, ⟨15, false, [], []⟩, ⟨16, false, [], [15]⟩, ⟨17, false, [3], [14, 15, 16]⟩, ⟨18, false, [3], [14, 15, 16, 17]⟩, ⟨19, false, [], []⟩, ⟨20, false, [], [19]⟩, ⟨21, false, [0], [19, 20]⟩, ⟨22, false, [0], [19, 20, 21]⟩, ⟨25, false, [], []⟩, ⟨26, false, [], []⟩, ⟨27, false, [], []⟩, ⟨28, false, [], [27]⟩, ⟨29, false, [3], [26, 27, 28]⟩, ⟨30, false, [3], [26, 27, 28, 29]⟩, ⟨31, false, [], []⟩, ⟨32, false, [], [31]⟩, ⟨33, false, [0], [31, 32]⟩, ⟨34, false, [0], [31, 32, 33]⟩, ⟨23, true, [0, 1, 2], [13, 14, 15, 16, 17, 18, 19, 20, 21, 22]⟩, ⟨24, false, [], [2, 3, 4, 5, 6, 7, 8, 9, 10, 11, 12, 13, 14, 15, 16, 17, 18, 19, 20, 21, 22, 23]⟩, ⟨35, true, [0, 1, 2], [13, 14, 15, 16, 17, 18, 19, 20, 21, 22, 23, 25, 26, 27, 28, 29, 30, 31, 32, 33, 34]⟩, ⟨36, false, [], [2, 3, 4, 5, 6, 7, 8, 9, 10, 11, 12, 13, 14, 15, 16, 17, 18, 19, 20, 21, 22, 23, 24, 25, 26, 27, 28, 29, 30, 31, 32, 33, 34, 35]⟩, ⟨37, false, [3], [0, 1, 2, 3, 4, 5, 6, 7, 8, 9, 10, 11, 12, 13, 14, 15, 16, 17, 18, 19, 20, 21, 22, 23, 24, 25, 26, 27, 28, 29, 30, 31, 32, 33, 34, 35, 36]⟩, ⟨38, true, [3], [0, 1, 2, 3, 4, 5, 6, 7, 8, 9, 10, 11, 12, 13, 14, 15, 16, 17, 18, 19, 20, 21, 22, 23, 24, 25, 26, 27, 28, 29, 30, 31, 32, 33, 34, 35, 36, 37]⟩]))) .leaf) [0, 1, 5, 6, 20, 21] [] := by
 intro R v next K
 kernel_rfl
theorem Zm0 : OrcOK Tryz.prog 88 3 (fsub Tryz.f201 [1, 1, 1, 0, 1, 0, 0, 1, 1, 0]) (fun R => pieceG 3 (Z50 Z1t) R) :=
 piece_j (Zjp Z1t) (cons_ok ⟨.inl Z5n, trivial⟩) (orcs_1 [(2, [0, 1, 0, 1, 0, 0, 1, 0])] ⟨piece_a Zm7, trivial⟩)
theorem Zk3 (g0 : Zm) : (Z54 g0).Loops Tryz.prog 88 3 (conL [(227, Z38 g0)]) (pieceL 3 [(1, Z50 g0)]) (fsub Tryz.f201 [1, 1, 1, 0, 1, 0, 0]) (.node .leaf (.node .leaf (.node (.orc 1 [0, 1, 5, 6, 20, 21] []) .leaf))) [0, 1, 5, 6, 20, 21] [] [5] [] := by
 intro R v next K
 kernel_rfl
theorem Zlx : OrcOK Tryz.prog 88 3 (.loop (fsub Tryz.f201 [1, 1, 1, 0, 1, 0, 0])) (fun R => pieceG 3 (Z54 Z1t) R) :=
 piece_l (Zk3 Z1t) (cons_ok ⟨.inl Z5n, trivial⟩) (orcs_1 [(1, [1, 1, 0])] ⟨piece_a Zm0, trivial⟩)
def Z3x (f : Zy) : Con := { args := [.sc (.ptr 0 0 0 0 0), .sc (.s)], blks := [(true, [.one (.i .i64), .one (.i .i64), .ints .i64 (some 3), .ints .i64 (some 3), .ints .i64 (some 3), .ints .i64 (some 3), .one (.fn Zb [1]), .ints .u32 (some 8)]), (false, [.one (.ptr 2 0 0 0 0)]), (true, [.ints .u64 (some 80)])], shapes := [⟨Int × Int × (List Int) × (List Int) × (List Int) × (List Int) × (List Int) × (List Int) × (List Int), fun r => (.c (.sc (.slice 3 1 none none)), [(0, ⟨true, [.one (.int .i64 r.1), .one (.int .i64 r.2.1), .ints .i64 r.2.2.1 3, .ints .i64 r.2.2.2.1 3, .ints .i64 r.2.2.2.2.1 3, .ints .i64 r.2.2.2.2.2.1 3, .one (.fn Zb [1]), .ints .u32 r.2.2.2.2.2.2.1 8]⟩), (1, ⟨false, [.one (.ptr 2 0 0 0 0)]⟩), (2, ⟨true, [.ints .u64 r.2.2.2.2.2.2.2.1 80]⟩), (3, ⟨true, [.ints .u32 r.2.2.2.2.2.2.2.2 r.2.2.2.2.2.2.2.2.length]⟩)], 1)⟩], F := fun R x y k => f R (x.2.1) (y.1.1) (y.1.2.1) (y.1.2.2.1) (y.1.2.2.2.1) (y.1.2.2.2.2.1) (y.1.2.2.2.2.2.1) (y.1.2.2.2.2.2.2.2.1) (y.2.2.1.1) (fun z0 z1 z2 z3 z4 z5 z6 z7 z8 => k.1 (z0, z1, z2, z3, z4, z5, z6, z7, z8)) }
def Zs2 : Con := Z3x Z2c
theorem Zma (g0 : Zm) : (Z3x (Zer g0)).Says Tryz.prog Tryz.f201 (conL [(227, Z38 g0)]) (pieceL 3 [(0, Z54 g0)]) (.node .leaf (.node .leaf (.node .leaf (.node (.node .leaf (.node (.orc 0 [0, 1, 5, 6, 20, 21] []) .leaf)) .leaf)))) := by
 intro R x y K
 kernel_rfl
theorem Z7u : ConOK Tryz.prog 201 Zs2 :=
 con_o (Zma Z1t) (cons_ok ⟨.inl Z5n, trivial⟩) (orcs_1 [(0, [1, 1, 1, 0, 1, 0])] ⟨piece_a Zlx, trivial⟩)
def Z3z (f : Zz) : Con := { args := [.sc (.ptr 0 0 0 0 0), .sc (.i .u32), .agg [.ints .i64 (some 3)]], blks := [(false, [.one (.i .i64), .one (.i .i64), .ints .i64 (some 3), .ints .i64 (some 3), .ints .i64 (some 3), .ints .i64 (some 3), .one (.fn Zb [1]), .ints .u32 (some 8)]), (false, [.one (.ptr 2 0 0 0 0)]), (false, [.ints .u64 (some 80)])], shapes := [⟨Int × Int × Int × (List Int) × (List Int) × (List Int) × (List Int) × (List Int) × (List Int), fun r => (.c (.sc (.int .u32 r.1)), [(0, ⟨false, [.one (.int .i64 r.2.1), .one (.int .i64 r.2.2.1), .ints .i64 r.2.2.2.1 3, .ints .i64 r.2.2.2.2.1 3, .ints .i64 r.2.2.2.2.2.1 3, .ints .i64 r.2.2.2.2.2.2.1 3, .one (.fn Zb [1]), .ints .u32 r.2.2.2.2.2.2.2.1 8]⟩), (1, ⟨false, [.one (.ptr 2 0 0 0 0)]⟩), (2, ⟨false, [.ints .u64 r.2.2.2.2.2.2.2.2 80]⟩)], 0)⟩], F := fun R x y k => f R (x.2.1) (x.2.2.1.1) (y.1.1) (y.1.2.1) (y.1.2.2.1) (y.1.2.2.2.1) (y.1.2.2.2.2.1) (y.1.2.2.2.2.2.1) (y.1.2.2.2.2.2.2.2.1) (y.2.2.1.1) (fun z0 z1 z2 z3 z4 z5 z6 z7 z8 => k.1 (z0, z1, z2, z3, z4, z5, z6, z7, z8)) }
def Zs0 : Con := Z3z Z2b
theorem Zmb (g0 : Z35) : (Z3z (Zeo g0)).Says Tryz.prog Tryz.f202 (conL [(228, Z5x g0)]) (pieceL 3 []) (.node .leaf (.node (.draw [⟨0, false, [], []⟩, ⟨1, false, [], []⟩, ⟨2, false, [3], []⟩, ⟨3, false, [3], [2]⟩, ⟨5, false, [], []⟩, ⟨6, false, [], []⟩, ⟨7, false, [3], []⟩, ⟨8, false, [3], [7]⟩, ⟨11, false, [], []⟩, ⟨12, false, [], []⟩, ⟨13, false, [3], []⟩, ⟨14, false, [3], [13]⟩, ⟨4, true, [0, 1, 2], [0, 1, 2, 3]⟩, ⟨9, true, [0, 1, 2], [0, 1, 2, 3, 4, 5, 6, 7, 8]⟩, ⟨10, false, [], [0, 1, 2, 3, 4, 5, 6, 7, 8, 9]⟩, ⟨15, true, [0, 1, 2], [0, 1, 2, 3, 4, 5, 6, 7, 8, 9, 11, 12, 13, 14]⟩, ⟨16, false, [], [0, 1, 2, 3, 4, 5, 6, 7, 8, 9, 10, 11, 12, 13, 14, 15]⟩, ⟨17, false, [], [0, 1, 2, 3, 4, 5, 6, 7, 8, 9, 10, 11, 12, 13, 14, 15, 16]⟩]) .leaf)) := by
 intro R x y K
 kernel_rfl
theorem Z7x : ConOK Tryz.prog 202 Zs0 :=
 con_o (Zmb Z4h) (cons_ok ⟨.inl Zdv, trivial⟩) orcs_0
def Z97 (f : Z22) : Con := { args := [.sc (.i .i64), .sc (.ptr 0 0 0 0 0)], blks := [(false, [.one (.ptr 1 0 0 0 0)]), (false, [.ints .u64 (some 80)])], shapes := [⟨Int × (List Int), fun r => (.c (.sc (.int .u32 r.1)), [(0, ⟨false, [.one (.ptr 1 0 0 0 0)]⟩), (1, ⟨false, [.ints .u64 r.2 80]⟩)], 0)⟩], F := fun R x y k => f R (x.1) (y.2.1.1) (fun z0 z1 => k.1 (z0, z1)) }
def Z13e : Con := Z97 Z5e
theorem Zy2 : (Z97 (Zqi)).Says Tryz.prog Tryz.f160 (conL []) (pieceL 2 []) .leaf := by
 intro R x y K
 kernel_rfl
theorem Zf4 : ConOK Tryz.prog 160 Z13e :=
 con_o (Zy2) (cons_ok trivial) orcs_0
theorem Zkc (g0 : Zy) (g1 : Zz) (g2 : Z22) : (Z4x g0 g1 g2).Loops Tryz.prog 116 3 (conL [(201, Z3x g0), (202, Z3z g1), (160, Z97 g2)]) (pieceL 3 []) (fsub Tryz.f158 [1, 1, 0, 1, 0, 0]) (.node .leaf (.node .leaf (.node (.node (.node .leaf (.node (.draw [⟨0, false, [5], []⟩, ⟨1, false, [5], [0]⟩, ⟨2, false, [5], []⟩, ⟨3, false, [5], [2]⟩, ⟨4, false, [], [0, 1]⟩, ⟨5, false, [], [0, 1, 2, 3, 4]⟩]) (.node (.draw [⟨0, false, [5], []⟩, ⟨1, false, [5], [0]⟩, ⟨2, false, [], []⟩, ⟨3, false, [], []⟩, ⟨4, false, [], []⟩, ⟨5, false, [], [4]⟩, ⟨6, false, [0], [4, 5]⟩, ⟨7, false, [0], [4, 5, 6]⟩, ⟨10, false, [], []⟩, ⟨11, false, [5], []⟩, ⟨12, false, [5], [11]⟩, ⟨13, false, [], [10, 11, 12]⟩, ⟨14, false, [], []⟩, ⟨15, false, [], [14]⟩, ⟨16, false, [5], []⟩, ⟨17, false, [5], [16]⟩, ⟨18, false, [], [14, 15, 16, 17]⟩, ⟨19, false, [], [10, 11, 12, 13, 14, 15, 16, 17, 18]⟩, ⟨21, false, [], []⟩, ⟨22, false, [], [21]⟩, ⟨23, false, [0], [21, 22]⟩, ⟨24, false, [0], [21, 22, 23]⟩, ⟨25, false, [], []⟩, ⟨28, false, [], []⟩, ⟨8, true, [0, 1, 2], [2, 3, 4, 5, 6, 7]⟩, ⟨9, false, [], [0, 1, 2, 3, 4, 5, 6, 7, 8]⟩, ⟨20, false, [], [0, 1, 2, 3, 4, 5, 6, 7, 8, 9, 10, 11, 12, 13, 14, 15, 16, 17, 18, 19]⟩, ⟨26, true, [1, 2], [2, 3, 4, 5, 6, 7, 8, 21, 22, 23, 24, 25]⟩, ⟨27, false, [], [0, 1, 2, 3, 4, 5, 6, 7, 8, 9, 10, 11, 12, 13, 14, 15, 16, 17, 18, 19, 20, 21, 22, 23, 24, 25, 26]⟩, ⟨29, false, [], [0, 1, 2, 3, 4, 5, 6, 7, 8, 9, 10, 11, 12, 13, 14, 15, 16, 17, 18, 19, 20, 21, 22, 23, 24, 25, 26, 27, 28]⟩, ⟨30, false, [], [0, 1, 2, 3, 4, 5, 6, 7, 8, 9, 10, 11, 12, 13, 14, 15, 16, 17, 18, 19, 20, 21, 22, 23, 24, 25, 26, 27, 28, 29]⟩]) (.node (.draw [⟨0, false, [], []⟩, ⟨1, false, [], []⟩, ⟨2, false, [], []⟩, ⟨3, false, [], [2]⟩, ⟨4, false, [0], [2, 3]⟩, ⟨5, false, [0], [2, 3, 4]⟩, ⟨7, false, [], []⟩, ⟨8, false, [5], []⟩, ⟨9, false, [5], [8]⟩, ⟨10, false, [], [7, 8, 9]⟩, ⟨11, false, [], []⟩, ⟨12, false, [5], []⟩, ⟨13, false, [5], [12]⟩, ⟨14, false, [], [11, 12, 13]⟩, ⟨15, false, [], [7, 8, 9, 10, 11, 12, 13, 14]⟩, ⟨16, false, [5], []⟩, ⟨17, false, [5], [16]⟩, ⟨18, false, [5], []⟩, ⟨19, false, [5], [18]⟩, ⟨20, false, [], [16, 17, 18, 19]⟩, ⟨21, false, [], [7, 8, 9, 10, 11, 12, 13, 14, 15, 16, 17, 18, 19, 20]⟩, ⟨6, true, [0, 1, 2], [0, 1, 2, 3, 4, 5]⟩, ⟨22, false, [], [0, 1, 2, 3, 4, 5, 6, 7, 8, 9, 10, 11, 12, 13, 14, 15, 16, 17, 18, 19, 20, 21]⟩, ⟨23, false, [], [0, 1, 2, 3, 4, 5, 6, 7, 8, 9, 10, 11, 12, 13, 14, 15, 16, 17, 18, 19, 20, 21, 22]⟩]) .leaf)))) .leaf) .leaf))) [0, 4, 6, 7, 18, 19, 20] [] [4, 6, 7] [] := by
 intro R v next K
 kernel_rfl
theorem Zls : OrcOK Tryz.prog 116 3 (.loop (fsub Tryz.f158 [1, 1, 0, 1, 0, 0])) (fun R => pieceG 3 (Z4x Z2c Z2b Z5e) R) :=
 piece_l (Zkc Z2c Z2b Z5e) (cons_ok ⟨.inl Z7u, .inl Z7x, .inl Zf4, trivial⟩) orcs_0
theorem Zk1 (g0 : Zy) (g1 : Zz) (g2 : Z22) : (Z58 g0 g1 g2).Loops Tryz.prog 116 3 (conL [(201, Z3x g0), (202, Z3z g1), (160, Z97 g2)]) (pieceL 3 []) (fsub Tryz.f158 [1, 1, 1, 0, 1, 0, 0]) (.node .leaf (.node .leaf (.node (.node (.node .leaf (.draw [⟨0, false, [], []⟩, ⟨1, false, [3], [0]⟩, ⟨2, false, [3], [0, 1]⟩, ⟨3, false, [], []⟩, ⟨4, false, [5], [3]⟩, ⟨5, false, [5], [3, 4]⟩, ⟨6, false, [], [0, 1, 2, 3, 4, 5]⟩, ⟨7, false, [3], [0, 1, 2, 3, 4, 5, 6]⟩, ⟨8, true, [3], [0, 1, 2, 3, 4, 5, 6, 7]⟩])) .leaf) .leaf))) [4, 6, 7, 103] [] [4, 6] [] := by
 intro R v next K
 kernel_rfl
theorem Zly : OrcOK Tryz.prog 116 3 (.loop (fsub Tryz.f158 [1, 1, 1, 0, 1, 0, 0])) (fun R => pieceG 3 (Z58 Z2c Z2b Z5e) R) :=
 piece_l (Zk1 Z2c Z2b Z5e) (cons_ok ⟨.inl Z7u, .inl Z7x, .inl Zf4, trivial⟩) orcs_0
def Z1p (f : Z6) : Con := { args := [.sc (.ptr 0 0 0 0 0), .agg [.ints .u32 (some 8)], .sc (.s)], blks := [(true, [.one (.i .i64), .one (.i .i64), .ints .i64 (some 3), .ints .i64 (some 3), .ints .i64 (some 3), .ints .i64 (some 3), .one (.fn Zb [1]), .ints .u32 (some 8)]), (false, [.one (.ptr 2 0 0 0 0)]), (true, [.ints .u64 (some 80)])], shapes := [⟨(List Int) × Int × Int × (List Int) × (List Int) × (List Int) × (List Int) × (List Int) × (List Int), fun r => (.c (.agg [.ints .u32 r.1 8]), [(0, ⟨true, [.one (.int .i64 r.2.1), .one (.int .i64 r.2.2.1), .ints .i64 r.2.2.2.1 3, .ints .i64 r.2.2.2.2.1 3, .ints .i64 r.2.2.2.2.2.1 3, .ints .i64 r.2.2.2.2.2.2.1 3, .one (.fn Zb [1]), .ints .u32 r.2.2.2.2.2.2.2.1 8]⟩), (1, ⟨false, [.one (.ptr 2 0 0 0 0)]⟩), (2, ⟨true, [.ints .u64 r.2.2.2.2.2.2.2.2 80]⟩)], 0)⟩], F := fun R x y k => f R (x.2.1.1) (x.2.2.1) (y.1.1) (y.1.2.1) (y.1.2.2.1) (y.1.2.2.2.1) (y.1.2.2.2.2.1) (y.1.2.2.2.2.2.1) (y.1.2.2.2.2.2.2.2.1) (y.2.2.1.1) (fun z0 z1 z2 z3 z4 z5 z6 z7 z8 => k.1 (z0, z1, z2, z3, z4, z5, z6, z7, z8)) }
def Zsj : Con := Z1p Zw
theorem Zlr (g0 : Zy) (g1 : Zz) (g2 : Z22) : (Z1p (Zeq g0 g1 g2)).Says Tryz.prog Tryz.f158 (conL [(201, Z3x g0), (202, Z3z g1), (160, Z97 g2)]) (pieceL 3 [(0, Z4x g0 g1 g2), (1, Z58 g0 g1 g2)]) (.node .leaf (.node .leaf (.node (.node .leaf (.node (.orc 0 [0, 4, 6, 7, 18, 19, 20] []) .leaf)) (.node (.node .leaf (.node (.orc 1 [4, 6, 7, 103] []) .leaf)) .leaf)))) := by
 intro R x y K
 kernel_rfl
theorem Z2g : ConOK Tryz.prog 158 Zsj :=
 con_o (Zlr Z2c Z2b Z5e) (cons_ok ⟨.inl Z7u, .inl Z7x, .inl Zf4, trivial⟩) (orcs_1 [(0, [1, 1, 0, 1, 0]), (1, [1, 1, 1, 0, 1, 0])] ⟨piece_a Zls, piece_a Zly, trivial⟩)
theorem Zod (g0 : Z8) (g1 : Z6) : (Z72 g0 g1).Loops Tryz.prog 100 3 (conL [(157, Z1o g0), (158, Z1p g1)]) (pieceL 3 []) (fsub Tryz.f83 [1, 1, 1, 0, 0, 0]) (.node (.node (.draw [⟨0, false, [], []⟩, ⟨1, false, [3], [0]⟩, ⟨2, false, [], []⟩, ⟨3, false, [], [2]⟩, ⟨4, false, [0], [2, 3]⟩, ⟨5, false, [0], [2, 3, 4]⟩, ⟨6, false, [], [2, 3, 4, 5]⟩, ⟨7, false, [], [0, 1, 2, 3, 4, 5, 6]⟩, ⟨8, false, [], []⟩, ⟨9, true, [0, 1, 2], [8]⟩, ⟨10, false, [], [0, 1, 2, 3, 4, 5, 6, 7, 8, 9]⟩, ⟨11, false, [], [0, 1, 2, 3, 4, 5, 6, 7, 8, 9, 10]⟩]) .leaf) .leaf) [0, 1, 5] [] [0, 1, 5] [] := by
 intro R v next K
 kernel_rfl
theorem Zqk : OrcOK Tryz.prog 100 3 (.loop (fsub Tryz.f83 [1, 1, 1, 0, 0, 0])) (fun R => pieceG 3 (Z72 Zx Zw) R) :=
 piece_l (Zod Zx Zw) (cons_ok ⟨.inl Z2k, .inl Z2g, trivial⟩) orcs_0
theorem Zo7 (g0 : Z8) (g1 : Z6) : (Z73 g0 g1).Loops Tryz.prog 100 3 (conL [(157, Z1o g0), (158, Z1p g1)]) (pieceL 3 []) (fsub Tryz.f83 [1, 1, 1, 1, 0, 1, 0, 0]) .leaf [0, 1, 5, 6] [] [0, 5] [] := by
 intro R v next K
 kernel_rfl
theorem Zrh : OrcOK Tryz.prog 100 3 (.loop (fsub Tryz.f83 [1, 1, 1, 1, 0, 1, 0, 0])) (fun R => pieceG 3 (Z73 Zx Zw) R) :=
 piece_l (Zo7 Zx Zw) (cons_ok ⟨.inl Z2k, .inl Z2g, trivial⟩) orcs_0
theorem Zog (g0 : Z8) (g1 : Z6) : (Z70 g0 g1).Loops Tryz.prog 100 3 (conL [(157, Z1o g0), (158, Z1p g1)]) (pieceL 3 []) (fsub Tryz.f83 [1, 1, 1, 1, 1, 1, 0, 1, 0, 0]) (.node .leaf (.node (.node (.draw [⟨0, false, [], []⟩, ⟨1, false, [4], []⟩, ⟨2, false, [], []⟩, ⟨3, false, [], []⟩, ⟨4, false, [], []⟩, ⟨5, false, [], []⟩, ⟨6, true, [0, 1, 2], [5]⟩, ⟨7, false, [], [4, 5, 6]⟩, ⟨8, false, [3], [2, 3, 4, 5, 6, 7]⟩, ⟨9, false, [3], [2, 3, 4, 5, 6, 7, 8]⟩, ⟨10, true, [0, 1, 2], [0, 1, 2, 3, 4, 5, 6, 7, 8, 9]⟩, ⟨11, true, [4], [0, 1, 2, 3, 4, 5, 6, 7, 8, 9, 10]⟩]) .leaf) .leaf)) [0, 5, 7, 8] [] [0, 7] [] := by
 intro R v next K
 kernel_rfl
theorem Zr7 : OrcOK Tryz.prog 100 3 (.loop (fsub Tryz.f83 [1, 1, 1, 1, 1, 1, 0, 1, 0, 0])) (fun R => pieceG 3 (Z70 Zx Zw) R) :=
 piece_l (Zog Zx Zw) (cons_ok ⟨.inl Z2k, .inl Z2g, trivial⟩) orcs_0
theorem Zob (g0 : Z8) (g1 : Z6) : (Z79 g0 g1).Loops Tryz.prog 100 3 (conL [(157, Z1o g0), (158, Z1p g1)]) (pieceL 3 []) (fsub Tryz.f83 [1, 1, 1, 1, 1, 1, 1, 1, 0, 1, 0, 0, 1, 1, 0, 0, 1, 1, 0, 0]) .leaf [0, 9, 11, 12, 77, 78] [] [0, 9, 77, 78] [] := by
 intro R v next K
 kernel_rfl
theorem Zr6 : OrcOK Tryz.prog 100 3 (.loop (fsub Tryz.f83 [1, 1, 1, 1, 1, 1, 1, 1, 0, 1, 0, 0, 1, 1, 0, 0, 1, 1, 0, 0])) (fun R => pieceG 3 (Z79 Zx Zw) R) :=
 piece_l (Zob Zx Zw) (cons_ok ⟨.inl Z2k, .inl Z2g, trivial⟩) orcs_0
theorem Znx (g0 : Z8) (g1 : Z6) : (Z6y g0 g1).Loops Tryz.prog 100 3 (conL [(157, Z1o g0), (158, Z1p g1)]) (pieceL 3 [(4, Z79 g0 g1)]) (fsub Tryz.f83 [1, 1, 1, 1, 1, 1, 1, 1, 0, 1, 0, 0]) (.node .leaf (.node .leaf (.node (.node (.node .leaf (.node .leaf (.node (.orc 4 [0, 9, 11, 12, 77, 78] []) .leaf))) .leaf) .leaf))) [0, 9, 77, 78] [(9, .bytes [] 0)] [9] [] := by
 intro R v next K
 kernel_rfl
theorem Zql : OrcOK Tryz.prog 100 3 (.loop (fsub Tryz.f83 [1, 1, 1, 1, 1, 1, 1, 1, 0, 1, 0, 0])) (fun R => pieceG 3 (Z6y Zx Zw) R) :=
 piece_l (Znx Zx Zw) (cons_ok ⟨.inl Z2k, .inl Z2g, trivial⟩) (orcs_1 [(4, [1, 1, 0, 0, 1, 1, 0])] ⟨piece_a Zr6, trivial⟩)
def Zbn (f : Z8o) : Con := { args := [.sc (.ptr 0 0 0 0 0), .sc (.s)], blks := [(true, [.one (.i .i64), .one (.i .i64), .ints .i64 (some 3), .ints .i64 (some 3), .ints .i64 (some 3), .ints .i64 (some 3), .one (.fn Zb [1]), .ints .u32 (some 8)]), (false, [.one (.ptr 2 0 0 0 0)]), (true, [.ints .u64 (some 80)])], shapes := [⟨Str × Int × Int × (List Int) × (List Int) × (List Int) × (List Int) × (List Int) × (List Int), fun r => (.c (.sc (.str r.1)), [(0, ⟨true, [.one (.int .i64 r.2.1), .one (.int .i64 r.2.2.1), .ints .i64 r.2.2.2.1 3, .ints .i64 r.2.2.2.2.1 3, .ints .i64 r.2.2.2.2.2.1 3, .ints .i64 r.2.2.2.2.2.2.1 3, .one (.fn Zb [1]), .ints .u32 r.2.2.2.2.2.2.2.1 8]⟩), (1, ⟨false, [.one (.ptr 2 0 0 0 0)]⟩), (2, ⟨true, [.ints .u64 r.2.2.2.2.2.2.2.2 80]⟩)], 0)⟩], F := fun R x y k => f R (x.2.1) (y.1.1) (y.1.2.1) (y.1.2.2.1) (y.1.2.2.2.1) (y.1.2.2.2.2.1) (y.1.2.2.2.2.2.1) (y.1.2.2.2.2.2.2.2.1) (y.2.2.1.1) (fun z0 z1 z2 z3 z4 z5 z6 z7 z8 => k.1 (z0, z1, z2, z3, z4, z5, z6, z7, z8)) }
def Zy3 : Con := Zbn Zcw
theorem Zqr (g0 : Z8) (g1 : Z6) : (Zbn (Zih g0 g1)).Says Tryz.prog Tryz.f83 (conL [(157, Z1o g0), (158, Z1p g1)]) (pieceL 3 [(0, Z72 g0 g1), (1, Z73 g0 g1), (2, Z70 g0 g1), (3, Z6y g0 g1)]) (.node .leaf (.node .leaf (.node .leaf (.node (.node (.orc 0 [0, 1, 5] []) .leaf) (.node (.node .leaf (.node (.orc 1 [0, 1, 5, 6] []) .leaf)) (.node .leaf (.node (.node .leaf (.node (.orc 2 [0, 5, 7, 8] []) .leaf)) (.node .leaf (.node (.node .leaf (.node (.orc 3 [0, 9, 77, 78] [(9, .bytes [] 0)]) .leaf)) .leaf))))))))) := by
 intro R x y K
 kernel_rfl
theorem Ztq : ConOK Tryz.prog 83 Zy3 :=
 con_o (Zqr Zx Zw) (cons_ok ⟨.inl Z2k, .inl Z2g, trivial⟩) (orcs_1 [(0, [1, 1, 1, 0, 0]), (1, [1, 1, 1, 1, 0, 1, 0]), (2, [1, 1, 1, 1, 1, 1, 0, 1, 0]), (3, [1, 1, 1, 1, 1, 1, 1, 1, 0, 1, 0])] ⟨piece_a Zqk, piece_a Zrh, piece_a Zr7, piece_a Zql, trivial⟩)
def Zv3 (f : Zq6) : Con := { args := [.sc (.s)], blks := [], shapes := [⟨Str, fun r => (.c (.sc (.str r)), [], 0)⟩], F := fun R x y k => f R (x.1) (fun z0 => k.1 z0) }
def Z189 : Con := Zv3 Zxf
theorem Z14j (g0 : Zq5) (g1 : Z8o) : (Zv3 (Z124 g0 g1)).Says Tryz.prog Tryz.f39 (conL [(84, Zuc g0), (83, Zbn g1)]) (pieceL 0 []) .leaf := by
 intro R x y K
 kernel_rfl
theorem Z160 : ConOK Tryz.prog 39 Z189 :=
 con_o (Z14j Zxz Zcw) (cons_ok ⟨.inl Z166, .inl Ztq, trivial⟩) orcs_0
def Zuf (f : Zqd) : Con := { args := [], blks := [], shapes := [⟨Int × Int × (List Int) × (List Int) × (List Int) × (List Int) × (List Int) × (List Int), fun r => (.c (.sc (.ptr 0 0 0 0 0)), [(0, ⟨true, [.one (.int .i64 r.1), .one (.int .i64 r.2.1), .ints .i64 r.2.2.1 3, .ints .i64 r.2.2.2.1 3, .ints .i64 r.2.2.2.2.1 3, .ints .i64 r.2.2.2.2.2.1 3, .one (.fn Zd [1]), .ints .u64 r.2.2.2.2.2.2.1 8]⟩), (1, ⟨true, [.one (.ptr 2 0 0 0 0)]⟩), (2, ⟨true, [.ints .u64 r.2.2.2.2.2.2.2 80]⟩)], 3)⟩], F := fun R x y k => f R (fun z0 z1 z2 z3 z4 z5 z6 z7 => k.1 (z0, z1, z2, z3, z4, z5, z6, z7)) }
def Z188 : Con := Zuf Zk7
theorem Z14l (g0 : Z4a) (g1 : Z6x) : (Zuf (Zv2 g0 g1)).Says Tryz.prog Tryz.f167 (conL [(159, Zc4 g0), (161, Zhf g1)]) (pieceL 0 []) .leaf := by
 intro R x y K
 kernel_rfl
theorem Z16f : ConOK Tryz.prog 167 Z188 :=
 con_o (Z14l Z4u Z8m) (cons_ok ⟨.inl Zir, .inl Zpa, trivial⟩) orcs_0
def Z1m (f : Z7) : Con := { args := [.sc (.ptr 0 0 0 0 0)], blks := [(false, [.one (.i .i64), .one (.i .i64), .ints .i64 (some 3), .ints .i64 (some 3), .ints .i64 (some 3), .ints .i64 (some 3), .one (.fn Zd [1]), .ints .u64 (some 8)]), (false, [.one (.ptr 2 0 0 0 0)]), (false, [.ints .u64 (some 80)])], shapes := [⟨Int × Int × Int × (List Int) × (List Int) × (List Int) × (List Int) × (List Int) × (List Int), fun r => (.c (.sc (.int .i64 r.1)), [(0, ⟨false, [.one (.int .i64 r.2.1), .one (.int .i64 r.2.2.1), .ints .i64 r.2.2.2.1 3, .ints .i64 r.2.2.2.2.1 3, .ints .i64 r.2.2.2.2.2.1 3, .ints .i64 r.2.2.2.2.2.2.1 3, .one (.fn Zd [1]), .ints .u64 r.2.2.2.2.2.2.2.1 8]⟩), (1, ⟨false, [.one (.ptr 2 0 0 0 0)]⟩), (2, ⟨false, [.ints .u64 r.2.2.2.2.2.2.2.2 80]⟩)], 0)⟩], F := fun R x y k => f R (y.1.1) (y.1.2.1) (y.1.2.2.1) (y.1.2.2.2.1) (y.1.2.2.2.2.1) (y.1.2.2.2.2.2.1) (y.1.2.2.2.2.2.2.2.1) (y.2.2.1.1) (fun z0 z1 z2 z3 z4 z5 z6 z7 z8 => k.1 (z0, z1, z2, z3, z4, z5, z6, z7, z8)) }
def Zsc : Con := Z1m Z1
theorem Zm5 : (Z1m (Z94)).Says Tryz.prog Tryz.f204 (conL []) (pieceL 3 []) .leaf := by
 intro R x y K
 kernel_rfl
theorem Z2j : ConOK Tryz.prog 204 Zsc :=
 con_o (Zm5) (cons_ok trivial) orcs_0
def Z5z (f : Z37) : Con := { args := [.sc (.ptr 0 0 0 0 0), .sc (.i .u64), .sc (.i .i64)], blks := [(false, [.one (.i .i64), .one (.i .i64), .ints .i64 (some 3), .ints .i64 (some 3), .ints .i64 (some 3), .ints .i64 (some 3), .one (.fn Zd [1]), .ints .u64 (some 8)]), (false, [.one (.ptr 2 0 0 0 0)]), (false, [.ints .u64 (some 80)])], shapes := [⟨Int × Int × Int × (List Int) × (List Int) × (List Int) × (List Int) × (List Int) × (List Int), fun r => (.c (.sc (.int .u64 r.1)), [(0, ⟨false, [.one (.int .i64 r.2.1), .one (.int .i64 r.2.2.1), .ints .i64 r.2.2.2.1 3, .ints .i64 r.2.2.2.2.1 3, .ints .i64 r.2.2.2.2.2.1 3, .ints .i64 r.2.2.2.2.2.2.1 3, .one (.fn Zd [1]), .ints .u64 r.2.2.2.2.2.2.2.1 8]⟩), (1, ⟨false, [.one (.ptr 2 0 0 0 0)]⟩), (2, ⟨false, [.ints .u64 r.2.2.2.2.2.2.2.2 80]⟩)], 0)⟩], F := fun R x y k => f R (x.2.1) (x.2.2.1) (y.1.1) (y.1.2.1) (y.1.2.2.1) (y.1.2.2.2.1) (y.1.2.2.2.2.1) (y.1.2.2.2.2.2.1) (y.1.2.2.2.2.2.2.2.1) (y.2.2.1.1) (fun z0 z1 z2 z3 z4 z5 z6 z7 z8 => k.1 (z0, z1, z2, z3, z4, z5, z6, z7, z8)) }
def Ztc : Con := Z5z Z2l
theorem Znw : (Z5z (Z9o)).Says Tryz.prog Tryz.f249 (conL []) (pieceL 3 []) (.node .leaf (.node (.draw [⟨0, false, [], []⟩, ⟨1, false, [], []⟩, ⟨2, false, [], [0, 1]⟩, ⟨3, false, [], []⟩, ⟨4, false, [], []⟩, ⟨5, false, [], [4]⟩, ⟨6, false, [0], [4, 5]⟩, ⟨7, false, [0], [4, 5, 6]⟩, ⟨8, false, [], []⟩, ⟨9, false, [], [4, 5, 6, 7, 8]⟩, ⟨10, false, [], [3, 4, 5, 6, 7, 8, 9]⟩, ⟨11, false, [], [0, 1, 2, 3, 4, 5, 6, 7, 8, 9, 10]⟩, ⟨12, false, [], [0, 1, 2, 3, 4, 5, 6, 7, 8, 9, 10, 11]⟩]) .leaf)) := by
 intro R x y K
 kernel_rfl
theorem Ze7 : ConOK Tryz.prog 249 Ztc :=
 con_o (Znw) (cons_ok trivial) orcs_0
def Z36 (f : Zl) : Con := { args := [.sc (.ptr 0 0 0 0 0), .sc (.i .u64), .agg [.ints .i64 (some 3)]], blks := [(false, [.one (.i .i64), .one (.i .i64), .ints .i64 (some 3), .ints .i64 (some 3), .ints .i64 (some 3), .ints .i64 (some 3), .one (.fn Zd [1]), .ints .u64 (some 8)]), (false, [.one (.ptr 2 0 0 0 0)]), (false, [.ints .u64 (some 80)])], shapes := [⟨Int × Int × Int × (List Int) × (List Int) × (List Int) × (List Int) × (List Int) × (List Int), fun r => (.c (.sc (.int .u64 r.1)), [(0, ⟨false, [.one (.int .i64 r.2.1), .one (.int .i64 r.2.2.1), .ints .i64 r.2.2.2.1 3, .ints .i64 r.2.2.2.2.1 3, .ints .i64 r.2.2.2.2.2.1 3, .ints .i64 r.2.2.2.2.2.2.1 3, .one (.fn Zd [1]), .ints .u64 r.2.2.2.2.2.2.2.1 8]⟩), (1, ⟨false, [.one (.ptr 2 0 0 0 0)]⟩), (2, ⟨false, [.ints .u64 r.2.2.2.2.2.2.2.2 80]⟩)], 0)⟩], F := fun R x y k => f R (x.2.1) (x.2.2.1.1) (y.1.1) (y.1.2.1) (y.1.2.2.1) (y.1.2.2.2.1) (y.1.2.2.2.2.1) (y.1.2.2.2.2.2.1) (y.1.2.2.2.2.2.2.2.1) (y.2.2.1.1) (fun z0 z1 z2 z3 z4 z5 z6 z7 z8 => k.1 (z0, z1, z2, z3, z4, z5, z6, z7, z8)) }
def Zue : Con := Z36 Zf
theorem Zo3 (g0 : Z37) : (Z36 (Za5 g0)).Says Tryz.prog Tryz.f248 (conL [(249, Z5z g0)]) (pieceL 3 []) (.node .leaf (.node (.draw [⟨0, false, [], []⟩, ⟨1, false, [], []⟩, ⟨2, false, [3], []⟩, ⟨3, false, [3], [2]⟩, ⟨5, false, [], []⟩, ⟨6, false, [], []⟩, ⟨7, false, [3], []⟩, ⟨8, false, [3], [7]⟩, ⟨11, false, [], []⟩, ⟨12, false, [3], []⟩, ⟨13, false, [3], [12]⟩, ⟨14, false, [], [11, 12, 13]⟩, ⟨4, true, [0, 1, 2], [0, 1, 2, 3]⟩, ⟨9, true, [0, 1, 2], [0, 1, 2, 3, 4, 5, 6, 7, 8]⟩, ⟨10, false, [], [0, 1, 2, 3, 4, 5, 6, 7, 8, 9]⟩, ⟨15, false, [], [0, 1, 2, 3, 4, 5, 6, 7, 8, 9, 10, 11, 12, 13, 14]⟩, ⟨16, false, [], [0, 1, 2, 3, 4, 5, 6, 7, 8, 9, 10, 11, 12, 13, 14, 15]⟩]) .leaf)) := by
 intro R x y K
 kernel_rfl
theorem Z5l : ConOK Tryz.prog 248 Zue :=
 con_o (Zo3 Z2l) (cons_ok ⟨.inl Ze7, trivial⟩) orcs_0
theorem Zjr (g0 : Zl) : (Z3l g0).Loops Tryz.prog 88 3 (conL [(248, Z36 g0)]) (pieceL 3 []) (fsub Tryz.f229 [1, 1, 1, 0, 1, 0, 0, 1, 1, 0, 0, 1, 0, 1, 0, 0, 1, 0, 0]) (.node .leaf (.node .leaf (.node (.node (.node .leaf (.draw [⟨0, false, [], []⟩, ⟨1, false, [], []⟩, ⟨2, false, [], []⟩, ⟨3, false, [], []⟩, ⟨4, false, [3], [2, 3]⟩, ⟨5, false, [3], [2, 3, 4]⟩, ⟨6, false, [], [2, 3, 4, 5]⟩, ⟨7, false, [], []⟩, ⟨8, false, [], []⟩, ⟨9, false, [], []⟩, ⟨10, false, [], [8, 9]⟩, ⟨11, false, [], []⟩, ⟨12, false, [], [8, 9, 10, 11]⟩, ⟨13, false, [], [7, 8, 9, 10, 11, 12]⟩, ⟨14, false, [], [7, 8, 9, 10, 11, 12, 13]⟩, ⟨15, false, [], [2, 3, 4, 5, 6, 7, 8, 9, 10, 11, 12, 13, 14]⟩, ⟨16, false, [3], [0, 1, 2, 3, 4, 5, 6, 7, 8, 9, 10, 11, 12, 13, 14, 15]⟩, ⟨17, true, [3], [0, 1, 2, 3, 4, 5, 6, 7, 8, 9, 10, 11, 12, 13, 14, 15, 16]⟩])) .leaf) .leaf))) [0, 1, 5, 6, 7, 20, 21, 26, 27] [] [0, 1, 5, 6, 20, 21] [] := by
 intro R v next K
 kernel_rfl
theorem Zlt : OrcOK Tryz.prog 88 3 (.loop (fsub Tryz.f229 [1, 1, 1, 0, 1, 0, 0, 1, 1, 0, 0, 1, 0, 1, 0, 0, 1, 0, 0])) (fun R => pieceG 3 (Z3l Zf) R) :=
 piece_l (Zjr Zf) (cons_ok ⟨.inl Z5l, trivial⟩) orcs_0
theorem Zk5 (g0 : Zl) : (Z4z g0).Joins Tryz.prog 88 3 (conL [(248, Z36 g0)]) (pieceL 3 [(2, Z3l g0)]) (fsub Tryz.f229 [1, 1, 1, 0, 1, 0, 0, 1, 1, 0]) (.node (.node .leaf (.node (.node .leaf (.node (.node (.node .leaf (.node (.orc 2 [0, 1, 5, 6, 7, 20, 21, 26, 27] []) .leaf)) .leaf) .leaf)) (.draw [⟨0, false, [], []⟩, ⟨1, false, [], []⟩, ⟨2, false, [], []⟩, ⟨3, false, [], []⟩, ⟨4, false, [], [3]⟩, ⟨5, false, [3], [2, 3, 4]⟩, ⟨6, false, [3], [2, 3, 4, 5]⟩, ⟨7, false, [], []⟩, ⟨8, false, [], []⟩, ⟨9, false, [], [8]⟩, ⟨10, false, [3], [7, 8, 9]⟩, ⟨11, false, [3], [7, 8, 9, 10]⟩, ⟨12, false, [], [2, 3, 4, 5, 6, 7, 8, 9, 10, 11]⟩, ⟨13, false, [], []⟩, ⟨14, false, [], []⟩, ⟨15, false, [], []⟩, ⟨16, false, [], [15]⟩, ⟨17, false, [3], [14, 15, 16]⟩, ⟨18, false, [3], [14, 15, 16, 17]⟩, ⟨19, false, [], []⟩, ⟨20, false, [], [19]⟩, ⟨21, false, [0], [19, 20]⟩, ⟨22, false, [0], [19, 20, 21]⟩, ⟨25, false, [], []⟩, ⟨26, false, [], []⟩, ⟨27, false, [], []⟩, ⟨28, false, [], [27]⟩, ⟨29, false, [3], [26, 27, 28]⟩, ⟨30, false, [3], [26, 27, 28, 29]⟩, ⟨31, false, [], []⟩, ⟨32, false, [], [31]⟩, ⟨33, false, [0], [31, 32]⟩, ⟨34, false, [0], [31, 32, 33]⟩, ⟨23, true, [0, 1, 2], [13, 14, 15, 16, 17, 18, 19, 20, 21, 22]⟩, ⟨24, false, [], [2, 3, 4, 5, 6, 7, 8, 9, 10, 11, 12, 13, 14, 15, 16, 17, 18, 19, 20, 21, 22, 23]⟩, ⟨35, true, [0, 1, 2], [13, 14, 15, 16, 17, 18, 19, 20, 21, 22, 23, 25, 26, 27, 28, 29, 30, 31, 32, 33, 34]⟩, ⟨36, false, [], [2, 3, 4, 5, 6, 7, 8, 9, 10, 11, 12, 13, 14, 15, 16, 17, 18, 19, 20, 21, 22, 23, 24, 25, 26, 27, 28, 29, 30, 31, 32, 33, 34, 35]⟩, ⟨37, false, [3], [0, 1, 2, 3, 4, 5, 6, 7, 8, 9, 10, 11, 12, 13, 14, 15, 16, 17, 18, 19, 20, 21, 22, 23, 24, 25, 26, 27, 28, 29, 30, 31, 32, 33, 34, 35, 36]⟩, ⟨38, true, [3], [0, 1, 2, 3, 4, 5, 6, 7, 8, 9, 10, 11, 12, 13, 14, 15, 16, 17, 18, 19, 20, 21, 22, 23, 24, 25, 26, 27, 28, 29, 30, 31, 32, 33, 34, 35, 36, 37]⟩]))) .leaf) [0, 1, 5, 6, 20, 21] [] := by
 intro R v next K
 kernel_rfl
theorem Zm4 : OrcOK Tryz.prog 88 3 (fsub Tryz.f229 [1, 1, 1, 0, 1, 0, 0, 1, 1, 0]) (fun R => pieceG 3 (Z4z Zf) R) :=
 piece_j (Zk5 Zf) (cons_ok ⟨.inl Z5l, trivial⟩) (orcs_1 [(2, [0, 1, 0, 1, 0, 0, 1, 0])] ⟨piece_a Zlt, trivial⟩)
theorem Zjx (g0 : Zl) : (Z3p g0).Loops Tryz.prog 88 3 (conL [(248, Z36 g0)]) (pieceL 3 [(1, Z4z g0)]) (fsub Tryz.f229 [1, 1, 1, 0, 1, 0, 0]) (.node .leaf (.node .leaf (.node (.orc 1 [0, 1, 5, 6, 20, 21] []) .leaf))) [0, 1, 5, 6, 20, 21] [] [5] [] := by
 intro R v next K
 kernel_rfl
theorem Zm9 : OrcOK Tryz.prog 88 3 (.loop (fsub Tryz.f229 [1, 1, 1, 0, 1, 0, 0])) (fun R => pieceG 3 (Z3p Zf) R) :=
 piece_l (Zjx Zf) (cons_ok ⟨.inl Z5l, trivial⟩) (orcs_1 [(1, [1, 1, 0])] ⟨piece_a Zm4, trivial⟩)
def Z3y (f : Z10) : Con := { args := [.sc (.ptr 0 0 0 0 0), .sc (.s)], blks := [(true, [.one (.i .i64), .one (.i .i64), .ints .i64 (some 3), .ints .i64 (some 3), .ints .i64 (some 3), .ints .i64 (some 3), .one (.fn Zd [1]), .ints .u64 (some 8)]), (false, [.one (.ptr 2 0 0 0 0)]), (true, [.ints .u64 (some 80)])], shapes := [⟨Int × Int × (List Int) × (List Int) × (List Int) × (List Int) × (List Int) × (List Int) × (List Int), fun r => (.c (.sc (.slice 3 1 none none)), [(0, ⟨true, [.one (.int .i64 r.1), .one (.int .i64 r.2.1), .ints .i64 r.2.2.1 3, .ints .i64 r.2.2.2.1 3, .ints .i64 r.2.2.2.2.1 3, .ints .i64 r.2.2.2.2.2.1 3, .one (.fn Zd [1]), .ints .u64 r.2.2.2.2.2.2.1 8]⟩), (1, ⟨false, [.one (.ptr 2 0 0 0 0)]⟩), (2, ⟨true, [.ints .u64 r.2.2.2.2.2.2.2.1 80]⟩), (3, ⟨true, [.ints .u64 r.2.2.2.2.2.2.2.2 r.2.2.2.2.2.2.2.2.length]⟩)], 1)⟩], F := fun R x y k => f R (x.2.1) (y.1.1) (y.1.2.1) (y.1.2.2.1) (y.1.2.2.2.1) (y.1.2.2.2.2.1) (y.1.2.2.2.2.2.1) (y.1.2.2.2.2.2.2.2.1) (y.2.2.1.1) (fun z0 z1 z2 z3 z4 z5 z6 z7 z8 => k.1 (z0, z1, z2, z3, z4, z5, z6, z7, z8)) }
def Zrr : Con := Z3y Zj
theorem Zm8 (g0 : Zl) : (Z3y (Z9d g0)).Says Tryz.prog Tryz.f229 (conL [(248, Z36 g0)]) (pieceL 3 [(0, Z3p g0)]) (.node .leaf (.node .leaf (.node .leaf (.node (.node .leaf (.node (.orc 0 [0, 1, 5, 6, 20, 21] []) .leaf)) .leaf)))) := by
 intro R x y K
 kernel_rfl
theorem Z7k : ConOK Tryz.prog 229 Zrr :=
 con_o (Zm8 Zf) (cons_ok ⟨.inl Z5l, trivial⟩) (orcs_1 [(0, [1, 1, 1, 0, 1, 0])] ⟨piece_a Zm9, trivial⟩)
def Z3v (f : Z11) : Con := { args := [.sc (.ptr 0 0 0 0 0), .sc (.i .u64), .agg [.ints .i64 (some 3)]], blks := [(false, [.one (.i .i64), .one (.i .i64), .ints .i64 (some 3), .ints .i64 (some 3), .ints .i64 (some 3), .ints .i64 (some 3), .one (.fn Zd [1]), .ints .u64 (some 8)]), (false, [.one (.ptr 2 0 0 0 0)]), (false, [.ints .u64 (some 80)])], shapes := [⟨Int × Int × Int × (List Int) × (List Int) × (List Int) × (List Int) × (List Int) × (List Int), fun r => (.c (.sc (.int .u64 r.1)), [(0, ⟨false, [.one (.int .i64 r.2.1), .one (.int .i64 r.2.2.1), .ints .i64 r.2.2.2.1 3, .ints .i64 r.2.2.2.2.1 3, .ints .i64 r.2.2.2.2.2.1 3, .ints .i64 r.2.2.2.2.2.2.1 3, .one (.fn Zd [1]), .ints .u64 r.2.2.2.2.2.2.2.1 8]⟩), (1, ⟨false, [.one (.ptr 2 0 0 0 0)]⟩), (2, ⟨false, [.ints .u64 r.2.2.2.2.2.2.2.2 80]⟩)], 0)⟩], F := fun R x y k => f R (x.2.1) (x.2.2.1.1) (y.1.1) (y.1.2.1) (y.1.2.2.1) (y.1.2.2.2.1) (y.1.2.2.2.2.1) (y.1.2.2.2.2.2.1) (y.1.2.2.2.2.2.2.2.1) (y.2.2.1.1) (fun z0 z1 z2 z3 z4 z5 z6 z7 z8 => k.1 (z0, z1, z2, z3, z4, z5, z6, z7, z8)) }
def Zro : Con := Z3v Zk
theorem Zm1 (g0 : Z37) : (Z3v (Z98 g0)).Says Tryz.prog Tryz.f230 (conL [(249, Z5z g0)]) (pieceL 3 []) (.node .leaf (.node (.draw [⟨0, false, [], []⟩, ⟨1, false, [], []⟩, ⟨2, false, [3], []⟩, ⟨3, false, [3], [2]⟩, ⟨5, false, [], []⟩, ⟨6, false, [], []⟩, ⟨7, false, [3], []⟩, ⟨8, false, [3], [7]⟩, ⟨11, false, [], []⟩, ⟨12, false, [], []⟩, ⟨13, false, [3], []⟩, ⟨14, false, [3], [13]⟩, ⟨4, true, [0, 1, 2], [0, 1, 2, 3]⟩, ⟨9, true, [0, 1, 2], [0, 1, 2, 3, 4, 5, 6, 7, 8]⟩, ⟨10, false, [], [0, 1, 2, 3, 4, 5, 6, 7, 8, 9]⟩, ⟨15, true, [0, 1, 2], [0, 1, 2, 3, 4, 5, 6, 7, 8, 9, 11, 12, 13, 14]⟩, ⟨16, false, [], [0, 1, 2, 3, 4, 5, 6, 7, 8, 9, 10, 11, 12, 13, 14, 15]⟩, ⟨17, false, [], [0, 1, 2, 3, 4, 5, 6, 7, 8, 9, 10, 11, 12, 13, 14, 15, 16]⟩]) .leaf)) := by
 intro R x y K
 kernel_rfl
theorem Z7m : ConOK Tryz.prog 230 Zro :=
 con_o (Zm1 Z2l) (cons_ok ⟨.inl Ze7, trivial⟩) orcs_0
def Z95 (f : Z23) : Con := { args := [.sc (.i .i64), .sc (.ptr 0 0 0 0 0)], blks := [(false, [.one (.ptr 1 0 0 0 0)]), (false, [.ints .u64 (some 80)])], shapes := [⟨Int × (List Int), fun r => (.c (.sc (.int .u64 r.1)), [(0, ⟨false, [.one (.ptr 1 0 0 0 0)]⟩), (1, ⟨false, [.ints .u64 r.2 80]⟩)], 0)⟩], F := fun R x y k => f R (x.1) (y.2.1.1) (fun z0 z1 => k.1 (z0, z1)) }
def Z136 : Con := Z95 Z1g
theorem Zxp : (Z95 (Zhi)).Says Tryz.prog Tryz.f206 (conL []) (pieceL 2 []) .leaf := by
 intro R x y K
 kernel_rfl
theorem Zey : ConOK Tryz.prog 206 Z136 :=
 con_o (Zxp) (cons_ok trivial) orcs_0
theorem Zjz (g0 : Z10) (g1 : Z11) (g2 : Z23) : (Z3n g0 g1 g2).Loops Tryz.prog 116 3 (conL [(229, Z3y g0), (230, Z3v g1), (206, Z95 g2)]) (pieceL 3 []) (fsub Tryz.f205 [1, 1, 0, 1, 0, 0]) (.node .leaf (.node .leaf (.node (.node (.node .leaf (.node (.draw [⟨0, false, [5], []⟩, ⟨1, false, [5], [0]⟩, ⟨2, false, [5], []⟩, ⟨3, false, [5], [2]⟩, ⟨4, false, [], [0, 1]⟩, ⟨5, false, [], [0, 1, 2, 3, 4]⟩]) (.node (.draw [⟨0, false, [5], []⟩, ⟨1, false, [5], [0]⟩, ⟨2, false, [], []⟩, ⟨3, false, [], []⟩, ⟨4, false, [], []⟩, ⟨5, false, [], [4]⟩, ⟨6, false, [0], [4, 5]⟩, ⟨7, false, [0], [4, 5, 6]⟩, ⟨10, false, [], []⟩, ⟨11, false, [5], []⟩, ⟨12, false, [5], [11]⟩, ⟨13, false, [], [10, 11, 12]⟩, ⟨14, false, [], []⟩, ⟨15, false, [], [14]⟩, ⟨16, false, [5], []⟩, ⟨17, false, [5], [16]⟩, ⟨18, false, [], [14, 15, 16, 17]⟩, ⟨19, false, [], [10, 11, 12, 13, 14, 15, 16, 17, 18]⟩, ⟨21, false, [], []⟩, ⟨22, false, [], [21]⟩, ⟨23, false, [0], [21, 22]⟩, ⟨24, false, [0], [21, 22, 23]⟩, ⟨25, false, [], []⟩, ⟨28, false, [], []⟩, ⟨8, true, [0, 1, 2], [2, 3, 4, 5, 6, 7]⟩, ⟨9, false, [], [0, 1, 2, 3, 4, 5, 6, 7, 8]⟩, ⟨20, false, [], [0, 1, 2, 3, 4, 5, 6, 7, 8, 9, 10, 11, 12, 13, 14, 15, 16, 17, 18, 19]⟩, ⟨26, true, [1, 2], [2, 3, 4, 5, 6, 7, 8, 21, 22, 23, 24, 25]⟩, ⟨27, false, [], [0, 1, 2, 3, 4, 5, 6, 7, 8, 9, 10, 11, 12, 13, 14, 15, 16, 17, 18, 19, 20, 21, 22, 23, 24, 25, 26]⟩, ⟨29, false, [], [0, 1, 2, 3, 4, 5, 6, 7, 8, 9, 10, 11, 12, 13, 14, 15, 16, 17, 18, 19, 20, 21, 22, 23, 24, 25, 26, 27, 28]⟩, ⟨30, false, [], [0, 1, 2, 3, 4, 5, 6, 7, 8, 9, 10, 11, 12, 13, 14, 15, 16, 17, 18, 19, 20, 21, 22, 23, 24, 25, 26, 27, 28, 29]⟩]) (.node (.draw [⟨0, false, [], []⟩, ⟨1, false, [], []⟩, ⟨2, false, [], []⟩, ⟨3, false, [], [2]⟩, ⟨4, false, [0], [2, 3]⟩, ⟨5, false, [0], [2, 3, 4]⟩, ⟨7, false, [], []⟩, ⟨8, false, [5], []⟩, ⟨9, false, [5], [8]⟩, ⟨10, false, [], [7, 8, 9]⟩, ⟨11, false, [], []⟩, ⟨12, false, [5], []⟩, ⟨13, false, [5], [12]⟩, ⟨14, false, [], [11, 12, 13]⟩, ⟨15, false, [], [7, 8, 9, 10, 11, 12, 13, 14]⟩, ⟨16, false, [5], []⟩, ⟨17, false, [5], [16]⟩, ⟨18, false, [5], []⟩, ⟨19, false, [5], [18]⟩, ⟨20, false, [], [16, 17, 18, 19]⟩, ⟨21, false, [], [7, 8, 9, 10, 11, 12, 13, 14, 15, 16, 17, 18, 19, 20]⟩, ⟨6, true, [0, 1, 2], [0, 1, 2, 3, 4, 5]⟩, ⟨22, false, [], [0, 1, 2, 3, 4, 5, 6, 7, 8, 9, 10, 11, 12, 13, 14, 15, 16, 17, 18, 19, 20, 21]⟩, ⟨23, false, [], [0, 1, 2, 3, 4, 5, 6, 7, 8, 9, 10, 11, 12, 13, 14, 15, 16, 17, 18, 19, 20, 21, 22]⟩]) .leaf)))) .leaf) .leaf))) [0, 4, 6, 7, 18, 19, 20] [] [4, 6, 7] [] := by
 intro R v next K
 kernel_rfl
theorem Zm3 : OrcOK Tryz.prog 116 3 (.loop (fsub Tryz.f205 [1, 1, 0, 1, 0, 0])) (fun R => pieceG 3 (Z3n Zj Zk Z1g) R) :=
 piece_l (Zjz Zj Zk Z1g) (cons_ok ⟨.inl Z7k, .inl Z7m, .inl Zey, trivial⟩) orcs_0
theorem Zke (g0 : Z10) (g1 : Z11) (g2 : Z23) : (Z3m g0 g1 g2).Loops Tryz.prog 116 3 (conL [(229, Z3y g0), (230, Z3v g1), (206, Z95 g2)]) (pieceL 3 []) (fsub Tryz.f205 [1, 1, 1, 0, 1, 0, 0]) (.node .leaf (.node .leaf (.node (.node (.node .leaf (.draw [⟨0, false, [], []⟩, ⟨1, false, [3], [0]⟩, ⟨2, false, [3], [0, 1]⟩, ⟨3, false, [], []⟩, ⟨4, false, [5], [3]⟩, ⟨5, false, [5], [3, 4]⟩, ⟨6, false, [], [0, 1, 2, 3, 4, 5]⟩, ⟨7, false, [3], [0, 1, 2, 3, 4, 5, 6]⟩, ⟨8, true, [3], [0, 1, 2, 3, 4, 5, 6, 7]⟩])) .leaf) .leaf))) [4, 6, 7, 103] [] [4, 6] [] := by
 intro R v next K
 kernel_rfl
theorem Zlz : OrcOK Tryz.prog 116 3 (.loop (fsub Tryz.f205 [1, 1, 1, 0, 1, 0, 0])) (fun R => pieceG 3 (Z3m Zj Zk Z1g) R) :=
 piece_l (Zke Zj Zk Z1g) (cons_ok ⟨.inl Z7k, .inl Z7m, .inl Zey, trivial⟩) orcs_0
def Z1n (f : Z9) : Con := { args := [.sc (.ptr 0 0 0 0 0), .agg [.ints .u64 (some 8)], .sc (.s)], blks := [(true, [.one (.i .i64), .one (.i .i64), .ints .i64 (some 3), .ints .i64 (some 3), .ints .i64 (some 3), .ints .i64 (some 3), .one (.fn Zd [1]), .ints .u64 (some 8)]), (false, [.one (.ptr 2 0 0 0 0)]), (true, [.ints .u64 (some 80)])], shapes := [⟨(List Int) × Int × Int × (List Int) × (List Int) × (List Int) × (List Int) × (List Int) × (List Int), fun r => (.c (.agg [.ints .u64 r.1 8]), [(0, ⟨true, [.one (.int .i64 r.2.1), .one (.int .i64 r.2.2.1), .ints .i64 r.2.2.2.1 3, .ints .i64 r.2.2.2.2.1 3, .ints .i64 r.2.2.2.2.2.1 3, .ints .i64 r.2.2.2.2.2.2.1 3, .one (.fn Zd [1]), .ints .u64 r.2.2.2.2.2.2.2.1 8]⟩), (1, ⟨false, [.one (.ptr 2 0 0 0 0)]⟩), (2, ⟨true, [.ints .u64 r.2.2.2.2.2.2.2.2 80]⟩)], 0)⟩], F := fun R x y k => f R (x.2.1.1) (x.2.2.1) (y.1.1) (y.1.2.1) (y.1.2.2.1) (y.1.2.2.2.1) (y.1.2.2.2.2.1) (y.1.2.2.2.2.2.1) (y.1.2.2.2.2.2.2.2.1) (y.2.2.1.1) (fun z0 z1 z2 z3 z4 z5 z6 z7 z8 => k.1 (z0, z1, z2, z3, z4, z5, z6, z7, z8)) }
def Zsl : Con := Z1n Z0
theorem Zlu (g0 : Z10) (g1 : Z11) (g2 : Z23) : (Z1n (Z8w g0 g1 g2)).Says Tryz.prog Tryz.f205 (conL [(229, Z3y g0), (230, Z3v g1), (206, Z95 g2)]) (pieceL 3 [(0, Z3n g0 g1 g2), (1, Z3m g0 g1 g2)]) (.node .leaf (.node .leaf (.node (.node .leaf (.node (.orc 0 [0, 4, 6, 7, 18, 19, 20] []) .leaf)) (.node (.node .leaf (.node (.orc 1 [4, 6, 7, 103] []) .leaf)) .leaf)))) := by
 intro R x y K
 kernel_rfl
theorem Z2i : ConOK Tryz.prog 205 Zsl :=
 con_o (Zlu Zj Zk Z1g) (cons_ok ⟨.inl Z7k, .inl Z7m, .inl Zey, trivial⟩) (orcs_1 [(0, [1, 1, 0, 1, 0]), (1, [1, 1, 1, 0, 1, 0])] ⟨piece_a Zm3, piece_a Zlz, trivial⟩)
theorem Zo2 (g0 : Z7) (g1 : Z9) : (Z4o g0 g1).Loops Tryz.prog 100 3 (conL [(204, Z1m g0), (205, Z1n g1)]) (pieceL 3 []) (fsub Tryz.f166 [1, 1, 1, 0, 0, 0]) (.node (.node (.draw [⟨0, false, [], []⟩, ⟨1, false, [3], [0]⟩, ⟨2, false, [], []⟩, ⟨3, false, [], [2]⟩, ⟨4, false, [0], [2, 3]⟩, ⟨5, false, [0], [2, 3, 4]⟩, ⟨6, false, [], [2, 3, 4, 5]⟩, ⟨7, false, [], [0, 1, 2, 3, 4, 5, 6]⟩, ⟨8, false, [], []⟩, ⟨9, true, [0, 1, 2], [8]⟩, ⟨10, false, [], [0, 1, 2, 3, 4, 5, 6, 7, 8, 9]⟩, ⟨11, false, [], [0, 1, 2, 3, 4, 5, 6, 7, 8, 9, 10]⟩]) .leaf) .leaf) [0, 1, 5] [] [0, 1, 5] [] := by
 intro R v next K
 kernel_rfl
theorem Zr2 : OrcOK Tryz.prog 100 3 (.loop (fsub Tryz.f166 [1, 1, 1, 0, 0, 0])) (fun R => pieceG 3 (Z4o Z1 Z0) R) :=
 piece_l (Zo2 Z1 Z0) (cons_ok ⟨.inl Z2j, .inl Z2i, trivial⟩) orcs_0
theorem Zoa (g0 : Z7) (g1 : Z9) : (Z4r g0 g1).Loops Tryz.prog 100 3 (conL [(204, Z1m g0), (205, Z1n g1)]) (pieceL 3 []) (fsub Tryz.f166 [1, 1, 1, 1, 0, 1, 0, 0]) .leaf [0, 1, 5, 6] [] [0, 5] [] := by
 intro R v next K
 kernel_rfl
theorem Zqt : OrcOK Tryz.prog 100 3 (.loop (fsub Tryz.f166 [1, 1, 1, 1, 0, 1, 0, 0])) (fun R => pieceG 3 (Z4r Z1 Z0) R) :=
 piece_l (Zoa Z1 Z0) (cons_ok ⟨.inl Z2j, .inl Z2i, trivial⟩) orcs_0
theorem Znz (g0 : Z7) (g1 : Z9) : (Z4n g0 g1).Loops Tryz.prog 100 3 (conL [(204, Z1m g0), (205, Z1n g1)]) (pieceL 3 []) (fsub Tryz.f166 [1, 1, 1, 1, 1, 1, 0, 1, 0, 0]) (.node .leaf (.node (.node (.draw [⟨0, false, [], []⟩, ⟨1, false, [4], []⟩, ⟨2, false, [], []⟩, ⟨3, false, [], []⟩, ⟨4, false, [], []⟩, ⟨5, false, [], []⟩, ⟨6, true, [0, 1, 2], [5]⟩, ⟨7, false, [], [4, 5, 6]⟩, ⟨8, false, [3], [2, 3, 4, 5, 6, 7]⟩, ⟨9, false, [3], [2, 3, 4, 5, 6, 7, 8]⟩, ⟨10, true, [0, 1, 2], [0, 1, 2, 3, 4, 5, 6, 7, 8, 9]⟩, ⟨11, true, [4], [0, 1, 2, 3, 4, 5, 6, 7, 8, 9, 10]⟩]) .leaf) .leaf)) [0, 5, 7, 8] [] [0, 7] [] := by
 intro R v next K
 kernel_rfl
theorem Zr5 : OrcOK Tryz.prog 100 3 (.loop (fsub Tryz.f166 [1, 1, 1, 1, 1, 1, 0, 1, 0, 0])) (fun R => pieceG 3 (Z4n Z1 Z0) R) :=
 piece_l (Znz Z1 Z0) (cons_ok ⟨.inl Z2j, .inl Z2i, trivial⟩) orcs_0
theorem Zo9 (g0 : Z7) (g1 : Z9) : (Z4p g0 g1).Loops Tryz.prog 100 3 (conL [(204, Z1m g0), (205, Z1n g1)]) (pieceL 3 []) (fsub Tryz.f166 [1, 1, 1, 1, 1, 1, 1, 1, 0, 1, 0, 0, 1, 1, 0, 0, 1, 1, 0, 0]) .leaf [0, 9, 11, 12, 77, 78] [] [0, 9, 77, 78] [] := by
 intro R v next K
 kernel_rfl
theorem Zri : OrcOK Tryz.prog 100 3 (.loop (fsub Tryz.f166 [1, 1, 1, 1, 1, 1, 1, 1, 0, 1, 0, 0, 1, 1, 0, 0, 1, 1, 0, 0])) (fun R => pieceG 3 (Z4p Z1 Z0) R) :=
 piece_l (Zo9 Z1 Z0) (cons_ok ⟨.inl Z2j, .inl Z2i, trivial⟩) orcs_0
theorem Zoe (g0 : Z7) (g1 : Z9) : (Z4l g0 g1).Loops Tryz.prog 100 3 (conL [(204, Z1m g0), (205, Z1n g1)]) (pieceL 3 [(4, Z4p g0 g1)]) (fsub Tryz.f166 [1, 1, 1, 1, 1, 1, 1, 1, 0, 1, 0, 0]) (.node .leaf (.node .leaf (.node (.node (.node .leaf (.node .leaf (.node (.orc 4 [0, 9, 11, 12, 77, 78] []) .leaf))) .leaf) .leaf))) [0, 9, 77, 78] [(9, .bytes [] 0)] [9] [] := by
 intro R v next K
 kernel_rfl
theorem Zqj : OrcOK Tryz.prog 100 3 (.loop (fsub Tryz.f166 [1, 1, 1, 1, 1, 1, 1, 1, 0, 1, 0, 0])) (fun R => pieceG 3 (Z4l Z1 Z0) R) :=
 piece_l (Zoe Z1 Z0) (cons_ok ⟨.inl Z2j, .inl Z2i, trivial⟩) (orcs_1 [(4, [1, 1, 0, 0, 1, 1, 0])] ⟨piece_a Zri, trivial⟩)
def Zbo (f : Z8q) : Con := { args := [.sc (.ptr 0 0 0 0 0), .sc (.s)], blks := [(true, [.one (.i .i64), .one (.i .i64), .ints .i64 (some 3), .ints .i64 (some 3), .ints .i64 (some 3), .ints .i64 (some 3), .one (.fn Zd [1]), .ints .u64 (some 8)]), (false, [.one (.ptr 2 0 0 0 0)]), (true, [.ints .u64 (some 80)])], shapes := [⟨Str × Int × Int × (List Int) × (List Int) × (List Int) × (List Int) × (List Int) × (List Int), fun r => (.c (.sc (.str r.1)), [(0, ⟨true, [.one (.int .i64 r.2.1), .one (.int .i64 r.2.2.1), .ints .i64 r.2.2.2.1 3, .ints .i64 r.2.2.2.2.1 3, .ints .i64 r.2.2.2.2.2.1 3, .ints .i64 r.2.2.2.2.2.2.1 3, .one (.fn Zd [1]), .ints .u64 r.2.2.2.2.2.2.2.1 8]⟩), (1, ⟨false, [.one (.ptr 2 0 0 0 0)]⟩), (2, ⟨true, [.ints .u64 r.2.2.2.2.2.2.2.2 80]⟩)], 0)⟩], F := fun R x y k => f R (x.2.1) (y.1.1) (y.1.2.1) (y.1.2.2.1) (y.1.2.2.2.1) (y.1.2.2.2.2.1) (y.1.2.2.2.2.2.1) (y.1.2.2.2.2.2.2.2.1) (y.2.2.1.1) (fun z0 z1 z2 z3 z4 z5 z6 z7 z8 => k.1 (z0, z1, z2, z3, z4, z5, z6, z7, z8)) }
def Zxv : Con := Zbo Z5s
theorem Zqm (g0 : Z7) (g1 : Z9) : (Zbo (Zbm g0 g1)).Says Tryz.prog Tryz.f166 (conL [(204, Z1m g0), (205, Z1n g1)]) (pieceL 3 [(0, Z4o g0 g1), (1, Z4r g0 g1), (2, Z4n g0 g1), (3, Z4l g0 g1)]) (.node .leaf (.node .leaf (.node .leaf (.node (.node (.orc 0 [0, 1, 5] []) .leaf) (.node (.node .leaf (.node (.orc 1 [0, 1, 5, 6] []) .leaf)) (.node .leaf (.node (.node .leaf (.node (.orc 2 [0, 5, 7, 8] []) .leaf)) (.node .leaf (.node (.node .leaf (.node (.orc 3 [0, 9, 77, 78] [(9, .bytes [] 0)]) .leaf)) .leaf))))))))) := by
 intro R x y K
 kernel_rfl
theorem Ztr : ConOK Tryz.prog 166 Zxv :=
 con_o (Zqm Z1 Z0) (cons_ok ⟨.inl Z2j, .inl Z2i, trivial⟩) (orcs_1 [(0, [1, 1, 1, 0, 0]), (1, [1, 1, 1, 1, 0, 1, 0]), (2, [1, 1, 1, 1, 1, 1, 0, 1, 0]), (3, [1, 1, 1, 1, 1, 1, 1, 1, 0, 1, 0])] ⟨piece_a Zr2, piece_a Zqt, piece_a Zr5, piece_a Zqj, trivial⟩)
def Zmz (f : Zg5) : Con := { args := [.sc (.s)], blks := [], shapes := [⟨Str, fun r => (.c (.sc (.str r)), [], 0)⟩], F := fun R x y k => f R (x.1) (fun z0 => k.1 z0) }
def Z17r : Con := Zmz Zcz
theorem Z13y (g0 : Zqd) (g1 : Z8q) : (Zmz (Zuk g0 g1)).Says Tryz.prog Tryz.f95 (conL [(167, Zuf g0), (166, Zbo g1)]) (pieceL 0 []) .leaf := by
 intro R x y K
 kernel_rfl
theorem Zz0 : ConOK Tryz.prog 95 Z17r :=
 con_o (Z13y Zk7 Z5s) (cons_ok ⟨.inl Z16f, .inl Ztr, trivial⟩) orcs_0
def Zby (f : Z4e) : Con := { args := [.sc (.ptr 0 0 0 0 0)], blks := [(false, [.one (.i .i64), .one (.sl 1 1 none)]), (false, [.bytes none])], shapes := [⟨Str × Int × Str, fun r => (.c (.sc (.str r.1)), [(0, ⟨false, [.one (.int .i64 r.2.1), .one (.slice 1 1 none none)]⟩), (1, ⟨false, [.bytes r.2.2 r.2.2.length]⟩)], 0)⟩], F := fun R x y k => f R (y.1.1) (y.2.1.1) (fun z0 z1 z2 => k.1 (z0, z1, z2)) }
def Z137 : Con := Zby Z2z
theorem Zx9 (g0 : Zq6) (g1 : Zg5) : (Zby (Zhh g0 g1)).Says Tryz.prog Tryz.f132 (conL [(39, Zv3 g0), (95, Zmz g1)]) (pieceL 2 []) .leaf := by
 intro R x y K
 kernel_rfl
theorem Znu : ConOK Tryz.prog 132 Z137 :=
 con_o (Zx9 Zxf Zcz) (cons_ok ⟨.inl Z160, .inl Zz0, trivial⟩) orcs_0
end
noncomputable section
open Go.Proofs
theorem Zvy (g0 : Z9c) (g1 : Z3b) (g2 : Z3c) (g3 : Z4e) (g4 : Z96) : (Z8x g0 g1 g2 g3 g4).Loops Tryz.prog 30 1 (conL [(129, Zkk g0), (130, Za8 g1), (130, Zac g2), (132, Zby g3), (131, Zkh g4)]) (pieceL 1 []) (fsub Tryz.f62 [1, 1, 0, 1, 0, 0]) .leaf [3, 13, 14, 15] [(200003, .bytes [] 0)] [3] [] := by
 intro R v next K
 kernel_rfl
theorem Zyh : OrcOK Tryz.prog 30 1 (.loop (fsub Tryz.f62 [1, 1, 0, 1, 0, 0])) (fun R => pieceG 1 (Z8x Z5p Z3d Z2a Z2z Z5r) R) :=
 piece_l (Zvy Z5p Z3d Z2a Z2z Z5r) (cons_ok ⟨.inl Zwm, .inl Zjw, .inl Zjv, .inl Znu, .inl Zwr, trivial⟩) orcs_0
def Zdn (f : Z8g) : Con := { args := [.sc (.sl 0 1 none)], blks := [(true, [.strs none])], shapes := [⟨Str × (List Str), fun r => (.c (.sc (.str r.1)), [(0, ⟨true, [.strs r.2 r.2.length]⟩)], 0)⟩], F := fun R x y k => f R (y.1.1) (fun z0 z1 => k.1 (z0, z1)) }
def Z14e : Con := Zdn Z64
theorem Zy8 (g0 : Z9c) (g1 : Z3b) (g2 : Z3c) (g3 : Z4e) (g4 : Z96) : (Zdn (Zj2 g0 g1 g2 g3 g4)).Says Tryz.prog Tryz.f62 (conL [(129, Zkk g0), (130, Za8 g1), (130, Zac g2), (132, Zby g3), (131, Zkh g4)]) (pieceL 1 [(0, Z8x g0 g1 g2 g3 g4)]) (.node .leaf (.node .leaf (.node (.node .leaf (.node (.orc 0 [3, 13, 14, 15] [(200003, .bytes [] 0)]) .leaf)) .leaf))) := by
 intro R x y K
 kernel_rfl
theorem Zou : ConOK Tryz.prog 62 Z14e :=
 con_o (Zy8 Z5p Z3d Z2a Z2z Z5r) (cons_ok ⟨.inl Zwm, .inl Zjw, .inl Zjv, .inl Znu, .inl Zwr, trivial⟩) (orcs_1 [(0, [1, 1, 0, 1, 0])] ⟨piece_a Zyh, trivial⟩)
def Zsh (f : Zmr) : Con := { args := [.sc (.s), .sc (.s), .sc (.s)], blks := [], shapes := [⟨Int, fun r => (.c (.sc (.int .i64 r)), [], 0)⟩], F := fun R x y k => f R (x.1) (x.2.1) (x.2.2.1) (fun z0 => k.1 z0) }
def Z17l : Con := Zsh Ze3
theorem Z13a (g0 : Zln) (g1 : Zkj) (g2 : Zg6) (g3 : Z85) (g4 : Z8g) (g5 : Zf3) (g6 : Zfd) (g7 : Z6n) : (Zsh (Zrn g0 g1 g2 g3 g4 g5 g6 g7)).Says Tryz.prog Tryz.f33 (conL [(58, Zto g0), (59, Zpy g1), (60, Znc g2), (61, Zdk g3), (62, Zdn g4), (64, Ziy g5), (63, Zjd g6), (65, Zbh g7)]) (pieceL 0 []) (.node .leaf (.node .leaf (.node .leaf (.node .leaf (.node (.draw [⟨1, false, [], []⟩, ⟨2, false, [], [1]⟩, ⟨7, false, [], []⟩, ⟨0, true, [], []⟩, ⟨3, true, [], [0, 1, 2]⟩, ⟨4, false, [], [0, 1, 2, 3]⟩, ⟨5, false, [], [0, 1, 2, 3, 4]⟩, ⟨6, false, [], [0, 1, 2, 3, 4]⟩, ⟨8, true, [1], [0, 1, 2, 3, 4, 5, 7]⟩, ⟨9, false, [], [0, 1, 2, 3, 4, 5, 6, 7, 8]⟩]) (.node (.draw [⟨0, false, [0], []⟩, ⟨1, false, [], []⟩, ⟨2, false, [], []⟩, ⟨3, false, [], []⟩, ⟨4, false, [], [1, 2, 3]⟩, ⟨10, false, [], []⟩, ⟨5, true, [2], [1, 2, 3, 4]⟩, ⟨6, true, [], [0, 1, 2, 3, 4, 5]⟩, ⟨7, false, [], [0, 1, 2, 3, 4, 5, 6]⟩, ⟨8, false, [], [0, 1, 2, 3, 4, 5, 6, 7]⟩, ⟨9, false, [], [0, 1, 2, 3, 4, 5, 6, 7]⟩, ⟨11, true, [3], [0, 1, 2, 3, 4, 5, 6, 7, 8, 10]⟩, ⟨12, false, [], [0, 1, 2, 3, 4, 5, 6, 7, 8, 9, 10, 11]⟩]) (.node (.node (.draw [⟨0, false, [1], []⟩, ⟨1, false, [3], []⟩, ⟨5, false, [], []⟩, ⟨2, true, [], [1]⟩, ⟨3, true, [], [0, 1, 2]⟩, ⟨4, true, [], [0, 1, 2, 3]⟩, ⟨6, false, [], [0, 1, 2, 3, 4, 5]⟩]) .leaf) .leaf))))))) := by
 intro R x y K
 kernel_rfl
theorem Z15o : ConOK Tryz.prog 33 Z17l :=
 con_o (Z13a Zhj Zg0 Zcu Z6c Z64 Zbd Zax Z4m) (cons_ok ⟨.inl Z12d, .inl Z14n, .inl Zzd, .inl Zon, .inl Zou, .inl Z114, .inl Z11o, .inl Zlj, trivial⟩) orcs_0
def Zmu (f : Zg3) : Con := { args := [.sc (.s)], blks := [], shapes := [⟨Str, fun r => (.c (.sc (.str r)), [], 0)⟩], F := fun R x y k => f R (x.1) (fun z0 => k.1 z0) }
def Z17z : Con := Zmu Zck
theorem Z13s (g0 : Zg6) (g1 : Z85) (g2 : Z6n) : (Zmu (Zv8 g0 g1 g2)).Says Tryz.prog Tryz.f90 (conL [(60, Znc g0), (61, Zdk g1), (65, Zbh g2)]) (pieceL 0 []) .leaf := by
 intro R x y K
 kernel_rfl
theorem Zy9 : ConOK Tryz.prog 90 Z17z :=
 con_o (Z13s Zcu Z6c Z4m) (cons_ok ⟨.inl Zzd, .inl Zon, .inl Zlj, trivial⟩) orcs_0
def Znf (f : Zg2) : Con := { args := [.sc (.s)], blks := [], shapes := [⟨Str × Str × Str × Int, fun r => (.tup [.agg [.one (.str r.1), .one (.str r.2.1), .one (.str r.2.2.1)], .sc (.int .i64 r.2.2.2)], [], 0)⟩], F := fun R x y k => f R (x.1) (fun z0 z1 z2 z3 => k.1 (z0, z1, z2, z3)) }
def Z18a : Con := Znf Zcj
theorem Z142 (g0 : Zg5) (g1 : Zg3) : (Znf (Ztw g0 g1)).Says Tryz.prog Tryz.f45 (conL [(95, Zmz g0), (90, Zmu g1)]) (pieceL 0 []) (.node .leaf (.node .leaf (.node .leaf (.node .leaf (.node .leaf (.node .leaf (.node (.draw [⟨0, false, [], []⟩, ⟨1, false, [], []⟩, ⟨2, false, [1], [1]⟩, ⟨3, false, [1], [1, 2]⟩, ⟨4, false, [], []⟩, ⟨5, true, [], [4]⟩, ⟨6, false, [], [0, 1, 2, 3, 4, 5]⟩, ⟨7, true, [0], [0, 1, 2, 3, 4, 5, 6]⟩, ⟨8, false, [], [0, 1, 2, 3, 4, 5, 6, 7]⟩]) .leaf))))))) := by
 intro R x y K
 kernel_rfl
theorem Zyg : ConOK Tryz.prog 45 Z18a :=
 con_o (Z142 Zcz Zck) (cons_ok ⟨.inl Zz0, .inl Zy9, trivial⟩) orcs_0
def Zki (f : Ze0) : Con := { args := [.sc (.s)], blks := [], shapes := [⟨Str × Int, fun r => (.tup [.sc (.str r.1), .sc (.int .i64 r.2)], [], 0)⟩], F := fun R x y k => f R (x.1) (fun z0 z1 => k.1 (z0, z1)) }
def Z17g : Con := Zki Z91
theorem Z12t (g0 : Zg2) : (Zki (Zrk g0)).Says Tryz.prog Tryz.f22 (conL [(45, Znf g0)]) (pieceL 0 []) .leaf := by
 intro R x y K
 kernel_rfl
theorem Zwf : ConOK Tryz.prog 22 Z17g :=
 con_o (Z12t Zcj) (cons_ok ⟨.inl Zyg, trivial⟩) orcs_0
def Zxa (f : Zta) : Con := { args := [.sc (.s), .sc (.s)], blks := [], shapes := [⟨Str × Int, fun r => (.tup [.sc (.str r.1), .sc (.int .i64 r.2)], [], 0)⟩], F := fun R x y k => f R (x.1) (x.2.1) (fun z0 z1 => k.1 (z0, z1)) }
def Z18q : Con := Zxa Zi9
theorem Z15w (g0 : Zg2) (g1 : Z8g) (g2 : Zg3) (g3 : Zi5) : (Zxa (Zx3 g0 g1 g2 g3)).Says Tryz.prog Tryz.f42 (conL [(45, Znf g0), (62, Zdn g1), (90, Zmu g2), (91, Znb g3)]) (pieceL 0 []) (.node .leaf (.node .leaf (.node .leaf (.node .leaf (.node .leaf (.node (.draw [⟨0, false, [], []⟩, ⟨1, false, [0], []⟩, ⟨2, false, [0], [1]⟩, ⟨3, false, [], []⟩, ⟨4, false, [], [0, 1, 2, 3]⟩, ⟨6, false, [0], []⟩, ⟨7, false, [0], [6]⟩, ⟨8, false, [], []⟩, ⟨5, true, [2], [0, 1, 2, 3, 4]⟩, ⟨9, true, [], [0, 1, 2, 3, 4, 5, 6, 7, 8]⟩, ⟨10, false, [], [0, 1, 2, 3, 4, 5, 6, 7, 8, 9]⟩, ⟨11, false, [], [0, 1, 2, 3, 4, 5, 6, 7, 8, 9, 10]⟩, ⟨12, false, [], [0, 1, 2, 3, 4, 5, 6, 7, 8, 9, 10]⟩, ⟨13, false, [], [0, 1, 2, 3, 4, 5, 6, 7, 8, 9, 10, 11]⟩, ⟨14, false, [], [0, 1, 2, 3, 4, 5, 6, 7, 8, 9, 10, 11, 12, 13]⟩]) .leaf)))))) := by
 intro R x y K
 kernel_rfl
theorem Z170 : ConOK Tryz.prog 42 Z18q :=
 con_o (Z15w Zcj Z64 Zck Zei) (cons_ok ⟨.inl Zyg, .inl Zou, .inl Zy9, .inl Z13d, trivial⟩) orcs_0
end
noncomputable section
open Go.Proofs
def Zx8 (f : Ztu) : Con := { args := [.sc (.i .i64)], blks := [], shapes := [⟨Int × Int × Int, fun r => (.tup [.sc (.int .i64 r.1), .sc (.int .i64 r.2.1), .sc (.int .i64 r.2.2)], [], 0)⟩], F := fun R x y k => f R (x.1) (fun z0 z1 z2 => k.1 (z0, z1, z2)) }
def Z18j : Con := Zx8 Zia
theorem Z15y : (Zx8 (Zx6)).Says Tryz.prog Tryz.f23 (conL []) (pieceL 0 []) .leaf := by
 intro R x y K
 kernel_rfl
theorem Z16s : ConOK Tryz.prog 23 Z18j :=
 con_o (Z15y) (cons_ok trivial) orcs_0
def Zs6 (f : Znl) : Con := { args := [.sc (.i .i64), .sc (.i .i64)], blks := [], shapes := [⟨Str, fun r => (.c (.sc (.str r)), [], 0)⟩], F := fun R x y k => f R (x.1) (x.2.1) (fun z0 => k.1 z0) }
def Z17o : Con := Zs6 Z8z
theorem Z12u (g0 : Zsf) (g1 : Zmk) : (Zs6 (Z10t g0 g1)).Says Tryz.prog Tryz.f24 (conL [(46, Zzf g0), (47, Zvb g1)]) (pieceL 0 []) .leaf := by
 intro R x y K
 kernel_rfl
theorem Z15r : ConOK Tryz.prog 24 Z17o :=
 con_o (Z12u Zrw Zn2) (cons_ok ⟨.inl Z148, .inl Z120, trivial⟩) orcs_0
def Zcs (f : Z3h) : Con := { args := [.sc (.i .i64)], blks := [], shapes := [⟨Str × Int, fun r => (.tup [.sc (.str r.1), .sc (.int .i64 r.2)], [], 0)⟩], F := fun R x y k => f R (x.1) (fun z0 z1 => k.1 (z0, z1)) }
def Z18r : Con := Zcs Z1j
theorem Z15i (g0 : Ztu) (g1 : Znl) : (Zcs (Zqc g0 g1)).Says Tryz.prog Tryz.f10 (conL [(23, Zx8 g0), (24, Zs6 g1)]) (pieceL 0 []) .leaf := by
 intro R x y K
 kernel_rfl
theorem Zfx : ConOK Tryz.prog 10 Z18r :=
 con_o (Z15i Zia Z8z) (cons_ok ⟨.inl Z16s, .inl Z15r, trivial⟩) orcs_0
def Z5v (f : Z2y) : Con := { args := [.sc (.ptr 0 0 0 0 0), .sc (.i .i64)], blks := [(true, [.one (.s), .one (.b)])], shapes := [⟨Str × Str × Bool, fun r => (.c (.sc (.str r.1)), [(0, ⟨true, [.one (.str r.2.1), .one (.bool r.2.2)]⟩)], 0)⟩], F := fun R x y k => f R (x.2.1) (y.1.1) (y.1.2.1) (fun z0 z1 z2 => k.1 (z0, z1, z2)) }
def Zyo : Con := Z5v Z13
theorem Zru (g0 : Zwu) : (Z5v (Z4d g0)).Says Tryz.prog Tryz.f49 (conL [(103, Z10f g0)]) (pieceL 1 []) .leaf := by
 intro R x y K
 kernel_rfl
theorem Zat : ConOK Tryz.prog 49 Zyo :=
 con_o (Zru Z7j) (cons_ok ⟨.inl Z17k, trivial⟩) orcs_0
def Zch (f : Z9i) : Con := { args := [.sc (.ptr 0 0 0 0 0), .sc (.i .i64)], blks := [(true, [.one (.s), .one (.b)])], shapes := [⟨Str × Bool × Str × Bool, fun r => (.c (.sc (.ptr 1 0 0 0 0)), [(0, ⟨true, [.one (.str r.1), .one (.bool r.2.1)]⟩), (1, ⟨true, [.one (.str r.2.2.1), .one (.bool r.2.2.2)]⟩)], 1)⟩], F := fun R x y k => f R (x.2.1) (y.1.1) (y.1.2.1) (fun z0 z1 z2 z3 => k.1 (z0, z1, z2, z3)) }
def Zyt : Con := Zch Z1w
theorem Zss (g0 : Z2y) : (Zch (Z8u g0)).Says Tryz.prog Tryz.f48 (conL [(49, Z5v g0)]) (pieceL 1 []) .leaf := by
 intro R x y K
 kernel_rfl
theorem Zvg : ConOK Tryz.prog 48 Zyt :=
 con_o (Zss Z13) (cons_ok ⟨.inl Zat, trivial⟩) orcs_0
def Zcn (f : Z9k) : Con := { args := [.sc (.ptr 0 0 0 0 0)], blks := [(true, [.one (.s), .one (.b)])], shapes := [⟨Str × Str × Bool, fun r => (.c (.sc (.str r.1)), [(0, ⟨true, [.one (.str r.2.1), .one (.bool r.2.2)]⟩)], 0)⟩], F := fun R x y k => f R (y.1.1) (y.1.2.1) (fun z0 z1 z2 => k.1 (z0, z1, z2)) }
def Zz9 : Con := Zcn Z27
theorem Zrt (g0 : Z2y) (g1 : Zev) : (Zcn (Z8k g0 g1)).Says Tryz.prog Tryz.f50 (conL [(49, Z5v g0), (104, Zjk g1)]) (pieceL 1 []) .leaf := by
 intro R x y K
 kernel_rfl
theorem Zuz : ConOK Tryz.prog 50 Zz9 :=
 con_o (Zrt Z13 Z89) (cons_ok ⟨.inl Zat, .inl Z11a, trivial⟩) orcs_0
theorem Z12z : (Zmh).Joins Tryz.prog 34 0 (conL []) (pieceL 0 []) (fsub Tryz.f108 [1, 0, 1]) .leaf [0, 1, 2] [] := by
 intro R v next K
 kernel_rfl
theorem Z15m : OrcOK Tryz.prog 34 0 (fsub Tryz.f108 [1, 0, 1]) (fun R => pieceG 0 (Zmh) R) :=
 piece_j (Z12z) (cons_ok trivial) orcs_0
def Zkg (f : Z5w) : Con := { args := [.sc (.i .i64), .sc (.i .i64), .sc (.i .i64)], blks := [], shapes := [⟨Int, fun r => (.c (.sc (.int .i64 r)), [], 0)⟩], F := fun R x y k => f R (x.1) (x.2.1) (x.2.2.1) (fun z0 => k.1 z0) }
def Z18l : Con := Zkg Z34
theorem Z15f : (Zkg (Zju)).Says Tryz.prog Tryz.f108 (conL []) (pieceL 0 [(0, Zmh)]) (.node .leaf (.node (.node .leaf (.orc 0 [0, 1, 2, 8] [])) .leaf)) := by
 intro R x y K
 kernel_rfl
theorem Zrp : ConOK Tryz.prog 108 Z18l :=
 con_o (Z15f) (cons_ok trivial) (orcs_1 [(0, [1, 0, 1])] ⟨piece_a Z15m, trivial⟩)
theorem Z159 (g0 : Z3j) (g1 : Z45) (g2 : Z5w) (g3 : Z3h) : (Zti g0 g1 g2 g3).Joins Tryz.prog 72 0 (conL [(106, Ze9 g0), (107, Zig g1), (108, Zkg g2), (10, Zcs g3)]) (pieceL 0 []) (fsub Tryz.f52 [1, 1, 1, 0, 1, 0, 0, 1, 1, 0, 0, 1, 1, 0, 1]) .leaf [0, 4, 5, 6, 7, 20, 21, 68, 69, 70] [] := by
 intro R v next K
 kernel_rfl
theorem Z16y : OrcOK Tryz.prog 72 0 (fsub Tryz.f52 [1, 1, 1, 0, 1, 0, 0, 1, 1, 0, 0, 1, 1, 0, 1]) (fun R => pieceG 0 (Zti Z2t Z2s Z34 Z1j) R) :=
 piece_j (Z159 Z2t Z2s Z34 Z1j) (cons_ok ⟨.inl Zl5, .inl Zky, .inl Zrp, .inl Zfx, trivial⟩) orcs_0
theorem Z14u (g0 : Z3j) (g1 : Z45) (g2 : Z5w) (g3 : Z3h) : (Znt g0 g1 g2 g3).Loops Tryz.prog 72 0 (conL [(106, Ze9 g0), (107, Zig g1), (108, Zkg g2), (10, Zcs g3)]) (pieceL 0 [(1, Zti g0 g1 g2 g3)]) (fsub Tryz.f52 [1, 1, 1, 0, 1, 0, 0]) (.node .leaf (.node .leaf (.node (.node (.node .leaf (.node .leaf (.node (.node .leaf (.orc 1 [0, 4, 5, 6, 7, 20, 21, 28] [])) .leaf))) .leaf) .leaf))) [0, 4, 20, 21] [] [0, 4, 68, 69, 70] [] := by
 intro R v next K
 kernel_rfl
theorem Z16q : OrcOK Tryz.prog 72 0 (.loop (fsub Tryz.f52 [1, 1, 1, 0, 1, 0, 0])) (fun R => pieceG 0 (Znt Z2t Z2s Z34 Z1j) R) :=
 piece_l (Z14u Z2t Z2s Z34 Z1j) (cons_ok ⟨.inl Zl5, .inl Zky, .inl Zrp, .inl Zfx, trivial⟩) (orcs_1 [(1, [1, 1, 0, 0, 1, 1, 0, 1])] ⟨piece_a Z16y, trivial⟩)
def Z11t (f : Z108) : Con := { args := [.sc (.s)], blks := [], shapes := [⟨Int × Bool, fun r => (.tup [.sc (.int .i64 r.1), .sc (.bool r.2)], [], 0)⟩], F := fun R x y k => f R (x.1) (fun z0 z1 => k.1 (z0, z1)) }
def Z193 : Con := Z11t Zcq
theorem Z172 (g0 : Z3j) (g1 : Z45) (g2 : Z5w) (g3 : Z3h) : (Z11t (Zwj g0 g1 g2 g3)).Says Tryz.prog Tryz.f52 (conL [(106, Ze9 g0), (107, Zig g1), (108, Zkg g2), (10, Zcs g3)]) (pieceL 0 [(0, Znt g0 g1 g2 g3)]) (.node .leaf (.node .leaf (.node .leaf (.node (.node .leaf (.node (.orc 0 [0, 4, 20, 21] []) .leaf)) (.node (.draw [⟨0, false, [0], []⟩, ⟨1, false, [0], [0]⟩, ⟨2, false, [0], []⟩, ⟨3, false, [0], [2]⟩, ⟨4, false, [0], []⟩, ⟨5, false, [0], [4]⟩, ⟨8, false, [0], []⟩, ⟨9, false, [0], [8]⟩, ⟨10, false, [], [8, 9]⟩, ⟨12, false, [0], []⟩, ⟨13, false, [0], [12]⟩, ⟨14, false, [], [12, 13]⟩, ⟨16, false, [0], []⟩, ⟨17, false, [0], [16]⟩, ⟨6, true, [], [0, 1, 2, 3, 4, 5]⟩, ⟨7, false, [], [0, 1, 2, 3, 4, 5, 6]⟩, ⟨11, false, [], [0, 1, 2, 3, 4, 5, 6, 7, 8, 9, 10]⟩, ⟨15, false, [], [0, 1, 2, 3, 4, 5, 6, 7, 8, 9, 10, 11, 12, 13, 14]⟩, ⟨18, false, [], [0, 1, 2, 3, 4, 5, 6, 7, 8, 9, 10, 11, 12, 13, 14, 15, 16, 17]⟩, ⟨19, false, [], [0, 1, 2, 3, 4, 5, 6, 7, 8, 9, 10, 11, 12, 13, 14, 15, 16, 17, 18]⟩]) .leaf))))) := by
 intro R x y K
 kernel_rfl
theorem Z17y : ConOK Tryz.prog 52 Z193 :=
 con_o (Z172 Z2t Z2s Z34 Z1j) (cons_ok ⟨.inl Zl5, .inl Zky, .inl Zrp, .inl Zfx, trivial⟩) (orcs_1 [(0, [1, 1, 1, 0, 1, 0])] ⟨piece_a Z16q, trivial⟩)
def Zvk (f : Zqf) : Con := { args := [.sc (.s)], blks := [], shapes := [⟨Int × Str × Int × Int × Str × Str, fun r => (.tup [.agg [.one (.int .i64 r.1), .one (.str r.2.1), .one (.int .i64 r.2.2.1), .one (.int .i64 r.2.2.2.1), .one (.str r.2.2.2.2.1)], .sc (.str r.2.2.2.2.2)], [], 0)⟩], F := fun R x y k => f R (x.1) (fun z0 z1 z2 z3 z4 z5 => k.1 (z0, z1, z2, z3, z4, z5)) }
def Z185 : Con := Zvk Z6v
theorem Z14h (g0 : Z9i) (g1 : Z2y) (g2 : Z9k) (g3 : Zmt) (g4 : Z108) : (Zvk (Znq g0 g1 g2 g3 g4)).Says Tryz.prog Tryz.f29 (conL [(48, Zch g0), (49, Z5v g1), (50, Zcn g2), (51, Zso g3), (52, Z11t g4)]) (pieceL 0 []) .leaf := by
 intro R x y K
 kernel_rfl
theorem Z167 : ConOK Tryz.prog 29 Z185 :=
 con_o (Z14h Z1w Z13 Z27 Zb7 Zcq) (cons_ok ⟨.inl Zvg, .inl Zat, .inl Zuz, .inl Z15v, .inl Z17y, trivial⟩) orcs_0
def Zgz (f : Z6g) : Con := { args := [.sc (.i .u8)], blks := [], shapes := [⟨Bool, fun r => (.c (.sc (.bool r)), [], 0)⟩], F := fun R x y k => f R (x.1) (fun z0 => k.1 z0) }
def Z16g : Con := Zgz Z4b
theorem Z11m : (Zgz (Zno)).Says Tryz.prog Tryz.f110 (conL []) (pieceL 0 []) .leaf := by
 intro R x y K
 kernel_rfl
theorem Zt2 : ConOK Tryz.prog 110 Z16g :=
 con_o (Z11m) (cons_ok trivial) orcs_0
theorem Zgh (g0 : Z6g) : (Z2n g0).Loops Tryz.prog 19 1 (conL [(110, Zgz g0)]) (pieceL 1 []) (fsub Tryz.f185 [1, 0, 1, 0, 0]) .leaf [0, 1, 7, 8] [] [4] [] := by
 intro R v next K
 kernel_rfl
theorem Zi0 : OrcOK Tryz.prog 19 1 (.loop (fsub Tryz.f185 [1, 0, 1, 0, 0])) (fun R => pieceG 1 (Z2n Z4b) R) :=
 piece_l (Zgh Z4b) (cons_ok ⟨.inl Zt2, trivial⟩) orcs_0
def Z6a (f : Z48) : Con := { args := [.sc (.sl 0 1 none), .sc (.fn Zn3 [])], blks := [(true, [.bytes none])], shapes := [⟨Int × Str, fun r => (.c (.sc (.int .i64 r.1)), [(0, ⟨true, [.bytes r.2 r.2.length]⟩)], 0)⟩], F := fun R x y k => f R (y.1.1) (fun z0 z1 => k.1 (z0, z1)) }
def Zlp : Con := Z6a Z47
theorem Zhe (g0 : Z6g) : (Z6a (Z69 g0)).Says Tryz.prog Tryz.f185 (conL [(110, Zgz g0)]) (pieceL 1 [(0, Z2n g0)]) (.node .leaf (.node (.node .leaf (.node (.orc 0 [0, 1, 7, 8] []) .leaf)) .leaf)) := by
 intro R x y K
 kernel_rfl
theorem Ziq : ConOK Tryz.prog 185 Zlp :=
 con_o (Zhe Z4b) (cons_ok ⟨.inl Zt2, trivial⟩) (orcs_1 [(0, [1, 0, 1, 0])] ⟨piece_a Zi0, trivial⟩)
def Z4w (f : Z3g) : Con := { args := [.sc (.sl 0 1 none), .sc (.fn Zn3 [])], blks := [(true, [.bytes none])], shapes := [⟨Bool × Str, fun r => (.c (.sc (.bool r.1)), [(0, ⟨true, [.bytes r.2 r.2.length]⟩)], 0)⟩], F := fun R x y k => f R (y.1.1) (fun z0 z1 => k.1 (z0, z1)) }
def Zil : Con := Z4w Z3e
theorem Zfu (g0 : Z48) : (Z4w (Z4v g0)).Says Tryz.prog Tryz.f109 (conL [(185, Z6a g0)]) (pieceL 1 []) .leaf := by
 intro R x y K
 kernel_rfl
theorem Zh7 : ConOK Tryz.prog 109 Zil :=
 con_o (Zfu Z47) (cons_ok ⟨.inl Ziq, trivial⟩) orcs_0
def Zrm (f : Znh) : Con := { args := [.sc (.s)], blks := [], shapes := [⟨Bool, fun r => (.c (.sc (.bool r)), [], 0)⟩], F := fun R x y k => f R (x.1) (fun z0 => k.1 z0) }
def Z17a : Con := Zrm Zhg
theorem Z135 (g0 : Z3g) : (Zrm (Zse g0)).Says Tryz.prog Tryz.f53 (conL [(109, Z4w g0)]) (pieceL 0 []) .leaf := by
 intro R x y K
 kernel_rfl
theorem Z15t : ConOK Tryz.prog 53 Z17a :=
 con_o (Z135 Z3e) (cons_ok ⟨.inl Zh7, trivial⟩) orcs_0
def Zn6 (f : Zg4) : Con := { args := [.agg [.one (.i .i64), .one (.s), .one (.i .i64), .one (.i .i64), .one (.s)]], blks := [], shapes := [⟨Bool, fun r => (.c (.sc (.bool r)), [], 0)⟩], F := fun R x y k => f R (x.1.1) (x.1.2.1) (x.1.2.2.1) (x.1.2.2.2.1) (x.1.2.2.2.2.1) (fun z0 => k.1 z0) }
def Z17u : Con := Zn6 Zd1
theorem Z13k (g0 : Znh) : (Zn6 (Ztx g0)).Says Tryz.prog Tryz.f30 (conL [(53, Zrm g0)]) (pieceL 0 []) .leaf := by
 intro R x y K
 kernel_rfl
theorem Zyk : ConOK Tryz.prog 30 Z17u :=
 con_o (Z13k Zhg) (cons_ok ⟨.inl Z15t, trivial⟩) orcs_0
def Zi6 (f : Zbs) : Con := { args := [.sc (.sl 0 1 none)], blks := [(true, [.ints .i64 none])], shapes := [⟨Str × (List Int), fun r => (.c (.sc (.str r.1)), [(0, ⟨true, [.ints .i64 r.2 r.2.length]⟩)], 0)⟩], F := fun R x y k => f R (y.1.1) (fun z0 z1 => k.1 (z0, z1)) }
def Z16u : Con := Zi6 Z9n
theorem Z12c (g0 : Zn0) : (Zi6 (Zyp g0)).Says Tryz.prog Tryz.f113 (conL [(186, Zrv g0)]) (pieceL 1 []) .leaf := by
 intro R x y K
 kernel_rfl
theorem Zu4 : ConOK Tryz.prog 113 Z16u :=
 con_o (Z12c Zud) (cons_ok ⟨.inl Z156, trivial⟩) orcs_0
def Z8a (f : Z3u) : Con := { args := [.sc (.i .i64), .sc (.sl 0 1 none)], blks := [(false, [.strs none])], shapes := [⟨Str × (List Str), fun r => (.c (.sc (.str r.1)), [(0, ⟨false, [.strs r.2 r.2.length]⟩)], 0)⟩], F := fun R x y k => f R (x.1) (y.1.1) (fun z0 z1 => k.1 (z0, z1)) }
def Z14w : Con := Z8a Z33
theorem Z106 (g0 : Zrj) (g1 : Z26) : (Z8a (Zla g0 g1)).Says Tryz.prog Tryz.f54 (conL [(112, Zzj g0), (111, Zaj g1)]) (pieceL 1 []) .leaf := by
 intro R x y K
 kernel_rfl
theorem Zc8 : ConOK Tryz.prog 54 Z14w :=
 con_o (Z106 Zko Z1s) (cons_ok ⟨.inl Z147, .inl Zbq, trivial⟩) orcs_0
def Zuv (f : Zq9) : Con := { args := [.sc (.s)], blks := [], shapes := [⟨Str, fun r => (.c (.sc (.str r)), [], 0)⟩], F := fun R x y k => f R (x.1) (fun z0 => k.1 z0) }
def Z182 : Con := Zuv Zk9
theorem Z14b (g0 : Zbs) (g1 : Z3u) : (Zuv (Zuy g0 g1)).Says Tryz.prog Tryz.f56 (conL [(113, Zi6 g0), (54, Z8a g1)]) (pieceL 0 []) .leaf := by
 intro R x y K
 kernel_rfl
theorem Z16a : ConOK Tryz.prog 56 Z182 :=
 con_o (Z14b Z9n Z33) (cons_ok ⟨.inl Zu4, .inl Zc8, trivial⟩) orcs_0
def Zff (f : Z9f) : Con := { args := [], blks := [], shapes := [⟨Str, fun r => (.c (.sc (.str r)), [], 0)⟩], F := fun R x y k => f R (fun z0 => k.1 z0) }
def Z15l : Con := Zff Z78
theorem Z107 (g0 : Zbs) (g1 : Z3u) : (Zff (Zl0 g0 g1)).Says Tryz.prog Tryz.f55 (conL [(113, Zi6 g0), (54, Z8a g1)]) (pieceL 0 []) .leaf := by
 intro R x y K
 kernel_rfl
theorem Zr1 : ConOK Tryz.prog 55 Z15l :=
 con_o (Z107 Z9n Z33) (cons_ok ⟨.inl Zu4, .inl Zc8, trivial⟩) orcs_0
def Zn8 (f : Zg7) : Con := { args := [.agg [.one (.i .i64), .one (.s), .one (.i .i64), .one (.i .i64), .one (.s)]], blks := [], shapes := [⟨Str, fun r => (.c (.sc (.str r)), [], 0)⟩], F := fun R x y k => f R (x.1.1) (x.1.2.1) (x.1.2.2.1) (x.1.2.2.2.1) (x.1.2.2.2.2.1) (fun z0 => k.1 z0) }
def Z17x : Con := Zn8 Z5o
theorem Z13u (g0 : Z3h) (g1 : Zq9) (g2 : Zzz) (g3 : Z9f) (g4 : Z3u) : (Zn8 (Zuu g0 g1 g2 g3 g4)).Says Tryz.prog Tryz.f32 (conL [(10, Zcs g0), (56, Zuv g1), (57, Z12h g2), (55, Zff g3), (54, Z8a g4)]) (pieceL 0 []) (.node .leaf (.node .leaf (.node .leaf (.node .leaf (.node (.draw [⟨0, false, [0], []⟩, ⟨1, false, [0], [0]⟩, ⟨4, false, [], []⟩, ⟨5, false, [], []⟩, ⟨6, false, [], [5]⟩, ⟨8, false, [], []⟩, ⟨9, false, [], [8]⟩, ⟨13, false, [], []⟩, ⟨15, false, [0], []⟩, ⟨16, false, [0], [15]⟩, ⟨17, false, [], [15, 16]⟩, ⟨18, false, [], [15, 16, 17]⟩, ⟨2, true, [], [0, 1]⟩, ⟨3, true, [], [0, 1, 2]⟩, ⟨7, true, [1], [0, 1, 2, 3, 5, 6]⟩, ⟨10, true, [2], [0, 1, 2, 3, 5, 6, 7, 8, 9]⟩, ⟨11, false, [], [0, 1, 2, 3, 5, 6, 7, 8, 9, 10]⟩, ⟨12, true, [4], [0, 1, 2, 3, 5, 6, 7, 8, 9, 10, 11]⟩, ⟨14, true, [], [0, 1, 2, 3, 5, 6, 7, 8, 9, 10, 11, 12]⟩, ⟨19, true, [3], [0, 1, 2, 3, 5, 6, 7, 8, 9, 10, 11, 12, 14, 15, 16, 17, 18]⟩, ⟨20, false, [], [0, 1, 2, 3, 5, 6, 7, 8, 9, 10, 11, 12, 14, 15, 16, 17, 18, 19]⟩, ⟨21, true, [5], [0, 1, 2, 3, 5, 6, 7, 8, 9, 10, 11, 12, 14, 15, 16, 17, 18, 19, 20]⟩, ⟨22, false, [], [0, 1, 2, 3, 4, 5, 6, 7, 8, 9, 10, 11, 12, 13, 14, 15, 16, 17, 18, 19, 20, 21]⟩, ⟨23, true, [6], [0, 1, 2, 3, 4, 5, 6, 7, 8, 9, 10, 11, 12, 13, 14, 15, 16, 17, 18, 19, 20, 21, 22]⟩, ⟨24, false, [], [0, 1, 2, 3, 4, 5, 6, 7, 8, 9, 10, 11, 12, 13, 14, 15, 16, 17, 18, 19, 20, 21, 22, 23]⟩]) .leaf))))) := by
 intro R x y K
 kernel_rfl
theorem Zz6 : ConOK Tryz.prog 32 Z17x :=
 con_o (Z13u Z1j Zk9 Zv1 Z78 Z33) (cons_ok ⟨.inl Zfx, .inl Z16a, .inl Z17v, .inl Zr1, .inl Zc8, trivial⟩) orcs_0
def Zn5 (f : Zg8) : Con := { args := [.sc (.s), .sc (.s)], blks := [], shapes := [⟨Str, fun r => (.c (.sc (.str r)), [], 0)⟩], F := fun R x y k => f R (x.1) (x.2.1) (fun z0 => k.1 z0) }
def Z186 : Con := Zn5 Z8t
theorem Z14s (g0 : Z9f) (g1 : Z3u) : (Zn5 (Zvf g0 g1)).Says Tryz.prog Tryz.f31 (conL [(55, Zff g0), (54, Z8a g1)]) (pieceL 0 []) .leaf := by
 intro R x y K
 kernel_rfl
theorem Zz4 : ConOK Tryz.prog 31 Z186 :=
 con_o (Z14s Z78 Z33) (cons_ok ⟨.inl Zr1, .inl Zc8, trivial⟩) orcs_0
def Zq7 (f : Zie) : Con := { args := [.sc (.s)], blks := [], shapes := [⟨Int × Str × Int × Int × Str × Int, fun r => (.tup [.agg [.one (.int .i64 r.1), .one (.str r.2.1), .one (.int .i64 r.2.2.1), .one (.int .i64 r.2.2.2.1), .one (.str r.2.2.2.2.1)], .sc (.int .i64 r.2.2.2.2.2)], [], 0)⟩], F := fun R x y k => f R (x.1) (fun z0 z1 z2 z3 z4 z5 => k.1 (z0, z1, z2, z3, z4, z5)) }
def Z18n : Con := Zq7 Z2x
theorem Z15e (g0 : Zqf) (g1 : Zg4) (g2 : Zg7) (g3 : Zg8) (g4 : Zmr) : (Zq7 (Zqg g0 g1 g2 g3 g4)).Says Tryz.prog Tryz.f13 (conL [(29, Zvk g0), (30, Zn6 g1), (32, Zn8 g2), (31, Zn5 g3), (33, Zsh g4)]) (pieceL 0 []) (.node .leaf (.node .leaf (.node .leaf (.node .leaf (.node (.node (.draw [⟨0, false, [1], []⟩, ⟨1, false, [1], [0]⟩, ⟨2, false, [1], []⟩, ⟨4, false, [], []⟩, ⟨3, true, [], [2]⟩, ⟨5, true, [], [0, 1, 2, 3, 4]⟩, ⟨6, false, [], [0, 1, 2, 3, 4, 5]⟩]) .leaf) .leaf))))) := by
 intro R x y K
 kernel_rfl
theorem Z10l : ConOK Tryz.prog 13 Z18n :=
 con_o (Z15e Z6v Zd1 Z5o Z8t Ze3) (cons_ok ⟨.inl Z167, .inl Zyk, .inl Zz6, .inl Zz4, .inl Z15o, trivial⟩) orcs_0
def Zxq (f : Zts) : Con := { args := [.agg [.one (.i .i64), .one (.s), .one (.i .i64), .one (.i .i64), .one (.s)], .sc (.s)], blks := [], shapes := [⟨Str × Int, fun r => (.tup [.sc (.str r.1), .sc (.int .i64 r.2)], [], 0)⟩], F := fun R x y k => f R (x.1.1) (x.1.2.1) (x.1.2.2.1) (x.1.2.2.2.1) (x.1.2.2.2.2.1) (x.2.1) (fun z0 z1 => k.1 (z0, z1)) }
def Z18h : Con := Zxq Z60
theorem Z150 (g0 : Zg4) (g1 : Ze0) (g2 : Zg7) (g3 : Zta) (g4 : Zg8) : (Zxq (Zgb g0 g1 g2 g3 g4)).Says Tryz.prog Tryz.f20 (conL [(30, Zn6 g0), (22, Zki g1), (32, Zn8 g2), (42, Zxa g3), (31, Zn5 g4)]) (pieceL 0 []) .leaf := by
 intro R x y K
 kernel_rfl
theorem Z16n : ConOK Tryz.prog 20 Z18h :=
 con_o (Z150 Zd1 Z91 Z5o Zi9 Z8t) (cons_ok ⟨.inl Zyk, .inl Zwf, .inl Zz6, .inl Z170, .inl Zz4, trivial⟩) orcs_0
end
noncomputable section
open Go.Proofs
def Zxd (f : Zt7) : Con := { args := [.agg [.one (.i .i64), .one (.s), .one (.i .i64), .one (.i .i64), .one (.s)]], blks := [], shapes := [⟨Bool, fun r => (.c (.sc (.bool r)), [], 0)⟩], F := fun R x y k => f R (x.1.1) (x.1.2.1) (x.1.2.2.1) (x.1.2.2.2.1) (x.1.2.2.2.2.1) (fun z0 => k.1 z0) }
def Z18i : Con := Zxd Zmd
theorem Z15z : (Zxd (Zxr)).Says Tryz.prog Tryz.f19 (conL []) (pieceL 0 []) .leaf := by
 intro R x y K
 kernel_rfl
theorem Z16v : ConOK Tryz.prog 19 Z18i :=
 con_o (Z15z) (cons_ok trivial) orcs_0
def Zsb (f : Zmy) : Con := { args := [], blks := [], shapes := [⟨Bool, fun r => (.c (.sc (.bool r)), [], 0)⟩], F := fun R x y k => f R (fun z0 => k.1 z0) }
def Z17p : Con := Zsb Zhu
theorem Z134 (g0 : Z3h) (g1 : Zie) : (Zsb (Zst g0 g1)).Says Tryz.prog Tryz.f12 (conL [(10, Zcs g0), (13, Zq7 g1)]) (pieceL 0 []) .leaf := by
 intro R x y K
 kernel_rfl
theorem Z15k : ConOK Tryz.prog 12 Z17p :=
 con_o (Z134 Z1j Z2x) (cons_ok ⟨.inl Zfx, .inl Z10l, trivial⟩) orcs_0
def Zu8 (f : Zwq) : Con := { args := [.agg [.one (.i .i64), .one (.s), .one (.i .i64), .one (.i .i64), .one (.s)], .sc (.s), .sc (.i .u8)], blks := [], shapes := [⟨Bool, fun r => (.c (.sc (.bool r)), [], 0)⟩], F := fun R x y k => f R (x.1.1) (x.1.2.1) (x.1.2.2.1) (x.1.2.2.2.1) (x.1.2.2.2.2.1) (x.2.1) (x.2.2.1) (fun z0 => k.1 z0) }
def Z15q : Con := Zu8 Znm
theorem Z10h (g0 : Zt7) (g1 : Zmy) (g2 : Zts) (g3 : Zie) (g4 : Ze0) : (Zu8 (Zkw g0 g1 g2 g3 g4)).Says Tryz.prog Tryz.f8 (conL [(19, Zxd g0), (12, Zsb g1), (20, Zxq g2), (13, Zq7 g3), (22, Zki g4)]) (pieceL 0 []) (.node .leaf (.node .leaf (.node .leaf (.node .leaf (.node .leaf (.node .leaf (.node .leaf (.node .leaf (.node .leaf (.node (.draw [⟨0, false, [], []⟩, ⟨1, false, [], [0]⟩, ⟨2, false, [4], [0, 1]⟩, ⟨3, false, [], []⟩, ⟨4, false, [], [3]⟩, ⟨5, false, [], [0, 1, 2, 3, 4]⟩, ⟨10, false, [], []⟩, ⟨6, true, [], [0, 1, 2, 3, 4, 5]⟩, ⟨7, false, [], [0, 1, 2, 3, 4, 5, 6]⟩, ⟨8, false, [], [0, 1, 2, 3, 4, 5, 6, 7]⟩, ⟨9, false, [], [0, 1, 2, 3, 4, 5, 6, 7]⟩, ⟨11, true, [5], [0, 1, 2, 3, 4, 5, 6, 7, 8, 10]⟩, ⟨12, false, [], [0, 1, 2, 3, 4, 5, 6, 7, 8, 9, 10, 11]⟩]) .leaf)))))))))) := by
 intro R x y K
 kernel_rfl
theorem Z18w : ConOK Tryz.prog 8 Z15q :=
 con_o (Z10h Zmd Zhu Z60 Z2x Z91) (cons_ok ⟨.inl Z16v, .inl Z15k, .inl Z16n, .inl Z10l, .inl Zwf, trivial⟩) orcs_0
end
end Go.Ev
