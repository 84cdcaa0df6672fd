/- What the rows of this seat need alike: the premises of the walks out of the rows' conditions; a contract turned into a call of the machine. -/
import Derived.Test.YtlomoioolngohaaGreatDoorRows
import Derived.Test.YtlomoioolngohaaGreatDoorBase
import Derived.Lib.LaidU8
import Derived.Lay
import Derived.ProofKit
import Derived.OpenShut
import Derived.LaidByTextLater
import Derived.LaidOnce
import Derived.SevenTiedAt
import Derived.KernelRfl
set_option linter.unusedVariables false
set_option linter.unusedSimpArgs false
namespace Go.Ev
open Go.RowKit Go.Proofs

def laid7 : List (String × DataW Unit) := Go.Proofs.YtlomoioolngohaaGreatDoor.Rows.certTimesRow.laid
theorem amb_of_laid {W : World} (h : laidMetH Tryz.prog laid7 W) : Amb.ok (fun _ => False) W := by
  rw [MakeChecks.laidMetH_plain _ _ _ (by kernel_rfl)] at h
  have size : ∀ {n : String} {d : DataW Unit} {g : Nat}, (n, d) ∈ laid7 → Tryz.prog.globalNamed n = some g → g < W.heap.size := by
    intro n d g hm hg
    obtain ⟨g', t, cs, fuel, p, h1, h2, h3, h4⟩ := Lib.laidMet.reads h hm
    obtain rfl := Option.some.inj (hg.symm.trans h1)
    unfold World.var? at h3
    rw [h1] at h3
    simp only [Option.bind_some] at h3
    cases hb : W.heap[g]? with
    | none => rw [hb] at h3; cases h3
    | some o => exact (Array.getElem?_eq_some_iff.1 hb).1
  have h7 : 7 < W.heap.size := size (n := "math/bits.deBruijn64tab") (d := Go.Proofs.YtlomoioolngohaaGreatDoor.Rows.laid_math_bits_deBruijn64tab) (.tail _ (.head _)) (by kernel_rfl)
  refine ⟨fun _ _ h => h, h7, ?_⟩
  obtain ⟨g, t, cs, fuel, p, h1, h2, h3, h4⟩ := Lib.laidMet.reads (n := "internal/strconv.uint64pow10") (d := Go.Proofs.YtlomoioolngohaaGreatDoor.Rows.laid_internal_strconv_uint64pow10) h (.tail _ (.tail _ (.head _)))
  obtain rfl := Option.some.inj (pow10_at.symm.trans h1)
  have hd : (Go.Proofs.YtlomoioolngohaaGreatDoor.Rows.laid_internal_strconv_uint64pow10 : DataW Unit) = Lib.tabData .u64 Lib.pow10Tab := rfl
  rw [hd] at h4
  have ht : (Tryz.prog.globals[0]?).map (·.type) = some 247 := by kernel_rfl
  obtain rfl := Option.some.inj (ht.symm.trans h2)
  unfold Lib.TabIs
  rw [h3, ← Lib.cells_of_tab (n := 20) (e := 73) (by kernel_rfl) (by kernel_rfl) (by kernel_rfl) (by kernel_rfl) h4]

/-- The answer of a law. -/
def isTrue : AVal → Eff → Nat → Option Unit := fun v _ _ => match v with
  | .c (.sc (.bool true)) => some ()
  | _ => none
theorem isTrue_spec {v : AVal} {E : Eff} {n : Nat} (h : isTrue v E n = some ()) : v = .s (.bool true) := by
  unfold isTrue at h
  split at h
  · rfl
  · cases h
theorem law_calls {P : Program} {g : FuncId} {c : Con} (hc : ConOK P g c) {args : List AVal} {xs : List Value} {w : World} (hx : All2 (vrel fun _ => none) args xs) (hA : Amb.ok (fun _ => False) w)
    (h : conG c Unit args (fun _ => none) 0 isTrue = some ()) : Calls P g xs.toArray w fun e w' => e = .returned (.bool true) ∧ Below w.heap.size w w' := by
  obtain ⟨_, hcall⟩ := hc Unit args (fun _ => none) 0 isTrue () h
  have hs : HSim (fun _ => none) (fun _ => False) 0 (fun _ => none) w :=
    ⟨fun _ _ => ⟨rfl, rfl⟩, (fun _ _ h => by cases h), (fun _ _ _ _ _ _ _ _ h => by cases h), (fun _ h => h.elim)⟩
  refine (hcall _ _ w xs hx hs hA).mono ?_
  rintro e w' ⟨v, E, cnt, x, ι', I', k1, rfl, k2, k3, k4, k5⟩
  rw [isTrue_spec k1] at k2
  have : x = .bool true := k2
  subst this
  exact ⟨rfl, k5.os, k5.tape, k5.output, k5.size, fun k hk => k5.same k hk (fun h => h)⟩
end Go.Ev
