/- ShakeNil returns true for every text: the row, and its tied card. -/
import Derived.Test.YtlodiaflicooeaaGreatDoorCards
import Derived.Test.YtlodiaflicooeaaGreatDoorTie
import Derived.Test.YtlodiaflicooeaaGreatDoorNilT
import Derived.Lay
import Derived.ProofKit
import Derived.OpenShut
import Derived.ChangeMaps5
import Derived.LaidByTextLater
import Derived.LaidOnce
import Derived.SevenTiedAt
import Derived.KernelRfl
set_option linter.unusedVariables false
set_option linter.unusedSimpArgs false
namespace Go.Ev
open Go.RowKit Go.Proofs

/-- The answer of a law. -/
def isTrue : AVal → Eff → Nat → Option Unit := fun v _ _ => match v with
  | .c (.sc (.bool true)) => some ()
  | _ => none
theorem isTrue_spec {v : AVal} {E : Eff} {n : Nat} (h : isTrue v E n = some ()) : v = .s (.bool true) := by
  unfold isTrue at h
  split at h
  · rfl
  · cases h
theorem law_calls {P : Program} {g : FuncId} {c : Con} (hc : ConOK P g c) {args : List AVal} {xs : List Value} {w : World} (hx : All2 (vrel fun _ => none) args xs) (hA : Amb.ok (fun _ => False) w)
    (h : conG c Unit args (fun _ => none) 0 isTrue = some ()) : Calls P g xs.toArray w fun e w' => e = .returned (.bool true) ∧ Below w.heap.size w w' := by
  obtain ⟨_, hcall⟩ := hc Unit args (fun _ => none) 0 isTrue () h
  have hs : HSim (fun _ => none) (fun _ => False) 0 (fun _ => none) w :=
    ⟨fun _ _ => ⟨rfl, rfl⟩, (fun _ _ h => by cases h), (fun _ _ _ _ _ _ _ _ h => by cases h), (fun _ h => h.elim)⟩
  refine (hcall _ _ w xs hx hs hA).mono ?_
  rintro e w' ⟨v, E, cnt, x, ι', I', k1, rfl, k2, k3, k4, k5⟩
  rw [isTrue_spec k1] at k2
  have : x = .bool true := k2
  subst this
  exact ⟨rfl, k5.os, k5.tape, k5.output, k5.size, fun k hk => k5.same k hk (fun h => h)⟩
end Go.Ev
namespace Go.Proofs.YtlodiaflicooeaaGreatDoor
open Go.ChangeShapes Go.WideShapes Go.ChangeAt Go.RowKit Go.ChangeMaps
theorem own : ownKnob Tryz.prog.godebug = none := by kernel_rfl

namespace shakeNil
theorem walk (s : ByteArray) (hs : s.size ≤ maxLen) (w : World) : Calls Tryz.prog 3 #[.string s] w fun e w' => e = .returned (.bool true) ∧ Below w.heap.size w w' := by
  have hl : s.data.toList.length ≤ Go.Ev.maxL := by
    have e : s.data.toList.length = s.size := Array.length_toList
    have : maxLen ≤ Go.Ev.maxL := by decide
    omega
  exact Go.Ev.law_calls Go.Ev.c3_ok (args := [.s (.str s.data.toList)]) (xs := [.string s]) (.cons ⟨by simp, hl⟩ .nil) trivial (show Go.Ev.f3 Unit s.data.toList (fun _ => Go.Ev.isTrue (.s (.bool false)) [] 0) (fun _ => Go.Ev.isTrue (.s (.bool true)) [] 0) = some () by rfl)
set_option maxRecDepth 100000 in
theorem lifted (os : Os) (started : os.Started) (H : Type) (enc : TypeId × Value → H) :
    ReturnsInHanded {} Tryz.checked os 3 .any (fun w args => (Rows.shakeNilSpec.pre enc Tryz.prog Tryz.f3 [] false w args ∧ laidMetH Tryz.prog Rows.shakeNilRow.laid w) ∧ sizedMet enc Tryz.prog Tryz.f3 (OpenSpec.ofChange Rows.shakeNilSpec) false w args)
      (Rows.shakeNilSpec.post enc Tryz.prog Tryz.f3 false true false false) := by
  refine returnsInHanded_of_change_and (C := Tryz.checked) (X := fun w _ => laidMetH Tryz.prog Rows.shakeNilRow.laid w) (fun _ _ _ hh h => h.of_heap hh) own started (by kernel_rfl) Tryz.func3
    (ChangeSpec.witness_shaped (enc := enc) (C := Tryz.checked) (os := os) (X := fun w _ => laidMetH Tryz.prog Rows.shakeNilRow.laid w) false (World.laidAll Tryz.prog os Rows.shakeNilRow.laid) #[.string ⟨#[]⟩] 8 (World.laidAll_os _ _ _)
      (World.shaped_of_ZipB (by kernel_rfl) (by kernel_rfl)) (by kernel_rfl) (by kernel_rfl) (by kernel_rfl)
      (by rw [MakeChecks.laidMetH_plain _ _ _ (by kernel_rfl)]; exact laidMet_laidAll _ (by kernel_rfl) (by kernel_rfl))) ?_
  intro W base args ds gs before hval0 hW _ _ hL _
  have hval : ∀ (j : Nat) t v, Tryz.f3.params[j]? = some t → args[j]? = some v → Value.okWide Tryz.prog W .any base t v := hval0
  have hW' := hW
  obtain ⟨p, q, hA0, hV, rfl, _, _⟩ := hW
  have hA : DataW.TrodAll enc Tryz.prog W 0 (fun _ => true) true Tryz.f3.params.toList args.toList ds p := hA0
  rw [Tryz.params3] at hA hval
  obtain ⟨v0, d0, rfl, rfl, h0⟩ := trodAll_one hA
  obtain ⟨rfl, rfl⟩ := trodVars_none hV
  obtain ⟨x, rfl, rfl, rfl, wx⟩ := open_string Tryz.underlying9 (hval 0 9 v0 rfl rfl) h0
  simp only [List.append_nil] at hW'
  refine (walk x wx W).mono fun e W' ⟨he, hb⟩ => ?_
  subst he
  exact ⟨_, rfl, _, _, _, [], [], [], hW', trodAll_mk1 (shut_bool Tryz.underlying4 _), trodAll_mk1 (shut_string Tryz.underlying9 wx), rfl, hb.frame _, fun h => by cases h⟩

theorem holds : Rows.ShakeNilSaid :=
  OpenClaim.holds_of_wide 3 Tryz.f3 rfl rfl rfl rfl rfl rfl rfl ⟨rfl, rfl, rfl, rfl, rfl⟩ rfl rfl rfl rfl rfl (by kernel_rfl) Tryz.func3 (by kernel_rfl)
    (of_decide_eq_true (by kernel_rfl)) (by unfold Func.isWrapper; first | (rw [if_pos (by decide +kernel)]; kernel_rfl) | (rw [if_neg (by decide +kernel)]; exact ⟨rfl, rfl⟩))
    (fun os started H enc _ => lifted os started H enc)
theorem card_holds : Rows.ShakeNilCardSaid :=
  Claim7.holds_tied_plain_at .later [] [.data, .data, .data, .data, .sentinel, .sentinel, .pinned] true (true, "f78295f1eac20460533dc87692f40f155d63bc8ca0103beb6b7bb0662a30589c") true
    holds (fun _ h => by cases h) (by kernel_rfl) (fun _ h => by cases h) shakeNil_row_tie rfl ⟨rfl, rfl⟩ (by kernel_rfl) rfl
    (fun f fn hf hfn => by
      obtain rfl : f = 3 := Option.some.inj ((show Tryz.prog.funcNamed "cresset/cressetlaw18.ShakeNil" = some 3 by kernel_rfl).symm.trans hf) |>.symm
      obtain rfl : fn = Tryz.f3 := (Option.some.inj (Tryz.func3.symm.trans hfn)).symm
      exact ⟨by kernel_rfl, fun j t ht => by
        rw [Tryz.params3] at ht
        have hm : t ∈ [9] := by simpa using Array.mem_of_getElem? ht
        have hall : ([9].all fun u => !Tryz.prog.wantsStandIn u) = true := by kernel_rfl
        exact (show Tryz.prog.wantsStandIn t = false by simpa using List.all_eq_true.1 hall t hm)⟩)
    (by kernel_rfl)
end shakeNil
theorem shakeNil_card : Rows.ShakeNilCardSaid := shakeNil.card_holds
#print axioms shakeNil_card
end Go.Proofs.YtlodiaflicooeaaGreatDoor
