/- TunnelNil returns true for every text: the row, and its tied card. -/
import Derived.Test.YtlodiaflicooeaaGreatDoorCards
import Derived.Test.YtlodiaflicooeaaGreatDoorTie
import Derived.Test.YtlodiaflicooeaaGreatDoorNilT
import Derived.Lay
import Derived.ProofKit
import Derived.OpenShut
import Derived.ChangeMaps5
import Derived.LaidByTextLater
import Derived.LaidOnce
import Derived.SevenTiedAt
import Derived.KernelRfl
set_option linter.unusedVariables false
set_option linter.unusedSimpArgs false
namespace Go.Ev
open Go.RowKit Go.Proofs

/-- The answer of a law. -/
def isTrue : AVal → Eff → Nat → Option Unit := fun v _ _ => match v with
  | .c (.sc (.bool true)) => some ()
  | _ => none
theorem isTrue_spec {v : AVal} {E : Eff} {n : Nat} (h : isTrue v E n = some ()) : v = .s (.bool true) := by
  unfold isTrue at h
  split at h
  · rfl
  · cases h
theorem law_calls {P : Program} {g : FuncId} {c : Con} (hc : ConOK P g c) {args : List AVal} {xs : List Value} {w : World} (hx : All2 (vrel fun _ => none) args xs) (hA : Amb.ok (fun _ => False) w)
    (h : conG c Unit args (fun _ => none) 0 isTrue = some ()) : Calls P g xs.toArray w fun e w' => e = .returned (.bool true) ∧ Below w.heap.size w w' := by
  obtain ⟨_, hcall⟩ := hc Unit args (fun _ => none) 0 isTrue () h
  have hs : HSim (fun _ => none) (fun _ => False) 0 (fun _ => none) w :=
    ⟨fun _ _ => ⟨rfl, rfl⟩, (fun _ _ h => by cases h), (fun _ _ _ _ _ _ _ _ h => by cases h), (fun _ h => h.elim)⟩
  refine (hcall _ _ w xs hx hs hA).mono ?_
  rintro e w' ⟨v, E, cnt, x, ι', I', k1, rfl, k2, k3, k4, k5⟩
  rw [isTrue_spec k1] at k2
  have : x = .bool true := k2
  subst this
  exact ⟨rfl, k5.os, k5.tape, k5.output, k5.size, fun k hk => k5.same k hk (fun h => h)⟩
end Go.Ev
namespace Go.Proofs.YtlodiaflicooeaaGreatDoor
open Go.ChangeShapes Go.WideShapes Go.ChangeAt Go.RowKit Go.ChangeMaps
theorem own : ownKnob Tryz.prog.godebug = none := by kernel_rfl

namespace tunnelNil
theorem walk (s : ByteArray) (hs : s.size ≤ maxLen) (w : World) : Calls Tryz.prog 4 #[.string s] w fun e w' => e = .returned (.bool true) ∧ Below w.heap.size w w' := by
  have hl : s.data.toList.length ≤ Go.Ev.maxL := by
    have e : s.data.toList.length = s.size := Array.length_toList
    have : maxLen ≤ Go.Ev.maxL := by decide
    omega
  exact Go.Ev.law_calls Go.Ev.c4_ok (args := [.s (.str s.data.toList)]) (xs := [.string s]) (.cons ⟨by simp, hl⟩ .nil) trivial (show Go.Ev.f4 Unit s.data.toList (fun _ => Go.Ev.isTrue (.s (.bool false)) [] 0) (fun _ => Go.Ev.isTrue (.s (.bool true)) [] 0) = some () by rfl)
set_option maxRecDepth 100000 in
theorem lifted (os : Os) (started : os.Started) (H : Type) (enc : TypeId × Value → H) :
    ReturnsInHanded {} Tryz.checked os 4 .any (fun w args => (Rows.tunnelNilSpec.pre enc Tryz.prog Tryz.f4 [] false w args ∧ laidMetH Tryz.prog Rows.tunnelNilRow.laid w) ∧ sizedMet enc Tryz.prog Tryz.f4 (OpenSpec.ofChange Rows.tunnelNilSpec) false w args)
      (Rows.tunnelNilSpec.post enc Tryz.prog Tryz.f4 false true false false) := by
  refine returnsInHanded_of_change_and (C := Tryz.checked) (X := fun w _ => laidMetH Tryz.prog Rows.tunnelNilRow.laid w) (fun _ _ _ hh h => h.of_heap hh) own started (by kernel_rfl) Tryz.func4
    (ChangeSpec.witness_shaped (enc := enc) (C := Tryz.checked) (os := os) (X := fun w _ => laidMetH Tryz.prog Rows.tunnelNilRow.laid w) false (World.laidAll Tryz.prog os Rows.tunnelNilRow.laid) #[.string ⟨#[]⟩] 8 (World.laidAll_os _ _ _)
      (World.shaped_of_ZipB (by kernel_rfl) (by kernel_rfl)) (by kernel_rfl) (by kernel_rfl) (by kernel_rfl)
      (by rw [MakeChecks.laidMetH_plain _ _ _ (by kernel_rfl)]; exact laidMet_laidAll _ (by kernel_rfl) (by kernel_rfl))) ?_
  intro W base args ds gs before hval0 hW _ _ hL _
  have hval : ∀ (j : Nat) t v, Tryz.f4.params[j]? = some t → args[j]? = some v → Value.okWide Tryz.prog W .any base t v := hval0
  have hW' := hW
  obtain ⟨p, q, hA0, hV, rfl, _, _⟩ := hW
  have hA : DataW.TrodAll enc Tryz.prog W 0 (fun _ => true) true Tryz.f4.params.toList args.toList ds p := hA0
  rw [Tryz.params4] at hA hval
  obtain ⟨v0, d0, rfl, rfl, h0⟩ := trodAll_one hA
  obtain ⟨rfl, rfl⟩ := trodVars_none hV
  obtain ⟨x, rfl, rfl, rfl, wx⟩ := open_string Tryz.underlying9 (hval 0 9 v0 rfl rfl) h0
  simp only [List.append_nil] at hW'
  refine (walk x wx W).mono fun e W' ⟨he, hb⟩ => ?_
  subst he
  exact ⟨_, rfl, _, _, _, [], [], [], hW', trodAll_mk1 (shut_bool Tryz.underlying4 _), trodAll_mk1 (shut_string Tryz.underlying9 wx), rfl, hb.frame _, fun h => by cases h⟩

theorem jf1 : (Rows.tunnelNilRow.inPlace == Tryz.prog.inPlace 4) = true := by kernel_rfl
theorem jf2 : (Rows.tunnelNilRow.unfollowed == Tryz.prog.unfollowed 4) = true := by kernel_rfl
theorem jf3 : (Rows.tunnelNilRow.recurses == Tryz.prog.recurses 4) = true := by kernel_rfl
theorem jf4 : (Rows.tunnelNilRow.named == Tryz.prog.varsNamed 4) = true := by kernel_rfl
theorem jf : joinedFacts Tryz.prog 4 Tryz.f4 Rows.tunnelNilSpec Rows.tunnelNilRow = true := by
  unfold joinedFacts
  rw [jf1, jf2, jf3, jf4]
  kernel_rfl
theorem named4 : Tryz.prog.funcNamed "cresset/cressetlaw19.TunnelNil" = some 4 := by kernel_rfl
theorem inst4 : Tryz.f4.isInstance Tryz.prog Rows.tunnelNilRow.origin Rows.tunnelNilRow.targs := of_decide_eq_true (by kernel_rfl)
theorem wrap4 : Tryz.f4.isWrapper Tryz.prog Rows.tunnelNilRow.wrapper Rows.tunnelNilRow.mainSum := by unfold Func.isWrapper; first | (rw [if_pos (by decide +kernel)]; kernel_rfl) | (rw [if_neg (by decide +kernel)]; exact ⟨rfl, rfl⟩)
theorem holds : Rows.TunnelNilSaid :=
  OpenClaim.holds_of_wide 4 Tryz.f4 rfl rfl rfl rfl rfl rfl rfl ⟨rfl, rfl, rfl, rfl, rfl⟩ rfl rfl rfl rfl rfl named4 Tryz.func4 jf inst4 wrap4
    (fun os started H enc _ => lifted os started H enc)
theorem card_holds : Rows.TunnelNilCardSaid :=
  Claim7.holds_tied_plain_at .later [] [.data, .data, .data, .data, .sentinel, .sentinel, .pinned] true (true, "f78295f1eac20460533dc87692f40f155d63bc8ca0103beb6b7bb0662a30589c") true
    holds (fun _ h => by cases h) (by kernel_rfl) (fun _ h => by cases h) tunnelNil_row_tie rfl ⟨rfl, rfl⟩ (by kernel_rfl) rfl
    (fun f fn hf hfn => by
      obtain rfl : f = 4 := Option.some.inj ((show Tryz.prog.funcNamed "cresset/cressetlaw19.TunnelNil" = some 4 by kernel_rfl).symm.trans hf) |>.symm
      obtain rfl : fn = Tryz.f4 := (Option.some.inj (Tryz.func4.symm.trans hfn)).symm
      exact ⟨by kernel_rfl, fun j t ht => by
        rw [Tryz.params4] at ht
        have hm : t ∈ [9] := by simpa using Array.mem_of_getElem? ht
        have hall : ([9].all fun u => !Tryz.prog.wantsStandIn u) = true := by kernel_rfl
        exact (show Tryz.prog.wantsStandIn t = false by simpa using List.all_eq_true.1 hall t hm)⟩)
    (by kernel_rfl)
end tunnelNil
theorem tunnelNil_card : Rows.TunnelNilCardSaid := tunnelNil.card_holds
#print axioms tunnelNil_card
end Go.Proofs.YtlodiaflicooeaaGreatDoor
