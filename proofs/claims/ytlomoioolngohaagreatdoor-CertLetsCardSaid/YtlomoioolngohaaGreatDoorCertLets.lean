/- CertLets returns true for every certificate, every seed and any time: the row, and its tied card. -/
import Derived.Test.YtlomoioolngohaaGreatDoorP3
import Derived.Test.YtlomoioolngohaaGreatDoorP5
import Derived.Test.YtlomoioolngohaaGreatDoorP6
set_option linter.unusedVariables false
namespace Go.Proofs.YtlomoioolngohaaGreatDoor
open Go.ChangeShapes Go.WideShapes Go.ChangeAt Go.RowKit Go.ChangeMaps
namespace certLets
theorem own : ownKnob Tryz.prog.godebug = none := by kernel_rfl
theorem walk (n : Int) (name : ByteArray) (f t : Int) (key seed : ByteArray) (b : Int) (v : Value) (hv : Go.Ev.vrel (fun _ => none) (.c (.agg [.one (.int .i64 n), .one (.str name.data.toList), .one (.int .i64 f), .one (.int .i64 t), .one (.str key.data.toList)])) v)
    (hn : Go.Ev.fits .i64 n) (hs : seed.size ≤ maxLen) (wb : (Lit.int .i64 b).wf = true) (w : World) (hA : Go.Ev.Amb.ok (fun _ => False) w) :
    Calls Tryz.prog 9 #[v, .string seed, .int .i64 b] w fun e w' => e = .returned (.bool true) ∧ Below w.heap.size w w' := by
  have hb : Go.Ev.fits .i64 b := by simpa [Lit.wf, Go.Ev.fits] using wb
  have e1 : IntKind.max .i64 = 9223372036854775807 := by decide
  have h1 := hn.2
  rw [e1] at h1
  exact Go.Ev.law_calls Go.Ev.Z1d9 (args := [.c (.agg [.one (.int .i64 n), .one (.str name.data.toList), .one (.int .i64 f), .one (.int .i64 t), .one (.str key.data.toList)]), .s (.str seed.data.toList), .s (.int .i64 b)])
    (xs := [v, .string seed, .int .i64 b]) (.cons hv (.cons (Go.Ev.strRel (fun _ => none) seed hs) (.cons ⟨rfl, hb⟩ .nil))) hA
    (show Go.Ev.Zre Unit n name.data.toList f t key.data.toList seed.data.toList b (fun x => Go.Ev.isTrue (.s (.bool x)) [] 0) = some () by
      rw [Go.Ev.law_lets _ _ _ _ _ _ _ h1]; rfl)
set_option maxRecDepth 100000 in
theorem lifted (os : Os) (started : os.Started) (H : Type) (enc : TypeId × Value → H) :
    ReturnsInHanded {} Tryz.checked os 9 .any (fun w args => (Rows.certLetsSpec.pre enc Tryz.prog Tryz.f9 [] false w args ∧ laidMetH Tryz.prog Rows.certLetsRow.laid w) ∧ sizedMet enc Tryz.prog Tryz.f9 (OpenSpec.ofChange Rows.certLetsSpec) false w args)
      (Rows.certLetsSpec.post enc Tryz.prog Tryz.f9 false true false false) := by
  refine returnsInHanded_of_change_and (C := Tryz.checked) (X := fun w _ => laidMetH Tryz.prog Rows.certLetsRow.laid w) (fun _ _ _ hh h => h.of_heap hh) own started (by kernel_rfl) Tryz.func9
    (ChangeSpec.witness_shaped (enc := enc) (C := Tryz.checked) (os := os) (X := fun w _ => laidMetH Tryz.prog Rows.certLetsRow.laid w) false (World.laidAll Tryz.prog os Rows.certLetsRow.laid)
      #[.agg #[.int .i64 0, .string ⟨#[]⟩, .int .i64 0, .int .i64 0, .string ⟨#[]⟩], .string ⟨#[]⟩, .int .i64 0] 8 (World.laidAll_os _ _ _)
      (World.shaped_of_ZipB (by kernel_rfl) (by kernel_rfl)) (by kernel_rfl) (by kernel_rfl) (by kernel_rfl)
      (by rw [MakeChecks.laidMetH_plain _ _ _ (by kernel_rfl)]; exact laidMet_laidAll _ (by kernel_rfl) (by kernel_rfl))) ?_
  intro W base args ds gs before hval0 hW _ _ hL _
  have hval : ∀ (j : Nat) t v, Tryz.f9.params[j]? = some t → args[j]? = some v → Value.okWide Tryz.prog W .any base t v := hval0
  have hW' := hW
  obtain ⟨p, q, hA0, hV, rfl, _, _⟩ := hW
  have hA : DataW.TrodAll enc Tryz.prog W 0 (fun _ => true) true Tryz.f9.params.toList args.toList ds p := hA0
  rw [Tryz.params9] at hA hval
  obtain ⟨v0, vs0, d0, ds0, p0, q0, hargs, rfl, rfl, h0, r0⟩ := trodAll_cons hA
  obtain ⟨v1, vs1, d1, ds1, p1, q1, rfl, rfl, rfl, h1, r1⟩ := trodAll_cons r0
  obtain ⟨v2, vs2, d2, ds2, p2, q2, rfl, rfl, rfl, h2, r2⟩ := trodAll_cons r1
  obtain ⟨rfl, rfl, rfl⟩ := trodAll_nil r2
  obtain rfl : args = #[v0, v1, v2] := by cases args; simp_all
  obtain ⟨rfl, rfl⟩ := trodVars_none hV
  obtain ⟨n, name, f, t, key, hn, ev, rfl, hv⟩ := Go.Ev.open_cert (hval 0 29 v0 rfl rfl) h0
  obtain ⟨x, rfl, rfl, rfl, wx⟩ := open_string Tryz.underlying9 (hval 1 9 v1 rfl rfl) h1
  obtain ⟨y, rfl, rfl, rfl, wy⟩ := open_int Tryz.underlying3 (hval 2 3 v2 rfl rfl) h2
  simp only [List.append_nil] at hW'
  refine (walk n name f t key x y v0 hv hn wx wy W (Go.Ev.amb_of_laid hL)).mono fun e W' ⟨he, hb⟩ => ?_
  subst he
  exact ⟨_, rfl, _, _, _, [], [], [], hW', trodAll_mk1 (shut_bool Tryz.underlying4 _), (trodAll_cons_mk (Go.Ev.cert_again h0) (trodAll_cons_mk (shut_string Tryz.underlying9 wx) (trodAll_cons_mk (shut_int Tryz.underlying3 wy) trodAll_mk0))), rfl, hb.frame _, fun h => by cases h⟩
theorem holds : Rows.CertLetsSaid :=
  OpenClaim.holds_of_wide 9 Tryz.f9 rfl rfl rfl rfl rfl rfl rfl ⟨rfl, rfl, rfl, rfl, rfl⟩ rfl rfl rfl rfl rfl (by kernel_rfl) Tryz.func9 (by kernel_rfl)
    (of_decide_eq_true (by kernel_rfl)) (by unfold Func.isWrapper; first | (rw [if_pos (by decide +kernel)]; kernel_rfl) | (rw [if_neg (by decide +kernel)]; exact ⟨rfl, rfl⟩))
    (fun os started H enc _ => lifted os started H enc)
theorem card_holds : Rows.CertLetsCardSaid :=
  Claim7.holds_tied_plain_at .later [] [.data, .data, .data, .data, .sentinel, .sentinel, .pinned] true (true, "8c48e3b6c2cfb82ca40ae39c25a1e1dd287ea2e5ab8d35fd0941ed5cefd515a8") true
    holds (fun _ h => by cases h) (by kernel_rfl) (fun _ h => by cases h) certLets_row_tie rfl ⟨rfl, rfl⟩ (by kernel_rfl) rfl
    (fun f fn hf hfn => by
      obtain rfl : f = 9 := Option.some.inj ((show Tryz.prog.funcNamed "cresset/cressetlaw14.CertLets" = some 9 by kernel_rfl).symm.trans hf) |>.symm
      obtain rfl : fn = Tryz.f9 := (Option.some.inj (Tryz.func9.symm.trans hfn)).symm
      exact ⟨by kernel_rfl, fun j t ht => by
        rw [Tryz.params9] at ht
        have hm : t ∈ [29, 9, 3] := by simpa using Array.mem_of_getElem? ht
        have hall : ([29, 9, 3].all fun u => !Tryz.prog.wantsStandIn u) = true := by kernel_rfl
        exact (show Tryz.prog.wantsStandIn t = false by simpa using List.all_eq_true.1 hall t hm)⟩)
    (by kernel_rfl)
end certLets
theorem certLets_card : Rows.CertLetsCardSaid := certLets.card_holds
#print axioms certLets_card
end Go.Proofs.YtlomoioolngohaaGreatDoor
