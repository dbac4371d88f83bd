/- FnScriptMove's card: it returns true at every input that its row takes, and leaves its arguments and the two tables as they were. No condition but the row's. -/
import Derived.Test.YthdfefgianokgaaGreatDoorBA
import Derived.Test.YthdfefgianokgaaGreatDoorBB
import Derived.Test.YthdfefgianokgaaGreatDoorBC
import Derived.Test.YthdfefgianokgaaGreatDoorBE

/- FnScriptMove's card: it returns true at every input that its row takes, and leaves its arguments and the two tables as they were. No condition but the row's. -/
namespace Go.Proofs.YthdfefgianokgaaGreatDoor
open Go.ChangeShapes Go.WideShapes Go.ChangeAt Go.RowKit Go.ChangeMaps

set_option maxRecDepth 100000 in
theorem fnScriptMove_lifted (os : Os) (started : os.Started) (H : Type) (enc : TypeId × Value → H) :
    ReturnsInHanded {} Tryz.checked os 11 .any (fun w args => (Rows.fnScriptMoveSpec.pre enc Tryz.prog Tryz.f11 Rows.fnScriptMoveRow.domain false w args ∧ laidMetH Tryz.prog Rows.fnScriptMoveRow.laid w) ∧ sizedMet enc Tryz.prog Tryz.f11 (OpenSpec.ofChange Rows.fnScriptMoveSpec) false w args)
      (Rows.fnScriptMoveSpec.post enc Tryz.prog Tryz.f11 false true false false) := by
  refine handed_laid (C := Tryz.checked) (X := fun w _ => laidMetH Tryz.prog Rows.fnScriptMoveRow.laid w) (fun _ _ _ hh h => h.of_heap hh) Tryz.own started (by kernel_rfl) Tryz.func11
    (ChangeSpec.witness_shaped (enc := enc) (C := Tryz.checked) (os := os) (X := fun w _ => laidMetH Tryz.prog Rows.fnScriptMoveRow.laid w) false ((mapsIn (World.holding Tryz.prog os ⟨#[], #[], []⟩)).layVars Tryz.prog (Rows.fnExactExecuteRow.laid.filter fun x => greatL.contains x.1)) #[.slice none 0 0] 8 ((World.layVars_os _ _ _).trans rfl)
      (World.shaped_of_ZipB (by kernel_rfl) (by kernel_rfl)) (by kernel_rfl) (by kernel_rfl) (by kernel_rfl)
      (start_met os _)) ?_
  intro W base args ds gs before hval0 hW hsh hL
  have hval : ∀ (j : Nat) t v, Tryz.f11.params[j]? = some t → args[j]? = some v → Value.okWide Tryz.prog W .any base t v := hval0
  have hW' := hW
  obtain ⟨p, q, hA0, hV, rfl, hfz, hnd⟩ := hW
  have hA : DataW.TrodAll enc Tryz.prog W 0 (fun _ => true) true Tryz.f11.params.toList args.toList ds p := hA0
  rw [Tryz.params11] at hA hval
  obtain ⟨v0, d0, rfl, rfl, h0⟩ := trodAll_one hA
  obtain ⟨_, _, _, _, g0, _, _, _, _, _, g1, _, rfl, _⟩ := trodVars_two hV
  have h0k := h0
  obtain ⟨a0, len, cap, rfl⟩ := okWide_slice Tryz.underlying22 (hval 0 22 v0 rfl rfl)
  obtain ⟨fuel, hf⟩ := h0
  have hlt : ∀ x ∈ p, x.block < W.heap.size := fun x hx => by simpa using hW'.lt x (List.mem_append_left _ hx)
  obtain ⟨hr, hc, _⟩ := open_code hf
  refine (fnScriptMove_any a0 len cap W hr hc (Tryz.laysM145.s1_3 W hsh) (maps_of_laid hL)).mono fun e W' ⟨he, hb⟩ => ?_
  subst he
  exact ⟨_, rfl, post_lawV hW' (by kernel_rfl) Tryz.underlying4 rfl rfl rfl (trodAll_mk1 (Below.trod Tryz.laidOut (by kernel_rfl) (of_decide_eq_true (by kernel_rfl)) h0k hb hlt)) (Below.trodVars Tryz.laidOut hb (by kernel_rfl) hV) hb⟩

theorem fnScriptMove_row : Rows.FnScriptMoveSaid :=
  OpenClaim.holds_of_wide 11 Tryz.f11 rfl rfl rfl rfl rfl rfl rfl ⟨rfl, rfl, rfl, rfl, rfl⟩ rfl rfl rfl rfl rfl (by kernel_rfl) Tryz.func11 (by kernel_rfl)
    (of_decide_eq_true (by kernel_rfl)) (by unfold Func.isWrapper; rw [if_neg (by decide +kernel)]; exact ⟨rfl, rfl⟩)
    (fun os started H enc _ => fnScriptMove_lifted os started H enc)

theorem fnScriptMove_holds : Rows.FnScriptMoveCardSaid :=
  Claim7.holds_tied_plain_at .later [] Rows.fnScriptMoveCard.laidKinds true Rows.fnScriptMoveCard.stood.harness false fnScriptMove_row (fun _ h => by cases h) (by kernel_rfl) (fun _ h => by cases h) fnScriptMove_row_tie rfl ⟨rfl, rfl⟩ (by kernel_rfl) rfl
    (fun f fn hf hfn => by
      obtain rfl : f = 11 := Option.some.inj ((show Tryz.prog.funcNamed "loop.example/sagaflows/laws.FnScriptMove" = some 11 by kernel_rfl).symm.trans hf) |>.symm
      obtain rfl : fn = Tryz.f11 := (Option.some.inj (Tryz.func11.symm.trans hfn)).symm
      exact ⟨by kernel_rfl, fun j t ht => by
        rw [Tryz.params11] at ht
        have hm : t ∈ [22] := by simpa using Array.mem_of_getElem? ht
        have hall : ([22].all fun u => !Tryz.prog.wantsStandIn u) = true := by kernel_rfl
        exact (show Tryz.prog.wantsStandIn t = false by simpa using List.all_eq_true.1 hall t hm)⟩)
    (by kernel_rfl)
end Go.Proofs.YthdfefgianokgaaGreatDoor
