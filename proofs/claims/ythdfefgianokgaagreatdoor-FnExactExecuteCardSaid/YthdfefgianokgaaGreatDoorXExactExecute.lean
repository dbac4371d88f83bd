/- FnExactExecute's card: it returns true at every input that its row takes, and leaves its arguments and the two tables as they were. No condition but the row's. -/
import Derived.Test.YthdfefgianokgaaGreatDoorBA
import Derived.Test.YthdfefgianokgaaGreatDoorBC
import Derived.Test.YthdfefgianokgaaGreatDoorBD
import Derived.Test.YthdfefgianokgaaGreatDoorBE

/- FnExactExecute: the law's walk. -/
namespace Go.Proofs.YthdfefgianokgaaGreatDoor
open Go.RowKit

set_option maxRecDepth 100000 in
set_option maxHeartbeats 4000000 in
theorem fnExactExecute_any (s : Str) (w : World) (hm : HasMax w) (hp : Maps w) :
    Calls Tryz.prog 12 #[.string s] w fun e w' => e = .returned (.bool true) ∧ Below w.heap.size w w' := by
  have HM := Lib.hid hm; clear hm
  have HP := Lib.hid hp; clear hp
  by_cases hn : 1048576 < s.size
  · go_enter Tryz.func12, Tryz.ntmps12
    go_wp2_with fail
    go_ret
    exact ⟨rfl, Below.refl _ _⟩
  go_enter Tryz.func12, Tryz.ntmps12
  go_wp2_with fail
  refine (exeS_any s w).mono ?_
  rintro e w1 ⟨rfl, hb1⟩
  go_wp2_with fail
  refine (exeI_any s w1 (HM.out.below hb1 rfl) (HP.out.below hb1)).mono ?_
  rintro e w2 ⟨rfl, hb2⟩
  have HB := Lib.hid (hb1.trans (hb2.mono hb1.size))
  generalize exe s = r at *
  go_wp2_with fail
  go_ret
  exact ⟨rfl, HB.out⟩
end Go.Proofs.YthdfefgianokgaaGreatDoor

/- FnExactExecute's card: it returns true at every input that its row takes, and leaves its arguments and the two tables as they were. No condition but the row's. -/
namespace Go.Proofs.YthdfefgianokgaaGreatDoor
open Go.ChangeShapes Go.WideShapes Go.ChangeAt Go.RowKit Go.ChangeMaps

set_option maxRecDepth 100000 in
theorem fnExactExecute_lifted (os : Os) (started : os.Started) (H : Type) (enc : TypeId × Value → H) :
    ReturnsInHanded {} Tryz.checked os 12 .any (fun w args => (Rows.fnExactExecuteSpec.pre enc Tryz.prog Tryz.f12 Rows.fnExactExecuteRow.domain false w args ∧ laidMetH Tryz.prog Rows.fnExactExecuteRow.laid w) ∧ sizedMet enc Tryz.prog Tryz.f12 (OpenSpec.ofChange Rows.fnExactExecuteSpec) false w args)
      (Rows.fnExactExecuteSpec.post enc Tryz.prog Tryz.f12 false true false false) := by
  refine handed_laid (C := Tryz.checked) (X := fun w _ => laidMetH Tryz.prog Rows.fnExactExecuteRow.laid w) (fun _ _ _ hh h => h.of_heap hh) Tryz.own started (by kernel_rfl) Tryz.func12
    (ChangeSpec.witness_shaped (enc := enc) (C := Tryz.checked) (os := os) (X := fun w _ => laidMetH Tryz.prog Rows.fnExactExecuteRow.laid w) false ((mapsIn (World.holding Tryz.prog os ⟨#[], #[], []⟩)).layVars Tryz.prog (Rows.fnExactExecuteRow.laid.filter fun x => greatL.contains x.1)) #[.string ⟨#[]⟩] 8 ((World.layVars_os _ _ _).trans rfl)
      (World.shaped_of_ZipB (by kernel_rfl) (by kernel_rfl)) (by kernel_rfl) (by kernel_rfl) (by kernel_rfl)
      (start_met os _)) ?_
  intro W base args ds gs before hval0 hW hsh hL
  have hval : ∀ (j : Nat) t v, Tryz.f12.params[j]? = some t → args[j]? = some v → Value.okWide Tryz.prog W .any base t v := hval0
  have hW' := hW
  obtain ⟨p, q, hA0, hV, rfl, hfz, hnd⟩ := hW
  have hA : DataW.TrodAll enc Tryz.prog W 0 (fun _ => true) true Tryz.f12.params.toList args.toList ds p := hA0
  rw [Tryz.params12] at hA hval
  obtain ⟨v0, d0, rfl, rfl, h0⟩ := trodAll_one hA
  obtain ⟨_, _, _, _, g0, _, _, _, _, _, g1, _, rfl, _⟩ := trodVars_two hV
  obtain ⟨s, rfl, rfl, rfl, hsz⟩ := open_string Tryz.underlying9 (hval 0 9 v0 rfl rfl) h0
  refine (fnExactExecute_any s W (Tryz.laysM145.s1_3 W hsh) (maps_of_laid hL)).mono fun e W' ⟨he, hb⟩ => ?_
  subst he
  exact ⟨_, rfl, post_lawV hW' (by kernel_rfl) Tryz.underlying4 rfl rfl rfl (trodAll_mk1 (shut_string Tryz.underlying9 hsz)) (Below.trodVars Tryz.laidOut hb (by kernel_rfl) hV) hb⟩

theorem fnExactExecute_row : Rows.FnExactExecuteSaid :=
  OpenClaim.holds_of_wide 12 Tryz.f12 rfl rfl rfl rfl rfl rfl rfl ⟨rfl, rfl, rfl, rfl, rfl⟩ rfl rfl rfl rfl rfl (by kernel_rfl) Tryz.func12 (by kernel_rfl)
    (of_decide_eq_true (by kernel_rfl)) (by unfold Func.isWrapper; rw [if_neg (by decide +kernel)]; exact ⟨rfl, rfl⟩)
    (fun os started H enc _ => fnExactExecute_lifted os started H enc)

theorem fnExactExecute_holds : Rows.FnExactExecuteCardSaid :=
  Claim7.holds_tied_plain_at .later [] Rows.fnExactExecuteCard.laidKinds true Rows.fnExactExecuteCard.stood.harness false fnExactExecute_row (fun _ h => by cases h) (by kernel_rfl) (fun _ h => by cases h) fnExactExecute_row_tie rfl ⟨rfl, rfl⟩ (by kernel_rfl) rfl
    (fun f fn hf hfn => by
      obtain rfl : f = 12 := Option.some.inj ((show Tryz.prog.funcNamed "loop.example/sagaflows/laws.FnExactExecute" = some 12 by kernel_rfl).symm.trans hf) |>.symm
      obtain rfl : fn = Tryz.f12 := (Option.some.inj (Tryz.func12.symm.trans hfn)).symm
      exact ⟨by kernel_rfl, fun j t ht => by
        rw [Tryz.params12] at ht
        have hm : t ∈ [9] := by simpa using Array.mem_of_getElem? ht
        have hall : ([9].all fun u => !Tryz.prog.wantsStandIn u) = true := by kernel_rfl
        exact (show Tryz.prog.wantsStandIn t = false by simpa using List.all_eq_true.1 hall t hm)⟩)
    (by kernel_rfl)
end Go.Proofs.YthdfefgianokgaaGreatDoor
