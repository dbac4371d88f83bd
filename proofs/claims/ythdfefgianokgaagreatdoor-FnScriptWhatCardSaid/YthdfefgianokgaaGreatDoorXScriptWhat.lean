/- FnScriptWhat's card: it returns true at every input that its row takes, and leaves its arguments and the two tables as they were. No condition but the row's. -/
import Derived.Deep.RegionHeld3
import Derived.Test.YthdfefgianokgaaGreatDoorBA
import Derived.Test.YthdfefgianokgaaGreatDoorBB
import Derived.Test.YthdfefgianokgaaGreatDoorBC
import Derived.Test.YthdfefgianokgaaGreatDoorBD
import Derived.Test.YthdfefgianokgaaGreatDoorBE

/- FnScriptWhat: the law's walk. -/
namespace Go.Proofs.YthdfefgianokgaaGreatDoor
open Go.RowKit

set_option maxRecDepth 100000 in
set_option maxHeartbeats 8000000 in
theorem fnScriptWhat_any (A : Option Addr) (n c : Nat) (w : World) (hr : RByte w A n) (hc : n ≤ c) (hm : HasMax w) (hp : Maps w) :
    Calls Tryz.prog 5 #[.slice A n c] w fun e w' => e = .returned (.bool true) ∧ Below w.heap.size w w' := by
  have HM := Lib.hid hm; clear hm
  have HP := Lib.hid hp; clear hp
  have HR := Lib.hid hr; clear hr
  by_cases hn : 1048576 < n
  · go_enter Tryz.func5, Tryz.ntmps5
    go_wp2_with fail
    go_ret
    exact ⟨rfl, Below.refl _ _⟩
  go_enter Tryz.func5, Tryz.ntmps5
  go_wp2_with fail
  refine (drawExecute_any A n c w HR.out hc (by omega)).mono ?_
  rintro e w1 ⟨x, rfl, hx, hb1⟩
  have HB1 := Lib.hid hb1; clear hb1
  go_wp2_with fail
  refine (exeI_any x w1 (HM.out.below HB1.out rfl) (HP.out.below HB1.out)).mono ?_
  rintro e w2 ⟨rfl, hb2⟩
  have HB2 := Lib.hid (HB1.out.trans (hb2.mono HB1.out.size)); clear hb2
  go_wp2_with fail
  refine (exeS_any x w2).mono ?_
  rintro e w3 ⟨rfl, hb3⟩
  have HB3 := Lib.hid (HB2.out.trans (hb3.mono HB2.out.size)); clear hb3
  have HX := Lib.hid hx; clear hx
  obtain ⟨r, hr⟩ : ∃ r, exe x = r := ⟨_, rfl⟩
  have HE := Lib.hid hr
  rw [hr]
  clear hr
  by_cases hz : 396 < x.size
  · have hx' := HX.out
    go_wp2_with fail
    go_ret
    exact ⟨rfl, HB3.out⟩
  have hx : x.size ≤ 396 := by omega
  go_wp2_with fail
  refine (completeLines_any x w3 (by omega)).mono ?_
  rintro e w4 ⟨k, hk, rfl, rfl⟩
  have HW := Lib.hid (fun k2 (h : LastAt (exe (wholeOf x k)) k2) => exe_what hk (by omega) h)
  have hys : (wholeOf x k).size ≤ 396 := by
    rw [whole_size hk]
    have := hk.1
    rw [bs_len] at this
    omega
  clear hk
  generalize wholeOf x k = y at *
  go_wp2_with fail
  refine (exeI_any y w3 (HM.out.below HB3.out rfl) (HP.out.below HB3.out)).mono ?_
  rintro e w5 ⟨rfl, hb5⟩
  have HB5 := Lib.hid (HB3.out.trans (hb5.mono HB3.out.size)); clear hb5
  have hgs := exe_size y
  generalize exe y = g at *
  go_wp2_with fail
  refine (lastLine_any g w5 (by omega)).mono ?_
  rintro e w6 ⟨k2, hk2, rfl, rfl⟩
  obtain ⟨hz1, hz2⟩ := HW.out k2 hk2
  generalize g.extract k2 g.size = z at *
  have hez : (g.extract 0 (g.size - z.size)).size ≤ 400000 := by
    rw [ByteArray.size_extract]
    omega
  have HEX : Hid (∀ x : Bl w5, Calls Tryz.prog 14 #[.string (y ++ (⟨#[122, 122, 122, 10]⟩ : Str))] x.wd fun e w' => e = .returned (.string (g.extract 0 (g.size - z.size) ++ (⟨#[119, 104, 97, 116, 10]⟩ : Str) ++ z)) ∧ Below x.wd.heap.size x.wd w') := Lib.hid (fun x => by
    rw [← hz2]
    have hb := HB5.out.trans (x.below.mono HB5.out.size)
    exact exeI_any (y ++ (⟨#[122, 122, 122, 10]⟩ : Str)) x.wd (HM.out.below hb rfl) (HP.out.below hb))
  clear hz2 hk2 HW
  have k1 : ¬ (9223372036854775807 < y.size + 4) := by omega
  have k2 : ¬ (9223372036854775807 < (g.extract 0 (g.size - z.size)).size + 5) := by omega
  have k3 : ¬ (9223372036854775807 < (g.extract 0 (g.size - z.size) ++ (⟨#[119, 104, 97, 116, 10]⟩ : Str)).size + z.size) := by
    rw [bsz_app]
    show ¬ (9223372036854775807 < _ + 5 + _)
    omega
  go_wp2_with fail
  refine region_bl (by kernel_rfl) (by kernel_rfl) ?_
  repeat (go_big_quiet_step ((go_at_call 14; exact q_bl (HEX.out _))))
  refine wpQuiet_nil ?_
  intro _ hw'
  obtain ⟨x7, rfl⟩ := hw'
  have HB7 := Lib.hid (HB5.out.trans (x7.below.mono HB5.out.size))
  go_wp2_with fail
  go_ret
  exact ⟨rfl, HB7.out⟩
end Go.Proofs.YthdfefgianokgaaGreatDoor

/- FnScriptWhat's card: it returns true at every input that its row takes, and leaves its arguments and the two tables as they were. No condition but the row's. -/
namespace Go.Proofs.YthdfefgianokgaaGreatDoor
open Go.ChangeShapes Go.WideShapes Go.ChangeAt Go.RowKit Go.ChangeMaps

set_option maxRecDepth 100000 in
theorem fnScriptWhat_lifted (os : Os) (started : os.Started) (H : Type) (enc : TypeId × Value → H) :
    ReturnsInHanded {} Tryz.checked os 5 .any (fun w args => (Rows.fnScriptWhatSpec.pre enc Tryz.prog Tryz.f5 Rows.fnScriptWhatRow.domain false w args ∧ laidMetH Tryz.prog Rows.fnScriptWhatRow.laid w) ∧ sizedMet enc Tryz.prog Tryz.f5 (OpenSpec.ofChange Rows.fnScriptWhatSpec) false w args)
      (Rows.fnScriptWhatSpec.post enc Tryz.prog Tryz.f5 false true false false) := by
  refine handed_laid (C := Tryz.checked) (X := fun w _ => laidMetH Tryz.prog Rows.fnScriptWhatRow.laid w) (fun _ _ _ hh h => h.of_heap hh) Tryz.own started (by kernel_rfl) Tryz.func5
    (ChangeSpec.witness_shaped (enc := enc) (C := Tryz.checked) (os := os) (X := fun w _ => laidMetH Tryz.prog Rows.fnScriptWhatRow.laid w) false ((mapsIn (World.holding Tryz.prog os ⟨#[], #[], []⟩)).layVars Tryz.prog (Rows.fnExactExecuteRow.laid.filter fun x => greatL.contains x.1)) #[.slice none 0 0] 8 ((World.layVars_os _ _ _).trans rfl)
      (World.shaped_of_ZipB (by kernel_rfl) (by kernel_rfl)) (by kernel_rfl) (by kernel_rfl) (by kernel_rfl)
      (start_met os _)) ?_
  intro W base args ds gs before hval0 hW hsh hL
  have hval : ∀ (j : Nat) t v, Tryz.f5.params[j]? = some t → args[j]? = some v → Value.okWide Tryz.prog W .any base t v := hval0
  have hW' := hW
  obtain ⟨p, q, hA0, hV, rfl, hfz, hnd⟩ := hW
  have hA : DataW.TrodAll enc Tryz.prog W 0 (fun _ => true) true Tryz.f5.params.toList args.toList ds p := hA0
  rw [Tryz.params5] at hA hval
  obtain ⟨v0, d0, rfl, rfl, h0⟩ := trodAll_one hA
  obtain ⟨_, _, _, _, g0, _, _, _, _, _, g1, _, rfl, _⟩ := trodVars_two hV
  have h0k := h0
  obtain ⟨a0, len, cap, rfl⟩ := okWide_slice Tryz.underlying22 (hval 0 22 v0 rfl rfl)
  obtain ⟨fuel, hf⟩ := h0
  have hlt : ∀ x ∈ p, x.block < W.heap.size := fun x hx => by simpa using hW'.lt x (List.mem_append_left _ hx)
  obtain ⟨hr, hc, _⟩ := open_code hf
  refine (fnScriptWhat_any a0 len cap W hr hc (Tryz.laysM145.s1_3 W hsh) (maps_of_laid hL)).mono fun e W' ⟨he, hb⟩ => ?_
  subst he
  exact ⟨_, rfl, post_lawV hW' (by kernel_rfl) Tryz.underlying4 rfl rfl rfl (trodAll_mk1 (Below.trod Tryz.laidOut (by kernel_rfl) (of_decide_eq_true (by kernel_rfl)) h0k hb hlt)) (Below.trodVars Tryz.laidOut hb (by kernel_rfl) hV) hb⟩

theorem fnScriptWhat_row : Rows.FnScriptWhatSaid :=
  OpenClaim.holds_of_wide 5 Tryz.f5 rfl rfl rfl rfl rfl rfl rfl ⟨rfl, rfl, rfl, rfl, rfl⟩ rfl rfl rfl rfl rfl (by kernel_rfl) Tryz.func5 (by kernel_rfl)
    (of_decide_eq_true (by kernel_rfl)) (by unfold Func.isWrapper; rw [if_neg (by decide +kernel)]; exact ⟨rfl, rfl⟩)
    (fun os started H enc _ => fnScriptWhat_lifted os started H enc)

theorem fnScriptWhat_holds : Rows.FnScriptWhatCardSaid :=
  Claim7.holds_tied_plain_at .later [] Rows.fnScriptWhatCard.laidKinds true Rows.fnScriptWhatCard.stood.harness false fnScriptWhat_row (fun _ h => by cases h) (by kernel_rfl) (fun _ h => by cases h) fnScriptWhat_row_tie rfl ⟨rfl, rfl⟩ (by kernel_rfl) rfl
    (fun f fn hf hfn => by
      obtain rfl : f = 5 := Option.some.inj ((show Tryz.prog.funcNamed "loop.example/sagaflows/laws.FnScriptWhat" = some 5 by kernel_rfl).symm.trans hf) |>.symm
      obtain rfl : fn = Tryz.f5 := (Option.some.inj (Tryz.func5.symm.trans hfn)).symm
      exact ⟨by kernel_rfl, fun j t ht => by
        rw [Tryz.params5] at ht
        have hm : t ∈ [22] := by simpa using Array.mem_of_getElem? ht
        have hall : ([22].all fun u => !Tryz.prog.wantsStandIn u) = true := by kernel_rfl
        exact (show Tryz.prog.wantsStandIn t = false by simpa using List.all_eq_true.1 hall t hm)⟩)
    (by kernel_rfl)
end Go.Proofs.YthdfefgianokgaaGreatDoor
