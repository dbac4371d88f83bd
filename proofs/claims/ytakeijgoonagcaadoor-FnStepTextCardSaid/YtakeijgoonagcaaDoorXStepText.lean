/- FnStepText's card: it returns true at every input that its row takes, and leaves its arguments as they were. No condition but the row's. -/
import Derived.Test.YtakeijgoonagcaaDoorCards
import Derived.Test.YtakeijgoonagcaaDoorTie
import Derived.Test.YtakeijgoonagcaaDoorZB
import Derived.Test.YtakeijgoonagcaaDoorZC

/- Comparing steps; FnStepText: the walk. -/
namespace Go.Proofs.YtakeijgoonagcaaDoor
open Go.RowKit

theorem eqBs_same (xs : List Str) : eqB xs xs = true := eqB_all rfl fun _ _ => rfl

set_option maxRecDepth 100000 in
theorem sameStep_same (A B : Option Addr) (n c d : Nat) (s : Step) (lo lo' : Nat) (w : World) (hr : RStr w lo A n s.after) (hn : n ≤ 1048576) (hr' : RStr w lo' B n s.after) :
    Calls Tryd.prog 8 #[.agg #[.string s.name, .slice A n c, .bool s.undo], .agg #[.string s.name, .slice B n d, .bool s.undo]] w fun e w' => e = .returned (.bool true) ∧ Below w.heap.size w w' := by
  have HR := Lib.hid ((hr.alloc (.cells #[.string s.name, .slice A n c, .bool s.undo] 25)).alloc (.cells #[.string s.name, .slice B n d, .bool s.undo] 25)); clear hr
  have HS := Lib.hid ((hr'.alloc (.cells #[.string s.name, .slice A n c, .bool s.undo] 25)).alloc (.cells #[.string s.name, .slice B n d, .bool s.undo] 25)); clear hr'
  have HB := Lib.hid (((Below.refl w.heap.size w).alloc (Nat.le_refl _) (.cells #[.string s.name, .slice A n c, .bool s.undo] 25)).alloc (by simp) (.cells #[.string s.name, .slice B n d, .bool s.undo] 25))
  have HX := Lib.hid (heap_old (o := .cells #[.string s.name, .slice B n d, .bool s.undo] 25) (heap_new (w := w) (o := .cells #[.string s.name, .slice A n c, .bool s.undo] 25) rfl))
  have HY := Lib.hid (heap_new (w := w.alloc (.cells #[.string s.name, .slice A n c, .bool s.undo] 25)) (b := w.heap.size + 1) (o := .cells #[.string s.name, .slice B n d, .bool s.undo] 25) (by simp))
  have x0 := (blk_cl (k := 0) HX.out rfl).1
  have x1 := (blk_cl (k := 1) HX.out rfl).1
  have x2 := (blk_cl (k := 2) HX.out rfl).1
  have y0 := (blk_cl (k := 0) HY.out rfl).1
  have y1 := (blk_cl (k := 1) HY.out rfl).1
  have y2 := (blk_cl (k := 2) HY.out rfl).1
  have hq : (s.name.toList == s.name.toList) = true := beq_self_eq_true _
  have hu : (s.undo == s.undo) = true := beq_self_eq_true _
  go_enter Tryd.func8, Tryd.ntmps8
  go_wp2_with (go_at_call 18; refine (sameTexts_any _ _ _ _ _ _ s.after s.after _ _ _ HR.out hn HS.out hn).mono ?_; rintro e w' ⟨rfl, q, rfl⟩; rw [eqBs_same])
  go_ret
  exact ⟨rfl, below_drewN HB.out _⟩

theorem stepS_small {s : Step} (h : stepB s = true) : (stepS s).size ≤ 100 ∧ 0 < (stepS s).size := by
  obtain ⟨k, b, hm⟩ := mark_ex h
  exact ⟨hm.small, by have := hm.last.1; omega⟩
theorem ne_empty {y : Str} (h : 0 < y.size) : (y.toList == ([] : List UInt8)) = false := by
  rw [beq_eq_false_iff_ne]
  intro e
  have e2 : y.toList.length = y.size := by rw [ByteArray.toList_eq]; rfl
  rw [e] at e2
  simp at e2
  omega

set_option maxRecDepth 100000 in
set_option maxHeartbeats 1000000 in
theorem fnStepText_any (A : Option Addr) (n c : Nat) (w : World) (hr : RByte w A n) (hc : n ≤ c) (hm : HasMax w) :
    Calls Tryd.prog 3 #[.slice A n c] w fun e w' => e = .returned (.bool true) ∧ Below w.heap.size w w' := by
  have HR := Lib.hid hr; clear hr
  have HM := Lib.hid hm; clear hm
  by_cases hn : 1048576 < n
  · go_enter Tryd.func3, Tryd.ntmps3
    go_wp2_with fail
    go_ret
    exact ⟨rfl, Below.refl _ _⟩
  go_enter Tryd.func3, Tryd.ntmps3
  go_wp2_with fail
  refine (drawStepText_any _ _ _ _ HR.out hc (by omega)).mono ?_
  rintro e w1 ⟨s, A1, n1, c1, rfl, hs, hok, h6, hnc, hb1⟩
  have HS := Lib.hid (hs.alloc (.cells #[.string s.name, .slice A1 n1 c1, .bool s.undo] 25)); clear hs
  have HOK := Lib.hid hok; clear hok
  have HB1 := Lib.hid (hb1.alloc hb1.size (.cells #[.string s.name, .slice A1 n1 c1, .bool s.undo] 25)); clear hb1
  have HX := Lib.hid (heap_new (w := w1) (o := .cells #[.string s.name, .slice A1 n1 c1, .bool s.undo] 25) rfl)
  go_wp2_with fail
  refine (stepTextI_any _ _ _ s _ _ HS.out HOK.out hnc).mono ?_
  rintro e w2 ⟨rfl, hb2⟩
  have HX2 := Lib.hid ((hb2.block w1.heap.size (by simp)).trans HX.out)
  have HB2 := Lib.hid (HB1.out.trans (hb2.mono HB1.out.size))
  have HS2 := Lib.hid (HS.out.below hb2)
  clear hb2 HS
  have a0 := (blk_cl (k := 0) HX2.out rfl).1
  have a1 := (blk_cl (k := 1) HX2.out rfl).1
  have a2 := (blk_cl (k := 2) HX2.out rfl).1
  go_wp2_with fail
  refine (stepTextS_any _ _ _ s _ _ HS2.out HOK.out).mono ?_
  rintro e w3 ⟨rfl, hb3⟩
  have HX3 := Lib.hid ((hb3.block w1.heap.size (heap_lt HX2.out)).trans HX2.out)
  have HB3 := Lib.hid (HB2.out.trans (hb3.mono HB2.out.size))
  have HS3 := Lib.hid (HS2.out.below hb3)
  clear hb3 HS2 a0 a1 a2 HX2 HX
  cases h : stepB s
  · have hy : textS s = ⟨#[]⟩ := by unfold textS; rw [if_neg (by rw [h]; simp)]
    rw [hy]
    clear hy h
    go_wp2_with fail
    go_ret
    exact ⟨rfl, HB3.out⟩
  · have hy : textS s = stepS s := by unfold textS; rw [if_pos h]
    obtain ⟨hsm, hs0⟩ := stepS_small h
    have hF := from_yes h (rfl : stepS s = stepS s)
    have HF := Lib.hid hF
    rw [hy]
    have q0 : ((stepS s).toList != (stepS s).toList) = false := by simp
    have q1 := ne_empty hs0
    have q2 : ((stepS s).toList == (stepS s).toList) = true := by simp
    clear hy h hF
    go_wp2_with fail
    refine (stepFromI_any (stepS s) _ (by omega) (HM.out.below HB3.out rfl)).mono ?_
    rintro e w4 ⟨A4, n4, c4, rfl, hs4, _, hb4⟩
    rw [HF.out.1, HF.out.2] at *
    obtain rfl : n4 = n1 := by have := hs4.1; have := HS3.out.1; omega
    have hn4 : n4 ≤ 6 := h6
    have HS4 := Lib.hid (hs4.hat.alloc (.cells #[.string s.name, .slice A4 n4 c4, .bool s.undo] 25))
    have HX4 := Lib.hid (heap_old (o := .cells #[.string s.name, .slice A4 n4 c4, .bool s.undo] 25) ((hb4.block w1.heap.size (heap_lt HX3.out)).trans HX3.out))
    have HS5 := Lib.hid ((HS3.out.below hb4).alloc (.cells #[.string s.name, .slice A4 n4 c4, .bool s.undo] 25))
    have HB4' := Lib.hid (HB3.out.trans (hb4.mono HB3.out.size))
    have HB4 := Lib.hid (HB4'.out.alloc HB4'.out.size (.cells #[.string s.name, .slice A4 n4 c4, .bool s.undo] 25))
    have HY4 := Lib.hid (heap_new (w := w4) (o := .cells #[.string s.name, .slice A4 n4 c4, .bool s.undo] 25) rfl)
    clear hb4 hs4 HS3 HX3 HB3 HB4'
    have x0 := (blk_cl (k := 0) HX4.out rfl).1
    have x1 := (blk_cl (k := 1) HX4.out rfl).1
    have x2 := (blk_cl (k := 2) HX4.out rfl).1
    have y0 := (blk_cl (k := 0) HY4.out rfl).1
    have y1 := (blk_cl (k := 1) HY4.out rfl).1
    have y2 := (blk_cl (k := 2) HY4.out rfl).1
    go_wp2_with (go_at_call 8; refine (sameStep_same _ _ _ _ _ s _ _ _ HS4.out (by omega) HS5.out).mono ?_; rintro e w5 ⟨rfl, hb5⟩)
    go_ret
    exact ⟨rfl, HB4.out.trans (hb5.mono HB4.out.size)⟩
end Go.Proofs.YtakeijgoonagcaaDoor

/- FnStepText's card: it returns true at every input that its row takes, and leaves its arguments as they were. No condition but the row's. -/
namespace Go.Proofs.YtakeijgoonagcaaDoor
open Go.ChangeShapes Go.WideShapes Go.ChangeAt Go.RowKit

set_option maxRecDepth 100000 in
theorem fnStepText_lifted (os : Os) (started : os.Started) (H : Type) (enc : TypeId × Value → H) :
    ReturnsInHanded {} Tryd.checked os 3 .any (fun w args => (Rows.fnStepTextSpec.pre enc Tryd.prog Tryd.f3 Rows.fnStepTextRow.domain false w args ∧ laidMetH Tryd.prog Rows.fnStepTextRow.laid w) ∧ sizedMet enc Tryd.prog Tryd.f3 (OpenSpec.ofChange Rows.fnStepTextSpec) false w args)
      (Rows.fnStepTextSpec.post enc Tryd.prog Tryd.f3 false true false false) := by
  refine handed_laid (C := Tryd.checked) (X := fun w _ => laidMetH Tryd.prog Rows.fnStepTextRow.laid w) (fun _ _ _ hh h => h.of_heap hh) Tryd.own started (by kernel_rfl) Tryd.func3
    (ChangeSpec.witness_shaped (enc := enc) (C := Tryd.checked) (os := os) (X := fun w _ => laidMetH Tryd.prog Rows.fnStepTextRow.laid w) false (World.laidAll Tryd.prog os Rows.fnStepTextRow.laid) #[.slice none 0 0] 8 (World.laidAll_os _ _ _)
      (World.shaped_of_ZipB (by kernel_rfl) (by kernel_rfl)) (by kernel_rfl) (by kernel_rfl) (by kernel_rfl)
      (by rw [MakeChecks.laidMetH_plain _ _ _ (by kernel_rfl)]; exact laidMet_laidAll _ (by kernel_rfl) (by kernel_rfl))) ?_
  intro W base args ds gs before hval0 hW hsh hL
  have hval : ∀ (j : Nat) t v, Tryd.f3.params[j]? = some t → args[j]? = some v → Value.okWide Tryd.prog W .any base t v := hval0
  have hW' := hW
  obtain ⟨p, q, hA0, hV, rfl, hfz, hnd⟩ := hW
  have hA : DataW.TrodAll enc Tryd.prog W 0 (fun _ => true) true Tryd.f3.params.toList args.toList ds p := hA0
  rw [Tryd.params3] at hA hval
  obtain ⟨v0, d0, rfl, rfl, h0⟩ := trodAll_one hA
  obtain ⟨rfl, rfl⟩ := trodVars_none hV
  have h0k := h0
  obtain ⟨a0, len, cap, rfl⟩ := okWide_slice Tryd.underlying22 (hval 0 22 v0 rfl rfl)
  obtain ⟨fuel, hf⟩ := h0
  clear hA0 hval0 hA
  simp only [List.append_nil] at hW' hfz
  have hlt : ∀ x ∈ p, x.block < W.heap.size := fun x hx => by simpa using hW'.lt x hx
  obtain ⟨hr, hc, _⟩ := open_code hf
  refine (fnStepText_any a0 len cap W hr hc (Tryd.laysM145.s1_3 W hsh)).mono fun e W' ⟨he, hb⟩ => ?_
  subst he
  exact ⟨_, rfl, post_law hW' rfl (by kernel_rfl) Tryd.underlying4 rfl rfl rfl (trodAll_mk1 (Below.trod Tryd.laidOut (by kernel_rfl) (of_decide_eq_true (by kernel_rfl)) h0k hb hlt)) hb⟩

theorem fnStepText_row : Rows.FnStepTextSaid :=
  OpenClaim.holds_of_wide 3 Tryd.f3 rfl rfl rfl rfl rfl rfl rfl ⟨rfl, rfl, rfl, rfl, rfl⟩ rfl rfl rfl rfl rfl (by kernel_rfl) Tryd.func3 (by kernel_rfl)
    (of_decide_eq_true (by kernel_rfl)) (by unfold Func.isWrapper; rw [if_neg (by decide +kernel)]; exact ⟨rfl, rfl⟩)
    (fun os started H enc _ => fnStepText_lifted os started H enc)

theorem fnStepText_holds : Rows.FnStepTextCardSaid :=
  Claim7.holds_tied_plain_at .later [] Rows.fnStepTextCard.laidKinds true Rows.fnStepTextCard.stood.harness false fnStepText_row (fun _ h => by cases h) (by kernel_rfl) (fun _ h => by cases h) fnStepText_row_tie rfl ⟨rfl, rfl⟩ (by kernel_rfl) rfl
    (fun f fn hf hfn => by
      obtain rfl : f = 3 := Option.some.inj ((show Tryd.prog.funcNamed "loop.example/sagaflows/laws.FnStepText" = some 3 by kernel_rfl).symm.trans hf) |>.symm
      obtain rfl : fn = Tryd.f3 := (Option.some.inj (Tryd.func3.symm.trans hfn)).symm
      exact ⟨by kernel_rfl, fun j t ht => by
        rw [Tryd.params3] at ht
        have hm : t ∈ [22] := by simpa using Array.mem_of_getElem? ht
        have hall : ([22].all fun u => !Tryd.prog.wantsStandIn u) = true := by kernel_rfl
        exact (show Tryd.prog.wantsStandIn t = false by simpa using List.all_eq_true.1 hall t hm)⟩)
    (by kernel_rfl)
end Go.Proofs.YtakeijgoonagcaaDoor
