/- FnStepFromNot's card: it returns true at every input that its row takes, and leaves its arguments as they were. No condition but the row's. -/
import Derived.Test.YthdfefgianokgaaDoorCards
import Derived.Test.YthdfefgianokgaaDoorTie
import Derived.Test.YthdfefgianokgaaDoorZD
import Derived.Test.YthdfefgianokgaaDoorZC

/- FnStepFromNot: the walk. -/
namespace Go.Proofs.YthdfefgianokgaaDoor
open Go.RowKit

set_option maxRecDepth 100000 in
set_option maxHeartbeats 2000000 in
theorem fnStepFromNot_any (A : Option Addr) (n c : Nat) (w : World) (hr : RByte w A n) (hc : n ≤ c) (hm : HasMax w) :
    Calls Tryd.prog 6 #[.slice A n c] w fun e w' => e = .returned (.bool true) ∧ Below w.heap.size w w' := by
  have HR := Lib.hid hr; clear hr
  have HM := Lib.hid hm; clear hm
  by_cases hn : 1048576 < n
  · go_enter Tryd.func6, Tryd.ntmps6
    go_wp2_with fail
    go_ret
    exact ⟨rfl, Below.refl _ _⟩
  go_enter Tryd.func6, Tryd.ntmps6
  go_wp2_with fail
  refine (drawStepFrom_any _ _ _ _ HR.out hc (by omega)).mono ?_
  rintro e w1 ⟨s, rfl, hsz, hb1⟩
  have HB1 := Lib.hid hb1; clear hb1
  go_wp2_with fail
  refine (stepFromI_any s w1 (by omega) (HM.out.below HB1.out rfl)).mono ?_
  rintro e w2 ⟨A2, n2, c2, rfl, hs2, hc2, hb2⟩
  have HX2 := Lib.hid (heap_new (w := w2) (o := .cells #[.string (fromT s).name, .slice A2 n2 c2, .bool (fromT s).undo] 25) rfl)
  have HS2 := Lib.hid (hs2.hat.alloc (.cells #[.string (fromT s).name, .slice A2 n2 c2, .bool (fromT s).undo] 25))
  have HB2' := Lib.hid (HB1.out.trans (hb2.mono HB1.out.size))
  have HB2 := Lib.hid (HB2'.out.alloc HB2'.out.size (.cells #[.string (fromT s).name, .slice A2 n2 c2, .bool (fromT s).undo] 25))
  clear hs2 hb2 HB2'
  go_wp2_with fail
  refine (stepFromS_any s _ (by omega)).mono ?_
  rintro e w3 ⟨A3, n3, c3, rfl, hs3, hb3⟩
  obtain rfl : n3 = n2 := by have := hs3.1; have := HS2.out.1; omega
  have hn3 : n3 ≤ 4 := by
    have e1 := hs3.1
    cases hB : fromB s
    · rw [from_not hB] at e1
      have : n3 = 0 := e1.symm
      omega
    · have := (stepB_sizes (from_ex hB).1).1
      omega
  have HX3 := Lib.hid (heap_old (o := .cells #[.string (fromT s).name, .slice A3 n3 c3, .bool (fromT s).undo] 25) ((hb3.block w2.heap.size (heap_lt HX2.out)).trans HX2.out))
  have HY3 := Lib.hid (heap_new (w := w3) (o := .cells #[.string (fromT s).name, .slice A3 n3 c3, .bool (fromT s).undo] 25) rfl)
  have HS3 := Lib.hid ((HS2.out.below hb3).alloc (.cells #[.string (fromT s).name, .slice A3 n3 c3, .bool (fromT s).undo] 25))
  have HT3 := Lib.hid (hs3.hat.alloc (.cells #[.string (fromT s).name, .slice A3 n3 c3, .bool (fromT s).undo] 25))
  have HB3' := Lib.hid (HB2.out.trans (hb3.mono HB2.out.size))
  have HB3 := Lib.hid (HB3'.out.alloc HB3'.out.size (.cells #[.string (fromT s).name, .slice A3 n3 c3, .bool (fromT s).undo] 25))
  have HF := Lib.hid (fun h : fromB s = true => from_ex h)
  clear hs3 hb3 HX2 HS2 HB2 HB3'
  generalize fromT s = t at *
  have x0 := (blk_cl (k := 0) HX3.out rfl).1
  have x1 := (blk_cl (k := 1) HX3.out rfl).1
  have x2 := (blk_cl (k := 2) HX3.out rfl).1
  have y0 := (blk_cl (k := 0) HY3.out rfl).1
  have y1 := (blk_cl (k := 1) HY3.out rfl).1
  have y2 := (blk_cl (k := 2) HY3.out rfl).1
  generalize fromB s = b at *
  have HSM := Lib.hid (fun (w' : World) (h : Below (w3.alloc (.cells #[.string t.name, .slice A3 n3 c3, .bool t.undo] 25)).heap.size (w3.alloc (.cells #[.string t.name, .slice A3 n3 c3, .bool t.undo] 25)) w') => sameStep_same A2 A3 n3 c2 c3 t _ _ w' (HS3.out.below h) (by omega) (HT3.out.below h))
  have HXY := Lib.hid (fun (w' : World) (h : Below (w3.alloc (.cells #[.string t.name, .slice A3 n3 c3, .bool t.undo] 25)).heap.size (w3.alloc (.cells #[.string t.name, .slice A3 n3 c3, .bool t.undo] 25)) w') => And.intro ((h.block _ (heap_lt HX3.out)).trans HX3.out) ((h.block _ (heap_lt HY3.out)).trans HY3.out))
  clear HX3 HY3
  have hbb : (b != b) = false := by simp
  have hbe : (b == b) = true := by simp
  cases b
  · go_wp2_with (go_at_call 14; refine (HSM.out _ (Below.refl _ _)).mono ?_; rintro e w5 ⟨rfl, hb5⟩; obtain ⟨hx5, hy5⟩ := HXY.out _ hb5; have x05 := (blk_cl (k := 0) hx5 rfl).1; have x15 := (blk_cl (k := 1) hx5 rfl).1; have x25 := (blk_cl (k := 2) hx5 rfl).1; have y05 := (blk_cl (k := 0) hy5 rfl).1; have y15 := (blk_cl (k := 1) hy5 rfl).1; have y25 := (blk_cl (k := 2) hy5 rfl).1)
    go_wp2_with (go_at_call 14; refine (HSM.out _ hb5).mono ?_; rintro e w6 ⟨rfl, hb6⟩)
    go_ret
    exact ⟨rfl, HB3.out.trans ((hb5.trans (hb6.mono hb5.size)).mono HB3.out.size)⟩
  · obtain ⟨hv, hst⟩ := HF.out rfl
    go_wp2_with (go_at_call 14; refine (HSM.out _ (Below.refl _ _)).mono ?_; rintro e w5 ⟨rfl, hb5⟩; obtain ⟨hx5, hy5⟩ := HXY.out _ hb5; have x05 := (blk_cl (k := 0) hx5 rfl).1; have x15 := (blk_cl (k := 1) hx5 rfl).1; have x25 := (blk_cl (k := 2) hx5 rfl).1)
    have hb51 := HB3.out.trans (hb5.mono HB3.out.size)
    have s1 : (s ++ ⟨#[44]⟩ : Str).size ≤ 101 := by rw [bsz_app]; show s.size + 1 ≤ 101; omega
    have s2 : (⟨#[32]⟩ ++ s : Str).size ≤ 101 := by rw [bsz_app]; show 1 + s.size ≤ 101; omega
    refine (stepFromI_any (s ++ (⟨#[44]⟩ : Str)) w5 (Nat.le_trans s1 (by decide)) (HM.out.below hb51 rfl)).mono ?_
    rintro e w6 ⟨A6, n6, c6, rfl, _, _, hb6⟩
    rw [from_comma]
    have hb61 := (hb51.trans (hb6.mono hb51.size)).alloc (hb51.trans (hb6.mono hb51.size)).size (.cells #[.string (fromT (s ++ ⟨#[44]⟩)).name, .slice A6 n6 c6, .bool (fromT (s ++ ⟨#[44]⟩)).undo] 25)
    clear x05 x15 x25
    go_wp2_with fail
    refine (stepFromI_any ((⟨#[32]⟩ : Str) ++ s) _ (Nat.le_trans s2 (by decide)) (HM.out.below hb61 rfl)).mono ?_
    rintro e w7 ⟨A7, n7, c7, rfl, _, _, hb7⟩
    rw [from_space]
    go_wp2_with fail
    go_ret
    exact ⟨rfl, (hb61.trans (hb7.mono hb61.size)).alloc (hb61.trans (hb7.mono hb61.size)).size _⟩
end Go.Proofs.YthdfefgianokgaaDoor

/- FnStepFromNot's card: it returns true at every input that its row takes, and leaves its arguments as they were. No condition but the row's. -/
namespace Go.Proofs.YthdfefgianokgaaDoor
open Go.ChangeShapes Go.WideShapes Go.ChangeAt Go.RowKit

set_option maxRecDepth 100000 in
theorem fnStepFromNot_lifted (os : Os) (started : os.Started) (H : Type) (enc : TypeId × Value → H) :
    ReturnsInHanded {} Tryd.checked os 6 .any (fun w args => (Rows.fnStepFromNotSpec.pre enc Tryd.prog Tryd.f6 Rows.fnStepFromNotRow.domain false w args ∧ laidMetH Tryd.prog Rows.fnStepFromNotRow.laid w) ∧ sizedMet enc Tryd.prog Tryd.f6 (OpenSpec.ofChange Rows.fnStepFromNotSpec) false w args)
      (Rows.fnStepFromNotSpec.post enc Tryd.prog Tryd.f6 false true false false) := by
  refine handed_laid (C := Tryd.checked) (X := fun w _ => laidMetH Tryd.prog Rows.fnStepFromNotRow.laid w) (fun _ _ _ hh h => h.of_heap hh) Tryd.own started (by kernel_rfl) Tryd.func6
    (ChangeSpec.witness_shaped (enc := enc) (C := Tryd.checked) (os := os) (X := fun w _ => laidMetH Tryd.prog Rows.fnStepFromNotRow.laid w) false (World.laidAll Tryd.prog os Rows.fnStepFromNotRow.laid) #[.slice none 0 0] 8 (World.laidAll_os _ _ _)
      (World.shaped_of_ZipB (by kernel_rfl) (by kernel_rfl)) (by kernel_rfl) (by kernel_rfl) (by kernel_rfl)
      (by rw [MakeChecks.laidMetH_plain _ _ _ (by kernel_rfl)]; exact laidMet_laidAll _ (by kernel_rfl) (by kernel_rfl))) ?_
  intro W base args ds gs before hval0 hW hsh hL
  have hval : ∀ (j : Nat) t v, Tryd.f6.params[j]? = some t → args[j]? = some v → Value.okWide Tryd.prog W .any base t v := hval0
  have hW' := hW
  obtain ⟨p, q, hA0, hV, rfl, hfz, hnd⟩ := hW
  have hA : DataW.TrodAll enc Tryd.prog W 0 (fun _ => true) true Tryd.f6.params.toList args.toList ds p := hA0
  rw [Tryd.params6] at hA hval
  obtain ⟨v0, d0, rfl, rfl, h0⟩ := trodAll_one hA
  obtain ⟨rfl, rfl⟩ := trodVars_none hV
  have h0k := h0
  obtain ⟨a0, len, cap, rfl⟩ := okWide_slice Tryd.underlying22 (hval 0 22 v0 rfl rfl)
  obtain ⟨fuel, hf⟩ := h0
  clear hA0 hval0 hA
  simp only [List.append_nil] at hW' hfz
  have hlt : ∀ x ∈ p, x.block < W.heap.size := fun x hx => by simpa using hW'.lt x hx
  obtain ⟨hr, hc, _⟩ := open_code hf
  refine (fnStepFromNot_any a0 len cap W hr hc (Tryd.laysM145.s1_3 W hsh)).mono fun e W' ⟨he, hb⟩ => ?_
  subst he
  exact ⟨_, rfl, post_law hW' rfl (by kernel_rfl) Tryd.underlying4 rfl rfl rfl (trodAll_mk1 (Below.trod Tryd.laidOut (by kernel_rfl) (of_decide_eq_true (by kernel_rfl)) h0k hb hlt)) hb⟩

theorem fnStepFromNot_row : Rows.FnStepFromNotSaid :=
  OpenClaim.holds_of_wide 6 Tryd.f6 rfl rfl rfl rfl rfl rfl rfl ⟨rfl, rfl, rfl, rfl, rfl⟩ rfl rfl rfl rfl rfl (by kernel_rfl) Tryd.func6 (by kernel_rfl)
    (of_decide_eq_true (by kernel_rfl)) (by unfold Func.isWrapper; rw [if_neg (by decide +kernel)]; exact ⟨rfl, rfl⟩)
    (fun os started H enc _ => fnStepFromNot_lifted os started H enc)

theorem fnStepFromNot_holds : Rows.FnStepFromNotCardSaid :=
  Claim7.holds_tied_plain_at .later [] Rows.fnStepFromNotCard.laidKinds true Rows.fnStepFromNotCard.stood.harness false fnStepFromNot_row (fun _ h => by cases h) (by kernel_rfl) (fun _ h => by cases h) fnStepFromNot_row_tie rfl ⟨rfl, rfl⟩ (by kernel_rfl) rfl
    (fun f fn hf hfn => by
      obtain rfl : f = 6 := Option.some.inj ((show Tryd.prog.funcNamed "loop.example/sagaflows/laws.FnStepFromNot" = some 6 by kernel_rfl).symm.trans hf) |>.symm
      obtain rfl : fn = Tryd.f6 := (Option.some.inj (Tryd.func6.symm.trans hfn)).symm
      exact ⟨by kernel_rfl, fun j t ht => by
        rw [Tryd.params6] at ht
        have hm : t ∈ [22] := by simpa using Array.mem_of_getElem? ht
        have hall : ([22].all fun u => !Tryd.prog.wantsStandIn u) = true := by kernel_rfl
        exact (show Tryd.prog.wantsStandIn t = false by simpa using List.all_eq_true.1 hall t hm)⟩)
    (by kernel_rfl)
end Go.Proofs.YthdfefgianokgaaDoor
