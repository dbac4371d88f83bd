/- FnSteps returns true at every input, and leaves its arguments as they were. No condition. -/
import Derived.Test.YtfcbpgpmafmkhaaZE
import Derived.Test.YtfcbpgpmafmkhaaZC

/- FnSteps: the walk. -/
namespace Go.Proofs.Ytfcbpgpmafmkhaa
open Go.RowKit

set_option maxRecDepth 100000 in
set_option maxHeartbeats 1000000 in
theorem fnSteps_any (A : Option Addr) (n c : Nat) (w : World) (hr : RByte w A n) (hc : n ≤ c) :
    Calls Try.prog 8 #[.slice A n c] w fun e w' => e = .returned (.bool true) ∧ Below w.heap.size w w' := by
  have HR := Lib.hid hr; clear hr
  by_cases hn : 1048576 < n
  · go_enter Try.func8, Try.ntmps8
    go_wp2_with fail
    go_ret
    exact ⟨rfl, Below.refl _ _⟩
  go_enter Try.func8, Try.ntmps8
  go_wp2_with fail
  refine (drawReportSteps_any _ _ _ _ HR.out hc (by omega)).mono ?_
  rintro e w1 ⟨f, A1, n1, c1, B1, m1, d1, cs, rfl, hs, hok, h1, h6, hcs, hokc, hmd, hm9, hb1⟩
  have HOK := Lib.hid hok; clear hok
  have HOC := Lib.hid hokc; clear hokc
  have HL := Lib.hid hcs.1
  have HS1 := Lib.hid (hs.alloc (.cells #[.int .i64 f.ver, .slice A1 n1 c1] 29)); clear hs
  have HC1 := Lib.hid (hcs.alloc (.cells #[.int .i64 f.ver, .slice A1 n1 c1] 29)); clear hcs
  have HB1 := Lib.hid (hb1.alloc hb1.size (.cells #[.int .i64 f.ver, .slice A1 n1 c1] 29)); clear hb1
  have HX1 := Lib.hid (heap_new (w := w1) (o := .cells #[.int .i64 f.ver, .slice A1 n1 c1] 29) rfl)
  go_wp2_with fail
  refine (stepsI_any _ _ _ _ _ _ f cs _ _ _ HS1.out HOK.out HC1.out HOC.out).mono ?_
  rintro e w2 ⟨A2, n2, c2, rfl, h2, hb2⟩
  have HX2 := Lib.hid ((hb2.block _ (heap_lt HX1.out)).trans HX1.out)
  have HB2 := Lib.hid (HB1.out.trans (hb2.mono HB1.out.size))
  have HS2 := Lib.hid (HS1.out.below hb2)
  have HC2 := Lib.hid (HC1.out.below hb2)
  have H2 := Lib.hid h2; clear h2 hb2
  have x0 := (blk_cl (k := 0) HX2.out rfl).1
  have x1 := (blk_cl (k := 1) HX2.out rfl).1
  go_wp2_with fail
  refine (stepsS_any _ _ _ _ _ _ f cs _ _ _ HS2.out HOK.out HC2.out HOC.out).mono ?_
  rintro e w3 ⟨A3, n3, c3, rfl, h3, hb3⟩
  have HX3 := Lib.hid ((hb3.block _ (heap_lt HX2.out)).trans HX2.out)
  have HB3 := Lib.hid (HB2.out.trans (hb3.mono HB2.out.size))
  have HS3 := Lib.hid (HS2.out.below hb3)
  have HC3 := Lib.hid (HC2.out.below hb3)
  have H23 := Lib.hid (H2.out.below hb3)
  have H3 := Lib.hid h3; clear h3 hb3
  obtain rfl : n3 = n2 := by rw [← H23.out.1, ← H3.out.1]
  have HLn := Lib.hid HS1.out.1
  have hn3 : n3 ≤ 6 := by
    rw [← H3.out.1]
    unfold stpL
    split
    · rw [tallyL_len, namesOf_len, HLn.out]; exact h6
    · exact Nat.zero_le _
  clear x0 x1 HX1 HX2 HS1 HS2 HC1 HC2
  have HSAME := Lib.hid (fun (w' : World) (h : Below w3.heap.size w3 w') => sameInts_same A2 A3 n3 c2 c3 (stpL f cs) _ _ w' (H23.out.below h) (by omega) (H3.out.below h))
  cases hp : poolB f cs
  · have h0 : n3 = 0 := by rw [← H3.out.1, stpL_no hp]; rfl
    subst h0
    clear hp
    go_wp2_with fail
    refine (HSAME.out w3 (Below.refl _ _)).mono ?_
    rintro e w4 ⟨rfl, q, rfl⟩
    go_wp2_with fail
    refine (HSAME.out _ (below_drewN (Below.refl _ _) q)).mono ?_
    rintro e w5 ⟨rfl, q2, rfl⟩
    go_wp2_with fail
    go_ret
    exact ⟨rfl, below_drewN HB3.out _⟩
  have h4 : n3 = n1 := by rw [← H3.out.1, stpL_yes hp, tallyL_len, namesOf_len, HLn.out]
  subst h4
  have HP := Lib.hid hp; clear hp
  have HE := Lib.hid (stpL_yes HP.out)
  have hn0 : ((n3 : Int) == 0) = false := by rw [beq_eq_false_iff_ne]; omega
  go_wp2_with fail
  refine (HSAME.out w3 (Below.refl _ _)).mono ?_
  rintro e w4 ⟨rfl, q, rfl⟩
  have hb4 := below_drewN (Below.refl w3.heap.size w3) q
  generalize w3.drewN q = w4 at *
  have HX4 := Lib.hid ((hb4.block _ (heap_lt HX3.out)).trans HX3.out)
  have HB4 := Lib.hid (HB3.out.trans (hb4.mono HB3.out.size))
  have HS4 := Lib.hid (HS3.out.below hb4)
  have HC4 := Lib.hid (HC3.out.below hb4)
  have H24 := Lib.hid (H23.out.below hb4)
  rw [HE.out] at H24
  clear hb4 HSAME HX3 HB3 HS3 HC3 H23 H3
  have HD6 := Lib.hid (fun c (hc : c ∈ cs) => (show c.done.length ≤ 6 by
    obtain ⟨j, hj, rfl⟩ := nth_of_mem hc
    have := (run_nodup (pool_run HP.out hj)).2.2
    rw [HLn.out] at this
    omega))
  go_wp2_with fail
  go_loopw [7, 8] (fun s i wr => ∃ k : Nat, k ≤ m1 ∧ i = .int .i64 (k : Int) ∧ s = .int .i64 ((sumD (cs.take k) : Nat) : Int) ∧ wr = w4) (fun _ i _ => m1 - (intOf i).toNat)
  case atStart => exact ⟨0, Nat.zero_le _, rfl, rfl, rfl⟩
  case round =>
    obtain ⟨k, hk, rfl, rfl, rfl⟩ := hrel
    by_cases hlt : k < m1
    · obtain ⟨b, off, rfl, _, hcc⟩ := RCase.at_ HC4.out hlt
      obtain ⟨A', n', c', ⟨y1, y2, y3⟩, hdr, _⟩ := hcc k hlt
      clear hcc
      have hkl : k < cs.length := by rw [HL.out]; exact hlt
      have HT := Lib.hid (sumD_next hkl)
      have h6' := HD6.out _ (mem_nth hkl)
      have hb1 := sumD_le (k := k) HD6.out
      have hb2 : k * 6 ≤ 9 * 6 := Nat.mul_le_mul_right _ (by omega)
      rw [hdr.1] at HT h6'
      clear hdr y1 y2
      have HT2 := HT.out
      generalize sumD (cs.take k) = v at *
      have hv : v ≤ 54 := by omega
      clear hb1 hb2
      go_wp2_with fail
      go_roundw
      case rel => exact ⟨k + 1, by omega, by go_num, by rw [HT2]; simp, trivial⟩
      case measure => simp [intOf]; omega
    · have hkm : k = cs.length := by rw [HL.out]; omega
      have hb1 := sumD_le (k := k) HD6.out
      have hb2 : k * 6 ≤ 9 * 6 := Nat.mul_le_mul_right _ (by omega)
      rw [hkm, List.take_length] at hb1
      have hdd : sumD (cs.take k) = sumD cs := by rw [hkm, List.take_length]
      rw [hdd]
      have hsd : sumD cs ≤ 54 := by omega
      clear hb1 hb2 hkm hdd
      have HSUM := Lib.hid (pool_sums HP.out)
      go_wp2_with fail
      go_loopw [7, 9] (fun s i wx => ∃ j : Nat, j ≤ n3 ∧ i = .int .i64 (j : Int) ∧ s = .int .i64 (((sumD cs - sumT ((namesOf f.steps).take j) cs : Nat)) : Int) ∧ wx = wr) (fun _ i _ => n3 - (intOf i).toNat)
      case atStart => exact ⟨0, Nat.zero_le _, rfl, by simp [sumT], rfl⟩
      case round =>
        obtain ⟨j, hj, rfl, rfl, rfl⟩ := hrel
        by_cases hlt2 : j < n3
        · have hjl : j < (namesOf f.steps).length := by rw [namesOf_len, HLn.out]; exact hlt2
          obtain ⟨b, off, rfl, _, hcc⟩ := RInt.at_ H24.out hlt2
          have y1 := (hcc j hlt2).1
          clear hcc
          rw [tallyL_at hjl] at y1
          have hle := stepN_le cs (nth (namesOf f.steps) j)
          rw [HL.out] at hle
          have HT := sumT_next (cs := cs) hjl
          have hm1' := sumT_mono (namesOf f.steps) cs (j + 1)
          rw [HSUM.out] at hm1'
          have HREL := Lib.hid (show (((sumD cs - sumT ((namesOf f.steps).take j) cs : Nat)) : Int) - ((stepN cs (nth (namesOf f.steps) j) : Nat) : Int) = ((sumD cs - sumT ((namesOf f.steps).take (j + 1)) cs : Nat) : Int) by omega)
          have hv : sumD cs - sumT ((namesOf f.steps).take j) cs ≤ 54 := by omega
          clear HT hm1'
          generalize stepN cs (nth (namesOf f.steps) j) = v at *
          have HR2 := HREL.out
          generalize sumD cs - sumT ((namesOf f.steps).take j) cs = u at *
          have hv0 : ¬ ((v : Int) < 0) := by omega
          have hvm : ¬ ((m1 : Int) < (v : Int)) := by omega
          go_wp2_with fail
          go_roundw
          case rel => exact ⟨j + 1, by omega, by go_num, rfl, trivial⟩
          case measure => simp [intOf]; omega
        · have hjn : j = (namesOf f.steps).length := by rw [namesOf_len, HLn.out]; omega
          have hz : sumD cs - sumT ((namesOf f.steps).take j) cs = 0 := by
            rw [hjn, List.take_length, HSUM.out]; omega
          rw [hz]
          clear hz hjn
          have x1 := (blk_cl (k := 1) HX4.out rfl).1
          go_wp2_with fail
          go_ret
          exact ⟨rfl, HB4.out⟩
end Go.Proofs.Ytfcbpgpmafmkhaa

/- FnSteps returns true at every input, and leaves its arguments as they were. No condition. -/
namespace Go.Proofs.Ytfcbpgpmafmkhaa
open Go.ChangeShapes Go.WideShapes Go.ChangeAt Go.RowKit

set_option maxRecDepth 100000 in
theorem fnSteps_lifted (os : Os) (started : os.Started) (H : Type) (enc : TypeId × Value → H) :
    ReturnsInHanded {} Try.checked os 8 .any (Rows.fnStepsSpec.pre6 enc Try.prog Try.f8 Rows.fnStepsRow.domain false) (Rows.fnStepsSpec.post enc Try.prog Try.f8 false true false false) := by
  refine returnsInHanded_of_change (C := Try.checked) Try.own started (by kernel_rfl) Try.func8
    (ChangeSpec.witness6 (enc := enc) (C := Try.checked) false ⟨#[], #[.slice none 0 0], []⟩ 8 (by kernel_rfl) (by kernel_rfl) (by kernel_rfl) (by kernel_rfl)) ?_
  intro W base args ds gs before hval0 hW hcnd _
  have hval : ∀ (j : Nat) t v, Try.f8.params[j]? = some t → args[j]? = some v → Value.okWide Try.prog W .any base t v := hval0
  have hW' := hW
  obtain ⟨p, q, hA0, hV, rfl, hfz, hnd⟩ := hW
  have hA : DataW.TrodAll enc Try.prog W 0 (fun _ => true) true Try.f8.params.toList args.toList ds p := hA0
  rw [Try.params8] at hA hval
  obtain ⟨v0, d0, rfl, rfl, h0⟩ := trodAll_one hA
  obtain ⟨rfl, rfl⟩ := trodVars_none hV
  have h0k := h0
  obtain ⟨a0, len, cap, rfl⟩ := okWide_slice Try.underlying33 (hval 0 33 v0 rfl rfl)
  obtain ⟨fuel, hf⟩ := h0
  clear hA0 hval0 hA
  simp only [List.append_nil] at hW' hfz
  have hlt : ∀ x ∈ p, x.block < W.heap.size := fun x hx => by simpa using hW'.lt x hx
  obtain ⟨hr, hc, _⟩ := open_code hf
  refine (fnSteps_any a0 len cap W hr hc).mono fun e W' ⟨he, hb⟩ => ?_
  subst he
  exact ⟨_, rfl, post_law hW' rfl (by kernel_rfl) Try.underlying4 rfl rfl rfl (trodAll_mk1 (Below.trod Try.laidOut (by kernel_rfl) (of_decide_eq_true (by kernel_rfl)) h0k hb hlt)) hb⟩

theorem fnSteps_holds : Rows.FnStepsSaid :=
  OpenClaim.holds_of_wide 8 Try.f8 rfl rfl rfl rfl rfl rfl rfl ⟨rfl, rfl, rfl, rfl, rfl⟩ rfl rfl rfl rfl rfl (by kernel_rfl) Try.func8 (by kernel_rfl)
    (of_decide_eq_true (by kernel_rfl)) (by unfold Func.isWrapper; rw [if_neg (by decide +kernel)]; exact ⟨rfl, rfl⟩)
    (fun os started H enc _ => fnSteps_lifted os started H enc)
end Go.Proofs.Ytfcbpgpmafmkhaa
