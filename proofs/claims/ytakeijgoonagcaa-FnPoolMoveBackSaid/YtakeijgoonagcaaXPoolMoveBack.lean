/- FnPoolMoveBack returns true at every input, and leaves its arguments as they were. No condition. -/
import Derived.Test.YtakeijgoonagcaaZL
import Derived.Test.YtakeijgoonagcaaZM
import Derived.Test.YtakeijgoonagcaaZF
import Derived.Test.YtakeijgoonagcaaZC

/- FnPoolMoveBack: the walk. -/
namespace Go.Proofs.Ytakeijgoonagcaa
open Go.RowKit

set_option maxRecDepth 100000 in
set_option maxHeartbeats 4000000 in
theorem fnPoolMoveBack_any (A : Option Addr) (n c : Nat) (w : World) (hr : RByte w A n) (hc : n ≤ c) :
    Calls Try.prog 5 #[.slice A n c] w fun e w' => e = .returned (.bool true) ∧ Below w.heap.size w w' := by
  have HR := Lib.hid hr; clear hr
  by_cases hn : 1048576 < n
  · go_enter Try.func5, Try.ntmps5
    go_wp2_with fail
    go_ret
    exact ⟨rfl, Below.refl _ _⟩
  go_enter Try.func5, Try.ntmps5
  go_wp2_with fail
  refine (drawPoolMove_any _ _ _ _ HR.out hc (by omega)).mono ?_
  rintro e w1 ⟨f, g, A1, n1, c1, G1, ng, cg, B1, m1, d1, cs, rfl, hs, hok, hsg, hokg, h6, h8, hcs, hokc, hmd, hm9, hb1⟩
  have HOK := Lib.hid hok; clear hok
  have HOKG := Lib.hid hokg; clear hokg
  have HOC := Lib.hid hokc; clear hokc
  have HL := Lib.hid hcs.1
  have HS1 := Lib.hid ((hs.alloc (.cells #[.int .i64 f.ver, .slice A1 n1 c1] 34)).alloc (.cells #[.int .i64 g.ver, .slice G1 ng cg] 34)); clear hs
  have HG1 := Lib.hid ((hsg.alloc (.cells #[.int .i64 f.ver, .slice A1 n1 c1] 34)).alloc (.cells #[.int .i64 g.ver, .slice G1 ng cg] 34)); clear hsg
  have HC1 := Lib.hid ((hcs.alloc (.cells #[.int .i64 f.ver, .slice A1 n1 c1] 34)).alloc (.cells #[.int .i64 g.ver, .slice G1 ng cg] 34)); clear hcs
  have HB1 := Lib.hid ((hb1.alloc hb1.size (.cells #[.int .i64 f.ver, .slice A1 n1 c1] 34)).alloc (hb1.alloc hb1.size (.cells #[.int .i64 f.ver, .slice A1 n1 c1] 34)).size (.cells #[.int .i64 g.ver, .slice G1 ng cg] 34)); clear hb1
  have HX1 := Lib.hid (heap_old (o := .cells #[.int .i64 g.ver, .slice G1 ng cg] 34) (heap_new (w := w1) (o := .cells #[.int .i64 f.ver, .slice A1 n1 c1] 34) rfl))
  have HY1 := Lib.hid (heap_new (w := w1.alloc (.cells #[.int .i64 f.ver, .slice A1 n1 c1] 34)) (b := w1.heap.size + 1) (o := .cells #[.int .i64 g.ver, .slice G1 ng cg] 34) (by simp))
  go_wp2_with fail
  refine (pmI_any _ _ _ _ _ _ _ _ _ f g cs _ _ _ _ HS1.out HOK.out HG1.out HOKG.out HC1.out HOC.out).mono ?_
  rintro e w2 ⟨B2, m2, d2, C2, k2, e2, rfl, hx2, hmd2, hy2, hb2⟩
  have HX2 := Lib.hid ((hb2.block _ (heap_lt HX1.out)).trans HX1.out)
  have HY2 := Lib.hid ((hb2.block _ (heap_lt HY1.out)).trans HY1.out)
  have HS2 := Lib.hid (HS1.out.below hb2)
  have HG2 := Lib.hid (HG1.out.below hb2)
  have HC2 := Lib.hid (HC1.out.below hb2)
  have HB2 := Lib.hid (HB1.out.trans (hb2.mono HB1.out.size))
  have HO2 := Lib.hid hx2; clear hx2
  have HN2 := Lib.hid hy2; clear hy2 hb2
  have x0 := (blk_cl (k := 0) HX2.out rfl).1
  have x1 := (blk_cl (k := 1) HX2.out rfl).1
  have y0 := (blk_cl (k := 0) HY2.out rfl).1
  have y1 := (blk_cl (k := 1) HY2.out rfl).1
  go_wp2_with fail
  refine (pmS_any _ _ _ _ _ _ _ _ _ f g cs _ _ _ _ HS2.out HOK.out HG2.out HOKG.out HC2.out HOC.out).mono ?_
  rintro e w3 ⟨B3, m3, d3, C3, k3, e3, rfl, hx3, hmd3, hy3, hb3⟩
  obtain rfl : m3 = m2 := by rw [← hx3.1, ← HO2.out.1]
  obtain rfl : k3 = k2 := by rw [← hy3.1, ← HN2.out.1]
  have HX3 := Lib.hid ((hb3.block _ (heap_lt HX2.out)).trans HX2.out)
  have HY3 := Lib.hid ((hb3.block _ (heap_lt HY2.out)).trans HY2.out)
  have HS3 := Lib.hid (HS2.out.below hb3)
  have HG3 := Lib.hid (HG2.out.below hb3)
  have HC3 := Lib.hid (HC2.out.below hb3)
  have HO3 := Lib.hid (HO2.out.below hb3)
  have HN3 := Lib.hid (HN2.out.below hb3)
  have HB3 := Lib.hid (HB2.out.trans (hb3.mono HB2.out.size))
  have hk9 : k3 ≤ 8 := by
    have h1 := HN3.out.1
    have h2 := (pmL_small (f := f) (g := g) (cs := cs)).2.2
    omega
  have hm39 : m3 ≤ 8 := by
    have h1 := HO3.out.1
    have h2 := (pmL_small (f := f) (g := g) (cs := cs)).1
    omega
  have HT := Lib.hid (fun (w' : World) (h : Below w3.heap.size w3 w') => sameTexts_any C2 C3 k3 e2 k3 e3 (pmN f g cs) (pmN f g cs) _ _ w' (HN3.out.below h) (by omega) (hy3.below h) (by omega))
  have HP := Lib.hid (fun (w' : World) (h : Below w3.heap.size w3 w') => samePool_same B2 B3 m3 d2 d3 (pmL f g cs) _ _ w' (HO3.out.below h) (pmL_ok HOC.out) (hx3.below h))
  rw [eqB_same] at HT
  clear hx3 hy3 hb3 x0 x1 y0 y1 HX1 HX2 HY1 HY2 HS1 HS2 HG1 HG2 HC1 HC2 HO2 HN2
  have hzz : (pmB f g cs != pmB f g cs) = false := by simp
  have hze : (pmB f g cs == pmB f g cs) = true := by simp
  cases hp : pmB f g cs
  · clear hp
    go_wp2_with fail
    refine (HT.out w3 (Below.refl _ _)).mono ?_
    rintro e w4 ⟨rfl, q4, rfl⟩
    have hb4 := below_drewN (Below.refl w3.heap.size w3) q4
    generalize w3.drewN q4 = w4 at *
    go_wp2_with fail
    refine (HP.out w4 hb4).mono ?_
    rintro e w5 ⟨rfl, hb5⟩
    have hb5' := hb4.trans (hb5.mono hb4.size)
    go_wp2_with fail
    refine (HT.out w5 hb5').mono ?_
    rintro e w6 ⟨rfl, q6, rfl⟩
    have hb6 := below_drewN hb5' q6
    generalize w5.drewN q6 = w6 at *
    go_wp2_with fail
    refine (HP.out w6 hb6).mono ?_
    rintro e w7 ⟨rfl, hb7⟩
    go_wp2_with fail
    go_ret
    exact ⟨rfl, (HB3.out.trans (hb6.mono HB3.out.size)).trans (hb7.mono (Nat.le_trans HB3.out.size hb6.size))⟩
  have HPM := Lib.hid hp
  have HV := Lib.hid (pmL_yes hp)
  have HG := Lib.hid (pmN_yes hp)
  clear hp
  go_wp2_with fail
  refine (HT.out w3 (Below.refl _ _)).mono ?_
  rintro e w4 ⟨rfl, q4, rfl⟩
  have hb4 := below_drewN (Below.refl w3.heap.size w3) q4
  generalize w3.drewN q4 = w4 at *
  go_wp2_with fail
  refine (HP.out w4 hb4).mono ?_
  rintro e w5 ⟨rfl, hb5⟩
  have hb5' := hb4.trans (hb5.mono hb4.size)
  have HX5 := Lib.hid ((hb5'.block _ (heap_lt HX3.out)).trans HX3.out)
  have HY5 := Lib.hid ((hb5'.block _ (heap_lt HY3.out)).trans HY3.out)
  have HS5 := Lib.hid (HS3.out.below hb5')
  have HG5 := Lib.hid (HG3.out.below hb5')
  have HC5 := Lib.hid (HC3.out.below hb5')
  have HO5 := Lib.hid (HO3.out.below hb5')
  have HN5 := Lib.hid (HN3.out.below hb5')
  have HB5 := Lib.hid (HB3.out.trans (hb5'.mono HB3.out.size))
  have HOS := Lib.hid (pmL_ok (f := f) (g := g) HOC.out)
  rw [HV.out] at HO5 HOS
  rw [HG.out] at HN5
  clear hb4 hb5 hb5' hzz hze HT HP HX3 HY3 HB3 HS3 HG3 HC3 HO3 HN3
  have x0 := (blk_cl (k := 0) HX5.out rfl).1
  have x1 := (blk_cl (k := 1) HX5.out rfl).1
  have y0 := (blk_cl (k := 0) HY5.out rfl).1
  have y1 := (blk_cl (k := 1) HY5.out rfl).1
  obtain ⟨hbk1, hbk2, hbk3⟩ := pm_back HPM.out
  have HK1 := Lib.hid hbk1; clear hbk1
  have HK2 := Lib.hid hbk2; clear hbk2
  have HK3 := Lib.hid hbk3; clear hbk3
  go_wp2_with fail
  refine (pmI_any _ _ _ _ _ _ _ _ _ g f (mvL f g cs) _ _ _ _ HG5.out HOKG.out HS5.out HOK.out HO5.out HOS.out).mono ?_
  rintro e w6 ⟨B6, m6, d6, C6, k6, e6, rfl, hx6, hmd6, hy6, hb6⟩
  rw [pm_again HPM.out]
  have HB6 := Lib.hid (HB5.out.trans (hb6.mono HB5.out.size))
  have HC6 := Lib.hid (HC5.out.below hb6)
  obtain rfl : m6 = m3 := by rw [← hx6.1, HK1.out, HO5.out.1]
  have hk6 : k6 = 0 := by rw [← hy6.1, HK2.out]; rfl
  subst hk6
  have HX6 := Lib.hid hx6; clear hx6 hy6 hb6 x0 x1 y0 y1 HX5 HY5 HS5 HG5 HC5 HN5
  have HLM := Lib.hid HO5.out.1
  clear HO5
  generalize hxs : pmL g f (mvL f g cs) = xs at *
  go_wp2_with fail
  go_loopw [15] (fun i wr => ∃ j : Nat, j ≤ m6 ∧ i = .int .i64 (j : Int) ∧ Below w6.heap.size w6 wr) (fun i _ => m6 - (intOf i).toNat)
  case atStart => exact ⟨0, Nat.zero_le _, rfl, Below.refl _ _⟩
  case round =>
    obtain ⟨wo, rfl⟩ : ∃ wo : World, wo = wr := ⟨_, rfl⟩
    obtain ⟨j, hj, rfl, hbw⟩ := hrel
    have HBW := Lib.hid hbw; clear hbw
    by_cases hlt : j < m6
    · obtain ⟨b, off, rfl, ⟨_, hbl⟩, hcc⟩ := RCase.at_ (HX6.out.below HBW.out) hlt
      obtain ⟨A', n', c', ⟨y1, y2, y3⟩, hdr, hnc, _⟩ := hcc j hlt
      clear hcc
      obtain ⟨i, hi, hidx, hat⟩ := HK3.out j (by rw [HLM.out]; exact hlt)
      have him : i < m1 := by rw [← HL.out]; exact hi
      have HCO := Lib.hid (caseOf_any B1 m1 d1 cs (nth xs j).name _ wo (HC6.out.below HBW.out) (by omega))
      obtain ⟨b2, off2, hA2, ⟨_, hbl2⟩, hcc⟩ := RCase.at_ (HC6.out.below HBW.out) him
      subst hA2
      obtain ⟨A'', n'', c'', ⟨z1, z2, z3⟩, hdr2, _, _⟩ := hcc i him
      clear hcc
      have hn' : n'' ≤ 1048576 := by rw [← hdr2.1]; exact (HOC.out.2 i hi).2
      rw [hat] at z1 z2 hdr2
      obtain rfl : n'' = n' := by rw [← hdr2.1, ← hdr.1]
      have HSC := Lib.hid (fun y : Bl wo => sameCase_same A'' A' n'' c'' c' (nth xs j) _ _ y.wd (hdr2.below y.below) hn' (hdr.below y.below))
      have Y1 : ∀ y : Bl wo, y.wd.cell? ⟨b, off + j * 3, none⟩ = some (.string (nth xs j).name) := fun y => (y.below.cell (p := ⟨b, off + j * 3, none⟩) hbl).trans y1
      have Y2 : ∀ y : Bl wo, y.wd.cell? ⟨b, off + j * 3 + 1, none⟩ = some (.int .i64 (nth xs j).st) := fun y => (y.below.cell (p := ⟨b, off + j * 3 + 1, none⟩) hbl).trans y2
      have Y3 : ∀ y : Bl wo, y.wd.cell? ⟨b, off + j * 3 + 2, none⟩ = some (.slice A' n'' c') := fun y => (y.below.cell (p := ⟨b, off + j * 3 + 2, none⟩) hbl).trans y3
      have Z1 : ∀ y : Bl wo, y.wd.cell? ⟨b2, off2 + i * 3, none⟩ = some (.string (nth xs j).name) := fun y => (y.below.cell (p := ⟨b2, off2 + i * 3, none⟩) hbl2).trans z1
      have Z2 : ∀ y : Bl wo, y.wd.cell? ⟨b2, off2 + i * 3 + 1, none⟩ = some (.int .i64 (nth xs j).st) := fun y => (y.below.cell (p := ⟨b2, off2 + i * 3 + 1, none⟩) hbl2).trans z2
      have Z3 : ∀ y : Bl wo, y.wd.cell? ⟨b2, off2 + i * 3 + 2, none⟩ = some (.slice A'' n'' c'') := fun y => (y.below.cell (p := ⟨b2, off2 + i * 3 + 2, none⟩) hbl2).trans z3
      have hj0 : (0 : Int) ≤ (j : Int) := by omega
      have hj1 : (j : Int) < (m6 : Int) := by omega
      have hj2 : ¬ ((j : Int) < 0) := by omega
      have hi0 : (0 : Int) ≤ (i : Int) := by omega
      have hi1 : (i : Int) < (m1 : Int) := by omega
      have hi2 : ¬ ((i : Int) < 0) := by omega
      have hi3 : decide ((i : Int) < 0) = false := by rw [decide_eq_false_iff_not]; omega
      rw [hidx] at HCO
      clear y2 y3 z1 z2 z3 hdr hdr2 hat hidx hxs
      generalize nth xs j = cx at *
      go_wp2_with (first | (go_at_call 32; refine HCO.out.mono ?_; rintro e w' ⟨rfl, hw'⟩; subst hw'))
      refine region_bl (by kernel_rfl) (by kernel_rfl) ?_
      repeat (go_big_quiet_step ((go_at_call 36; exact q_bl (HSC.out _))))
      refine wpQuiet_nil ?_
      intro _ hw'
      obtain ⟨y, rfl⟩ := hw'
      have HY := Lib.hid (HBW.out.trans (y.below.mono HBW.out.size))
      clear Y1 Y2 Y3 Z1 Z2 Z3 HSC
      go_wp2_with fail
      go_roundw
      case rel => exact ⟨j + 1, by omega, by go_num, HY.out⟩
      case measure => simp [intOf]; omega
    · have hq : ((m6 : Int) == (m6 : Int)) = true := by simp
      go_wp2_with fail
      go_ret
      exact ⟨rfl, HB6.out.trans (HBW.out.mono HB6.out.size)⟩
end Go.Proofs.Ytakeijgoonagcaa

/- FnPoolMoveBack returns true at every input, and leaves its arguments as they were. No condition. -/
namespace Go.Proofs.Ytakeijgoonagcaa
open Go.ChangeShapes Go.WideShapes Go.ChangeAt Go.RowKit

set_option maxRecDepth 100000 in
theorem fnPoolMoveBack_lifted (os : Os) (started : os.Started) (H : Type) (enc : TypeId × Value → H) :
    ReturnsInHanded {} Try.checked os 5 .any (Rows.fnPoolMoveBackSpec.pre6 enc Try.prog Try.f5 Rows.fnPoolMoveBackRow.domain false) (Rows.fnPoolMoveBackSpec.post enc Try.prog Try.f5 false true false false) := by
  refine returnsInHanded_of_change (C := Try.checked) Try.own started (by kernel_rfl) Try.func5
    (ChangeSpec.witness6 (enc := enc) (C := Try.checked) false ⟨#[], #[.slice none 0 0], []⟩ 8 (by kernel_rfl) (by kernel_rfl) (by kernel_rfl) (by kernel_rfl)) ?_
  intro W base args ds gs before hval0 hW hcnd _
  have hval : ∀ (j : Nat) t v, Try.f5.params[j]? = some t → args[j]? = some v → Value.okWide Try.prog W .any base t v := hval0
  have hW' := hW
  obtain ⟨p, q, hA0, hV, rfl, hfz, hnd⟩ := hW
  have hA : DataW.TrodAll enc Try.prog W 0 (fun _ => true) true Try.f5.params.toList args.toList ds p := hA0
  rw [Try.params5] at hA hval
  obtain ⟨v0, d0, rfl, rfl, h0⟩ := trodAll_one hA
  obtain ⟨rfl, rfl⟩ := trodVars_none hV
  have h0k := h0
  obtain ⟨a0, len, cap, rfl⟩ := okWide_slice Try.underlying44 (hval 0 44 v0 rfl rfl)
  obtain ⟨fuel, hf⟩ := h0
  clear hA0 hval0 hA
  simp only [List.append_nil] at hW' hfz
  have hlt : ∀ x ∈ p, x.block < W.heap.size := fun x hx => by simpa using hW'.lt x hx
  obtain ⟨hr, hc, _⟩ := open_code hf
  refine (fnPoolMoveBack_any a0 len cap W hr hc).mono fun e W' ⟨he, hb⟩ => ?_
  subst he
  exact ⟨_, rfl, post_law hW' rfl (by kernel_rfl) Try.underlying4 rfl rfl rfl (trodAll_mk1 (Below.trod Try.laidOut (by kernel_rfl) (of_decide_eq_true (by kernel_rfl)) h0k hb hlt)) hb⟩

theorem fnPoolMoveBack_holds : Rows.FnPoolMoveBackSaid :=
  OpenClaim.holds_of_wide 5 Try.f5 rfl rfl rfl rfl rfl rfl rfl ⟨rfl, rfl, rfl, rfl, rfl⟩ rfl rfl rfl rfl rfl (by kernel_rfl) Try.func5 (by kernel_rfl)
    (of_decide_eq_true (by kernel_rfl)) (by unfold Func.isWrapper; rw [if_neg (by decide +kernel)]; exact ⟨rfl, rfl⟩)
    (fun os started H enc _ => fnPoolMoveBack_lifted os started H enc)
end Go.Proofs.Ytakeijgoonagcaa
