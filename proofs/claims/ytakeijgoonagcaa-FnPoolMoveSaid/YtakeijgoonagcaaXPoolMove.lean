/- FnPoolMove returns true at every input, and leaves its arguments as they were. No condition. -/
import Derived.Test.YtakeijgoonagcaaZL
import Derived.Test.YtakeijgoonagcaaZM
import Derived.Test.YtakeijgoonagcaaZF
import Derived.Test.YtakeijgoonagcaaZC

/- FnPoolMove: the walk. -/
namespace Go.Proofs.Ytakeijgoonagcaa
open Go.RowKit

set_option maxRecDepth 100000 in
set_option maxHeartbeats 4000000 in
theorem fnPoolMove_any (A : Option Addr) (n c : Nat) (w : World) (hr : RByte w A n) (hc : n ≤ c) :
    Calls Try.prog 4 #[.slice A n c] w fun e w' => e = .returned (.bool true) ∧ Below w.heap.size w w' := by
  have HR := Lib.hid hr; clear hr
  by_cases hn : 1048576 < n
  · go_enter Try.func4, Try.ntmps4
    go_wp2_with fail
    go_ret
    exact ⟨rfl, Below.refl _ _⟩
  go_enter Try.func4, Try.ntmps4
  go_wp2_with fail
  refine (drawPoolMove_any _ _ _ _ HR.out hc (by omega)).mono ?_
  rintro e w1 ⟨f, g, A1, n1, c1, G1, ng, cg, B1, m1, d1, cs, rfl, hs, hok, hsg, hokg, h6, h8, hcs, hokc, hmd, hm9, hb1⟩
  have HOK := Lib.hid hok; clear hok
  have HOKG := Lib.hid hokg; clear hokg
  have HOC := Lib.hid hokc; clear hokc
  have HL := Lib.hid hcs.1
  have HS1 := Lib.hid ((hs.alloc (.cells #[.int .i64 f.ver, .slice A1 n1 c1] 34)).alloc (.cells #[.int .i64 g.ver, .slice G1 ng cg] 34)); clear hs
  have HG1 := Lib.hid ((hsg.alloc (.cells #[.int .i64 f.ver, .slice A1 n1 c1] 34)).alloc (.cells #[.int .i64 g.ver, .slice G1 ng cg] 34)); clear hsg
  have HC1 := Lib.hid ((hcs.alloc (.cells #[.int .i64 f.ver, .slice A1 n1 c1] 34)).alloc (.cells #[.int .i64 g.ver, .slice G1 ng cg] 34)); clear hcs
  have HB1 := Lib.hid ((hb1.alloc hb1.size (.cells #[.int .i64 f.ver, .slice A1 n1 c1] 34)).alloc (hb1.alloc hb1.size (.cells #[.int .i64 f.ver, .slice A1 n1 c1] 34)).size (.cells #[.int .i64 g.ver, .slice G1 ng cg] 34)); clear hb1
  have HX1 := Lib.hid (heap_old (o := .cells #[.int .i64 g.ver, .slice G1 ng cg] 34) (heap_new (w := w1) (o := .cells #[.int .i64 f.ver, .slice A1 n1 c1] 34) rfl))
  have HY1 := Lib.hid (heap_new (w := w1.alloc (.cells #[.int .i64 f.ver, .slice A1 n1 c1] 34)) (b := w1.heap.size + 1) (o := .cells #[.int .i64 g.ver, .slice G1 ng cg] 34) (by simp))
  go_wp2_with fail
  refine (pmI_any _ _ _ _ _ _ _ _ _ f g cs _ _ _ _ HS1.out HOK.out HG1.out HOKG.out HC1.out HOC.out).mono ?_
  rintro e w2 ⟨B2, m2, d2, C2, k2, e2, rfl, hx2, hmd2, hy2, hb2⟩
  have HX2 := Lib.hid ((hb2.block _ (heap_lt HX1.out)).trans HX1.out)
  have HY2 := Lib.hid ((hb2.block _ (heap_lt HY1.out)).trans HY1.out)
  have HS2 := Lib.hid (HS1.out.below hb2)
  have HG2 := Lib.hid (HG1.out.below hb2)
  have HC2 := Lib.hid (HC1.out.below hb2)
  have HB2 := Lib.hid (HB1.out.trans (hb2.mono HB1.out.size))
  have HO2 := Lib.hid hx2; clear hx2
  have HN2 := Lib.hid hy2; clear hy2 hb2
  have x0 := (blk_cl (k := 0) HX2.out rfl).1
  have x1 := (blk_cl (k := 1) HX2.out rfl).1
  have y0 := (blk_cl (k := 0) HY2.out rfl).1
  have y1 := (blk_cl (k := 1) HY2.out rfl).1
  go_wp2_with fail
  refine (pmS_any _ _ _ _ _ _ _ _ _ f g cs _ _ _ _ HS2.out HOK.out HG2.out HOKG.out HC2.out HOC.out).mono ?_
  rintro e w3 ⟨B3, m3, d3, C3, k3, e3, rfl, hx3, hmd3, hy3, hb3⟩
  obtain rfl : m3 = m2 := by rw [← hx3.1, ← HO2.out.1]
  obtain rfl : k3 = k2 := by rw [← hy3.1, ← HN2.out.1]
  have HX3 := Lib.hid ((hb3.block _ (heap_lt HX2.out)).trans HX2.out)
  have HY3 := Lib.hid ((hb3.block _ (heap_lt HY2.out)).trans HY2.out)
  have HS3 := Lib.hid (HS2.out.below hb3)
  have HG3 := Lib.hid (HG2.out.below hb3)
  have HC3 := Lib.hid (HC2.out.below hb3)
  have HO3 := Lib.hid (HO2.out.below hb3)
  have HN3 := Lib.hid (HN2.out.below hb3)
  have HB3 := Lib.hid (HB2.out.trans (hb3.mono HB2.out.size))
  have hk9 : k3 ≤ 8 := by
    have h1 := HN3.out.1
    have h2 := (pmL_small (f := f) (g := g) (cs := cs)).2.2
    omega
  have hm39 : m3 ≤ 8 := by
    have h1 := HO3.out.1
    have h2 := (pmL_small (f := f) (g := g) (cs := cs)).1
    omega
  have HT := Lib.hid (fun (w' : World) (h : Below w3.heap.size w3 w') => sameTexts_any C2 C3 k3 e2 k3 e3 (pmN f g cs) (pmN f g cs) _ _ w' (HN3.out.below h) (by omega) (hy3.below h) (by omega))
  have HP := Lib.hid (fun (w' : World) (h : Below w3.heap.size w3 w') => samePool_same B2 B3 m3 d2 d3 (pmL f g cs) _ _ w' (HO3.out.below h) (pmL_ok HOC.out) (hx3.below h))
  rw [eqB_same] at HT
  clear hx3 hy3 hb3 x0 x1 y0 y1 HX1 HX2 HY1 HY2 HS1 HS2 HG1 HG2 HC1 HC2 HO2 HN2
  have hzz : (pmB f g cs != pmB f g cs) = false := by simp
  have hze : (pmB f g cs == pmB f g cs) = true := by simp
  cases hp : pmB f g cs
  · clear hp
    go_wp2_with fail
    refine (HT.out w3 (Below.refl _ _)).mono ?_
    rintro e w4 ⟨rfl, q4, rfl⟩
    have hb4 := below_drewN (Below.refl w3.heap.size w3) q4
    generalize w3.drewN q4 = w4 at *
    go_wp2_with fail
    refine (HP.out w4 hb4).mono ?_
    rintro e w5 ⟨rfl, hb5⟩
    have hb5' := hb4.trans (hb5.mono hb4.size)
    go_wp2_with fail
    refine (HT.out w5 hb5').mono ?_
    rintro e w6 ⟨rfl, q6, rfl⟩
    have hb6 := below_drewN hb5' q6
    generalize w5.drewN q6 = w6 at *
    go_wp2_with fail
    refine (HP.out w6 hb6).mono ?_
    rintro e w7 ⟨rfl, hb7⟩
    go_wp2_with fail
    go_ret
    exact ⟨rfl, (HB3.out.trans (hb6.mono HB3.out.size)).trans (hb7.mono (Nat.le_trans HB3.out.size hb6.size))⟩
  have HPM := Lib.hid hp
  have HV := Lib.hid (pmL_yes hp)
  have HG := Lib.hid (pmN_yes hp)
  clear hp
  go_wp2_with fail
  refine (HT.out w3 (Below.refl _ _)).mono ?_
  rintro e w4 ⟨rfl, q4, rfl⟩
  have hb4 := below_drewN (Below.refl w3.heap.size w3) q4
  generalize w3.drewN q4 = w4 at *
  go_wp2_with fail
  refine (HP.out w4 hb4).mono ?_
  rintro e w5 ⟨rfl, hb5⟩
  have hb5' := hb4.trans (hb5.mono hb4.size)
  have HX5 := Lib.hid ((hb5'.block _ (heap_lt HX3.out)).trans HX3.out)
  have HY5 := Lib.hid ((hb5'.block _ (heap_lt HY3.out)).trans HY3.out)
  have HS5 := Lib.hid (HS3.out.below hb5')
  have HG5 := Lib.hid (HG3.out.below hb5')
  have HC5 := Lib.hid (HC3.out.below hb5')
  have HO5 := Lib.hid (HO3.out.below hb5')
  have HN5 := Lib.hid (HN3.out.below hb5')
  have HB5 := Lib.hid (HB3.out.trans (hb5'.mono HB3.out.size))
  have HOS := Lib.hid (pmL_ok (f := f) (g := g) HOC.out)
  rw [HV.out] at HO5 HOS
  rw [HG.out] at HN5
  clear hb4 hb5 hb5' hzz hze HT HP HX3 HY3 HB3 HS3 HG3 HC3 HO3 HN3
  go_wp2_with fail
  go_loopw [12] (fun i wr => ∃ k : Nat, k ≤ m1 ∧ i = .int .i64 (k : Int) ∧ Below w5.heap.size w5 wr) (fun i _ => m1 - (intOf i).toNat)
  case atStart => exact ⟨0, Nat.zero_le _, rfl, Below.refl _ _⟩
  case round =>
    obtain ⟨wo, rfl⟩ : ∃ wo : World, wo = wr := ⟨_, rfl⟩
    obtain ⟨k, hk, rfl, hbw⟩ := hrel
    have HBW := Lib.hid hbw; clear hbw
    by_cases hlt : k < m1
    · obtain ⟨b, off, rfl, ⟨_, hbl⟩, hcc⟩ := RCase.at_ (HC5.out.below HBW.out) hlt
      obtain ⟨A', n', c', ⟨d1', d2', d3'⟩, hdr, hnc, _⟩ := hcc k hlt
      clear hcc
      have hkl : k < cs.length := by rw [HL.out]; exact hlt
      have hn' : n' ≤ 1048576 := by rw [← hdr.1]; exact (HOC.out.2 k hkl).2
      have HDR := Lib.hid hdr; clear hdr
      have hk0 : (0 : Int) ≤ (k : Int) := by omega
      have hk1 : (k : Int) < (m1 : Int) := by omega
      have hk2 : ¬ ((k : Int) < 0) := by omega
      have D1 := Lib.hid d1'
      have HSB : Hid (∀ w', Below wo.heap.size wo w' → (w'.cell? ⟨w1.heap.size, 0, none⟩ = some (.int .i64 f.ver) ∧ w'.cell? ⟨w1.heap.size, 1, none⟩ = some (.slice A1 n1 c1)) ∧ (w'.cell? ⟨w1.heap.size + 1, 0, none⟩ = some (.int .i64 g.ver) ∧ w'.cell? ⟨w1.heap.size + 1, 1, none⟩ = some (.slice G1 ng cg)) ∧ (w'.cell? ⟨b, off + k * 3 + 1, none⟩ = some (.int .i64 (nth cs k).st) ∧ w'.cell? ⟨b, off + k * 3 + 2, none⟩ = some (.slice A' n' c'))) := Lib.hid (fun w' h => by
        have e1 := ((HBW.out.trans (h.mono HBW.out.size)).block _ (heap_lt HX5.out)).trans HX5.out
        have e2 := ((HBW.out.trans (h.mono HBW.out.size)).block _ (heap_lt HY5.out)).trans HY5.out
        exact ⟨flow_cells e1, flow_cells e2, ⟨(h.cell (p := ⟨b, off + k * 3 + 1, none⟩) hbl).trans d2', (h.cell (p := ⟨b, off + k * 3 + 2, none⟩) hbl).trans d3'⟩⟩)
      have HSW := Lib.hid (HS5.out.below HBW.out)
      have HGW := Lib.hid (HG5.out.below HBW.out)
      clear d1' d2' d3'
      have HFI := Lib.hid (fun (cur : World) (h : Below wo.heap.size wo cur) => (fitI_any A1 G1 A' n1 c1 ng cg n' c' f g (nth cs k).st (nth cs k).done _ _ _ cur (HSW.out.below h) HOK.out (HGW.out.below h) HOKG.out (HDR.out.below h) hn' hnc).mono (R' := fun e w' => ∃ B' n9 d', e = .returned (.tuple #[.agg #[.int .i64 (fitR f g (nth cs k).st (nth cs k).done).1, .slice B' n9 d'], .bool (fitB f g (nth cs k).st (nth cs k).done)]) ∧
          w'.ownsRow wo.heap.size 9 1 (.slice B' n9 d') n9 ((fitR f g (nth cs k).st (nth cs k).done).2.map Value.string) ∧ Below wo.heap.size wo w' ∧ Below cur.heap.size cur w') (by
        rintro e w' ⟨B', n9, d', h1, h2, h3⟩
        exact ⟨B', n9, d', h1, row_mono h2 h.size, h.trans (h3.mono h.size), h3⟩))
      go_upto_region 11 with fail
      go_cut [13, 14] (fun s13 s14 wx => ∃ (b5 : Nat) (B5 : Option Addr) (n5 d5 : Nat), s13 = .pointer (some ⟨b5, 0, none⟩) ∧ s14 = .bool (fitB f g (nth cs k).st (nth cs k).done) ∧ wx.heap[b5]? = some (.cells #[.int .i64 (fitR f g (nth cs k).st (nth cs k).done).1, .slice B5 n5 d5] 48) ∧ wx.ownsRow wo.heap.size 9 1 (.slice B5 n5 d5) n5 ((fitR f g (nth cs k).st (nth cs k).done).2.map Value.string) ∧ Below wo.heap.size wo wx)
      case first =>
        go_region_held3 (fun w' => (w'.cell? ⟨w1.heap.size, 0, none⟩ = some (.int .i64 f.ver) ∧ w'.cell? ⟨w1.heap.size, 1, none⟩ = some (.slice A1 n1 c1)) ∧ (w'.cell? ⟨w1.heap.size + 1, 0, none⟩ = some (.int .i64 g.ver) ∧ w'.cell? ⟨w1.heap.size + 1, 1, none⟩ = some (.slice G1 ng cg)) ∧ (w'.cell? ⟨b, off + k * 3 + 1, none⟩ = some (.int .i64 (nth cs k).st) ∧ w'.cell? ⟨b, off + k * 3 + 2, none⟩ = some (.slice A' n' c')))
          ((refine HSB.out _ ?_; (repeat (first | with_reducible exact hbw | with_reducible exact Below.refl _ _ | apply Below.drew | refine Below.alloc ?_ (by first | exact hbw.size | (simp; done)) _ | refine Below.setCell ?_ (by exact Nat.le_refl _) _ | fail "x")); done))
          (first | (go_at_call 31; refine (HFI.out _ (by repeat (first | with_reducible exact Below.refl _ _ | apply Below.drew | refine Below.alloc ?_ (by first | exact hbw.size | (simp; done)) _))).mono ?_; rintro e w5 ⟨B5, n5, d5, rfl, ho5, hbw, hb5⟩; (first | (have hz5 := (hb5.block wo.heap.size (by simp)).trans (heap_new (w := wo.drew) (b := wo.heap.size) (o := .cells #[.int .i64 0, .slice none 0 0] 48) rfl); obtain ⟨q0, q0'⟩ := blk_cl (k := 0) hz5 rfl; obtain ⟨q1, q1'⟩ := blk_cl (k := 1) hz5 rfl) | skip)) | fail "no arm")
        all_goals
          go_wp2_with fail
          go_meet
          first
            | with_reducible exact ⟨_, _, _, _, rfl, rfl, heap_new rfl, ho5.alloc _, hbw.alloc hbw.size _⟩
            | with_reducible exact ⟨_, _, _, _, rfl, rfl, set21 (set20 hz5), row_set (row_set ho5 hz5 (by decide)) (set20 hz5) (by decide), (hbw.setCell (p := ⟨wo.heap.size, 0, none⟩) (Nat.le_refl _) _).setCell (p := ⟨wo.heap.size, 1, none⟩) (Nat.le_refl _) _⟩
            | fail "no meet"
      case rest =>
        obtain ⟨b5, B5, n5, d5, rfl, rfl, hb5, hro5, hbc⟩ := hcut
        have HB5' := Lib.hid hb5; clear hb5
        have HBC := Lib.hid hbc; clear hbc
        have HWC := Lib.hid (HBW.out.trans (HBC.out.mono HBW.out.size))
        obtain ⟨_, _, e9, hr5⟩ := own_str hro5
        injection e9 with e9 _ e9'
        subst e9; subst e9'
        have HR5 := Lib.hid hr5; clear hr5 hro5
        have D1c : ∀ y : Bl wc, y.wd.cell? ⟨b, off + k * 3, none⟩ = some (.string (nth cs k).name) := fun y => ((HBC.out.trans (y.below.mono HBC.out.size)).cell (p := ⟨b, off + k * 3, none⟩) hbl).trans D1.out
        have d1c : wc.cell? ⟨b, off + k * 3, none⟩ = some (.string (nth cs k).name) := (HBC.out.cell (p := ⟨b, off + k * 3, none⟩) hbl).trans D1.out
        have HCO := Lib.hid (caseOf_any B2 m3 d2 (mvL f g cs) (nth cs k).name _ wc (HO5.out.below HWC.out) (by omega))
        have HPL := Lib.hid (fun y : Bl wc => placeOf_any C2 k3 e2 (mvN f g cs) (nth cs k).name _ y.wd (HN5.out.below (HWC.out.trans (y.below.mono HWC.out.size))) (by omega))
        have BL := Lib.hid (fun y : Bl wc => HWC.out.trans (y.below.mono HWC.out.size))
        cases hfit : fitB f g (nth cs k).st (nth cs k).done
        · have h1 := mv_has (f := f) (g := g) (pm_parts HPM.out).1 hkl
          have h2 := mvN_has (f := f) (g := g) (pm_parts HPM.out).1 hkl
          rw [hfit] at h1 h2
          have g1 := idx_decM h1
          have g2 : decide (0 ≤ idxI (mvN f g cs) (nth cs k).name) = true := idx_decM h2
          clear h1 h2 hfit
          generalize idxI (caseNames (mvL f g cs)) (nth cs k).name = z1 at *
          generalize idxI (mvN f g cs) (nth cs k).name = z2 at *
          go_wp2_with (first | (go_at_call 32; refine HCO.out.mono ?_; rintro e w' ⟨rfl, hw'⟩; subst hw'))
          refine region_bl (by kernel_rfl) (by kernel_rfl) ?_
          repeat (go_big_quiet_step ((first | (go_at_call 33; exact q_bl_same (HPL.out _)) | fail "no arm")))
          refine wpQuiet_nil ?_
          intro _ hw'
          obtain ⟨y, rfl⟩ := hw'
          have HY := Lib.hid (BL.out y)
          go_wp2_with fail
          go_roundw
          case rel => exact ⟨k + 1, by omega, by go_num, HY.out⟩
          case measure => simp [intOf]; omega
        · obtain ⟨i, hi, hidx, hat⟩ := pm_at HPM.out hkl hfit
          have h2 := mvN_has (f := f) (g := g) (pm_parts HPM.out).1 hkl
          rw [hfit] at h2
          have g2 : decide (0 ≤ idxI (mvN f g cs) (nth cs k).name) = false := idx_decM h2
          have him : i < m3 := by rw [← HO5.out.1]; exact hi
          obtain ⟨b7, off7, hA7, ⟨_, hbl7⟩, hcc⟩ := RCase.at_ (HO5.out.below HWC.out) him
          subst hA7
          obtain ⟨A7, n7, c7, ⟨z1, z2, z3⟩, hdr7, hnc7, _⟩ := hcc i him
          clear hcc
          rw [hat] at z2 hdr7
          have hst7 : (mvC f g (nth cs k)).st = (fitR f g (nth cs k).st (nth cs k).done).1 := rfl
          have hdn7 : (mvC f g (nth cs k)).done = (fitR f g (nth cs k).st (nth cs k).done).2 := rfl
          rw [hst7] at z2
          rw [hdn7] at hdr7
          obtain rfl : n7 = n5 := by rw [← hdr7.1, ← HR5.out.1]
          have hn5 : n7 ≤ 1048576 := by
            rw [← hdr7.1]
            have := fitR_len f g (nth cs k).st (nth cs k).done
            have h9 := (HOC.out.2 k hkl).2
            have h10 : (fitR f g (nth cs k).st (nth cs k).done).2.length ≤ (nth cs k).done.length := this
            exact Nat.le_trans h10 h9
          have HSR := Lib.hid (fun y : Bl wc => sameRun_same A7 B5 n7 c7 d5 (fitR f g (nth cs k).st (nth cs k).done).1 (fitR f g (nth cs k).st (nth cs k).done).2 _ _ y.wd (hdr7.below y.below) hn5 (HR5.out.below y.below))
          have Z2 : ∀ y : Bl wc, y.wd.cell? ⟨b7, off7 + i * 3 + 1, none⟩ = some (.int .i64 (fitR f g (nth cs k).st (nth cs k).done).1) := fun y => (y.below.cell (p := ⟨b7, off7 + i * 3 + 1, none⟩) hbl7).trans z2
          have Z3 : ∀ y : Bl wc, y.wd.cell? ⟨b7, off7 + i * 3 + 2, none⟩ = some (.slice A7 n7 c7) := fun y => (y.below.cell (p := ⟨b7, off7 + i * 3 + 2, none⟩) hbl7).trans z3
          have X2 : ∀ y : Bl wc, y.wd.cell? ⟨b5, 0, none⟩ = some (.int .i64 (fitR f g (nth cs k).st (nth cs k).done).1) := fun y => (blk_cl (k := 0) ((y.below.block _ (heap_lt HB5'.out)).trans HB5'.out) rfl).1
          have X3 : ∀ y : Bl wc, y.wd.cell? ⟨b5, 1, none⟩ = some (.slice B5 n7 d5) := fun y => (blk_cl (k := 1) ((y.below.block _ (heap_lt HB5'.out)).trans HB5'.out) rfl).1
          have hi0 : (0 : Int) ≤ (i : Int) := by omega
          have hi1 : (i : Int) < (m3 : Int) := by omega
          have hi2 : ¬ ((i : Int) < 0) := by omega
          have hi3 : decide ((0 : Int) ≤ (i : Int)) = true := by rw [decide_eq_true_iff]; omega
          rw [hidx] at HCO
          clear z1 z2 z3 hdr7 hat hst7 hdn7 hidx hfit h2
          generalize idxI (mvN f g cs) (nth cs k).name = z2 at *
          generalize fitR f g (nth cs k).st (nth cs k).done = fr at *
          go_wp2_with (first | (go_at_call 32; refine HCO.out.mono ?_; rintro e w' ⟨rfl, hw'⟩; subst hw'))
          refine region_bl (by kernel_rfl) (by kernel_rfl) ?_
          repeat (go_big_quiet_step ((first | (go_at_call 33; exact q_bl_same (HPL.out _)) | (go_at_call 34; exact q_bl (HSR.out _)) | fail "no arm")))
          refine wpQuiet_nil ?_
          intro _ hw'
          obtain ⟨y, rfl⟩ := hw'
          have HY := Lib.hid (BL.out y)
          clear Z2 Z3 X2 X3 HSR D1c
          go_wp2_with fail
          go_roundw
          case rel => exact ⟨k + 1, by omega, by go_num, HY.out⟩
          case measure => simp [intOf]; omega
    · have HY9 := Lib.hid ((HBW.out.block _ (heap_lt HY5.out)).trans HY5.out)
      have y0 := (blk_cl (k := 0) HY9.out rfl).1
      have y1 := (blk_cl (k := 1) HY9.out rfl).1
      have hq : ((m3 : Int) + (k3 : Int) == (m1 : Int)) = true := by
        have h1 := mv_len f g cs
        have h2 := HO5.out.1
        have h3 := HN5.out.1
        rw [HL.out] at h1
        rw [beq_iff_eq]; omega
      go_wp2_with fail
      refine (poolI_any _ _ _ _ _ _ g (mvL f g cs) _ _ _ (HG5.out.below HBW.out) HOKG.out (HO5.out.below HBW.out) HOS.out).mono ?_
      rintro e w6 ⟨rfl, hb6⟩
      rw [pm_pool HPM.out]
      go_wp2_with fail
      go_ret
      exact ⟨rfl, (HB5.out.trans (HBW.out.mono HB5.out.size)).trans (hb6.mono (Nat.le_trans HB5.out.size HBW.out.size))⟩
end Go.Proofs.Ytakeijgoonagcaa

/- FnPoolMove returns true at every input, and leaves its arguments as they were. No condition. -/
namespace Go.Proofs.Ytakeijgoonagcaa
open Go.ChangeShapes Go.WideShapes Go.ChangeAt Go.RowKit

set_option maxRecDepth 100000 in
theorem fnPoolMove_lifted (os : Os) (started : os.Started) (H : Type) (enc : TypeId × Value → H) :
    ReturnsInHanded {} Try.checked os 4 .any (Rows.fnPoolMoveSpec.pre6 enc Try.prog Try.f4 Rows.fnPoolMoveRow.domain false) (Rows.fnPoolMoveSpec.post enc Try.prog Try.f4 false true false false) := by
  refine returnsInHanded_of_change (C := Try.checked) Try.own started (by kernel_rfl) Try.func4
    (ChangeSpec.witness6 (enc := enc) (C := Try.checked) false ⟨#[], #[.slice none 0 0], []⟩ 8 (by kernel_rfl) (by kernel_rfl) (by kernel_rfl) (by kernel_rfl)) ?_
  intro W base args ds gs before hval0 hW hcnd _
  have hval : ∀ (j : Nat) t v, Try.f4.params[j]? = some t → args[j]? = some v → Value.okWide Try.prog W .any base t v := hval0
  have hW' := hW
  obtain ⟨p, q, hA0, hV, rfl, hfz, hnd⟩ := hW
  have hA : DataW.TrodAll enc Try.prog W 0 (fun _ => true) true Try.f4.params.toList args.toList ds p := hA0
  rw [Try.params4] at hA hval
  obtain ⟨v0, d0, rfl, rfl, h0⟩ := trodAll_one hA
  obtain ⟨rfl, rfl⟩ := trodVars_none hV
  have h0k := h0
  obtain ⟨a0, len, cap, rfl⟩ := okWide_slice Try.underlying44 (hval 0 44 v0 rfl rfl)
  obtain ⟨fuel, hf⟩ := h0
  clear hA0 hval0 hA
  simp only [List.append_nil] at hW' hfz
  have hlt : ∀ x ∈ p, x.block < W.heap.size := fun x hx => by simpa using hW'.lt x hx
  obtain ⟨hr, hc, _⟩ := open_code hf
  refine (fnPoolMove_any a0 len cap W hr hc).mono fun e W' ⟨he, hb⟩ => ?_
  subst he
  exact ⟨_, rfl, post_law hW' rfl (by kernel_rfl) Try.underlying4 rfl rfl rfl (trodAll_mk1 (Below.trod Try.laidOut (by kernel_rfl) (of_decide_eq_true (by kernel_rfl)) h0k hb hlt)) hb⟩

theorem fnPoolMove_holds : Rows.FnPoolMoveSaid :=
  OpenClaim.holds_of_wide 4 Try.f4 rfl rfl rfl rfl rfl rfl rfl ⟨rfl, rfl, rfl, rfl, rfl⟩ rfl rfl rfl rfl rfl (by kernel_rfl) Try.func4 (by kernel_rfl)
    (of_decide_eq_true (by kernel_rfl)) (by unfold Func.isWrapper; rw [if_neg (by decide +kernel)]; exact ⟨rfl, rfl⟩)
    (fun os started H enc _ => fnPoolMove_lifted os started H enc)
end Go.Proofs.Ytakeijgoonagcaa
