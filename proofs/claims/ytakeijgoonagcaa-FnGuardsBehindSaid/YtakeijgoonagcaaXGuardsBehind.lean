/- FnGuardsBehind returns true at every input, and leaves its arguments as they were. No condition. -/
import Derived.Deep.DeepCutAuto
import Derived.Deep.RegionHeld3
import Derived.Maps.Own
import Derived.Maps.Views
import Derived.Carry
import Derived.Test.YtakeijgoonagcaaZO
import Derived.Test.YtakeijgoonagcaaZN
import Derived.Test.YtakeijgoonagcaaZG
import Derived.Test.YtakeijgoonagcaaZA
import Derived.Test.YtakeijgoonagcaaZB
import Derived.Test.YtakeijgoonagcaaZF
import Derived.Test.YtakeijgoonagcaaZC

/- FnGuardsFlowTwice: the walk. -/
namespace Go.Proofs.Ytakeijgoonagcaa
open Go.RowKit

theorem sz_leU (w : World) (o : Obj) : w.heap.size ≤ (w.alloc o).heap.size := by simp
theorem gf_ok (f : Flow) (gs : List Guard) (vs : List Int) : okSteps (gfF f gs vs).steps := by
  cases h : gfB f gs vs
  · rw [gfF_no h]; exact okSteps_nil
  · rw [gfF_yes h]
    unfold gfB at h
    simp only [Bool.and_eq_true] at h
    have := (good_to (names := closL gs vs) (good_flow h.1) (by rw [namesOf_len]; exact (good_flow h.1).2.1) (closL gs vs).length).1
    rw [gfTo_all (Nat.le_refl _)] at this
    exact this

set_option maxRecDepth 100000 in
set_option maxHeartbeats 4000000 in
theorem fnGuardsFlowTwice_any (A : Option Addr) (n c : Nat) (w : World) (hr : RByte w A n) (hc : n ≤ c) :
    Calls Try.prog 10 #[.slice A n c] w fun e w' => e = .returned (.bool true) ∧ Below w.heap.size w w' := by
  have HR := Lib.hid hr; clear hr
  by_cases hn : 1048576 < n
  · go_enter Try.func10, Try.ntmps10
    go_wp2_with fail
    go_ret
    exact ⟨rfl, Below.refl _ _⟩
  go_enter Try.func10, Try.ntmps10
  go_wp2_with fail
  refine (drawGuardsFlow_any _ _ _ _ HR.out hc (by omega)).mono ?_
  rintro e w1 ⟨f, A1, n1, c1, G1, ng, cg, gs, V1, nv, cv, vs, rfl, hs, hok, h1n, h6n, hg, hokg, hv, hnv, hb1⟩
  have HOK := Lib.hid hok; clear hok
  have HOG := Lib.hid hokg; clear hokg
  have HLF := Lib.hid hs.1
  have hnv2 : nv ≤ 1048576 := by omega
  have HSA := Lib.hid (hs.alloc (.cells #[.int .i64 f.ver, .slice A1 n1 c1] 34)); clear hs
  have HGA := Lib.hid (hg.alloc (.cells #[.int .i64 f.ver, .slice A1 n1 c1] 34)); clear hg
  have HVA := Lib.hid (hv.alloc (.cells #[.int .i64 f.ver, .slice A1 n1 c1] 34)); clear hv
  have HBA := Lib.hid (hb1.alloc hb1.size (.cells #[.int .i64 f.ver, .slice A1 n1 c1] 34))
  have HXA := Lib.hid (heap_new (w := w1) (o := .cells #[.int .i64 f.ver, .slice A1 n1 c1] 34) rfl)
  clear hb1
  go_upto_region 4 with fail
  generalize w1.alloc (.cells #[.int .i64 f.ver, .slice A1 n1 c1] 34) = W1 at *
  generalize w1.heap.size = p1 at *
  have x0 := (blk_cl (k := 0) HXA.out rfl).1
  have x1 := (blk_cl (k := 1) HXA.out rfl).1
  go_wp2_with fail
  refine (gfI_any _ _ _ _ _ _ _ _ _ f gs vs _ _ _ _ HSA.out HOK.out HGA.out HOG.out HVA.out hnv2).mono ?_
  rintro e w2 ⟨B2, m2, d2, rfl, hx2, hb2⟩
  have hb2a := hb2.alloc (Nat.le_trans hb2.size (Nat.le_refl _)) (.cells #[.int .i64 (gfF f gs vs).ver, .slice B2 m2 d2] 34)
  have HYB := Lib.hid (heap_new (w := w2) (o := .cells #[.int .i64 (gfF f gs vs).ver, .slice B2 m2 d2] 34) rfl)
  have HOB := Lib.hid (hx2.below ((Below.refl _ _).alloc (Nat.le_refl _) (.cells #[.int .i64 (gfF f gs vs).ver, .slice B2 m2 d2] 34)))
  have HXB := Lib.hid ((hb2a.block _ (heap_lt HXA.out)).trans HXA.out)
  have HSB := Lib.hid (HSA.out.below hb2a)
  have HGB := Lib.hid (HGA.out.below hb2a)
  have HVB := Lib.hid (HVA.out.below hb2a)
  have HBB := Lib.hid (HBA.out.trans (hb2a.mono HBA.out.size))
  clear hb2 hb2a hx2 x0 x1
  go_upto_region 5 with fail
  generalize w2.alloc (.cells #[.int .i64 (gfF f gs vs).ver, .slice B2 m2 d2] 34) = W2 at *
  generalize w2.heap.size = p2 at *
  have x0 := (blk_cl (k := 0) HXB.out rfl).1
  have x1 := (blk_cl (k := 1) HXB.out rfl).1
  go_wp2_with fail
  refine (gfS_any _ _ _ _ _ _ _ _ _ f gs vs _ _ _ _ HSB.out HOK.out HGB.out HOG.out HVB.out hnv2).mono ?_
  rintro e w3 ⟨B3, m3, d3, rfl, hx3, hb3⟩
  obtain rfl : m3 = m2 := by rw [← hx3.len, ← HOB.out.len]
  have hb3a := hb3.alloc (Nat.le_trans hb3.size (Nat.le_refl _)) (.cells #[.int .i64 (gfF f gs vs).ver, .slice B3 m3 d3] 34)
  have HZC := Lib.hid (heap_new (w := w3) (o := .cells #[.int .i64 (gfF f gs vs).ver, .slice B3 m3 d3] 34) rfl)
  have HWC := Lib.hid (hx3.below ((Below.refl _ _).alloc (Nat.le_refl _) (.cells #[.int .i64 (gfF f gs vs).ver, .slice B3 m3 d3] 34)))
  have HXC := Lib.hid ((hb3a.block _ (heap_lt HXB.out)).trans HXB.out)
  have HYC := Lib.hid ((hb3a.block _ (heap_lt HYB.out)).trans HYB.out)
  have HSC := Lib.hid (HSB.out.below hb3a)
  have HGC := Lib.hid (HGB.out.below hb3a)
  have HVC := Lib.hid (HVB.out.below hb3a)
  have HOC := Lib.hid (HOB.out.below hb3a)
  have HBC := Lib.hid (HBB.out.trans (hb3a.mono HBB.out.size))
  clear hb3 hb3a hx3 x0 x1
  go_upto_region 6 with fail
  generalize w3.alloc (.cells #[.int .i64 (gfF f gs vs).ver, .slice B3 m3 d3] 34) = W3 at *
  generalize w3.heap.size = p3 at *
  have HGO := Lib.hid (gf_ok f gs vs)
  have HSF := Lib.hid (fun (w' : World) (h : Below W3.heap.size W3 w') => (sameFlow_same B2 B3 m3 d2 d3 (gfF f gs vs) _ _ w' (HOC.out.hat2.below h) HGO.out (HWC.out.hat2.below h)))
  have y0 := (blk_cl (k := 0) HYC.out rfl).1
  have y1 := (blk_cl (k := 1) HYC.out rfl).1
  have z0 := (blk_cl (k := 0) HZC.out rfl).1
  have z1 := (blk_cl (k := 1) HZC.out rfl).1
  have hzz : (gfB f gs vs != gfB f gs vs) = false := by simp
  have hze : (gfB f gs vs == gfB f gs vs) = true := by simp
  clear HXA HXB HYB HSA HSB HGA HGB HVA HVB HOB HBA HBB
  cases hp : gfB f gs vs
  · clear hp
    go_wp2_with fail
    refine (HSF.out W3 (Below.refl _ _)).mono ?_
    rintro e w4 ⟨rfl, hb4⟩
    have HY4 := Lib.hid ((hb4.block _ (heap_lt HYC.out)).trans HYC.out)
    have HZ4 := Lib.hid ((hb4.block _ (heap_lt HZC.out)).trans HZC.out)
    clear y0 y1 z0 z1
    have y0 := (blk_cl (k := 0) HY4.out rfl).1
    have y1 := (blk_cl (k := 1) HY4.out rfl).1
    have z0 := (blk_cl (k := 0) HZ4.out rfl).1
    have z1 := (blk_cl (k := 1) HZ4.out rfl).1
    go_wp2_with fail
    refine (HSF.out w4 hb4).mono ?_
    rintro e w5 ⟨rfl, hb5⟩
    go_wp2_with fail
    go_ret
    exact ⟨rfl, HBC.out.trans ((hb4.trans (hb5.mono hb4.size)).mono HBC.out.size)⟩
  have HP := Lib.hid hp
  clear hp hzz hze
  have hzz : (true != true) = false := rfl
  go_wp2_with fail
  refine (HSF.out W3 (Below.refl _ _)).mono ?_
  rintro e w4 ⟨rfl, hb4⟩
  have HX4 := Lib.hid ((hb4.block _ (heap_lt HXC.out)).trans HXC.out)
  have HY4 := Lib.hid ((hb4.block _ (heap_lt HYC.out)).trans HYC.out)
  have HZ4 := Lib.hid ((hb4.block _ (heap_lt HZC.out)).trans HZC.out)
  have HS4 := Lib.hid (HSC.out.below hb4)
  have HG4 := Lib.hid (HGC.out.below hb4)
  have HV4 := Lib.hid (HVC.out.below hb4)
  have HO4 := Lib.hid (HOC.out.below hb4)
  have HW4 := Lib.hid (HWC.out.below hb4)
  have HB4 := Lib.hid (HBC.out.trans (hb4.mono HBC.out.size))
  clear y0 y1 z0 z1 hb4 HSF HXC HYC HZC HSC HGC HVC HOC HWC HBC hzz
  have hfv : flowB f = true ∧ varsB vs = true := by
    have h := HP.out
    unfold gfB at h
    simp only [Bool.and_eq_true] at h
    exact ⟨h.1, h.2.2.1⟩
  have HT1 := Lib.hid (fun (w' : World) (h : Below w4.heap.size w4 w') => (gfI_any B2 G1 V1 m3 d2 ng cg nv cv (gfF f gs vs) gs vs _ _ _ w' (HO4.out.hat2.below h) HGO.out (HG4.out.below h) HOG.out (HV4.out.below h) hnv2).mono (R' := fun e w'' => ∃ B d, e = .returned (.tuple #[.agg #[.int .i64 (gfF f gs vs).ver, .slice B m3 d], .bool true]) ∧ SRow w'' w'.heap.size (.slice B m3 d) m3 (gfF f gs vs).steps ∧ Below w'.heap.size w' w'') (by
    rintro e w'' ⟨B, m, d, h1, h2, h3⟩
    rw [(gfB_twice HP.out).2] at h1 h2
    rw [(gfB_twice HP.out).1] at h1
    obtain rfl : m = m3 := by rw [← h2.len, ← HO4.out.len]
    exact ⟨B, d, h1, h2, h3⟩))
  have HT2 := Lib.hid (fun (w' : World) (h : Below w4.heap.size w4 w') (G : Option Addr) => (gfI_any A1 G V1 n1 c1 0 0 nv cv f [] vs _ w4.heap.size _ w' (HS4.out.below h) HOK.out RL.nil ⟨by simp, fun j hj => absurd hj (by simp)⟩ (HV4.out.below h) hnv2).mono (R' := fun e w'' => ∃ B d, e = .returned (.tuple #[.agg #[.int .i64 f.ver, .slice B n1 d], .bool true]) ∧ SRow w'' w'.heap.size (.slice B n1 d) n1 f.steps ∧ Below w'.heap.size w' w'') (by
    rintro e w'' ⟨B, m, d, h1, h2, h3⟩
    rw [(gfB_nil hfv.1 hfv.2).2] at h1 h2
    rw [(gfB_nil hfv.1 hfv.2).1] at h1
    obtain rfl : m = n1 := by rw [← h2.len, ← HLF.out]
    exact ⟨B, d, h1, h2, h3⟩))
  clear hfv
  have y0 := (blk_cl (k := 0) HY4.out rfl).1
  have y1 := (blk_cl (k := 1) HY4.out rfl).1
  go_wp2_with fail
  refine (HT1.out w4 (Below.refl _ _)).mono ?_
  rintro e w5 ⟨B5, d5, rfl, hx5, hb5⟩
  have hb5a := hb5.alloc (Nat.le_trans hb5.size (Nat.le_refl _)) (.cells #[.int .i64 (gfF f gs vs).ver, .slice B5 m3 d5] 34)
  have HQ5 := Lib.hid (heap_new (w := w5) (o := .cells #[.int .i64 (gfF f gs vs).ver, .slice B5 m3 d5] 34) rfl)
  have HN5 := Lib.hid (hx5.below ((Below.refl _ _).alloc (Nat.le_refl _) (.cells #[.int .i64 (gfF f gs vs).ver, .slice B5 m3 d5] 34)))
  have HX5 := Lib.hid ((hb5a.block _ (heap_lt HX4.out)).trans HX4.out)
  have HY5 := Lib.hid ((hb5a.block _ (heap_lt HY4.out)).trans HY4.out)
  have HS5 := Lib.hid (HS4.out.below hb5a)
  have HO5 := Lib.hid (HO4.out.below hb5a)
  have HB5 := Lib.hid hb5a
  clear hb5 hb5a hx5 y0 y1
  go_upto_region 9 with fail
  generalize w5.alloc (.cells #[.int .i64 (gfF f gs vs).ver, .slice B5 m3 d5] 34) = W5 at *
  generalize w5.heap.size = p5 at *
  have x0 := (blk_cl (k := 0) HX5.out rfl).1
  have x1 := (blk_cl (k := 1) HX5.out rfl).1
  go_wp2_with fail
  refine (HT2.out _ (HB5.out.alloc HB5.out.size _) _).mono ?_
  rintro e w6 ⟨B6, d6, rfl, hx6, hb6⟩
  have hb6b := (HB5.out.alloc HB5.out.size _).trans (hb6.mono (Nat.le_trans HB5.out.size (sz_leU _ _)))
  have hb6c := ((Below.refl W5.heap.size W5).alloc (Nat.le_refl _) _).trans (hb6.mono (sz_leU _ _))
  have hb6d := hb6c.alloc hb6c.size (.cells #[.int .i64 f.ver, .slice B6 n1 d6] 34)
  have hb6a := hb6b.alloc hb6b.size (.cells #[.int .i64 f.ver, .slice B6 n1 d6] 34)
  have HR6 := Lib.hid (heap_new (w := w6) (o := .cells #[.int .i64 f.ver, .slice B6 n1 d6] 34) rfl)
  have HM6 := Lib.hid (hx6.below ((Below.refl _ _).alloc (Nat.le_refl _) (.cells #[.int .i64 f.ver, .slice B6 n1 d6] 34)))
  have HX6 := Lib.hid ((hb6d.block _ (heap_lt HX5.out)).trans HX5.out)
  have HY6 := Lib.hid ((hb6d.block _ (heap_lt HY5.out)).trans HY5.out)
  have HQ6 := Lib.hid ((hb6d.block _ (heap_lt HQ5.out)).trans HQ5.out)
  have HS6 := Lib.hid (HS5.out.below hb6d)
  have HO6 := Lib.hid (HO5.out.below hb6d)
  have HN6 := Lib.hid (HN5.out.below hb6d)
  have HB6 := Lib.hid hb6a
  clear hb6 hb6a hb6b hb6c hb6d hx6 x0 x1
  go_upto_region 10 with fail
  generalize w6.alloc (.cells #[.int .i64 f.ver, .slice B6 n1 d6] 34) = W6 at *
  generalize w6.heap.size = p6 at *
  have x0 := (blk_cl (k := 0) HX6.out rfl).1
  have x1 := (blk_cl (k := 1) HX6.out rfl).1
  have y0 := (blk_cl (k := 0) HY6.out rfl).1
  have y1 := (blk_cl (k := 1) HY6.out rfl).1
  have q0 := (blk_cl (k := 0) HQ6.out rfl).1
  have q1 := (blk_cl (k := 1) HQ6.out rfl).1
  have r0 := (blk_cl (k := 0) HR6.out rfl).1
  have r1 := (blk_cl (k := 1) HR6.out rfl).1
  go_wp2_with fail
  refine (sameFlow_same B5 B2 m3 d5 d2 (gfF f gs vs) _ _ _ HN6.out.hat2 HGO.out HO6.out.hat2).mono ?_
  rintro e w7 ⟨rfl, hb7⟩
  have HX7 := Lib.hid ((hb7.block _ (heap_lt HX6.out)).trans HX6.out)
  have HR7 := Lib.hid ((hb7.block _ (heap_lt HR6.out)).trans HR6.out)
  have HS7 := Lib.hid (HS6.out.below hb7)
  have HM7 := Lib.hid (HM6.out.below hb7)
  clear x0 x1 y0 y1 q0 q1 r0 r1
  have x0 := (blk_cl (k := 0) HX7.out rfl).1
  have x1 := (blk_cl (k := 1) HX7.out rfl).1
  have r0 := (blk_cl (k := 0) HR7.out rfl).1
  have r1 := (blk_cl (k := 1) HR7.out rfl).1
  go_wp2_with fail
  refine (sameFlow_same B6 A1 n1 d6 c1 f _ _ _ HM7.out.hat2 HOK.out HS7.out).mono ?_
  rintro e w8 ⟨rfl, hb8⟩
  go_wp2_with fail
  go_ret
  exact ⟨rfl, HB4.out.trans ((HB6.out.trans ((hb7.trans (hb8.mono hb7.size)).mono HB6.out.size)).mono HB4.out.size)⟩
end Go.Proofs.Ytakeijgoonagcaa

/- FnGuardsFlow: the walk. -/
namespace Go.Proofs.Ytakeijgoonagcaa
open Go.RowKit

theorem gf_parts {f : Flow} {gs : List Guard} {vs : List Int} (h : gfB f gs vs = true) : flowB (gfF f gs vs) = true ∧ (gfF f gs vs).ver = f.ver ∧ (gfF f gs vs).steps.length ≤ f.steps.length ∧ ∀ x, hasB (namesOf (gfF f gs vs).steps) x = (hasB (namesOf f.steps) x && !hasB (closL gs vs) x) := by
  have e := gfF_yes h
  unfold gfB at h
  simp only [Bool.and_eq_true] at h
  refine ⟨by rw [e]; exact h.2.2.2, by rw [e], by rw [e]; exact gf_len _ _, fun x => by rw [e]; exact gf_has _ _ _⟩

set_option maxRecDepth 100000 in
set_option maxHeartbeats 4000000 in
theorem fnGuardsFlow_any (A : Option Addr) (n c : Nat) (w : World) (hr : RByte w A n) (hc : n ≤ c) :
    Calls Try.prog 11 #[.slice A n c] w fun e w' => e = .returned (.bool true) ∧ Below w.heap.size w w' := by
  have HR := Lib.hid hr; clear hr
  by_cases hn : 1048576 < n
  · go_enter Try.func11, Try.ntmps11
    go_wp2_with fail
    go_ret
    exact ⟨rfl, Below.refl _ _⟩
  go_enter Try.func11, Try.ntmps11
  go_wp2_with fail
  refine (drawGuardsFlow_any _ _ _ _ HR.out hc (by omega)).mono ?_
  rintro e w1 ⟨f, A1, n1, c1, G1, ng, cg, gs, V1, nv, cv, vs, rfl, hs, hok, h1n, h6n, hg, hokg, hv, hnv, hb1⟩
  have HOK := Lib.hid hok; clear hok
  have HOG := Lib.hid hokg; clear hokg
  have HLF := Lib.hid hs.1
  have hnv2 : nv ≤ 1048576 := by omega
  have HSA := Lib.hid (hs.alloc (.cells #[.int .i64 f.ver, .slice A1 n1 c1] 34)); clear hs
  have HGA := Lib.hid (hg.alloc (.cells #[.int .i64 f.ver, .slice A1 n1 c1] 34)); clear hg
  have HVA := Lib.hid (hv.alloc (.cells #[.int .i64 f.ver, .slice A1 n1 c1] 34)); clear hv
  have HBA := Lib.hid (hb1.alloc hb1.size (.cells #[.int .i64 f.ver, .slice A1 n1 c1] 34))
  have HXA := Lib.hid (heap_new (w := w1) (o := .cells #[.int .i64 f.ver, .slice A1 n1 c1] 34) rfl)
  clear hb1
  go_upto_region 4 with fail
  generalize w1.alloc (.cells #[.int .i64 f.ver, .slice A1 n1 c1] 34) = W1 at *
  generalize w1.heap.size = p1 at *
  have x0 := (blk_cl (k := 0) HXA.out rfl).1
  have x1 := (blk_cl (k := 1) HXA.out rfl).1
  go_wp2_with fail
  refine (gfI_any _ _ _ _ _ _ _ _ _ f gs vs _ _ _ _ HSA.out HOK.out HGA.out HOG.out HVA.out hnv2).mono ?_
  rintro e w2 ⟨B2, m2, d2, rfl, hx2, hb2⟩
  have hb2a := hb2.alloc (Nat.le_trans hb2.size (Nat.le_refl _)) (.cells #[.int .i64 (gfF f gs vs).ver, .slice B2 m2 d2] 34)
  have HYB := Lib.hid (heap_new (w := w2) (o := .cells #[.int .i64 (gfF f gs vs).ver, .slice B2 m2 d2] 34) rfl)
  have HOB := Lib.hid (hx2.below ((Below.refl _ _).alloc (Nat.le_refl _) (.cells #[.int .i64 (gfF f gs vs).ver, .slice B2 m2 d2] 34)))
  have HXB := Lib.hid ((hb2a.block _ (heap_lt HXA.out)).trans HXA.out)
  have HSB := Lib.hid (HSA.out.below hb2a)
  have HGB := Lib.hid (HGA.out.below hb2a)
  have HVB := Lib.hid (HVA.out.below hb2a)
  have HBB := Lib.hid (HBA.out.trans (hb2a.mono HBA.out.size))
  clear hb2 hb2a hx2 x0 x1
  go_upto_region 5 with fail
  generalize w2.alloc (.cells #[.int .i64 (gfF f gs vs).ver, .slice B2 m2 d2] 34) = W2 at *
  generalize w2.heap.size = p2 at *
  have x0 := (blk_cl (k := 0) HXB.out rfl).1
  have x1 := (blk_cl (k := 1) HXB.out rfl).1
  go_wp2_with fail
  refine (gfS_any _ _ _ _ _ _ _ _ _ f gs vs _ _ _ _ HSB.out HOK.out HGB.out HOG.out HVB.out hnv2).mono ?_
  rintro e w3 ⟨B3, m3, d3, rfl, hx3, hb3⟩
  obtain rfl : m3 = m2 := by rw [← hx3.len, ← HOB.out.len]
  have hb3a := hb3.alloc (Nat.le_trans hb3.size (Nat.le_refl _)) (.cells #[.int .i64 (gfF f gs vs).ver, .slice B3 m3 d3] 34)
  have HZC := Lib.hid (heap_new (w := w3) (o := .cells #[.int .i64 (gfF f gs vs).ver, .slice B3 m3 d3] 34) rfl)
  have HWC := Lib.hid (hx3.below ((Below.refl _ _).alloc (Nat.le_refl _) (.cells #[.int .i64 (gfF f gs vs).ver, .slice B3 m3 d3] 34)))
  have HXC := Lib.hid ((hb3a.block _ (heap_lt HXB.out)).trans HXB.out)
  have HYC := Lib.hid ((hb3a.block _ (heap_lt HYB.out)).trans HYB.out)
  have HSC := Lib.hid (HSB.out.below hb3a)
  have HGC := Lib.hid (HGB.out.below hb3a)
  have HVC := Lib.hid (HVB.out.below hb3a)
  have HOC := Lib.hid (HOB.out.below hb3a)
  have HBC := Lib.hid (HBB.out.trans (hb3a.mono HBB.out.size))
  clear hb3 hb3a hx3 x0 x1
  go_upto_region 6 with fail
  generalize w3.alloc (.cells #[.int .i64 (gfF f gs vs).ver, .slice B3 m3 d3] 34) = W3 at *
  generalize w3.heap.size = p3 at *
  have HGO := Lib.hid (gf_ok f gs vs)
  have HSF := Lib.hid (fun (w' : World) (h : Below W3.heap.size W3 w') => (sameFlow_same B2 B3 m3 d2 d3 (gfF f gs vs) _ _ w' (HOC.out.hat2.below h) HGO.out (HWC.out.hat2.below h)))
  have y0 := (blk_cl (k := 0) HYC.out rfl).1
  have y1 := (blk_cl (k := 1) HYC.out rfl).1
  have z0 := (blk_cl (k := 0) HZC.out rfl).1
  have z1 := (blk_cl (k := 1) HZC.out rfl).1
  have hzz : (gfB f gs vs != gfB f gs vs) = false := by simp
  have hze : (gfB f gs vs == gfB f gs vs) = true := by simp
  clear HXA HXB HYB HSA HSB HGA HGB HVA HVB HOB HBA HBB
  cases hp : gfB f gs vs
  · clear hp
    go_wp2_with fail
    refine (HSF.out W3 (Below.refl _ _)).mono ?_
    rintro e w4 ⟨rfl, hb4⟩
    have HY4 := Lib.hid ((hb4.block _ (heap_lt HYC.out)).trans HYC.out)
    have HZ4 := Lib.hid ((hb4.block _ (heap_lt HZC.out)).trans HZC.out)
    clear y0 y1 z0 z1
    have y0 := (blk_cl (k := 0) HY4.out rfl).1
    have y1 := (blk_cl (k := 1) HY4.out rfl).1
    have z0 := (blk_cl (k := 0) HZ4.out rfl).1
    have z1 := (blk_cl (k := 1) HZ4.out rfl).1
    go_wp2_with fail
    refine (HSF.out w4 hb4).mono ?_
    rintro e w5 ⟨rfl, hb5⟩
    go_wp2_with fail
    go_ret
    exact ⟨rfl, HBC.out.trans ((hb4.trans (hb5.mono hb4.size)).mono HBC.out.size)⟩
  have HP := Lib.hid hp
  clear hp hzz hze
  have hzz : (true != true) = false := rfl
  go_wp2_with fail
  refine (HSF.out W3 (Below.refl _ _)).mono ?_
  rintro e w4 ⟨rfl, hb4⟩
  have HX4 := Lib.hid ((hb4.block _ (heap_lt HXC.out)).trans HXC.out)
  have HY4 := Lib.hid ((hb4.block _ (heap_lt HYC.out)).trans HYC.out)
  have HZ4 := Lib.hid ((hb4.block _ (heap_lt HZC.out)).trans HZC.out)
  have HS4 := Lib.hid (HSC.out.below hb4)
  have HG4 := Lib.hid (HGC.out.below hb4)
  have HV4 := Lib.hid (HVC.out.below hb4)
  have HO4 := Lib.hid (HOC.out.below hb4)
  have HW4 := Lib.hid (HWC.out.below hb4)
  have HB4 := Lib.hid (HBC.out.trans (hb4.mono HBC.out.size))
  clear y0 y1 z0 z1 hb4 HSF HXC HYC HZC HSC HGC HVC HOC HWC HBC hzz
  have y0 := (blk_cl (k := 0) HY4.out rfl).1
  have y1 := (blk_cl (k := 1) HY4.out rfl).1
  go_wp2_with fail
  refine (closI_any _ _ _ _ _ _ gs vs _ _ _ HG4.out HOG.out HV4.out hnv2).mono ?_
  rintro e w5 ⟨C, q, cq, rfl, hnm, hb5⟩
  have hq8 : q ≤ 8 := by rw [← hnm.1]; exact clos_small
  have HN5 := Lib.hid hnm
  have HX5 := Lib.hid ((hb5.block _ (heap_lt HX4.out)).trans HX4.out)
  have HY5 := Lib.hid ((hb5.block _ (heap_lt HY4.out)).trans HY4.out)
  have HS5 := Lib.hid (HS4.out.below hb5)
  have HO5 := Lib.hid (HO4.out.below hb5)
  have HB5 := Lib.hid (HB4.out.trans (hb5.mono HB4.out.size))
  clear hnm hb5 y0 y1 HX4 HY4 HZ4 HS4 HG4 HV4 HO4 HW4 HB4
  have HPT := Lib.hid (gf_parts HP.out)
  go_wp2_with fail
  go_loopw [11] (fun i wr => ∃ k : Nat, k ≤ n1 ∧ i = .int .i64 (k : Int) ∧ Below w5.heap.size w5 wr) (fun i _ => n1 - (intOf i).toNat)
  case atStart => exact ⟨0, Nat.zero_le _, rfl, Below.refl _ _⟩
  case round =>
    obtain ⟨wo, rfl⟩ : ∃ wo : World, wo = wr := ⟨_, rfl⟩
    obtain ⟨k, hk, rfl, hbw0⟩ := hrel
    have HBW := Lib.hid hbw0; clear hbw0
    have HXW := Lib.hid ((HBW.out.block _ (heap_lt HX5.out)).trans HX5.out)
    have HYW := Lib.hid ((HBW.out.block _ (heap_lt HY5.out)).trans HY5.out)
    have HSW := Lib.hid (HS5.out.below HBW.out)
    have HOW := Lib.hid (HO5.out.below HBW.out)
    have HNW := Lib.hid (HN5.out.below HBW.out)
    have x0 := (blk_cl (k := 0) HXW.out rfl).1
    have x1 := (blk_cl (k := 1) HXW.out rfl).1
    by_cases hlt : k < n1
    · obtain ⟨b, off, rfl, ⟨_, hbl⟩, hcc⟩ := RStep.at_ HSW.out hlt
      obtain ⟨A', n', c', ⟨d1', _, _⟩, _, _⟩ := hcc k hlt
      clear hcc
      have hkl : k < f.steps.length := by rw [HLF.out]; exact hlt
      have hk0 : (0 : Int) ≤ (k : Int) := by omega
      have hk1 : (k : Int) < (n1 : Int) := by omega
      have hk2 : ¬ ((k : Int) < 0) := by omega
      have hhas : hasB (namesOf f.steps) (nth f.steps k).name = true := hasB_true.2 (List.mem_map.2 ⟨_, mem_nth hkl, rfl⟩)
      have HPP : Hid ((flowB (gfF f gs vs) && hasB (namesOf (gfF f gs vs).steps) (nth f.steps k).name) = !hasB (closL gs vs) (nth f.steps k).name) := Lib.hid (by
        rw [HPT.out.1, HPT.out.2.2.2, hhas]; rfl)
      clear hhas
      have D1 := Lib.hid d1'
      have HSB : Hid (∀ w', Below wo.heap.size wo w' → ((w'.cell? ⟨p1, 0, none⟩ = some (.int .i64 f.ver) ∧ w'.cell? ⟨p1, 1, none⟩ = some (.slice (some ⟨b, off, none⟩) n1 c1)) ∧ (w'.cell? ⟨p2, 0, none⟩ = some (.int .i64 (gfF f gs vs).ver) ∧ w'.cell? ⟨p2, 1, none⟩ = some (.slice B2 m3 d2))) ∧ w'.cell? ⟨b, off + k * 3, none⟩ = some (.string (nth f.steps k).name)) := Lib.hid (fun w' h => by
        have e1 := (h.block _ (heap_lt HXW.out)).trans HXW.out
        have e2 := (h.block _ (heap_lt HYW.out)).trans HYW.out
        exact ⟨⟨⟨(blk_cl (k := 0) e1 rfl).1, (blk_cl (k := 1) e1 rfl).1⟩, (blk_cl (k := 0) e2 rfl).1, (blk_cl (k := 1) e2 rfl).1⟩, (h.cell (p := ⟨b, off + k * 3, none⟩) hbl).trans D1.out⟩)
      clear d1'
      have HFI := Lib.hid (fun (cur : World) (h : Below wo.heap.size wo cur) => (findI_any B2 m3 d2 (gfF f gs vs) (nth f.steps k).name _ cur (HOW.out.hat2.below h) HGO.out).mono (R' := fun e w' => ∃ (s : Step) (A' : Option Addr) (n' c' : Nat), e = .returned (.tuple #[.agg #[.string s.name, .slice A' n' c', .bool s.undo], .bool (!hasB (closL gs vs) (nth f.steps k).name)]) ∧ Below wo.heap.size wo w' ∧ Below cur.heap.size cur w') (by
        rintro e w' ⟨s, A', n', c', h1, h2⟩
        rw [HPP.out] at h1
        exact ⟨s, A', n', c', h1, h.trans (h2.mono h.size), h2⟩))
      go_upto_region 12 with fail
      clear x0 x1
      go_cut [12, 13] (fun s12 s13 wx => ∃ b5 : Nat, s12 = .pointer (some ⟨b5, 0, none⟩) ∧ s13 = .bool (!hasB (closL gs vs) (nth f.steps k).name) ∧ Below wo.heap.size wo wx)
      case first =>
        go_region_held3 (fun w' => ((w'.cell? ⟨p1, 0, none⟩ = some (.int .i64 f.ver) ∧ w'.cell? ⟨p1, 1, none⟩ = some (.slice (some ⟨b, off, none⟩) n1 c1)) ∧ (w'.cell? ⟨p2, 0, none⟩ = some (.int .i64 (gfF f gs vs).ver) ∧ w'.cell? ⟨p2, 1, none⟩ = some (.slice B2 m3 d2))) ∧ w'.cell? ⟨b, off + k * 3, none⟩ = some (.string (nth f.steps k).name))
          ((refine HSB.out _ ?_; (repeat (first | with_reducible exact hbw | with_reducible exact Below.refl _ _ | apply Below.drew | refine Below.alloc ?_ (by first | exact hbw.size | (simp; done)) _ | refine Below.setCell ?_ (by exact Nat.le_refl _) _ | fail "x")); done))
          (first | (go_at_call 46; refine (HFI.out _ (by repeat (first | with_reducible exact Below.refl _ _ | apply Below.drew | refine Below.alloc ?_ (by first | exact hbw.size | (simp; done)) _))).mono ?_; rintro e w5 ⟨s5, A5, n5, c5, rfl, hbw, hb5⟩; (first | (have hz5 := (hb5.block wo.heap.size (by simp)).trans (heap_new (w := wo.drew) (b := wo.heap.size) (o := .cells #[.string ⟨#[]⟩, .slice none 0 0, .bool false] 75) rfl); obtain ⟨q0, q0'⟩ := blk_cl (k := 0) hz5 rfl; obtain ⟨q1, q1'⟩ := blk_cl (k := 1) hz5 rfl; obtain ⟨q2, q2'⟩ := blk_cl (k := 2) hz5 rfl) | skip)) | fail "no arm")
        all_goals
          go_wp2_with fail
          go_meet
          first
            | with_reducible exact ⟨_, rfl, rfl, hbw.alloc hbw.size _⟩
            | with_reducible exact ⟨_, rfl, rfl, ((hbw.setCell (p := ⟨wo.heap.size, 0, none⟩) (Nat.le_refl _) _).setCell (p := ⟨wo.heap.size, 1, none⟩) (Nat.le_refl _) _).setCell (p := ⟨wo.heap.size, 2, none⟩) (Nat.le_refl _) _⟩
            | fail "no meet"
      case rest =>
        obtain ⟨b5, rfl, rfl, hbc⟩ := hcut
        have HBC := Lib.hid (HBW.out.trans (hbc.mono HBW.out.size))
        obtain ⟨⟨⟨x0, x1⟩, _, _⟩, d1c⟩ := HSB.out _ hbc
        have HPL := Lib.hid (placeOf_any C q cq (closL gs vs) (nth f.steps k).name _ wc (HNW.out.below hbc) (by omega))
        clear hbc
        cases hcl : hasB (closL gs vs) (nth f.steps k).name
        · have hidx := idx_neg hcl
          have hid3 : decide (idxI (closL gs vs) (nth f.steps k).name < 0) = true := by rw [decide_eq_true_iff]; exact hidx
          clear hcl
          generalize idxI (closL gs vs) (nth f.steps k).name = zi at *
          go_wp2_with fail
          refine HPL.out.mono ?_
          rintro e w6 ⟨rfl, rfl⟩
          go_wp2_with fail
          go_roundw
          case rel => exact ⟨k + 1, by omega, by go_num, HBC.out⟩
          case measure => simp [intOf]; omega
        · have hidx := idx_pos hcl
          have hid2 : ¬ (idxI (closL gs vs) (nth f.steps k).name < 0) := by omega
          have hid3 : decide (idxI (closL gs vs) (nth f.steps k).name < 0) = false := by rw [decide_eq_false_iff_not]; exact hid2
          clear hcl
          generalize idxI (closL gs vs) (nth f.steps k).name = zi at *
          go_wp2_with fail
          refine HPL.out.mono ?_
          rintro e w6 ⟨rfl, rfl⟩
          go_wp2_with fail
          go_roundw
          case rel => exact ⟨k + 1, by omega, by go_num, HBC.out⟩
          case measure => simp [intOf]; omega
    · obtain rfl : k = n1 := by omega
      have HLE : Hid (m3 ≤ k) := Lib.hid (by rw [← HOW.out.len, ← HLF.out]; exact HPT.out.2.2.1)
      have hle := HLE.out
      have hle2 : (m3 : Int) ≤ (k : Int) := by omega
      have y0 := (blk_cl (k := 0) HYW.out rfl).1
      have y1 := (blk_cl (k := 1) HYW.out rfl).1
      go_wp2_with fail
      refine (flowI_any B2 m3 d2 (gfF f gs vs) _ _ HOW.out.hat2 HGO.out).mono ?_
      rintro e w7 ⟨rfl, hb7⟩
      rw [HPT.out.1]
      have HX7 := Lib.hid ((hb7.block _ (heap_lt HXW.out)).trans HXW.out)
      have HY7 := Lib.hid ((hb7.block _ (heap_lt HYW.out)).trans HYW.out)
      clear x0 x1 y0 y1
      have HY7b := Lib.hid HY7.out
      rw [HPT.out.2.1] at HY7b
      have x0 := (blk_cl (k := 0) HX7.out rfl).1
      have x1 := (blk_cl (k := 1) HX7.out rfl).1
      have y0 := (blk_cl (k := 0) HY7b.out rfl).1
      have y1 := (blk_cl (k := 1) HY7b.out rfl).1
      go_wp2_with fail
      go_ret
      exact ⟨rfl, HB5.out.trans ((HBW.out.trans (hb7.mono HBW.out.size)).mono HB5.out.size)⟩
end Go.Proofs.Ytakeijgoonagcaa

/- A set of names kept in a map of the call's own. -/
namespace Go.Proofs.Ytakeijgoonagcaa
open Go.RowKit

theorem key_law : Go.Maps.Keyed Try.prog 9 := Go.Maps.string_keyed Try.underlying9
theorem plainB_gen {P : Program} {e : TypeId} (he : P.underlying e = some .bool) {v : Value} {z : DataW Unit × List MemPlace} (h : plainElem (H := Unit) P e v = some z) : ∃ c, v = .bool c ∧ z = (.lit (.bool c), []) := by
  unfold plainElem at h
  rw [he] at h
  cases v <;> simp at h
  exact ⟨_, rfl, h.symm⟩
theorem plainB_inv {v : Value} {z : DataW Unit × List MemPlace} (h : plainElem (H := Unit) Try.prog 4 v = some z) : ∃ c, v = .bool c ∧ z = (.lit (.bool c), []) := plainB_gen Try.underlying4 h
/-- Block b holds a map of at most n entries: the names in S are in it. -/
def SMap (w : World) (b n : Nat) (S : List Str) : Prop :=
  ∃ D : DataW Unit, w.ownsMap Try.prog 9 (plainElem Try.prog 4) b n D ∧ ∀ x : Str, D.atKey (.string x.data.toList) (.lit (.bool false)) = .lit (.bool (hasB S x))
theorem data_ext {a b : Str} (h : a.data.toList = b.data.toList) : a = b := by
  cases a; cases b; simp at h; simp [h]
theorem SMap.made (w : World) : SMap (w.alloc (.map #[] 0)) w.heap.size 0 [] :=
  ⟨.map [], World.ownsMap_made _ _ _ _, fun x => by
    have : hasB [] x = false := rfl
    rw [this]; rfl⟩
theorem SMap.lt {w : World} {b n : Nat} {S : List Str} (h : SMap w b n S) : b < w.heap.size := by
  obtain ⟨D, h1, _⟩ := h
  exact h1.lt
theorem SMap.kept {w w' : World} {b n : Nat} {S : List Str} {row : Option Nat} (h : SMap w b n S) (hg : w.grownBy w' row) (hne : some b ≠ row) : SMap w' b n S := by
  obtain ⟨D, h1, h2⟩ := h
  exact ⟨D, h1.kept hg hne, h2⟩
theorem SMap.below {w w' : World} {b n : Nat} {S : List Str} (h : SMap w b n S) (hb : Below w.heap.size w w') : SMap w' b n S :=
  h.kept (row := none) ⟨hb.os, hb.tape, hb.output, hb.size, fun k hk _ => hb.block k hk⟩ (fun e => by cases e)
theorem SMap.same {w : World} {b n n' : Nat} {S S' : List Str} (h : SMap w b n S) (hn : n ≤ n') (hs : ∀ x, hasB S x = hasB S' x) : SMap w b n' S' := by
  obtain ⟨D, h1, h2⟩ := h
  exact ⟨D, h1.mono hn, fun x => by rw [h2, hs]⟩
theorem SMap.lookup {w : World} {b n : Nat} {S : List Str} {x : Str} (h : SMap w b n S) (hx : x.size ≤ maxLen) : (Instr.lookup 141 (.map (some b)) (.string x) false).run Try.prog w = .ok (.bool (hasB S x)) w := by
  obtain ⟨D, h1, h2⟩ := h
  obtain ⟨v, ps, hrun, hv⟩ := h1.lookup key_law Try.underlying141 (z := .bool false) (Try.zeroValue4 w) (plainElem_bool Try.underlying4 false) (Go.WideMaps.keyOf_string_mk Try.underlying9 hx)
  obtain ⟨c, rfl, hc⟩ := plainB_inv hv
  rw [h2 x] at hc
  simp at hc
  rw [hrun, hc.1]
theorem SMap.update {w : World} {b n : Nat} {S : List Str} {x : Str} (h : SMap w b n S) (hx : x.size ≤ maxLen) (hn : n < maxLen) :
    ∃ w', (Instr.mapUpdate 141 (.map (some b)) (.string x) (.bool true)).run Try.prog w = .ok () w' ∧ SMap w' b (n + 1) (x :: S) ∧ w.grownBy w' (some b) := by
  obtain ⟨D, h1, h2⟩ := h
  obtain ⟨w', hrun, h3, h4⟩ := h1.update key_law Try.underlying141 hn (Go.WideMaps.keyOf_string_mk Try.underlying9 hx) (plainElem_bool Try.underlying4 true)
  have hm : Go.Maps.IsMap D := by
    obtain ⟨es, clock, _, _, _, hD⟩ := h1
    exact ⟨_, hD⟩
  refine ⟨w', hrun, ⟨_, h3, fun y => ?_⟩, h4⟩
  by_cases e : y = x
  · subst e
    rw [Go.Maps.atKey_put_same hm (show WideAt.IsKeyLit (Lit.string _) from trivial)]
    simp [hasB]
  · rw [Go.Maps.atKey_put_other (fun e2 => e (data_ext (Lit.string.inj e2))), h2]
    simp [hasB, e]

/-! ### The loop over what a step comes after -/
def bhIn (S : List Str) (y : Str) (zs : List Str) (j : Nat) : List Str := if (zs.take j).any (hasB S) = true then y :: S else S
theorem bhIn_zero (S : List Str) (y : Str) (zs : List Str) : bhIn S y zs 0 = S := by simp [bhIn]
theorem bhIn_has {S : List Str} {y a : Str} {zs : List Str} {j : Nat} (h : a ≠ y) : hasB (bhIn S y zs j) a = hasB S a := by
  unfold bhIn
  split
  · simp [hasB, h]
  · rfl
theorem bhIn_no {S : List Str} {y : Str} {zs : List Str} {j : Nat} (hj : j < zs.length) (h : hasB S (nth zs j) = false) : bhIn S y zs (j + 1) = bhIn S y zs j := by
  unfold bhIn
  rw [take_nth hj, List.any_append]
  simp [h]
theorem bhIn_yes {S : List Str} {y : Str} {zs : List Str} {j : Nat} (hj : j < zs.length) (h : hasB S (nth zs j) = true) : ∀ x, hasB (y :: bhIn S y zs j) x = hasB (bhIn S y zs (j + 1)) x := by
  intro x
  have e : bhIn S y zs (j + 1) = y :: S := by
    unfold bhIn
    rw [take_nth hj, List.any_append, if_pos (by simp [h])]
  rw [e]
  unfold bhIn
  split <;> simp [hasB]
theorem bhIn_all {ss : List Step} {S : List Str} {y : Str} {j : Nat} (hj : (nth ss (plc ss y)).after.length ≤ j) : bhIn S y (nth ss (plc ss y)).after j = bhSt ss S y := by
  unfold bhIn bhSt
  rw [List.take_of_length_le hj]
def bhK (ss : List Step) (S : List Str) (x : Str) (k : Nat) : List Str := ((namesOf ss).take k).filter fun n => hasB S n && !decide (n = x)
theorem bhK_yes {ss : List Step} {S : List Str} {x : Str} {k : Nat} (hk : k < (namesOf ss).length) (h : hasB S (nth (namesOf ss) k) = true) (hne : nth (namesOf ss) k ≠ x) : bhK ss S x (k + 1) = bhK ss S x k ++ [nth (namesOf ss) k] := by
  unfold bhK; rw [take_nth hk, List.filter_append]; simp [h, hne]
theorem bhK_no {ss : List Step} {S : List Str} {x : Str} {k : Nat} (hk : k < (namesOf ss).length) (h : hasB S (nth (namesOf ss) k) = false ∨ nth (namesOf ss) k = x) : bhK ss S x (k + 1) = bhK ss S x k := by
  unfold bhK; rw [take_nth hk, List.filter_append]
  rcases h with h | h <;> simp [h]
theorem bhK_all {ss : List Step} {x : Str} {k : Nat} (hk : (namesOf ss).length ≤ k) : bhK ss (bhTo ss x (ordL ss) (ordL ss).length) x k = bhL ss x := by
  unfold bhK bhL; rw [List.take_of_length_le hk]
theorem bhK_len (ss : List Step) (S : List Str) (x : Str) (k : Nat) : (bhK ss S x k).length ≤ k := by
  unfold bhK
  exact Nat.le_trans (List.length_filter_le _ _) (List.length_take_le _ _)
theorem name_in {f : Flow} (h : flowB f = true) {x : Str} (hx : x ∈ namesOf f.steps) : x.size ≤ maxLen := by
  obtain ⟨j, hj, e⟩ := nth_of_mem hx
  rw [namesOf_len] at hj
  rw [namesOf_at hj] at e
  have := nameB_small (stepB_names (step_ok h hj)).1
  rw [e] at this
  unfold maxLen; omega
theorem after_name {f : Flow} (h : flowB f = true) {j i : Nat} (hj : j < f.steps.length) (hi : i < (nth f.steps j).after.length) : (nth (nth f.steps j).after i).size ≤ maxLen ∧ nth (nth f.steps j).after i ≠ (nth f.steps j).name ∧ (nth f.steps j).after.length ≤ 4 := by
  have hb := step_ok h hj
  obtain ⟨_, h4, h3⟩ := stepB_names hb
  refine ⟨by have := nameB_small (h3 _ (mem_nth hi)); unfold maxLen; omega, fun e => ?_, h4⟩
  unfold stepB at hb
  simp only [Bool.and_eq_true, Bool.not_eq_true'] at hb
  exact hasB_false.1 hb.1.2 (e ▸ mem_nth hi)
end Go.Proofs.Ytakeijgoonagcaa

/- What is behind a step: the program's walk. -/
namespace Go.Proofs.Ytakeijgoonagcaa
open Go.RowKit

theorem RH.gr {α : Type} [Inhabited α] {E : Elem α} {w w' : World} {lo hi n b : Nat} {A : Option Addr} {xs : List α} (h : RH E w lo hi A n xs) (hg : w.grownBy w' (some b)) (hs : hi ≤ w.heap.size) (hb : b < lo ∨ hi ≤ b) : RH E w' lo hi A n xs :=
  h.same ⟨fun i h1 h2 => hg.block i (by omega) (fun e => by injection e with e; omega)⟩
theorem below_gr {B b : Nat} {a w w' : World} (h : Below B a w) (hg : w.grownBy w' (some b)) (hb : B ≤ b) (hs : B ≤ w.heap.size) : Below B a w' :=
  h.grown hg hs (fun k hk => by injection hk with hk; omega)

set_option maxRecDepth 100000 in
set_option maxHeartbeats 8000000 in
theorem behindI_any (A : Option Addr) (n c : Nat) (f : Flow) (x : Str) (lo : Nat) (w : World) (hr : RStep w lo A n f.steps) (hf : flowB f = true) (hh : hasB (namesOf f.steps) x = true) :
    Calls Try.prog 48 #[.agg #[.int .i64 f.ver, .slice A n c], .string x] w fun e w' => ∃ C q cq, e = .returned (.slice C q cq) ∧ RStr w' w.heap.size C q (bhL f.steps x) ∧ Below w.heap.size w w' := by
  have HOK := Lib.hid (okSteps_of hf)
  have hn8 : n ≤ 8 := by rw [← hr.1]; exact (flowB_iff.1 hf).2.2.1.2
  have HLF := Lib.hid hr.1
  have HF := Lib.hid hf
  have hxs : x.size ≤ maxLen := name_in hf (hasB_true.1 hh)
  have hidx := idx_pos hh
  have HND := Lib.hid (flow_nodup hf)
  have HX0 := Lib.hid (heap_new (w := w) (o := .cells #[.int .i64 f.ver, .slice A n c] 34) rfl)
  have HB0 := Lib.hid ((Below.refl w.heap.size w).alloc (Nat.le_refl _) (.cells #[.int .i64 f.ver, .slice A n c] 34))
  have HRH := Lib.hid hr.low
  clear hr hf hh
  go_enter Try.func48, Try.ntmps48
  go_upto_region 1 with fail
  generalize w.alloc (.cells #[.int .i64 f.ver, .slice A n c] 34) = W at *
  have hpW := heap_lt HX0.out
  have HRW : Hid (RH stepE W lo w.heap.size A n f.steps) := Lib.hid (HRH.out.same (Same.of_below HB0.out))
  have f0 := (blk_cl (k := 0) HX0.out rfl).1
  have f1 := (blk_cl (k := 1) HX0.out rfl).1
  have HAT := Lib.hid (fun (cur : World) (h : Below W.heap.size W cur) => at_any A n c f.ver f.steps x lo cur ((HRW.out.up (Nat.le_of_lt hpW)).below h) (by omega))
  have hid2 : ¬ (idxI (namesOf f.steps) x < 0) := by omega
  have hid3 : decide (idxI (namesOf f.steps) x < 0) = false := by rw [decide_eq_false_iff_not]; exact hid2
  generalize idxI (namesOf f.steps) x = zi at *
  go_wp2_with (first | (go_at_call 47; refine (flowI_any A n c f lo _ (HRW.out.up (Nat.le_of_lt hpW)) HOK.out).mono ?_; clear f0 f1; rintro e w1 ⟨rfl, hb1⟩; rw [HF.out]; have HX1 := Lib.hid ((hb1.block _ (heap_lt HX0.out)).trans HX0.out); have f0 := (blk_cl (k := 0) HX1.out rfl).1; have f1 := (blk_cl (k := 1) HX1.out rfl).1) | fail "no arm")
  refine (HAT.out _ hb1).mono ?_
  rintro e w2 ⟨rfl, hb2⟩
  have hb2' := hb1.trans (hb2.mono hb1.size)
  have hw2 := hb2'.size
  obtain ⟨w3, hU, hS3, hg3⟩ := (SMap.made w2).update (x := x) hxs (by unfold maxLen; omega)
  have ha3 := World.grownBy_alloc w2 (.map #[] 0) (some w2.heap.size)
  have HG3 := Lib.hid (ha3.trans hg3)
  have hw3 : w2.heap.size + 1 ≤ w3.heap.size := by have := hg3.size; simpa using this
  have HX3 := Lib.hid (grown_blk HG3.out ((hb2'.block _ (heap_lt HX0.out)).trans HX0.out) (fun e => by injection e with e; omega))
  have HR3 := Lib.hid ((HRW.out.same (Same.of_below (hb2'.mono (Nat.le_of_lt hpW)))).gr HG3.out (by omega) (.inr (by omega)))
  have HB3 := Lib.hid (below_gr (HB0.out.trans (hb2'.mono (Nat.le_of_lt hpW))) HG3.out (by omega) (by omega))
  have HS3 := Lib.hid hS3
  clear f0 f1 hS3 hg3 ha3 hb1 hb2 hb2' HX1 HAT
  have f0 := (blk_cl (k := 0) HX3.out rfl).1
  have f1 := (blk_cl (k := 1) HX3.out rfl).1
  have hM := run_makeMap (P := Try.prog) 141 w2
  generalize hbm : w2.heap.size = bm at *
  clear hbm
  go_wp2_with fail
  refine (order_any A n c f.ver f.steps lo _ (HR3.out.up (by omega)) HOK.out).mono ?_
  rintro e w4 ⟨C4, c4, rfl, ho4, hb4⟩
  have HS4 := Lib.hid (HS3.out.below hb4)
  have HX4 := Lib.hid ((hb4.block _ (heap_lt HX3.out)).trans HX3.out)
  have HR4 := Lib.hid (HR3.out.same (Same.of_below (hb4.mono (show w.heap.size ≤ w3.heap.size by omega))))
  have HB4 := Lib.hid (HB3.out.trans (hb4.mono (show w.heap.size ≤ w3.heap.size by omega)))
  have hw4 := hb4.size
  have HO4 : Hid (RH strE w4 w3.heap.size w4.heap.size C4 (ordL f.steps).length (ordL f.steps)) := Lib.hid ho4
  have HSUB := Lib.hid (fun k (hk : k < (ordL f.steps).length) => (ordTo_nodup f.steps f.steps.length).2 _ (mem_nth (xs := ordL f.steps) hk))
  have hq8 : (ordL f.steps).length ≤ 8 := by
    have h1 : (ordL f.steps).length ≤ f.steps.length := ordTo_len2 _ _
    have h2 := HLF.out
    omega
  have HT0 : Hid (bhTo f.steps x (ordL f.steps) 0 = [x]) := Lib.hid rfl
  have HTS := Lib.hid (fun k (hk : k < (ordL f.steps).length) => bhTo_succ (ss := f.steps) (name := x) hk)
  have HKA := Lib.hid (fun k (hk : (namesOf f.steps).length ≤ k) => bhK_all (ss := f.steps) (x := x) hk)
  clear f0 f1 hU hM ho4 hb4 HX3 HR3 HB3 HS3 HG3 HX0 HB0 HRW HRH
  generalize ordL f.steps = ord at *
  generalize hql : ord.length = q at *
  have HQL := Lib.hid hql; clear hql
  have hbm3 : bm < w3.heap.size := by omega
  have hpb : w.heap.size < bm := by omega
  have hnpb : (some bm : Option Nat) ≠ some w.heap.size := fun e => by injection e with e; omega
  clear hw3 hw2
  generalize w3.heap.size = z3 at *
  go_wp2_with fail
  go_loopw [28] (fun i wr => ∃ k n' : Nat, k ≤ q ∧ i = .int .i64 (k : Int) ∧ n' ≤ 1 + 100 * k ∧ SMap wr bm n' (bhTo f.steps x ord k) ∧ w4.grownBy wr (some bm)) (fun i _ => q - (intOf i).toNat)
  case atStart => exact ⟨0, 1, Nat.zero_le _, rfl, by omega, by rw [HT0.out]; exact HS4.out, World.grownBy.refl _ _⟩
  case round =>
    obtain ⟨wo, rfl⟩ : ∃ wo : World, wo = wr := ⟨_, rfl⟩
    obtain ⟨k, n1, hk, rfl, hn1, hsm, hgw⟩ := hrel
    have HSM := Lib.hid hsm; clear hsm
    have HGW := Lib.hid hgw; clear hgw
    have hso := HGW.out.size
    have HXo := Lib.hid (grown_blk HGW.out HX4.out hnpb)
    have HRo := Lib.hid (HR4.out.gr HGW.out (by omega) (.inr (by omega)))
    have HOo := Lib.hid (HO4.out.gr HGW.out (Nat.le_refl _) (.inl hbm3))
    have HBo := Lib.hid (below_gr HB4.out HGW.out (by omega) (by omega))
    by_cases hlt : k < q
    · have hkq : k < ord.length := by rw [HQL.out]; exact hlt
      have hyn := HSUB.out k hlt
      obtain ⟨hpl, hix, hpn⟩ := plc_ex (hasB_true.2 hyn)
      have hys := name_in HF.out hyn
      have HTK := Lib.hid (HTS.out k hlt)
      obtain ⟨bo, oo, rfl, ⟨_, hbo⟩, hco⟩ := RStr.hat HOo.out hlt
      have o1 := (hco k hlt).1
      clear hco hyn
      generalize hyy : nth ord k = y at *
      have HPN := Lib.hid hpn
      have HIX := Lib.hid hix
      clear hix hpn hyy
      have HAL := Lib.hid (fun j S (hj : (nth f.steps (plc f.steps y)).after.length ≤ j) => bhIn_all (ss := f.steps) (S := S) (y := y) hj)
      generalize plc f.steps y = at0 at *
      have hat : at0 < n := by rw [← HLF.out]; exact hpl
      have HAN := Lib.hid (fun i (hi : i < (nth f.steps at0).after.length) => after_name HF.out hpl hi)
      obtain ⟨bs, os, rfl, ⟨_, hbs⟩, hcs⟩ := RStep.hat HRo.out hat
      obtain ⟨A', n', c', ⟨_, d2, _⟩, haf, _⟩ := hcs at0 hat
      clear hcs
      have HAF := Lib.hid haf
      have hn4 : n' ≤ 100 := by
        rw [← haf.1]
        have := (stepB_names (step_ok HF.out hpl)).2.1
        omega
      clear haf
      have hk0 : (0 : Int) ≤ (k : Int) := by omega
      have hk1 : (k : Int) < (q : Int) := by omega
      have hk2 : ¬ ((k : Int) < 0) := by omega
      have ha0 : (0 : Int) ≤ (at0 : Int) := by omega
      have ha1 : (at0 : Int) < (n : Int) := by omega
      have ha2 : ¬ ((at0 : Int) < 0) := by omega
      have hpo := heap_lt HXo.out
      have hbs2 : bs < wo.heap.size := by omega
      have F0 : ∀ z : Bl wo, z.wd.cell? ⟨w.heap.size, 0, none⟩ = some (.int .i64 f.ver) := fun z => (blk_cl (k := 0) ((z.below.block _ hpo).trans HXo.out) rfl).1
      have F1 : ∀ z : Bl wo, z.wd.cell? ⟨w.heap.size, 1, none⟩ = some (.slice (some ⟨bs, os, none⟩) n c) := fun z => (blk_cl (k := 1) ((z.below.block _ hpo).trans HXo.out) rfl).1
      have F2 : ∀ z : Bl wo, z.wd.cell? ⟨bs, os + at0 * 3 + 1, none⟩ = some (.slice A' n' c') := fun z => (z.below.cell (p := ⟨bs, os + at0 * 3 + 1, none⟩) hbs2).trans d2
      have HAT := Lib.hid (fun z : Bl wo => (at_any (some ⟨bs, os, none⟩) n c f.ver f.steps y lo z.wd ((HRo.out.up (by omega)).below z.below) (by omega)).mono (R' := fun e w' => e = .returned (.int .i64 (at0 : Int)) ∧ Below z.wd.heap.size z.wd w') (by
        rintro e w' ⟨h1, h2⟩
        exact ⟨by rw [h1, HIX.out], h2⟩))
      clear d2
      go_upto_region 7 with fail
      clear o1
      refine region_bl (by kernel_rfl) (by kernel_rfl) ?_
      repeat (go_big_quiet_step ((first | (go_at_call 99; exact q_bl (HAT.out _)) | fail "no arm")))
      refine wpQuiet_nil ?_
      intro _ hw'
      obtain ⟨z, rfl⟩ := hw'
      have HZ := Lib.hid z.below
      clear F0 F1 F2
      generalize z.wd = w7 at *
      have hw7 := HZ.out.size
      have HS7 := Lib.hid (HSM.out.below HZ.out)
      have HAF7 := Lib.hid (HAF.out.same (Same.of_below (HZ.out.mono (show w.heap.size ≤ wo.heap.size by omega))))
      have hbm7 : bm < w7.heap.size := HS7.out.lt
      clear HAT
      go_wp2_with fail
      go_loopw [41] (fun i wr => ∃ j n2 : Nat, j ≤ n' ∧ i = .int .i64 (j : Int) ∧ n2 ≤ n1 + j ∧ SMap wr bm n2 (bhIn (bhTo f.steps x ord k) y (nth f.steps at0).after j) ∧ w7.grownBy wr (some bm)) (fun i _ => n' - (intOf i).toNat)
      case atStart => exact ⟨0, n1, Nat.zero_le _, rfl, by omega, by rw [bhIn_zero]; exact HS7.out, World.grownBy.refl _ _⟩
      case round =>
        obtain ⟨wi, rfl⟩ : ∃ wi : World, wi = wr := ⟨_, rfl⟩
        obtain ⟨j, n2, hj, rfl, hn2, hsm, hgw⟩ := hrel
        have HSI := Lib.hid hsm; clear hsm
        have HGI := Lib.hid hgw; clear hgw
        have hsi := HGI.out.size
        by_cases hjl : j < n'
        · have hja : j < (nth f.steps at0).after.length := by rw [HAF.out.1]; exact hjl
          have HAFi := Lib.hid (HAF7.out.gr HGI.out (by omega) (.inr (by omega)))
          obtain ⟨ba, oa, rfl, ⟨_, hba⟩, hca⟩ := RStr.hat HAFi.out hjl
          have a1 := (hca j hjl).1
          clear hca
          obtain ⟨has, hay, _⟩ := HAN.out j hja
          have hj0 : (0 : Int) ≤ (j : Int) := by omega
          have hj1 : (j : Int) < (n' : Int) := by omega
          have hj2 : ¬ ((j : Int) < 0) := by omega
          have hL := HSI.out.lookup has
          rw [bhIn_has (by rw [← HPN.out]; exact hay)] at hL
          clear hay
          cases hin : hasB (bhTo f.steps x ord k) (nth (nth f.steps at0).after j)
          · rw [hin] at hL
            have HT := Lib.hid (bhIn_no (y := y) hja hin)
            clear hin
            go_wp2_with fail
            go_roundw
            case rel => exact ⟨j + 1, n2, by omega, by go_num, by omega, by rw [HT.out]; exact HSI.out, HGI.out⟩
            case measure => simp [intOf]; omega
          · rw [hin] at hL
            have HT := Lib.hid (bhIn_yes (y := y) hja hin)
            clear hin
            obtain ⟨w9, hU, hS9, hg9⟩ := HSI.out.update (x := y) hys (by unfold maxLen; omega)
            have HS9 := Lib.hid (hS9.same (Nat.le_refl _) HT.out)
            have HG9 := Lib.hid (HGI.out.trans hg9)
            clear hS9 hg9
            go_wp2_with fail
            go_roundw
            case rel => exact ⟨j + 1, n2 + 1, by omega, by go_num, by omega, HS9.out, HG9.out⟩
            case measure => simp [intOf]; omega
        · have hjn : j = n' := by omega
          have HFIN : Hid (bhIn (bhTo f.steps x ord k) y (nth f.steps at0).after j = bhTo f.steps x ord (k + 1)) := Lib.hid (by
            rw [HTK.out]
            exact HAL.out j _ (by rw [HAF.out.1]; omega))
          have HGF : Hid (w4.grownBy wi (some bm)) := Lib.hid ⟨HGI.out.os.trans (HZ.out.os.trans HGW.out.os), HGI.out.tape.trans (HZ.out.tape.trans HGW.out.tape), HGI.out.output.trans (HZ.out.output.trans HGW.out.output), by omega,
            fun i hi hne => (HGI.out.block i (by omega) hne).trans ((HZ.out.block i (by omega)).trans (HGW.out.block i hi hne))⟩
          go_wp2_with fail
          go_roundw
          case rel => exact ⟨k + 1, n2, by omega, by go_num, by omega, by rw [← HFIN.out]; exact HSI.out, HGF.out⟩
          case measure => simp [intOf]; omega
    · obtain rfl : k = q := by omega
      have f0 := (blk_cl (k := 0) HXo.out rfl).1
      have f1 := (blk_cl (k := 1) HXo.out rfl).1
      go_wp2_with fail
      refine (names_any A n c f.ver f.steps lo _ (HRo.out.up (by omega)) (by omega)).mono ?_
      rintro e w5 ⟨D5, d5, rfl, hn5, hb5⟩
      have HS5 := Lib.hid (HSM.out.below hb5)
      have HN5 := Lib.hid hn5
      have HB5 := Lib.hid (HBo.out.trans (hb5.mono (show w.heap.size ≤ wo.heap.size by omega)))
      have hw5 := hb5.size
      have HNL : Hid ((namesOf f.steps).length = n) := Lib.hid (by rw [namesOf_len]; exact HLF.out)
      have HNI := Lib.hid (fun k (hk : k < (namesOf f.steps).length) => name_in HF.out (mem_nth hk))
      clear f0 f1 hn5 hb5
      obtain ⟨S, HSE⟩ : ∃ S, Hid (S = bhTo f.steps x ord k) := ⟨_, Lib.hid rfl⟩
      rw [← HSE.out] at HS5
      go_wp2_with fail
      go_loopw [10, 55] (fun v i wr => ∃ j m : Nat, j ≤ n ∧ i = .int .i64 (j : Int) ∧ m ≤ j ∧ Own 9 1 w5 wr v m ((bhK f.steps S x j).map Value.string)) (fun _ i _ => n - (intOf i).toNat)
      case atStart => exact ⟨0, 0, Nat.zero_le _, rfl, Nat.le_refl _, ⟨World.ownsRow_nil _ _ _ _, Below.refl _ _⟩⟩
      case round =>
        obtain ⟨wi, rfl⟩ : ∃ wi : World, wi = wr := ⟨_, rfl⟩
        obtain ⟨j, m, hj, rfl, hm, how⟩ := hrel
        have HW := Lib.hid how; clear how
        by_cases hjl : j < n
        · have hjn : j < (namesOf f.steps).length := by rw [HNL.out]; exact hjl
          obtain ⟨ba, oa, rfl, ⟨_, hba⟩, hca⟩ := RStr.at_ (HN5.out.below HW.out.below) hjl
          have a1 := (hca j hjl).1
          clear hca
          have hys := HNI.out j hjn
          have hL := (HS5.out.below HW.out.below).lookup hys
          have hj0 : (0 : Int) ≤ (j : Int) := by omega
          have hj1 : (j : Int) < (n : Int) := by omega
          have hj2 : ¬ ((j : Int) < 0) := by omega
          cases hin : hasB S (nth (namesOf f.steps) j)
          · rw [hin] at hL
            have HT := Lib.hid (bhK_no (x := x) hjn (.inl hin))
            clear hin
            go_wp2_with fail
            go_roundw
            case rel => exact ⟨j + 1, m, by omega, by go_num, by omega, by rw [HT.out]; exact HW.out⟩
            case measure => simp [intOf]; omega
          · rw [hin] at hL
            by_cases hyx : nth (namesOf f.steps) j = x
            · have hq1 := seq_t hyx
              have HT := Lib.hid (bhK_no (S := S) hjn (.inr hyx))
              have hq2 : (!((nth (namesOf f.steps) j).toList == x.toList)) = false := by rw [hq1]; rfl
              clear hin hyx
              generalize nth (namesOf f.steps) j = y at *
              go_wp2_with fail
              go_roundw
              case rel => exact ⟨j + 1, m, by omega, by go_num, by omega, by rw [HT.out]; exact HW.out⟩
              case measure => simp [intOf]; omega
            · have hq1 := seq_f hyx
              have HT := Lib.hid (bhK_yes hjn hin hyx)
              have hq2 : (!((nth (namesOf f.steps) j).toList == x.toList)) = true := by rw [hq1]; rfl
              clear hin hyx
              generalize nth (namesOf f.steps) j = y at *
              go_wp2_with (at_builtin; refine app_str w5 _ m (bhK f.steps S x j) _ y ?c0 rfl (.tmp 67) (.tmp 69) rfl rfl rfl ?c1 (by omega) ?_)
              case c0 => exact HW.out.alloc _
              case c1 => first | exact heap_new rfl | exact Array.getElem_push_eq | simp [World.alloc]
              intro v' w' how' hg'
              go_wp2_with fail
              go_roundw
              case rel => exact ⟨j + 1, m + 1, by omega, by go_num, by omega, by rw [HT.out, List.map_append]; exact how'⟩
              case measure => simp [intOf]; omega
        · go_wp2_with fail
          go_ret
          obtain ⟨A', c', rfl, hrs⟩ := own_str HW.out.row
          have hbe := HW.out.below
          have e9 : bhK f.steps S x j = bhL f.steps x := by
            rw [HSE.out]
            exact HKA.out j (by rw [HNL.out]; omega)
          rw [e9] at hrs
          exact ⟨_, _, _, rfl, hrs.lower (by omega), HB5.out.trans (hbe.mono (by omega))⟩
end Go.Proofs.Ytakeijgoonagcaa

/- FnGuardsBehind: the walk. -/
namespace Go.Proofs.Ytakeijgoonagcaa
open Go.RowKit

theorem app_strWB {w : World} {ops : Array Oper} {rest : List Oper} {o : Oper} {a : Act} {Q : Exit → Act → World → Prop} (w0 : World) (v : Value) (n : Nat) (ys : List Str) (b : Nat) (s : Str) (hown : Own 9 1 w0 w v n (ys.map Value.string))
    (hgd : o.guard = none) (l x : Operand) (ho : o.op = .call { callee := .builtin .append, args := #[l, x], argTypes := #[29, 29] })
    (hs : a.eval l = v) (hx : a.eval x = .slice (some ⟨b, 0, none⟩) 1 1) (hb : w.heap[b]? = some (.cells #[.string s] 9 (0, 0))) (hn : n ≤ 1048576)
    (h : ∀ v' w', Own 9 1 w0 w' v' (n + 1) ((ys ++ [s]).map Value.string) → w.grownBy w' v.ownBlock → (v'.ownBlock = v.ownBlock ∨ v'.ownBlock = some w.heap.size) → wpList Try.prog ops Q rest (a.put o.dst v') w') : wpList Try.prog ops Q (o :: rest) a w :=
  wpList_plain hgd fun _ hK => wapp 29 9 1 16 _ Try.underlying29 info_str rfl (by omega) (by omega) w0.heap.size v n _ [.string s] b hown.row l x ho hs hx hb rfl (by simp [Value.oneCell']) hn hown.below.size
    fun v' w' h1 h2 h3 => hK _ _ (h v' w' (hown.next (by simpa using h1) h2) h2 h3)
/-- The row's block is none of those from lo up to hi. -/
def Apart (lo hi : Nat) (v : Value) : Prop := ∀ g, v.ownBlock = some g → g < lo ∨ hi ≤ g
def fcl (cl xs : List Str) (j : Nat) : List Str := (xs.take j).filter fun x => !hasB cl x
theorem fcl_yes {cl xs : List Str} {j : Nat} (hj : j < xs.length) (h : hasB cl (nth xs j) = false) : fcl cl xs (j + 1) = fcl cl xs j ++ [nth xs j] := by
  unfold fcl; rw [take_nth hj, List.filter_append]; simp [h]
theorem fcl_no {cl xs : List Str} {j : Nat} (hj : j < xs.length) (h : hasB cl (nth xs j) = true) : fcl cl xs (j + 1) = fcl cl xs j := by
  unfold fcl; rw [take_nth hj, List.filter_append]; simp [h]
theorem fcl_len (cl xs : List Str) (j : Nat) : (fcl cl xs j).length ≤ j := by
  unfold fcl
  exact Nat.le_trans (List.length_filter_le _ _) (List.length_take_le _ _)
theorem bhL_len (ss : List Step) (x : Str) : (bhL ss x).length ≤ ss.length := by
  unfold bhL
  have := List.length_filter_le (fun n => hasB (bhTo ss x (ordL ss) (ordL ss).length) n && !decide (n = x)) (namesOf ss)
  rwa [namesOf_len] at this

set_option maxRecDepth 100000 in
set_option maxHeartbeats 4000000 in
theorem fnGuardsBehind_any (A : Option Addr) (n c : Nat) (w : World) (hr : RByte w A n) (hc : n ≤ c) :
    Calls Try.prog 12 #[.slice A n c] w fun e w' => e = .returned (.bool true) ∧ Below w.heap.size w w' := by
  have HR := Lib.hid hr; clear hr
  by_cases hn : 1048576 < n
  · go_enter Try.func12, Try.ntmps12
    go_wp2_with fail
    go_ret
    exact ⟨rfl, Below.refl _ _⟩
  go_enter Try.func12, Try.ntmps12
  go_wp2_with fail
  refine (drawGuardsFlow_any _ _ _ _ HR.out hc (by omega)).mono ?_
  rintro e w1 ⟨f, A1, n1, c1, G1, ng, cg, gs, V1, nv, cv, vs, rfl, hs, hok, h1n, h6n, hg, hokg, hv, hnv, hb1⟩
  have HOK := Lib.hid hok; clear hok
  have HOG := Lib.hid hokg; clear hokg
  have HLF := Lib.hid hs.1
  have hnv2 : nv ≤ 1048576 := by omega
  have HSA := Lib.hid (hs.alloc (.cells #[.int .i64 f.ver, .slice A1 n1 c1] 34)); clear hs
  have HGA := Lib.hid (hg.alloc (.cells #[.int .i64 f.ver, .slice A1 n1 c1] 34)); clear hg
  have HVA := Lib.hid (hv.alloc (.cells #[.int .i64 f.ver, .slice A1 n1 c1] 34)); clear hv
  have HBA := Lib.hid (hb1.alloc hb1.size (.cells #[.int .i64 f.ver, .slice A1 n1 c1] 34))
  have HXA := Lib.hid (heap_new (w := w1) (o := .cells #[.int .i64 f.ver, .slice A1 n1 c1] 34) rfl)
  clear hb1
  go_upto_region 4 with fail
  generalize w1.alloc (.cells #[.int .i64 f.ver, .slice A1 n1 c1] 34) = W1 at *
  generalize w1.heap.size = p1 at *
  have x0 := (blk_cl (k := 0) HXA.out rfl).1
  have x1 := (blk_cl (k := 1) HXA.out rfl).1
  go_wp2_with fail
  refine (gfI_any _ _ _ _ _ _ _ _ _ f gs vs _ _ _ _ HSA.out HOK.out HGA.out HOG.out HVA.out hnv2).mono ?_
  rintro e w2 ⟨B2, m2, d2, rfl, hx2, hb2⟩
  have hb2a := hb2.alloc (Nat.le_trans hb2.size (Nat.le_refl _)) (.cells #[.int .i64 (gfF f gs vs).ver, .slice B2 m2 d2] 34)
  have HYB := Lib.hid (heap_new (w := w2) (o := .cells #[.int .i64 (gfF f gs vs).ver, .slice B2 m2 d2] 34) rfl)
  have HOB := Lib.hid (hx2.below ((Below.refl _ _).alloc (Nat.le_refl _) (.cells #[.int .i64 (gfF f gs vs).ver, .slice B2 m2 d2] 34)))
  have HXB := Lib.hid ((hb2a.block _ (heap_lt HXA.out)).trans HXA.out)
  have HSB := Lib.hid (HSA.out.below hb2a)
  have HGB := Lib.hid (HGA.out.below hb2a)
  have HVB := Lib.hid (HVA.out.below hb2a)
  have HBB := Lib.hid (HBA.out.trans (hb2a.mono HBA.out.size))
  clear hb2 hb2a hx2 x0 x1
  go_upto_region 5 with fail
  generalize w2.alloc (.cells #[.int .i64 (gfF f gs vs).ver, .slice B2 m2 d2] 34) = W2 at *
  generalize w2.heap.size = p2 at *
  have x0 := (blk_cl (k := 0) HXB.out rfl).1
  have x1 := (blk_cl (k := 1) HXB.out rfl).1
  go_wp2_with fail
  refine (gfS_any _ _ _ _ _ _ _ _ _ f gs vs _ _ _ _ HSB.out HOK.out HGB.out HOG.out HVB.out hnv2).mono ?_
  rintro e w3 ⟨B3, m3, d3, rfl, hx3, hb3⟩
  obtain rfl : m3 = m2 := by rw [← hx3.len, ← HOB.out.len]
  have hb3a := hb3.alloc (Nat.le_trans hb3.size (Nat.le_refl _)) (.cells #[.int .i64 (gfF f gs vs).ver, .slice B3 m3 d3] 34)
  have HZC := Lib.hid (heap_new (w := w3) (o := .cells #[.int .i64 (gfF f gs vs).ver, .slice B3 m3 d3] 34) rfl)
  have HWC := Lib.hid (hx3.below ((Below.refl _ _).alloc (Nat.le_refl _) (.cells #[.int .i64 (gfF f gs vs).ver, .slice B3 m3 d3] 34)))
  have HXC := Lib.hid ((hb3a.block _ (heap_lt HXB.out)).trans HXB.out)
  have HYC := Lib.hid ((hb3a.block _ (heap_lt HYB.out)).trans HYB.out)
  have HSC := Lib.hid (HSB.out.below hb3a)
  have HGC := Lib.hid (HGB.out.below hb3a)
  have HVC := Lib.hid (HVB.out.below hb3a)
  have HOC := Lib.hid (HOB.out.below hb3a)
  have HBC := Lib.hid (HBB.out.trans (hb3a.mono HBB.out.size))
  clear hb3 hb3a hx3 x0 x1
  go_upto_region 6 with fail
  generalize w3.alloc (.cells #[.int .i64 (gfF f gs vs).ver, .slice B3 m3 d3] 34) = W3 at *
  generalize w3.heap.size = p3 at *
  have HGO := Lib.hid (gf_ok f gs vs)
  have HSF := Lib.hid (fun (w' : World) (h : Below W3.heap.size W3 w') => (sameFlow_same B2 B3 m3 d2 d3 (gfF f gs vs) _ _ w' (HOC.out.hat2.below h) HGO.out (HWC.out.hat2.below h)))
  have y0 := (blk_cl (k := 0) HYC.out rfl).1
  have y1 := (blk_cl (k := 1) HYC.out rfl).1
  have z0 := (blk_cl (k := 0) HZC.out rfl).1
  have z1 := (blk_cl (k := 1) HZC.out rfl).1
  have hzz : (gfB f gs vs != gfB f gs vs) = false := by simp
  have hze : (gfB f gs vs == gfB f gs vs) = true := by simp
  clear HXA HXB HYB HSA HSB HGA HGB HVA HVB HOB HBA HBB
  cases hp : gfB f gs vs
  · clear hp
    go_wp2_with fail
    refine (HSF.out W3 (Below.refl _ _)).mono ?_
    rintro e w4 ⟨rfl, hb4⟩
    have HY4 := Lib.hid ((hb4.block _ (heap_lt HYC.out)).trans HYC.out)
    have HZ4 := Lib.hid ((hb4.block _ (heap_lt HZC.out)).trans HZC.out)
    clear y0 y1 z0 z1
    have y0 := (blk_cl (k := 0) HY4.out rfl).1
    have y1 := (blk_cl (k := 1) HY4.out rfl).1
    have z0 := (blk_cl (k := 0) HZ4.out rfl).1
    have z1 := (blk_cl (k := 1) HZ4.out rfl).1
    go_wp2_with fail
    refine (HSF.out w4 hb4).mono ?_
    rintro e w5 ⟨rfl, hb5⟩
    go_wp2_with fail
    go_ret
    exact ⟨rfl, HBC.out.trans ((hb4.trans (hb5.mono hb4.size)).mono HBC.out.size)⟩
  have HP := Lib.hid hp
  clear hp hzz hze
  have hzz : (true != true) = false := rfl
  go_wp2_with fail
  refine (HSF.out W3 (Below.refl _ _)).mono ?_
  rintro e w4 ⟨rfl, hb4⟩
  have HX4 := Lib.hid ((hb4.block _ (heap_lt HXC.out)).trans HXC.out)
  have HY4 := Lib.hid ((hb4.block _ (heap_lt HYC.out)).trans HYC.out)
  have HZ4 := Lib.hid ((hb4.block _ (heap_lt HZC.out)).trans HZC.out)
  have HS4 := Lib.hid (HSC.out.below hb4)
  have HG4 := Lib.hid (HGC.out.below hb4)
  have HV4 := Lib.hid (HVC.out.below hb4)
  have HO4 := Lib.hid (HOC.out.below hb4)
  have HW4 := Lib.hid (HWC.out.below hb4)
  have HB4 := Lib.hid (HBC.out.trans (hb4.mono HBC.out.size))
  clear y0 y1 z0 z1 hb4 HSF HXC HYC HZC HSC HGC HVC HOC HWC HBC hzz
  have y0 := (blk_cl (k := 0) HY4.out rfl).1
  have y1 := (blk_cl (k := 1) HY4.out rfl).1
  go_wp2_with fail
  refine (closI_any _ _ _ _ _ _ gs vs _ _ _ HG4.out HOG.out HV4.out hnv2).mono ?_
  rintro e w5 ⟨C, q, cq, rfl, hnm, hb5⟩
  have hq8 : q ≤ 8 := by rw [← hnm.1]; exact clos_small
  have HN5 := Lib.hid hnm
  have HX5 := Lib.hid ((hb5.block _ (heap_lt HX4.out)).trans HX4.out)
  have HY5 := Lib.hid ((hb5.block _ (heap_lt HY4.out)).trans HY4.out)
  have HS5 := Lib.hid (HS4.out.below hb5)
  have HO5 := Lib.hid (HO4.out.below hb5)
  have HB5 := Lib.hid (HB4.out.trans (hb5.mono HB4.out.size))
  clear hnm hb5 y0 y1 HX4 HY4 HZ4 HS4 HG4 HV4 HO4 HW4 HB4
  have HPT := Lib.hid (gf_parts HP.out)
  have HFV : Hid (flowB f = true) := Lib.hid (by have h := HP.out; unfold gfB at h; simp only [Bool.and_eq_true] at h; exact h.1)
  have HF8 := Lib.hid (flowB_iff.1 HFV.out).2.2.1.2
  have hm8 : m3 ≤ 8 := by have h1 := HO5.out.len; have h2 := HPT.out.2.2.1; have h3 := HF8.out; omega
  go_wp2_with fail
  go_loopw [11] (fun i wr => ∃ k : Nat, k ≤ m3 ∧ i = .int .i64 (k : Int) ∧ Below w5.heap.size w5 wr) (fun i _ => m3 - (intOf i).toNat)
  case atStart => exact ⟨0, Nat.zero_le _, rfl, Below.refl _ _⟩
  case round =>
    obtain ⟨wo, rfl⟩ : ∃ wo : World, wo = wr := ⟨_, rfl⟩
    obtain ⟨k, hk, rfl, hbw0⟩ := hrel
    have HBW := Lib.hid hbw0; clear hbw0
    have HXW := Lib.hid ((HBW.out.block _ (heap_lt HX5.out)).trans HX5.out)
    have HYW := Lib.hid ((HBW.out.block _ (heap_lt HY5.out)).trans HY5.out)
    have HSW := Lib.hid (HS5.out.below HBW.out)
    have HOW := Lib.hid (HO5.out.below HBW.out)
    have HNW := Lib.hid (HN5.out.below HBW.out)
    have y0 := (blk_cl (k := 0) HYW.out rfl).1
    have y1 := (blk_cl (k := 1) HYW.out rfl).1
    by_cases hlt : k < m3
    · obtain ⟨b, off, rfl, ⟨_, hbl⟩, hcc⟩ := RStep.at_ HOW.out.hat2 hlt
      obtain ⟨A', n', c', ⟨d1', _, _⟩, _, _⟩ := hcc k hlt
      clear hcc
      have hkl : k < (gfF f gs vs).steps.length := by rw [HOW.out.len]; exact hlt
      have hk0 : (0 : Int) ≤ (k : Int) := by omega
      have hk1 : (k : Int) < (m3 : Int) := by omega
      have hk2 : ¬ ((k : Int) < 0) := by omega
      have HINO : Hid (hasB (namesOf (gfF f gs vs).steps) (nth (gfF f gs vs).steps k).name = true) := Lib.hid (hasB_true.2 (List.mem_map.2 ⟨_, mem_nth hkl, rfl⟩))
      have HI2 := Lib.hid (by have h := HINO.out; rw [HPT.out.2.2.2, Bool.and_eq_true] at h; exact h)
      have HIN := Lib.hid HI2.out.1
      have HNC : Hid ((nth (gfF f gs vs).steps k).name ∉ closL gs vs) := Lib.hid (by have h := HI2.out.2; rw [Bool.not_eq_true'] at h; exact hasB_false.1 h)
      have HSAME := Lib.hid (gb_same HP.out HNC.out)
      clear hkl HI2 HNC
      generalize (nth (gfF f gs vs).steps k).name = nm at *
      have D1 := Lib.hid d1'
      have HSB : Hid (∀ w', Below wo.heap.size wo w' → (fun w' : World => ((w'.cell? ⟨p1, 0, none⟩ = some (.int .i64 f.ver) ∧ w'.cell? ⟨p1, 1, none⟩ = some (.slice A1 n1 c1)) ∧ (w'.cell? ⟨p2, 0, none⟩ = some (.int .i64 (gfF f gs vs).ver) ∧ w'.cell? ⟨p2, 1, none⟩ = some (.slice (some ⟨b, off, none⟩) m3 d2))) ∧ w'.cell? ⟨b, off + k * 3, none⟩ = some (.string nm)) w') := Lib.hid (fun w' h => by
        have e1 := (h.block _ (heap_lt HXW.out)).trans HXW.out
        have e2 := (h.block _ (heap_lt HYW.out)).trans HYW.out
        exact ⟨⟨⟨(blk_cl (k := 0) e1 rfl).1, (blk_cl (k := 1) e1 rfl).1⟩, (blk_cl (k := 0) e2 rfl).1, (blk_cl (k := 1) e2 rfl).1⟩, (h.cell (p := ⟨b, off + k * 3, none⟩) hbl).trans D1.out⟩)
      clear d1'
      have HBA := Lib.hid ((Below.refl wo.heap.size wo).alloc (Nat.le_refl _) (.cells #[] 9))
      have HOA : Hid (Own 9 1 wo (wo.alloc (.cells #[] 9)) (.slice (some ⟨wo.heap.size, 0, none⟩) 0 0) 0 []) := Lib.hid ⟨World.ownsRow_made wo #[] 0 (Nat.le_refl _) (Nat.zero_le _) rfl, HBA.out⟩
      have hwa : (wo.alloc (.cells #[] 9)).heap.size = wo.heap.size + 1 := by simp
      have hwa1 : wo.heap.size < (wo.alloc (.cells #[] 9)).heap.size := by omega
      clear hwa
      go_upto_region 13 with fail
      clear y0 y1
      generalize wo.alloc (.cells #[] 9) = wa at *
      refine wp_region_held_drew (S := fun w' : World => ((w'.cell? ⟨p1, 0, none⟩ = some (.int .i64 f.ver) ∧ w'.cell? ⟨p1, 1, none⟩ = some (.slice A1 n1 c1)) ∧ (w'.cell? ⟨p2, 0, none⟩ = some (.int .i64 (gfF f gs vs).ver) ∧ w'.cell? ⟨p2, 1, none⟩ = some (.slice (some ⟨b, off, none⟩) m3 d2))) ∧ w'.cell? ⟨b, off + k * 3, none⟩ = some (.string nm)) (by kernel_rfl) (HSB.out _ HBA.out.drew) (fun hH => ?_)
      refine wpAnyH_takeE (i := 0) (d := some 70) (v := ?v701) rfl (by rfl) (by kernel_rfl) (by kernel_rfl) (by kernel_rfl) (fun _ _ _ h => h) (Or.inl ⟨by rfl, ?y701⟩) hH ?r701
      case y701 => (intro w' hS; (try dsimp only at hS); go_simp; (try with_reducible rfl))
      (try simp only [Act.put, List.setIfInBounds_toArray, List.set_cons_zero, List.set_cons_succ])
      refine wpAnyH_takeE (i := 1) (d := some 71) (v := ?v702) rfl (by rfl) (by kernel_rfl) (by kernel_rfl) (by kernel_rfl) (fun _ _ _ h => h) (Or.inl ⟨by rfl, ?y702⟩) hH ?r702
      case y702 => (intro w' hS; (try dsimp only at hS); go_simp; (try with_reducible rfl))
      (try simp only [Act.put, List.setIfInBounds_toArray, List.set_cons_zero, List.set_cons_succ])
      refine wpAnyH_takeE (i := 2) (d := some 72) (v := ?v703) rfl (by rfl) (by kernel_rfl) (by kernel_rfl) (by kernel_rfl) (fun _ _ _ h => h) (Or.inl ⟨by rfl, ?y703⟩) hH ?r703
      case y703 => (intro w' hS; (try dsimp only at hS); go_simp; (try with_reducible rfl))
      (try simp only [Act.put, List.setIfInBounds_toArray, List.set_cons_zero, List.set_cons_succ])
      refine wpAnyH_takeE (i := 3) (d := some 73) (v := ?v704) rfl (by rfl) (by kernel_rfl) (by kernel_rfl) (by kernel_rfl) (fun _ _ _ h => h) (Or.inl ⟨by rfl, ?y704⟩) hH ?r704
      case y704 => (intro w' hS; (try dsimp only at hS); go_simp; (try with_reducible rfl))
      (try simp only [Act.put, List.setIfInBounds_toArray, List.set_cons_zero, List.set_cons_succ])
      refine wpAnyH_takeE (i := 4) (d := some 74) (v := ?v705) rfl (by rfl) (by kernel_rfl) (by kernel_rfl) (by kernel_rfl) (fun _ _ _ h => h) (Or.inl ⟨by rfl, ?y705⟩) hH ?r705
      case y705 => (intro w' hS; (try dsimp only at hS); go_simp; (try with_reducible rfl))
      (try simp only [Act.put, List.setIfInBounds_toArray, List.set_cons_zero, List.set_cons_succ])
      refine wpAnyH_takeE (i := 5) (d := some 75) (v := ?v706) rfl (by rfl) (by kernel_rfl) (by kernel_rfl) (by kernel_rfl) (fun _ _ _ h => h) (Or.inl ⟨by rfl, ?y706⟩) hH ?r706
      case y706 => (intro w' hS; (try dsimp only at hS); go_simp; (try with_reducible rfl))
      (try simp only [Act.put, List.setIfInBounds_toArray, List.set_cons_zero, List.set_cons_succ])
      refine wpAnyH_takeE (i := 6) (d := some 76) (v := ?v707) rfl (by rfl) (by kernel_rfl) (by kernel_rfl) (by kernel_rfl) (fun _ _ _ h => h) (Or.inl ⟨by rfl, ?y707⟩) hH ?r707
      case y707 => (intro w' hS; (try dsimp only at hS); go_simp; (try with_reducible rfl))
      (try simp only [Act.put, List.setIfInBounds_toArray, List.set_cons_zero, List.set_cons_succ])
      refine wpAnyH_ready (rs := [7]) (by kernel_rfl) (by simp) ?_
      refine AllReadyH.cons rfl (fun K hK => ?_) AllReadyH.nil
      go_wp2_with fail
      go_at_call 48
      refine (behindI_any A1 n1 c1 f nm _ _ (HSW.out.below HBA.out.drew) HFV.out HIN.out).mono ?_
      rintro e wb ⟨X, qx, cx, rfl, hx, hbb⟩
      have HBB := Lib.hid (HBA.out.drew.trans (hbb.mono HBA.out.size))
      have HXR : Hid (RH strE wb wa.heap.size wb.heap.size X qx (bhL f.steps nm)) := Lib.hid hx
      go_wp2_with fail
      refine hK.out _ _ (HSB.out _ HBB.out) (fun hH2 => ?_)
      clear hK K hH
      have hH := hH2
      (try simp only [Act.put, List.setIfInBounds_toArray, List.set_cons_zero, List.set_cons_succ])
      refine wpAnyH_ready (rs := [8]) (by kernel_rfl) (by simp) ?_
      refine AllReadyH.cons rfl (fun K hK => ?_) AllReadyH.nil
      go_simp
      refine hK.out _ _ (HSB.out _ HBB.out) (fun hH2 => ?_)
      clear hK K hH
      have hH := hH2
      (try simp only [Act.put, List.setIfInBounds_toArray, List.set_cons_zero, List.set_cons_succ])
      refine wpAnyH_done (by kernel_rfl) ?_ _
      have HOB := Lib.hid (HOA.out.below_ ((Below.refl wa.heap.size wa).drew.trans hbb))
      have hwb := hbb.size
      have hwab : wa.heap.size ≤ wb.heap.size := hwb
      clear hx hbb
      have HAP : Hid (Apart wa.heap.size wb.heap.size (.slice (some ⟨wo.heap.size, 0, none⟩) 0 0)) := Lib.hid (fun g hg => by
        have : wo.heap.size = g := by simpa [Value.ownBlock] using hg
        omega)
      have hqx : qx ≤ 8 := by rw [← HXR.out.1]; exact Nat.le_trans (bhL_len _ _) HF8.out
      have HQX := Lib.hid HXR.out.1
      generalize hxs : bhL f.steps nm = xs at *
      clear hxs
      go_wp2_with fail
      go_loopw [12, 14] (fun v i wr => ∃ j m2 : Nat, j ≤ qx ∧ i = .int .i64 (j : Int) ∧ m2 ≤ j ∧ Own 9 1 wo wr v m2 ((fcl (closL gs vs) xs j).map Value.string) ∧ Apart wa.heap.size wb.heap.size v ∧ RH strE wr wa.heap.size wb.heap.size X qx xs ∧ wb.heap.size ≤ wr.heap.size) (fun _ i _ => qx - (intOf i).toNat)
      case atStart => exact ⟨0, 0, Nat.zero_le _, rfl, Nat.le_refl _, HOB.out, HAP.out, HXR.out, Nat.le_refl _⟩
      case round =>
        obtain ⟨wi, rfl⟩ : ∃ wi : World, wi = wr := ⟨_, rfl⟩
        obtain ⟨j, m2, hj, rfl, hm2, how, hap, hxr, hsi⟩ := hrel
        have HWI := Lib.hid how; clear how
        have HAPI := Lib.hid hap; clear hap
        have HXI := Lib.hid hxr; clear hxr
        have HBI := Lib.hid HWI.out.below
        obtain ⟨Aa0, ca0, hva, _⟩ := own_str HWI.out.row
        by_cases hjl : j < qx
        · obtain ⟨bx, ox, rfl, ⟨hbx1, hbx2⟩, hcx⟩ := RStr.hat HXI.out hjl
          have a1 := (hcx j hjl).1
          clear hcx
          have a1a := fun o => (World.cell?_alloc_some wi _ o (by rw [a1]; rfl)).trans a1
          have hjx : j < xs.length := by rw [HQX.out]; exact hjl
          have hj0 : (0 : Int) ≤ (j : Int) := by omega
          have hj1 : (j : Int) < (qx : Int) := by omega
          have hj2 : ¬ ((j : Int) < 0) := by omega
          have HPL := Lib.hid (placeOf_any C q cq (closL gs vs) (nth xs j) _ wi (HNW.out.below HBI.out) (by omega))
          cases hcl : hasB (closL gs vs) (nth xs j)
          · have hidx := idx_neg hcl
            have HT := Lib.hid (fcl_yes hjx hcl)
            have hid3 : decide (idxI (closL gs vs) (nth xs j) < 0) = true := by rw [decide_eq_true_iff]; exact hidx
            clear hcl
            generalize idxI (closL gs vs) (nth xs j) = zi at *
            subst hva
            go_wp2_with fail
            refine HPL.out.mono ?_
            rintro e w6 ⟨rfl, rfl⟩
            go_wp2_with (at_builtin; refine app_strWB wo _ m2 (fcl (closL gs vs) xs j) _ (nth xs j) ?c0 rfl (.tmp 91) (.tmp 96) rfl rfl rfl ?c1 (by omega) ?_)
            case c0 => exact HWI.out.alloc _
            case c1 => exact heap_new (by simp)
            intro v' w' how' hg' hat'
            have HW9 := Lib.hid how'
            have HA9 : Hid (Apart wa.heap.size wb.heap.size v') := Lib.hid (fun g hg => by
              rcases hat' with e | e
              · exact HAPI.out g (by rw [← e]; exact hg)
              · rw [e] at hg
                injection hg with hg
                (try simp at hg)
                have : wi.heap.size ≤ (wi.alloc (.cells #[.string (nth xs j)] 9)).heap.size := by simp
                omega)
            have HX9 : Hid (RH strE w' wa.heap.size wb.heap.size (some ⟨bx, ox, none⟩) qx xs) := Lib.hid (HXI.out.same ⟨fun i h1 h2 => (hg'.block i (by simp; omega) (fun e => by
              rcases HAPI.out i e.symm with h | h <;> omega)).trans (((Below.refl wi.heap.size wi).alloc (Nat.le_refl _) _).block i (by omega))⟩)
            have hs9 : wb.heap.size ≤ w'.heap.size := by have := hg'.size; simp at this; omega
            clear how' hg' hat'
            go_wp2_with fail
            go_roundw
            case rel => exact ⟨j + 1, m2 + 1, by omega, by go_num, by omega, by rw [HT.out, List.map_append]; exact HW9.out, HA9.out, HX9.out, hs9⟩
            case measure => simp [intOf]; omega
          · have hidx := idx_pos hcl
            have HT := Lib.hid (fcl_no hjx hcl)
            have hid2 : ¬ (idxI (closL gs vs) (nth xs j) < 0) := by omega
            have hid3 : decide (idxI (closL gs vs) (nth xs j) < 0) = false := by rw [decide_eq_false_iff_not]; exact hid2
            clear hcl
            generalize idxI (closL gs vs) (nth xs j) = zi at *
            subst hva
            go_wp2_with fail
            refine HPL.out.mono ?_
            rintro e w6 ⟨rfl, rfl⟩
            go_wp2_with fail
            go_roundw
            case rel => exact ⟨j + 1, m2, by omega, by go_num, by omega, by rw [HT.out]; exact HWI.out, HAPI.out, HXI.out, hsi⟩
            case measure => simp [intOf]; omega
        · have hjq : j = qx := by omega
          obtain ⟨AL, HALE⟩ : ∃ AL, Hid (AL = fcl (closL gs vs) xs j) := ⟨_, Lib.hid rfl⟩
          have hrow := HWI.out.row
          rw [← HALE.out] at hrow
          obtain ⟨Aa, ca, hva2, hra⟩ := own_str hrow
          have HAR := Lib.hid hra
          have HMA : Hid (m2 ≤ 1048576) := Lib.hid (by omega)
          have HQY : Hid (∀ {qy : Nat} {Y : Option Addr} {wy : World} {l : Nat}, RStr wy l Y qy (bhL (gfF f gs vs).steps nm) → qy ≤ 1048576) := Lib.hid (fun h => by rw [← h.1]; have := bhL_len (gfF f gs vs).steps nm; have h2 := HOW.out.len; omega)
          have HEQ : Hid (eqB AL (bhL (gfF f gs vs).steps nm) = true) := Lib.hid (by
            rw [HALE.out, ← HSAME.out]
            unfold fcl
            rw [List.take_of_length_le (by rw [HQX.out]; omega)]
            exact eqB_same _)
          clear hra hrow hva hm2
          subst hva2
          generalize m2 = ma at *
          go_wp2_with fail
          refine wp_region_held_drew (S := fun w' : World => ((w'.cell? ⟨p1, 0, none⟩ = some (.int .i64 f.ver) ∧ w'.cell? ⟨p1, 1, none⟩ = some (.slice A1 n1 c1)) ∧ (w'.cell? ⟨p2, 0, none⟩ = some (.int .i64 (gfF f gs vs).ver) ∧ w'.cell? ⟨p2, 1, none⟩ = some (.slice (some ⟨b, off, none⟩) m3 d2))) ∧ w'.cell? ⟨b, off + k * 3, none⟩ = some (.string nm)) (by kernel_rfl) (HSB.out _ HBI.out.drew) (fun hH => ?_)
          refine wpAnyH_takeE (i := 0) (d := some 98) (v := ?v708) rfl (by rfl) (by kernel_rfl) (by kernel_rfl) (by kernel_rfl) (fun _ _ _ h => h) (Or.inl ⟨by rfl, ?y708⟩) hH ?r708
          case y708 => (intro w' hS; (try dsimp only at hS); go_simp; (try with_reducible rfl))
          (try simp only [Act.put, List.setIfInBounds_toArray, List.set_cons_zero, List.set_cons_succ])
          refine wpAnyH_takeE (i := 1) (d := some 99) (v := ?v709) rfl (by rfl) (by kernel_rfl) (by kernel_rfl) (by kernel_rfl) (fun _ _ _ h => h) (Or.inl ⟨by rfl, ?y709⟩) hH ?r709
          case y709 => (intro w' hS; (try dsimp only at hS); go_simp; (try with_reducible rfl))
          (try simp only [Act.put, List.setIfInBounds_toArray, List.set_cons_zero, List.set_cons_succ])
          refine wpAnyH_takeE (i := 2) (d := some 100) (v := ?v710) rfl (by rfl) (by kernel_rfl) (by kernel_rfl) (by kernel_rfl) (fun _ _ _ h => h) (Or.inl ⟨by rfl, ?y710⟩) hH ?r710
          case y710 => (intro w' hS; (try dsimp only at hS); go_simp; (try with_reducible rfl))
          (try simp only [Act.put, List.setIfInBounds_toArray, List.set_cons_zero, List.set_cons_succ])
          refine wpAnyH_takeE (i := 3) (d := some 101) (v := ?v711) rfl (by rfl) (by kernel_rfl) (by kernel_rfl) (by kernel_rfl) (fun _ _ _ h => h) (Or.inl ⟨by rfl, ?y711⟩) hH ?r711
          case y711 => (intro w' hS; (try dsimp only at hS); go_simp; (try with_reducible rfl))
          (try simp only [Act.put, List.setIfInBounds_toArray, List.set_cons_zero, List.set_cons_succ])
          refine wpAnyH_takeE (i := 4) (d := some 102) (v := ?v712) rfl (by rfl) (by kernel_rfl) (by kernel_rfl) (by kernel_rfl) (fun _ _ _ h => h) (Or.inl ⟨by rfl, ?y712⟩) hH ?r712
          case y712 => (intro w' hS; (try dsimp only at hS); go_simp; (try with_reducible rfl))
          (try simp only [Act.put, List.setIfInBounds_toArray, List.set_cons_zero, List.set_cons_succ])
          refine wpAnyH_takeE (i := 5) (d := some 103) (v := ?v713) rfl (by rfl) (by kernel_rfl) (by kernel_rfl) (by kernel_rfl) (fun _ _ _ h => h) (Or.inl ⟨by rfl, ?y713⟩) hH ?r713
          case y713 => (intro w' hS; (try dsimp only at hS); go_simp; (try with_reducible rfl))
          (try simp only [Act.put, List.setIfInBounds_toArray, List.set_cons_zero, List.set_cons_succ])
          refine wpAnyH_takeE (i := 6) (d := some 104) (v := ?v714) rfl (by rfl) (by kernel_rfl) (by kernel_rfl) (by kernel_rfl) (fun _ _ _ h => h) (Or.inl ⟨by rfl, ?y714⟩) hH ?r714
          case y714 => (intro w' hS; (try dsimp only at hS); go_simp; (try with_reducible rfl))
          (try simp only [Act.put, List.setIfInBounds_toArray, List.set_cons_zero, List.set_cons_succ])
          refine wpAnyH_takeE (i := 7) (d := some 105) (v := ?v715) rfl (by rfl) (by kernel_rfl) (by kernel_rfl) (by kernel_rfl) (fun _ _ _ h => h) (Or.inl ⟨by rfl, ?y715⟩) hH ?r715
          case y715 => (intro w' hS; (try dsimp only at hS); go_simp; (try with_reducible rfl))
          (try simp only [Act.put, List.setIfInBounds_toArray, List.set_cons_zero, List.set_cons_succ])
          refine wpAnyH_ready (rs := [8]) (by kernel_rfl) (by simp) ?_
          refine AllReadyH.cons rfl (fun K hK => ?_) AllReadyH.nil
          rw [if_pos (by rfl)]
          refine wp_call2 48 (.tmp 99) (.tmp 105) (.agg #[.int .i64 (gfF f gs vs).ver, .slice (some ⟨b, off, none⟩) m3 d2]) (.string nm) _ rfl (enters_of Try.func48 (by kernel_rfl) rfl) rfl rfl ?_
          refine (behindI_any (some ⟨b, off, none⟩) m3 d2 (gfF f gs vs) nm _ _ (HOW.out.hat2.below HBI.out.drew) HPT.out.1 HINO.out).mono ?_
          rintro e wy ⟨Y, qy, cy, rfl, hy, hby⟩
          have HBY := Lib.hid (HBI.out.drew.trans (hby.mono HBI.out.size))
          have HYR := Lib.hid hy
          refine ⟨_, rfl, ?_⟩
          refine hK.out _ _ (HSB.out _ HBY.out) (fun hH2 => ?_)
          clear hK K hH
          have hH := hH2
          (try simp only [Act.put, List.setIfInBounds_toArray, List.set_cons_zero, List.set_cons_succ])
          refine wpAnyH_ready (rs := [9]) (by kernel_rfl) (by simp) ?_
          refine AllReadyH.cons rfl (fun K hK => ?_) AllReadyH.nil
          rw [if_pos (by rfl)]
          refine wp_call2 29 (.tmp 98) (.tmp 106) (.slice Aa ma ca) (.slice Y qy cy) _ rfl (enters_of Try.func29 (by kernel_rfl) rfl) rfl rfl ?_
          refine (sameTexts_any Aa Y ma ca qy cy AL (bhL (gfF f gs vs).steps nm) _ _ wy (HAR.out.below ((Below.refl _ _).drew.trans hby)) HMA.out HYR.out (HQY.out HYR.out)).mono ?_
          rintro e wz ⟨rfl, qz, rfl⟩
          rw [HEQ.out]
          refine ⟨_, rfl, ?_⟩
          have HBZ := Lib.hid (below_drewN HBY.out qz)
          refine hK.out _ _ (HSB.out _ HBZ.out) (fun hH2 => ?_)
          clear hK K hH
          have hH := hH2
          (try simp only [Act.put, List.setIfInBounds_toArray, List.set_cons_zero])
          refine wpAnyH_ready (rs := [10]) (by kernel_rfl) (by simp) ?_
          refine AllReadyH.cons rfl (fun K hK => ?_) AllReadyH.nil
          go_simp
          refine hK.out _ _ (HSB.out _ HBZ.out) (fun hH2 => ?_)
          clear hK K hH
          have hH := hH2
          (try simp only [Act.put, List.setIfInBounds_toArray, List.set_cons_zero, List.set_cons_succ])
          refine wpAnyH_done (by kernel_rfl) ?_ _
          go_wp2_with fail
          go_roundw
          case rel => exact ⟨k + 1, by omega, by go_num, HBW.out.trans (HBZ.out.mono HBW.out.size)⟩
          case measure => simp [intOf]; omega
    · obtain rfl : k = m3 := by omega
      go_wp2_with fail
      go_ret
      exact ⟨rfl, HB5.out.trans (HBW.out.mono HB5.out.size)⟩
end Go.Proofs.Ytakeijgoonagcaa

/- FnGuardsBehind returns true at every input, and leaves its arguments as they were. No condition. -/
namespace Go.Proofs.Ytakeijgoonagcaa
open Go.ChangeShapes Go.WideShapes Go.ChangeAt Go.RowKit

set_option maxRecDepth 100000 in
theorem fnGuardsBehind_lifted (os : Os) (started : os.Started) (H : Type) (enc : TypeId × Value → H) :
    ReturnsInHanded {} Try.checked os 12 .any (Rows.fnGuardsBehindSpec.pre6 enc Try.prog Try.f12 Rows.fnGuardsBehindRow.domain false) (Rows.fnGuardsBehindSpec.post enc Try.prog Try.f12 false true false false) := by
  refine returnsInHanded_of_change (C := Try.checked) Try.own started (by kernel_rfl) Try.func12
    (ChangeSpec.witness6 (enc := enc) (C := Try.checked) false ⟨#[], #[.slice none 0 0], []⟩ 8 (by kernel_rfl) (by kernel_rfl) (by kernel_rfl) (by kernel_rfl)) ?_
  intro W base args ds gs before hval0 hW hcnd _
  have hval : ∀ (j : Nat) t v, Try.f12.params[j]? = some t → args[j]? = some v → Value.okWide Try.prog W .any base t v := hval0
  have hW' := hW
  obtain ⟨p, q, hA0, hV, rfl, hfz, hnd⟩ := hW
  have hA : DataW.TrodAll enc Try.prog W 0 (fun _ => true) true Try.f12.params.toList args.toList ds p := hA0
  rw [Try.params12] at hA hval
  obtain ⟨v0, d0, rfl, rfl, h0⟩ := trodAll_one hA
  obtain ⟨rfl, rfl⟩ := trodVars_none hV
  have h0k := h0
  obtain ⟨a0, len, cap, rfl⟩ := okWide_slice Try.underlying44 (hval 0 44 v0 rfl rfl)
  obtain ⟨fuel, hf⟩ := h0
  clear hA0 hval0 hA
  simp only [List.append_nil] at hW' hfz
  have hlt : ∀ x ∈ p, x.block < W.heap.size := fun x hx => by simpa using hW'.lt x hx
  obtain ⟨hr, hc, _⟩ := open_code hf
  refine (fnGuardsBehind_any a0 len cap W hr hc).mono fun e W' ⟨he, hb⟩ => ?_
  subst he
  exact ⟨_, rfl, post_law hW' rfl (by kernel_rfl) Try.underlying4 rfl rfl rfl (trodAll_mk1 (Below.trod Try.laidOut (by kernel_rfl) (of_decide_eq_true (by kernel_rfl)) h0k hb hlt)) hb⟩

theorem fnGuardsBehind_holds : Rows.FnGuardsBehindSaid :=
  OpenClaim.holds_of_wide 12 Try.f12 rfl rfl rfl rfl rfl rfl rfl ⟨rfl, rfl, rfl, rfl, rfl⟩ rfl rfl rfl rfl rfl (by kernel_rfl) Try.func12 (by kernel_rfl)
    (of_decide_eq_true (by kernel_rfl)) (by unfold Func.isWrapper; rw [if_neg (by decide +kernel)]; exact ⟨rfl, rfl⟩)
    (fun os started H enc _ => fnGuardsBehind_lifted os started H enc)
end Go.Proofs.Ytakeijgoonagcaa
