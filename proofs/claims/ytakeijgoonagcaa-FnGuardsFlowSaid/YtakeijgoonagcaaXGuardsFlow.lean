/- FnGuardsFlow returns true at every input, and leaves its arguments as they were. No condition. -/
import Derived.Deep.DeepCutAuto
import Derived.Deep.RegionHeld3
import Derived.Test.YtakeijgoonagcaaZO
import Derived.Test.YtakeijgoonagcaaZN
import Derived.Test.YtakeijgoonagcaaZG
import Derived.Test.YtakeijgoonagcaaZC

/- FnGuardsFlowTwice: the walk. -/
namespace Go.Proofs.Ytakeijgoonagcaa
open Go.RowKit

theorem sz_leU (w : World) (o : Obj) : w.heap.size ≤ (w.alloc o).heap.size := by simp
theorem gf_ok (f : Flow) (gs : List Guard) (vs : List Int) : okSteps (gfF f gs vs).steps := by
  cases h : gfB f gs vs
  · rw [gfF_no h]; exact okSteps_nil
  · rw [gfF_yes h]
    unfold gfB at h
    simp only [Bool.and_eq_true] at h
    have := (good_to (names := closL gs vs) (good_flow h.1) (by rw [namesOf_len]; exact (good_flow h.1).2.1) (closL gs vs).length).1
    rw [gfTo_all (Nat.le_refl _)] at this
    exact this

set_option maxRecDepth 100000 in
set_option maxHeartbeats 4000000 in
theorem fnGuardsFlowTwice_any (A : Option Addr) (n c : Nat) (w : World) (hr : RByte w A n) (hc : n ≤ c) :
    Calls Try.prog 10 #[.slice A n c] w fun e w' => e = .returned (.bool true) ∧ Below w.heap.size w w' := by
  have HR := Lib.hid hr; clear hr
  by_cases hn : 1048576 < n
  · go_enter Try.func10, Try.ntmps10
    go_wp2_with fail
    go_ret
    exact ⟨rfl, Below.refl _ _⟩
  go_enter Try.func10, Try.ntmps10
  go_wp2_with fail
  refine (drawGuardsFlow_any _ _ _ _ HR.out hc (by omega)).mono ?_
  rintro e w1 ⟨f, A1, n1, c1, G1, ng, cg, gs, V1, nv, cv, vs, rfl, hs, hok, h1n, h6n, hg, hokg, hv, hnv, hb1⟩
  have HOK := Lib.hid hok; clear hok
  have HOG := Lib.hid hokg; clear hokg
  have HLF := Lib.hid hs.1
  have hnv2 : nv ≤ 1048576 := by omega
  have HSA := Lib.hid (hs.alloc (.cells #[.int .i64 f.ver, .slice A1 n1 c1] 34)); clear hs
  have HGA := Lib.hid (hg.alloc (.cells #[.int .i64 f.ver, .slice A1 n1 c1] 34)); clear hg
  have HVA := Lib.hid (hv.alloc (.cells #[.int .i64 f.ver, .slice A1 n1 c1] 34)); clear hv
  have HBA := Lib.hid (hb1.alloc hb1.size (.cells #[.int .i64 f.ver, .slice A1 n1 c1] 34))
  have HXA := Lib.hid (heap_new (w := w1) (o := .cells #[.int .i64 f.ver, .slice A1 n1 c1] 34) rfl)
  clear hb1
  go_upto_region 4 with fail
  generalize w1.alloc (.cells #[.int .i64 f.ver, .slice A1 n1 c1] 34) = W1 at *
  generalize w1.heap.size = p1 at *
  have x0 := (blk_cl (k := 0) HXA.out rfl).1
  have x1 := (blk_cl (k := 1) HXA.out rfl).1
  go_wp2_with fail
  refine (gfI_any _ _ _ _ _ _ _ _ _ f gs vs _ _ _ _ HSA.out HOK.out HGA.out HOG.out HVA.out hnv2).mono ?_
  rintro e w2 ⟨B2, m2, d2, rfl, hx2, hb2⟩
  have hb2a := hb2.alloc (Nat.le_trans hb2.size (Nat.le_refl _)) (.cells #[.int .i64 (gfF f gs vs).ver, .slice B2 m2 d2] 34)
  have HYB := Lib.hid (heap_new (w := w2) (o := .cells #[.int .i64 (gfF f gs vs).ver, .slice B2 m2 d2] 34) rfl)
  have HOB := Lib.hid (hx2.below ((Below.refl _ _).alloc (Nat.le_refl _) (.cells #[.int .i64 (gfF f gs vs).ver, .slice B2 m2 d2] 34)))
  have HXB := Lib.hid ((hb2a.block _ (heap_lt HXA.out)).trans HXA.out)
  have HSB := Lib.hid (HSA.out.below hb2a)
  have HGB := Lib.hid (HGA.out.below hb2a)
  have HVB := Lib.hid (HVA.out.below hb2a)
  have HBB := Lib.hid (HBA.out.trans (hb2a.mono HBA.out.size))
  clear hb2 hb2a hx2 x0 x1
  go_upto_region 5 with fail
  generalize w2.alloc (.cells #[.int .i64 (gfF f gs vs).ver, .slice B2 m2 d2] 34) = W2 at *
  generalize w2.heap.size = p2 at *
  have x0 := (blk_cl (k := 0) HXB.out rfl).1
  have x1 := (blk_cl (k := 1) HXB.out rfl).1
  go_wp2_with fail
  refine (gfS_any _ _ _ _ _ _ _ _ _ f gs vs _ _ _ _ HSB.out HOK.out HGB.out HOG.out HVB.out hnv2).mono ?_
  rintro e w3 ⟨B3, m3, d3, rfl, hx3, hb3⟩
  obtain rfl : m3 = m2 := by rw [← hx3.len, ← HOB.out.len]
  have hb3a := hb3.alloc (Nat.le_trans hb3.size (Nat.le_refl _)) (.cells #[.int .i64 (gfF f gs vs).ver, .slice B3 m3 d3] 34)
  have HZC := Lib.hid (heap_new (w := w3) (o := .cells #[.int .i64 (gfF f gs vs).ver, .slice B3 m3 d3] 34) rfl)
  have HWC := Lib.hid (hx3.below ((Below.refl _ _).alloc (Nat.le_refl _) (.cells #[.int .i64 (gfF f gs vs).ver, .slice B3 m3 d3] 34)))
  have HXC := Lib.hid ((hb3a.block _ (heap_lt HXB.out)).trans HXB.out)
  have HYC := Lib.hid ((hb3a.block _ (heap_lt HYB.out)).trans HYB.out)
  have HSC := Lib.hid (HSB.out.below hb3a)
  have HGC := Lib.hid (HGB.out.below hb3a)
  have HVC := Lib.hid (HVB.out.below hb3a)
  have HOC := Lib.hid (HOB.out.below hb3a)
  have HBC := Lib.hid (HBB.out.trans (hb3a.mono HBB.out.size))
  clear hb3 hb3a hx3 x0 x1
  go_upto_region 6 with fail
  generalize w3.alloc (.cells #[.int .i64 (gfF f gs vs).ver, .slice B3 m3 d3] 34) = W3 at *
  generalize w3.heap.size = p3 at *
  have HGO := Lib.hid (gf_ok f gs vs)
  have HSF := Lib.hid (fun (w' : World) (h : Below W3.heap.size W3 w') => (sameFlow_same B2 B3 m3 d2 d3 (gfF f gs vs) _ _ w' (HOC.out.hat2.below h) HGO.out (HWC.out.hat2.below h)))
  have y0 := (blk_cl (k := 0) HYC.out rfl).1
  have y1 := (blk_cl (k := 1) HYC.out rfl).1
  have z0 := (blk_cl (k := 0) HZC.out rfl).1
  have z1 := (blk_cl (k := 1) HZC.out rfl).1
  have hzz : (gfB f gs vs != gfB f gs vs) = false := by simp
  have hze : (gfB f gs vs == gfB f gs vs) = true := by simp
  clear HXA HXB HYB HSA HSB HGA HGB HVA HVB HOB HBA HBB
  cases hp : gfB f gs vs
  · clear hp
    go_wp2_with fail
    refine (HSF.out W3 (Below.refl _ _)).mono ?_
    rintro e w4 ⟨rfl, hb4⟩
    have HY4 := Lib.hid ((hb4.block _ (heap_lt HYC.out)).trans HYC.out)
    have HZ4 := Lib.hid ((hb4.block _ (heap_lt HZC.out)).trans HZC.out)
    clear y0 y1 z0 z1
    have y0 := (blk_cl (k := 0) HY4.out rfl).1
    have y1 := (blk_cl (k := 1) HY4.out rfl).1
    have z0 := (blk_cl (k := 0) HZ4.out rfl).1
    have z1 := (blk_cl (k := 1) HZ4.out rfl).1
    go_wp2_with fail
    refine (HSF.out w4 hb4).mono ?_
    rintro e w5 ⟨rfl, hb5⟩
    go_wp2_with fail
    go_ret
    exact ⟨rfl, HBC.out.trans ((hb4.trans (hb5.mono hb4.size)).mono HBC.out.size)⟩
  have HP := Lib.hid hp
  clear hp hzz hze
  have hzz : (true != true) = false := rfl
  go_wp2_with fail
  refine (HSF.out W3 (Below.refl _ _)).mono ?_
  rintro e w4 ⟨rfl, hb4⟩
  have HX4 := Lib.hid ((hb4.block _ (heap_lt HXC.out)).trans HXC.out)
  have HY4 := Lib.hid ((hb4.block _ (heap_lt HYC.out)).trans HYC.out)
  have HZ4 := Lib.hid ((hb4.block _ (heap_lt HZC.out)).trans HZC.out)
  have HS4 := Lib.hid (HSC.out.below hb4)
  have HG4 := Lib.hid (HGC.out.below hb4)
  have HV4 := Lib.hid (HVC.out.below hb4)
  have HO4 := Lib.hid (HOC.out.below hb4)
  have HW4 := Lib.hid (HWC.out.below hb4)
  have HB4 := Lib.hid (HBC.out.trans (hb4.mono HBC.out.size))
  clear y0 y1 z0 z1 hb4 HSF HXC HYC HZC HSC HGC HVC HOC HWC HBC hzz
  have hfv : flowB f = true ∧ varsB vs = true := by
    have h := HP.out
    unfold gfB at h
    simp only [Bool.and_eq_true] at h
    exact ⟨h.1, h.2.2.1⟩
  have HT1 := Lib.hid (fun (w' : World) (h : Below w4.heap.size w4 w') => (gfI_any B2 G1 V1 m3 d2 ng cg nv cv (gfF f gs vs) gs vs _ _ _ w' (HO4.out.hat2.below h) HGO.out (HG4.out.below h) HOG.out (HV4.out.below h) hnv2).mono (R' := fun e w'' => ∃ B d, e = .returned (.tuple #[.agg #[.int .i64 (gfF f gs vs).ver, .slice B m3 d], .bool true]) ∧ SRow w'' w'.heap.size (.slice B m3 d) m3 (gfF f gs vs).steps ∧ Below w'.heap.size w' w'') (by
    rintro e w'' ⟨B, m, d, h1, h2, h3⟩
    rw [(gfB_twice HP.out).2] at h1 h2
    rw [(gfB_twice HP.out).1] at h1
    obtain rfl : m = m3 := by rw [← h2.len, ← HO4.out.len]
    exact ⟨B, d, h1, h2, h3⟩))
  have HT2 := Lib.hid (fun (w' : World) (h : Below w4.heap.size w4 w') (G : Option Addr) => (gfI_any A1 G V1 n1 c1 0 0 nv cv f [] vs _ w4.heap.size _ w' (HS4.out.below h) HOK.out RL.nil ⟨by simp, fun j hj => absurd hj (by simp)⟩ (HV4.out.below h) hnv2).mono (R' := fun e w'' => ∃ B d, e = .returned (.tuple #[.agg #[.int .i64 f.ver, .slice B n1 d], .bool true]) ∧ SRow w'' w'.heap.size (.slice B n1 d) n1 f.steps ∧ Below w'.heap.size w' w'') (by
    rintro e w'' ⟨B, m, d, h1, h2, h3⟩
    rw [(gfB_nil hfv.1 hfv.2).2] at h1 h2
    rw [(gfB_nil hfv.1 hfv.2).1] at h1
    obtain rfl : m = n1 := by rw [← h2.len, ← HLF.out]
    exact ⟨B, d, h1, h2, h3⟩))
  clear hfv
  have y0 := (blk_cl (k := 0) HY4.out rfl).1
  have y1 := (blk_cl (k := 1) HY4.out rfl).1
  go_wp2_with fail
  refine (HT1.out w4 (Below.refl _ _)).mono ?_
  rintro e w5 ⟨B5, d5, rfl, hx5, hb5⟩
  have hb5a := hb5.alloc (Nat.le_trans hb5.size (Nat.le_refl _)) (.cells #[.int .i64 (gfF f gs vs).ver, .slice B5 m3 d5] 34)
  have HQ5 := Lib.hid (heap_new (w := w5) (o := .cells #[.int .i64 (gfF f gs vs).ver, .slice B5 m3 d5] 34) rfl)
  have HN5 := Lib.hid (hx5.below ((Below.refl _ _).alloc (Nat.le_refl _) (.cells #[.int .i64 (gfF f gs vs).ver, .slice B5 m3 d5] 34)))
  have HX5 := Lib.hid ((hb5a.block _ (heap_lt HX4.out)).trans HX4.out)
  have HY5 := Lib.hid ((hb5a.block _ (heap_lt HY4.out)).trans HY4.out)
  have HS5 := Lib.hid (HS4.out.below hb5a)
  have HO5 := Lib.hid (HO4.out.below hb5a)
  have HB5 := Lib.hid hb5a
  clear hb5 hb5a hx5 y0 y1
  go_upto_region 9 with fail
  generalize w5.alloc (.cells #[.int .i64 (gfF f gs vs).ver, .slice B5 m3 d5] 34) = W5 at *
  generalize w5.heap.size = p5 at *
  have x0 := (blk_cl (k := 0) HX5.out rfl).1
  have x1 := (blk_cl (k := 1) HX5.out rfl).1
  go_wp2_with fail
  refine (HT2.out _ (HB5.out.alloc HB5.out.size _) _).mono ?_
  rintro e w6 ⟨B6, d6, rfl, hx6, hb6⟩
  have hb6b := (HB5.out.alloc HB5.out.size _).trans (hb6.mono (Nat.le_trans HB5.out.size (sz_leU _ _)))
  have hb6c := ((Below.refl W5.heap.size W5).alloc (Nat.le_refl _) _).trans (hb6.mono (sz_leU _ _))
  have hb6d := hb6c.alloc hb6c.size (.cells #[.int .i64 f.ver, .slice B6 n1 d6] 34)
  have hb6a := hb6b.alloc hb6b.size (.cells #[.int .i64 f.ver, .slice B6 n1 d6] 34)
  have HR6 := Lib.hid (heap_new (w := w6) (o := .cells #[.int .i64 f.ver, .slice B6 n1 d6] 34) rfl)
  have HM6 := Lib.hid (hx6.below ((Below.refl _ _).alloc (Nat.le_refl _) (.cells #[.int .i64 f.ver, .slice B6 n1 d6] 34)))
  have HX6 := Lib.hid ((hb6d.block _ (heap_lt HX5.out)).trans HX5.out)
  have HY6 := Lib.hid ((hb6d.block _ (heap_lt HY5.out)).trans HY5.out)
  have HQ6 := Lib.hid ((hb6d.block _ (heap_lt HQ5.out)).trans HQ5.out)
  have HS6 := Lib.hid (HS5.out.below hb6d)
  have HO6 := Lib.hid (HO5.out.below hb6d)
  have HN6 := Lib.hid (HN5.out.below hb6d)
  have HB6 := Lib.hid hb6a
  clear hb6 hb6a hb6b hb6c hb6d hx6 x0 x1
  go_upto_region 10 with fail
  generalize w6.alloc (.cells #[.int .i64 f.ver, .slice B6 n1 d6] 34) = W6 at *
  generalize w6.heap.size = p6 at *
  have x0 := (blk_cl (k := 0) HX6.out rfl).1
  have x1 := (blk_cl (k := 1) HX6.out rfl).1
  have y0 := (blk_cl (k := 0) HY6.out rfl).1
  have y1 := (blk_cl (k := 1) HY6.out rfl).1
  have q0 := (blk_cl (k := 0) HQ6.out rfl).1
  have q1 := (blk_cl (k := 1) HQ6.out rfl).1
  have r0 := (blk_cl (k := 0) HR6.out rfl).1
  have r1 := (blk_cl (k := 1) HR6.out rfl).1
  go_wp2_with fail
  refine (sameFlow_same B5 B2 m3 d5 d2 (gfF f gs vs) _ _ _ HN6.out.hat2 HGO.out HO6.out.hat2).mono ?_
  rintro e w7 ⟨rfl, hb7⟩
  have HX7 := Lib.hid ((hb7.block _ (heap_lt HX6.out)).trans HX6.out)
  have HR7 := Lib.hid ((hb7.block _ (heap_lt HR6.out)).trans HR6.out)
  have HS7 := Lib.hid (HS6.out.below hb7)
  have HM7 := Lib.hid (HM6.out.below hb7)
  clear x0 x1 y0 y1 q0 q1 r0 r1
  have x0 := (blk_cl (k := 0) HX7.out rfl).1
  have x1 := (blk_cl (k := 1) HX7.out rfl).1
  have r0 := (blk_cl (k := 0) HR7.out rfl).1
  have r1 := (blk_cl (k := 1) HR7.out rfl).1
  go_wp2_with fail
  refine (sameFlow_same B6 A1 n1 d6 c1 f _ _ _ HM7.out.hat2 HOK.out HS7.out).mono ?_
  rintro e w8 ⟨rfl, hb8⟩
  go_wp2_with fail
  go_ret
  exact ⟨rfl, HB4.out.trans ((HB6.out.trans ((hb7.trans (hb8.mono hb7.size)).mono HB6.out.size)).mono HB4.out.size)⟩
end Go.Proofs.Ytakeijgoonagcaa

/- FnGuardsFlow: the walk. -/
namespace Go.Proofs.Ytakeijgoonagcaa
open Go.RowKit

theorem gf_parts {f : Flow} {gs : List Guard} {vs : List Int} (h : gfB f gs vs = true) : flowB (gfF f gs vs) = true ∧ (gfF f gs vs).ver = f.ver ∧ (gfF f gs vs).steps.length ≤ f.steps.length ∧ ∀ x, hasB (namesOf (gfF f gs vs).steps) x = (hasB (namesOf f.steps) x && !hasB (closL gs vs) x) := by
  have e := gfF_yes h
  unfold gfB at h
  simp only [Bool.and_eq_true] at h
  refine ⟨by rw [e]; exact h.2.2.2, by rw [e], by rw [e]; exact gf_len _ _, fun x => by rw [e]; exact gf_has _ _ _⟩

set_option maxRecDepth 100000 in
set_option maxHeartbeats 4000000 in
theorem fnGuardsFlow_any (A : Option Addr) (n c : Nat) (w : World) (hr : RByte w A n) (hc : n ≤ c) :
    Calls Try.prog 11 #[.slice A n c] w fun e w' => e = .returned (.bool true) ∧ Below w.heap.size w w' := by
  have HR := Lib.hid hr; clear hr
  by_cases hn : 1048576 < n
  · go_enter Try.func11, Try.ntmps11
    go_wp2_with fail
    go_ret
    exact ⟨rfl, Below.refl _ _⟩
  go_enter Try.func11, Try.ntmps11
  go_wp2_with fail
  refine (drawGuardsFlow_any _ _ _ _ HR.out hc (by omega)).mono ?_
  rintro e w1 ⟨f, A1, n1, c1, G1, ng, cg, gs, V1, nv, cv, vs, rfl, hs, hok, h1n, h6n, hg, hokg, hv, hnv, hb1⟩
  have HOK := Lib.hid hok; clear hok
  have HOG := Lib.hid hokg; clear hokg
  have HLF := Lib.hid hs.1
  have hnv2 : nv ≤ 1048576 := by omega
  have HSA := Lib.hid (hs.alloc (.cells #[.int .i64 f.ver, .slice A1 n1 c1] 34)); clear hs
  have HGA := Lib.hid (hg.alloc (.cells #[.int .i64 f.ver, .slice A1 n1 c1] 34)); clear hg
  have HVA := Lib.hid (hv.alloc (.cells #[.int .i64 f.ver, .slice A1 n1 c1] 34)); clear hv
  have HBA := Lib.hid (hb1.alloc hb1.size (.cells #[.int .i64 f.ver, .slice A1 n1 c1] 34))
  have HXA := Lib.hid (heap_new (w := w1) (o := .cells #[.int .i64 f.ver, .slice A1 n1 c1] 34) rfl)
  clear hb1
  go_upto_region 4 with fail
  generalize w1.alloc (.cells #[.int .i64 f.ver, .slice A1 n1 c1] 34) = W1 at *
  generalize w1.heap.size = p1 at *
  have x0 := (blk_cl (k := 0) HXA.out rfl).1
  have x1 := (blk_cl (k := 1) HXA.out rfl).1
  go_wp2_with fail
  refine (gfI_any _ _ _ _ _ _ _ _ _ f gs vs _ _ _ _ HSA.out HOK.out HGA.out HOG.out HVA.out hnv2).mono ?_
  rintro e w2 ⟨B2, m2, d2, rfl, hx2, hb2⟩
  have hb2a := hb2.alloc (Nat.le_trans hb2.size (Nat.le_refl _)) (.cells #[.int .i64 (gfF f gs vs).ver, .slice B2 m2 d2] 34)
  have HYB := Lib.hid (heap_new (w := w2) (o := .cells #[.int .i64 (gfF f gs vs).ver, .slice B2 m2 d2] 34) rfl)
  have HOB := Lib.hid (hx2.below ((Below.refl _ _).alloc (Nat.le_refl _) (.cells #[.int .i64 (gfF f gs vs).ver, .slice B2 m2 d2] 34)))
  have HXB := Lib.hid ((hb2a.block _ (heap_lt HXA.out)).trans HXA.out)
  have HSB := Lib.hid (HSA.out.below hb2a)
  have HGB := Lib.hid (HGA.out.below hb2a)
  have HVB := Lib.hid (HVA.out.below hb2a)
  have HBB := Lib.hid (HBA.out.trans (hb2a.mono HBA.out.size))
  clear hb2 hb2a hx2 x0 x1
  go_upto_region 5 with fail
  generalize w2.alloc (.cells #[.int .i64 (gfF f gs vs).ver, .slice B2 m2 d2] 34) = W2 at *
  generalize w2.heap.size = p2 at *
  have x0 := (blk_cl (k := 0) HXB.out rfl).1
  have x1 := (blk_cl (k := 1) HXB.out rfl).1
  go_wp2_with fail
  refine (gfS_any _ _ _ _ _ _ _ _ _ f gs vs _ _ _ _ HSB.out HOK.out HGB.out HOG.out HVB.out hnv2).mono ?_
  rintro e w3 ⟨B3, m3, d3, rfl, hx3, hb3⟩
  obtain rfl : m3 = m2 := by rw [← hx3.len, ← HOB.out.len]
  have hb3a := hb3.alloc (Nat.le_trans hb3.size (Nat.le_refl _)) (.cells #[.int .i64 (gfF f gs vs).ver, .slice B3 m3 d3] 34)
  have HZC := Lib.hid (heap_new (w := w3) (o := .cells #[.int .i64 (gfF f gs vs).ver, .slice B3 m3 d3] 34) rfl)
  have HWC := Lib.hid (hx3.below ((Below.refl _ _).alloc (Nat.le_refl _) (.cells #[.int .i64 (gfF f gs vs).ver, .slice B3 m3 d3] 34)))
  have HXC := Lib.hid ((hb3a.block _ (heap_lt HXB.out)).trans HXB.out)
  have HYC := Lib.hid ((hb3a.block _ (heap_lt HYB.out)).trans HYB.out)
  have HSC := Lib.hid (HSB.out.below hb3a)
  have HGC := Lib.hid (HGB.out.below hb3a)
  have HVC := Lib.hid (HVB.out.below hb3a)
  have HOC := Lib.hid (HOB.out.below hb3a)
  have HBC := Lib.hid (HBB.out.trans (hb3a.mono HBB.out.size))
  clear hb3 hb3a hx3 x0 x1
  go_upto_region 6 with fail
  generalize w3.alloc (.cells #[.int .i64 (gfF f gs vs).ver, .slice B3 m3 d3] 34) = W3 at *
  generalize w3.heap.size = p3 at *
  have HGO := Lib.hid (gf_ok f gs vs)
  have HSF := Lib.hid (fun (w' : World) (h : Below W3.heap.size W3 w') => (sameFlow_same B2 B3 m3 d2 d3 (gfF f gs vs) _ _ w' (HOC.out.hat2.below h) HGO.out (HWC.out.hat2.below h)))
  have y0 := (blk_cl (k := 0) HYC.out rfl).1
  have y1 := (blk_cl (k := 1) HYC.out rfl).1
  have z0 := (blk_cl (k := 0) HZC.out rfl).1
  have z1 := (blk_cl (k := 1) HZC.out rfl).1
  have hzz : (gfB f gs vs != gfB f gs vs) = false := by simp
  have hze : (gfB f gs vs == gfB f gs vs) = true := by simp
  clear HXA HXB HYB HSA HSB HGA HGB HVA HVB HOB HBA HBB
  cases hp : gfB f gs vs
  · clear hp
    go_wp2_with fail
    refine (HSF.out W3 (Below.refl _ _)).mono ?_
    rintro e w4 ⟨rfl, hb4⟩
    have HY4 := Lib.hid ((hb4.block _ (heap_lt HYC.out)).trans HYC.out)
    have HZ4 := Lib.hid ((hb4.block _ (heap_lt HZC.out)).trans HZC.out)
    clear y0 y1 z0 z1
    have y0 := (blk_cl (k := 0) HY4.out rfl).1
    have y1 := (blk_cl (k := 1) HY4.out rfl).1
    have z0 := (blk_cl (k := 0) HZ4.out rfl).1
    have z1 := (blk_cl (k := 1) HZ4.out rfl).1
    go_wp2_with fail
    refine (HSF.out w4 hb4).mono ?_
    rintro e w5 ⟨rfl, hb5⟩
    go_wp2_with fail
    go_ret
    exact ⟨rfl, HBC.out.trans ((hb4.trans (hb5.mono hb4.size)).mono HBC.out.size)⟩
  have HP := Lib.hid hp
  clear hp hzz hze
  have hzz : (true != true) = false := rfl
  go_wp2_with fail
  refine (HSF.out W3 (Below.refl _ _)).mono ?_
  rintro e w4 ⟨rfl, hb4⟩
  have HX4 := Lib.hid ((hb4.block _ (heap_lt HXC.out)).trans HXC.out)
  have HY4 := Lib.hid ((hb4.block _ (heap_lt HYC.out)).trans HYC.out)
  have HZ4 := Lib.hid ((hb4.block _ (heap_lt HZC.out)).trans HZC.out)
  have HS4 := Lib.hid (HSC.out.below hb4)
  have HG4 := Lib.hid (HGC.out.below hb4)
  have HV4 := Lib.hid (HVC.out.below hb4)
  have HO4 := Lib.hid (HOC.out.below hb4)
  have HW4 := Lib.hid (HWC.out.below hb4)
  have HB4 := Lib.hid (HBC.out.trans (hb4.mono HBC.out.size))
  clear y0 y1 z0 z1 hb4 HSF HXC HYC HZC HSC HGC HVC HOC HWC HBC hzz
  have y0 := (blk_cl (k := 0) HY4.out rfl).1
  have y1 := (blk_cl (k := 1) HY4.out rfl).1
  go_wp2_with fail
  refine (closI_any _ _ _ _ _ _ gs vs _ _ _ HG4.out HOG.out HV4.out hnv2).mono ?_
  rintro e w5 ⟨C, q, cq, rfl, hnm, hb5⟩
  have hq8 : q ≤ 8 := by rw [← hnm.1]; exact clos_small
  have HN5 := Lib.hid hnm
  have HX5 := Lib.hid ((hb5.block _ (heap_lt HX4.out)).trans HX4.out)
  have HY5 := Lib.hid ((hb5.block _ (heap_lt HY4.out)).trans HY4.out)
  have HS5 := Lib.hid (HS4.out.below hb5)
  have HO5 := Lib.hid (HO4.out.below hb5)
  have HB5 := Lib.hid (HB4.out.trans (hb5.mono HB4.out.size))
  clear hnm hb5 y0 y1 HX4 HY4 HZ4 HS4 HG4 HV4 HO4 HW4 HB4
  have HPT := Lib.hid (gf_parts HP.out)
  go_wp2_with fail
  go_loopw [11] (fun i wr => ∃ k : Nat, k ≤ n1 ∧ i = .int .i64 (k : Int) ∧ Below w5.heap.size w5 wr) (fun i _ => n1 - (intOf i).toNat)
  case atStart => exact ⟨0, Nat.zero_le _, rfl, Below.refl _ _⟩
  case round =>
    obtain ⟨wo, rfl⟩ : ∃ wo : World, wo = wr := ⟨_, rfl⟩
    obtain ⟨k, hk, rfl, hbw0⟩ := hrel
    have HBW := Lib.hid hbw0; clear hbw0
    have HXW := Lib.hid ((HBW.out.block _ (heap_lt HX5.out)).trans HX5.out)
    have HYW := Lib.hid ((HBW.out.block _ (heap_lt HY5.out)).trans HY5.out)
    have HSW := Lib.hid (HS5.out.below HBW.out)
    have HOW := Lib.hid (HO5.out.below HBW.out)
    have HNW := Lib.hid (HN5.out.below HBW.out)
    have x0 := (blk_cl (k := 0) HXW.out rfl).1
    have x1 := (blk_cl (k := 1) HXW.out rfl).1
    by_cases hlt : k < n1
    · obtain ⟨b, off, rfl, ⟨_, hbl⟩, hcc⟩ := RStep.at_ HSW.out hlt
      obtain ⟨A', n', c', ⟨d1', _, _⟩, _, _⟩ := hcc k hlt
      clear hcc
      have hkl : k < f.steps.length := by rw [HLF.out]; exact hlt
      have hk0 : (0 : Int) ≤ (k : Int) := by omega
      have hk1 : (k : Int) < (n1 : Int) := by omega
      have hk2 : ¬ ((k : Int) < 0) := by omega
      have hhas : hasB (namesOf f.steps) (nth f.steps k).name = true := hasB_true.2 (List.mem_map.2 ⟨_, mem_nth hkl, rfl⟩)
      have HPP : Hid ((flowB (gfF f gs vs) && hasB (namesOf (gfF f gs vs).steps) (nth f.steps k).name) = !hasB (closL gs vs) (nth f.steps k).name) := Lib.hid (by
        rw [HPT.out.1, HPT.out.2.2.2, hhas]; rfl)
      clear hhas
      have D1 := Lib.hid d1'
      have HSB : Hid (∀ w', Below wo.heap.size wo w' → ((w'.cell? ⟨p1, 0, none⟩ = some (.int .i64 f.ver) ∧ w'.cell? ⟨p1, 1, none⟩ = some (.slice (some ⟨b, off, none⟩) n1 c1)) ∧ (w'.cell? ⟨p2, 0, none⟩ = some (.int .i64 (gfF f gs vs).ver) ∧ w'.cell? ⟨p2, 1, none⟩ = some (.slice B2 m3 d2))) ∧ w'.cell? ⟨b, off + k * 3, none⟩ = some (.string (nth f.steps k).name)) := Lib.hid (fun w' h => by
        have e1 := (h.block _ (heap_lt HXW.out)).trans HXW.out
        have e2 := (h.block _ (heap_lt HYW.out)).trans HYW.out
        exact ⟨⟨⟨(blk_cl (k := 0) e1 rfl).1, (blk_cl (k := 1) e1 rfl).1⟩, (blk_cl (k := 0) e2 rfl).1, (blk_cl (k := 1) e2 rfl).1⟩, (h.cell (p := ⟨b, off + k * 3, none⟩) hbl).trans D1.out⟩)
      clear d1'
      have HFI := Lib.hid (fun (cur : World) (h : Below wo.heap.size wo cur) => (findI_any B2 m3 d2 (gfF f gs vs) (nth f.steps k).name _ cur (HOW.out.hat2.below h) HGO.out).mono (R' := fun e w' => ∃ (s : Step) (A' : Option Addr) (n' c' : Nat), e = .returned (.tuple #[.agg #[.string s.name, .slice A' n' c', .bool s.undo], .bool (!hasB (closL gs vs) (nth f.steps k).name)]) ∧ Below wo.heap.size wo w' ∧ Below cur.heap.size cur w') (by
        rintro e w' ⟨s, A', n', c', h1, h2⟩
        rw [HPP.out] at h1
        exact ⟨s, A', n', c', h1, h.trans (h2.mono h.size), h2⟩))
      go_upto_region 12 with fail
      clear x0 x1
      go_cut [12, 13] (fun s12 s13 wx => ∃ b5 : Nat, s12 = .pointer (some ⟨b5, 0, none⟩) ∧ s13 = .bool (!hasB (closL gs vs) (nth f.steps k).name) ∧ Below wo.heap.size wo wx)
      case first =>
        go_region_held3 (fun w' => ((w'.cell? ⟨p1, 0, none⟩ = some (.int .i64 f.ver) ∧ w'.cell? ⟨p1, 1, none⟩ = some (.slice (some ⟨b, off, none⟩) n1 c1)) ∧ (w'.cell? ⟨p2, 0, none⟩ = some (.int .i64 (gfF f gs vs).ver) ∧ w'.cell? ⟨p2, 1, none⟩ = some (.slice B2 m3 d2))) ∧ w'.cell? ⟨b, off + k * 3, none⟩ = some (.string (nth f.steps k).name))
          ((refine HSB.out _ ?_; (repeat (first | with_reducible exact hbw | with_reducible exact Below.refl _ _ | apply Below.drew | refine Below.alloc ?_ (by first | exact hbw.size | (simp; done)) _ | refine Below.setCell ?_ (by exact Nat.le_refl _) _ | fail "x")); done))
          (first | (go_at_call 46; refine (HFI.out _ (by repeat (first | with_reducible exact Below.refl _ _ | apply Below.drew | refine Below.alloc ?_ (by first | exact hbw.size | (simp; done)) _))).mono ?_; rintro e w5 ⟨s5, A5, n5, c5, rfl, hbw, hb5⟩; (first | (have hz5 := (hb5.block wo.heap.size (by simp)).trans (heap_new (w := wo.drew) (b := wo.heap.size) (o := .cells #[.string ⟨#[]⟩, .slice none 0 0, .bool false] 75) rfl); obtain ⟨q0, q0'⟩ := blk_cl (k := 0) hz5 rfl; obtain ⟨q1, q1'⟩ := blk_cl (k := 1) hz5 rfl; obtain ⟨q2, q2'⟩ := blk_cl (k := 2) hz5 rfl) | skip)) | fail "no arm")
        all_goals
          go_wp2_with fail
          go_meet
          first
            | with_reducible exact ⟨_, rfl, rfl, hbw.alloc hbw.size _⟩
            | with_reducible exact ⟨_, rfl, rfl, ((hbw.setCell (p := ⟨wo.heap.size, 0, none⟩) (Nat.le_refl _) _).setCell (p := ⟨wo.heap.size, 1, none⟩) (Nat.le_refl _) _).setCell (p := ⟨wo.heap.size, 2, none⟩) (Nat.le_refl _) _⟩
            | fail "no meet"
      case rest =>
        obtain ⟨b5, rfl, rfl, hbc⟩ := hcut
        have HBC := Lib.hid (HBW.out.trans (hbc.mono HBW.out.size))
        obtain ⟨⟨⟨x0, x1⟩, _, _⟩, d1c⟩ := HSB.out _ hbc
        have HPL := Lib.hid (placeOf_any C q cq (closL gs vs) (nth f.steps k).name _ wc (HNW.out.below hbc) (by omega))
        clear hbc
        cases hcl : hasB (closL gs vs) (nth f.steps k).name
        · have hidx := idx_neg hcl
          have hid3 : decide (idxI (closL gs vs) (nth f.steps k).name < 0) = true := by rw [decide_eq_true_iff]; exact hidx
          clear hcl
          generalize idxI (closL gs vs) (nth f.steps k).name = zi at *
          go_wp2_with fail
          refine HPL.out.mono ?_
          rintro e w6 ⟨rfl, rfl⟩
          go_wp2_with fail
          go_roundw
          case rel => exact ⟨k + 1, by omega, by go_num, HBC.out⟩
          case measure => simp [intOf]; omega
        · have hidx := idx_pos hcl
          have hid2 : ¬ (idxI (closL gs vs) (nth f.steps k).name < 0) := by omega
          have hid3 : decide (idxI (closL gs vs) (nth f.steps k).name < 0) = false := by rw [decide_eq_false_iff_not]; exact hid2
          clear hcl
          generalize idxI (closL gs vs) (nth f.steps k).name = zi at *
          go_wp2_with fail
          refine HPL.out.mono ?_
          rintro e w6 ⟨rfl, rfl⟩
          go_wp2_with fail
          go_roundw
          case rel => exact ⟨k + 1, by omega, by go_num, HBC.out⟩
          case measure => simp [intOf]; omega
    · obtain rfl : k = n1 := by omega
      have HLE : Hid (m3 ≤ k) := Lib.hid (by rw [← HOW.out.len, ← HLF.out]; exact HPT.out.2.2.1)
      have hle := HLE.out
      have hle2 : (m3 : Int) ≤ (k : Int) := by omega
      have y0 := (blk_cl (k := 0) HYW.out rfl).1
      have y1 := (blk_cl (k := 1) HYW.out rfl).1
      go_wp2_with fail
      refine (flowI_any B2 m3 d2 (gfF f gs vs) _ _ HOW.out.hat2 HGO.out).mono ?_
      rintro e w7 ⟨rfl, hb7⟩
      rw [HPT.out.1]
      have HX7 := Lib.hid ((hb7.block _ (heap_lt HXW.out)).trans HXW.out)
      have HY7 := Lib.hid ((hb7.block _ (heap_lt HYW.out)).trans HYW.out)
      clear x0 x1 y0 y1
      have HY7b := Lib.hid HY7.out
      rw [HPT.out.2.1] at HY7b
      have x0 := (blk_cl (k := 0) HX7.out rfl).1
      have x1 := (blk_cl (k := 1) HX7.out rfl).1
      have y0 := (blk_cl (k := 0) HY7b.out rfl).1
      have y1 := (blk_cl (k := 1) HY7b.out rfl).1
      go_wp2_with fail
      go_ret
      exact ⟨rfl, HB5.out.trans ((HBW.out.trans (hb7.mono HBW.out.size)).mono HB5.out.size)⟩
end Go.Proofs.Ytakeijgoonagcaa

/- FnGuardsFlow returns true at every input, and leaves its arguments as they were. No condition. -/
namespace Go.Proofs.Ytakeijgoonagcaa
open Go.ChangeShapes Go.WideShapes Go.ChangeAt Go.RowKit

set_option maxRecDepth 100000 in
theorem fnGuardsFlow_lifted (os : Os) (started : os.Started) (H : Type) (enc : TypeId × Value → H) :
    ReturnsInHanded {} Try.checked os 11 .any (Rows.fnGuardsFlowSpec.pre6 enc Try.prog Try.f11 Rows.fnGuardsFlowRow.domain false) (Rows.fnGuardsFlowSpec.post enc Try.prog Try.f11 false true false false) := by
  refine returnsInHanded_of_change (C := Try.checked) Try.own started (by kernel_rfl) Try.func11
    (ChangeSpec.witness6 (enc := enc) (C := Try.checked) false ⟨#[], #[.slice none 0 0], []⟩ 8 (by kernel_rfl) (by kernel_rfl) (by kernel_rfl) (by kernel_rfl)) ?_
  intro W base args ds gs before hval0 hW hcnd _
  have hval : ∀ (j : Nat) t v, Try.f11.params[j]? = some t → args[j]? = some v → Value.okWide Try.prog W .any base t v := hval0
  have hW' := hW
  obtain ⟨p, q, hA0, hV, rfl, hfz, hnd⟩ := hW
  have hA : DataW.TrodAll enc Try.prog W 0 (fun _ => true) true Try.f11.params.toList args.toList ds p := hA0
  rw [Try.params11] at hA hval
  obtain ⟨v0, d0, rfl, rfl, h0⟩ := trodAll_one hA
  obtain ⟨rfl, rfl⟩ := trodVars_none hV
  have h0k := h0
  obtain ⟨a0, len, cap, rfl⟩ := okWide_slice Try.underlying44 (hval 0 44 v0 rfl rfl)
  obtain ⟨fuel, hf⟩ := h0
  clear hA0 hval0 hA
  simp only [List.append_nil] at hW' hfz
  have hlt : ∀ x ∈ p, x.block < W.heap.size := fun x hx => by simpa using hW'.lt x hx
  obtain ⟨hr, hc, _⟩ := open_code hf
  refine (fnGuardsFlow_any a0 len cap W hr hc).mono fun e W' ⟨he, hb⟩ => ?_
  subst he
  exact ⟨_, rfl, post_law hW' rfl (by kernel_rfl) Try.underlying4 rfl rfl rfl (trodAll_mk1 (Below.trod Try.laidOut (by kernel_rfl) (of_decide_eq_true (by kernel_rfl)) h0k hb hlt)) hb⟩

theorem fnGuardsFlow_holds : Rows.FnGuardsFlowSaid :=
  OpenClaim.holds_of_wide 11 Try.f11 rfl rfl rfl rfl rfl rfl rfl ⟨rfl, rfl, rfl, rfl, rfl⟩ rfl rfl rfl rfl rfl (by kernel_rfl) Try.func11 (by kernel_rfl)
    (of_decide_eq_true (by kernel_rfl)) (by unfold Func.isWrapper; rw [if_neg (by decide +kernel)]; exact ⟨rfl, rfl⟩)
    (fun os started H enc _ => fnGuardsFlow_lifted os started H enc)
end Go.Proofs.Ytakeijgoonagcaa
