/- FnPoolEvent returns true at every input, and leaves its arguments as they were. No condition. -/
import Derived.Deep.RegionHeld3
import Derived.Test.YthcpjkhijjkolaaZH
import Derived.Test.YthcpjkhijjkolaaZF
import Derived.Test.YthcpjkhijjkolaaZA
import Derived.Test.YthcpjkhijjkolaaZC

/- FnPoolEventOthers: the walk. -/
namespace Go.Proofs.Ythcpjkhijjkolaa
open Go.RowKit

set_option maxRecDepth 100000 in
set_option maxHeartbeats 4000000 in
theorem fnPoolEventOthers_any (A : Option Addr) (n c : Nat) (w : World) (hr : RByte w A n) (hc : n ≤ c) :
    Calls Try.prog 11 #[.slice A n c] w fun e w' => e = .returned (.bool true) ∧ Below w.heap.size w w' := by
  have HR := Lib.hid hr; clear hr
  by_cases hn : 1048576 < n
  · go_enter Try.func11, Try.ntmps11
    go_wp2_with fail
    go_ret
    exact ⟨rfl, Below.refl _ _⟩
  go_enter Try.func11, Try.ntmps11
  go_wp2_with fail
  refine (drawPoolEvent_any _ _ _ _ HR.out hc (by omega)).mono ?_
  rintro e w1 ⟨f, A1, n1, c1, B1, m1, d1, cs, nm, k, x, rfl, hs, hok, h1, h6, hcs, hokc, hmd, hm9, hb1⟩
  have HOK := Lib.hid hok; clear hok
  have HOC := Lib.hid hokc; clear hokc
  have HL := Lib.hid hcs.1
  have HS1 := Lib.hid ((hs.alloc (.cells #[.int .i64 f.ver, .slice A1 n1 c1] 33)).alloc (.cells #[.int .i64 k, .string x] 73)); clear hs
  have HC1 := Lib.hid ((hcs.alloc (.cells #[.int .i64 f.ver, .slice A1 n1 c1] 33)).alloc (.cells #[.int .i64 k, .string x] 73)); clear hcs
  have HB1 := Lib.hid ((hb1.alloc hb1.size (.cells #[.int .i64 f.ver, .slice A1 n1 c1] 33)).alloc (Nat.le_trans hb1.size (by simp)) (.cells #[.int .i64 k, .string x] 73)); clear hb1
  have HX1 := Lib.hid (heap_old (o := .cells #[.int .i64 k, .string x] 73) (heap_new (w := w1) (o := .cells #[.int .i64 f.ver, .slice A1 n1 c1] 33) rfl))
  have HV1 := Lib.hid (heap_new (w := w1.alloc (.cells #[.int .i64 f.ver, .slice A1 n1 c1] 33)) (b := w1.heap.size + 1) (o := .cells #[.int .i64 k, .string x] 73) (by simp))
  go_wp2_with fail
  refine (poolEvI_any _ _ _ _ _ _ f cs nm k x _ _ _ HS1.out HOK.out HC1.out HOC.out).mono ?_
  rintro e w2 ⟨B2, m2, d2, rfl, h2, hmd2, hb2⟩
  have HX2 := Lib.hid ((hb2.block _ (heap_lt HX1.out)).trans HX1.out)
  have HV2 := Lib.hid ((hb2.block _ (heap_lt HV1.out)).trans HV1.out)
  have HB2 := Lib.hid (HB1.out.trans (hb2.mono HB1.out.size))
  have HS2 := Lib.hid (HS1.out.below hb2)
  have HC2 := Lib.hid (HC1.out.below hb2)
  have H2 := Lib.hid h2.hat; clear h2 hb2
  have x0 := (blk_cl (k := 0) HX2.out rfl).1
  have x1 := (blk_cl (k := 1) HX2.out rfl).1
  have v0 := (blk_cl (k := 0) HV2.out rfl).1
  have v1 := (blk_cl (k := 1) HV2.out rfl).1
  go_wp2_with fail
  refine (poolEvS_any _ _ _ _ _ _ f cs nm k x _ _ _ HS2.out HOK.out HC2.out HOC.out).mono ?_
  rintro e w3 ⟨B3, m3, d3, rfl, h3, hmd3, hb3⟩
  obtain rfl : m3 = m2 := by rw [← h3.1, ← H2.out.1]
  have HX3 := Lib.hid ((hb3.block _ (heap_lt HX2.out)).trans HX2.out)
  have HV3 := Lib.hid ((hb3.block _ (heap_lt HV2.out)).trans HV2.out)
  have HB3 := Lib.hid (HB2.out.trans (hb3.mono HB2.out.size))
  have HS3 := Lib.hid (HS2.out.below hb3)
  have HC3 := Lib.hid (HC2.out.below hb3)
  have H23 := Lib.hid (H2.out.below hb3)
  have H3 := Lib.hid h3.hat; clear h3 hb3 x0 x1 v0 v1 HX1 HX2 HV1 HV2 HS1 HS2 HC1 HC2 H2
  have HOKP := Lib.hid (okCases_ev (f := f) (nm := nm) (x := x) (k := k) HOC.out)
  have HP := Lib.hid (fun (w' : World) (h : Below w3.heap.size w3 w') => samePool_same B2 B3 m3 d2 d3 (peL f cs nm k x) _ _ w' (H23.out.below h) HOKP.out (H3.out.below h))
  have hzz : (peB f cs nm k x != peB f cs nm k x) = false := by simp
  have hze : (peB f cs nm k x == peB f cs nm k x) = true := by simp
  cases hp : peB f cs nm k x
  · clear hp
    go_wp2_with fail
    refine (HP.out w3 (Below.refl _ _)).mono ?_
    rintro e w4 ⟨rfl, hb4⟩
    go_wp2_with fail
    refine (HP.out w4 hb4).mono ?_
    rintro e w5 ⟨rfl, hb5⟩
    go_wp2_with fail
    go_ret
    exact ⟨rfl, (HB3.out.trans (hb4.mono HB3.out.size)).trans (hb5.mono (Nat.le_trans HB3.out.size hb4.size))⟩
  have HPE := Lib.hid hp
  have hm31 : m3 = m1 := by rw [← H3.out.1, peL_len hp, HL.out]
  obtain rfl : m3 = m1 := hm31
  clear hp
  go_wp2_with fail
  refine (HP.out w3 (Below.refl _ _)).mono ?_
  rintro e w4 ⟨rfl, hb4⟩
  have HX4 := Lib.hid ((hb4.block _ (heap_lt HX3.out)).trans HX3.out)
  have HV4 := Lib.hid ((hb4.block _ (heap_lt HV3.out)).trans HV3.out)
  have HB4 := Lib.hid (HB3.out.trans (hb4.mono HB3.out.size))
  have HS4 := Lib.hid (HS3.out.below hb4)
  have HC4 := Lib.hid (HC3.out.below hb4)
  have H24 := Lib.hid (H23.out.below hb4)
  have HL2 := Lib.hid H24.out.1
  clear hb4 hzz hze HP HX3 HV3 HB3 HS3 HC3 H23 H3
  go_wp2_with fail
  go_loopw [11] (fun i wr => ∃ j : Nat, j ≤ m3 ∧ i = .int .i64 (j : Int) ∧ Below w4.heap.size w4 wr) (fun i _ => m3 - (intOf i).toNat)
  case atStart => exact ⟨0, Nat.zero_le _, rfl, Below.refl _ _⟩
  case round =>
    obtain ⟨j, hj, rfl, hbw⟩ := hrel
    have HBW := Lib.hid hbw; clear hbw
    by_cases hlt : j < m3
    · obtain ⟨b, off, rfl, ⟨_, hbl⟩, hcc⟩ := RCase.at_ (HC4.out.below HBW.out) hlt
      obtain ⟨A', n', c', ⟨y1, y2, y3⟩, hdr, hnc, _⟩ := hcc j hlt
      clear hcc
      have hjl : j < cs.length := by rw [HL.out]; exact hlt
      have hn' : n' ≤ 1048576 := by rw [← hdr.1]; exact (HOC.out.2 j hjl).2
      have hj0 : (0 : Int) ≤ (j : Int) := by omega
      have hj1 : (j : Int) < (m3 : Int) := by omega
      by_cases he : (nth cs j).name = nm
      · have hq : ((nth cs j).name.toList != nm.toList) = false := by rw [he]; simp
        have hq2 := seq_t he
        have hq3 : decide ((nth cs j).name.toList = nm.toList) = true := by rw [he]; simp
        clear he hdr
        generalize (nth cs j).name = s9 at *
        go_wp2_with fail
        go_quiet (fail)
        go_wp2_with fail
        go_roundw
        case rel => exact ⟨j + 1, by omega, by go_num, below_drewN HBW.out _⟩
        case measure => simp [intOf]; omega
      · have hq : ((nth cs j).name.toList != nm.toList) = true := by unfold bne; rw [seq_f he]; rfl
        have hq2 := seq_f he
        have hq3 : decide ((nth cs j).name.toList = nm.toList) = false := by rw [← hq2, Bool.beq_eq_decide_eq]
        have hsame := peL_other HPE.out he
        clear he
        obtain ⟨b2, off2, rfl, ⟨_, hbl2⟩, hcc⟩ := RCase.at_ (H24.out.below HBW.out) hlt
        obtain ⟨A'', n'', c'', ⟨z1, z2, z3⟩, hdr2, _, _⟩ := hcc j hlt
        clear hcc
        rw [hsame] at z1 z2 hdr2
        obtain rfl : n'' = n' := by rw [← hdr2.1, ← hdr.1]
        have HSC := Lib.hid (fun y : Bl wr => sameCase_same A'' A' n'' c'' c' (nth cs j) _ _ y.wd (hdr2.below y.below) hn' (hdr.below y.below))
        have Y1 : ∀ y : Bl wr, y.wd.cell? ⟨b, off + j * 3, none⟩ = some (.string (nth cs j).name) := fun y => (y.below.cell (p := ⟨b, off + j * 3, none⟩) hbl).trans y1
        have Y2 : ∀ y : Bl wr, y.wd.cell? ⟨b, off + j * 3 + 1, none⟩ = some (.int .i64 (nth cs j).st) := fun y => (y.below.cell (p := ⟨b, off + j * 3 + 1, none⟩) hbl).trans y2
        have Y3 : ∀ y : Bl wr, y.wd.cell? ⟨b, off + j * 3 + 2, none⟩ = some (.slice A' n'' c') := fun y => (y.below.cell (p := ⟨b, off + j * 3 + 2, none⟩) hbl).trans y3
        have Z1 : ∀ y : Bl wr, y.wd.cell? ⟨b2, off2 + j * 3, none⟩ = some (.string (nth cs j).name) := fun y => (y.below.cell (p := ⟨b2, off2 + j * 3, none⟩) hbl2).trans z1
        have Z2 : ∀ y : Bl wr, y.wd.cell? ⟨b2, off2 + j * 3 + 1, none⟩ = some (.int .i64 (nth cs j).st) := fun y => (y.below.cell (p := ⟨b2, off2 + j * 3 + 1, none⟩) hbl2).trans z2
        have Z3 : ∀ y : Bl wr, y.wd.cell? ⟨b2, off2 + j * 3 + 2, none⟩ = some (.slice A'' n'' c'') := fun y => (y.below.cell (p := ⟨b2, off2 + j * 3 + 2, none⟩) hbl2).trans z3
        clear y1 y2 y3 z1 z2 z3 hdr hdr2 hsame
        go_wp2_with fail
        refine region_bl (by kernel_rfl) (by kernel_rfl) ?_
        repeat (go_big_quiet_step ((go_at_call 50; exact q_bl (HSC.out _))))
        refine wpQuiet_nil ?_
        intro _ hw'
        obtain ⟨y, rfl⟩ := hw'
        have HY := Lib.hid (HBW.out.trans (y.below.mono HBW.out.size))
        clear Y1 Y2 Y3 Z1 Z2 Z3 HSC
        go_wp2_with fail
        go_roundw
        case rel => exact ⟨j + 1, by omega, by go_num, HY.out⟩
        case measure => simp [intOf]; omega
    · have hq : ((m3 : Int) == (m3 : Int)) = true := by simp
      go_wp2_with fail
      go_ret
      exact ⟨rfl, HB4.out.trans (HBW.out.mono HB4.out.size)⟩
end Go.Proofs.Ythcpjkhijjkolaa

/- FnPoolEvent: the walk. -/
namespace Go.Proofs.Ythcpjkhijjkolaa
open Go.RowKit

set_option maxRecDepth 100000 in
set_option maxHeartbeats 4000000 in
theorem fnPoolEvent_any (A : Option Addr) (n c : Nat) (w : World) (hr : RByte w A n) (hc : n ≤ c) :
    Calls Try.prog 12 #[.slice A n c] w fun e w' => e = .returned (.bool true) ∧ Below w.heap.size w w' := by
  have HR := Lib.hid hr; clear hr
  by_cases hn : 1048576 < n
  · go_enter Try.func12, Try.ntmps12
    go_wp2_with fail
    go_ret
    exact ⟨rfl, Below.refl _ _⟩
  go_enter Try.func12, Try.ntmps12
  go_wp2_with fail
  refine (drawPoolEvent_any _ _ _ _ HR.out hc (by omega)).mono ?_
  rintro e w1 ⟨f, A1, n1, c1, B1, m1, d1, cs, nm, k, x, rfl, hs, hok, h1, h6, hcs, hokc, hmd, hm9, hb1⟩
  have HOK := Lib.hid hok; clear hok
  have HOC := Lib.hid hokc; clear hokc
  have HL := Lib.hid hcs.1
  have HS1 := Lib.hid ((hs.alloc (.cells #[.int .i64 f.ver, .slice A1 n1 c1] 33)).alloc (.cells #[.int .i64 k, .string x] 73)); clear hs
  have HC1 := Lib.hid ((hcs.alloc (.cells #[.int .i64 f.ver, .slice A1 n1 c1] 33)).alloc (.cells #[.int .i64 k, .string x] 73)); clear hcs
  have HB1 := Lib.hid ((hb1.alloc hb1.size (.cells #[.int .i64 f.ver, .slice A1 n1 c1] 33)).alloc (Nat.le_trans hb1.size (by simp)) (.cells #[.int .i64 k, .string x] 73)); clear hb1
  have HX1 := Lib.hid (heap_old (o := .cells #[.int .i64 k, .string x] 73) (heap_new (w := w1) (o := .cells #[.int .i64 f.ver, .slice A1 n1 c1] 33) rfl))
  have HV1 := Lib.hid (heap_new (w := w1.alloc (.cells #[.int .i64 f.ver, .slice A1 n1 c1] 33)) (b := w1.heap.size + 1) (o := .cells #[.int .i64 k, .string x] 73) (by simp))
  go_wp2_with fail
  refine (poolEvI_any _ _ _ _ _ _ f cs nm k x _ _ _ HS1.out HOK.out HC1.out HOC.out).mono ?_
  rintro e w2 ⟨B2, m2, d2, rfl, h2, hmd2, hb2⟩
  have HX2 := Lib.hid ((hb2.block _ (heap_lt HX1.out)).trans HX1.out)
  have HV2 := Lib.hid ((hb2.block _ (heap_lt HV1.out)).trans HV1.out)
  have HB2 := Lib.hid (HB1.out.trans (hb2.mono HB1.out.size))
  have HS2 := Lib.hid (HS1.out.below hb2)
  have HC2 := Lib.hid (HC1.out.below hb2)
  have H2 := Lib.hid h2.hat; clear h2 hb2
  have x0 := (blk_cl (k := 0) HX2.out rfl).1
  have x1 := (blk_cl (k := 1) HX2.out rfl).1
  have v0 := (blk_cl (k := 0) HV2.out rfl).1
  have v1 := (blk_cl (k := 1) HV2.out rfl).1
  go_wp2_with fail
  refine (poolEvS_any _ _ _ _ _ _ f cs nm k x _ _ _ HS2.out HOK.out HC2.out HOC.out).mono ?_
  rintro e w3 ⟨B3, m3, d3, rfl, h3, hmd3, hb3⟩
  obtain rfl : m3 = m2 := by rw [← h3.1, ← H2.out.1]
  have HX3 := Lib.hid ((hb3.block _ (heap_lt HX2.out)).trans HX2.out)
  have HV3 := Lib.hid ((hb3.block _ (heap_lt HV2.out)).trans HV2.out)
  have HB3 := Lib.hid (HB2.out.trans (hb3.mono HB2.out.size))
  have HS3 := Lib.hid (HS2.out.below hb3)
  have HC3 := Lib.hid (HC2.out.below hb3)
  have H23 := Lib.hid (H2.out.below hb3)
  have H3 := Lib.hid h3.hat; clear h3 hb3 x0 x1 v0 v1 HX1 HX2 HV1 HV2 HS1 HS2 HC1 HC2 H2
  have HOKP := Lib.hid (okCases_ev (f := f) (nm := nm) (x := x) (k := k) HOC.out)
  have HP := Lib.hid (fun (w' : World) (h : Below w3.heap.size w3 w') => samePool_same B2 B3 m3 d2 d3 (peL f cs nm k x) _ _ w' (H23.out.below h) HOKP.out (H3.out.below h))
  have hzz : (peB f cs nm k x != peB f cs nm k x) = false := by simp
  have hze : (peB f cs nm k x == peB f cs nm k x) = true := by simp
  cases hp : peB f cs nm k x
  · clear hp
    go_wp2_with fail
    refine (HP.out w3 (Below.refl _ _)).mono ?_
    rintro e w4 ⟨rfl, hb4⟩
    go_wp2_with fail
    refine (HP.out w4 hb4).mono ?_
    rintro e w5 ⟨rfl, hb5⟩
    go_wp2_with fail
    go_ret
    exact ⟨rfl, (HB3.out.trans (hb4.mono HB3.out.size)).trans (hb5.mono (Nat.le_trans HB3.out.size hb4.size))⟩
  have HPE := Lib.hid hp
  have hm31 : m3 = m1 := by rw [← H3.out.1, peL_len hp, HL.out]
  obtain rfl : m3 = m1 := hm31
  clear hp
  go_wp2_with fail
  refine (HP.out w3 (Below.refl _ _)).mono ?_
  rintro e w4 ⟨rfl, hb4⟩
  have HX4 := Lib.hid ((hb4.block _ (heap_lt HX3.out)).trans HX3.out)
  have HV4 := Lib.hid ((hb4.block _ (heap_lt HV3.out)).trans HV3.out)
  have HB4 := Lib.hid (HB3.out.trans (hb4.mono HB3.out.size))
  have HS4 := Lib.hid (HS3.out.below hb4)
  have HC4 := Lib.hid (HC3.out.below hb4)
  have H24 := Lib.hid (H23.out.below hb4)
  have HL2 := Lib.hid H24.out.1
  clear hb4 hzz hze HP HX3 HV3 HB3 HS3 HC3 H23 H3
  go_wp2_with fail
  refine (caseOf_any _ _ _ cs nm _ _ HC4.out (by omega)).mono ?_
  rintro e w5 ⟨rfl, rfl⟩
  obtain ⟨_, hpl, hidx, -, hev⟩ := pe_parts HPE.out
  have HPO := Lib.hid (pool_ev HPE.out)
  have HPA := Lib.hid (peL_at HPE.out)
  have HVL := Lib.hid (show (evR f (nth cs (pAt cs nm)).st (nth cs (pAt cs nm)).done k x).2.length ≤ 1048576 from Nat.le_trans (run_sizes (run_ev hev)).1 (by omega))
  have HEB := Lib.hid hev; clear hev
  rw [hidx]
  clear hidx
  generalize pAt cs nm = p at *
  have hpm : p < m3 := by rw [← HL.out]; exact hpl
  have hp0 : (0 : Int) ≤ (p : Int) := by omega
  have hp1 : (p : Int) < (m3 : Int) := by omega
  have hp2 : ¬ ((p : Int) < 0) := by omega
  have hmm : ((m3 : Int) != (m3 : Int)) = false := by simp
  obtain ⟨b, off, hB, ⟨_, hbl⟩, hcc⟩ := RCase.at_ HC4.out hpm
  obtain ⟨A', n', c', ⟨_, y2, y3⟩, hdr, hnc, _⟩ := hcc p hpm
  clear hcc
  subst hB
  have hn' : n' ≤ 1048576 := by rw [← hdr.1]; exact (HOC.out.2 p hpl).2
  have HDS := Lib.hid hdr; clear hdr
  generalize (nth cs p).st = s0 at *
  generalize (nth cs p).done = ds at *
  have HY2 := Lib.hid y2; clear y2
  have HY3 := Lib.hid y3; clear y3
  have HSB : Hid (∀ w', Below w4.heap.size w4 w' → ((w'.cell? ⟨w1.heap.size, 0, none⟩ = some (.int .i64 f.ver) ∧ w'.cell? ⟨w1.heap.size, 1, none⟩ = some (.slice A1 n1 c1)) ∧ (w'.cell? ⟨w1.heap.size + 1, 0, none⟩ = some (.int .i64 k) ∧ w'.cell? ⟨w1.heap.size + 1, 1, none⟩ = some (.string x)) ∧ (w'.cell? ⟨b, off + p * 3 + 1, none⟩ = some (.int .i64 s0) ∧ w'.cell? ⟨b, off + p * 3 + 2, none⟩ = some (.slice A' n' c'))) ∧ Below w4.heap.size w4 w') := fun w' h => by
    have e1 := (h.block _ (heap_lt HX4.out)).trans HX4.out
    have e2 := (h.block _ (heap_lt HV4.out)).trans HV4.out
    exact ⟨⟨⟨(blk_cl (k := 0) e1 rfl).1, (blk_cl (k := 1) e1 rfl).1⟩, ⟨(blk_cl (k := 0) e2 rfl).1, (blk_cl (k := 1) e2 rfl).1⟩, ⟨(h.cell (p := ⟨b, off + p * 3 + 1, none⟩) hbl).trans HY2.out, (h.cell (p := ⟨b, off + p * 3 + 2, none⟩) hbl).trans HY3.out⟩⟩, h⟩
  have hs4 := HB4.out.size
  go_wp2_with fail
  go_region_held3 (fun w' => ((w'.cell? ⟨w1.heap.size, 0, none⟩ = some (.int .i64 f.ver) ∧ w'.cell? ⟨w1.heap.size, 1, none⟩ = some (.slice A1 n1 c1)) ∧ (w'.cell? ⟨w1.heap.size + 1, 0, none⟩ = some (.int .i64 k) ∧ w'.cell? ⟨w1.heap.size + 1, 1, none⟩ = some (.string x)) ∧ (w'.cell? ⟨b, off + p * 3 + 1, none⟩ = some (.int .i64 s0) ∧ w'.cell? ⟨b, off + p * 3 + 2, none⟩ = some (.slice A' n' c'))) ∧ Below w4.heap.size w4 w')
    ((refine HSB.out _ ?_; (repeat (first | with_reducible exact hbw | with_reducible exact Below.refl _ _ | apply Below.drew | apply Below.al_ | refine Below.setCell ?_ (by first | exact Nat.le_refl _ | exact hbw.size) _ | fail "x")); done))
    (first | (go_at_call 52; refine (evI_any _ _ _ _ _ _ f s0 ds k x _ _ _ (HS4.out.below (by repeat (first | with_reducible exact Below.refl _ _ | apply Below.drew | apply Below.al_))) HOK.out (HDS.out.below (by repeat (first | with_reducible exact Below.refl _ _ | apply Below.drew | apply Below.al_))) hn' hnc).mono ?_; rintro e w5 ⟨B5, n5, d5, rfl, ho5, hb5⟩; have hz5 := (hb5.block w4.heap.size (by simp)).trans (heap_new (w := w4) (b := w4.heap.size) (o := .cells #[.int .i64 0, .slice none 0 0] 35) rfl); have q0 := (blk_cl (k := 0) hz5 rfl).1; have q0' := (blk_cl (k := 0) hz5 rfl).2; have q1 := (blk_cl (k := 1) hz5 rfl).1; have q1' := (blk_cl (k := 1) hz5 rfl).2; have hbw : Below w4.heap.size w4 w5 := (Below.al_ (Below.refl w4.heap.size w4).drew _).trans (hb5.mono (by simp)); have hbs : w4.heap.size ≤ (w4.alloc (.cells #[.int .i64 0, .slice none 0 0] 35)).drew.heap.size := by simp) | (go_at_call 52; refine (evI_any _ _ _ _ _ _ f s0 ds k x _ _ _ (HS4.out.below (by repeat (first | with_reducible exact Below.refl _ _ | apply Below.drew | apply Below.al_))) HOK.out (HDS.out.below (by repeat (first | with_reducible exact Below.refl _ _ | apply Below.drew | apply Below.al_))) hn' hnc).mono ?_; rintro e w5 ⟨B5, n5, d5, rfl, ho5, hb5⟩; have hbw : Below w4.heap.size w4 w5 := (Below.refl w4.heap.size w4).drew.trans hb5; have hbs : w4.heap.size ≤ w4.drew.heap.size := Nat.le_refl _) | fail "no arm")
  · have hbox := heap_new (w := w5) (o := .cells #[.int .i64 (evR f s0 ds k x).1, .slice B5 n5 d5] 35) rfl
    have hb6 : Below w4.heap.size w4 (w5.alloc (.cells #[.int .i64 (evR f s0 ds k x).1, .slice B5 n5 d5] 35)) := Below.al_ hbw _
    have hrow := row_mono (ho5.alloc (.cells #[.int .i64 (evR f s0 ds k x).1, .slice B5 n5 d5] 35)) (Nat.le_trans hs4 hbs)
    generalize w5.alloc (.cells #[.int .i64 (evR f s0 ds k x).1, .slice B5 n5 d5] 35) = w6 at *
    generalize w5.heap.size = pb at *
    clear hbw hbs
    have HBX := Lib.hid hbox; clear hbox
    have HB6 := Lib.hid hb6; clear hb6
    have HROW := Lib.hid hrow; clear hrow
    clear ho5 hb5 HSB
    generalize evR f s0 ds k x = v at *
    obtain ⟨A8, c8, e8, hss⟩ := own_str HROW.out
    injection e8 with e8 _ e9
    subst e8; subst e9
    obtain ⟨b2, off2, hB2, ⟨_, hbl2⟩, hcc⟩ := RCase.at_ (H24.out.below HB6.out) hpm
    obtain ⟨A'', n'', c'', ⟨_, z2, z3⟩, hdr2, _, _⟩ := hcc p hpm
    clear hcc
    subst hB2
    rw [HPA.out] at z2 hdr2
    obtain rfl : n5 = n'' := by rw [← hdr2.1, ← hss.1]
    have hs9 : n5 ≤ 1048576 := by rw [← hss.1]; exact HVL.out
    have HDR2 := Lib.hid hdr2; clear hdr2
    have HSS := Lib.hid hss; clear hss
    have HSR := Lib.hid (fun y : Bl w6 => sameRun_same A'' B5 n5 c'' d5 v.1 v.2 _ _ y.wd (HDR2.out.below y.below) hs9 (HSS.out.below y.below))
    have HPV := Lib.hid (fun y : Bl w6 => poolI_any A1 (some ⟨b2, off2, none⟩) n1 c1 m3 d2 f (peL f cs nm k x) _ _ y.wd ((HS4.out.below HB6.out).below y.below) HOK.out ((H24.out.below HB6.out).below y.below) HOKP.out)
    rw [HPO.out] at HPV
    have X0 : ∀ y : Bl w6, y.wd.cell? ⟨w1.heap.size, 0, none⟩ = some (.int .i64 f.ver) := fun y => (blk_cl (k := 0) ((y.below.block _ (Nat.lt_of_lt_of_le (heap_lt HX4.out) HB6.out.size)).trans ((HB6.out.block _ (heap_lt HX4.out)).trans HX4.out)) rfl).1
    have X1 : ∀ y : Bl w6, y.wd.cell? ⟨w1.heap.size, 1, none⟩ = some (.slice A1 n1 c1) := fun y => (blk_cl (k := 1) ((y.below.block _ (Nat.lt_of_lt_of_le (heap_lt HX4.out) HB6.out.size)).trans ((HB6.out.block _ (heap_lt HX4.out)).trans HX4.out)) rfl).1
    have P0 : ∀ y : Bl w6, y.wd.cell? ⟨pb, 0, none⟩ = some (.int .i64 v.1) := fun y => (blk_cl (k := 0) ((y.below.block _ (heap_lt HBX.out)).trans HBX.out) rfl).1
    have P1 : ∀ y : Bl w6, y.wd.cell? ⟨pb, 1, none⟩ = some (.slice B5 n5 d5) := fun y => (blk_cl (k := 1) ((y.below.block _ (heap_lt HBX.out)).trans HBX.out) rfl).1
    have Z2 : ∀ y : Bl w6, y.wd.cell? ⟨b2, off2 + p * 3 + 1, none⟩ = some (.int .i64 v.1) := fun y => (y.below.cell (p := ⟨b2, off2 + p * 3 + 1, none⟩) hbl2).trans z2
    have Z3 : ∀ y : Bl w6, y.wd.cell? ⟨b2, off2 + p * 3 + 2, none⟩ = some (.slice A'' n5 c'') := fun y => (y.below.cell (p := ⟨b2, off2 + p * 3 + 2, none⟩) hbl2).trans z3
    clear z2 z3
    have hev := HEB.out
    rw [hev]
    go_wp2_with fail
    refine region_bl (by kernel_rfl) (by kernel_rfl) ?_
    repeat (go_big_quiet_step ((first | (go_at_call 53; exact q_bl (HPV.out _)) | (go_at_call 54; exact q_bl (HSR.out _)))))
    refine wpQuiet_nil ?_
    intro _ hw'
    obtain ⟨y, rfl⟩ := hw'
    go_wp2_with fail
    go_ret
    exact ⟨rfl, HB4.out.trans ((HB6.out.trans (y.below.mono HB6.out.size)).mono HB4.out.size)⟩
  · have hbox := set21 (u := .slice B5 n5 d5) (set20 (u := .int .i64 (evR f s0 ds k x).1) hz5)
    have hb6 : Below w4.heap.size w4 ((w5.setCell ⟨w4.heap.size, 0, none⟩ (.int .i64 (evR f s0 ds k x).1)).setCell ⟨w4.heap.size, 1, none⟩ (.slice B5 n5 d5)) := (hbw.setCell (p := ⟨w4.heap.size, 0, none⟩) (Nat.le_refl _) _).setCell (p := ⟨w4.heap.size, 1, none⟩) (Nat.le_refl _) _
    have hrow := row_mono (row_set (o := 1) (u := .slice B5 n5 d5) (row_set (o := 0) (u := .int .i64 (evR f s0 ds k x).1) ho5 hz5 (by decide)) (set20 hz5) (by decide)) (Nat.le_trans hs4 hbs)
    generalize (w5.setCell ⟨w4.heap.size, 0, none⟩ (.int .i64 (evR f s0 ds k x).1)).setCell ⟨w4.heap.size, 1, none⟩ (.slice B5 n5 d5) = w6 at *
    clear hbw hbs hz5 q0 q0' q1 q1'
    have HBX := Lib.hid hbox; clear hbox
    have HB6 := Lib.hid hb6; clear hb6
    have HROW := Lib.hid hrow; clear hrow
    clear ho5 hb5 HSB
    generalize evR f s0 ds k x = v at *
    obtain ⟨A8, c8, e8, hss⟩ := own_str HROW.out
    injection e8 with e8 _ e9
    subst e8; subst e9
    obtain ⟨b2, off2, hB2, ⟨_, hbl2⟩, hcc⟩ := RCase.at_ (H24.out.below HB6.out) hpm
    obtain ⟨A'', n'', c'', ⟨_, z2, z3⟩, hdr2, _, _⟩ := hcc p hpm
    clear hcc
    subst hB2
    rw [HPA.out] at z2 hdr2
    obtain rfl : n5 = n'' := by rw [← hdr2.1, ← hss.1]
    have hs9 : n5 ≤ 1048576 := by rw [← hss.1]; exact HVL.out
    have HDR2 := Lib.hid hdr2; clear hdr2
    have HSS := Lib.hid hss; clear hss
    have HSR := Lib.hid (fun y : Bl w6 => sameRun_same A'' B5 n5 c'' d5 v.1 v.2 _ _ y.wd (HDR2.out.below y.below) hs9 (HSS.out.below y.below))
    have HPV := Lib.hid (fun y : Bl w6 => poolI_any A1 (some ⟨b2, off2, none⟩) n1 c1 m3 d2 f (peL f cs nm k x) _ _ y.wd ((HS4.out.below HB6.out).below y.below) HOK.out ((H24.out.below HB6.out).below y.below) HOKP.out)
    rw [HPO.out] at HPV
    have X0 : ∀ y : Bl w6, y.wd.cell? ⟨w1.heap.size, 0, none⟩ = some (.int .i64 f.ver) := fun y => (blk_cl (k := 0) ((y.below.block _ (Nat.lt_of_lt_of_le (heap_lt HX4.out) HB6.out.size)).trans ((HB6.out.block _ (heap_lt HX4.out)).trans HX4.out)) rfl).1
    have X1 : ∀ y : Bl w6, y.wd.cell? ⟨w1.heap.size, 1, none⟩ = some (.slice A1 n1 c1) := fun y => (blk_cl (k := 1) ((y.below.block _ (Nat.lt_of_lt_of_le (heap_lt HX4.out) HB6.out.size)).trans ((HB6.out.block _ (heap_lt HX4.out)).trans HX4.out)) rfl).1
    have P0 : ∀ y : Bl w6, y.wd.cell? ⟨w4.heap.size, 0, none⟩ = some (.int .i64 v.1) := fun y => (blk_cl (k := 0) ((y.below.block _ (heap_lt HBX.out)).trans HBX.out) rfl).1
    have P1 : ∀ y : Bl w6, y.wd.cell? ⟨w4.heap.size, 1, none⟩ = some (.slice B5 n5 d5) := fun y => (blk_cl (k := 1) ((y.below.block _ (heap_lt HBX.out)).trans HBX.out) rfl).1
    have Z2 : ∀ y : Bl w6, y.wd.cell? ⟨b2, off2 + p * 3 + 1, none⟩ = some (.int .i64 v.1) := fun y => (y.below.cell (p := ⟨b2, off2 + p * 3 + 1, none⟩) hbl2).trans z2
    have Z3 : ∀ y : Bl w6, y.wd.cell? ⟨b2, off2 + p * 3 + 2, none⟩ = some (.slice A'' n5 c'') := fun y => (y.below.cell (p := ⟨b2, off2 + p * 3 + 2, none⟩) hbl2).trans z3
    clear z2 z3
    have hev := HEB.out
    rw [hev]
    go_wp2_with fail
    refine region_bl (by kernel_rfl) (by kernel_rfl) ?_
    repeat (go_big_quiet_step ((first | (go_at_call 53; exact q_bl (HPV.out _)) | (go_at_call 54; exact q_bl (HSR.out _)))))
    refine wpQuiet_nil ?_
    intro _ hw'
    obtain ⟨y, rfl⟩ := hw'
    go_wp2_with fail
    go_ret
    exact ⟨rfl, HB4.out.trans ((HB6.out.trans (y.below.mono HB6.out.size)).mono HB4.out.size)⟩
end Go.Proofs.Ythcpjkhijjkolaa

/- FnPoolEvent returns true at every input, and leaves its arguments as they were. No condition. -/
namespace Go.Proofs.Ythcpjkhijjkolaa
open Go.ChangeShapes Go.WideShapes Go.ChangeAt Go.RowKit

set_option maxRecDepth 100000 in
theorem fnPoolEvent_lifted (os : Os) (started : os.Started) (H : Type) (enc : TypeId × Value → H) :
    ReturnsInHanded {} Try.checked os 12 .any (Rows.fnPoolEventSpec.pre6 enc Try.prog Try.f12 Rows.fnPoolEventRow.domain false) (Rows.fnPoolEventSpec.post enc Try.prog Try.f12 false true false false) := by
  refine returnsInHanded_of_change (C := Try.checked) Try.own started (by kernel_rfl) Try.func12
    (ChangeSpec.witness6 (enc := enc) (C := Try.checked) false ⟨#[], #[.slice none 0 0], []⟩ 8 (by kernel_rfl) (by kernel_rfl) (by kernel_rfl) (by kernel_rfl)) ?_
  intro W base args ds gs before hval0 hW hcnd _
  have hval : ∀ (j : Nat) t v, Try.f12.params[j]? = some t → args[j]? = some v → Value.okWide Try.prog W .any base t v := hval0
  have hW' := hW
  obtain ⟨p, q, hA0, hV, rfl, hfz, hnd⟩ := hW
  have hA : DataW.TrodAll enc Try.prog W 0 (fun _ => true) true Try.f12.params.toList args.toList ds p := hA0
  rw [Try.params12] at hA hval
  obtain ⟨v0, d0, rfl, rfl, h0⟩ := trodAll_one hA
  obtain ⟨rfl, rfl⟩ := trodVars_none hV
  have h0k := h0
  obtain ⟨a0, len, cap, rfl⟩ := okWide_slice Try.underlying40 (hval 0 40 v0 rfl rfl)
  obtain ⟨fuel, hf⟩ := h0
  clear hA0 hval0 hA
  simp only [List.append_nil] at hW' hfz
  have hlt : ∀ x ∈ p, x.block < W.heap.size := fun x hx => by simpa using hW'.lt x hx
  obtain ⟨hr, hc, _⟩ := open_code hf
  refine (fnPoolEvent_any a0 len cap W hr hc).mono fun e W' ⟨he, hb⟩ => ?_
  subst he
  exact ⟨_, rfl, post_law hW' rfl (by kernel_rfl) Try.underlying4 rfl rfl rfl (trodAll_mk1 (Below.trod Try.laidOut (by kernel_rfl) (of_decide_eq_true (by kernel_rfl)) h0k hb hlt)) hb⟩

theorem fnPoolEvent_holds : Rows.FnPoolEventSaid :=
  OpenClaim.holds_of_wide 12 Try.f12 rfl rfl rfl rfl rfl rfl rfl ⟨rfl, rfl, rfl, rfl, rfl⟩ rfl rfl rfl rfl rfl (by kernel_rfl) Try.func12 (by kernel_rfl)
    (of_decide_eq_true (by kernel_rfl)) (by unfold Func.isWrapper; rw [if_neg (by decide +kernel)]; exact ⟨rfl, rfl⟩)
    (fun os started H enc _ => fnPoolEvent_lifted os started H enc)
end Go.Proofs.Ythcpjkhijjkolaa
