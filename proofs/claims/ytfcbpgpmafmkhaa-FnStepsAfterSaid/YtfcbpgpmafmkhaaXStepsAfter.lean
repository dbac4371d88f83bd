/- FnStepsAfter returns true at every input, and leaves its arguments as they were. No condition. -/
import Derived.Test.YtfcbpgpmafmkhaaZF
import Derived.Test.YtfcbpgpmafmkhaaZC
import Derived.Test.YtfcbpgpmafmkhaaZE

/- FnPoolClearTwice: the walk. -/
namespace Go.Proofs.Ytfcbpgpmafmkhaa
open Go.RowKit

theorem clL_le (f : Flow) (cs : List Case) : (clL f cs).length ≤ cs.length := by
  unfold clL
  split
  · exact stay_le cs
  · exact Nat.zero_le _
theorem gnL_le (f : Flow) (cs : List Case) : (gnL f cs).length ≤ cs.length := by
  unfold gnL
  split
  · exact gone_le cs
  · exact Nat.zero_le _

set_option maxRecDepth 100000 in
set_option maxHeartbeats 1000000 in
theorem fnPoolClearTwice_any (A : Option Addr) (n c : Nat) (w : World) (hr : RByte w A n) (hc : n ≤ c) :
    Calls Try.prog 12 #[.slice A n c] w fun e w' => e = .returned (.bool true) ∧ Below w.heap.size w w' := by
  have HR := Lib.hid hr; clear hr
  by_cases hn : 1048576 < n
  · go_enter Try.func12, Try.ntmps12
    go_wp2_with fail
    go_ret
    exact ⟨rfl, Below.refl _ _⟩
  go_enter Try.func12, Try.ntmps12
  go_wp2_with fail
  refine (drawPoolClear_any _ _ _ _ HR.out hc (by omega)).mono ?_
  rintro e w1 ⟨f, A1, n1, c1, B1, m1, d1, cs, rfl, hs, hok, h1, h6, hcs, hokc, hmd, hm9, hb1⟩
  have HOK := Lib.hid hok; clear hok
  have HOC := Lib.hid hokc; clear hokc
  have HL := Lib.hid hcs.1
  have HS1 := Lib.hid (hs.alloc (.cells #[.int .i64 f.ver, .slice A1 n1 c1] 29)); clear hs
  have HC1 := Lib.hid (hcs.alloc (.cells #[.int .i64 f.ver, .slice A1 n1 c1] 29)); clear hcs
  have HB1 := Lib.hid (hb1.alloc hb1.size (.cells #[.int .i64 f.ver, .slice A1 n1 c1] 29)); clear hb1
  have HX1 := Lib.hid (heap_new (w := w1) (o := .cells #[.int .i64 f.ver, .slice A1 n1 c1] 29) rfl)
  go_wp2_with fail
  refine (clearI_any _ _ _ _ _ _ f cs _ _ _ HS1.out HOK.out HC1.out HOC.out).mono ?_
  rintro e w2 ⟨B2, m2, d2, C2, k2, e2, rfl, hx2, hmd2, hy2, hb2⟩
  have HX2 := Lib.hid ((hb2.block _ (heap_lt HX1.out)).trans HX1.out)
  have HB2 := Lib.hid (HB1.out.trans (hb2.mono HB1.out.size))
  have HS2 := Lib.hid (HS1.out.below hb2)
  have HC2 := Lib.hid (HC1.out.below hb2)
  have HO2 := Lib.hid hx2; clear hx2
  have HN2 := Lib.hid hy2; clear hy2 hb2
  have x0 := (blk_cl (k := 0) HX2.out rfl).1
  have x1 := (blk_cl (k := 1) HX2.out rfl).1
  go_wp2_with fail
  refine (clearS_any _ _ _ _ _ _ f cs _ _ _ HS2.out HOK.out HC2.out HOC.out).mono ?_
  rintro e w3 ⟨B3, m3, d3, C3, k3, e3, rfl, hx3, hmd3, hy3, hb3⟩
  obtain rfl : m3 = m2 := by rw [← hx3.1, ← HO2.out.1]
  obtain rfl : k3 = k2 := by rw [← hy3.1, ← HN2.out.1]
  have HX3 := Lib.hid ((hb3.block _ (heap_lt HX2.out)).trans HX2.out)
  have HB3 := Lib.hid (HB2.out.trans (hb3.mono HB2.out.size))
  have HS3 := Lib.hid (HS2.out.below hb3)
  have HC3 := Lib.hid (HC2.out.below hb3)
  have HO3 := Lib.hid (HO2.out.below hb3)
  have HN3 := Lib.hid (HN2.out.below hb3)
  have hk9 : k3 ≤ 9 := by
    have h1 := HN3.out.1
    have h2 := gnL_le f cs
    rw [HL.out] at h2
    omega
  have hm39 : m3 ≤ 9 := by
    have h1 := HO3.out.1
    have h2 := clL_le f cs
    rw [HL.out] at h2
    omega
  have HT := Lib.hid (fun (w' : World) (h : Below w3.heap.size w3 w') => sameTexts_any C2 C3 k3 e2 k3 e3 (gnL f cs) (gnL f cs) _ _ w' (HN3.out.below h) (by omega) (hy3.below h) (by omega))
  have HP := Lib.hid (fun (w' : World) (h : Below w3.heap.size w3 w') => samePool_same B2 B3 m3 d2 d3 (clL f cs) _ _ w' (HO3.out.below h) (okCases_stay HOC.out) (hx3.below h))
  rw [eqB_same] at HT
  clear hx3 hy3 hb3 x0 x1 HX1 HX2 HS1 HS2 HC1 HC2 HO2 HN2
  have hzz : (poolB f cs != poolB f cs) = false := by simp
  have hze : (poolB f cs == poolB f cs) = true := by simp
  cases hp : poolB f cs
  · clear hp
    go_wp2_with fail
    refine (HT.out w3 (Below.refl _ _)).mono ?_
    rintro e w4 ⟨rfl, q4, rfl⟩
    have hb4 := below_drewN (Below.refl w3.heap.size w3) q4
    generalize w3.drewN q4 = w4 at *
    go_wp2_with fail
    refine (HP.out w4 hb4).mono ?_
    rintro e w5 ⟨rfl, hb5⟩
    have hb5' := hb4.trans (hb5.mono hb4.size)
    go_wp2_with fail
    refine (HT.out w5 hb5').mono ?_
    rintro e w6 ⟨rfl, q6, rfl⟩
    have hb6 := below_drewN hb5' q6
    generalize w5.drewN q6 = w6 at *
    go_wp2_with fail
    refine (HP.out w6 hb6).mono ?_
    rintro e w7 ⟨rfl, hb7⟩
    go_wp2_with fail
    go_ret
    exact ⟨rfl, (HB3.out.trans (hb6.mono HB3.out.size)).trans (hb7.mono (Nat.le_trans HB3.out.size hb6.size))⟩
  have HPV := Lib.hid hp
  have HV := Lib.hid (clL_yes hp)
  have HG := Lib.hid (gnL_yes hp); clear hp
  go_wp2_with fail
  refine (HT.out w3 (Below.refl _ _)).mono ?_
  rintro e w4 ⟨rfl, q4, rfl⟩
  have hb4 := below_drewN (Below.refl w3.heap.size w3) q4
  generalize w3.drewN q4 = w4 at *
  go_wp2_with fail
  refine (HP.out w4 hb4).mono ?_
  rintro e w5 ⟨rfl, hb5⟩
  have hb5' := hb4.trans (hb5.mono hb4.size)
  have HX5 := Lib.hid ((hb5'.block _ (heap_lt HX3.out)).trans HX3.out)
  have HB5 := Lib.hid (HB3.out.trans (hb5'.mono HB3.out.size))
  have HS5 := Lib.hid (HS3.out.below hb5')
  have HC5 := Lib.hid (HC3.out.below hb5')
  have HO5 := Lib.hid (HO3.out.below hb5')
  have HN5 := Lib.hid (HN3.out.below hb5')
  rw [HV.out] at HO5
  rw [HG.out] at HN5
  have HOS := Lib.hid (okCases_stay (f := f) HOC.out)
  rw [HV.out] at HOS
  clear hb4 hb5 hb5' hzz hze HT HP HX3 HB3 HS3 HC3 HO3 HN3
  have x0 := (blk_cl (k := 0) HX5.out rfl).1
  have x1 := (blk_cl (k := 1) HX5.out rfl).1
  have HP2 := Lib.hid (pool_stay HPV.out)
  have HE1 := Lib.hid (clL_yes HP2.out)
  have HE2 := Lib.hid (gnL_yes HP2.out)
  rw [stay_twice] at HE1
  rw [gone_stay] at HE2
  go_wp2_with fail
  refine (clearI_any _ _ _ _ _ _ f (stayL cs) _ _ _ HS5.out HOK.out HO5.out HOS.out).mono ?_
  rintro e w6 ⟨B6, m6, d6, C6, k6, e6, rfl, hx6, hmd6, hy6, hb6⟩
  rw [HE1.out] at hx6
  rw [HE2.out] at hy6
  obtain rfl : m3 = m6 := by rw [← hx6.1, ← HO5.out.1]
  obtain rfl : 0 = k6 := by rw [← hy6.1]; rfl
  rw [HP2.out]
  have HO6 := Lib.hid (HO5.out.below hb6)
  have HX6 := Lib.hid hx6; clear hx6 hy6 x0 x1
  have HB6 := Lib.hid (HB5.out.trans (hb6.mono HB5.out.size)); clear hb6
  go_wp2_with fail
  refine (samePool_same _ _ _ _ _ _ _ _ _ HX6.out HOS.out HO6.out).mono ?_
  rintro e w7 ⟨rfl, hb7⟩
  go_wp2_with fail
  go_ret
  exact ⟨rfl, HB6.out.trans (hb7.mono HB6.out.size)⟩
end Go.Proofs.Ytfcbpgpmafmkhaa

/- Places of names and cases. -/
namespace Go.Proofs.Ytfcbpgpmafmkhaa
open Go.RowKit

def caseNames (cs : List Case) : List Str := cs.map (·.name)
theorem caseNames_len (cs : List Case) : (caseNames cs).length = cs.length := List.length_map _
theorem caseNames_at {cs : List Case} {k : Nat} (hk : k < cs.length) : nth (caseNames cs) k = (nth cs k).name := by
  unfold caseNames
  rw [nth_eq (by rw [List.length_map]; exact hk), nth_eq hk]; simp

theorem placeOf_any (A : Option Addr) (n c : Nat) (xs : List Str) (s : Str) (lo : Nat) (w : World) (hr : RStr w lo A n xs) (hn : n ≤ 1048576) :
    Calls Try.prog 34 #[.slice A n c, .string s] w fun e w' => e = .returned (.int .i64 (idxI xs s)) ∧ w = w' := by
  have HR := Lib.hid hr; clear hr
  go_enter Try.func34, Try.ntmps34
  go_wp2
  go_loop [5] (fun i => ∃ k : Nat, k ≤ n ∧ i = .int .i64 k ∧ ∀ j, j < k → nth xs j ≠ s) (fun i => n - (intOf i).toNat)
  case atStart => exact ⟨0, Nat.zero_le _, rfl, fa_zero⟩
  case round =>
    obtain ⟨k, hk, rfl, hp⟩ := hrel
    have HP := Lib.hid hp; clear hp
    by_cases hlt : k < n
    · obtain ⟨b, off, rfl, _, hc⟩ := HR.out.at_ hlt
      obtain ⟨c1, _⟩ := hc k hlt
      clear hc
      by_cases he : nth xs k = s
      · have HE := Lib.hid he; clear he
        have hq := seq_t HE.out
        go_wp2
        go_ret
        exact ⟨ret_i (idxI_at HP.out (HR.out.1 ▸ hlt) HE.out).symm, rfl⟩
      · have HE := Lib.hid he; clear he
        have hq := seq_f HE.out
        go_wp2
        go_round
        case rel => exact ⟨k + 1, by omega, by go_num, fa_succ HP.out HE.out⟩
        case measure => simp [intOf]; omega
    · go_wp2
      go_ret
      exact ⟨ret_i (idxI_none (fun j hj => HP.out j (by have := HR.out.1; omega))).symm, rfl⟩
theorem caseOf_any (A : Option Addr) (n c : Nat) (cs : List Case) (s : Str) (lo : Nat) (w : World) (hr : RCase w lo A n cs) (hn : n ≤ 1048576) :
    Calls Try.prog 43 #[.slice A n c, .string s] w fun e w' => e = .returned (.int .i64 (idxI (caseNames cs) s)) ∧ w = w' := by
  have HR := Lib.hid hr; clear hr
  have HL := Lib.hid HR.out.1
  go_enter Try.func43, Try.ntmps43
  go_wp2
  go_loop [5] (fun i => ∃ k : Nat, k ≤ n ∧ i = .int .i64 k ∧ ∀ j, j < k → nth (caseNames cs) j ≠ s) (fun i => n - (intOf i).toNat)
  case atStart => exact ⟨0, Nat.zero_le _, rfl, fa_zero⟩
  case round =>
    obtain ⟨k, hk, rfl, hp⟩ := hrel
    have HP := Lib.hid hp; clear hp
    by_cases hlt : k < n
    · obtain ⟨b, off, rfl, _, hc⟩ := RCase.at_ HR.out hlt
      obtain ⟨_, _, _, ⟨c1, _⟩, _⟩ := hc k hlt
      clear hc
      rw [← caseNames_at (by rw [HL.out]; exact hlt)] at c1
      by_cases he : nth (caseNames cs) k = s
      · have HE := Lib.hid he; clear he
        have hq := seq_t HE.out
        go_wp2
        go_ret
        exact ⟨ret_i (idxI_at HP.out (by rw [caseNames_len, HL.out]; exact hlt) HE.out).symm, rfl⟩
      · have HE := Lib.hid he; clear he
        have hq := seq_f HE.out
        go_wp2
        go_round
        case rel => exact ⟨k + 1, by omega, by go_num, fa_succ HP.out HE.out⟩
        case measure => simp [intOf]; omega
    · go_wp2
      go_ret
      exact ⟨ret_i (idxI_none (fun j hj => HP.out j (by rw [caseNames_len, HL.out] at hj; omega))).symm, rfl⟩

theorem mem_names {f : Flow} {cs ds : List Case} (h : poolB f cs = true) {k : Nat} (hk : k < cs.length) (hs : ∀ c ∈ ds, c ∈ cs) : (nth cs k).name ∈ caseNames ds ↔ nth cs k ∈ ds := by
  unfold caseNames
  rw [List.mem_map]
  constructor
  · rintro ⟨c, hc, e⟩
    obtain ⟨j, hj, rfl⟩ := nth_of_mem (hs c hc)
    have := pool_names h hj hk e
    subst this
    exact hc
  · intro hc
    exact ⟨_, hc, rfl⟩
theorem stay_has {f : Flow} {cs : List Case} (h : poolB f cs = true) {k : Nat} (hk : k < cs.length) : hasB (caseNames (stayL cs)) (nth cs k).name = goesB (nth cs k) := by
  have e : stayL cs = cs.filter goesB := rfl
  rw [e, Bool.eq_iff_iff, hasB_true, mem_names h hk (fun c hc => (List.mem_filter.1 hc).1), List.mem_filter]
  exact ⟨fun h => h.2, fun h => ⟨mem_nth hk, h⟩⟩
theorem gone_has {f : Flow} {cs : List Case} (h : poolB f cs = true) {k : Nat} (hk : k < cs.length) : hasB (goneL cs) (nth cs k).name = !goesB (nth cs k) := by
  have e : goneL cs = caseNames (cs.filter fun c => !goesB c) := rfl
  rw [e, Bool.eq_iff_iff, hasB_true, mem_names h hk (fun c hc => (List.mem_filter.1 hc).1), List.mem_filter]
  exact ⟨fun h => h.2, fun h => ⟨mem_nth hk, h⟩⟩
end Go.Proofs.Ytfcbpgpmafmkhaa

/- FnStepsAfter: the walk. -/
namespace Go.Proofs.Ytfcbpgpmafmkhaa
open Go.RowKit

set_option maxRecDepth 100000 in
set_option maxHeartbeats 1000000 in
theorem fnStepsAfter_any (A : Option Addr) (n c : Nat) (w : World) (hr : RByte w A n) (hc : n ≤ c) :
    Calls Try.prog 9 #[.slice A n c] w fun e w' => e = .returned (.bool true) ∧ Below w.heap.size w w' := by
  have HR := Lib.hid hr; clear hr
  by_cases hn : 1048576 < n
  · go_enter Try.func9, Try.ntmps9
    go_wp2_with fail
    go_ret
    exact ⟨rfl, Below.refl _ _⟩
  go_enter Try.func9, Try.ntmps9
  go_wp2_with fail
  refine (drawReportSteps_any _ _ _ _ HR.out hc (by omega)).mono ?_
  rintro e w1 ⟨f, A1, n1, c1, B1, m1, d1, cs, rfl, hs, hok, h1, h6, hcs, hokc, hmd, hm9, hb1⟩
  have HOK := Lib.hid hok; clear hok
  have HOC := Lib.hid hokc; clear hokc
  have HL := Lib.hid hcs.1
  have HS1 := Lib.hid (hs.alloc (.cells #[.int .i64 f.ver, .slice A1 n1 c1] 29)); clear hs
  have HC1 := Lib.hid (hcs.alloc (.cells #[.int .i64 f.ver, .slice A1 n1 c1] 29)); clear hcs
  have HB1 := Lib.hid (hb1.alloc hb1.size (.cells #[.int .i64 f.ver, .slice A1 n1 c1] 29)); clear hb1
  have HX1 := Lib.hid (heap_new (w := w1) (o := .cells #[.int .i64 f.ver, .slice A1 n1 c1] 29) rfl)
  go_wp2_with fail
  refine (stepsI_any _ _ _ _ _ _ f cs _ _ _ HS1.out HOK.out HC1.out HOC.out).mono ?_
  rintro e w2 ⟨A2, n2, c2, rfl, h2, hb2⟩
  have HX2 := Lib.hid ((hb2.block _ (heap_lt HX1.out)).trans HX1.out)
  have HB2 := Lib.hid (HB1.out.trans (hb2.mono HB1.out.size))
  have HS2 := Lib.hid (HS1.out.below hb2)
  have HC2 := Lib.hid (HC1.out.below hb2)
  have H2 := Lib.hid h2; clear h2 hb2
  have x0 := (blk_cl (k := 0) HX2.out rfl).1
  have x1 := (blk_cl (k := 1) HX2.out rfl).1
  go_wp2_with fail
  refine (stepsS_any _ _ _ _ _ _ f cs _ _ _ HS2.out HOK.out HC2.out HOC.out).mono ?_
  rintro e w3 ⟨A3, n3, c3, rfl, h3, hb3⟩
  have HX3 := Lib.hid ((hb3.block _ (heap_lt HX2.out)).trans HX2.out)
  have HB3 := Lib.hid (HB2.out.trans (hb3.mono HB2.out.size))
  have HS3 := Lib.hid (HS2.out.below hb3)
  have HC3 := Lib.hid (HC2.out.below hb3)
  have H23 := Lib.hid (H2.out.below hb3)
  have H3 := Lib.hid h3; clear h3 hb3
  obtain rfl : n3 = n2 := by rw [← H23.out.1, ← H3.out.1]
  have HLn := Lib.hid HS1.out.1
  have hn3 : n3 ≤ 6 := by
    rw [← H3.out.1]
    unfold stpL
    split
    · rw [tallyL_len, namesOf_len, HLn.out]; exact h6
    · exact Nat.zero_le _
  clear x0 x1 HX1 HX2 HS1 HS2 HC1 HC2
  have HSAME := Lib.hid (fun (w' : World) (h : Below w3.heap.size w3 w') => sameInts_same A2 A3 n3 c2 c3 (stpL f cs) _ _ w' (H23.out.below h) (by omega) (H3.out.below h))
  cases hp : poolB f cs
  · have h0 : n3 = 0 := by rw [← H3.out.1, stpL_no hp]; rfl
    subst h0
    clear hp
    go_wp2_with fail
    refine (HSAME.out w3 (Below.refl _ _)).mono ?_
    rintro e w4 ⟨rfl, q, rfl⟩
    go_wp2_with fail
    refine (HSAME.out _ (below_drewN (Below.refl _ _) q)).mono ?_
    rintro e w5 ⟨rfl, q2, rfl⟩
    go_wp2_with fail
    go_ret
    exact ⟨rfl, below_drewN HB3.out _⟩
  have h4 : n3 = n1 := by rw [← H3.out.1, stpL_yes hp, tallyL_len, namesOf_len, HLn.out]
  subst h4
  have HP := Lib.hid hp; clear hp
  have HE := Lib.hid (stpL_yes HP.out)
  have hn0 : ((n3 : Int) == 0) = false := by rw [beq_eq_false_iff_ne]; omega
  go_wp2_with fail
  refine (HSAME.out w3 (Below.refl _ _)).mono ?_
  rintro e w4 ⟨rfl, q, rfl⟩
  have hb4 := below_drewN (Below.refl w3.heap.size w3) q
  generalize w3.drewN q = w4 at *
  have HX4 := Lib.hid ((hb4.block _ (heap_lt HX3.out)).trans HX3.out)
  have HB4 := Lib.hid (HB3.out.trans (hb4.mono HB3.out.size))
  have HS4 := Lib.hid (HS3.out.below hb4)
  have HC4 := Lib.hid (HC3.out.below hb4)
  have H24 := Lib.hid (H23.out.below hb4)
  rw [HE.out] at H24
  clear hb4 HSAME HX3 HB3 HS3 HC3 H23 H3
  go_wp2_with fail
  go_loopw [7] (fun i wr => ∃ i' q : Nat, i' ≤ n3 ∧ i = .int .i64 (i' : Int) ∧ wr = w4.drewN q) (fun i _ => n3 - (intOf i).toNat)
  case atStart => exact ⟨0, 0, Nat.zero_le _, rfl, rfl⟩
  case round =>
    obtain ⟨i, q1, hi, rfl, rfl⟩ := hrel
    have x1 := (blk_cl (k := 1) HX4.out rfl).1
    by_cases hlt : i < n3
    · go_wp2_with fail
      go_loopw [8] (fun k wr => ∃ k' q : Nat, k' ≤ n3 ∧ k = .int .i64 (k' : Int) ∧ wr = w4.drewN q) (fun k _ => n3 - (intOf k).toNat)
      case atStart => exact ⟨0, q1, Nat.zero_le _, rfl, rfl⟩
      case round =>
        obtain ⟨k, q2, hk, rfl, rfl⟩ := hrel
        by_cases hlt2 : k < n3
        · have hil : i < f.steps.length := by rw [HLn.out]; exact hlt
          have hkl : k < f.steps.length := by rw [HLn.out]; exact hlt2
          obtain ⟨b, off, rfl, _, hcc⟩ := RStep.at_ HS4.out hlt
          obtain ⟨A', n', c', ⟨_, s2, _⟩, ha, _⟩ := hcc i hlt
          obtain ⟨_, _, _, ⟨s1, _, _⟩, _⟩ := hcc k hlt2
          clear hcc
          have hn' : n' ≤ 1048576 := by rw [← ha.1]; exact (HOK.out.2 i hil).2.1
          have HPL := Lib.hid (fun z => placeOf_any A' n' c' (nth f.steps i).after (nth f.steps k).name _ _ (ha.drewN z) hn')
          obtain ⟨bo, oo, rfl, _, hcc⟩ := RInt.at_ H24.out hlt
          have o1 := (hcc i hlt).1
          have o2 := (hcc k hlt2).1
          clear hcc ha
          rw [tallyL_at (by rw [namesOf_len]; exact hil), namesOf_at hil] at o1
          rw [tallyL_at (by rw [namesOf_len]; exact hkl), namesOf_at hkl] at o2
          cases hh : hasB (nth f.steps i).after (nth f.steps k).name
          · have h9 := idx_neg hh
            have h10 : decide (0 ≤ idxI (nth f.steps i).after (nth f.steps k).name) = false := by rw [decide_eq_false_iff_not]; omega
            clear hh
            generalize idxI (nth f.steps i).after (nth f.steps k).name = z at *
            go_wp2_with fail
            go_quiet ((go_at_call 34; exact q_same2 (HPL.out _)))
            go_wp2_with fail
            go_roundw
            case rel => exact ⟨k + 1, _, by omega, by go_num, rfl⟩
            case measure => simp [intOf]; omega
          · have h9 := idx_pos hh
            have h10 : decide (0 ≤ idxI (nth f.steps i).after (nth f.steps k).name) = true := by rw [decide_eq_true_iff]; exact h9
            have hmono := stepN_after HP.out hil (hasB_true.1 hh)
            clear hh
            generalize idxI (nth f.steps i).after (nth f.steps k).name = z at *
            generalize stepN cs (nth f.steps i).name = u at *
            generalize stepN cs (nth f.steps k).name = v at *
            have h11 : decide ((v : Int) < (u : Int)) = false := by rw [decide_eq_false_iff_not]; omega
            go_wp2_with fail
            go_quiet ((go_at_call 34; exact q_same2 (HPL.out _)))
            go_wp2_with fail
            go_roundw
            case rel => exact ⟨k + 1, _, by omega, by go_num, rfl⟩
            case measure => simp [intOf]; omega
        · go_wp2_with fail
          go_roundw
          case rel => exact ⟨i + 1, q2, by omega, by go_num, rfl⟩
          case measure => simp [intOf]; omega
    · go_wp2_with fail
      go_ret
      exact ⟨rfl, below_drewN HB4.out _⟩
end Go.Proofs.Ytfcbpgpmafmkhaa

/- FnStepsAfter returns true at every input, and leaves its arguments as they were. No condition. -/
namespace Go.Proofs.Ytfcbpgpmafmkhaa
open Go.ChangeShapes Go.WideShapes Go.ChangeAt Go.RowKit

set_option maxRecDepth 100000 in
theorem fnStepsAfter_lifted (os : Os) (started : os.Started) (H : Type) (enc : TypeId × Value → H) :
    ReturnsInHanded {} Try.checked os 9 .any (Rows.fnStepsAfterSpec.pre6 enc Try.prog Try.f9 Rows.fnStepsAfterRow.domain false) (Rows.fnStepsAfterSpec.post enc Try.prog Try.f9 false true false false) := by
  refine returnsInHanded_of_change (C := Try.checked) Try.own started (by kernel_rfl) Try.func9
    (ChangeSpec.witness6 (enc := enc) (C := Try.checked) false ⟨#[], #[.slice none 0 0], []⟩ 8 (by kernel_rfl) (by kernel_rfl) (by kernel_rfl) (by kernel_rfl)) ?_
  intro W base args ds gs before hval0 hW hcnd _
  have hval : ∀ (j : Nat) t v, Try.f9.params[j]? = some t → args[j]? = some v → Value.okWide Try.prog W .any base t v := hval0
  have hW' := hW
  obtain ⟨p, q, hA0, hV, rfl, hfz, hnd⟩ := hW
  have hA : DataW.TrodAll enc Try.prog W 0 (fun _ => true) true Try.f9.params.toList args.toList ds p := hA0
  rw [Try.params9] at hA hval
  obtain ⟨v0, d0, rfl, rfl, h0⟩ := trodAll_one hA
  obtain ⟨rfl, rfl⟩ := trodVars_none hV
  have h0k := h0
  obtain ⟨a0, len, cap, rfl⟩ := okWide_slice Try.underlying33 (hval 0 33 v0 rfl rfl)
  obtain ⟨fuel, hf⟩ := h0
  clear hA0 hval0 hA
  simp only [List.append_nil] at hW' hfz
  have hlt : ∀ x ∈ p, x.block < W.heap.size := fun x hx => by simpa using hW'.lt x hx
  obtain ⟨hr, hc, _⟩ := open_code hf
  refine (fnStepsAfter_any a0 len cap W hr hc).mono fun e W' ⟨he, hb⟩ => ?_
  subst he
  exact ⟨_, rfl, post_law hW' rfl (by kernel_rfl) Try.underlying4 rfl rfl rfl (trodAll_mk1 (Below.trod Try.laidOut (by kernel_rfl) (of_decide_eq_true (by kernel_rfl)) h0k hb hlt)) hb⟩

theorem fnStepsAfter_holds : Rows.FnStepsAfterSaid :=
  OpenClaim.holds_of_wide 9 Try.f9 rfl rfl rfl rfl rfl rfl rfl ⟨rfl, rfl, rfl, rfl, rfl⟩ rfl rfl rfl rfl rfl (by kernel_rfl) Try.func9 (by kernel_rfl)
    (of_decide_eq_true (by kernel_rfl)) (by unfold Func.isWrapper; rw [if_neg (by decide +kernel)]; exact ⟨rfl, rfl⟩)
    (fun os started H enc _ => fnStepsAfter_lifted os started H enc)
end Go.Proofs.Ytfcbpgpmafmkhaa
