/- FnStatesClear returns true at every input, and leaves its arguments as they were. No condition. -/
import Derived.Test.YtfcbpgpmafmkhaaZE
import Derived.Test.YtfcbpgpmafmkhaaZC
import Derived.Test.YtfcbpgpmafmkhaaZF

/- FnStates: the walk. -/
namespace Go.Proofs.Ytfcbpgpmafmkhaa
open Go.RowKit

set_option maxRecDepth 100000 in
set_option maxHeartbeats 1000000 in
theorem fnStates_any (A : Option Addr) (n c : Nat) (w : World) (hr : RByte w A n) (hc : n ≤ c) :
    Calls Try.prog 7 #[.slice A n c] w fun e w' => e = .returned (.bool true) ∧ Below w.heap.size w w' := by
  have HR := Lib.hid hr; clear hr
  obtain ⟨i0, hi0, hz0, hz1, hz2⟩ := info_parts info_int
  by_cases hn : 1048576 < n
  · go_enter Try.func7, Try.ntmps7
    go_wp2_with fail
    go_ret
    exact ⟨rfl, Below.refl _ _⟩
  go_enter Try.func7, Try.ntmps7
  go_wp2_with fail
  refine (drawReportStates_any _ _ _ _ HR.out hc (by omega)).mono ?_
  rintro e w1 ⟨f, A1, n1, c1, B1, m1, d1, cs, rfl, hs, hok, h1, h6, hcs, hokc, hmd, hm9, hb1⟩
  have HOK := Lib.hid hok; clear hok
  have HOC := Lib.hid hokc; clear hokc
  have HL := Lib.hid hcs.1
  have HS1 := Lib.hid (hs.alloc (.cells #[.int .i64 f.ver, .slice A1 n1 c1] 29)); clear hs
  have HC1 := Lib.hid (hcs.alloc (.cells #[.int .i64 f.ver, .slice A1 n1 c1] 29)); clear hcs
  have HB1 := Lib.hid (hb1.alloc hb1.size (.cells #[.int .i64 f.ver, .slice A1 n1 c1] 29)); clear hb1
  have HX1 := Lib.hid (heap_new (w := w1) (o := .cells #[.int .i64 f.ver, .slice A1 n1 c1] 29) rfl)
  go_wp2_with fail
  refine (statesI_any _ _ _ _ _ _ f cs _ _ _ HS1.out HOK.out HC1.out HOC.out).mono ?_
  rintro e w2 ⟨A2, n2, c2, rfl, h2, hb2⟩
  have HX2 := Lib.hid ((hb2.block _ (heap_lt HX1.out)).trans HX1.out)
  have HB2 := Lib.hid (HB1.out.trans (hb2.mono HB1.out.size))
  have HS2 := Lib.hid (HS1.out.below hb2)
  have HC2 := Lib.hid (HC1.out.below hb2)
  have H2 := Lib.hid h2; clear h2 hb2
  have x0 := (blk_cl (k := 0) HX2.out rfl).1
  have x1 := (blk_cl (k := 1) HX2.out rfl).1
  go_wp2_with fail
  refine (statesS_any _ _ _ _ _ _ f cs _ _ _ HS2.out HOK.out HC2.out HOC.out).mono ?_
  rintro e w3 ⟨A3, n3, c3, rfl, h3, hb3⟩
  have HX3 := Lib.hid ((hb3.block _ (heap_lt HX2.out)).trans HX2.out)
  have HB3 := Lib.hid (HB2.out.trans (hb3.mono HB2.out.size))
  have HC3 := Lib.hid (HC2.out.below hb3)
  have H23 := Lib.hid (H2.out.below hb3)
  have H3 := Lib.hid h3; clear h3 hb3
  obtain rfl : n3 = n2 := by rw [← H23.out.1, ← H3.out.1]
  have hn3 : n3 ≤ 4 := by
    rw [← H3.out.1]
    unfold stL
    split
    · exact Nat.le_refl _
    · exact Nat.zero_le _
  clear x0 x1 HX1 HX2 HS1 HS2 HC1 HC2
  have HSAME := Lib.hid (fun (w' : World) (h : Below w3.heap.size w3 w') => sameInts_same A2 A3 n3 c2 c3 (stL f cs) _ _ w' (H23.out.below h) (by omega) (H3.out.below h))
  cases hp : poolB f cs
  · have h0 : n3 = 0 := by rw [← H3.out.1, stL_no hp]; rfl
    subst h0
    clear hp
    go_wp2_with fail
    refine (HSAME.out w3 (Below.refl _ _)).mono ?_
    rintro e w4 ⟨rfl, q, rfl⟩
    go_wp2_with fail
    refine (HSAME.out _ (below_drewN (Below.refl _ _) q)).mono ?_
    rintro e w5 ⟨rfl, q2, rfl⟩
    go_wp2_with fail
    go_ret
    exact ⟨rfl, below_drewN HB3.out _⟩
  · have h4 : n3 = 4 := by rw [← H3.out.1, stL_yes hp]; rfl
    subst h4
    have HP := Lib.hid hp; clear hp
    have HE := Lib.hid (stL_yes HP.out)
    have HST := Lib.hid (fun k (hk : k < m1) => case_st HP.out (k := k) (by rw [HL.out]; exact hk))
    have hsum := stN_sum (cs := cs) (fun c hc => run_state ((poolB_iff.1 HP.out).1 c hc).2)
    rw [HL.out] at hsum
    go_wp2_with fail
    refine (HSAME.out w3 (Below.refl _ _)).mono ?_
    rintro e w4 ⟨rfl, q, rfl⟩
    have H24 := Lib.hid (H23.out.drewN q)
    have HC4 := Lib.hid (HC3.out.drewN q)
    have HB4 := Lib.hid (below_drewN HB3.out q)
    have HO4 := Lib.hid (below_drewN (Below.refl w3.heap.size w3) q)
    generalize w3.drewN q = w4 at *
    obtain ⟨b2, o2, rfl, _, hcc⟩ := RInt.at_ H24.out (show 0 < 4 by omega)
    have c0 := (hcc 0 (by omega)).1
    have c1 := (hcc 1 (by omega)).1
    have c2' := (hcc 2 (by omega)).1
    have c3' := (hcc 3 (by omega)).1
    clear hcc
    rw [HE.out, cntL_at _ (by omega)] at c0 c1 c2' c3'
    have e0 : ((0 : Nat) : Int) = 0 := rfl
    have e1 : ((1 : Nat) : Int) = 1 := rfl
    have e2 : ((2 : Nat) : Int) = 2 := rfl
    have e3 : ((3 : Nat) : Int) = 3 := rfl
    rw [e0, Nat.add_zero] at c0
    rw [e1] at c1
    rw [e2] at c2'
    rw [e3] at c3'
    clear e0 e1 e2 e3
    generalize stN cs 0 = a at *
    generalize stN cs 1 = b at *
    generalize stN cs 2 = c' at *
    generalize stN cs 3 = d at *
    have hq : ((a : Int) + (b : Int) + (c' : Int) + (d : Int) != (m1 : Int)) = false := by
      rw [bne_eq_false_iff_eq]; omega
    have ha : a ≤ 9 := by omega
    have hb : b ≤ 9 := by omega
    have hc9 : c' ≤ 9 := by omega
    have hd9 : d ≤ 9 := by omega
    clear hsum
    go_wp2_with fail
    go_quiet (fail)
    go_wp2_with (at_make; refine wpList_make_full _ rfl _ _ 39 rfl w4.heap.size 3 i0 _ 1 Try.underlying39 hi0 hz0 hz1 _ _ _ _ 4 rfl rfl rfl rfl ?c1 ?c2 (Nat.le_refl _) ?_)
    case c1 => rw [hz2]; omega
    case c2 => unfold maxLen; omega
    intro w5 hown hgr
    have hbw : Below w4.heap.size w4 w5 := (below_drewN (Below.refl w4.heap.size w4) nq).grown hgr (by simp) (by simp)
    obtain ⟨A5, c5, hv5, hr5⟩ := own_fresh_int hown
    injection hv5 with hA5 hn5 hc5
    subst hA5
    clear hn5 hc5 hown hgr
    have HR5 := Lib.hid hr5; clear hr5
    have HB5 := Lib.hid hbw; clear hbw
    clear c0 c1 c2' c3' hq
    go_wp2_with fail
    go_loopw [8] (fun i wr => ∃ k : Nat, k ≤ m1 ∧ i = .int .i64 (k : Int) ∧ RInt wr w4.heap.size (some ⟨w4.heap.size, 0, none⟩) 4 (cntL (cs.take k)) ∧ Below w4.heap.size w4 wr) (fun i _ => m1 - (intOf i).toNat)
    case atStart => exact ⟨0, Nat.zero_le _, rfl, HR5.out, HB5.out⟩
    case round =>
      obtain ⟨k, hk, rfl, hy, hb⟩ := hrel
      have HY := Lib.hid hy; clear hy
      have HBR := Lib.hid hb; clear hb
      by_cases hlt : k < m1
      · obtain ⟨b, off, rfl, _, hcc⟩ := RCase.at_ (HC4.out.below HBR.out) hlt
        obtain ⟨A', n', c', ⟨d1, d2, d3⟩, _⟩ := hcc k hlt
        clear hcc
        obtain ⟨s, hs4, hst⟩ := HST.out k hlt
        have HNX := Lib.hid (cntL_next (cs := cs) (by rw [HL.out]; exact hlt) hst hs4)
        rw [hst] at d2
        obtain ⟨v0, v1⟩ := cntL_small (cs := cs) (k := k) hs4 (by rw [HL.out]; omega)
        obtain ⟨b', off', e', _, hcc⟩ := RInt.at_ HY.out hs4
        injection e' with e'; injection e' with e1 e2
        have HE1 := Lib.hid e1; clear e1
        subst e2
        obtain ⟨f1, f2⟩ := hcc s hs4
        rw [← HE1.out, Nat.zero_add] at f1 f2
        clear hcc
        generalize nth (cntL (cs.take k)) s = v at *
        have hs0 : ¬ ((s : Int) < 0) := by omega
        have hs1 : (s : Int) < 4 := by omega
        go_wp2_with fail
        go_region
        go_wp2_with fail
        go_roundw
        case rel =>
          refine ⟨k + 1, by omega, by go_num, ?_, (HBR.out.setCell (p := ⟨w4.heap.size, s, none⟩) (Nat.le_refl _) (.int .i64 (v + 1))).drew⟩
          have := RInt.set_ HY.out hs4 (v + 1)
          rw [HNX.out] at this
          rw [Nat.zero_add] at this
          exact this.drew
        case measure => simp [intOf]; omega
      · have hkm : k = cs.length := by rw [HL.out]; omega
        have HY2 : Hid (RInt wr w4.heap.size (some ⟨w4.heap.size, 0, none⟩) 4 (stL f cs)) := by
          have := HY.out
          rw [hkm, List.take_length] at this
          rw [HE.out]
          exact this
        clear hkm
        go_wp2_with fail
        refine (sameInts_same _ _ _ _ _ _ _ _ _ HY2.out (by omega) (H24.out.below HBR.out)).mono ?_
        rintro e w6 ⟨rfl, q2, rfl⟩
        go_wp2_with fail
        go_ret
        exact ⟨rfl, HB4.out.trans ((below_drewN HBR.out _).mono HB4.out.size)⟩
end Go.Proofs.Ytfcbpgpmafmkhaa

/- FnStatesClear: the walk. -/
namespace Go.Proofs.Ytfcbpgpmafmkhaa
open Go.RowKit

theorem Below.al {w w1 : World} (h : Below w.heap.size w w1) (o : Obj) : Below w.heap.size w (w1.alloc o) := h.alloc h.size o
theorem cntL_stay (cs : List Case) : cntL (stayL cs) = [((stN cs 0 : Nat) : Int), ((stN cs 1 : Nat) : Int), 0, 0] := by
  unfold cntL
  rw [stN_stay, stN_stay, stN_stay, stN_stay]
  simp

set_option maxRecDepth 100000 in
set_option maxHeartbeats 1000000 in
theorem fnStatesClear_any (A : Option Addr) (n c : Nat) (w : World) (hr : RByte w A n) (hc : n ≤ c) :
    Calls Try.prog 10 #[.slice A n c] w fun e w' => e = .returned (.bool true) ∧ Below w.heap.size w w' := by
  have HR := Lib.hid hr; clear hr
  by_cases hn : 1048576 < n
  · go_enter Try.func10, Try.ntmps10
    go_wp2_with fail
    go_ret
    exact ⟨rfl, Below.refl _ _⟩
  go_enter Try.func10, Try.ntmps10
  go_wp2_with fail
  refine (drawReportStates_any _ _ _ _ HR.out hc (by omega)).mono ?_
  rintro e w1 ⟨f, A1, n1, c1, B1, m1, d1, cs, rfl, hs, hok, h1, h6, hcs, hokc, hmd, hm9, hb1⟩
  have HOK := Lib.hid hok; clear hok
  have HOC := Lib.hid hokc; clear hokc
  have HL := Lib.hid hcs.1
  have HS1 := Lib.hid (hs.alloc (.cells #[.int .i64 f.ver, .slice A1 n1 c1] 29)); clear hs
  have HC1 := Lib.hid (hcs.alloc (.cells #[.int .i64 f.ver, .slice A1 n1 c1] 29)); clear hcs
  have HB1 := Lib.hid (hb1.alloc hb1.size (.cells #[.int .i64 f.ver, .slice A1 n1 c1] 29)); clear hb1
  have HX1 := Lib.hid (heap_new (w := w1) (o := .cells #[.int .i64 f.ver, .slice A1 n1 c1] 29) rfl)
  go_wp2_with fail
  refine (statesI_any _ _ _ _ _ _ f cs _ _ _ HS1.out HOK.out HC1.out HOC.out).mono ?_
  rintro e w2 ⟨A2, n2, c2, rfl, h2, hb2⟩
  have HX2 := Lib.hid ((hb2.block _ (heap_lt HX1.out)).trans HX1.out)
  have HB2 := Lib.hid (HB1.out.trans (hb2.mono HB1.out.size))
  have HS2 := Lib.hid (HS1.out.below hb2)
  have HC2 := Lib.hid (HC1.out.below hb2)
  have H2 := Lib.hid h2; clear h2 hb2
  have x0 := (blk_cl (k := 0) HX2.out rfl).1
  have x1 := (blk_cl (k := 1) HX2.out rfl).1
  go_wp2_with fail
  refine (statesS_any _ _ _ _ _ _ f cs _ _ _ HS2.out HOK.out HC2.out HOC.out).mono ?_
  rintro e w3 ⟨A3, n3, c3, rfl, h3, hb3⟩
  have HX3 := Lib.hid ((hb3.block _ (heap_lt HX2.out)).trans HX2.out)
  have HB3 := Lib.hid (HB2.out.trans (hb3.mono HB2.out.size))
  have HS3 := Lib.hid (HS2.out.below hb3)
  have HC3 := Lib.hid (HC2.out.below hb3)
  have H23 := Lib.hid (H2.out.below hb3)
  have H3 := Lib.hid h3; clear h3 hb3
  obtain rfl : n3 = n2 := by rw [← H23.out.1, ← H3.out.1]
  have hn3 : n3 ≤ 4 := by
    rw [← H3.out.1]
    unfold stL
    split
    · exact Nat.le_refl _
    · exact Nat.zero_le _
  clear x0 x1 HX1 HX2 HS1 HS2 HC1 HC2
  have HSAME := Lib.hid (fun (w' : World) (h : Below w3.heap.size w3 w') => sameInts_same A2 A3 n3 c2 c3 (stL f cs) _ _ w' (H23.out.below h) (by omega) (H3.out.below h))
  cases hp : poolB f cs
  · have h0 : n3 = 0 := by rw [← H3.out.1, stL_no hp]; rfl
    subst h0
    clear hp
    go_wp2_with fail
    refine (HSAME.out w3 (Below.refl _ _)).mono ?_
    rintro e w4 ⟨rfl, q, rfl⟩
    go_wp2_with fail
    refine (HSAME.out _ (below_drewN (Below.refl _ _) q)).mono ?_
    rintro e w5 ⟨rfl, q2, rfl⟩
    go_wp2_with fail
    go_ret
    exact ⟨rfl, below_drewN HB3.out _⟩
  · have h4 : n3 = 4 := by rw [← H3.out.1, stL_yes hp]; rfl
    subst h4
    have HP := Lib.hid hp; clear hp
    have HE := Lib.hid (stL_yes HP.out)
    have HV := Lib.hid (clL_yes HP.out)
    have HPS := Lib.hid (pool_stay HP.out)
    have HE2 := Lib.hid ((stL_yes HPS.out).trans (cntL_stay cs))
    go_wp2_with fail
    refine (HSAME.out w3 (Below.refl _ _)).mono ?_
    rintro e w4 ⟨rfl, q, rfl⟩
    have hb4 := below_drewN (Below.refl w3.heap.size w3) q
    generalize w3.drewN q = w4 at *
    have HX4 := Lib.hid ((hb4.block _ (heap_lt HX3.out)).trans HX3.out)
    have HB4 := Lib.hid (HB3.out.trans (hb4.mono HB3.out.size))
    have HS4 := Lib.hid (HS3.out.below hb4)
    have HC4 := Lib.hid (HC3.out.below hb4)
    have H24 := Lib.hid (H23.out.below hb4)
    clear hb4 HSAME HX3 HB3 HS3 HC3 H23 H3
    have x0 := (blk_cl (k := 0) HX4.out rfl).1
    have x1 := (blk_cl (k := 1) HX4.out rfl).1
    go_wp2_with fail
    refine (clearI_any _ _ _ _ _ _ f cs _ _ _ HS4.out HOK.out HC4.out HOC.out).mono ?_
    rintro e w5 ⟨B5, m5, d5, C5, k5, e5, rfl, hx5, hmd5, hy5, hb5⟩
    rw [HP.out]
    have HX5 := Lib.hid ((hb5.block _ (heap_lt HX4.out)).trans HX4.out)
    have HB5 := Lib.hid (HB4.out.trans (hb5.mono HB4.out.size))
    have HS5 := Lib.hid (HS4.out.below hb5)
    have H25 := Lib.hid (H24.out.below hb5)
    rw [HV.out] at hx5
    have HO5 := Lib.hid hx5
    have HOS := Lib.hid (okCases_stay (f := f) HOC.out)
    rw [HV.out] at HOS
    clear hb5 hx5 hy5 HX4 HB4 HS4 HC4 H24 x0 x1
    have HSTA := Lib.hid (fun (w' : World) (h : Below w5.heap.size w5 w') => statesI_any A1 B5 n1 c1 m5 d5 f (stayL cs) _ _ w' (HS5.out.below h) HOK.out (HO5.out.below h) HOS.out)
    obtain ⟨b2, o2, rfl, ⟨_, hb2l⟩, hcc⟩ := RInt.at_ H25.out (show 0 < 4 by omega)
    have c0 := (hcc 0 (by omega)).1
    have c1' := (hcc 1 (by omega)).1
    clear hcc
    rw [HE.out, cntL_at _ (by omega)] at c0 c1'
    have e0 : ((0 : Nat) : Int) = 0 := rfl
    have e1 : ((1 : Nat) : Int) = 1 := rfl
    rw [e0, Nat.add_zero] at c0
    rw [e1] at c1'
    clear e0 e1
    generalize ((stN cs 0 : Nat) : Int) = a at *
    generalize ((stN cs 1 : Nat) : Int) = b at *
    have HSB : Hid (∀ w', Below w5.heap.size w5 w' → ((w'.cell? ⟨w1.heap.size, 0, none⟩ = some (.int .i64 f.ver) ∧ w'.cell? ⟨w1.heap.size, 1, none⟩ = some (.slice A1 n1 c1)) ∧ (w'.cell? ⟨b2, o2, none⟩ = some (.int .i64 a) ∧ w'.cell? ⟨b2, o2 + 1, none⟩ = some (.int .i64 b))) ∧ Below w5.heap.size w5 w') := fun w' h => by
      have e1 := (h.block _ (heap_lt HX5.out)).trans HX5.out
      exact ⟨⟨⟨(blk_cl (k := 0) e1 rfl).1, (blk_cl (k := 1) e1 rfl).1⟩, (h.cell (p := ⟨b2, o2, none⟩) hb2l).trans c0, (h.cell (p := ⟨b2, o2 + 1, none⟩) hb2l).trans c1'⟩, h⟩
    go_wp2_with fail
    go_region_held3 (fun w' => ((w'.cell? ⟨w1.heap.size, 0, none⟩ = some (.int .i64 f.ver) ∧ w'.cell? ⟨w1.heap.size, 1, none⟩ = some (.slice A1 n1 c1)) ∧ (w'.cell? ⟨b2, o2, none⟩ = some (.int .i64 a) ∧ w'.cell? ⟨b2, o2 + 1, none⟩ = some (.int .i64 b))) ∧ Below w5.heap.size w5 w')
      ((refine HSB.out _ ?_; (repeat (first | with_reducible exact hbw | with_reducible exact Below.refl _ _ | apply Below.drew | apply Below.al | refine below_drewN ?_ _ | fail "x")); done))
      (first
        | (go_at_call 28; refine (HSTA.out _ (by repeat (first | with_reducible exact Below.refl _ _ | apply Below.drew | apply Below.al))).mono ?_; rintro e w6 ⟨A6, n6, c6, rfl, h6, hb6⟩; rw [HE2.out] at h6; obtain rfl : 4 = n6 := h6.1; (first | (have hlit := (lit_int (w := w5) (e := 3) (cs := #[.int .i64 a, .int .i64 b, .int .i64 0, .int .i64 0]) [a, b, 0, 0] 4 rfl rfl).drew.below hb6; have hbw : Below w5.heap.size w5 w6 := (Below.al (Below.refl w5.heap.size w5) _).drew.trans (hb6.mono (by simp))) | (have hlit := (lit_int (w := w5.drew) (e := 3) (cs := #[.int .i64 a, .int .i64 b, .int .i64 0, .int .i64 0]) [a, b, 0, 0] 4 rfl rfl).below hb6; have hbw : Below w5.heap.size w5 w6 := (Below.al (Below.refl w5.heap.size w5).drew _).trans (hb6.mono (by simp))) | (have hbw : Below w5.heap.size w5 w6 := (Below.refl w5.heap.size w5).drew.trans hb6)))
        | (go_at_call 30; refine (sameInts_same _ _ 4 _ _ [a, b, 0, 0] _ _ _ (by first | exact h6 | exact h6.alloc _) (by omega) (by first | exact hlit | exact lit_int [a, b, 0, 0] 4 rfl rfl)).mono ?_; rintro e w7 ⟨rfl, q7, rfl⟩)
        | fail "no arm")
    all_goals go_wp2_with fail
    all_goals go_ret
    all_goals first
      | exact ⟨rfl, HB5.out.trans ((below_drewN hbw _).mono HB5.out.size)⟩
      | exact ⟨rfl, HB5.out.trans ((below_drewN (Below.al hbw _) _).mono HB5.out.size)⟩
end Go.Proofs.Ytfcbpgpmafmkhaa

/- FnStatesClear returns true at every input, and leaves its arguments as they were. No condition. -/
namespace Go.Proofs.Ytfcbpgpmafmkhaa
open Go.ChangeShapes Go.WideShapes Go.ChangeAt Go.RowKit

set_option maxRecDepth 100000 in
theorem fnStatesClear_lifted (os : Os) (started : os.Started) (H : Type) (enc : TypeId × Value → H) :
    ReturnsInHanded {} Try.checked os 10 .any (Rows.fnStatesClearSpec.pre6 enc Try.prog Try.f10 Rows.fnStatesClearRow.domain false) (Rows.fnStatesClearSpec.post enc Try.prog Try.f10 false true false false) := by
  refine returnsInHanded_of_change (C := Try.checked) Try.own started (by kernel_rfl) Try.func10
    (ChangeSpec.witness6 (enc := enc) (C := Try.checked) false ⟨#[], #[.slice none 0 0], []⟩ 8 (by kernel_rfl) (by kernel_rfl) (by kernel_rfl) (by kernel_rfl)) ?_
  intro W base args ds gs before hval0 hW hcnd _
  have hval : ∀ (j : Nat) t v, Try.f10.params[j]? = some t → args[j]? = some v → Value.okWide Try.prog W .any base t v := hval0
  have hW' := hW
  obtain ⟨p, q, hA0, hV, rfl, hfz, hnd⟩ := hW
  have hA : DataW.TrodAll enc Try.prog W 0 (fun _ => true) true Try.f10.params.toList args.toList ds p := hA0
  rw [Try.params10] at hA hval
  obtain ⟨v0, d0, rfl, rfl, h0⟩ := trodAll_one hA
  obtain ⟨rfl, rfl⟩ := trodVars_none hV
  have h0k := h0
  obtain ⟨a0, len, cap, rfl⟩ := okWide_slice Try.underlying33 (hval 0 33 v0 rfl rfl)
  obtain ⟨fuel, hf⟩ := h0
  clear hA0 hval0 hA
  simp only [List.append_nil] at hW' hfz
  have hlt : ∀ x ∈ p, x.block < W.heap.size := fun x hx => by simpa using hW'.lt x hx
  obtain ⟨hr, hc, _⟩ := open_code hf
  refine (fnStatesClear_any a0 len cap W hr hc).mono fun e W' ⟨he, hb⟩ => ?_
  subst he
  exact ⟨_, rfl, post_law hW' rfl (by kernel_rfl) Try.underlying4 rfl rfl rfl (trodAll_mk1 (Below.trod Try.laidOut (by kernel_rfl) (of_decide_eq_true (by kernel_rfl)) h0k hb hlt)) hb⟩

theorem fnStatesClear_holds : Rows.FnStatesClearSaid :=
  OpenClaim.holds_of_wide 10 Try.f10 rfl rfl rfl rfl rfl rfl rfl ⟨rfl, rfl, rfl, rfl, rfl⟩ rfl rfl rfl rfl rfl (by kernel_rfl) Try.func10 (by kernel_rfl)
    (of_decide_eq_true (by kernel_rfl)) (by unfold Func.isWrapper; rw [if_neg (by decide +kernel)]; exact ⟨rfl, rfl⟩)
    (fun os started H enc _ => fnStatesClear_lifted os started H enc)
end Go.Proofs.Ytfcbpgpmafmkhaa
