/- Depth and width: the reference. -/
import Derived.Test.YtfcbpgpmafmkhaaH2
namespace Go.Proofs.Ytfcbpgpmafmkhaa
open Go.RowKit

set_option maxRecDepth 100000 in
theorem countDepthS_any (A : Option Addr) (n c : Nat) (f : Flow) (lo : Nat) (w : World) (hr : RStep w lo A n f.steps) (hok : okSteps f.steps) :
    Calls Try.prog 20 #[.agg #[.int .i64 f.ver, .slice A n c]] w fun e w' => e = .returned (.int .i64 (depthF f)) ∧ Below w.heap.size w w' := by
  have HO := Lib.hid hok; clear hok
  have HR := Lib.hid hr; clear hr
  cases h : flowB f
  · have HE := Lib.hid (show depthF f = -1 by unfold depthF; rw [if_neg (by rw [h]; simp)])
    go_enter Try.func20, Try.ntmps20
    go_wp2_with fail
    refine (flowS_any _ _ _ f _ _ (HR.out.alloc _) HO.out).mono ?_
    rintro e w1 ⟨rfl, hb⟩
    rw [h]
    clear h
    go_wp2_with fail
    go_ret
    exact ⟨ret_i HE.out.symm, ((Below.refl _ _).alloc (Nat.le_refl _) _).trans (hb.mono (by simp))⟩
  · have HE := Lib.hid (show depthF f = (depthL f.steps : Nat) by unfold depthF; rw [if_pos h])
    have HF := Lib.hid (fun done => readyF_yes (f := f) (done := done) h)
    have HC := Lib.hid ((flowB_iff.1 h).2.2.2)
    have HN := Lib.hid (flow_nodup h)
    have hn8 : n ≤ 8 := by have := (flowB_iff.1 h).2.2.1.2; rw [HR.out.1] at this; exact this
    have HLn := Lib.hid (show f.steps.length = n from HR.out.1)
    go_enter Try.func20, Try.ntmps20
    go_wp2_with fail
    refine (flowS_any _ _ _ f _ _ (HR.out.alloc _) HO.out).mono ?_
    rintro e w1 ⟨rfl, hb⟩
    rw [h]
    clear h
    have HB := Lib.hid (((Below.refl w.heap.size w).alloc (Nat.le_refl _) (.cells #[.int .i64 f.ver, .slice A n c] 29)).trans (hb.mono (by simp)))
    have HX := Lib.hid (show w1.heap[w.heap.size]? = some (.cells #[.int .i64 f.ver, .slice A n c] 29 (0, 0)) from (hb.block _ (by simp)).trans (heap_new rfl))
    clear hb
    go_wp2_with fail
    go_loopw [3, 4] (fun d i wr => ∃ k m : Nat, (∀ j, j < k → (lvDone f.steps j).length < n) ∧ i = .int .i64 k ∧ m = (lvDone f.steps k).length ∧ wr.ownsRow w.heap.size 9 1 d m ((lvDone f.steps k).map Value.string) ∧ wr.heap[w.heap.size]? = some (.cells #[.int .i64 f.ver, .slice A n c] 29 (0, 0)) ∧ Below w.heap.size w wr) (fun d _ _ => n - lenV d)
    case atStart => exact ⟨0, 0, fa_zero, rfl, rfl, World.ownsRow_made w1 #[] 0 HB.out.size (Nat.zero_le _) rfl, heap_old HX.out, HB.out.alloc HB.out.size _⟩
    case round =>
      obtain ⟨k, m, hgo, rfl, hmk, hd, hx, hb⟩ := hrel
      have HG := Lib.hid hgo; clear hgo
      have HM := Lib.hid hmk; clear hmk
      have HD := Lib.hid hd; clear hd
      have HX := Lib.hid hx; clear hx
      have HBR := Lib.hid hb; clear hb
      obtain ⟨Ad, cd, rfl, hdh⟩ := own_str HD.out
      have HDH := Lib.hid hdh; clear hdh
      have hmn : m ≤ n := by have := (lvDone_done HN.out k).len; rw [HLn.out, ← HM.out] at this; exact this
      have hkn : k ≤ n := by
        have := Lv.le (ss := f.steps) (d := k) HC.out (fun j hj => by rw [HLn.out]; exact HG.out j hj)
        rw [HLn.out] at this; exact this
      have b1 := (blk_cl (k := 0) HX.out rfl).1
      have b2 := (blk_cl (k := 1) HX.out rfl).1
      by_cases hlt : m < n
      · go_wp2_with fail
        refine (flowReadyS_any _ _ _ _ _ _ f (lvDone f.steps k) _ _ _ (HR.out.below HBR.out) HO.out HDH.out (by omega)).mono ?_
        rintro e w2 ⟨A2, n2, c2, rfl, hr2, hb2⟩
        rw [HF.out] at hr2
        have HR2 := Lib.hid hr2; clear hr2
        have HN2 := Lib.hid (show lvLen f.steps k = n2 from HR2.out.1)
        have HD2 := Lib.hid (row_below HD.out hb2)
        have hsz := HBR.out.size
        have HX2 := Lib.hid ((hb2.block _ (heap_lt HX.out)).trans HX.out)
        have HB2 := Lib.hid (HBR.out.trans (hb2.mono HBR.out.size))
        have hsz2 := hb2.size
        have hn2 : m + n2 ≤ n := by
          have := (lvDone_done HN.out (k + 1)).len
          rw [lvDone_len, ← HM.out, HN2.out, HLn.out] at this
          exact this
        have HP := Lib.hid (lvLen_pos (ss := f.steps) (k := k) HC.out (by rw [HLn.out, ← HM.out]; exact hlt))
        have hp : 1 ≤ n2 := by have := HP.out; rw [HN2.out] at this; exact this
        clear hb2 b1 b2
        go_wp2_with (first
          | (at_builtin; refine appsR (o := ⟨some 19, _, _, _, _, _⟩) w.heap.size _ m (lvDone f.steps k) _ _ A2 n2 c2 (rdyL f.steps (lvDone f.steps k)) HD2.out HR2.out.low ?r3 rfl (.tmp 15) (.tmp 18) rfl rfl rfl (by omega) ?r4 ?_)
          | fail "no arm")
        case r3 => omega
        case r4 => omega
        intro v4 w4 hd4 hg4
        rw [← List.map_append] at hd4
        obtain ⟨A4, c4, rfl, _⟩ := own_str hd4
        have HX4 := Lib.hid (grown_blk hg4 HX2.out (row_ne HD2.out HX2.out (by decide)))
        have HB4 := Lib.hid (HB2.out.grown hg4 HB2.out.size (fun i hi => (HD2.out.lt i hi).1))
        have HD4 := Lib.hid hd4; clear hd4
        clear hg4
        go_wp2_with fail
        go_roundw
        case rel =>
          refine ⟨k + 1, m + n2, fa_succ HG.out (by rw [← HM.out]; exact hlt), by go_num, by rw [lvDone_len, ← HM.out, HN2.out], HD4.out, HX4.out, HB4.out⟩
        case measure => simp [lenV]; omega
      · have HDL := Lib.hid (depthL_at HC.out (d := k) ⟨by rw [HLn.out, ← HM.out]; omega, fun j hj => by rw [HLn.out]; exact HG.out j hj⟩)
        go_wp2_with fail
        go_ret
        exact ⟨ret_i (by rw [HE.out, HDL.out]), HBR.out⟩

set_option maxRecDepth 100000 in
theorem countWideS_any (A : Option Addr) (n c : Nat) (f : Flow) (lo : Nat) (w : World) (hr : RStep w lo A n f.steps) (hok : okSteps f.steps) :
    Calls Try.prog 22 #[.agg #[.int .i64 f.ver, .slice A n c]] w fun e w' => e = .returned (.int .i64 (wideF f)) ∧ Below w.heap.size w w' := by
  have HO := Lib.hid hok; clear hok
  have HR := Lib.hid hr; clear hr
  cases h : flowB f
  · have HE := Lib.hid (show wideF f = -1 by unfold wideF; rw [if_neg (by rw [h]; simp)])
    go_enter Try.func22, Try.ntmps22
    go_wp2_with fail
    refine (flowS_any _ _ _ f _ _ (HR.out.alloc _) HO.out).mono ?_
    rintro e w1 ⟨rfl, hb⟩
    rw [h]
    clear h
    go_wp2_with fail
    go_ret
    exact ⟨ret_i HE.out.symm, ((Below.refl _ _).alloc (Nat.le_refl _) _).trans (hb.mono (by simp))⟩
  · have HE := Lib.hid (show wideF f = (wideL f.steps : Nat) by unfold wideF; rw [if_pos h])
    have HF := Lib.hid (fun done => readyF_yes (f := f) (done := done) h)
    have HC := Lib.hid ((flowB_iff.1 h).2.2.2)
    have HN := Lib.hid (flow_nodup h)
    have hn8 : n ≤ 8 := by have := (flowB_iff.1 h).2.2.1.2; rw [HR.out.1] at this; exact this
    have HLn := Lib.hid (show f.steps.length = n from HR.out.1)
    go_enter Try.func22, Try.ntmps22
    go_wp2_with fail
    refine (flowS_any _ _ _ f _ _ (HR.out.alloc _) HO.out).mono ?_
    rintro e w1 ⟨rfl, hb⟩
    rw [h]
    clear h
    have HB := Lib.hid (((Below.refl w.heap.size w).alloc (Nat.le_refl _) (.cells #[.int .i64 f.ver, .slice A n c] 29)).trans (hb.mono (by simp)))
    have HX := Lib.hid (show w1.heap[w.heap.size]? = some (.cells #[.int .i64 f.ver, .slice A n c] 29 (0, 0)) from (hb.block _ (by simp)).trans (heap_new rfl))
    clear hb
    go_wp2_with fail
    go_loopw [3, 4, 5] (fun d i _ wr => ∃ k m q : Nat, (∀ j, j < k → (lvDone f.steps j).length < n) ∧ i = .int .i64 q ∧ q = wideTo f.steps k ∧ q ≤ 8 ∧ m = (lvDone f.steps k).length ∧ wr.ownsRow w.heap.size 9 1 d m ((lvDone f.steps k).map Value.string) ∧ wr.heap[w.heap.size]? = some (.cells #[.int .i64 f.ver, .slice A n c] 29 (0, 0)) ∧ Below w.heap.size w wr) (fun d _ _ _ => n - lenV d)
    case atStart => exact ⟨0, 0, 0, fa_zero, rfl, rfl, by omega, rfl, World.ownsRow_made w1 #[] 0 HB.out.size (Nat.zero_le _) rfl, heap_old HX.out, HB.out.alloc HB.out.size _⟩
    case round =>
      obtain ⟨k, m, q, hgo, rfl, hqw, hq8, hmk, hd, hx, hb⟩ := hrel
      have HG := Lib.hid hgo; clear hgo
      have HM := Lib.hid hmk; clear hmk
      have HQ := Lib.hid hqw; clear hqw
      have HD := Lib.hid hd; clear hd
      have HX := Lib.hid hx; clear hx
      have HBR := Lib.hid hb; clear hb
      obtain ⟨Ad, cd, rfl, hdh⟩ := own_str HD.out
      have HDH := Lib.hid hdh; clear hdh
      have hmn : m ≤ n := by have := (lvDone_done HN.out k).len; rw [HLn.out, ← HM.out] at this; exact this
      have b1 := (blk_cl (k := 0) HX.out rfl).1
      have b2 := (blk_cl (k := 1) HX.out rfl).1
      by_cases hlt : m < n
      · go_wp2_with fail
        refine (flowReadyS_any _ _ _ _ _ _ f (lvDone f.steps k) _ _ _ (HR.out.below HBR.out) HO.out HDH.out (by omega)).mono ?_
        rintro e w2 ⟨A2, n2, c2, rfl, hr2, hb2⟩
        rw [HF.out] at hr2
        have HR2 := Lib.hid hr2; clear hr2
        have HN2 := Lib.hid (show lvLen f.steps k = n2 from HR2.out.1)
        have HD2 := Lib.hid (row_below HD.out hb2)
        have hsz := HBR.out.size
        have HX2 := Lib.hid ((hb2.block _ (heap_lt HX.out)).trans HX.out)
        have HB2 := Lib.hid (HBR.out.trans (hb2.mono HBR.out.size))
        have hsz2 := hb2.size
        have hn2 : m + n2 ≤ n := by
          have := (lvDone_done HN.out (k + 1)).len
          rw [lvDone_len, ← HM.out, HN2.out, HLn.out] at this
          exact this
        have HP := Lib.hid (lvLen_pos (ss := f.steps) (k := k) HC.out (by rw [HLn.out, ← HM.out]; exact hlt))
        have hp : 1 ≤ n2 := by have := HP.out; rw [HN2.out] at this; exact this
        clear hb2 b1 b2
        by_cases hqn : q < n2
        all_goals
          go_wp2_with (first
            | (at_builtin; refine appsR (o := ⟨some 25, _, _, _, _, _⟩) w.heap.size _ m (lvDone f.steps k) _ _ A2 n2 c2 (rdyL f.steps (lvDone f.steps k)) HD2.out HR2.out.low ?_ rfl (.tmp 23) (.tmp 24) rfl rfl rfl (by omega) ?_ ?_)
            | fail "no arm")
          first | omega | skip
          first | omega | skip
          intro v4 w4 hd4 hg4
          rw [← List.map_append] at hd4
          obtain ⟨A4, c4, rfl, _⟩ := own_str hd4
          have HX4 := Lib.hid (grown_blk hg4 HX2.out (row_ne HD2.out HX2.out (by decide)))
          have HB4 := Lib.hid (HB2.out.grown hg4 HB2.out.size (fun i hi => (HD2.out.lt i hi).1))
          have HD4 := Lib.hid hd4; clear hd4
          clear hg4
          have HWK : Hid (max q n2 = wideTo f.steps (k + 1)) := by
            show max q n2 = max (wideTo f.steps k) (lvLen f.steps k)
            rw [HN2.out, ← HQ.out]
          have HMX : Hid ((q < n2 → max q n2 = n2) ∧ (¬ q < n2 → max q n2 = q)) := ⟨fun h => by omega, fun h => by omega⟩
          go_wp2_with fail
          go_roundw
          case rel =>
            first
              | exact ⟨k + 1, m + n2, n2, fa_succ HG.out (by rw [← HM.out]; exact hlt), rfl, (HMX.out.1 hqn).symm.trans HWK.out, by omega, by rw [lvDone_len, ← HM.out, HN2.out], HD4.out, HX4.out, HB4.out⟩
              | exact ⟨k + 1, m + n2, q, fa_succ HG.out (by rw [← HM.out]; exact hlt), rfl, (HMX.out.2 hqn).symm.trans HWK.out, by omega, by rw [lvDone_len, ← HM.out, HN2.out], HD4.out, HX4.out, HB4.out⟩
          case measure => simp [lenV]; omega
      · have HDL := Lib.hid (depthL_at HC.out (d := k) ⟨by rw [HLn.out, ← HM.out]; omega, fun j hj => by rw [HLn.out]; exact HG.out j hj⟩)
        go_wp2_with fail
        go_ret
        exact ⟨ret_i (by rw [HE.out]; unfold wideL; rw [HDL.out, HQ.out]), HBR.out⟩
end Go.Proofs.Ytfcbpgpmafmkhaa
