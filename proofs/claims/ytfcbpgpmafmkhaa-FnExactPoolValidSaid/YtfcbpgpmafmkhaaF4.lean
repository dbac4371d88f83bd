/- Flows that are valid. -/
import Derived.Test.YtfcbpgpmafmkhaaF3
import Derived.Deep.RegionHeld3
namespace Go.Proofs.Ytfcbpgpmafmkhaa
open Go.RowKit

/-- The program's way to ask whether a flow is valid. -/
theorem flowB_iff2 {f : Flow} : flowB f = true ↔ (1 ≤ f.ver ∧ f.ver ≤ 99) ∧ (1 ≤ f.steps.length ∧ f.steps.length ≤ 8) ∧ ascB (namesOf f.steps) = true ∧
    (∀ j, j < f.steps.length → (stepB (nth f.steps j) && haveB (namesOf f.steps) (nth f.steps j).after) = true) ∧ (ordL f.steps).length = f.steps.length := by
  rw [flowB_iff]
  constructor
  · rintro ⟨h1, h2, h3, h4⟩
    refine ⟨h2, h3, ?_, ?_, h4⟩
    · refine allN_iff.2 ?_
      intro j hj
      rw [namesOf_len] at hj
      have := h1 j hj
      simp only [stepAt, stepB, Bool.and_eq_true] at this
      unfold ascAt
      rw [namesOf_at hj, this.1.1.1.1.2]
      by_cases h0 : j = 0
      · simp [h0]
      · rw [namesOf_at (by omega)]; rw [this.1.2]; rfl
    · intro j hj
      have := h1 j hj
      simp only [stepAt, Bool.and_eq_true] at this ⊢
      exact ⟨this.1.1, this.2⟩
  · rintro ⟨h2, h3, h5, h1, h4⟩
    refine ⟨?_, h2, h3, h4⟩
    intro j hj
    have e1 := h1 j hj
    have e2 := allN_iff.1 h5 j (by rw [namesOf_len]; exact hj)
    unfold ascAt at e2
    rw [namesOf_at hj] at e2
    simp only [Bool.and_eq_true] at e1 e2
    unfold stepAt
    simp only [Bool.and_eq_true]
    refine ⟨⟨e1.1, ?_⟩, e1.2⟩
    by_cases h0 : j = 0
    · simp [h0]
    · rw [namesOf_at (by omega)] at e2; exact e2.2

theorem flowB_no {f : Flow} (h : ¬ ((1 ≤ f.ver ∧ f.ver ≤ 99) ∧ (1 ≤ f.steps.length ∧ f.steps.length ≤ 8) ∧ ascB (namesOf f.steps) = true ∧
    (∀ j, j < f.steps.length → (stepB (nth f.steps j) && haveB (namesOf f.steps) (nth f.steps j).after) = true) ∧ (ordL f.steps).length = f.steps.length)) : flowB f = false := by
  cases e : flowB f
  · rfl
  · exact absurd (flowB_iff2.1 e) h

theorem flow_waysI (f : Flow) : (f.ver < 1 ∨ (1 ≤ f.ver ∧ (99 < f.ver ∨ (f.ver ≤ 99 ∧ (f.steps.length < 1 ∨ (1 ≤ f.steps.length ∧ (8 < f.steps.length ∨ (f.steps.length ≤ 8 ∧ (ascB (namesOf f.steps) = false ∨ ascB (namesOf f.steps) = true))))))))) := by
  by_cases h1 : f.ver < 1
  · exact .inl h1
  refine .inr ⟨by omega, ?_⟩
  by_cases h2 : 99 < f.ver
  · exact .inl h2
  refine .inr ⟨by omega, ?_⟩
  by_cases h3 : f.steps.length < 1
  · exact .inl h3
  refine .inr ⟨by omega, ?_⟩
  by_cases h4 : 8 < f.steps.length
  · exact .inl h4
  refine .inr ⟨by omega, ?_⟩
  cases ascB (namesOf f.steps)
  · exact .inl rfl
  · exact .inr rfl

set_option maxRecDepth 100000 in
set_option maxHeartbeats 1000000 in
theorem flowI_any (A : Option Addr) (n c : Nat) (f : Flow) (lo : Nat) (w : World) (hr : RStep w lo A n f.steps) (hok : okSteps f.steps) :
    Calls Try.prog 53 #[.agg #[.int .i64 f.ver, .slice A n c]] w fun e w' => e = .returned (.bool (flowB f)) ∧ Below w.heap.size w w' := by
  have hn : n ≤ 1048576 := by have := hok.1; rw [hr.1] at this; exact this
  have HO := Lib.hid hok; clear hok
  have HR := Lib.hid hr; clear hr
  have HL := Lib.hid (show f.steps.length = n from HR.out.1)
  have HS := Lib.hid (flow_waysI f)
  rw [HL.out] at HS
  have HB := Lib.hid (fun o => (Below.refl w.heap.size w).alloc (Nat.le_refl _) o)
  rcases HS.out with h1 | ⟨h1, h2 | ⟨h2, h3 | ⟨h3, h4 | ⟨h4, h5 | h5⟩⟩⟩⟩
  · have HG := Lib.hid (flowB_no (f := f) (by rintro ⟨a, _⟩; omega))
    go_enter Try.func53, Try.ntmps53
    go_wp2_with fail
    go_ret
    exact ⟨ret_b (by rw [HG.out]), HB.out _⟩
  · have HG := Lib.hid (flowB_no (f := f) (by rintro ⟨a, _⟩; omega))
    go_enter Try.func53, Try.ntmps53
    go_wp2_with fail
    go_ret
    exact ⟨ret_b (by rw [HG.out]), HB.out _⟩
  · have HG := Lib.hid (flowB_no (f := f) (by rintro ⟨_, a, _⟩; have := HL.out; omega))
    go_enter Try.func53, Try.ntmps53
    go_wp2_with fail
    go_ret
    exact ⟨ret_b (by rw [HG.out]), HB.out _⟩
  · have HG := Lib.hid (flowB_no (f := f) (by rintro ⟨_, a, _⟩; have := HL.out; omega))
    go_enter Try.func53, Try.ntmps53
    go_wp2_with fail
    go_ret
    exact ⟨ret_b (by rw [HG.out]), HB.out _⟩
  · have HG := Lib.hid (flowB_no (f := f) (by rintro ⟨_, _, a, _⟩; rw [h5] at a; cases a))
    have H5 := Lib.hid h5; clear h5
    have h8 : n ≤ 8 := h4
    go_enter Try.func53, Try.ntmps53
    go_wp2_with fail
    refine (names_any _ _ _ _ f.steps _ _ (HR.out.alloc _) hn).mono ?_
    rintro e w1 ⟨A1, c1, rfl, hr1, hb1⟩
    have HR1 := Lib.hid hr1; clear hr1
    have HB1 := Lib.hid hb1; clear hb1
    go_wp2_with fail
    refine (namesAscend_any _ _ _ _ _ _ HR1.out (namesOf_ok HO.out)).mono ?_
    rintro e w2 ⟨rfl, rfl⟩
    rw [H5.out]
    go_wp2_with fail
    go_ret
    exact ⟨ret_b (by rw [HG.out]), (HB.out _).trans (HB1.out.mono (by simp))⟩
  · have H5 := Lib.hid h5; clear h5
    have h8 : n ≤ 8 := h4
    have H1 := Lib.hid (show (1 ≤ f.ver ∧ f.ver ≤ 99) ∧ (1 ≤ f.steps.length ∧ f.steps.length ≤ 8) from ⟨⟨h1, h2⟩, by rw [HL.out]; exact ⟨h3, h4⟩⟩)
    go_enter Try.func53, Try.ntmps53
    go_wp2_with fail
    refine (names_any _ _ _ _ f.steps _ _ (HR.out.alloc _) hn).mono ?_
    rintro e w1 ⟨A1, c1, rfl, hr1, hb1⟩
    have HR1 := Lib.hid hr1; clear hr1
    have HB1 := Lib.hid ((HB.out (.cells #[.int .i64 f.ver, .slice A n c] 29)).trans (hb1.mono (by simp)))
    have HX1 := Lib.hid (show w1.heap[w.heap.size]? = some (.cells #[.int .i64 f.ver, .slice A n c] 29 (0, 0)) from (hb1.block _ (by simp)).trans (heap_new rfl))
    clear hb1
    go_wp2_with fail
    refine (namesAscend_any _ _ _ _ _ _ HR1.out (namesOf_ok HO.out)).mono ?_
    rintro e w2 ⟨rfl, rfl⟩
    rw [H5.out]
    have b1 := (blk_cl (k := 0) HX1.out rfl).1
    have b2 := (blk_cl (k := 1) HX1.out rfl).1
    go_wp2_with fail
    clear b1 b2
    go_loopw [34] (fun i wr => ∃ k : Nat, k ≤ n ∧ i = .int .i64 k ∧ wr.heap[w.heap.size]? = some (.cells #[.int .i64 f.ver, .slice A n c] 29 (0, 0)) ∧ Below w.heap.size w wr ∧ ∀ j, j < k → (stepB (nth f.steps j) && haveB (namesOf f.steps) (nth f.steps j).after) = true) (fun i _ => n - (intOf i).toNat)
    case atStart => exact ⟨0, Nat.zero_le _, rfl, HX1.out, HB1.out, fa_zero⟩
    case round =>
      obtain ⟨k, hk, rfl, hx, hb, hp⟩ := hrel
      have HX := Lib.hid hx; clear hx
      have HBR := Lib.hid hb; clear hb
      have HP := Lib.hid hp; clear hp
      have b1 := (blk_cl (k := 0) HX.out rfl).1
      have b2 := (blk_cl (k := 1) HX.out rfl).1
      by_cases hlt : k < n
      · obtain ⟨b, off, rfl, ⟨_, hbr⟩, hc⟩ := RStep.at_ (HR.out.below HBR.out) hlt
        obtain ⟨A', n', c', ⟨c1, c2, c3⟩, ha, _⟩ := hc k hlt
        clear hc
        have HL1 := Lib.hid (show k < f.steps.length by rw [HL.out]; exact hlt)
        have hso := HO.out.2 k HL1.out
        have hn' : n' ≤ 1048576 := by have := hso.2.1; rw [ha.1] at this; exact this
        have HSO := Lib.hid hso; clear hso
        have HA := Lib.hid (ha.alloc (.cells #[.string (nth f.steps k).name, .slice A' n' c', .bool (nth f.steps k).undo] 50)); clear ha
        have HRK := Lib.hid ((HR.out.below HBR.out).alloc (.cells #[.string (nth f.steps k).name, .slice A' n' c', .bool (nth f.steps k).undo] 50))
        have HBW := Lib.hid (HBR.out.alloc HBR.out.size (.cells #[.string (nth f.steps k).name, .slice A' n' c', .bool (nth f.steps k).undo] 50))
        have HXK := Lib.hid (show (wr.alloc (.cells #[.string (nth f.steps k).name, .slice A' n' c', .bool (nth f.steps k).undo] 50)).heap[w.heap.size]? = some (.cells #[.int .i64 f.ver, .slice (some ⟨b, off, none⟩) n c] 29 (0, 0)) from heap_old HX.out)
        have HYK := Lib.hid (show (wr.alloc (.cells #[.string (nth f.steps k).name, .slice A' n' c', .bool (nth f.steps k).undo] 50)).heap[wr.heap.size]? = some (.cells #[.string (nth f.steps k).name, .slice A' n' c', .bool (nth f.steps k).undo] 50 (0, 0)) from heap_new rfl)
        have hwx : w.heap.size < (wr.alloc (.cells #[.string (nth f.steps k).name, .slice A' n' c', .bool (nth f.steps k).undo] 50)).heap.size := heap_lt HXK.out
        have hwy : wr.heap.size < (wr.alloc (.cells #[.string (nth f.steps k).name, .slice A' n' c', .bool (nth f.steps k).undo] 50)).heap.size := heap_lt HYK.out
        have HSB : Hid (∀ w', Below (wr.alloc (.cells #[.string (nth f.steps k).name, .slice A' n' c', .bool (nth f.steps k).undo] 50)).heap.size (wr.alloc (.cells #[.string (nth f.steps k).name, .slice A' n' c', .bool (nth f.steps k).undo] 50)) w' →
            ((w'.cell? ⟨w.heap.size, 0, none⟩ = some (.int .i64 f.ver) ∧ w'.cell? ⟨w.heap.size, 1, none⟩ = some (.slice (some ⟨b, off, none⟩) n c)) ∧
            (w'.cell? ⟨wr.heap.size, 0, none⟩ = some (.string (nth f.steps k).name) ∧ w'.cell? ⟨wr.heap.size, 1, none⟩ = some (.slice A' n' c') ∧ w'.cell? ⟨wr.heap.size, 2, none⟩ = some (.bool (nth f.steps k).undo))) ∧
            Below (wr.alloc (.cells #[.string (nth f.steps k).name, .slice A' n' c', .bool (nth f.steps k).undo] 50)).heap.size (wr.alloc (.cells #[.string (nth f.steps k).name, .slice A' n' c', .bool (nth f.steps k).undo] 50)) w') := by
          intro w' hb
          have e1 := (hb.block _ hwx).trans HXK.out
          have e2 := (hb.block _ hwy).trans HYK.out
          exact ⟨⟨⟨(blk_cl (k := 0) e1 rfl).1, (blk_cl (k := 1) e1 rfl).1⟩, (blk_cl (k := 0) e2 rfl).1, (blk_cl (k := 1) e2 rfl).1, (blk_cl (k := 2) e2 rfl).1⟩, hb⟩
        cases h6 : stepB (nth f.steps k)
        · have HG := Lib.hid (flowB_no (f := f) (by rintro ⟨_, _, _, a, _⟩; have := a k HL1.out; rw [h6] at this; cases this))
          go_wp2_with fail
          clear c1 c2 c3 b1 b2
          generalize ewk : wr.alloc (.cells #[.string (nth f.steps k).name, .slice A' n' c', .bool (nth f.steps k).undo] 50) = wk at *
          have HSV : Hid (∀ w', Below wk.heap.size wk w' → Calls Try.prog 88 #[.agg #[.string (nth f.steps k).name, .slice A' n' c', .bool (nth f.steps k).undo]] w' fun e w'' => e = .returned (.bool false) ∧ Below w'.heap.size w' w'') := by
            intro w' hb
            have := stepI_any _ _ c' (nth f.steps k) _ _ (HA.out.below hb) HSO.out
            rw [h6] at this; exact this
          clear h6
          obtain ⟨⟨⟨x1, x2⟩, y1, y2, y3⟩, _⟩ := HSB.out wk (Below.refl _ _)
          (first | (go_region_with (go_at_call 88; refine (HSV.out _ (by first | exact (Below.refl _ _).drew | exact Below.refl _ _ | (go_split_ands; assumption))).mono ?_; rintro e w1 ⟨rfl, hbw⟩))
                 | fail "held")
          all_goals go_wp2_with fail
          all_goals go_ret
          all_goals exact ⟨ret_b (by rw [HG.out]), HBW.out.trans ((show Below wk.heap.size wk w1 from (Below.refl _ _).drew.trans (hbw.mono (Nat.le_refl _))).mono HBW.out.size)⟩
        · cases h7 : haveB (namesOf f.steps) (nth f.steps k).after
          · have HG := Lib.hid (flowB_no (f := f) (by rintro ⟨_, _, _, a, _⟩; have := a k HL1.out; rw [h6, h7] at this; cases this))
            go_wp2_with fail
            clear c1 c2 c3 b1 b2
            generalize ewk : wr.alloc (.cells #[.string (nth f.steps k).name, .slice A' n' c', .bool (nth f.steps k).undo] 50) = wk at *
            have HSV : Hid (∀ w', Below wk.heap.size wk w' → Calls Try.prog 88 #[.agg #[.string (nth f.steps k).name, .slice A' n' c', .bool (nth f.steps k).undo]] w' fun e w'' => e = .returned (.bool true) ∧ Below w'.heap.size w' w'') := by
              intro w' hb
              have := stepI_any _ _ c' (nth f.steps k) _ _ (HA.out.below hb) HSO.out
              rw [h6] at this; exact this
            clear h6
            have HHV : Hid (∀ w', Below wk.heap.size wk w' → ∀ A2 c2 lo2, RStr w' lo2 A2 n (namesOf f.steps) → Calls Try.prog 89 #[.slice A2 n c2, .slice A' n' c'] w' fun e w'' => e = .returned (.bool false) ∧ w' = w'') := by
              intro w' hb A2 c2 lo2 h2
              have := namesHave_any _ _ _ c2 _ c' _ _ _ _ _ h2 (by omega) (HA.out.below hb) hn'
              rw [h7] at this; exact this
            clear h7
            go_region_held3 (fun w' => ((w'.cell? ⟨w.heap.size, 0, none⟩ = some (.int .i64 f.ver) ∧ w'.cell? ⟨w.heap.size, 1, none⟩ = some (.slice (some ⟨b, off, none⟩) n c)) ∧
            (w'.cell? ⟨wr.heap.size, 0, none⟩ = some (.string (nth f.steps k).name) ∧ w'.cell? ⟨wr.heap.size, 1, none⟩ = some (.slice A' n' c') ∧ w'.cell? ⟨wr.heap.size, 2, none⟩ = some (.bool (nth f.steps k).undo))) ∧
            Below wk.heap.size wk w')
              (first | exact HSB.out _ (Below.refl _ _).drew | exact HSB.out _ ((Below.refl _ _).drew.trans (hbw.mono (Nat.le_refl _))) | (go_split_ands; exact HSB.out _ ((show Below wk.heap.size wk _ by assumption).trans (hbw.mono (show Below wk.heap.size wk _ by assumption).size))) | go_keep)
              (first | (go_at_call 88; refine (HSV.out _ (by first | exact (Below.refl _ _).drew | (go_split_ands; assumption))).mono ?_; rintro e w1 ⟨rfl, hbw⟩) | (go_at_call 67; refine (names_any _ _ _ _ f.steps _ _ (HRK.out.below (by first | exact (Below.refl _ _).drew | (go_split_ands; assumption))) hn).mono ?_; rintro e w1 ⟨A2, c2, rfl, hr2, hbw⟩) | (go_at_call 89; refine (HHV.out _ (by first | exact (Below.refl _ _).drew | (go_split_ands; assumption)) _ _ _ (by assumption)).mono ?_; rintro e w1 ⟨rfl, rfl⟩))
            go_wp2_with fail
            go_ret
            exact ⟨ret_b (by rw [HG.out]), HBW.out.trans ((show Below wk.heap.size wk _ by (go_split_ands; assumption)).mono HBW.out.size)⟩
          · have HG := Lib.hid (show (stepB (nth f.steps k) && haveB (namesOf f.steps) (nth f.steps k).after) = true by rw [h6, h7]; rfl)
            go_wp2_with fail
            clear c1 c2 c3 b1 b2
            generalize ewk : wr.alloc (.cells #[.string (nth f.steps k).name, .slice A' n' c', .bool (nth f.steps k).undo] 50) = wk at *
            have HSV : Hid (∀ w', Below wk.heap.size wk w' → Calls Try.prog 88 #[.agg #[.string (nth f.steps k).name, .slice A' n' c', .bool (nth f.steps k).undo]] w' fun e w'' => e = .returned (.bool true) ∧ Below w'.heap.size w' w'') := by
              intro w' hb
              have := stepI_any _ _ c' (nth f.steps k) _ _ (HA.out.below hb) HSO.out
              rw [h6] at this; exact this
            clear h6
            have HHV : Hid (∀ w', Below wk.heap.size wk w' → ∀ A2 c2 lo2, RStr w' lo2 A2 n (namesOf f.steps) → Calls Try.prog 89 #[.slice A2 n c2, .slice A' n' c'] w' fun e w'' => e = .returned (.bool true) ∧ w' = w'') := by
              intro w' hb A2 c2 lo2 h2
              have := namesHave_any _ _ _ c2 _ c' _ _ _ _ _ h2 (by omega) (HA.out.below hb) hn'
              rw [h7] at this; exact this
            clear h7
            go_region_held3 (fun w' => ((w'.cell? ⟨w.heap.size, 0, none⟩ = some (.int .i64 f.ver) ∧ w'.cell? ⟨w.heap.size, 1, none⟩ = some (.slice (some ⟨b, off, none⟩) n c)) ∧
            (w'.cell? ⟨wr.heap.size, 0, none⟩ = some (.string (nth f.steps k).name) ∧ w'.cell? ⟨wr.heap.size, 1, none⟩ = some (.slice A' n' c') ∧ w'.cell? ⟨wr.heap.size, 2, none⟩ = some (.bool (nth f.steps k).undo))) ∧
            Below wk.heap.size wk w')
              (first | exact HSB.out _ (Below.refl _ _).drew | exact HSB.out _ ((Below.refl _ _).drew.trans (hbw.mono (Nat.le_refl _))) | (go_split_ands; exact HSB.out _ ((show Below wk.heap.size wk _ by assumption).trans (hbw.mono (show Below wk.heap.size wk _ by assumption).size))) | go_keep)
              (first | (go_at_call 88; refine (HSV.out _ (by first | exact (Below.refl _ _).drew | (go_split_ands; assumption))).mono ?_; rintro e w1 ⟨rfl, hbw⟩) | (go_at_call 67; refine (names_any _ _ _ _ f.steps _ _ (HRK.out.below (by first | exact (Below.refl _ _).drew | (go_split_ands; assumption))) hn).mono ?_; rintro e w1 ⟨A2, c2, rfl, hr2, hbw⟩) | (go_at_call 89; refine (HHV.out _ (by first | exact (Below.refl _ _).drew | (go_split_ands; assumption)) _ _ _ (by assumption)).mono ?_; rintro e w1 ⟨rfl, rfl⟩))
            go_wp2_with fail
            go_roundw
            case rel => 
              have hbk := (show Below wk.heap.size wk w1 by (go_split_ands; assumption))
              exact ⟨k + 1, by omega, by go_num, (hbk.block _ hwx).trans HXK.out, HBW.out.trans (hbk.mono HBW.out.size), fa_succ HP.out HG.out⟩
            case measure => simp [intOf]; omega
      · have HP' := Lib.hid (fun j (hj : j < f.steps.length) => HP.out j (by have := HL.out; omega))
        have hwx : w.heap.size < wr.heap.size := heap_lt HX.out
        have HRK := Lib.hid (HR.out.below HBR.out)
        have HSB : Hid (∀ w', Below wr.heap.size wr w' →
            (w'.cell? ⟨w.heap.size, 0, none⟩ = some (.int .i64 f.ver) ∧ w'.cell? ⟨w.heap.size, 1, none⟩ = some (.slice A n c)) ∧ Below wr.heap.size wr w') := by
          intro w' hb
          have e1 := (hb.block _ hwx).trans HX.out
          exact ⟨⟨(blk_cl (k := 0) e1 rfl).1, (blk_cl (k := 1) e1 rfl).1⟩, hb⟩
        go_wp2_with fail
        clear b1 b2
        go_region_held3 (fun w' => (w'.cell? ⟨w.heap.size, 0, none⟩ = some (.int .i64 f.ver) ∧ w'.cell? ⟨w.heap.size, 1, none⟩ = some (.slice A n c)) ∧ Below wr.heap.size wr w')
          (first | exact HSB.out _ (Below.refl _ _).drew | exact HSB.out _ ((Below.refl _ _).drew.trans (hbw.mono (Nat.le_refl _))) | (go_split_ands; exact HSB.out _ ((show Below wr.heap.size wr _ by assumption).trans (hbw.mono (show Below wr.heap.size wr _ by assumption).size))) | go_keep)
          (first | (go_at_call 90; refine (order_any _ _ _ _ f.steps _ _ (HRK.out.below (by first | exact (Below.refl _ _).drew | (go_split_ands; assumption))) HO.out).mono ?_; rintro e w1 ⟨A2, c2, rfl, hr2, hbw⟩))
        go_wp2_with fail
        go_ret
        have hbk := (show Below wr.heap.size wr w1 by (go_split_ands; assumption))
        refine ⟨ret_b ?_, HBR.out.trans (hbk.mono HBR.out.size)⟩
        cases e : flowB f
        · rw [beq_eq_false_iff_ne]
          intro e2
          have := flowB_iff2.2 ⟨H1.out.1, H1.out.2, H5.out, HP'.out, by rw [HL.out]; omega⟩
          rw [e] at this; cases this
        · have := (flowB_iff2.1 e).2.2.2.2
          rw [HL.out] at this
          rw [beq_iff_eq]; omega
end Go.Proofs.Ytfcbpgpmafmkhaa
