/- Pools: PoolValid of the program. -/
import Derived.Test.YtfcbpgpmafmkhaaC1
namespace Go.Proofs.Ytfcbpgpmafmkhaa
open Go.RowKit

set_option maxRecDepth 100000 in
set_option maxHeartbeats 1000000 in
theorem poolI_any (A B : Option Addr) (n c m d : Nat) (f : Flow) (cs : List Case) (lo lo' : Nat) (w : World) (hr : RStep w lo A n f.steps) (hok : okSteps f.steps) (hd : RCase w lo' B m cs) (hcs : okCases cs) :
    Calls Try.prog 25 #[.agg #[.int .i64 f.ver, .slice A n c], .slice B m d] w fun e w' => e = .returned (.bool (poolB f cs)) ∧ Below w.heap.size w w' := by
  have hm : m ≤ 1048576 := by have := hcs.1; rw [hd.1] at this; exact this
  have HO := Lib.hid hok; clear hok
  have HC := Lib.hid hcs; clear hcs
  have HX0 := Lib.hid (heap_new (w := w) (o := .cells #[.int .i64 f.ver, .slice A n c] 29) rfl)
  have HB0 := Lib.hid ((Below.refl w.heap.size w).alloc (Nat.le_refl _) (.cells #[.int .i64 f.ver, .slice A n c] 29))
  have HR0 := Lib.hid (hr.alloc (.cells #[.int .i64 f.ver, .slice A n c] 29)); clear hr
  have HD0 := Lib.hid (hd.alloc (.cells #[.int .i64 f.ver, .slice A n c] 29)); clear hd
  have HL := Lib.hid HD0.out.1
  go_enter Try.func25, Try.ntmps25
  go_wp2_with fail
  refine (flowI_any _ _ _ f _ _ HR0.out HO.out).mono ?_
  rintro e w1 ⟨rfl, hb⟩
  have HX1 := Lib.hid ((hb.block _ (heap_lt HX0.out)).trans HX0.out)
  have HB1 := Lib.hid (HB0.out.trans (hb.mono HB0.out.size))
  have HR1 := Lib.hid (HR0.out.below hb)
  have HD1 := Lib.hid (HD0.out.below hb)
  clear hb HX0 HR0 HD0 HB0
  cases hf : flowB f
  · have HE : Hid (poolB f cs = false) := by show _ = _; unfold poolB; rw [hf]; simp
    clear hf
    go_wp2_with fail
    go_ret
    exact ⟨ret_b HE.out.symm, HB1.out⟩
  have HF := Lib.hid hf; clear hf
  by_cases h8m : m ≤ 8
  case neg =>
    have HE : Hid (poolB f cs = false) := by
      show _ = _
      unfold poolB; rw [HL.out, decide_eq_false h8m]; simp
    have e8 : decide ((8 : Int) < (m : Int)) = true := by rw [decide_eq_true_iff]; omega
    go_wp2_with fail
    go_ret
    exact ⟨ret_b HE.out.symm, HB1.out⟩
  have e8 : decide ((8 : Int) < (m : Int)) = false := by rw [decide_eq_false_iff_not]; omega
  go_wp2_with fail
  go_loopw [17] (fun i wr => ∃ k : Nat, k ≤ m ∧ i = .int .i64 k ∧ Below w1.heap.size w1 wr ∧ ∀ j, j < k → caseAt f cs j = true) (fun i _ => m - (intOf i).toNat)
  case atStart => exact ⟨0, Nat.zero_le _, rfl, Below.refl _ _, fa_zero⟩
  case round =>
    obtain ⟨wo, rfl⟩ : ∃ wo : World, wo = wr := ⟨_, rfl⟩
    obtain ⟨k, hk, rfl, hbw, hp⟩ := hrel
    have HP := Lib.hid hp; clear hp
    have HX := Lib.hid ((hbw.block _ (heap_lt HX1.out)).trans HX1.out)
    have HB := Lib.hid (HB1.out.trans (hbw.mono HB1.out.size))
    have HR := Lib.hid (HR1.out.below hbw)
    have HD := Lib.hid (HD1.out.below hbw)
    have HBW := Lib.hid hbw; clear hbw
    by_cases hlt : k < m
    · obtain ⟨b, off, rfl, ⟨_, hbl⟩, hc⟩ := RCase.at_ HD.out hlt
      have HK := Lib.hid (show k < cs.length by rw [HL.out]; exact hlt)
      obtain ⟨hsz, hdl⟩ := HC.out.2 k HK.out
      have HCP := Lib.hid (fun (j : Nat) (hj : j < m) => (show wo.cell? ⟨b, off + j * 3, none⟩ = some (.string (nth cs j).name) from by obtain ⟨_, _, _, ⟨e, _⟩, _⟩ := hc j hj; exact e))
      obtain ⟨A', n', c', ⟨c1, c2, c3⟩, hdr, hnc, _⟩ := hc k hlt
      have hn' : n' ≤ 1048576 := by rw [← hdr.1]; exact hdl
      have HXk := Lib.hid (heap_old (o := .cells #[.string (nth cs k).name, .int .i64 (nth cs k).st, .slice A' n' c'] 46) HX.out)
      have HYk := Lib.hid (heap_new (w := wo) (o := .cells #[.string (nth cs k).name, .int .i64 (nth cs k).st, .slice A' n' c'] 46) rfl)
      have HBk := Lib.hid (HB.out.alloc HB.out.size (.cells #[.string (nth cs k).name, .int .i64 (nth cs k).st, .slice A' n' c'] 46))
      have HBWk := Lib.hid (HBW.out.alloc HBW.out.size (.cells #[.string (nth cs k).name, .int .i64 (nth cs k).st, .slice A' n' c'] 46))
      have HRk := Lib.hid (HR.out.alloc (.cells #[.string (nth cs k).name, .int .i64 (nth cs k).st, .slice A' n' c'] 46))
      have HDRk := Lib.hid (hdr.alloc (.cells #[.string (nth cs k).name, .int .i64 (nth cs k).st, .slice A' n' c'] 46))
      have HCPk := Lib.hid (fun (j : Nat) (hj : j < m) => (World.cell?_alloc_some wo _ (.cells #[.string (nth cs k).name, .int .i64 (nth cs k).st, .slice A' n' c'] 46) (by rw [HCP.out j hj]; rfl)).trans (HCP.out j hj))
      have hblk : b < (wo.alloc (.cells #[.string (nth cs k).name, .int .i64 (nth cs k).st, .slice A' n' c'] 46)).heap.size := by simp; omega
      clear hc hdr hdl HCP
      go_wp2_with fail
      generalize wo.alloc (.cells #[.string (nth cs k).name, .int .i64 (nth cs k).st, .slice A' n' c'] 46) = wk at *
      clear c1 c2 c3
      have HRUN := Lib.hid (fun x : Bl wk => runI_any A A' n c n' c' f (nth cs k).st (nth cs k).done _ _ x.to (HRk.out.below x.below) HO.out (HDRk.out.below x.below) hn' hnc)
      have HNM := Lib.hid (fun x : Bl wk => nameI_any (nth cs k).name x.to hsz)
      have X0 : ∀ x : Bl wk, x.to.cell? ⟨w.heap.size, 0, none⟩ = some (.int .i64 f.ver) := fun x => (blk_cl (k := 0) ((x.below.block _ (heap_lt HXk.out)).trans HXk.out) rfl).1
      have X1 : ∀ x : Bl wk, x.to.cell? ⟨w.heap.size, 1, none⟩ = some (.slice A n c) := fun x => (blk_cl (k := 1) ((x.below.block _ (heap_lt HXk.out)).trans HXk.out) rfl).1
      have C1 : ∀ x : Bl wk, x.to.cell? ⟨wo.heap.size, 0, none⟩ = some (.string (nth cs k).name) := fun x => (blk_cl (k := 0) ((x.below.block _ (heap_lt HYk.out)).trans HYk.out) rfl).1
      have C2 : ∀ x : Bl wk, x.to.cell? ⟨wo.heap.size, 1, none⟩ = some (.int .i64 (nth cs k).st) := fun x => (blk_cl (k := 1) ((x.below.block _ (heap_lt HYk.out)).trans HYk.out) rfl).1
      have C3 : ∀ x : Bl wk, x.to.cell? ⟨wo.heap.size, 2, none⟩ = some (.slice A' n' c') := fun x => (blk_cl (k := 2) ((x.below.block _ (heap_lt HYk.out)).trans HYk.out) rfl).1
      rcases case_ways f cs k with h1 | ⟨h1, h2 | ⟨h2, h3 | ⟨h3, h4 | h4⟩⟩⟩
      · have HG : Hid (poolB f cs = false) := poolB_bad HK.out (by simp [caseAt, h1])
        rw [h1] at HNM
        clear h1
        refine region_bl (by kernel_rfl) (by kernel_rfl) ?_
        repeat (go_big_quiet_step ((first | (go_at_call 62; exact q_bl_same (HNM.out _)) | (go_at_call 63; exact q_bl (HRUN.out _)) | fail "no arm")))
        refine wpQuiet_nil ?_
        intro _ hw'
        obtain ⟨x, rfl⟩ := hw'
        have HB2 := Lib.hid (HBk.out.trans (x.below.mono HBk.out.size))
        go_wp2_with fail
        go_ret
        exact ⟨ret_b HG.out.symm, HB2.out⟩
      · have HG : Hid (poolB f cs = false) := poolB_bad HK.out (by simp [caseAt, h2])
        rw [h1] at HNM
        rw [h2] at HRUN
        clear h1 h2
        refine region_bl (by kernel_rfl) (by kernel_rfl) ?_
        repeat (go_big_quiet_step ((first | (go_at_call 62; exact q_bl_same (HNM.out _)) | (go_at_call 63; exact q_bl (HRUN.out _)) | fail "no arm")))
        refine wpQuiet_nil ?_
        intro _ hw'
        obtain ⟨x, rfl⟩ := hw'
        have HB2 := Lib.hid (HBk.out.trans (x.below.mono HBk.out.size))
        go_wp2_with fail
        go_ret
        exact ⟨ret_b HG.out.symm, HB2.out⟩
      · have HG : Hid (caseAt f cs k = true) := by show _ = _; unfold caseAt; rw [h1, h2, decide_eq_true h3]; rfl
        have h6 : decide ((0 : Int) < (k : Int)) = false := by simp; omega
        have h7 : decide (0 < k) = false := by simp; omega
        rw [h1] at HNM
        rw [h2] at HRUN
        clear h1 h2 h3
        refine region_bl (by kernel_rfl) (by kernel_rfl) ?_
        repeat (go_big_quiet_step ((first | (go_at_call 62; exact q_bl_same (HNM.out _)) | (go_at_call 63; exact q_bl (HRUN.out _)) | fail "no arm")))
        refine wpQuiet_nil ?_
        intro _ hw'
        obtain ⟨x, rfl⟩ := hw'
        have HB2 := Lib.hid (HBWk.out.trans (x.below.mono HBWk.out.size))
        go_wp2_with fail
        go_roundw
        case rel => exact ⟨k + 1, by omega, by go_num, HB2.out, fa_succ HP.out HG.out⟩
        case measure => simp [intOf]; omega
      all_goals
        have hd1 := HCPk.out (k - 1) (by omega)
        have D1 : ∀ x : Bl wk, x.to.cell? ⟨b, off + (k - 1) * 3, none⟩ = some (.string (nth cs (k - 1)).name) := fun x => (x.below.cell (p := ⟨b, off + (k - 1) * 3, none⟩) hblk).trans hd1
        have h6 : decide ((0 : Int) < (k : Int)) = true := by simp; omega
        have h7 : 0 < k := h3
        clear hd1
      · have h8 : (Op.bytesLess (ByteArray.toList (nth cs k).name) (ByteArray.toList (nth cs (k - 1)).name) || ByteArray.toList (nth cs k).name == ByteArray.toList (nth cs (k - 1)).name) = true := by rw [str_le, h4]; rfl
        have HG : Hid (poolB f cs = false) := poolB_bad HK.out (by simp [caseAt, h4]; omega)
        rw [h1] at HNM
        rw [h2] at HRUN
        clear h1 h2 h4
        refine region_bl (by kernel_rfl) (by kernel_rfl) ?_
        repeat (go_big_quiet_step ((first | (go_at_call 62; exact q_bl_same (HNM.out _)) | (go_at_call 63; exact q_bl (HRUN.out _)) | fail "no arm")))
        refine wpQuiet_nil ?_
        intro _ hw'
        obtain ⟨x, rfl⟩ := hw'
        have HB2 := Lib.hid (HBk.out.trans (x.below.mono HBk.out.size))
        go_wp2_with fail
        go_ret
        exact ⟨ret_b HG.out.symm, HB2.out⟩
      · have h8 : (Op.bytesLess (ByteArray.toList (nth cs k).name) (ByteArray.toList (nth cs (k - 1)).name) || ByteArray.toList (nth cs k).name == ByteArray.toList (nth cs (k - 1)).name) = false := by rw [str_le, h4]; rfl
        have HG : Hid (caseAt f cs k = true) := by simp [Hid, caseAt, h1, h2, h4]
        rw [h1] at HNM
        rw [h2] at HRUN
        clear h1 h2 h4
        refine region_bl (by kernel_rfl) (by kernel_rfl) ?_
        repeat (go_big_quiet_step ((first | (go_at_call 62; exact q_bl_same (HNM.out _)) | (go_at_call 63; exact q_bl (HRUN.out _)) | fail "no arm")))
        refine wpQuiet_nil ?_
        intro _ hw'
        obtain ⟨x, rfl⟩ := hw'
        have HB2 := Lib.hid (HBWk.out.trans (x.below.mono HBWk.out.size))
        go_wp2_with fail
        go_roundw
        case rel => exact ⟨k + 1, by omega, by go_num, HB2.out, fa_succ HP.out HG.out⟩
        case measure => simp [intOf]; omega
    · obtain rfl : k = m := by omega
      have HALL : Hid (poolB f cs = true) := by
        show _ = _
        unfold poolB; rw [HL.out, allN_true (fun j hj => HP.out j hj), HF.out, decide_eq_true h8m]; rfl
      go_wp2_with fail
      go_ret
      exact ⟨ret_b HALL.out.symm, HB.out⟩
end Go.Proofs.Ytfcbpgpmafmkhaa
