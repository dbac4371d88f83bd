/- Pools: the words for memory, PoolValid of both. -/
import Derived.Test.YtfcbpgpmafmkhaaR5
namespace Go.Proofs.Ytfcbpgpmafmkhaa
open Go.RowKit

structure Case where
  name : Str
  st : Int
  done : List Str
  deriving Inhabited
def caseE : Elem Case :=
  { size := 3, rep := fun w lo hi b off x => Cl w b off (.string x.name) ∧ Cl w b (off + 1) (.int .i64 x.st) ∧ (∃ A n c, Cl w b (off + 2) (.slice A n c) ∧ RH strE w lo hi A n x.done ∧ n ≤ c),
    keep := fun h hs h1 h2 => ⟨h.1.same hs h1 h2, h.2.1.same hs h1 h2, by
      obtain ⟨A, n, c, h3, h4, h5⟩ := h.2.2
      exact ⟨A, n, c, h3.same hs h1 h2, h4.same hs, h5⟩⟩,
    wide := fun h hl hh => ⟨h.1, h.2.1, by
      obtain ⟨A, n, c, h1, h2, h3⟩ := h.2.2
      exact ⟨A, n, c, h1, h2.wide hl hh, h3⟩⟩ }
abbrev RCase := RL caseE
theorem RCase.at_ {w : World} {lo n : Nat} {A : Option Addr} {xs : List Case} {k : Nat} (h : RCase w lo A n xs) (hk : k < n) :
    ∃ b off, A = some ⟨b, off, none⟩ ∧ (lo ≤ b ∧ b < w.heap.size) ∧ ∀ j, j < n → ∃ A' n' c',
      (w.cell? ⟨b, off + j * 3, none⟩ = some (.string (nth xs j).name) ∧ w.cell? ⟨b, off + j * 3 + 1, none⟩ = some (.int .i64 (nth xs j).st) ∧ w.cell? ⟨b, off + j * 3 + 2, none⟩ = some (.slice A' n' c')) ∧
      RStr w lo A' n' (nth xs j).done ∧ n' ≤ c' ∧
      (w.frozen? ⟨b, off + j * 3, none⟩ = false ∧ w.frozen? ⟨b, off + j * 3 + 1, none⟩ = false ∧ w.frozen? ⟨b, off + j * 3 + 2, none⟩ = false) := by
  obtain ⟨b, off, e, h1, h2, hc⟩ := h.2 (by omega)
  refine ⟨b, off, e, ⟨h1, h2⟩, fun j hj => ?_⟩
  obtain ⟨⟨c1, f1⟩, ⟨c2, f2⟩, ⟨A', n', c', ⟨c3, f3⟩, h5, h6⟩⟩ := hc j hj
  exact ⟨A', n', c', ⟨c1, c2, c3⟩, h5, h6, f1, f2, f3⟩

def okCases (cs : List Case) : Prop := cs.length ≤ 1048576 ∧ ∀ j, j < cs.length → (nth cs j).name.size ≤ maxLen ∧ (nth cs j).done.length ≤ 1048576
def caseAt (f : Flow) (cs : List Case) (j : Nat) : Bool := nameB (nth cs j).name && (runB f (nth cs j).st (nth cs j).done && (decide (j = 0) || strLt (nth cs (j - 1)).name (nth cs j).name))
/-- A valid pool. -/
def poolB (f : Flow) (cs : List Case) : Bool := allN cs.length (caseAt f cs) && (flowB f && decide (cs.length ≤ 8))
theorem case_ways (f : Flow) (cs : List Case) (k : Nat) : nameB (nth cs k).name = false ∨ (nameB (nth cs k).name = true ∧ (runB f (nth cs k).st (nth cs k).done = false ∨ (runB f (nth cs k).st (nth cs k).done = true ∧ (k = 0 ∨ (0 < k ∧ (strLt (nth cs (k - 1)).name (nth cs k).name = false ∨ strLt (nth cs (k - 1)).name (nth cs k).name = true)))))) := by
  cases nameB (nth cs k).name <;> cases runB f (nth cs k).st (nth cs k).done <;> cases strLt (nth cs (k - 1)).name (nth cs k).name <;> simp <;> omega
theorem poolB_bad {f : Flow} {cs : List Case} {k : Nat} (hk : k < cs.length) (h : caseAt f cs k = false) : poolB f cs = false := by
  unfold poolB; rw [allN_false hk h]; rfl

set_option maxRecDepth 100000 in
set_option maxHeartbeats 1000000 in
theorem poolS_any (A B : Option Addr) (n c m d : Nat) (f : Flow) (cs : List Case) (lo lo' : Nat) (w : World) (hr : RStep w lo A n f.steps) (hok : okSteps f.steps) (hd : RCase w lo' B m cs) (hcs : okCases cs) :
    Calls Try.prog 26 #[.agg #[.int .i64 f.ver, .slice A n c], .slice B m d] w fun e w' => e = .returned (.bool (poolB f cs)) ∧ Below w.heap.size w w' := by
  have hm : m ≤ 1048576 := by have := hcs.1; rw [hd.1] at this; exact this
  have HO := Lib.hid hok; clear hok
  have HC := Lib.hid hcs; clear hcs
  have HX0 := Lib.hid (heap_new (w := w) (o := .cells #[.int .i64 f.ver, .slice A n c] 29) rfl)
  have HB0 := Lib.hid ((Below.refl w.heap.size w).alloc (Nat.le_refl _) (.cells #[.int .i64 f.ver, .slice A n c] 29))
  have HR0 := Lib.hid (hr.alloc (.cells #[.int .i64 f.ver, .slice A n c] 29)); clear hr
  have HD0 := Lib.hid (hd.alloc (.cells #[.int .i64 f.ver, .slice A n c] 29)); clear hd
  have HL := Lib.hid HD0.out.1
  go_enter Try.func26, Try.ntmps26
  go_wp2_with fail
  generalize w.alloc (.cells #[.int .i64 f.ver, .slice A n c] 29) = w0 at *
  go_loopw [5] (fun i wr => ∃ k : Nat, k ≤ m ∧ i = .int .i64 k ∧ Below w0.heap.size w0 wr ∧ ∀ j, j < k → caseAt f cs j = true) (fun i _ => m - (intOf i).toNat)
  case atStart => exact ⟨0, Nat.zero_le _, rfl, Below.refl _ _, fa_zero⟩
  case round =>
    obtain ⟨wo, rfl⟩ : ∃ wo : World, wo = wr := ⟨_, rfl⟩
    obtain ⟨k, hk, rfl, hbw, hp⟩ := hrel
    have HP := Lib.hid hp; clear hp
    have HX := Lib.hid ((hbw.block _ (heap_lt HX0.out)).trans HX0.out)
    have HB := Lib.hid (HB0.out.trans (hbw.mono HB0.out.size))
    have HR := Lib.hid (HR0.out.below hbw)
    have HD := Lib.hid (HD0.out.below hbw)
    have HBW := Lib.hid hbw; clear hbw
    have X0 : ∀ x : Bl wo, x.to.cell? ⟨w.heap.size, 0, none⟩ = some (.int .i64 f.ver) := fun x => (blk_cl (k := 0) ((x.below.block _ (heap_lt HX.out)).trans HX.out) rfl).1
    have X1 : ∀ x : Bl wo, x.to.cell? ⟨w.heap.size, 1, none⟩ = some (.slice A n c) := fun x => (blk_cl (k := 1) ((x.below.block _ (heap_lt HX.out)).trans HX.out) rfl).1
    by_cases hlt : k < m
    · obtain ⟨b, off, rfl, ⟨_, hbl⟩, hc⟩ := RCase.at_ HD.out hlt
      have HK := Lib.hid (show k < cs.length by rw [HL.out]; exact hlt)
      obtain ⟨hsz, hdl⟩ := HC.out.2 k HK.out
      have HCP := Lib.hid (fun (j : Nat) (hj : j < m) (x : Bl wo) => (x.below.cell (p := ⟨b, off + j * 3, none⟩) hbl).trans (by obtain ⟨_, _, _, ⟨e, _⟩, _⟩ := hc j hj; exact e))
      obtain ⟨A', n', c', ⟨c1, c2, c3⟩, hdr, hnc, _⟩ := hc k hlt
      have hn' : n' ≤ 1048576 := by rw [← hdr.1]; exact hdl
      have HRUN := Lib.hid (fun x : Bl wo => runS_any A A' n c n' c' f (nth cs k).st (nth cs k).done _ _ x.to (HR.out.below x.below) HO.out (hdr.below x.below) hn' hnc)
      have HNM := Lib.hid (fun x : Bl wo => nameS_any (nth cs k).name x.to hsz)
      have C1 : ∀ x : Bl wo, x.to.cell? ⟨b, off + k * 3, none⟩ = some (.string (nth cs k).name) := fun x => (x.below.cell (p := ⟨b, off + k * 3, none⟩) hbl).trans c1
      have C2 : ∀ x : Bl wo, x.to.cell? ⟨b, off + k * 3 + 1, none⟩ = some (.int .i64 (nth cs k).st) := fun x => (x.below.cell (p := ⟨b, off + k * 3 + 1, none⟩) hbl).trans c2
      have C3 : ∀ x : Bl wo, x.to.cell? ⟨b, off + k * 3 + 2, none⟩ = some (.slice A' n' c') := fun x => (x.below.cell (p := ⟨b, off + k * 3 + 2, none⟩) hbl).trans c3
      clear hc c1 c2 c3 hdr hsz hdl
      rcases case_ways f cs k with h1 | ⟨h1, h2 | ⟨h2, h3 | ⟨h3, h4 | h4⟩⟩⟩
      · have HG : Hid (poolB f cs = false) := poolB_bad HK.out (by simp [caseAt, h1])
        rw [h1] at HNM
        clear h1
        go_wp2_with fail
        refine region_bl (by kernel_rfl) (by kernel_rfl) ?_
        repeat (go_big_quiet_step ((go_at_call 64; exact q_bl_same (HNM.out _))))
        refine wpQuiet_nil ?_
        intro _ hw'
        obtain ⟨x, rfl⟩ := hw'
        have HB2 := Lib.hid (HB.out.trans (x.below.mono HB.out.size))
        go_wp2_with fail
        go_ret
        exact ⟨ret_b HG.out.symm, HB2.out⟩
      · have HG : Hid (poolB f cs = false) := poolB_bad HK.out (by simp [caseAt, h2])
        rw [h1] at HNM
        rw [h2] at HRUN
        clear h1 h2
        go_wp2_with fail
        refine region_bl (by kernel_rfl) (by kernel_rfl) ?_
        repeat (go_big_quiet_step ((first | (go_at_call 64; exact q_bl_same (HNM.out _)) | (go_at_call 65; exact q_bl (HRUN.out _)) | fail "no arm")))
        refine wpQuiet_nil ?_
        intro _ hw'
        obtain ⟨x, rfl⟩ := hw'
        have HB2 := Lib.hid (HB.out.trans (x.below.mono HB.out.size))
        go_wp2_with fail
        go_ret
        exact ⟨ret_b HG.out.symm, HB2.out⟩
      · have HG : Hid (caseAt f cs k = true) := by show _ = _; unfold caseAt; rw [h1, h2, decide_eq_true h3]; rfl
        have h6 : decide ((0 : Int) < (k : Int)) = false := by simp; omega
        have h7 : decide (0 < k) = false := by simp; omega
        rw [h1] at HNM
        rw [h2] at HRUN
        clear h1 h2 h3
        go_wp2_with fail
        refine region_bl (by kernel_rfl) (by kernel_rfl) ?_
        repeat (go_big_quiet_step ((first | (go_at_call 64; exact q_bl_same (HNM.out _)) | (go_at_call 65; exact q_bl (HRUN.out _)) | fail "no arm")))
        refine wpQuiet_nil ?_
        intro _ hw'
        obtain ⟨x, rfl⟩ := hw'
        have HB2 := Lib.hid (HBW.out.trans (x.below.mono HBW.out.size))
        go_wp2_with fail
        go_roundw
        case rel => exact ⟨k + 1, by omega, by go_num, HB2.out, fa_succ HP.out HG.out⟩
        case measure => simp [intOf]; omega
      all_goals
        have D1 := HCP.out (k - 1) (by omega)
        have h6 : decide ((0 : Int) < (k : Int)) = true := by simp; omega
        have h7 : 0 < k := h3
      · have h8 : Op.bytesLess (ByteArray.toList (nth cs (k - 1)).name) (ByteArray.toList (nth cs k).name) = false := h4
        have HG : Hid (poolB f cs = false) := poolB_bad HK.out (by simp [caseAt, h4]; omega)
        rw [h1] at HNM
        rw [h2] at HRUN
        clear h1 h2 h4
        go_wp2_with fail
        refine region_bl (by kernel_rfl) (by kernel_rfl) ?_
        repeat (go_big_quiet_step ((first | (go_at_call 64; exact q_bl_same (HNM.out _)) | (go_at_call 65; exact q_bl (HRUN.out _)) | fail "no arm")))
        refine wpQuiet_nil ?_
        intro _ hw'
        obtain ⟨x, rfl⟩ := hw'
        have HB2 := Lib.hid (HB.out.trans (x.below.mono HB.out.size))
        go_wp2_with fail
        go_ret
        exact ⟨ret_b HG.out.symm, HB2.out⟩
      · have h8 : Op.bytesLess (ByteArray.toList (nth cs (k - 1)).name) (ByteArray.toList (nth cs k).name) = true := h4
        have HG : Hid (caseAt f cs k = true) := by simp [Hid, caseAt, h1, h2, h4]
        rw [h1] at HNM
        rw [h2] at HRUN
        clear h1 h2 h4
        go_wp2_with fail
        refine region_bl (by kernel_rfl) (by kernel_rfl) ?_
        repeat (go_big_quiet_step ((first | (go_at_call 64; exact q_bl_same (HNM.out _)) | (go_at_call 65; exact q_bl (HRUN.out _)) | fail "no arm")))
        refine wpQuiet_nil ?_
        intro _ hw'
        obtain ⟨x, rfl⟩ := hw'
        have HB2 := Lib.hid (HBW.out.trans (x.below.mono HBW.out.size))
        go_wp2_with fail
        go_roundw
        case rel => exact ⟨k + 1, by omega, by go_num, HB2.out, fa_succ HP.out HG.out⟩
        case measure => simp [intOf]; omega
    · obtain rfl : k = m := by omega
      have HALL := Lib.hid (show poolB f cs = (flowB f && decide (k ≤ 8)) by
        unfold poolB; rw [HL.out, allN_true (fun j hj => HP.out j hj)]; rfl)
      have b0 := X0 ⟨wo, Below.refl _ _⟩
      have b1 := X1 ⟨wo, Below.refl _ _⟩
      simp only at b0 b1
      clear X0 X1
      have e8 : decide ((k : Int) ≤ 8) = decide (k ≤ 8) := by rw [decide_eq_decide]; omega
      cases hf : flowB f
      · have HF := Lib.hid hf
        go_wp2_with (go_at_call 50; refine (flowS_any _ _ _ f _ _ HR.out HO.out).mono ?_; rintro e w1 ⟨rfl, hb⟩; rw [HF.out])
        go_ret
        exact ⟨ret_b (by rw [HALL.out, HF.out]; rfl), HB.out.trans (hb.mono HB.out.size)⟩
      · have HF := Lib.hid hf
        go_wp2_with (go_at_call 50; refine (flowS_any _ _ _ f _ _ HR.out HO.out).mono ?_; rintro e w1 ⟨rfl, hb⟩; rw [HF.out])
        go_ret
        exact ⟨ret_b (by rw [HALL.out, HF.out]; simp), HB.out.trans (hb.mono HB.out.size)⟩
end Go.Proofs.Ytfcbpgpmafmkhaa
