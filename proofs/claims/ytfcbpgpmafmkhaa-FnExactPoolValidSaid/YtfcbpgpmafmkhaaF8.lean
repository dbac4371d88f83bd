/- Counting orders: the functions. -/
import Derived.Test.YtfcbpgpmafmkhaaF7
namespace Go.Proofs.Ytfcbpgpmafmkhaa
open Go.RowKit

def cntF (f : Flow) : Int := if flowB f = true ∧ f.steps.length ≤ 6 then (cnt f.steps f.steps.length [] : Nat) else -1

theorem steps_lt {ss : List Step} (h : ∀ j, j < ss.length → stepAt ss j = true) : ∀ j, j < ss.length → ∀ i, i < j → strLt (nth ss i).name (nth ss j).name = true := by
  intro j
  induction j with
  | zero => intro _ i hi; omega
  | succ j ih =>
    intro hj i hi
    have h1 := h (j + 1) hj
    simp only [stepAt, Bool.and_eq_true, Bool.or_eq_true, decide_eq_true_eq] at h1
    have h2 : strLt (nth ss j).name (nth ss (j + 1)).name = true := by
      rcases h1.1.2 with h2 | h2
      · omega
      · simpa using h2
    by_cases e : i = j
    · rw [e]; exact h2
    · exact strLt_trans (ih (by omega) i (by omega)) h2

theorem flow_nodup {f : Flow} (h : flowB f = true) : (namesOf f.steps).Nodup := by
  have h1 := steps_lt (flowB_iff.1 h).1
  unfold List.Nodup
  rw [List.pairwise_iff_getElem]
  intro i j hi hj hij
  rw [namesOf_len] at hi hj
  rw [← nth_eq, ← nth_eq, namesOf_at hi, namesOf_at hj]
  exact strLt_ne (h1 j hj i hij)

set_option maxRecDepth 100000 in
theorem countOrdersI_any (A : Option Addr) (n c : Nat) (f : Flow) (lo : Nat) (w : World) (hr : RStep w lo A n f.steps) (hok : okSteps f.steps) :
    Calls Try.prog 18 #[.agg #[.int .i64 f.ver, .slice A n c]] w fun e w' => e = .returned (.int .i64 (cntF f)) ∧ Below w.heap.size w w' := by
  have HO := Lib.hid hok; clear hok
  have HR := Lib.hid hr; clear hr
  have HL := Lib.hid (show f.steps.length = n from HR.out.1)
  cases h : flowB f
  · have HE := Lib.hid (show cntF f = -1 by unfold cntF; rw [if_neg (by rw [h]; simp)])
    go_enter Try.func18, Try.ntmps18
    go_wp2_with fail
    refine (flowI_any _ _ _ f _ _ (HR.out.alloc _) HO.out).mono ?_
    rintro e w1 ⟨rfl, hb⟩
    rw [h]
    clear h
    go_wp2_with fail
    go_ret
    exact ⟨ret_i HE.out.symm, ((Below.refl _ _).alloc (Nat.le_refl _) _).trans (hb.mono (by simp))⟩
  · have HND := Lib.hid (flow_nodup h)
    by_cases h6 : n ≤ 6
    · have HE := Lib.hid (show cntF f = (cnt f.steps n [] : Nat) by unfold cntF; rw [if_pos ⟨h, by rw [HL.out]; exact h6⟩, HL.out])
      go_enter Try.func18, Try.ntmps18
      go_wp2_with fail
      refine (flowI_any _ _ _ f _ _ (HR.out.alloc _) HO.out).mono ?_
      rintro e w1 ⟨rfl, hb⟩
      rw [h]
      clear h
      have HB := Lib.hid (((Below.refl w.heap.size w).alloc (Nat.le_refl _) (.cells #[.int .i64 f.ver, .slice A n c] 29)).trans (hb.mono (by simp)))
      have HX := Lib.hid (show w1.heap[w.heap.size]? = some (.cells #[.int .i64 f.ver, .slice A n c] 29 (0, 0)) from (hb.block _ (by simp)).trans (heap_new rfl))
      clear hb
      have b1 := (blk_cl (k := 0) HX.out rfl).1
      have b2 := (blk_cl (k := 1) HX.out rfl).1
      go_wp2_with fail
      refine (orders_any f HO.out HND.out n HL.out h6 n _ _ _ 0 _ [] _ 0 _ (HR.out.below HB.out) RL.nil Done.nil rfl).mono ?_
      rintro e w2 ⟨rfl, hb2⟩
      have HB2 := Lib.hid hb2; clear hb2
      clear b1 b2
      go_wp2_with fail
      go_ret
      exact ⟨ret_i HE.out.symm, HB.out.trans (HB2.out.mono HB.out.size)⟩
    · have HE := Lib.hid (show cntF f = -1 by unfold cntF; rw [if_neg (by rw [HL.out]; intro hh; exact h6 hh.2)])
      go_enter Try.func18, Try.ntmps18
      go_wp2_with fail
      refine (flowI_any _ _ _ f _ _ (HR.out.alloc _) HO.out).mono ?_
      rintro e w1 ⟨rfl, hb⟩
      rw [h]
      clear h
      have HB := Lib.hid (((Below.refl w.heap.size w).alloc (Nat.le_refl _) (.cells #[.int .i64 f.ver, .slice A n c] 29)).trans (hb.mono (by simp)))
      have HX := Lib.hid (show w1.heap[w.heap.size]? = some (.cells #[.int .i64 f.ver, .slice A n c] 29 (0, 0)) from (hb.block _ (by simp)).trans (heap_new rfl))
      clear hb
      have b1 := (blk_cl (k := 0) HX.out rfl).1
      have b2 := (blk_cl (k := 1) HX.out rfl).1
      go_wp2_with fail
      go_ret
      exact ⟨ret_i HE.out.symm, HB.out⟩
end Go.Proofs.Ytfcbpgpmafmkhaa
