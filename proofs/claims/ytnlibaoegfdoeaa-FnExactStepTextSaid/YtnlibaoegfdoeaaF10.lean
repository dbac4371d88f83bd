/- Counting orders: the reference's function. -/
import Derived.Test.YtnlibaoegfdoeaaF9
namespace Go.Proofs.Ytnlibaoegfdoeaa
open Go.RowKit

set_option maxRecDepth 100000 in
theorem countOrdersS_any (A : Option Addr) (n c : Nat) (f : Flow) (lo : Nat) (w : World) (hr : RStep w lo A n f.steps) (hok : okSteps f.steps) :
    Calls Try.prog 40 #[.agg #[.int .i64 f.ver, .slice A n c]] w fun e w' => e = .returned (.int .i64 (cntF f)) ∧ Below w.heap.size w w' := by
  have HO := Lib.hid hok; clear hok
  have HR := Lib.hid hr; clear hr
  have HL := Lib.hid (show f.steps.length = n from HR.out.1)
  cases h : flowB f
  · have HE := Lib.hid (show cntF f = -1 by unfold cntF; rw [if_neg (by rw [h]; simp)])
    go_enter Try.func40, Try.ntmps40
    go_wp2_with fail
    refine (flowS_any _ _ _ f _ _ (HR.out.alloc _) HO.out).mono ?_
    rintro e w1 ⟨rfl, hb⟩
    rw [h]
    clear h
    go_wp2_with fail
    go_ret
    exact ⟨ret_i HE.out.symm, ((Below.refl _ _).alloc (Nat.le_refl _) _).trans (hb.mono (by simp))⟩
  · have HND := Lib.hid (flow_nodup h)
    by_cases h6 : n ≤ 6
    · have HE := Lib.hid (show cntF f = (cnt f.steps n [] : Nat) by unfold cntF; rw [if_pos ⟨h, by rw [HL.out]; exact h6⟩, HL.out])
      go_enter Try.func40, Try.ntmps40
      go_wp2_with fail
      refine (flowS_any _ _ _ f _ _ (HR.out.alloc _) HO.out).mono ?_
      rintro e w1 ⟨rfl, hb⟩
      rw [h]
      clear h
      have HB := Lib.hid (((Below.refl w.heap.size w).alloc (Nat.le_refl _) (.cells #[.int .i64 f.ver, .slice A n c] 57)).trans (hb.mono (by simp)))
      have HX := Lib.hid (show w1.heap[w.heap.size]? = some (.cells #[.int .i64 f.ver, .slice A n c] 57 (0, 0)) from (hb.block _ (by simp)).trans (heap_new rfl))
      clear hb
      have b1 := (blk_cl (k := 0) HX.out rfl).1
      have b2 := (blk_cl (k := 1) HX.out rfl).1
      go_wp2_with fail
      refine (l42Orders_any f HO.out HND.out n HL.out h6 n _ _ _ 0 _ [] _ 0 _ ((HR.out.below HB.out).alloc _) RL.nil Done.nil rfl).mono ?_
      rintro e w2 ⟨rfl, hb2⟩
      have HB2 := Lib.hid (((Below.refl w1.heap.size w1).alloc (Nat.le_refl _) _).trans (hb2.mono (by simp))); clear hb2
      clear b1 b2
      go_wp2_with fail
      go_ret
      exact ⟨ret_i HE.out.symm, HB.out.trans (HB2.out.mono HB.out.size)⟩
    · have HE := Lib.hid (show cntF f = -1 by unfold cntF; rw [if_neg (by rw [HL.out]; intro hh; exact h6 hh.2)])
      go_enter Try.func40, Try.ntmps40
      go_wp2_with fail
      refine (flowS_any _ _ _ f _ _ (HR.out.alloc _) HO.out).mono ?_
      rintro e w1 ⟨rfl, hb⟩
      rw [h]
      clear h
      have HB := Lib.hid (((Below.refl w.heap.size w).alloc (Nat.le_refl _) (.cells #[.int .i64 f.ver, .slice A n c] 57)).trans (hb.mono (by simp)))
      have HX := Lib.hid (show w1.heap[w.heap.size]? = some (.cells #[.int .i64 f.ver, .slice A n c] 57 (0, 0)) from (hb.block _ (by simp)).trans (heap_new rfl))
      clear hb
      have b1 := (blk_cl (k := 0) HX.out rfl).1
      have b2 := (blk_cl (k := 1) HX.out rfl).1
      go_wp2_with fail
      go_ret
      exact ⟨ret_i HE.out.symm, HB.out⟩
end Go.Proofs.Ytnlibaoegfdoeaa
