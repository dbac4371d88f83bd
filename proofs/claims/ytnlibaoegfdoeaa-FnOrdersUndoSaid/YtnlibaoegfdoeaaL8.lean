/- FnOrders: the walk. -/
import Derived.Test.YtnlibaoegfdoeaaF10
import Derived.Test.YtnlibaoegfdoeaaG2
namespace Go.Proofs.Ytnlibaoegfdoeaa
open Go.RowKit

theorem cntF_range (f : Flow) : cntF f = -1 ∨ (1 ≤ cntF f ∧ cntF f ≤ 720) := by
  unfold cntF
  by_cases h : flowB f = true ∧ f.steps.length ≤ 6
  · rw [if_pos h]
    right
    have h1 := cnt_pos (flowB_iff.1 h.1).2.2.2 f.steps.length [] (by simp)
    have h2 := cnt_le (flow_nodup h.1) f.steps.length [] Done.nil (by simp)
    have h3 := fact_le h.2
    have h4 : fact 6 = 720 := rfl
    omega
  · rw [if_neg h]; exact .inl rfl

set_option maxRecDepth 100000 in
theorem fnOrders_any (A : Option Addr) (n c : Nat) (w : World) (hr : RByte w A n) (hc : n ≤ c) :
    Calls Try.prog 8 #[.slice A n c] w fun e w' => e = .returned (.bool true) ∧ Below w.heap.size w w' := by
  have HR := Lib.hid hr; clear hr
  by_cases hn : 1048576 < n
  · go_enter Try.func8, Try.ntmps8
    go_wp2_with fail
    go_ret
    exact ⟨rfl, Below.refl _ _⟩
  go_enter Try.func8, Try.ntmps8
  go_wp2_with fail
  refine (drawCountOrders_any _ _ _ _ HR.out hc (by omega)).mono ?_
  rintro e w1 ⟨v, A1, n1, c1, ss, rfl, hs, hok, h1, h6, hb1⟩
  have HS := Lib.hid (hs.alloc (.cells #[.int .i64 v, .slice A1 n1 c1] 57)); clear hs
  have HOK := Lib.hid hok; clear hok
  have HB1 := Lib.hid (hb1.alloc hb1.size (.cells #[.int .i64 v, .slice A1 n1 c1] 57)); clear hb1
  have HX := Lib.hid (heap_new (w := w1) (o := .cells #[.int .i64 v, .slice A1 n1 c1] 57) rfl)
  go_wp2_with fail
  refine (countOrdersI_any _ _ _ ⟨v, ss⟩ _ _ HS.out HOK.out).mono ?_
  rintro e w2 ⟨rfl, hb2⟩
  have HX2 := Lib.hid ((hb2.block w1.heap.size (by simp)).trans HX.out)
  have HB2 := Lib.hid (HB1.out.trans (hb2.mono HB1.out.size))
  have HS2 := Lib.hid (HS.out.below hb2)
  clear hb2
  have b1 := (blk_cl (k := 0) HX2.out rfl).1
  have b2 := (blk_cl (k := 1) HX2.out rfl).1
  go_wp2_with fail
  refine (countOrdersS_any _ _ _ ⟨v, ss⟩ _ _ HS2.out HOK.out).mono ?_
  rintro e w3 ⟨rfl, hb3⟩
  have HB3 := Lib.hid (HB2.out.trans (hb3.mono HB2.out.size))
  clear hb3
  have hq := beq_self_eq_true (cntF ⟨v, ss⟩)
  have hq2 : (cntF ⟨v, ss⟩ != cntF ⟨v, ss⟩) = false := by simp
  rcases cntF_range ⟨v, ss⟩ with h | ⟨h, h'⟩
  · have h0 : cntF ⟨v, ss⟩ < 0 := by omega
    clear h
    generalize cntF ⟨v, ss⟩ = z at *
    go_wp2_with fail
    go_ret
    exact ⟨rfl, HB3.out⟩
  · generalize cntF ⟨v, ss⟩ = z at *
    go_wp2_with fail
    go_ret
    exact ⟨rfl, HB3.out⟩
end Go.Proofs.Ytnlibaoegfdoeaa
