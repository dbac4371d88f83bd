/- The laws on depth and width: the walks. -/
import Derived.Test.YtnlibaoegfdoeaaF10
import Derived.Test.YtnlibaoegfdoeaaH3
import Derived.Test.YtnlibaoegfdoeaaL8
namespace Go.Proofs.Ytnlibaoegfdoeaa
open Go.RowKit

/-- What depth and width say of a valid flow. -/
structure Shape (ss : List Step) (d W : Nat) : Prop where
  d1 : 1 ≤ d
  dn : d ≤ ss.length
  mul : ss.length ≤ d * W
  add : W + d ≤ ss.length + 1
  at0 : lvLen ss 0 ≤ W
  all : W = ss.length ↔ d = 1
  aft : d = 1 ↔ ∀ j, j < ss.length → (nth ss j).after.length = 0
  one : W = 1 ↔ cnt ss ss.length [] = 1
theorem shape (f : Flow) : (flowB f = false ∧ depthF f = -1 ∧ wideF f = -1) ∨ (flowB f = true ∧ ∃ d W : Nat, depthF f = d ∧ wideF f = W ∧ Shape f.steps d W) := by
  cases h : flowB f
  · left
    refine ⟨rfl, ?_, ?_⟩
    · unfold depthF; rw [if_neg (by rw [h]; simp)]
    · unfold wideF; rw [if_neg (by rw [h]; simp)]
  · right
    have hn := flow_nodup h
    have hc := (flowB_iff.1 h).2.2.2
    have h1 := (flowB_iff.1 h).2.2.1.1
    obtain ⟨d, hd⟩ := lv_ex hn hc
    have e := depthL_at hc hd
    obtain ⟨a1, a2, a3, a4, a5⟩ := lv_laws hn hc h1 hd
    obtain ⟨b1, b2⟩ := lv_one hn hc h1 hd
    refine ⟨rfl, d, wideTo f.steps d, by unfold depthF; rw [if_pos h, e], by unfold wideF wideL; rw [if_pos h, e], a1, a2, a3, a4, a5, b1, b2.trans lv_after, orders_one hn hc h1 hd⟩

/-- Somebody among the first k comes after something. -/
def someB (ss : List Step) (k : Nat) : Bool := !(allN k fun j => decide ((nth ss j).after.length = 0))
theorem someB_zero (ss : List Step) : someB ss 0 = false := rfl
theorem someB_succ (ss : List Step) (k : Nat) : someB ss (k + 1) = (someB ss k || decide (0 < (nth ss k).after.length)) := by
  unfold someB
  have e : allN (k + 1) (fun j => decide ((nth ss j).after.length = 0)) = (allN k (fun j => decide ((nth ss j).after.length = 0)) && decide ((nth ss k).after.length = 0)) := by
    unfold allN; rw [List.range_succ, List.all_append]; simp
  rw [e, Bool.not_and]
  congr 1
  by_cases h : (nth ss k).after.length = 0
  · simp [h]
  · simp [h]; omega
theorem someB_all {ss : List Step} {d : Nat} (h : d = 1 ↔ ∀ j, j < ss.length → (nth ss j).after.length = 0) : someB ss ss.length = !decide (d = 1) := by
  unfold someB
  congr 1
  rw [Bool.eq_iff_iff, allN_iff, decide_eq_true_iff, h]
  simp

set_option maxRecDepth 100000 in
set_option maxHeartbeats 1000000 in
theorem fnDepth_any (A : Option Addr) (n c : Nat) (w : World) (hr : RByte w A n) (hc : n ≤ c) :
    Calls Try.prog 11 #[.slice A n c] w fun e w' => e = .returned (.bool true) ∧ Below w.heap.size w w' := by
  have HR := Lib.hid hr; clear hr
  by_cases hn : 1048576 < n
  · go_enter Try.func11, Try.ntmps11
    go_wp2_with fail
    go_ret
    exact ⟨rfl, Below.refl _ _⟩
  go_enter Try.func11, Try.ntmps11
  go_wp2_with fail
  refine (drawCountDepth_any _ _ _ _ HR.out hc (by omega)).mono ?_
  rintro e w1 ⟨v, A1, n1, c1, ss, rfl, hs, hok, h1, h6, hb1⟩
  have HS := Lib.hid (hs.alloc (.cells #[.int .i64 v, .slice A1 n1 c1] 57)); clear hs
  have HOK := Lib.hid hok; clear hok
  have HB1 := Lib.hid (hb1.alloc hb1.size (.cells #[.int .i64 v, .slice A1 n1 c1] 57)); clear hb1
  have HX := Lib.hid (heap_new (w := w1) (o := .cells #[.int .i64 v, .slice A1 n1 c1] 57) rfl)
  have HLn := Lib.hid (show ss.length = n1 from HS.out.1)
  go_wp2_with fail
  refine (countDepthI_any _ _ _ ⟨v, ss⟩ _ _ HS.out HOK.out).mono ?_
  rintro e w2 ⟨rfl, hb2⟩
  have HX2 := Lib.hid ((hb2.block w1.heap.size (by simp)).trans HX.out)
  have HB2 := Lib.hid (HB1.out.trans (hb2.mono HB1.out.size))
  have HS2 := Lib.hid (HS.out.below hb2)
  clear hb2
  have b1 := (blk_cl (k := 0) HX2.out rfl).1
  have b2 := (blk_cl (k := 1) HX2.out rfl).1
  go_wp2_with fail
  refine (countDepthS_any _ _ _ ⟨v, ss⟩ _ _ HS2.out HOK.out).mono ?_
  rintro e w3 ⟨rfl, hb3⟩
  have HB3 := Lib.hid (HB2.out.trans (hb3.mono HB2.out.size))
  have HX3 := Lib.hid ((hb3.block w1.heap.size (heap_lt HX2.out)).trans HX2.out)
  have HS3 := Lib.hid (HS2.out.below hb3)
  clear hb3 b1 b2
  have hq := beq_self_eq_true (depthF ⟨v, ss⟩)
  have hq2 : (depthF ⟨v, ss⟩ != depthF ⟨v, ss⟩) = false := by simp
  have b1 := (blk_cl (k := 0) HX3.out rfl).1
  have b2 := (blk_cl (k := 1) HX3.out rfl).1
  rcases shape ⟨v, ss⟩ with ⟨hf, hd, hw⟩ | ⟨hf, d, W, hd, hw, hsh⟩
  · have h0 : depthF ⟨v, ss⟩ < 0 := by first | (rw [hd]; omega) | (rw [hw]; omega)
    clear hd hw hf
    generalize depthF ⟨v, ss⟩ = z at *
    go_wp2_with fail
    go_ret
    exact ⟨rfl, HB3.out⟩
  have HF := Lib.hid hf; clear hf
  have HSH := Lib.hid hsh; clear hsh
  have HDE := Lib.hid hd; clear hd
  have HWE := Lib.hid hw; clear hw
  have h1d := HSH.out.d1
  have hdn : d ≤ n1 := by rw [← HLn.out]; exact HSH.out.dn
  rw [HDE.out] at hq hq2 ⊢
  have hadd : W + d ≤ n1 + 1 := by rw [← HLn.out]; exact HSH.out.add
  have HMUL := Lib.hid HSH.out.mul
  rw [HLn.out] at HMUL
  obtain ⟨p, hp⟩ : ∃ p, p = d * W := ⟨_, rfl⟩
  have hW : W ≤ 7 := by omega
  have hpb : p ≤ 6 * 7 := by rw [hp]; exact Nat.mul_le_mul (by omega) hW
  have hnp : n1 ≤ p := by rw [hp]; exact HMUL.out
  have hmul : IntKind.i64.wrap ((d : Int) * (W : Int)) = (p : Int) := by rw [hp, ← Int.natCast_mul, IntWalk.i64_in _ (by rw [← hp]; omega)]
  have hmul2 : (d : Int) * (W : Int) = (p : Int) := by rw [hp, ← Int.natCast_mul]
  clear hp
  go_wp2_with fail
  refine (countWideI_any _ _ _ ⟨v, ss⟩ _ _ HS3.out HOK.out).mono ?_
  rintro e w4 ⟨rfl, hb4⟩
  have HB4 := Lib.hid (HB3.out.trans (hb4.mono HB3.out.size))
  have HX4 := Lib.hid ((hb4.block w1.heap.size (heap_lt HX3.out)).trans HX3.out)
  clear hb4 b1 b2
  rw [HWE.out]
  have b1 := (blk_cl (k := 0) HX4.out rfl).1
  have b2 := (blk_cl (k := 1) HX4.out rfl).1
  go_wp2_with fail
  go_ret
  first | exact ⟨rfl, HB4.out⟩ | exact ⟨ret_b (decide_eq_true (by omega)), HB4.out⟩

set_option maxRecDepth 100000 in
set_option maxHeartbeats 1000000 in
theorem fnWide_any (A : Option Addr) (n c : Nat) (w : World) (hr : RByte w A n) (hc : n ≤ c) :
    Calls Try.prog 12 #[.slice A n c] w fun e w' => e = .returned (.bool true) ∧ Below w.heap.size w w' := by
  have HR := Lib.hid hr; clear hr
  by_cases hn : 1048576 < n
  · go_enter Try.func12, Try.ntmps12
    go_wp2_with fail
    go_ret
    exact ⟨rfl, Below.refl _ _⟩
  go_enter Try.func12, Try.ntmps12
  go_wp2_with fail
  refine (drawCountWide_any _ _ _ _ HR.out hc (by omega)).mono ?_
  rintro e w1 ⟨v, A1, n1, c1, ss, rfl, hs, hok, h1, h6, hb1⟩
  have HS := Lib.hid (hs.alloc (.cells #[.int .i64 v, .slice A1 n1 c1] 57)); clear hs
  have HOK := Lib.hid hok; clear hok
  have HB1 := Lib.hid (hb1.alloc hb1.size (.cells #[.int .i64 v, .slice A1 n1 c1] 57)); clear hb1
  have HX := Lib.hid (heap_new (w := w1) (o := .cells #[.int .i64 v, .slice A1 n1 c1] 57) rfl)
  have HLn := Lib.hid (show ss.length = n1 from HS.out.1)
  go_wp2_with fail
  refine (countWideI_any _ _ _ ⟨v, ss⟩ _ _ HS.out HOK.out).mono ?_
  rintro e w2 ⟨rfl, hb2⟩
  have HX2 := Lib.hid ((hb2.block w1.heap.size (by simp)).trans HX.out)
  have HB2 := Lib.hid (HB1.out.trans (hb2.mono HB1.out.size))
  have HS2 := Lib.hid (HS.out.below hb2)
  clear hb2
  have b1 := (blk_cl (k := 0) HX2.out rfl).1
  have b2 := (blk_cl (k := 1) HX2.out rfl).1
  go_wp2_with fail
  refine (countWideS_any _ _ _ ⟨v, ss⟩ _ _ HS2.out HOK.out).mono ?_
  rintro e w3 ⟨rfl, hb3⟩
  have HB3 := Lib.hid (HB2.out.trans (hb3.mono HB2.out.size))
  have HX3 := Lib.hid ((hb3.block w1.heap.size (heap_lt HX2.out)).trans HX2.out)
  have HS3 := Lib.hid (HS2.out.below hb3)
  clear hb3 b1 b2
  have hq := beq_self_eq_true (wideF ⟨v, ss⟩)
  have hq2 : (wideF ⟨v, ss⟩ != wideF ⟨v, ss⟩) = false := by simp
  have b1 := (blk_cl (k := 0) HX3.out rfl).1
  have b2 := (blk_cl (k := 1) HX3.out rfl).1
  rcases shape ⟨v, ss⟩ with ⟨hf, hd, hw⟩ | ⟨hf, d, W, hd, hw, hsh⟩
  · have h0 : wideF ⟨v, ss⟩ < 0 := by first | (rw [hd]; omega) | (rw [hw]; omega)
    clear hd hw hf
    generalize wideF ⟨v, ss⟩ = z at *
    go_wp2_with fail
    go_ret
    exact ⟨rfl, HB3.out⟩
  have HF := Lib.hid hf; clear hf
  have HSH := Lib.hid hsh; clear hsh
  have HDE := Lib.hid hd; clear hd
  have HWE := Lib.hid hw; clear hw
  have h1d := HSH.out.d1
  have hadd : W + d ≤ n1 + 1 := by rw [← HLn.out]; exact HSH.out.add
  have hat0 := HSH.out.at0
  rw [HWE.out] at hq hq2 ⊢
  go_wp2_with fail
  refine (flowReadyI_any _ _ _ _ _ _ ⟨v, ss⟩ [] _ 0 _ (HS3.out.alloc _) HOK.out RL.nil (by omega)).mono ?_
  rintro e w4 ⟨A4, n4, c4, rfl, hr4, hb4⟩
  have hn4 : n4 ≤ W := by
    have h2 : (rdyL ss []).length = n4 := by
      have := hr4.1
      rw [readyF_yes HF.out] at this
      exact this
    have h3 : lvLen ss 0 = (rdyL ss []).length := rfl
    omega
  have HB4 := Lib.hid ((HB3.out.alloc HB3.out.size (.cells #[] 9)).trans (hb4.mono (by simp; have := HB3.out.size; omega)))
  have HX4 := Lib.hid ((hb4.block w1.heap.size (by simp; have := heap_lt HX3.out; omega)).trans (heap_old HX3.out))
  clear hb4 b1 b2 hr4
  have b1 := (blk_cl (k := 0) HX4.out rfl).1
  have b2 := (blk_cl (k := 1) HX4.out rfl).1
  go_wp2_with fail
  go_ret
  first | exact ⟨rfl, HB4.out⟩ | exact ⟨ret_b (decide_eq_true (by omega)), HB4.out⟩

set_option maxRecDepth 100000 in
set_option maxHeartbeats 1000000 in
theorem fnWideAll_any (A : Option Addr) (n c : Nat) (w : World) (hr : RByte w A n) (hc : n ≤ c) :
    Calls Try.prog 13 #[.slice A n c] w fun e w' => e = .returned (.bool true) ∧ Below w.heap.size w w' := by
  have HR := Lib.hid hr; clear hr
  by_cases hn : 1048576 < n
  · go_enter Try.func13, Try.ntmps13
    go_wp2_with fail
    go_ret
    exact ⟨rfl, Below.refl _ _⟩
  go_enter Try.func13, Try.ntmps13
  go_wp2_with fail
  refine (drawCountWide_any _ _ _ _ HR.out hc (by omega)).mono ?_
  rintro e w1 ⟨v, A1, n1, c1, ss, rfl, hs, hok, h1, h6, hb1⟩
  have HS := Lib.hid (hs.alloc (.cells #[.int .i64 v, .slice A1 n1 c1] 57)); clear hs
  have HOK := Lib.hid hok; clear hok
  have HB1 := Lib.hid (hb1.alloc hb1.size (.cells #[.int .i64 v, .slice A1 n1 c1] 57)); clear hb1
  have HX := Lib.hid (heap_new (w := w1) (o := .cells #[.int .i64 v, .slice A1 n1 c1] 57) rfl)
  have HLn := Lib.hid (show ss.length = n1 from HS.out.1)
  go_wp2_with fail
  refine (countWideI_any _ _ _ ⟨v, ss⟩ _ _ HS.out HOK.out).mono ?_
  rintro e w2 ⟨rfl, hb2⟩
  have HX2 := Lib.hid ((hb2.block w1.heap.size (by simp)).trans HX.out)
  have HB2 := Lib.hid (HB1.out.trans (hb2.mono HB1.out.size))
  have HS2 := Lib.hid (HS.out.below hb2)
  clear hb2
  have b1 := (blk_cl (k := 0) HX2.out rfl).1
  have b2 := (blk_cl (k := 1) HX2.out rfl).1
  go_wp2_with fail
  refine (countWideS_any _ _ _ ⟨v, ss⟩ _ _ HS2.out HOK.out).mono ?_
  rintro e w3 ⟨rfl, hb3⟩
  have HB3 := Lib.hid (HB2.out.trans (hb3.mono HB2.out.size))
  have HX3 := Lib.hid ((hb3.block w1.heap.size (heap_lt HX2.out)).trans HX2.out)
  have HS3 := Lib.hid (HS2.out.below hb3)
  clear hb3 b1 b2
  have hq := beq_self_eq_true (wideF ⟨v, ss⟩)
  have hq2 : (wideF ⟨v, ss⟩ != wideF ⟨v, ss⟩) = false := by simp
  have b1 := (blk_cl (k := 0) HX3.out rfl).1
  have b2 := (blk_cl (k := 1) HX3.out rfl).1
  rcases shape ⟨v, ss⟩ with ⟨hf, hd, hw⟩ | ⟨hf, d, W, hd, hw, hsh⟩
  · have h0 : wideF ⟨v, ss⟩ < 0 := by first | (rw [hd]; omega) | (rw [hw]; omega)
    clear hd hw hf
    generalize wideF ⟨v, ss⟩ = z at *
    go_wp2_with fail
    go_ret
    exact ⟨rfl, HB3.out⟩
  have HF := Lib.hid hf; clear hf
  have HSH := Lib.hid hsh; clear hsh
  have HDE := Lib.hid hd; clear hd
  have HWE := Lib.hid hw; clear hw
  have hall : W = n1 ↔ d = 1 := by rw [← HLn.out]; exact HSH.out.all
  rw [HWE.out] at hq hq2 ⊢
  have hd1 : depthF ⟨v, ss⟩ = (d : Int) := HDE.out
  have e1 : ((W : Int) == (n1 : Int)) = decide (d = 1) := by rw [eqN]; rw [decide_eq_decide]; exact hall
  have e2 : ((d : Int) == 1) = decide (d = 1) := by rw [Bool.eq_iff_iff, beq_iff_eq, decide_eq_true_iff]; omega
  have HALL := Lib.hid hall; clear hall
  have HX4 := Lib.hid HX3.out
  have hwx := heap_lt HX3.out
  have HCD := Lib.hid (fun x : Bl w3 => countDepthI_any _ _ c1 ⟨v, ss⟩ _ _ (HS3.out.below x.below) HOK.out)
  rw [hd1] at HCD
  clear hd1
  have X1 : ∀ x : Bl w3, x.to.cell? ⟨w1.heap.size, 0, none⟩ = some (.int .i64 v) := fun x => (blk_cl (k := 0) ((x.below.block _ hwx).trans HX3.out) rfl).1
  have X2 : ∀ x : Bl w3, x.to.cell? ⟨w1.heap.size, 1, none⟩ = some (.slice A1 n1 c1) := fun x => (blk_cl (k := 1) ((x.below.block _ hwx).trans HX3.out) rfl).1
  go_wp2_with fail
  refine region_bl (by kernel_rfl) (by kernel_rfl) ?_
  repeat (go_big_quiet_step ((go_at_call 42; exact q_bl (HCD.out _))))
  refine wpQuiet_nil ?_
  intro _ hw'
  obtain ⟨x, rfl⟩ := hw'
  go_wp2_with fail
  go_ret
  first | exact ⟨ret_b (by simp), HB3.out.trans (x.below.mono HB3.out.size)⟩

set_option maxRecDepth 100000 in
set_option maxHeartbeats 1000000 in
theorem fnOrdersOne_any (A : Option Addr) (n c : Nat) (w : World) (hr : RByte w A n) (hc : n ≤ c) :
    Calls Try.prog 14 #[.slice A n c] w fun e w' => e = .returned (.bool true) ∧ Below w.heap.size w w' := by
  have HR := Lib.hid hr; clear hr
  by_cases hn : 1048576 < n
  · go_enter Try.func14, Try.ntmps14
    go_wp2_with fail
    go_ret
    exact ⟨rfl, Below.refl _ _⟩
  go_enter Try.func14, Try.ntmps14
  go_wp2_with fail
  refine (drawCountOrders_any _ _ _ _ HR.out hc (by omega)).mono ?_
  rintro e w1 ⟨v, A1, n1, c1, ss, rfl, hs, hok, h1, h6, hb1⟩
  have HS := Lib.hid (hs.alloc (.cells #[.int .i64 v, .slice A1 n1 c1] 57)); clear hs
  have HOK := Lib.hid hok; clear hok
  have HB1 := Lib.hid (hb1.alloc hb1.size (.cells #[.int .i64 v, .slice A1 n1 c1] 57)); clear hb1
  have HX := Lib.hid (heap_new (w := w1) (o := .cells #[.int .i64 v, .slice A1 n1 c1] 57) rfl)
  have HLn := Lib.hid (show ss.length = n1 from HS.out.1)
  go_wp2_with fail
  refine (countOrdersI_any _ _ _ ⟨v, ss⟩ _ _ HS.out HOK.out).mono ?_
  rintro e w2 ⟨rfl, hb2⟩
  have HX2 := Lib.hid ((hb2.block w1.heap.size (by simp)).trans HX.out)
  have HB2 := Lib.hid (HB1.out.trans (hb2.mono HB1.out.size))
  have HS2 := Lib.hid (HS.out.below hb2)
  clear hb2
  have b1 := (blk_cl (k := 0) HX2.out rfl).1
  have b2 := (blk_cl (k := 1) HX2.out rfl).1
  go_wp2_with fail
  refine (countOrdersS_any _ _ _ ⟨v, ss⟩ _ _ HS2.out HOK.out).mono ?_
  rintro e w3 ⟨rfl, hb3⟩
  have HB3 := Lib.hid (HB2.out.trans (hb3.mono HB2.out.size))
  have HX3 := Lib.hid ((hb3.block w1.heap.size (heap_lt HX2.out)).trans HX2.out)
  have HS3 := Lib.hid (HS2.out.below hb3)
  clear hb3 b1 b2
  have hq := beq_self_eq_true (cntF ⟨v, ss⟩)
  have hq2 : (cntF ⟨v, ss⟩ != cntF ⟨v, ss⟩) = false := by simp
  have b1 := (blk_cl (k := 0) HX3.out rfl).1
  have b2 := (blk_cl (k := 1) HX3.out rfl).1
  rcases shape ⟨v, ss⟩ with ⟨hf, hd, hw⟩ | ⟨hf, d, W, hd, hw, hsh⟩
  · have hw0 : cntF ⟨v, ss⟩ = -1 := by unfold cntF; rw [if_neg (by rw [hf]; simp)]
    have h0 : cntF ⟨v, ss⟩ < 0 := by rw [hw0]; omega
    clear hd hw hf hw0
    generalize cntF ⟨v, ss⟩ = z at *
    go_wp2_with fail
    go_ret
    exact ⟨rfl, HB3.out⟩
  have HF := Lib.hid hf; clear hf
  have HSH := Lib.hid hsh; clear hsh
  have HDE := Lib.hid hd; clear hd
  have HWE := Lib.hid hw; clear hw
  have HC := Lib.hid (show cntF ⟨v, ss⟩ = (cnt ss n1 [] : Nat) by unfold cntF; rw [if_pos ⟨HF.out, by show ss.length ≤ 6; rw [HLn.out]; exact h6⟩]; show ((cnt ss ss.length [] : Nat) : Int) = _; rw [HLn.out])
  have hone : W = 1 ↔ cnt ss n1 [] = 1 := by have := HSH.out.one; rw [HLn.out] at this; exact this
  rw [HC.out] at hq hq2 ⊢
  generalize cnt ss n1 [] = z at *
  have e1 : ((W : Int) == 1) = decide (z = 1) := by rw [Bool.eq_iff_iff, beq_iff_eq, decide_eq_true_iff]; omega
  have e2 : ((z : Int) == 1) = decide (z = 1) := by rw [Bool.eq_iff_iff, beq_iff_eq, decide_eq_true_iff]; omega
  have HO1 := Lib.hid hone; clear hone
  go_wp2_with fail
  refine (countWideI_any _ _ _ ⟨v, ss⟩ _ _ HS3.out HOK.out).mono ?_
  rintro e w4 ⟨rfl, hb4⟩
  rw [HWE.out]
  go_wp2_with fail
  go_ret
  first | exact ⟨ret_b (by simp), HB3.out.trans (hb4.mono HB3.out.size)⟩

set_option maxRecDepth 100000 in
set_option maxHeartbeats 1000000 in
theorem fnDepthAfter_any (A : Option Addr) (n c : Nat) (w : World) (hr : RByte w A n) (hc : n ≤ c) :
    Calls Try.prog 10 #[.slice A n c] w fun e w' => e = .returned (.bool true) ∧ Below w.heap.size w w' := by
  have HR := Lib.hid hr; clear hr
  by_cases hn : 1048576 < n
  · go_enter Try.func10, Try.ntmps10
    go_wp2_with fail
    go_ret
    exact ⟨rfl, Below.refl _ _⟩
  go_enter Try.func10, Try.ntmps10
  go_wp2_with fail
  refine (drawCountDepth_any _ _ _ _ HR.out hc (by omega)).mono ?_
  rintro e w1 ⟨v, A1, n1, c1, ss, rfl, hs, hok, h1, h6, hb1⟩
  have HS := Lib.hid (hs.alloc (.cells #[.int .i64 v, .slice A1 n1 c1] 57)); clear hs
  have HOK := Lib.hid hok; clear hok
  have HB1 := Lib.hid (hb1.alloc hb1.size (.cells #[.int .i64 v, .slice A1 n1 c1] 57)); clear hb1
  have HX := Lib.hid (heap_new (w := w1) (o := .cells #[.int .i64 v, .slice A1 n1 c1] 57) rfl)
  have HLn := Lib.hid (show ss.length = n1 from HS.out.1)
  go_wp2_with fail
  refine (countDepthI_any _ _ _ ⟨v, ss⟩ _ _ HS.out HOK.out).mono ?_
  rintro e w2 ⟨rfl, hb2⟩
  have HX2 := Lib.hid ((hb2.block w1.heap.size (by simp)).trans HX.out)
  have HB2 := Lib.hid (HB1.out.trans (hb2.mono HB1.out.size))
  have HS2 := Lib.hid (HS.out.below hb2)
  clear hb2
  have b1 := (blk_cl (k := 0) HX2.out rfl).1
  have b2 := (blk_cl (k := 1) HX2.out rfl).1
  go_wp2_with fail
  refine (countDepthS_any _ _ _ ⟨v, ss⟩ _ _ HS2.out HOK.out).mono ?_
  rintro e w3 ⟨rfl, hb3⟩
  have HB3 := Lib.hid (HB2.out.trans (hb3.mono HB2.out.size))
  have HX3 := Lib.hid ((hb3.block w1.heap.size (heap_lt HX2.out)).trans HX2.out)
  have HS3 := Lib.hid (HS2.out.below hb3)
  clear hb3 b1 b2
  have hq := beq_self_eq_true (depthF ⟨v, ss⟩)
  have hq2 : (depthF ⟨v, ss⟩ != depthF ⟨v, ss⟩) = false := by simp
  have b1 := (blk_cl (k := 0) HX3.out rfl).1
  have b2 := (blk_cl (k := 1) HX3.out rfl).1
  rcases shape ⟨v, ss⟩ with ⟨hf, hd, hw⟩ | ⟨hf, d, W, hd, hw, hsh⟩
  · have h0 : depthF ⟨v, ss⟩ < 0 := by first | (rw [hd]; omega) | (rw [hw]; omega)
    clear hd hw hf
    generalize depthF ⟨v, ss⟩ = z at *
    go_wp2_with fail
    go_ret
    exact ⟨rfl, HB3.out⟩
  have HF := Lib.hid hf; clear hf
  have HSH := Lib.hid hsh; clear hsh
  have HDE := Lib.hid hd; clear hd
  have HWE := Lib.hid hw; clear hw
  have h1d := HSH.out.d1
  have hdn : d ≤ n1 := by rw [← HLn.out]; exact HSH.out.dn
  rw [HDE.out] at hq hq2 ⊢
  have HAF := Lib.hid (someB_all HSH.out.aft)
  rw [HLn.out] at HAF
  go_wp2_with fail
  go_loop [6, 7] (fun s i => ∃ k : Nat, k ≤ n1 ∧ i = .int .i64 k ∧ s = .bool (someB ss k)) (fun _ i => n1 - (intOf i).toNat)
  case atStart => exact ⟨0, Nat.zero_le _, rfl, rfl⟩
  case round =>
    obtain ⟨k, hk, rfl, rfl⟩ := hrel
    by_cases hlt : k < n1
    · obtain ⟨b, off, rfl, _, hcs⟩ := RStep.at_ HS3.out hlt
      obtain ⟨A', n', c', ⟨_, g2, _⟩, hra, _⟩ := hcs k hlt
      clear hcs
      have HSU := Lib.hid (someB_succ ss k)
      have HLA := Lib.hid hra.1
      cases hs : someB ss k
      · by_cases h0 : 0 < n'
        · have h0' : decide (0 < n') = true := by simpa using h0
          have h0i : decide ((0 : Int) < (n' : Int)) = true := by simp; omega
          go_wp2_with fail
          go_round
          case rel => exact ⟨k + 1, by omega, by go_num, by rw [HSU.out, hs, HLA.out, h0']; rfl⟩
          case measure => simp [intOf]; omega
        · have h0' : decide (0 < n') = false := by simpa using h0
          have h0i : decide ((0 : Int) < (n' : Int)) = false := by simp; omega
          go_wp2_with fail
          go_round
          case rel => exact ⟨k + 1, by omega, by go_num, by rw [HSU.out, hs, HLA.out, h0']; rfl⟩
          case measure => simp [intOf]; omega
      · go_wp2_with fail
        go_round
        case rel => exact ⟨k + 1, by omega, by go_num, by rw [HSU.out, hs]; rfl⟩
        case measure => simp [intOf]; omega
    · obtain rfl : k = n1 := by omega
      rw [HAF.out]
      have e2 : ((d : Int) == 1) = decide (d = 1) := by rw [Bool.eq_iff_iff, beq_iff_eq, decide_eq_true_iff]; omega
      go_wp2_with fail
      go_ret
      first | exact ⟨ret_b (by cases decide (d = 1) <;> rfl), HB3.out⟩
end Go.Proofs.Ytnlibaoegfdoeaa
