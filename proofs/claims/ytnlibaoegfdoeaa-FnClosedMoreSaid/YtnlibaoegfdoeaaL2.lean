/- FnClosedMore: the walk. -/
import Derived.Test.YtnlibaoegfdoeaaL1
namespace Go.Proofs.Ytnlibaoegfdoeaa
open Go.RowKit

theorem closed_more {gs : List Guard} {vs xs : List Int} (h1 : guardsB gs = true) (h2 : varsB vs = true) (hx : varsB xs = true) (hge : ∀ j, nth vs j ≤ nth xs j) : haveB (closL gs vs) (closL gs xs) = true := by
  rw [haveB_iff, closL_yes h1 h2, closL_yes h1 hx]
  intro y hy
  unfold closTo at hy ⊢
  rw [List.take_length] at hy ⊢
  obtain ⟨g, hg, rfl⟩ := List.mem_map.1 hy
  rw [List.mem_filter] at hg
  refine List.mem_map.2 ⟨g, List.mem_filter.2 ⟨hg.1, ?_⟩, rfl⟩
  have := hge g.var.toNat
  unfold closB at hg ⊢
  simp only [decide_eq_true_eq] at hg ⊢
  omega
theorem vars_at {vs : List Int} {k : Nat} (h : varsB vs = true) (hk : k < 4) : vs.length = 4 ∧ 0 ≤ nth vs k ∧ nth vs k ≤ 99 := by
  unfold varsB at h
  simp only [Bool.and_eq_true, decide_eq_true_eq] at h
  have := allN_iff.1 h.1 k (by omega)
  simp only [inB, Bool.and_eq_true, decide_eq_true_eq] at this
  exact ⟨h.2, this.1, this.2⟩
theorem vars_up {vs : List Int} {k : Nat} (h : varsB vs = true) (hk : k < 4) (hl : nth vs k < 99) : varsB (vs.set k (nth vs k + 1)) = true := by
  obtain ⟨h4, h0, _⟩ := vars_at h hk
  unfold varsB
  simp only [Bool.and_eq_true, decide_eq_true_eq, List.length_set, h4, and_true]
  rw [allN_iff]
  intro j hj
  rw [nth_set (by omega)]
  have := vars_at h (k := j) (by omega)
  split <;> simp [inB] <;> omega
theorem vars_up_ge {vs : List Int} {k : Nat} (hk : k < vs.length) (j : Nat) : nth vs j ≤ nth (vs.set k (nth vs k + 1)) j := by
  rw [nth_set hk]
  split
  · subst_vars; omega
  · omega

set_option maxRecDepth 100000 in
set_option maxHeartbeats 1000000 in
theorem fnClosedMore_any (A B : Option Addr) (n c m d : Nat) (w : World) (hr : RByte w A n) (hc : n ≤ c) (hm0 : m ≤ maxLen) :
    Calls Try.prog 4 #[.slice A n c, .slice B m d] w fun e w' => e = .returned (.bool true) ∧ Below w.heap.size w w' := by
  have HR := Lib.hid hr; clear hr
  unfold maxLen at hm0
  by_cases hn : 1048576 < n
  · go_enter Try.func4, Try.ntmps4
    go_wp2_with fail
    go_ret
    exact ⟨rfl, Below.refl _ _⟩
  by_cases hmm : 1048576 < m
  · go_enter Try.func4, Try.ntmps4
    go_wp2_with fail
    go_ret
    exact ⟨rfl, Below.refl _ _⟩
  go_enter Try.func4, Try.ntmps4
  go_wp2_with fail
  refine (drawGC_any _ _ _ _ HR.out hc (by omega)).mono ?_
  rintro e w1 ⟨A1, n1, c1, B1, m1, d1, gs, vs, rfl, hg, hok, hv, hm, hb1⟩
  have HG := Lib.hid hg; clear hg
  have HOK := Lib.hid hok; clear hok
  have HV := Lib.hid hv; clear hv
  have HB1 := Lib.hid hb1; clear hb1
  go_wp2_with fail
  refine (closI_any _ _ _ _ _ _ gs vs _ _ _ HG.out HOK.out HV.out (by omega)).mono ?_
  rintro e w2 ⟨A2, n2, c2, rfl, hr2, hb2⟩
  have HR2 := Lib.hid hr2; clear hr2
  have HB2 := Lib.hid hb2; clear hb2
  go_wp2_with fail
  refine (closS_any _ _ _ _ _ _ gs vs _ _ _ (HG.out.below HB2.out) HOK.out (HV.out.below HB2.out) (by omega)).mono ?_
  rintro e w3 ⟨A3, n3, c3, rfl, hr3, hb3⟩
  have HR3 := Lib.hid hr3; clear hr3
  have HB3 := Lib.hid hb3; clear hb3
  have HEQ := Lib.hid (show eqB (closL gs vs) (closL gs vs) = true by simp [eqB])
  have hn2 : n2 ≤ 1048576 := by
    rw [← HR2.out.1]
    have := HOK.out.1
    unfold closL
    split
    · exact Nat.le_trans closTo_lt this
    · simp
  have hn3 : n3 ≤ 1048576 := by rw [← HR3.out.1, HR2.out.1]; exact hn2
  have HNN := Lib.hid (show n3 = n2 by rw [← HR3.out.1, HR2.out.1])
  have heq : eqB (closL gs vs) (closL gs vs) = true := HEQ.out
  have HB := Lib.hid ((HB1.out.trans (HB2.out.mono HB1.out.size)).trans (HB3.out.mono (Nat.le_trans HB1.out.size HB2.out.size)))
  go_wp2_with fail
  refine (sameTexts_any _ _ _ _ _ _ _ _ _ _ _ (HR2.out.below HB3.out) hn2 HR3.out hn3).mono ?_
  rintro e w4 ⟨rfl, q1, rfl⟩
  by_cases hz : n3 < 1
  · have h3 : ((n3 : Int) == 0) = true := by rw [beq_iff_eq]; omega
    go_wp2_with fail
    refine (sameTexts_any _ _ _ _ _ _ _ _ _ _ _ (((HR2.out.below HB3.out).drewN _)) hn2 ((HR3.out.drewN _)) hn3).mono ?_
    rintro e w6 ⟨rfl, q3, rfl⟩
    go_wp2_with fail
    go_ret
    exact ⟨rfl, below_drewN HB.out _⟩
  have h3 : ((n3 : Int) == 0) = false := by rw [beq_eq_false_iff_ne]; omega
  have hval : guardsB gs = true ∧ varsB vs = true := by
    cases h1 : guardsB gs
    · have := HR3.out.1; rw [closL_no (.inl h1)] at this; simp at this; omega
    cases h2 : varsB vs
    · have := HR3.out.1; rw [closL_no (.inr h2)] at this; simp at this; omega
    exact ⟨rfl, rfl⟩
  have HVAL := Lib.hid hval; clear hval
  have hm4 : m1 = 4 := by rw [← HV.out.1]; exact (vars_at HVAL.out.2 (show 0 < 4 by omega)).1
  subst hm4
  go_wp2_with (at_builtin; refine apps_int (w3.drewN q1) _ 0 [] w.heap.size _ _ _ vs ?c0 ?c1 rfl (.tmp 45) (.tmp 46) rfl rfl rfl (by omega) ?_)
  case c0 => exact ⟨World.ownsRow_made _ _ _ (Nat.le_refl _) (by unfold maxLen; omega) rfl, (Below.refl _ _).alloc (Nat.le_refl _) _⟩
  case c1 => exact (((HV.out.below HB2.out).below HB3.out).drewN _).alloc _
  intro v' w4 how hg4
  have HOW := Lib.hid how; clear how
  clear hg4
  obtain ⟨A5, c5, hv5, hr5⟩ := own_int HOW.out.row
  subst hv5
  have HB4 := Lib.hid HOW.out.below
  have HR5 := Lib.hid hr5; clear hr5
  have hk : m % 4 < 4 := Nat.mod_lt _ (by omega)
  obtain ⟨b5, o5, rfl, ⟨hb5, hb6⟩, hc5⟩ := RInt.at_ HR5.out hk
  obtain ⟨f1, f2⟩ := hc5 (m % 4) hk
  have f4 := (vars_at HVAL.out.2 hk).2
  have f5 := f4.1
  have f6 := f4.2
  clear hc5 f4
  have HG4 := Lib.hid (HB3.out.size)
  have HG5 := Lib.hid (HB2.out.size)
  by_cases hx : nth vs (m % 4) < 99
  · have HS := Lib.hid (RInt.set_ HR5.out hk (nth vs (m % 4) + 1))
    have HB5 := Lib.hid (HB4.out.setCell (p := ⟨b5, o5 + m % 4, none⟩) hb5 (.int .i64 (nth vs (m % 4) + 1)))
    have HV2 := Lib.hid (vars_up HVAL.out.2 hk hx)
    have hmore : haveB (closL gs vs) (closL gs (vs.set (m % 4) (nth vs (m % 4) + 1))) = true := closed_more HVAL.out.1 HVAL.out.2 HV2.out (vars_up_ge (by rw [HV.out.1]; exact hk))
    go_wp2_with fail
    refine (closI_any _ _ _ _ _ _ gs _ w.heap.size _ _ ((((HG.out.below HB2.out).below HB3.out).drewN q1).below HB5.out) HOK.out HS.out (by omega)).mono ?_
    rintro e w6 ⟨A6, n6, c6, rfl, hr6, hb6'⟩
    have hn6 : n6 ≤ 1048576 := by
      rw [← hr6.1]
      have := HOK.out.1
      unfold closL
      split
      · exact Nat.le_trans closTo_lt this
      · simp
    have HR6 := Lib.hid hr6; clear hr6
    have HB6 := Lib.hid hb6'; clear hb6'
    go_wp2_with fail
    refine (namesHave_any _ _ _ _ _ _ (closL gs vs) _ _ _ _ ((((HR2.out.below HB3.out).drewN q1).below HB5.out).below HB6.out) hn2 HR6.out hn6).mono ?_
    rintro e w7 ⟨rfl, rfl⟩
    go_wp2_with fail
    go_ret
    exact ⟨rfl, ((below_drewN HB.out q1).trans (HB5.out.mono HB.out.size)).trans (HB6.out.mono (Nat.le_trans HB.out.size HB5.out.size))⟩
  · have hmore : haveB (closL gs vs) (closL gs vs) = true := haveB_iff.2 (fun _ h => h)
    go_wp2_with fail
    refine (closI_any _ _ _ _ _ _ gs _ w.heap.size _ _ ((((HG.out.below HB2.out).below HB3.out).drewN q1).below HB4.out) HOK.out HR5.out (by omega)).mono ?_
    rintro e w6 ⟨A6, n6, c6, rfl, hr6, hb6'⟩
    have hn6 : n6 ≤ 1048576 := by
      rw [← hr6.1, HR2.out.1]; exact hn2
    have HR6 := Lib.hid hr6; clear hr6
    have HB6 := Lib.hid hb6'; clear hb6'
    go_wp2_with fail
    refine (namesHave_any _ _ _ _ _ _ (closL gs vs) _ _ _ _ ((((HR2.out.below HB3.out).drewN q1).below HB4.out).below HB6.out) hn2 HR6.out hn6).mono ?_
    rintro e w7 ⟨rfl, rfl⟩
    go_wp2_with fail
    go_ret
    exact ⟨rfl, ((below_drewN HB.out q1).trans (HB4.out.mono HB.out.size)).trans (HB6.out.mono (Nat.le_trans HB.out.size HB4.out.size))⟩
end Go.Proofs.Ytnlibaoegfdoeaa
