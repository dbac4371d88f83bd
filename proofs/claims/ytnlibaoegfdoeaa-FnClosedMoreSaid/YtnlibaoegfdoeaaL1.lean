/- FnClosed: the walk. -/
import Derived.Test.YtnlibaoegfdoeaaW3
import Derived.Test.YtnlibaoegfdoeaaD2
namespace Go.Proofs.Ytnlibaoegfdoeaa
open Go.RowKit

theorem closTo_at {gs : List Guard} {vs : List Int} {k : Nat} (hk : k < gs.length) (h : closB vs (nth gs k) = true) :
    (closTo gs vs k).length < (closTo gs vs gs.length).length ∧ nth (closTo gs vs gs.length) (closTo gs vs k).length = (nth gs k).name := by
  have e : closTo gs vs gs.length = closTo gs vs k ++ ((gs.drop k).filter (closB vs)).map (·.name) := by
    unfold closTo
    rw [List.take_length, ← List.map_append, ← List.filter_append, List.take_append_drop]
  have e2 : gs.drop k = nth gs k :: gs.drop (k + 1) := by rw [nth_eq hk]; exact List.drop_eq_getElem_cons hk
  rw [e2, List.filter_cons_of_pos h, List.map_cons] at e
  have hl : (closTo gs vs k).length < (closTo gs vs gs.length).length := by rw [e]; simp
  refine ⟨hl, ?_⟩
  rw [nth_eq hl]
  simp [e]
theorem closTo_lt {gs : List Guard} {vs : List Int} : (closTo gs vs gs.length).length ≤ gs.length := closTo_len _ _ _

set_option maxRecDepth 100000 in
set_option maxHeartbeats 1000000 in
theorem fnClosed_any (A : Option Addr) (n c : Nat) (w : World) (hr : RByte w A n) (hc : n ≤ c) :
    Calls Try.prog 3 #[.slice A n c] w fun e w' => e = .returned (.bool true) ∧ Below w.heap.size w w' := by
  have HR := Lib.hid hr; clear hr
  by_cases hn : 1048576 < n
  · go_enter Try.func3, Try.ntmps3
    go_wp2_with fail
    go_ret
    exact ⟨rfl, Below.refl _ _⟩
  go_enter Try.func3, Try.ntmps3
  go_wp2_with fail
  refine (drawGC_any _ _ _ _ HR.out hc (by omega)).mono ?_
  rintro e w1 ⟨A1, n1, c1, B1, m1, d1, gs, vs, rfl, hg, hok, hv, hm, hb1⟩
  have HG := Lib.hid hg; clear hg
  have HOK := Lib.hid hok; clear hok
  have HV := Lib.hid hv; clear hv
  have HB1 := Lib.hid hb1; clear hb1
  go_wp2_with fail
  refine (closI_any _ _ _ _ _ _ gs vs _ _ _ HG.out HOK.out HV.out (by omega)).mono ?_
  rintro e w2 ⟨A2, n2, c2, rfl, hr2, hb2⟩
  have HR2 := Lib.hid hr2; clear hr2
  have HB2 := Lib.hid hb2; clear hb2
  go_wp2_with fail
  refine (closS_any _ _ _ _ _ _ gs vs _ _ _ (HG.out.below HB2.out) HOK.out (HV.out.below HB2.out) (by omega)).mono ?_
  rintro e w3 ⟨A3, n3, c3, rfl, hr3, hb3⟩
  have HR3 := Lib.hid hr3; clear hr3
  have HB3 := Lib.hid hb3; clear hb3
  have HEQ := Lib.hid (show eqB (closL gs vs) (closL gs vs) = true by simp [eqB])
  have hn2 : n2 ≤ 1048576 := by
    rw [← HR2.out.1]
    have := HOK.out.1
    unfold closL
    split
    · exact Nat.le_trans closTo_lt this
    · simp
  have hn3 : n3 ≤ 1048576 := by rw [← HR3.out.1, HR2.out.1]; exact hn2
  have heq : eqB (closL gs vs) (closL gs vs) = true := HEQ.out
  have HB := Lib.hid ((HB1.out.trans (HB2.out.mono HB1.out.size)).trans (HB3.out.mono (Nat.le_trans HB1.out.size HB2.out.size)))
  go_wp2_with fail
  refine (sameTexts_any _ _ _ _ _ _ _ _ _ _ _ (HR2.out.below HB3.out) hn2 HR3.out hn3).mono ?_
  rintro e w4 ⟨rfl, q1, rfl⟩
  cases h1 : guardsB gs
  · go_wp2_with fail
    refine (guardsS_any _ _ _ gs _ _ ((((HG.out.below HB2.out).below HB3.out).drewN _)) HOK.out).mono ?_
    rintro e w5 ⟨rfl, q2, rfl⟩
    go_wp2_with fail
    refine (sameTexts_any _ _ _ _ _ _ _ _ _ _ _ (((HR2.out.below HB3.out).drewN _)) hn2 ((HR3.out.drewN _)) hn3).mono ?_
    rintro e w6 ⟨rfl, q3, rfl⟩
    go_wp2_with fail
    go_ret
    exact ⟨rfl, below_drewN HB.out _⟩
  cases h2 : varsB vs
  · go_wp2_with fail
    refine (guardsS_any _ _ _ gs _ _ ((((HG.out.below HB2.out).below HB3.out).drewN _)) HOK.out).mono ?_
    rintro e w5 ⟨rfl, q2, rfl⟩
    go_wp2_with fail
    refine (varsS_any _ _ _ vs _ _ ((((HV.out.below HB2.out).below HB3.out).drewN _)) (by omega)).mono ?_
    rintro e w5 ⟨rfl, rfl⟩
    go_wp2_with fail
    refine (sameTexts_any _ _ _ _ _ _ _ _ _ _ _ (((HR2.out.below HB3.out).drewN _)) hn2 ((HR3.out.drewN _)) hn3).mono ?_
    rintro e w6 ⟨rfl, q3, rfl⟩
    go_wp2_with fail
    go_ret
    exact ⟨rfl, below_drewN HB.out _⟩
  go_wp2_with fail
  refine (guardsS_any _ _ _ gs _ _ ((((HG.out.below HB2.out).below HB3.out).drewN _)) HOK.out).mono ?_
  rintro e w5 ⟨rfl, q2, rfl⟩
  go_wp2_with fail
  refine (varsS_any _ _ _ vs _ _ ((((HV.out.below HB2.out).below HB3.out).drewN _)) (by omega)).mono ?_
  rintro e w5 ⟨rfl, rfl⟩
  go_wp2_with fail
  have HC := Lib.hid (closL_yes h1 h2)
  have HI := Lib.hid (fun k hk => guard_in (k := k) h1 h2 hk)
  have HG3 := Lib.hid ((HG.out.below HB2.out).below HB3.out)
  have HV3 := Lib.hid ((HV.out.below HB2.out).below HB3.out)
  have HQ := Lib.hid (HR2.out.below HB3.out)
  have hlen2 : n2 = (closTo gs vs gs.length).length := by rw [← HR2.out.1, HC.out]
  have HL2 := Lib.hid hlen2; clear hlen2
  have hn1 : n1 ≤ 1048576 := by rw [← HG.out.1]; exact HOK.out.1
  clear h1 h2 heq
  go_loopw [7, 8] (fun v i wr => ∃ k m q : Nat, k ≤ n1 ∧ i = .int .i64 k ∧ v = .int .i64 m ∧ m ≤ n2 ∧ wr = w3.drewN q ∧ m = (closTo gs vs k).length) (fun _ i _ => n1 - (intOf i).toNat)
  case atStart => exact ⟨0, 0, _, Nat.zero_le _, rfl, rfl, Nat.zero_le _, rfl, rfl⟩
  case round =>
    obtain ⟨k, m, q, hk, rfl, rfl, hmn, rfl, hmk⟩ := hrel
    have HM := Lib.hid hmk; clear hmk
    by_cases hlt : k < n1
    · have HL := Lib.hid (show k < gs.length by rw [HG.out.1]; exact hlt)
      obtain ⟨b, off, rfl, _, hc1⟩ := RGuard.at_ HG3.out hlt
      obtain ⟨⟨g1, g2, g3⟩, _⟩ := hc1 k hlt
      clear hc1
      obtain ⟨hi1, hi2, hi3, hi4⟩ := HI.out k HL.out
      have hm4 : m1 = 4 := by rw [← HV.out.1]; exact hi3
      obtain ⟨bv, ov, rfl, _, hcv⟩ := RInt.at_ (k := 0) HV3.out (by omega)
      have hlv : (nth gs k).var.toNat < m1 := by omega
      obtain ⟨d2, _⟩ := hcv (nth gs k).var.toNat (by omega)
      have hlv2 : (nth gs k).var < (m1 : Int) := by omega
      clear hcv hi3 hm4
      by_cases ht : nth vs (nth gs k).var.toNat < (nth gs k).least
      · have ht' : decide (nth vs (nth gs k).var.toNat < (nth gs k).least) = true := by simpa using ht
        have HT := Lib.hid (closTo_yes HL.out ht')
        have HA := Lib.hid (closTo_at HL.out ht')
        have hmm : m < n2 := by rw [HM.out, HL2.out]; exact HA.out.1
        obtain ⟨b2, o2, rfl, _, hc2⟩ := RStr.at_ HQ.out hmm
        obtain ⟨e1, _⟩ := hc2 m hmm
        clear hc2
        have h3 : decide ((n2 : Int) ≤ (m : Int)) = false := by simp; omega
        have h4 : decide (n2 ≤ m) = false := by simp; omega
        have h5 : (ByteArray.toList (nth (closL gs vs) m) == ByteArray.toList (nth gs k).name) = true := seq_t (by rw [HC.out, HM.out]; exact HA.out.2)
        go_wp2_with fail
        go_quiet (fail)
        go_wp2_with fail
        go_quiet (fail)
        go_wp2_with fail
        go_roundw
        case rel => exact ⟨k + 1, m + 1, _, by omega, by go_num, by go_num, by omega, rfl, by rw [HT.out, List.length_append, ← HM.out]; rfl⟩
        case measure => simp [intOf]; omega
      · have ht' : decide (nth vs (nth gs k).var.toNat < (nth gs k).least) = false := by simpa using ht
        have HT := Lib.hid (closTo_no HL.out ht')
        go_wp2_with fail
        go_quiet (fail)
        go_wp2_with fail
        go_roundw
        case rel => exact ⟨k + 1, m, _, by omega, by go_num, rfl, by omega, rfl, by rw [HT.out]; exact HM.out⟩
        case measure => simp [intOf]; omega
    · have h3 : ((m : Int) == (n2 : Int)) = true := by
        rw [beq_iff_eq]
        have h4 : k = gs.length := by have := HG.out.1; omega
        have h5 := HM.out
        rw [h4, ← HL2.out] at h5
        omega
      go_wp2_with fail
      go_ret
      exact ⟨rfl, below_drewN HB.out _⟩
end Go.Proofs.Ytnlibaoegfdoeaa
