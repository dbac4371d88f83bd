/- FnExactGuardsClosed: the walk. -/
import Derived.Test.YtnlibaoegfdoeaaE2
import Derived.Test.YtnlibaoegfdoeaaW3
namespace Go.Proofs.Ytnlibaoegfdoeaa
open Go.RowKit

theorem eqStringS_same (A B : Option Addr) (n m c d : Nat) (xs : List Str) (lo lo' : Nat) (w : World) (hr : RStr w lo A n xs) (hn : n ≤ 1048576) (hr' : RStr w lo' B m xs) :
    Calls Try.prog 25 #[.slice A n c, .slice B m d] w fun e w' => e = .returned (.bool true) ∧ ∃ k, w' = w.drewN k := by
  have HX := Lib.hid hr; clear hr
  have HY := Lib.hid hr'; clear hr'
  have hnm : m = n := by rw [← HX.out.1, ← HY.out.1]
  subst hnm
  go_enter Try.func25, Try.ntmps25
  go_wp2_with fail
  go_loopw [5] (fun i wr => ∃ k q : Nat, k ≤ m ∧ i = .int .i64 k ∧ wr = w.drewN q) (fun i _ => m - (intOf i).toNat)
  case atStart => exact ⟨0, 0, Nat.zero_le _, rfl, rfl⟩
  case round =>
    obtain ⟨k, q, hk, rfl, rfl⟩ := hrel
    by_cases hlt : k < m
    · obtain ⟨b, off, rfl, _, hc⟩ := RStr.at_ HX.out hlt
      obtain ⟨c1, _⟩ := hc k hlt
      clear hc
      obtain ⟨b', off', rfl, _, hc⟩ := RStr.at_ HY.out hlt
      obtain ⟨c2, _⟩ := hc k hlt
      clear hc
      go_wp2_with fail
      go_quiet (fail)
      go_wp2_with fail
      go_roundw
      case rel => exact ⟨k + 1, _, by omega, by go_num, rfl⟩
      case measure => simp [intOf]; omega
    · go_wp2_with fail
      go_ret
      exact ⟨rfl, _, rfl⟩

theorem closL_len (gs : List Guard) (vs : List Int) : (closL gs vs).length ≤ gs.length := by
  unfold closL
  split
  · exact closTo_len _ _ _
  · simp

set_option maxRecDepth 100000 in
set_option maxHeartbeats 1000000 in
theorem fnExactGC_any (A B : Option Addr) (n c m d : Nat) (gs : List Guard) (vs : List Int) (w : World) (hg : RGuard w 0 A n gs) (hn : n ≤ maxLen) (hs : ∀ j, j < n → (nth gs j).name.size ≤ maxLen) (hv : RInt w 0 B m vs) (hm : m ≤ maxLen) :
    Calls Try.prog 5 #[.slice A n c, .slice B m d] w fun e w' => e = .returned (.bool true) ∧ Below w.heap.size w w' := by
  have HG := Lib.hid hg; clear hg
  have HS := Lib.hid hs; clear hs
  have HV := Lib.hid hv; clear hv
  have HN := Lib.hid hn; clear hn
  unfold maxLen at hm
  by_cases hmm : 1048576 < m
  · go_enter Try.func5, Try.ntmps5
    go_wp2_with fail
    go_ret
    exact ⟨rfl, Below.refl _ _⟩
  go_enter Try.func5, Try.ntmps5
  go_wp2_with fail
  refine (szGuardS_any _ _ _ gs _ _ _ HG.out HN.out HS.out (by omega) (by omega)).mono ?_
  rintro e w1 ⟨r, rfl, hr0, hr1, hb1⟩
  have HB1 := Lib.hid hb1; clear hb1
  by_cases hr : r < 0
  · clear hr1
    go_wp2_with fail
    go_ret
    exact ⟨rfl, HB1.out⟩
  obtain ⟨hr2, hn2, hok⟩ := hr1 (by omega)
  have HOK := Lib.hid hok; clear hok
  have hm2 : m ≤ 1048576 := by omega
  go_wp2_with fail
  refine (toGuardS_any _ _ _ gs _ _ (HG.out.below HB1.out) hn2).mono ?_
  rintro e w2 ⟨A2, c2, rfl, h2, hb2⟩
  have H2 := Lib.hid h2; clear h2
  have HB2 := Lib.hid (HB1.out.trans (hb2.mono HB1.out.size)); clear hb2
  go_wp2_with fail
  refine (toIntS_any _ _ _ vs _ _ (HV.out.below HB2.out) hm2).mono ?_
  rintro e w3 ⟨A3, c3, rfl, h3, hb3⟩
  have H3 := Lib.hid h3; clear h3
  have H2' := Lib.hid (H2.out.below hb3); clear H2
  have HB3 := Lib.hid (HB2.out.trans (hb3.mono HB2.out.size)); clear hb3
  go_wp2_with fail
  refine (closS_any _ _ _ _ _ _ gs vs _ _ _ H2'.out HOK.out H3.out hm2).mono ?_
  rintro e w4 ⟨A4, n4, c4, rfl, h4, hb4⟩
  have H4 := Lib.hid h4; clear h4
  have HB4 := Lib.hid (HB3.out.trans (hb4.mono HB3.out.size)); clear hb4
  have hn4 : n4 ≤ 1048576 := by rw [← H4.out.1]; have := closL_len gs vs; have := HG.out.1; omega
  go_wp2_with fail
  refine (toGuardS_any _ _ _ gs _ _ (HG.out.below HB4.out) hn2).mono ?_
  rintro e w5 ⟨A5, c5, rfl, h5, hb5⟩
  have H5 := Lib.hid h5; clear h5
  have HB45 := Lib.hid hb5
  have HB5 := Lib.hid (HB4.out.trans (hb5.mono HB4.out.size)); clear hb5
  go_wp2_with fail
  refine (toIntS_any _ _ _ vs _ _ (HV.out.below HB5.out) hm2).mono ?_
  rintro e w6 ⟨A6, c6, rfl, h6, hb6⟩
  have H6 := Lib.hid h6; clear h6
  have HB56 := Lib.hid hb6
  have HB6 := Lib.hid (HB5.out.trans (hb6.mono HB5.out.size)); clear hb6
  go_wp2_with fail
  refine (closI_any _ _ _ _ _ _ gs vs _ _ _ (H5.out.below HB56.out) HOK.out H6.out hm2).mono ?_
  rintro e w7 ⟨A7, n7, c7, rfl, h7, hb7⟩
  have H7 := Lib.hid h7; clear h7
  have HB67 := Lib.hid hb7
  have HB7 := Lib.hid (HB6.out.trans (hb7.mono HB6.out.size)); clear hb7
  have hn7 : n7 ≤ 1048576 := by rw [← H7.out.1]; have := closL_len gs vs; have := HG.out.1; omega
  -- sizes
  have s45 := HB45.out.size
  have s56 := HB56.out.size
  have s67 := HB67.out.size
  -- what w0 holds, seen from w7 on: in blocks below w4's end
  have K4 := Lib.hid (H4.out.low.below (HB45.out.trans ((HB56.out.mono s45).trans (HB67.out.mono (by omega)))) (Nat.le_refl _))
  go_wp2_with fail
  refine (eqStringS_same _ _ _ _ _ _ (closL gs vs) _ _ _ H7.out hn7 (K4.out.up (by omega))).mono ?_
  rintro e w8 ⟨rfl, q8, rfl⟩
  go_wp2_with fail
  refine (toGuardS_any _ _ _ gs _ _ ((HG.out.below HB7.out).drewN _) hn2).mono ?_
  rintro e w9 ⟨A9, c9, rfl, h9, hb9⟩
  have H9 := Lib.hid h9; clear h9
  have HB79 := Lib.hid (show Below w7.heap.size w7 w9 from (below_drewN (Below.refl _ _) q8).trans hb9); clear hb9
  go_wp2_with fail
  refine (eqGuardS_same _ _ _ _ _ gs _ _ _ (((H5.out.below HB56.out).below HB67.out).below HB79.out) hn2 H9.out).mono ?_
  rintro e w10 ⟨rfl, hb10⟩
  have HB710 := Lib.hid (HB79.out.trans (hb10.mono HB79.out.size)); clear hb10
  go_wp2_with fail
  refine (toIntS_any _ _ _ vs _ _ ((HV.out.below HB7.out).below HB710.out) hm2).mono ?_
  rintro e w11 ⟨A11, c11, rfl, h11, hb11⟩
  have H11 := Lib.hid h11; clear h11
  have HB711 := Lib.hid (HB710.out.trans (hb11.mono HB710.out.size)); clear hb11
  go_wp2_with fail
  refine (eqIntS_same _ _ _ _ _ vs _ _ _ ((H6.out.below HB67.out).below HB711.out) hm2 H11.out).mono ?_
  rintro e w12 ⟨rfl, q12, rfl⟩
  have s711 := HB711.out.size
  -- the marks on the arguments
  have M5 := Lib.hid ((((H5.out.low.below (HB56.out.trans ((HB67.out.mono s56).trans (HB711.out.mono (by omega)))) (Nat.le_refl _)))).below (below_drewN (Below.refl w11.heap.size w11) q12) (by omega))
  go_wp2_with fail
  refine (markGuardS_any _ _ _ 1 gs _ _ _ M5.out hn2 (by omega) (by omega) (by show w5.heap.size ≤ w11.heap.size; omega)).mono ?_
  rintro e w13 ⟨rfl, ho13⟩
  have HO13 := Lib.hid ho13; clear ho13
  have s13 : w11.heap.size ≤ w13.heap.size := HO13.out.size
  have M6 := Lib.hid ((((H6.out.low.below (HB67.out.trans (HB711.out.mono s67)) (Nat.le_refl _)).below (below_drewN (Below.refl w11.heap.size w11) q12) (by omega)).out HO13.out (by show w6.heap.size ≤ w11.heap.size; omega) (.inr (Nat.le_refl _))))
  obtain ⟨k2, hk2⟩ : ∃ k2 : Nat, k2 = 1 + 3 * n := ⟨_, rfl⟩
  rw [← hk2]
  have hk3 : k2 ≤ 549755813888 := by omega
  have hk4 : k2 ≤ 3145730 := by omega
  clear hk2
  go_wp2_with fail
  refine (markIntS_any _ _ _ k2 vs _ _ _ M6.out hm2 hk3).mono ?_
  rintro e w14 ⟨rfl, _, ho14⟩
  obtain ⟨k5, hk5⟩ : ∃ k5 : Nat, k5 = k2 + m := ⟨_, rfl⟩
  rw [← hk5]
  have hk6 : k5 ≤ 10000000 := by omega
  clear hk5
  have HO14 := Lib.hid ho14; clear ho14
  have s14 : w13.heap.size ≤ w14.heap.size := HO14.out.size
  -- what is not marked, seen from w14 on
  have N4 := Lib.hid ((((K4.out.below HB711.out (by omega)).below (below_drewN (Below.refl w11.heap.size w11) q12) (by omega)).out HO13.out (by show w4.heap.size ≤ w11.heap.size; omega) (.inl (Nat.le_refl _))).out HO14.out (by omega) (.inl (by omega)))
  have N7 := Lib.hid ((((H7.out.low.below HB711.out (Nat.le_refl _)).below (below_drewN (Below.refl w11.heap.size w11) q12) (by omega)).out HO13.out (by show w7.heap.size ≤ w11.heap.size; omega) (.inr (by omega))).out HO14.out (by omega) (.inr (by omega)))
  have B14 := Lib.hid ((((HB7.out.trans (HB711.out.mono HB7.out.size)).trans ((below_drewN (Below.refl w11.heap.size w11) q12).mono (by have := HB7.out.size; omega))).trans ((HO13.out.below (by show w4.heap.size ≤ w11.heap.size; omega)).mono (by have := HB4.out.size; omega))).trans ((HO14.out.below (by omega)).mono (by have := HB4.out.size; omega)))
  go_wp2_with fail
  refine (eqStringS_same _ _ _ _ _ _ (closL gs vs) _ _ _ (N7.out.up (by omega)) hn7 (N4.out.up (by omega))).mono ?_
  rintro e w15 ⟨rfl, q15, rfl⟩
  go_wp2_with fail
  refine (markStringS_any _ _ _ 1 (closL gs vs) _ _ _ (N7.out.below (below_drewN (Below.refl w14.heap.size w14) q15) (by omega)) hn7 (by omega) (by omega) (by show w7.heap.size ≤ w14.heap.size; omega)).mono ?_
  rintro e w16 ⟨rfl, h16, ho16⟩
  have H16 := Lib.hid h16; clear h16
  have HO16 := Lib.hid ho16; clear ho16
  have s16 : w14.heap.size ≤ w16.heap.size := HO16.out.size
  obtain ⟨k7, hk7⟩ : ∃ k7 : Nat, k7 = 1 + n7 := ⟨_, rfl⟩
  rw [← hk7]
  have HK7 := Lib.hid hk7
  have hk8 : k7 ≤ 10000000 := by omega
  clear hk7
  have P4 := Lib.hid ((N4.out.below (below_drewN (Below.refl w14.heap.size w14) q15) (by omega)).out HO16.out (by show w4.heap.size ≤ w14.heap.size; omega) (.inl (by omega)))
  have B16 := Lib.hid ((B14.out.trans ((below_drewN (Below.refl w14.heap.size w14) q15).mono B14.out.size)).trans ((HO16.out.below (by show w6.heap.size ≤ w14.heap.size; omega)).mono HB6.out.size))
  go_wp2_with fail
  refine (heldStringS_any _ _ _ 1 _ _ (H16.out.up (by omega)) hn7 (by omega) (by omega)).mono ?_
  rintro e w17 ⟨rfl, hb17⟩
  rw [← HK7.out]
  have HB17 := Lib.hid hb17; clear hb17
  have s17 := HB17.out.size
  have B17 := Lib.hid (B16.out.trans (HB17.out.mono B16.out.size))
  go_wp2_with fail
  refine (toGuardS_any _ _ _ gs _ _ (HG.out.below B17.out) hn2).mono ?_
  rintro e w18 ⟨A18, c18, rfl, h18, hb18⟩
  have H18 := Lib.hid h18; clear h18
  have HB18 := Lib.hid hb18; clear hb18
  have B18 := Lib.hid (B17.out.trans (HB18.out.mono B17.out.size))
  go_wp2_with fail
  refine (toIntS_any _ _ _ vs _ _ (HV.out.below B18.out) hm2).mono ?_
  rintro e w19 ⟨A19, c19, rfl, h19, hb19⟩
  have H19 := Lib.hid h19; clear h19
  have HB19 := Lib.hid hb19; clear hb19
  have B19 := Lib.hid (B18.out.trans (HB19.out.mono B18.out.size))
  go_wp2_with fail
  refine (closI_any _ _ _ _ _ _ gs vs _ _ _ (H18.out.below HB19.out) HOK.out H19.out hm2).mono ?_
  rintro e w20 ⟨A20, n20, c20, rfl, h20, hb20⟩
  have H20 := Lib.hid h20; clear h20
  have HB20 := Lib.hid hb20; clear hb20
  have B20 := Lib.hid (B19.out.trans (HB20.out.mono B19.out.size))
  have s18 := HB18.out.size
  have s19 := HB19.out.size
  have s20 := HB20.out.size
  have hn20 : n20 ≤ 1048576 := by rw [← H20.out.1]; have := closL_len gs vs; have := HG.out.1; omega
  have B1620 := Lib.hid (HB17.out.trans ((HB18.out.mono s17).trans ((HB19.out.mono (by omega)).trans (HB20.out.mono (by omega)))))
  go_wp2_with fail
  refine (eqStringS_same _ _ _ _ _ _ (closL gs vs) _ _ _ H20.out hn20 ((P4.out.below B1620.out (by omega)).up (by omega))).mono ?_
  rintro e w21 ⟨rfl, q21, rfl⟩
  go_wp2_with fail
  refine (heldStringS_any _ _ _ 1 _ _ (((H16.out.below B1620.out (by omega)).below (below_drewN (Below.refl w20.heap.size w20) q21) (by omega)).up (by show w7.heap.size ≤ w20.heap.size; omega)) hn7 (by omega) (by omega)).mono ?_
  rintro e w22 ⟨rfl, hb22⟩
  rw [← HK7.out]
  have HB22 := Lib.hid hb22; clear hb22
  go_wp2_with fail
  go_ret
  exact ⟨rfl, (B20.out.trans ((below_drewN (Below.refl w20.heap.size w20) q21).mono B20.out.size)).trans (HB22.out.mono B20.out.size)⟩
end Go.Proofs.Ytnlibaoegfdoeaa
