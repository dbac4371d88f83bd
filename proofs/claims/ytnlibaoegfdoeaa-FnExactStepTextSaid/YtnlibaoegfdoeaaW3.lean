/- GuardsClosed. -/
import Derived.Test.YtnlibaoegfdoeaaW2
namespace Go.Proofs.Ytnlibaoegfdoeaa
open Go.RowKit

def closB (vs : List Int) (g : Guard) : Bool := decide (nth vs g.var.toNat < g.least)
def closTo (gs : List Guard) (vs : List Int) (k : Nat) : List Str := ((gs.take k).filter (closB vs)).map (·.name)
def closL (gs : List Guard) (vs : List Int) : List Str := if guardsB gs && varsB vs then closTo gs vs gs.length else []

theorem closTo_yes {gs : List Guard} {vs : List Int} {k : Nat} (hk : k < gs.length) (h : closB vs (nth gs k) = true) : closTo gs vs (k + 1) = closTo gs vs k ++ [(nth gs k).name] := by
  unfold closTo; rw [take_nth hk, List.filter_append, List.map_append]; simp [h]
theorem closTo_no {gs : List Guard} {vs : List Int} {k : Nat} (hk : k < gs.length) (h : closB vs (nth gs k) = false) : closTo gs vs (k + 1) = closTo gs vs k := by
  unfold closTo; rw [take_nth hk, List.filter_append, List.map_append]; simp [h]
theorem closTo_len (gs : List Guard) (vs : List Int) (k : Nat) : (closTo gs vs k).length ≤ k := by
  unfold closTo; rw [List.length_map]
  exact Nat.le_trans (List.length_filter_le _ _) (List.length_take_le _ _)
theorem closL_yes {gs : List Guard} {vs : List Int} (h : guardsB gs = true) (h' : varsB vs = true) : closL gs vs = closTo gs vs gs.length := by unfold closL; rw [h, h']; rfl
theorem closL_no {gs : List Guard} {vs : List Int} (h : guardsB gs = false ∨ varsB vs = false) : closL gs vs = [] := by
  unfold closL; rcases h with h | h <;> rw [h] <;> simp

/-- What valid arguments say of the guard at k. -/
theorem guard_in {gs : List Guard} {vs : List Int} {k : Nat} (h : guardsB gs = true) (h' : varsB vs = true) (hk : k < gs.length) : 0 ≤ (nth gs k).var ∧ (nth gs k).var ≤ 3 ∧ vs.length = 4 ∧ gs.length ≤ 8 := by
  unfold guardsB at h; unfold varsB at h'
  simp only [Bool.and_eq_true, decide_eq_true_eq] at h h'
  have h1 := allN_iff.1 h.1 k hk
  simp only [guardB, inB, Bool.and_eq_true, decide_eq_true_eq] at h1
  omega

theorem closI_any (A B : Option Addr) (n c m d : Nat) (gs : List Guard) (vs : List Int) (lo lo' : Nat) (w : World) (hr : RGuard w lo A n gs) (hok : okG gs) (hv : RInt w lo' B m vs) (hm : m ≤ 1048576) :
    Calls Try.prog 16 #[.slice A n c, .slice B m d] w fun e w' => ∃ A' n' c', e = .returned (.slice A' n' c') ∧ RStr w' w.heap.size A' n' (closL gs vs) ∧ Below w.heap.size w w' := by
  have hn : n ≤ 1048576 := by have := hok.1; rw [hr.1] at this; exact this
  have HO := Lib.hid hok; clear hok
  have HR := Lib.hid hr; clear hr
  have HV := Lib.hid hv; clear hv
  cases h1 : guardsB gs
  · go_enter Try.func16, Try.ntmps16
    go_wp2_with (go_at_call 51; refine (guardsI_any _ _ _ gs _ _ HR.out HO.out).mono ?_; rintro e w1 ⟨rfl, hb1⟩)
    go_ret
    exact ⟨_, _, _, rfl, by rw [closL_no (.inl h1)]; exact RL.nil, hb1⟩
  cases h2 : varsB vs
  · go_enter Try.func16, Try.ntmps16
    go_wp2_with (first | (go_at_call 51; refine (guardsI_any _ _ _ gs _ _ HR.out HO.out).mono ?_; rintro e w1 ⟨rfl, hb1⟩) | (go_at_call 52; refine (varsI_any _ _ _ vs _ _ (HV.out.below hb1) hm).mono ?_; rintro e w2 ⟨rfl, rfl⟩))
    go_ret
    exact ⟨_, _, _, rfl, by rw [closL_no (.inr h2)]; exact RL.nil, hb1⟩
  have HC := Lib.hid (closL_yes h1 h2)
  have HI := Lib.hid (fun k hk => guard_in (k := k) h1 h2 hk)
  go_enter Try.func16, Try.ntmps16
  go_wp2_with (first | (go_at_call 51; refine (guardsI_any _ _ _ gs _ _ HR.out HO.out).mono ?_; rintro e w1 ⟨rfl, hb1⟩) | (go_at_call 52; refine (varsI_any _ _ _ vs _ _ (HV.out.below hb1) hm).mono ?_; rintro e w2 ⟨rfl, rfl⟩))
  have HB1 := Lib.hid hb1; clear hb1
  clear h1 h2
  go_loopw [5, 18] (fun v i wr => ∃ k n' : Nat, k ≤ n ∧ i = .int .i64 k ∧ n' ≤ k ∧ Own 9 1 w wr v n' ((closTo gs vs k).map Value.string)) (fun _ i _ => n - (intOf i).toNat)
  case atStart => exact ⟨0, 0, Nat.zero_le _, rfl, Nat.le_refl _, ⟨World.ownsRow_nil _ _ _ _, HB1.out⟩⟩
  case round =>
    obtain ⟨k, n', hk, rfl, hnk, how⟩ := hrel
    have HW := Lib.hid how; clear how
    by_cases hlt : k < n
    · obtain ⟨b, off, rfl, ⟨_, hbr⟩, hc⟩ := RGuard.at_ (HR.out.below HW.out.below) hlt
      obtain ⟨⟨c1, c2, c3⟩, _⟩ := hc k hlt
      clear hc
      have HL := Lib.hid (show k < gs.length by rw [HR.out.1]; exact hlt)
      obtain ⟨hi1, hi2, hi3, hi4⟩ := HI.out k HL.out
      have hm4 : m = 4 := by rw [← HV.out.1]; exact hi3
      obtain ⟨bv, ov, rfl, ⟨_, hbv⟩, hcv⟩ := RInt.at_ (k := 0) (HV.out.below HW.out.below) (by omega)
      have hlv : (nth gs k).var.toNat < m := by omega
      obtain ⟨d1, _⟩ := hcv (nth gs k).var.toNat (by omega)
      have hlv2 : (nth gs k).var < (m : Int) := by omega
      clear hcv hi3 hm4
      by_cases ht : nth vs (nth gs k).var.toNat < (nth gs k).least
      · have ht' : decide (nth vs (nth gs k).var.toNat < (nth gs k).least) = true := by simpa using ht
        have HT := Lib.hid (closTo_yes HL.out ht')
        go_wp2_with fail
        go_quiet (fail)
        go_wp2_with (at_builtin; refine app_str w _ n' (closTo gs vs k) _ (nth gs k).name ?c0 rfl (.tmp 30) (.tmp 33) rfl rfl rfl ?c1 (by omega) ?_)
        case c0 => exact (((HW.out.alloc _).alloc _).drewN _)
        case c1 => exact heap_new (by simp)
        intro v' w' how' hg'
        go_wp2_with fail
        go_roundw
        case rel => exact ⟨k + 1, n' + 1, by omega, by go_num, by omega, by rw [HT.out, List.map_append]; exact how'⟩
        case measure => simp [intOf]; omega
      · have ht' : decide (nth vs (nth gs k).var.toNat < (nth gs k).least) = false := by simpa using ht
        have HT := Lib.hid (closTo_no HL.out ht')
        go_wp2_with fail
        go_quiet (fail)
        go_wp2_with fail
        go_roundw
        case rel => exact ⟨k + 1, n', by omega, by go_num, by omega, by rw [HT.out]; exact (HW.out.alloc _).drewN _⟩
        case measure => simp [intOf]; omega
    · go_wp2_with fail
      go_ret
      obtain ⟨A', c', rfl, hrs⟩ := own_str HW.out.row
      refine ⟨_, _, _, rfl, ?_, HW.out.below⟩
      rw [HC.out, HR.out.1, show n = k from by omega]
      exact hrs

theorem closS_any (A B : Option Addr) (n c m d : Nat) (gs : List Guard) (vs : List Int) (lo lo' : Nat) (w : World) (hr : RGuard w lo A n gs) (hok : okG gs) (hv : RInt w lo' B m vs) (hm : m ≤ 1048576) :
    Calls Try.prog 17 #[.slice A n c, .slice B m d] w fun e w' => ∃ A' n' c', e = .returned (.slice A' n' c') ∧ RStr w' w.heap.size A' n' (closL gs vs) ∧ Below w.heap.size w w' := by
  have hn : n ≤ 1048576 := by have := hok.1; rw [hr.1] at this; exact this
  have HO := Lib.hid hok; clear hok
  have HR := Lib.hid hr; clear hr
  have HV := Lib.hid hv; clear hv
  go_enter Try.func17, Try.ntmps17
  go_wp2_with fail
  go_loopw [5, 6] (fun v i wr => ∃ k n' : Nat, k ≤ n ∧ i = .int .i64 k ∧ n' ≤ k ∧ (0 < k → guardsB gs = true ∧ varsB vs = true) ∧ Own 9 1 w wr v n' ((closTo gs vs k).map Value.string)) (fun _ i _ => n - (intOf i).toNat)
  case atStart => exact ⟨0, 0, Nat.zero_le _, rfl, Nat.le_refl _, fun h => absurd h (by omega), ⟨World.ownsRow_made _ _ _ (Nat.le_refl _) (by unfold maxLen; omega) rfl, (Below.refl _ _).alloc (Nat.le_refl _) _⟩⟩
  case round =>
    obtain ⟨k, n', hk, rfl, hnk, hgv, how⟩ := hrel
    have HW := Lib.hid how; clear how
    have HGV := Lib.hid hgv; clear hgv
    by_cases hlt : k < n
    · have HL := Lib.hid (show k < gs.length by rw [HR.out.1]; exact hlt)
      cases h1 : guardsB gs
      · have HK : Hid (k = 0) := by
          rcases Nat.eq_zero_or_pos k with h | h
          · exact h
          · have := (HGV.out h).1; rw [h1] at this; cases this
        go_wp2_with (go_at_call 19; refine (guardsS_any _ _ _ gs _ _ (HR.out.below HW.out.below) HO.out).mono ?_; rintro e w1 ⟨rfl, mq, rfl⟩)
        go_ret
        obtain ⟨A', c', rfl, hrs⟩ := own_str HW.out.row
        refine ⟨_, _, _, rfl, ?_, below_drewN HW.out.below _⟩
        rw [closL_no (.inl h1)]
        have h2 : closTo gs vs k = [] := by rw [HK.out]; rfl
        rw [h2] at hrs
        exact hrs.drewN _
      cases h2 : varsB vs
      · have HK : Hid (k = 0) := by
          rcases Nat.eq_zero_or_pos k with h | h
          · exact h
          · have := (HGV.out h).2; rw [h2] at this; cases this
        go_wp2_with (first | (go_at_call 19; refine (guardsS_any _ _ _ gs _ _ (HR.out.below HW.out.below) HO.out).mono ?_; rintro e w1 ⟨rfl, mq, rfl⟩) | (go_at_call 20; refine (varsS_any _ _ _ vs _ _ ((HV.out.below HW.out.below).drewN _) hm).mono ?_; rintro e w2 ⟨rfl, rfl⟩))
        go_ret
        obtain ⟨A', c', rfl, hrs⟩ := own_str HW.out.row
        refine ⟨_, _, _, rfl, ?_, below_drewN HW.out.below _⟩
        rw [closL_no (.inr h2)]
        have h3 : closTo gs vs k = [] := by rw [HK.out]; rfl
        rw [h3] at hrs
        exact hrs.drewN _
      have HG1 := Lib.hid h1
      have HG2 := Lib.hid h2
      obtain ⟨b, off, rfl, ⟨_, hbr⟩, hc⟩ := RGuard.at_ (HR.out.below HW.out.below) hlt
      obtain ⟨⟨c1, c2, c3⟩, _⟩ := hc k hlt
      clear hc
      obtain ⟨hi1, hi2, hi3, hi4⟩ := guard_in h1 h2 HL.out
      have hm4 : m = 4 := by rw [← HV.out.1]; exact hi3
      obtain ⟨bv, ov, rfl, ⟨_, hbv⟩, hcv⟩ := RInt.at_ (k := 0) (HV.out.below HW.out.below) (by omega)
      have hlv : (nth gs k).var.toNat < m := by omega
      obtain ⟨d1, _⟩ := hcv (nth gs k).var.toNat (by omega)
      have hlv2 : (nth gs k).var < (m : Int) := by omega
      clear hcv hi3 hm4
      by_cases ht : nth vs (nth gs k).var.toNat < (nth gs k).least
      · have ht' : decide (nth vs (nth gs k).var.toNat < (nth gs k).least) = true := by simpa using ht
        have HT := Lib.hid (closTo_yes HL.out ht')
        go_wp2_with (first | (go_at_call 19; refine (guardsS_any _ _ _ gs _ _ (HR.out.below HW.out.below) HO.out).mono ?_; rintro e w1 ⟨rfl, mq, rfl⟩) | (go_at_call 20; refine (varsS_any _ _ _ vs _ _ ((HV.out.below HW.out.below).drewN _) hm).mono ?_; rintro e w2 ⟨rfl, rfl⟩))
        go_quiet (fail)
        go_wp2_with (at_builtin; refine app_str w _ n' (closTo gs vs k) _ (nth gs k).name ?c0 rfl (.tmp 36) (.tmp 42) rfl rfl rfl ?c1 (by omega) ?_)
        case c0 => exact (HW.out.alloc _).drewN _
        case c1 => exact heap_new (by simp)
        intro v' w' how' hg'
        go_wp2_with fail
        go_roundw
        case rel => exact ⟨k + 1, n' + 1, by omega, by go_num, by omega, fun _ => by first | exact ⟨HG1.out, HG2.out⟩ | exact ⟨trivial, trivial⟩, by rw [HT.out, List.map_append]; exact how'⟩
        case measure => simp [intOf]; omega
      · have ht' : decide (nth vs (nth gs k).var.toNat < (nth gs k).least) = false := by simpa using ht
        have HT := Lib.hid (closTo_no HL.out ht')
        go_wp2_with (first | (go_at_call 19; refine (guardsS_any _ _ _ gs _ _ (HR.out.below HW.out.below) HO.out).mono ?_; rintro e w1 ⟨rfl, mq, rfl⟩) | (go_at_call 20; refine (varsS_any _ _ _ vs _ _ ((HV.out.below HW.out.below).drewN _) hm).mono ?_; rintro e w2 ⟨rfl, rfl⟩))
        go_quiet (fail)
        go_wp2_with fail
        go_roundw
        case rel => exact ⟨k + 1, n', by omega, by go_num, by omega, fun _ => by first | exact ⟨HG1.out, HG2.out⟩ | exact ⟨trivial, trivial⟩, by rw [HT.out]; exact HW.out.drewN _⟩
        case measure => simp [intOf]; omega
    · go_wp2_with fail
      go_ret
      obtain ⟨A', c', rfl, hrs⟩ := own_str HW.out.row
      refine ⟨_, _, _, rfl, ?_, HW.out.below⟩
      have hnk' : k = gs.length := by have := HR.out.1; omega
      rcases Nat.eq_zero_or_pos k with h | h
      · have h1 : closL gs vs = closTo gs vs k := by
          have : gs = [] := List.eq_nil_of_length_eq_zero (by omega)
          subst this; unfold closL closTo; simp
        rw [h1]; exact hrs
      · rw [closL_yes (HGV.out h).1 (HGV.out h).2, ← hnk']; exact hrs
end Go.Proofs.Ytnlibaoegfdoeaa
