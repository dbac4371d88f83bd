/- Runs: the order of what is done, the reference's side. -/
import Derived.Test.YtfcbpgpmafmkhaaF6
namespace Go.Proofs.Ytfcbpgpmafmkhaa
open Go.RowKit

theorem idx_ex {xs : List Str} {s : Str} (h : s ∈ xs) : ∃ p : Nat, p < xs.length ∧ idxI xs s = p ∧ nth xs p = s ∧ ∀ j, j < p → nth xs j ≠ s := by
  obtain ⟨k, hk, he⟩ := nth_of_mem h
  induction k using Nat.strongRecOn with
  | _ k ih =>
    by_cases hx : ∃ j, j < k ∧ nth xs j = s
    · obtain ⟨j, hj, hjs⟩ := hx
      exact ih j hj (by omega) hjs
    · exact ⟨k, hk, idxI_at (fun j hj e => hx ⟨j, hj, e⟩) hk he, he, fun j hj e => hx ⟨j, hj, e⟩⟩
/-- A step's place. -/
def plc (ss : List Step) (x : Str) : Nat := (idxI (namesOf ss) x).toNat
theorem plc_ex {ss : List Step} {x : Str} (h : hasB (namesOf ss) x = true) : plc ss x < ss.length ∧ idxI (namesOf ss) x = (plc ss x : Int) ∧ (nth ss (plc ss x)).name = x := by
  obtain ⟨p, h1, h2, h3, _⟩ := idx_ex (hasB_true.1 h)
  have e : plc ss x = p := by unfold plc; rw [h2]; rfl
  rw [namesOf_len] at h1
  rw [namesOf_at h1] at h3
  rw [e]
  exact ⟨h1, h2, h3⟩
/-- What is done as number i could be done then. -/
def ordAt (ss : List Step) (done : List Str) (i : Nat) : Bool := hasB (namesOf ss) (nth done i) && !hasB (done.take i) (nth done i) && haveB (done.take i) (nth ss (plc ss (nth done i))).after
def ordB (ss : List Step) (done : List Str) : Bool := allN done.length (ordAt ss done)
theorem first_at {done : List Str} {k : Nat} (hk : k < done.length) : (hasB (done.take k) (nth done k) = true ∧ ∃ q : Nat, q < k ∧ idxI done (nth done k) = q) ∨ (hasB (done.take k) (nth done k) = false ∧ idxI done (nth done k) = k) := by
  obtain ⟨p, h1, h2, h3, h4⟩ := idx_ex (mem_nth hk)
  have hpk : p ≤ k := by
    rcases Nat.lt_or_ge k p with h | h
    · exact absurd rfl (h4 k h)
    · exact h
  have e : ∀ j, j < k → nth (done.take k) j = nth done j := fun j hj => by
    rw [nth_eq (by rw [List.length_take]; omega), nth_eq (by omega), List.getElem_take]
  rcases Nat.lt_or_eq_of_le hpk with h | h
  · refine .inl ⟨hasB_true.2 ?_, p, h, h2⟩
    rw [← h3, ← e p h]
    exact mem_nth (by rw [List.length_take]; omega)
  · subst h
    refine .inr ⟨hasB_false.2 fun hm => ?_, h2⟩
    obtain ⟨j, hj, hje⟩ := nth_of_mem hm
    rw [List.length_take] at hj
    rw [e j (by omega)] at hje
    exact h4 j (by omega) hje

set_option maxRecDepth 100000 in
set_option maxHeartbeats 1000000 in
theorem l3Order_any (A B : Option Addr) (n c m d : Nat) (ss : List Step) (done : List Str) (lo lo' : Nat) (w : World) (hr : RStep w lo A n ss) (hok : okSteps ss) (hd : RStr w lo' B m done) (hm : m ≤ 1048576) (hmd : m ≤ d) :
    Calls Try.prog 100 #[.slice A n c, .slice B m d] w fun e w' => e = .returned (.bool (ordB ss done)) ∧ ∃ q, w' = w.drewN q := by
  have hn : n ≤ 1048576 := by have := hok.1; rw [hr.1] at this; exact this
  have HO := Lib.hid hok; clear hok
  have HR := Lib.hid hr; clear hr
  have HD := Lib.hid hd; clear hd
  have HL := Lib.hid HD.out.1
  go_enter Try.func100, Try.ntmps100
  go_wp2_with fail
  go_loopw [5] (fun i wr => ∃ k q : Nat, k ≤ m ∧ i = .int .i64 k ∧ wr = w.drewN q ∧ ∀ j, j < k → ordAt ss done j = true) (fun i _ => m - (intOf i).toNat)
  case atStart => exact ⟨0, 0, Nat.zero_le _, rfl, rfl, fa_zero⟩
  case round =>
    obtain ⟨k, q, hk, rfl, rfl, hp⟩ := hrel
    have HP := Lib.hid hp; clear hp
    by_cases hlt : k < m
    · obtain ⟨b, off, rfl, _, hc⟩ := RStr.at_ HD.out hlt
      have x1 := (hc k hlt).1
      clear hc
      have hkl : k < done.length := by rw [HL.out]; exact hlt
      have HAT := Lib.hid (fun z => l2At_any A n c ss (nth done k) _ _ (HR.out.drewN z) hn)
      cases h1 : hasB (namesOf ss) (nth done k)
      · have h9 := idx_neg h1
        have h10 : decide (idxI (namesOf ss) (nth done k) < 0) = true := by rw [decide_eq_true_iff]; exact h9
        have HB : Hid (ordB ss done = false) := allN_false hkl (by unfold ordAt; rw [h1]; rfl)
        clear h1
        go_wp2_with (go_at_call 82; refine (HAT.out _).mono ?_; rintro e w' ⟨rfl, rfl⟩)
        go_quiet (fail)
        go_wp2_with fail
        go_ret
        exact ⟨ret_b HB.out.symm, _, World.drewN_drewN _ _ _⟩
      · obtain ⟨hpl, hidx, hnm⟩ := plc_ex h1
        have HPA := Lib.hid (show ordAt ss done k = (!hasB (done.take k) (nth done k) && haveB (done.take k) (nth ss (plc ss (nth done k))).after) by unfold ordAt; rw [h1]; rfl)
        have HS := Lib.hid (HO.out.2 _ hpl).2
        clear h1 hnm
        generalize plc ss (nth done k) = p at *
        have hpn : p < n := by rw [← HR.out.1]; exact hpl
        have hp0 : decide ((p : Int) < 0) = false := by rw [decide_eq_false_iff_not]; omega
        have hkk : decide ((k : Int) < (k : Int)) = false := by rw [decide_eq_false_iff_not]; omega
        obtain ⟨b1, off1, rfl, ⟨_, hbr⟩, hc⟩ := RStep.at_ HR.out hpn
        obtain ⟨A', n', c', ⟨y1, y2, y3⟩, ha, _⟩ := hc p hpn
        clear hc hpl
        have hn' : n' ≤ 1048576 := by have := HS.out.1; rw [ha.1] at this; exact this
        have H1 := Lib.hid (fun z => l1At_any _ _ d done (nth done k) _ _ (HD.out.drewN z) hm)
        have H2 := Lib.hid (fun z => l1Have_any _ _ _ d _ c' (done.take k) (nth ss p).after _ _ _ ((HD.out.drewN z).take hk) (by omega) (ha.drewN z) hn')
        clear ha
        rcases first_at hkl with ⟨hf, j, hj, hj2⟩ | ⟨hf, hj2⟩
        · have HB : Hid (ordB ss done = false) := allN_false hkl (by rw [HPA.out, hf]; rfl)
          clear hf
          have hjk : decide ((j : Int) < (k : Int)) = true := by rw [decide_eq_true_iff]; omega
          go_wp2_with (go_at_call 82; refine (HAT.out _).mono ?_; rintro e w' ⟨rfl, rfl⟩; rw [hidx])
          rw [hj2] at H1
          go_quiet ((go_at_call 69; exact q_same2 (H1.out _)))
          go_wp2_with fail
          go_ret
          exact ⟨ret_b HB.out.symm, _, World.drewN_drewN _ _ _⟩
        · rw [hf] at HPA
          clear hf
          rw [hj2] at H1
          cases hh : haveB (done.take k) (nth ss p).after
          · rw [hh] at H2
            have HB : Hid (ordB ss done = false) := allN_false hkl (by rw [HPA.out, hh]; rfl)
            clear hh
            go_wp2_with (go_at_call 82; refine (HAT.out _).mono ?_; rintro e w' ⟨rfl, rfl⟩; rw [hidx])
            go_quiet ((first | (go_at_call 69; exact q_same2 (H1.out _)) | (go_at_call 85; exact q_same2 (H2.out _))))
            go_wp2_with fail
            go_ret
            exact ⟨ret_b HB.out.symm, _, World.drewN_drewN _ _ _⟩
          · rw [hh] at H2
            have HB : Hid (ordAt ss done k = true) := by rw [HPA.out, hh]; rfl
            clear hh
            go_wp2_with (go_at_call 82; refine (HAT.out _).mono ?_; rintro e w' ⟨rfl, rfl⟩; rw [hidx])
            go_quiet ((first | (go_at_call 69; exact q_same2 (H1.out _)) | (go_at_call 85; exact q_same2 (H2.out _))))
            go_wp2_with fail
            go_roundw
            case rel => exact ⟨k + 1, _, by omega, by go_num, rfl, fa_succ HP.out HB.out⟩
            case measure => simp [intOf]; omega
    · obtain rfl : k = m := by omega
      go_wp2_with fail
      go_ret
      exact ⟨ret_b (allN_true (fun j hj => HP.out j (by rw [HL.out] at hj; omega))).symm, _, rfl⟩
end Go.Proofs.Ytfcbpgpmafmkhaa
