/- Runs: validity, the reference's side. -/
import Derived.Test.YtfcbpgpmafmkhaaR1
namespace Go.Proofs.Ytfcbpgpmafmkhaa
open Go.RowKit

/-- How many of the first k stay if all are undone from the end. -/
def leftN (ss : List Step) (done : List Str) : Nat → Nat
  | 0 => 0
  | k + 1 => if (nth ss (plc ss (nth done k))).undo = true then leftN ss done k else k + 1
theorem leftN_le (ss : List Step) (done : List Str) : ∀ k, leftN ss done k ≤ k
  | 0 => Nat.le_refl _
  | k + 1 => by
    unfold leftN
    split
    · exact Nat.le_succ_of_le (leftN_le ss done k)
    · exact Nat.le_refl _

set_option maxRecDepth 100000 in
theorem l3Left_any (A B : Option Addr) (n c m d : Nat) (ss : List Step) (done : List Str) (lo lo' : Nat) (w : World) (hr : RStep w lo A n ss) (hn : n ≤ 1048576) (hd : RStr w lo' B m done) (hm : m ≤ 1048576) (hall : ∀ j, j < m → hasB (namesOf ss) (nth done j) = true) :
    Calls Try.prog 101 #[.slice A n c, .slice B m d] w fun e w' => e = .returned (.int .i64 (leftN ss done m : Nat)) ∧ w = w' := by
  have HR := Lib.hid hr; clear hr
  have HD := Lib.hid hd; clear hd
  have HA := Lib.hid hall; clear hall
  go_enter Try.func101, Try.ntmps101
  go_wp2_with fail
  go_loop [5] (fun i => ∃ k : Nat, k ≤ m ∧ i = .int .i64 k ∧ leftN ss done k = leftN ss done m) (fun i => (intOf i).toNat)
  case atStart => exact ⟨m, Nat.le_refl _, rfl, rfl⟩
  case round =>
    obtain ⟨k, hk, rfl, hp⟩ := hrel
    have HP := Lib.hid hp; clear hp
    cases k with
    | zero =>
      go_wp2_with fail
      go_ret
      exact ⟨ret_i (by rw [← HP.out]; rfl), rfl⟩
    | succ k =>
      have hlt : k < m := hk
      obtain ⟨b, off, rfl, _, hc⟩ := RStr.at_ HD.out hlt
      have x1 := (hc k hlt).1
      clear hc
      obtain ⟨hpl, hidx, _⟩ := plc_ex (HA.out k hlt)
      have HLF := Lib.hid (show leftN ss done (k + 1) = if (nth ss (plc ss (nth done k))).undo = true then leftN ss done k else k + 1 from rfl)
      generalize plc ss (nth done k) = p at *
      have hpn : p < n := by rw [← HR.out.1]; exact hpl
      obtain ⟨b1, off1, rfl, ⟨_, hbr⟩, hc⟩ := RStep.at_ HR.out hpn
      obtain ⟨A', n', c', ⟨y1, y2, y3⟩, _, _⟩ := hc p hpn
      clear hc hpl
      have hk0 : decide ((0 : Int) < ((k + 1 : Nat) : Int)) = true := by rw [decide_eq_true_iff]; omega
      have hk1 : decide ((0 : Int) < (k : Int) + 1) = true := by rw [decide_eq_true_iff]; omega
      cases hu : (nth ss p).undo
      · rw [hu] at y3 HLF
        clear hu
        go_wp2_with (go_at_call 82; refine (l2At_any _ _ c ss (nth done k) _ _ HR.out hn).mono ?_; rintro e w' ⟨rfl, rfl⟩; rw [hidx])
        go_ret
        exact ⟨ret_i (by rw [← HP.out, HLF.out]; simp), rfl⟩
      · rw [hu] at y3 HLF
        clear hu
        go_wp2_with (go_at_call 82; refine (l2At_any _ _ c ss (nth done k) _ _ HR.out hn).mono ?_; rintro e w' ⟨rfl, rfl⟩; rw [hidx])
        go_round
        case rel => exact ⟨k, by omega, by go_num, by rw [← HP.out, HLF.out]; simp⟩
        case measure => simp [intOf]

/-- A run of a flow. -/
def runB (f : Flow) (st : Int) (done : List Str) : Bool :=
  flowB f && (ordB f.steps done && (if st = 0 then decide (done.length < f.steps.length) else if st = 2 then decide (done.length = f.steps.length)
    else if st = 1 then decide (done.length < f.steps.length) && decide (leftN f.steps done done.length < done.length)
    else if st = 3 then decide (done.length < f.steps.length) && decide (leftN f.steps done done.length = done.length) else false))
theorem ord_all {ss : List Step} {done : List Str} (h : ordB ss done = true) : ∀ j, j < done.length → hasB (namesOf ss) (nth done j) = true := fun j hj => by
  have := allN_iff.1 h j hj
  unfold ordAt at this
  simp only [Bool.and_eq_true] at this
  exact this.1.1

set_option maxRecDepth 100000 in
set_option maxHeartbeats 1000000 in
theorem runS_any (A B : Option Addr) (n c m d : Nat) (f : Flow) (st : Int) (done : List Str) (lo lo' : Nat) (w : World) (hr : RStep w lo A n f.steps) (hok : okSteps f.steps) (hd : RStr w lo' B m done) (hm : m ≤ 1048576) (hmd : m ≤ d) :
    Calls Try.prog 65 #[.agg #[.int .i64 f.ver, .slice A n c], .agg #[.int .i64 st, .slice B m d]] w fun e w' => e = .returned (.bool (runB f st done)) ∧ Below w.heap.size w w' := by
  have hn : n ≤ 1048576 := by have := hok.1; rw [hr.1] at this; exact this
  have HO := Lib.hid hok; clear hok
  have HX0 := Lib.hid (heap_old (o := .cells #[.int .i64 st, .slice B m d] 44) (heap_new (w := w) (o := .cells #[.int .i64 f.ver, .slice A n c] 29) rfl))
  have HY0 := Lib.hid (heap_new (w := w.alloc (.cells #[.int .i64 f.ver, .slice A n c] 29)) (b := w.heap.size + 1) (o := .cells #[.int .i64 st, .slice B m d] 44) (by simp))
  have HB0 := Lib.hid (((Below.refl w.heap.size w).alloc (Nat.le_refl _) (.cells #[.int .i64 f.ver, .slice A n c] 29)).alloc (by simp) (.cells #[.int .i64 st, .slice B m d] 44))
  have HR := Lib.hid ((hr.alloc (.cells #[.int .i64 f.ver, .slice A n c] 29)).alloc (.cells #[.int .i64 st, .slice B m d] 44)); clear hr
  have HD := Lib.hid ((hd.alloc (.cells #[.int .i64 f.ver, .slice A n c] 29)).alloc (.cells #[.int .i64 st, .slice B m d] 44)); clear hd
  have HLn := Lib.hid (show f.steps.length = n from HR.out.1)
  have HLm := Lib.hid (show done.length = m from HD.out.1)
  go_enter Try.func65, Try.ntmps65
  go_wp2_with fail
  refine (flowS_any _ _ _ f _ _ HR.out HO.out).mono ?_
  rintro e w1 ⟨rfl, hb⟩
  have HX1 := Lib.hid ((hb.block _ (heap_lt HX0.out)).trans HX0.out)
  have HY1 := Lib.hid ((hb.block _ (heap_lt HY0.out)).trans HY0.out)
  have HB1 := Lib.hid (HB0.out.trans (hb.mono HB0.out.size))
  have HR1 := Lib.hid (HR.out.below hb)
  have HD1 := Lib.hid (HD.out.below hb)
  clear hb HX0 HY0 HR HD
  have a1 := (blk_cl (k := 1) HX1.out rfl).1
  have r0 := (blk_cl (k := 0) HY1.out rfl).1
  have r1 := (blk_cl (k := 1) HY1.out rfl).1
  cases hf : flowB f
  · have HE : Hid (runB f st done = false) := by show _ = _; unfold runB; rw [hf]; rfl
    clear hf
    go_wp2_with fail
    go_ret
    exact ⟨ret_b HE.out.symm, HB1.out⟩
  have HF := Lib.hid hf; clear hf
  go_wp2_with fail
  refine (l3Order_any _ _ _ _ _ _ f.steps done _ _ _ HR1.out HO.out HD1.out hm hmd).mono ?_
  rintro e w2 ⟨rfl, q, rfl⟩
  cases ho : ordB f.steps done
  · have HE : Hid (runB f st done = false) := by show _ = _; unfold runB; rw [HF.out, ho]; rfl
    clear ho
    go_wp2_with fail
    go_ret
    exact ⟨ret_b HE.out.symm, below_drewN HB1.out _⟩
  have HOR := Lib.hid ho; clear ho
  have HE := Lib.hid (show runB f st done = (if st = 0 then decide (m < n) else if st = 2 then decide (m = n) else if st = 1 then decide (m < n) && decide (leftN f.steps done m < m) else if st = 3 then decide (m < n) && decide (leftN f.steps done m = m) else false) by
    unfold runB; rw [HF.out, HOR.out, HLn.out, HLm.out]; rfl)
  have HLE := leftN_le f.steps done m
  have HLEFT := Lib.hid (fun z => l3Left_any _ _ n c m d f.steps done _ _ _ (HR1.out.drewN z) hn (HD1.out.drewN z) hm (fun j hj => ord_all HOR.out j (by rw [HLm.out]; exact hj)))
  have e1 : decide ((m : Int) < (n : Int)) = decide (m < n) := by rw [decide_eq_decide]; omega
  have e2 : ((m : Int) == (n : Int)) = decide (m = n) := by rw [Bool.eq_iff_iff, beq_iff_eq, decide_eq_true_iff]; omega
  by_cases h0 : st = 0
  · subst h0
    go_wp2_with fail
    go_ret
    exact ⟨ret_b (by rw [HE.out]; simp), below_drewN HB1.out _⟩
  have h0' : (st == 0) = false := by rw [beq_eq_false_iff_ne]; exact h0
  by_cases h2 : st = 2
  · subst h2
    go_wp2_with fail
    go_ret
    exact ⟨ret_b (by rw [HE.out]; simp [← e2]), below_drewN HB1.out _⟩
  have h2' : (st == 2) = false := by rw [beq_eq_false_iff_ne]; exact h2
  generalize leftN f.steps done m = l at *
  have e4 : ((l : Int) == (m : Int)) = decide (l = m) := by rw [Bool.eq_iff_iff, beq_iff_eq, decide_eq_true_iff]; omega
  by_cases h1 : st = 1
  · subst h1
    by_cases hmn : m < n
    · have e3 : decide ((m : Int) < (n : Int)) = true := by rw [decide_eq_true_iff]; omega
      go_wp2_with fail
      go_quiet ((go_at_call 101; exact q_same2 (HLEFT.out _)))
      go_wp2_with fail
      go_ret
      exact ⟨ret_b (by rw [HE.out]; simp [hmn]), by rw [World.drewN_drewN]; exact below_drewN HB1.out _⟩
    · have e3 : decide ((m : Int) < (n : Int)) = false := by rw [decide_eq_false_iff_not]; omega
      go_wp2_with fail
      go_quiet (fail)
      go_wp2_with fail
      go_ret
      exact ⟨ret_b (by rw [HE.out]; simp [hmn]), by rw [World.drewN_drewN]; exact below_drewN HB1.out _⟩
  have h1' : (st == 1) = false := by rw [beq_eq_false_iff_ne]; exact h1
  by_cases h3 : st = 3
  · subst h3
    by_cases hmn : m < n
    · have e3 : decide ((m : Int) < (n : Int)) = true := by rw [decide_eq_true_iff]; omega
      go_wp2_with fail
      go_quiet ((go_at_call 101; exact q_same2 (HLEFT.out _)))
      go_wp2_with fail
      go_ret
      exact ⟨ret_b (by rw [HE.out]; simp [hmn]), by rw [World.drewN_drewN]; exact below_drewN HB1.out _⟩
    · have e3 : decide ((m : Int) < (n : Int)) = false := by rw [decide_eq_false_iff_not]; omega
      go_wp2_with fail
      go_quiet (fail)
      go_wp2_with fail
      go_ret
      exact ⟨ret_b (by rw [HE.out]; simp [hmn]), by rw [World.drewN_drewN]; exact below_drewN HB1.out _⟩
  have h3' : (st == 3) = false := by rw [beq_eq_false_iff_ne]; exact h3
  go_wp2_with fail
  go_ret
  exact ⟨ret_b (by rw [HE.out, if_neg h0, if_neg h2, if_neg h1, if_neg h3]), below_drewN HB1.out _⟩
end Go.Proofs.Ytfcbpgpmafmkhaa
