/- Runs: validity, the program's side. -/
import Derived.Test.YtfcbpgpmafmkhaaR3
namespace Go.Proofs.Ytfcbpgpmafmkhaa
open Go.RowKit

def forthI (m n : Nat) : Int := if m = n then 2 else 0
/-- The state behind a failure. -/
def backI (ss : List Step) (done : List Str) : Nat → Int
  | 0 => 3
  | k + 1 => if (nth ss (plc ss (nth done k))).undo = true then 1 else 3

theorem forth_any (A B : Option Addr) (n c m d : Nat) (ver : Int) (w : World) :
    Calls Try.prog 98 #[.agg #[.int .i64 ver, .slice A n c], .slice B m d] w fun e w' => e = .returned (.int .i64 (forthI m n)) ∧ Below w.heap.size w w' := by
  by_cases h : m = n
  · have hq : ((m : Int) == (n : Int)) = true := by rw [beq_iff_eq]; omega
    have HE := Lib.hid (show forthI m n = 2 by unfold forthI; rw [if_pos h])
    clear h
    go_enter Try.func98, Try.ntmps98
    go_wp2_with fail
    go_ret
    exact ⟨ret_i HE.out.symm, (Below.refl _ _).alloc (Nat.le_refl _) _⟩
  · have hq : ((m : Int) == (n : Int)) = false := by rw [beq_eq_false_iff_ne]; omega
    have HE := Lib.hid (show forthI m n = 0 by unfold forthI; rw [if_neg h])
    clear h
    go_enter Try.func98, Try.ntmps98
    go_wp2_with fail
    go_ret
    exact ⟨ret_i HE.out.symm, (Below.refl _ _).alloc (Nat.le_refl _) _⟩

set_option maxRecDepth 100000 in
theorem back_any (A B : Option Addr) (n c m d : Nat) (ver : Int) (ss : List Step) (done : List Str) (lo lo' : Nat) (w : World) (hr : RStep w lo A n ss) (hn : n ≤ 1048576) (hd : RStr w lo' B m done) (hm : m ≤ 1048576) (hall : ∀ j, j < m → hasB (namesOf ss) (nth done j) = true) :
    Calls Try.prog 99 #[.agg #[.int .i64 ver, .slice A n c], .slice B m d] w fun e w' => e = .returned (.int .i64 (backI ss done m)) ∧ Below w.heap.size w w' := by
  have HR := Lib.hid (hr.alloc (.cells #[.int .i64 ver, .slice A n c] 29)); clear hr
  have HD := Lib.hid (hd.alloc (.cells #[.int .i64 ver, .slice A n c] 29)); clear hd
  have HX := Lib.hid (heap_new (w := w) (o := .cells #[.int .i64 ver, .slice A n c] 29) rfl)
  have HB := Lib.hid ((Below.refl w.heap.size w).alloc (Nat.le_refl _) (.cells #[.int .i64 ver, .slice A n c] 29))
  go_enter Try.func99, Try.ntmps99
  go_wp2_with fail
  generalize w.alloc (.cells #[.int .i64 ver, .slice A n c] 29) = wk at *
  have X0 : ∀ x : Bl wk, x.to.cell? ⟨w.heap.size, 0, none⟩ = some (.int .i64 ver) := fun x => (blk_cl (k := 0) ((x.below.block _ (heap_lt HX.out)).trans HX.out) rfl).1
  have X1 : ∀ x : Bl wk, x.to.cell? ⟨w.heap.size, 1, none⟩ = some (.slice A n c) := fun x => (blk_cl (k := 1) ((x.below.block _ (heap_lt HX.out)).trans HX.out) rfl).1
  cases m with
  | zero =>
    refine region_bl (by kernel_rfl) (by kernel_rfl) ?_
    repeat (go_big_quiet_step (fail))
    refine wpQuiet_nil ?_
    intro _ hw'
    obtain ⟨x, rfl⟩ := hw'
    have HB2 := Lib.hid (HB.out.trans (x.below.mono HB.out.size))
    go_wp2_with fail
    go_ret
    exact ⟨rfl, HB2.out⟩
  | succ k =>
    have HA := Lib.hid hall; clear hall
    have hlt : k < k + 1 := Nat.lt_succ_self k
    obtain ⟨b, off, rfl, ⟨_, hbl⟩, hc⟩ := RStr.at_ HD.out hlt
    have x1' := (hc k hlt).1
    have x1 : ∀ x : Bl wk, x.to.cell? ⟨b, off + k, none⟩ = some (.string (nth done k)) := fun x => (x.below.cell (p := ⟨b, off + k, none⟩) hbl).trans x1'
    clear hc x1'
    obtain ⟨hpl, hidx, _⟩ := plc_ex (HA.out k hlt)
    have HLF := Lib.hid (show backI ss done (k + 1) = if (nth ss (plc ss (nth done k))).undo = true then 1 else 3 from rfl)
    have HAT := Lib.hid (fun x : Bl wk => at_any A n c ver ss (nth done k) _ x.to (HR.out.below x.below) hn)
    rw [hidx] at HAT
    generalize plc ss (nth done k) = p at *
    have hpn : p < n := by rw [← HR.out.1]; exact hpl
    obtain ⟨b1, off1, rfl, ⟨_, hbr⟩, hc⟩ := RStep.at_ HR.out hpn
    obtain ⟨A', n', c', ⟨y1', y2', y3'⟩, _, _⟩ := hc p hpn
    have y3 : ∀ x : Bl wk, x.to.cell? ⟨b1, off1 + p * 3 + 2, none⟩ = some (.bool (nth ss p).undo) := fun x => (x.below.cell (p := ⟨b1, off1 + p * 3 + 2, none⟩) hbr).trans y3'
    clear hc hpl y1' y2' y3'
    have hk0 : decide ((0 : Int) < ((k + 1 : Nat) : Int)) = true := by rw [decide_eq_true_iff]; omega
    have hk1 : decide ((0 : Int) < (k : Int) + 1) = true := by rw [decide_eq_true_iff]; omega
    cases hu : (nth ss p).undo
    all_goals
      rw [hu] at y3 HLF
      clear hu
      refine region_bl (by kernel_rfl) (by kernel_rfl) ?_
      repeat (go_big_quiet_step ((go_at_call 115; exact q_bl (HAT.out _))))
      refine wpQuiet_nil ?_
      intro _ hw'
      obtain ⟨x, rfl⟩ := hw'
      have HB2 := Lib.hid (HB.out.trans (x.below.mono HB.out.size))
      clear X0 X1 x1 y3
      go_wp2_with fail
      go_ret
      exact ⟨ret_i (by rw [HLF.out]; simp), HB2.out⟩
end Go.Proofs.Ytfcbpgpmafmkhaa
