/- Counting orders: both. -/
import Derived.Test.YtfcbpgpmafmkhaaF6
import Derived.Test.YtfcbpgpmafmkhaaPure2
namespace Go.Proofs.Ytfcbpgpmafmkhaa
open Go.RowKit

set_option maxRecDepth 100000 in
theorem cloneNames_any (A : Option Addr) (n c : Nat) (xs : List Str) (lo : Nat) (w : World) (hr : RStr w lo A n xs) (hn : n ≤ 1048576) :
    Calls Try.prog 92 #[.slice A n c] w fun e w' => ∃ v, e = .returned v ∧ Own 9 1 w w' v n (xs.map Value.string) := by
  have HR := Lib.hid hr; clear hr
  go_enter Try.func92, Try.ntmps92
  go_wp2_with (at_builtin; refine apps_str w _ 0 [] lo A n c xs ?c0 HR.out rfl (.const (.slice none 0 0)) (.tmp 3) rfl rfl rfl (by omega) ?_)
  case c0 => exact ⟨World.ownsRow_nil _ _ _ _, Below.refl _ _⟩
  intro v' w' how' hg'
  go_wp2_with fail
  go_ret
  exact ⟨_, rfl, how'⟩

theorem sapp_step {w : World} {ops : Array Oper} {o : Oper} {a : Act} {K : Act → World → Prop} {Q : Exit → Act → World → Prop} {E : Prop} (w0 : World) (v : Value) (n : Nat) (cs : List Str) (b : Nat) (s : Str) (hown : Own 9 1 w0 w v n (cs.map Value.string))
    (hgd : o.guard = none) (l r : Operand) (ho : o.op = .call { callee := .builtin .append, args := #[l, r], argTypes := #[42, 42] })
    (hs : a.eval l = v) (hx : a.eval r = .slice (some ⟨b, 0, none⟩) 1 1) (hb : w.heap[b]? = some (.cells #[.string s] 9 (0, 0))) (hn : n ≤ 1048576)
    (h : ∀ v' w', Own 9 1 w0 w' v' (n + 1) ((cs ++ [s]).map Value.string) → w.grownBy w' v.ownBlock → K (a.put o.dst v') w') :
    if Region.wanted o (yielded ops a.tmps) = true then Oper.wp Try.prog o a w K Q else E := by
  have hw : Region.wanted o (yielded ops a.tmps) = true := by simp [Region.wanted, hgd]
  rw [if_pos hw]
  refine wapp 42 9 1 16 _ Try.underlying42 info_str rfl (by omega) (by omega) w0.heap.size v n _ [.string s] b hown.row l r ho hs hx hb rfl ?_ hn hown.below.size ?_
  · intro u hu; simp at hu; subst hu; rfl
  · intro v' w' h1 h2 h3
    exact h v' w' (hown.next (by rw [List.map_append]; exact h1) h2) h2

/-- The orders behind the first i that are ready. -/
def cntTo (ss : List Step) (k : Nat) (done : List Str) (i : Nat) : Nat := (((rdyL ss done).take i).map fun x => cnt ss k (done ++ [x])).sum
theorem cntTo_next {ss : List Step} {k : Nat} {done : List Str} {i : Nat} (h : i < (rdyL ss done).length) :
    cntTo ss k done (i + 1) = cntTo ss k done i + cnt ss k (done ++ [nth (rdyL ss done) i]) := by
  unfold cntTo; rw [take_nth h, List.map_append, List.sum_append]; simp
theorem cntTo_all {ss : List Step} {k : Nat} {done : List Str} : cntTo ss k done (rdyL ss done).length = cnt ss (k + 1) done := by
  unfold cntTo; rw [List.take_of_length_le (Nat.le_refl _)]; rfl

theorem cntTo_le {ss : List Step} (hn : (namesOf ss).Nodup) {k : Nat} {done : List Str} (hd : Done ss done) (hk : k + 1 + done.length = ss.length) (i : Nat) : cntTo ss k done i ≤ i * fact k := by
  unfold cntTo
  have := sum_le_mul (xs := ((rdyL ss done).take i).map fun x => cnt ss k (done ++ [x])) (m := fact k) (by
    intro y hy
    obtain ⟨x, hx, rfl⟩ := List.mem_map.1 hy
    exact cnt_le hn k _ (hd.next (List.mem_of_mem_take hx)) (by rw [List.length_append]; simp; omega))
  rw [List.length_map] at this
  exact Nat.le_trans this (Nat.mul_le_mul_right _ (List.length_take_le _ _))

theorem wrap_nat {a b : Nat} (h : a + b ≤ 1048576) : IntKind.i64.wrap ((a : Int) + (b : Int)) = ((a + b : Nat) : Int) := by
  rw [IntWalk.i64_in _ (by omega)]; omega

set_option maxRecDepth 100000 in
set_option maxHeartbeats 1000000 in
theorem orders_any (f : Flow) (hok : okSteps f.steps) (hnd : (namesOf f.steps).Nodup) (n : Nat) (hnl : f.steps.length = n) (hn : n ≤ 6) : ∀ (k : Nat) (A B : Option Addr) (c m d : Nat) (done : List Str) (lo lo' : Nat) (w : World), RStep w lo A n f.steps → RStr w lo' B m done →
    Done f.steps done → k + m = n →
    Calls Try.prog 54 #[.agg #[.int .i64 f.ver, .slice A n c], .slice B m d] w fun e w' => e = .returned (.int .i64 (cnt f.steps k done)) ∧ Below w.heap.size w w' := by
  have HO := Lib.hid hok; clear hok
  have HN := Lib.hid hnd; clear hnd
  have HL := Lib.hid hnl; clear hnl
  intro k
  induction k with
  | zero =>
    intro A B c m d done lo lo' w hr hd hD hk
    have hmn : ((m : Int) == (n : Int)) = true := by rw [beq_iff_eq]; omega
    clear hk
    go_enter Try.func54, Try.ntmps54
    go_wp2_with fail
    go_ret
    exact ⟨rfl, (Below.refl _ _).alloc (Nat.le_refl _) _⟩
  | succ k ih =>
    intro A B c m d done lo lo' w hr hd hD hk
    have HR := Lib.hid hr; clear hr
    have HD := Lib.hid hd; clear hd
    have HDN := Lib.hid hD; clear hD
    have HI := Lib.hid ih; clear ih
    have hmn : ((m : Int) == (n : Int)) = false := by rw [beq_eq_false_iff_ne]; omega
    have HK := Lib.hid hk
    have hm6 : m < 6 := by omega
    clear hk
    go_enter Try.func54, Try.ntmps54
    go_wp2_with fail
    refine (ready_any _ _ _ _ _ _ _ f.steps done _ _ _ (HR.out.alloc _) HO.out (HD.out.alloc _) (by omega)).mono ?_
    rintro e w1 ⟨A2, n2, c2, rfl, hr2, hb2⟩
    have HR2 := Lib.hid hr2; clear hr2
    have HB := Lib.hid (((Below.refl w.heap.size w).alloc (Nat.le_refl _) (.cells #[.int .i64 f.ver, .slice A n c] 29)).trans (hb2.mono (by simp)))
    have HX1 := Lib.hid (show w1.heap[w.heap.size]? = some (.cells #[.int .i64 f.ver, .slice A n c] 29 (0, 0)) from (hb2.block _ (by simp)).trans (heap_new rfl))
    clear hb2
    have HL2 := Lib.hid HR2.out.1
    have hn2 : n2 ≤ 6 := by
      have := rdyL_room HN.out HDN.out
      rw [HL2.out, HL.out] at this; omega
    have HC := Lib.hid (fun (i : Nat) (hi : i < n2) => (⟨HDN.out.next (mem_nth (by rw [HL2.out]; exact hi)), trivial⟩ : Done f.steps (done ++ [nth (rdyL f.steps done) i]) ∧ True))
    go_wp2_with fail
    go_loopw [5, 18] (fun s i wr => ∃ q : Nat, q ≤ n2 ∧ i = .int .i64 q ∧ s = .int .i64 (cntTo f.steps k done q : Nat) ∧ wr.heap[w.heap.size]? = some (.cells #[.int .i64 f.ver, .slice A n c] 29 (0, 0)) ∧ Below w1.heap.size w1 wr) (fun _ i _ => n2 - (intOf i).toNat)
    case atStart => exact ⟨0, Nat.zero_le _, rfl, rfl, HX1.out, Below.refl _ _⟩
    case round =>
      obtain ⟨q, hq, rfl, rfl, hx, hb⟩ := hrel
      have HX := Lib.hid hx; clear hx
      have HBR := Lib.hid hb; clear hb
      by_cases hlt : q < n2
      · obtain ⟨b, off, rfl, ⟨_, hbr⟩, hc⟩ := RStr.at_ (HR2.out.below HBR.out) hlt
        obtain ⟨e1, _⟩ := hc q hlt
        clear hc
        have HWR := Lib.hid (wrap_nat (a := cntTo f.steps k done q) (b := cnt f.steps k (done ++ [nth (rdyL f.steps done) q])) (by
          have h1 := cntTo_le HN.out HDN.out (k := k) (by rw [HD.out.1, HL.out]; exact HK.out) q
          have h2 := cnt_le HN.out k _ (HC.out q hlt).1 (by rw [List.length_append, HD.out.1, HL.out]; have := HK.out; simp; omega)
          have h3 : fact k ≤ fact 5 := fact_le (by have := HK.out; omega)
          have h4 : fact 5 = 120 := rfl
          have h5 : q * fact k ≤ 6 * 120 := Nat.mul_le_mul (by omega) (by omega)
          omega))
        have HKK := Lib.hid (show k + (m + 1) = n by have := HK.out; omega)
        have hwx : w.heap.size < wr.heap.size := heap_lt HX.out
        have HDR := Lib.hid (((HD.out.below HB.out)).below HBR.out)
        have HRR := Lib.hid (((HR.out.below HB.out)).below HBR.out)
        have HSB : Hid (∀ w', Below wr.heap.size wr w' →
            (w'.cell? ⟨w.heap.size, 0, none⟩ = some (.int .i64 f.ver) ∧ w'.cell? ⟨w.heap.size, 1, none⟩ = some (.slice A n c)) ∧ Below wr.heap.size wr w') := by
          intro w' hb
          have e1 := (hb.block _ hwx).trans HX.out
          exact ⟨⟨(blk_cl (k := 0) e1 rfl).1, (blk_cl (k := 1) e1 rfl).1⟩, hb⟩
        go_wp2_with fail
        go_region_held3 (fun w' => (w'.cell? ⟨w.heap.size, 0, none⟩ = some (.int .i64 f.ver) ∧ w'.cell? ⟨w.heap.size, 1, none⟩ = some (.slice A n c)) ∧ Below wr.heap.size wr w')
          (first | exact HSB.out _ (Below.refl _ _).drew | exact HSB.out _ ((Below.refl _ _).drew.alloc (Nat.le_refl _) _) | exact HSB.out _ ((Below.refl _ _).drew.trans (hbw.mono (Nat.le_refl _))) | exact HSB.out _ (((Below.refl _ _).drew.alloc (Nat.le_refl _) _).trans (hbw.mono (by simp))) | (go_split_ands; exact HSB.out _ ((show Below wr.heap.size wr _ by assumption).trans (hbw.mono (show Below wr.heap.size wr _ by assumption).size))) | (go_split_ands; exact HSB.out _ ((show Below wr.heap.size wr _ by assumption).alloc (show Below wr.heap.size wr _ by assumption).size _)))
          (first | (refine sapp_step _ _ m done (w3.heap.size) (nth (rdyL f.steps done) q) (by exact how.alloc _) (by rfl) (.tmp 25) (.tmp 27) (by rfl) (by rfl) (by rfl) (by exact heap_new rfl) (by omega) ?_; intro v' w4 how4 hg4; have hbw := how4.below; obtain ⟨A4, c4, rfl, hrs4⟩ := own_str how4.row) | (refine sapp_step _ _ m done (wr.heap.size) (nth (rdyL f.steps done) q) (by exact how) (by rfl) (.tmp 25) (.tmp 27) (by rfl) (by rfl) (by rfl) (by exact (how.below.block _ (by simp)).trans (heap_new rfl)) (by omega) ?_; intro v' w4 how4 hg4; have hbw := how4.below; obtain ⟨A4, c4, rfl, hrs4⟩ := own_str how4.row) | (go_at_call 92; refine (cloneNames_any _ _ _ done _ _ (HDR.out.below (by first | exact (Below.refl _ _).drew | exact (Below.refl _ _).drew.alloc (Nat.le_refl _) _ | (go_split_ands; assumption))) (by omega)).mono ?_; rintro e w3 ⟨v, rfl, how⟩; have hbw := how.below) | (go_at_call 54; refine (HI.out _ _ c _ c4 _ _ _ _ (HRR.out.below (by first | exact (Below.refl _ _).drew | exact (Below.refl _ _).drew.alloc (Nat.le_refl _) _ | (go_split_ands; assumption))) hrs4 (HC.out q hlt).1 HKK.out).mono ?_; rintro e w5 ⟨rfl, hbw⟩))
        all_goals rw [HWR.out]
        all_goals go_wp2_with fail
        all_goals go_roundw
        all_goals first
          | (have hbk := (show Below wr.heap.size wr w5 by (go_split_ands; assumption))
             exact ⟨q + 1, by omega, by go_num, by rw [cntTo_next (by rw [HL2.out]; exact hlt)], (hbk.block _ hwx).trans HX.out, HBR.out.trans (hbk.mono HBR.out.size)⟩)
          | (simp [intOf]; omega)
      · have HT := Lib.hid (show cntTo f.steps k done q = cnt f.steps (k + 1) done by rw [show q = (rdyL f.steps done).length by rw [HL2.out]; omega]; exact cntTo_all)
        go_wp2_with fail
        go_ret
        exact ⟨ret_i (by rw [HT.out]), HB.out.trans (HBR.out.mono HB.out.size)⟩
end Go.Proofs.Ytfcbpgpmafmkhaa
