/- Flows: names, ready, order. -/
import Derived.Test.YtfcbpgpmafmkhaaF2
namespace Go.Proofs.Ytfcbpgpmafmkhaa
open Go.RowKit

set_option maxRecDepth 100000 in
theorem names_any (A : Option Addr) (n c : Nat) (ver : Int) (ss : List Step) (lo : Nat) (w : World) (hr : RStep w lo A n ss) (hn : n ≤ 1048576) :
    Calls Try.prog 67 #[.agg #[.int .i64 ver, .slice A n c]] w fun e w' => ∃ A' c', e = .returned (.slice A' n c') ∧ RStr w' w.heap.size A' n (namesOf ss) ∧ Below w.heap.size w w' := by
  have HR := Lib.hid hr; clear hr
  go_enter Try.func67, Try.ntmps67
  go_wp2_with fail
  go_loopw [3, 9] (fun v i wr => ∃ k : Nat, k ≤ n ∧ i = .int .i64 k ∧ Own 9 1 w wr v k (((namesOf ss).take k).map Value.string)) (fun _ i _ => n - (intOf i).toNat)
  case atStart => exact ⟨0, Nat.zero_le _, rfl, ⟨World.ownsRow_nil _ _ _ _, (Below.refl _ _).alloc (Nat.le_refl _) _⟩⟩
  case round =>
    obtain ⟨k, hk, rfl, how⟩ := hrel
    have HW := Lib.hid how; clear how
    by_cases hlt : k < n
    · obtain ⟨b, off, rfl, ⟨_, hbr⟩, hc⟩ := RStep.at_ (HR.out.below HW.out.below) hlt
      obtain ⟨A', n', c', ⟨c1, c2, c3⟩, _⟩ := hc k hlt
      clear hc
      have HL := Lib.hid (show k < ss.length by rw [HR.out.1]; exact hlt)
      have HT := Lib.hid (show (namesOf ss).take (k + 1) = (namesOf ss).take k ++ [(nth ss k).name] by rw [take_nth (by rw [namesOf_len]; exact HL.out), namesOf_at HL.out])
      go_wp2_with (at_builtin; refine app_str w _ k ((namesOf ss).take k) _ (nth ss k).name ?c0 rfl (.tmp 13) (.tmp 16) rfl rfl rfl ?c1 (by omega) ?_)
      case c0 => exact (HW.out.alloc _).alloc _
      case c1 => exact heap_new (by simp)
      intro v' w' how' hg'
      go_wp2_with fail
      go_roundw
      case rel => exact ⟨k + 1, by omega, by go_num, by rw [HT.out, List.map_append, List.map_take]; exact how'⟩
      case measure => simp [intOf]; omega
    · go_wp2_with fail
      go_ret
      obtain ⟨A', c', rfl, hrs⟩ := own_str HW.out.row
      have hk2 : k = n := by omega
      subst hk2
      rw [List.take_of_length_le (by rw [namesOf_len, HR.out.1]; omega)] at hrs
      exact ⟨_, _, rfl, hrs, HW.out.below⟩

set_option maxRecDepth 100000 in
theorem ready_any (A B : Option Addr) (n c m d : Nat) (ver : Int) (ss : List Step) (done : List Str) (lo lo' : Nat) (w : World) (hr : RStep w lo A n ss) (hok : okSteps ss) (hd : RStr w lo' B m done) (hm : m ≤ 1048576) :
    Calls Try.prog 91 #[.agg #[.int .i64 ver, .slice A n c], .slice B m d] w fun e w' => ∃ A' n' c', e = .returned (.slice A' n' c') ∧ RStr w' w.heap.size A' n' (rdyL ss done) ∧ Below w.heap.size w w' := by
  have hn : n ≤ 1048576 := by have := hok.1; rw [hr.1] at this; exact this
  have HO := Lib.hid hok; clear hok
  have HR := Lib.hid hr; clear hr
  have HD := Lib.hid hd; clear hd
  go_enter Try.func91, Try.ntmps91
  go_wp2_with fail
  go_loopw [5, 11] (fun v i wr => ∃ k q : Nat, k ≤ n ∧ i = .int .i64 k ∧ q ≤ k ∧ Own 9 1 w wr v q ((rdyTo ss done k).map Value.string)) (fun _ i _ => n - (intOf i).toNat)
  case atStart => exact ⟨0, 0, Nat.zero_le _, rfl, Nat.le_refl _, ⟨World.ownsRow_nil _ _ _ _, (Below.refl _ _).alloc (Nat.le_refl _) _⟩⟩
  case round =>
    obtain ⟨k, q, hk, rfl, hq, how⟩ := hrel
    have HW := Lib.hid how; clear how
    by_cases hlt : k < n
    · obtain ⟨b, off, rfl, ⟨_, hbr⟩, hc⟩ := RStep.at_ (HR.out.below HW.out.below) hlt
      obtain ⟨A', n', c', ⟨c1, c2, c3⟩, ha, _⟩ := hc k hlt
      clear hc
      have HL := Lib.hid (show k < ss.length by rw [HR.out.1]; exact hlt)
      have hn' : n' ≤ 1048576 := by have := (HO.out.2 k HL.out).2.1; rw [ha.1] at this; exact this
      have HA := Lib.hid (ha.alloc (.cells #[.string (nth ss k).name, .slice A' n' c', .bool (nth ss k).undo] 50)); clear ha
      have HDW := Lib.hid ((HD.out.below HW.out.below).alloc (.cells #[.string (nth ss k).name, .slice A' n' c', .bool (nth ss k).undo] 50))
      rcases rdyB_ways done (nth ss k) with ⟨h1, h2⟩ | ⟨h1, h2⟩
      · have HT := Lib.hid (rdyTo_no HL.out h2); clear h2
        go_wp2_with (go_at_call 97; refine (contains_any _ _ _ done _ _ _ HDW.out hm).mono ?_; rintro e w' ⟨rfl, rfl⟩)
        go_roundw
        case rel => exact ⟨k + 1, q, by omega, by go_num, by omega, by rw [HT.out]; exact HW.out.alloc _⟩
        case measure => simp [intOf]; omega
      · have H2 := Lib.hid h2; clear h2
        cases h4 : haveB done (nth ss k).after
        · have HT := Lib.hid (rdyTo_no HL.out (H2.out.symm.trans h4))
          go_wp2_with (first | (go_at_call 97; refine (contains_any _ _ _ done _ _ _ HDW.out hm).mono ?_; rintro e w' ⟨rfl, rfl⟩) | (go_at_call 89; refine (namesHave_any _ _ _ _ _ _ done _ _ _ _ HDW.out hm HA.out hn').mono ?_; rintro e w' ⟨rfl, rfl⟩))
          go_roundw
          case rel => exact ⟨k + 1, q, by omega, by go_num, by omega, by rw [HT.out]; exact HW.out.alloc _⟩
          case measure => simp [intOf]; omega
        · have HT := Lib.hid (rdyTo_yes HL.out (H2.out.symm.trans h4))
          go_wp2_with (first | (go_at_call 97; refine (contains_any _ _ _ done _ _ _ HDW.out hm).mono ?_; rintro e w' ⟨rfl, rfl⟩) | (go_at_call 89; refine (namesHave_any _ _ _ _ _ _ done _ _ _ _ HDW.out hm HA.out hn').mono ?_; rintro e w' ⟨rfl, rfl⟩) | (at_builtin; refine app_str w _ q (rdyTo ss done k) _ (nth ss k).name ?c0 rfl (.tmp 26) (.tmp 29) rfl rfl rfl ?c1 (by omega) ?_))
          case c0 => exact (HW.out.alloc _).alloc _
          case c1 => exact heap_new (by simp)
          intro v' w' how' hg'
          go_wp2_with fail
          go_roundw
          case rel => exact ⟨k + 1, q + 1, by omega, by go_num, by omega, by rw [HT.out, List.map_append]; exact how'⟩
          case measure => simp [intOf]; omega
    · go_wp2_with fail
      go_ret
      obtain ⟨A', c', rfl, hrs⟩ := own_str HW.out.row
      rw [rdyTo_all (by rw [HR.out.1]; omega)] at hrs
      exact ⟨_, _, _, rfl, hrs, HW.out.below⟩

def lenV : Value → Nat
  | .slice _ q _ => q
  | _ => 0

set_option maxRecDepth 100000 in
theorem order_any (A : Option Addr) (n c : Nat) (ver : Int) (ss : List Step) (lo : Nat) (w : World) (hr : RStep w lo A n ss) (hok : okSteps ss) :
    Calls Try.prog 90 #[.agg #[.int .i64 ver, .slice A n c]] w fun e w' => ∃ A' c', e = .returned (.slice A' (ordL ss).length c') ∧ RStr w' w.heap.size A' (ordL ss).length (ordL ss) ∧ Below w.heap.size w w' := by
  have hn : n ≤ 1048576 := by have := hok.1; rw [hr.1] at this; exact this
  have HO := Lib.hid hok; clear hok
  have HR := Lib.hid hr; clear hr
  go_enter Try.func90, Try.ntmps90
  go_wp2_with fail
  go_loopw [3] (fun v wr => ∃ k : Nat, (ordTo ss k).length = k ∧ Own 9 1 w wr v k ((ordTo ss k).map Value.string) ∧ wr.heap[w.heap.size]? = some (.cells #[.int .i64 ver, .slice A n c] 29 (0, 0))) (fun v _ => n - lenV v)
  case atStart => exact ⟨0, rfl, ⟨World.ownsRow_nil _ _ _ _, (Below.refl _ _).alloc (Nat.le_refl _) _⟩, heap_new rfl⟩
  case round =>
    obtain ⟨k, hl, how, hbx⟩ := hrel
    have HL := Lib.hid hl; clear hl
    have HW := Lib.hid how; clear how
    have HBX := Lib.hid hbx; clear hbx
    obtain ⟨A1, c1, rfl, hrs⟩ := own_str HW.out.row
    have HRS := Lib.hid hrs; clear hrs
    have hkn : k ≤ n := by have := ordTo_len2 ss k; rw [HL.out, HR.out.1] at this; exact this
    have b1 := (blk_cl (k := 0) HBX.out rfl).1
    have b2 := (blk_cl (k := 1) HBX.out rfl).1
    go_wp2_with fail
    refine (ready_any _ _ _ _ _ _ _ ss (ordTo ss k) _ _ _ (HR.out.below HW.out.below) HO.out HRS.out (by omega)).mono ?_
    rintro e w2 ⟨A2, n2, c2, rfl, hr2, hb2⟩
    have HR2 := Lib.hid hr2; clear hr2
    have HB2 := Lib.hid hb2; clear hb2
    cases hrd : rdyL ss (ordTo ss k) with
    | nil =>
      have hn2 : n2 = 0 := by rw [← HR2.out.1, hrd]; rfl
      subst hn2
      have HE := Lib.hid (ordTo_end HL.out hrd)
      clear hrd b1 b2
      go_wp2_with fail
      go_ret
      have hk2 : k = (ordL ss).length := by rw [← HE.out]; exact HL.out.symm
      have HS := HRS.out.below HB2.out
      rw [HE.out] at HS
      subst hk2
      exact ⟨_, _, rfl, HS, HW.out.below.trans (HB2.out.mono HW.out.below.size)⟩
    | cons x r =>
      have hn2 : 0 < n2 := by rw [← HR2.out.1, hrd]; simp
      have hn3 : ((n2 : Int) == 0) = false := by rw [beq_eq_false_iff_ne]; omega
      have HT := Lib.hid (show ordTo ss (k + 1) = ordTo ss k ++ [x] from ordStep_cons hrd)
      have HX := Lib.hid (show nth (rdyL ss (ordTo ss k)) 0 = x by rw [hrd]; rfl)
      clear hrd b1 b2
      have HL1 := Lib.hid (show (ordTo ss (k + 1)).length = k + 1 by rw [HT.out, List.length_append, HL.out]; rfl)
      have hk1 : k + 1 ≤ n := by have := ordTo_len2 ss (k + 1); rw [HL1.out, HR.out.1] at this; exact this
      obtain ⟨b3, o3, rfl, ⟨hb3, hb4⟩, hc3⟩ := RStr.at_ HR2.out hn2
      have e1 := (hc3 0 hn2).1
      rw [Nat.add_zero, HX.out] at e1
      clear hc3
      go_wp2_with (at_builtin; refine app_str w _ k (ordTo ss k) _ x ?c0 rfl (.tmp 12) (.tmp 16) rfl rfl rfl ?c1 (by omega) ?_)
      case c0 => exact (HW.out.below_ HB2.out).alloc _
      case c1 => exact heap_new rfl
      intro v' w' how' hg'
      obtain ⟨A4, c4, hv4, _⟩ := own_form how'.row
      subst hv4
      have HO4 := Lib.hid how'; clear how'
      have HG4 := Lib.hid hg'; clear hg'
      go_wp2_with fail
      go_roundw
      case rel =>
        refine ⟨k + 1, HL1.out, by rw [HT.out, List.map_append]; exact HO4.out, ?_⟩
        refine grown_blk HG4.out (heap_old ((HB2.out.block _ (heap_lt HBX.out)).trans HBX.out)) ?_
        intro e
        have := (HW.out.row.lt _ e).1
        exact row_ne HW.out.row HBX.out (by decide) e
      case measure => simp [lenV]; omega
end Go.Proofs.Ytfcbpgpmafmkhaa
