/- Runs: the program's leaves. -/
import Derived.Test.YtfcbpgpmafmkhaaR2
import Derived.Test.YtfcbpgpmafmkhaaPure2
namespace Go.Proofs.Ytfcbpgpmafmkhaa
open Go.RowKit

theorem nodup_at {xs : List Str} (hn : xs.Nodup) {i j : Nat} (hi : i < xs.length) (hj : j < xs.length) (e : nth xs i = nth xs j) : i = j := by
  rw [nth_eq hi, nth_eq hj] at e
  have hp := List.pairwise_iff_getElem.1 hn
  rcases Nat.lt_trichotomy i j with h | h | h
  · exact absurd e (hp i j hi hj h)
  · exact h
  · exact absurd e.symm (hp j i hj hi h)
/-- What is ready, told by the place of its step. -/
theorem rdy_at {ss : List Step} (hn : (namesOf ss).Nodup) (d : List Str) (x : Str) : hasB (rdyL ss d) x = (hasB (namesOf ss) x && !hasB d x && haveB d (nth ss (plc ss x)).after) := by
  rw [Bool.eq_iff_iff, hasB_true]
  simp only [Bool.and_eq_true]
  constructor
  · intro h
    have hx := (rdyL_new h).2
    obtain ⟨s, hs, hr, e⟩ := rdyL_mem.1 h
    obtain ⟨h1, h2, h3⟩ := plc_ex (hasB_true.2 hx)
    obtain ⟨j, hj, rfl⟩ := nth_of_mem hs
    have : j = plc ss x := nodup_at hn (by rw [namesOf_len]; exact hj) (by rw [namesOf_len]; exact h1) (by rw [namesOf_at hj, namesOf_at h1, h3, e])
    rw [← this]
    unfold rdyB at hr
    rw [e] at hr
    simp only [Bool.and_eq_true] at hr
    exact ⟨⟨hasB_true.2 hx, hr.1⟩, hr.2⟩
  · rintro ⟨⟨h1, h2⟩, h3⟩
    obtain ⟨p1, p2, p3⟩ := plc_ex h1
    refine rdyL_mem.2 ⟨_, mem_nth p1, ?_, p3⟩
    unfold rdyB
    rw [p3, h2, h3]; rfl
theorem ordAt_rdy {ss : List Step} (hn : (namesOf ss).Nodup) (done : List Str) (i : Nat) : ordAt ss done i = hasB (rdyL ss (done.take i)) (nth done i) := (rdy_at hn _ _).symm
theorem ord_nodup {ss : List Step} {done : List Str} (h : ordB ss done = true) : ∀ k, k ≤ done.length → (done.take k).Nodup
  | 0, _ => by simp
  | k + 1, hk => by
    have h1 := allN_iff.1 h k (by omega)
    unfold ordAt at h1
    simp only [Bool.and_eq_true, Bool.not_eq_true'] at h1
    rw [take_nth (by omega), List.nodup_append]
    refine ⟨ord_nodup h k (by omega), by simp, fun a ha b hb => ?_⟩
    rw [List.mem_singleton.1 hb]
    rintro rfl
    exact hasB_false.1 h1.1.2 ha
theorem ord_len {ss : List Step} {done : List Str} (h : ordB ss done = true) : done.length ≤ ss.length := by
  have h1 := ord_nodup h done.length (Nat.le_refl _)
  rw [List.take_length] at h1
  have := nodup_le h1 (ys := namesOf ss) (fun x hx => by
    obtain ⟨j, hj, rfl⟩ := nth_of_mem hx
    exact hasB_true.1 (ord_all h j hj))
  rw [namesOf_len] at this
  exact this
theorem left_last {ss : List Step} {done : List Str} {k : Nat} : leftN ss done (k + 1) < k + 1 ↔ (nth ss (plc ss (nth done k))).undo = true := by
  have h := leftN_le ss done k
  show (if (nth ss (plc ss (nth done k))).undo = true then leftN ss done k else k + 1) < k + 1 ↔ _
  split
  · rename_i e; exact ⟨fun _ => e, fun _ => by omega⟩
  · rename_i e; exact ⟨fun h => by omega, fun h => absurd h e⟩

theorem at1_any (A : Option Addr) (n c bx : Nat) (nm x : Str) (u : Bool) (w : World) (hb : w.cell? ⟨bx, 0, none⟩ = some (.string x)) :
    Calls Try.prog 118 #[.agg #[.string nm, .slice A n c, .bool u], .pointer (some ⟨bx, 0, none⟩)] w fun e w' => e = .returned (.bool (decide (nm = x))) ∧ Below w.heap.size w w' := by
  have hb2 := fun o => (World.cell?_alloc_some w _ o (by rw [hb]; rfl)).trans hb
  have hq : (nm.toList == x.toList) = decide (nm = x) := by
    by_cases h : nm = x
    · rw [seq_t h]; simp [h]
    · rw [seq_f h]; simp [h]
  go_enter Try.func118, Try.ntmps118
  go_wp2_with fail
  go_ret
  exact ⟨rfl, (Below.refl _ _).alloc (Nat.le_refl _) _⟩

set_option maxRecDepth 100000 in
theorem indexFunc_any (A : Option Addr) (n c bx : Nat) (ss : List Step) (x : Str) (lo : Nat) (w : World) (hr : RStep w lo A n ss) (hn : n ≤ 1048576) (hb : w.cell? ⟨bx, 0, none⟩ = some (.string x)) (hbl : bx < w.heap.size) :
    Calls Try.prog 117 #[.slice A n c, .func (.func 118) #[] #[.pointer (some ⟨bx, 0, none⟩)]] w fun e w' => e = .returned (.int .i64 (idxI (namesOf ss) x)) ∧ Below w.heap.size w w' := by
  have HR := Lib.hid hr; clear hr
  go_enter Try.func117, Try.ntmps117
  go_wp2_with fail
  go_loopw [8] (fun i wr => ∃ k : Nat, k ≤ n ∧ i = .int .i64 k ∧ Below w.heap.size w wr ∧ ∀ j, j < k → (nth ss j).name ≠ x) (fun i _ => n - (intOf i).toNat)
  case atStart => exact ⟨0, Nat.zero_le _, rfl, Below.refl _ _, fa_zero⟩
  case round =>
    obtain ⟨k, hk, rfl, hbw, hp⟩ := hrel
    have HP := Lib.hid hp; clear hp
    have HBW := Lib.hid hbw; clear hbw
    by_cases hlt : k < n
    · obtain ⟨b, off, rfl, _, hc⟩ := RStep.at_ (HR.out.below HBW.out) hlt
      obtain ⟨A', n', c', ⟨c1, c2, c3⟩, _, _⟩ := hc k hlt
      clear hc
      have hbx := (HBW.out.cell (p := ⟨bx, 0, none⟩) hbl).trans hb
      by_cases he : (nth ss k).name = x
      · have HE := Lib.hid he; clear he
        go_wp2_with (go_at_call 118; refine (at1_any _ _ _ bx _ x _ _ hbx).mono ?_; rintro e w' ⟨rfl, hb'⟩; rw [decide_eq_true HE.out])
        go_ret
        exact ⟨ret_i (idxI_at (fun j hj => by rw [namesOf_at (by rw [HR.out.1]; omega)]; exact HP.out j hj) (by rw [namesOf_len, HR.out.1]; exact hlt) (by rw [namesOf_at (by rw [HR.out.1]; exact hlt)]; exact HE.out)).symm, HBW.out.trans (hb'.mono HBW.out.size)⟩
      · have HE := Lib.hid he; clear he
        go_wp2_with (go_at_call 118; refine (at1_any _ _ _ bx _ x _ _ hbx).mono ?_; rintro e w' ⟨rfl, hb'⟩; rw [decide_eq_false HE.out])
        go_roundw
        case rel => exact ⟨k + 1, by omega, by go_num, HBW.out.trans (hb'.mono HBW.out.size), fa_succ HP.out HE.out⟩
        case measure => simp [intOf]; omega
    · go_wp2_with fail
      go_ret
      exact ⟨ret_i (idxI_none (fun j hj => by rw [namesOf_len, HR.out.1] at hj; rw [namesOf_at (by rw [HR.out.1]; exact hj)]; exact HP.out j (by omega))).symm, HBW.out⟩

set_option maxRecDepth 100000 in
theorem at_any (A : Option Addr) (n c : Nat) (ver : Int) (ss : List Step) (x : Str) (lo : Nat) (w : World) (hr : RStep w lo A n ss) (hn : n ≤ 1048576) :
    Calls Try.prog 115 #[.agg #[.int .i64 ver, .slice A n c], .string x] w fun e w' => e = .returned (.int .i64 (idxI (namesOf ss) x)) ∧ Below w.heap.size w w' := by
  have HR := Lib.hid ((hr.alloc (.cells #[.int .i64 ver, .slice A n c] 29)).alloc (.cells #[.string x] 9)); clear hr
  have HX := Lib.hid (heap_new (w := w.alloc (.cells #[.int .i64 ver, .slice A n c] 29)) (b := w.heap.size + 1) (o := .cells #[.string x] 9) (by simp))
  have HB := Lib.hid (((Below.refl w.heap.size w).alloc (Nat.le_refl _) (.cells #[.int .i64 ver, .slice A n c] 29)).alloc (by simp) (.cells #[.string x] 9))
  go_enter Try.func115, Try.ntmps115
  go_wp2_with fail
  refine (indexFunc_any _ _ _ _ ss x _ _ HR.out hn (blk_cl (k := 0) HX.out rfl).1 (heap_lt HX.out)).mono ?_
  rintro e w1 ⟨rfl, hb⟩
  go_wp2_with fail
  go_ret
  exact ⟨rfl, HB.out.trans (hb.mono HB.out.size)⟩
end Go.Proofs.Ytfcbpgpmafmkhaa
