/- Drawing guards and values. -/
import Derived.Test.YtnlibaoegfdoeaaD1
import Derived.Test.YtnlibaoegfdoeaaW2
import Derived.Deep.RegionHeld3
import Derived.Deep.DeepCutAuto
namespace Go.Proofs.Ytnlibaoegfdoeaa
open Go.RowKit

def nm6 : Array Value := #[.string ⟨#[97]⟩, .string ⟨#[98]⟩, .string ⟨#[99]⟩, .string ⟨#[100]⟩, .string ⟨#[101]⟩, .string ⟨#[122, 122]⟩]
theorem nm6_at (k : Nat) (hk : k < 6) : ∃ s : Str, nm6[k]? = some (.string s) ∧ s.size ≤ 5 := by
  match k, hk with
  | 0, _ => exact ⟨⟨#[97]⟩, rfl, by decide⟩
  | 1, _ => exact ⟨⟨#[98]⟩, rfl, by decide⟩
  | 2, _ => exact ⟨⟨#[99]⟩, rfl, by decide⟩
  | 3, _ => exact ⟨⟨#[100]⟩, rfl, by decide⟩
  | 4, _ => exact ⟨⟨#[101]⟩, rfl, by decide⟩
  | 5, _ => exact ⟨⟨#[122, 122]⟩, rfl, by decide⟩
theorem okG_app {gs : List Guard} {x : Guard} (h : okG gs) (hl : gs.length ≤ 1000) (hx : x.name.size ≤ maxLen) : okG (gs ++ [x]) := by
  refine ⟨by simp; omega, fun j hj => ?_⟩
  rcases Nat.lt_or_ge j gs.length with h1 | h1
  · have e : nth (gs ++ [x]) j = nth gs j := by rw [nth_eq hj, nth_eq h1, List.getElem_append_left h1]
    rw [e]; exact h.2 j h1
  · have h2 : j = gs.length := by simp at hj; omega
    subst h2
    have e : nth (gs ++ [x]) gs.length = x := by rw [nth_eq hj]; simp
    rw [e]; exact hx

theorem lit2_at (a b : Int) (m : Nat) (h : m < 2) : ∃ x : Int, (#[Value.int .i64 a, Value.int .i64 b] : Array Value)[m]? = some (.int .i64 x) := by
  match m, h with
  | 0, _ => exact ⟨_, rfl⟩
  | 1, _ => exact ⟨_, rfl⟩
theorem lit3_at (a b c : Int) (m : Nat) (h : m < 3) : ∃ x : Int, (#[Value.int .i64 a, Value.int .i64 b, Value.int .i64 c] : Array Value)[m]? = some (.int .i64 x) := by
  match m, h with
  | 0, _ => exact ⟨_, rfl⟩
  | 1, _ => exact ⟨_, rfl⟩
  | 2, _ => exact ⟨_, rfl⟩
theorem okG_var {gs : List Guard} {j : Nat} {x : Int} (h : okG gs) : okG (gs.set j { nth gs j with var := x }) := by
  refine ⟨by rw [List.length_set]; exact h.1, fun i hi => ?_⟩
  rw [List.length_set] at hi
  by_cases hj : j < gs.length
  · rw [nth_set hj]
    split
    · exact h.2 j hj
    · exact h.2 i hi
  · rw [List.set_eq_of_length_le (by omega)]
    exact h.2 i hi

set_option maxRecDepth 100000 in
set_option maxHeartbeats 1000000 in
theorem l92Guards_any (w0 : World) (g q : Nat) (w : World) (h : Dr 86 w0 g q w) (hq : q ≤ 1099511620000) :
    Calls Try.prog 49 #[.pointer (some ⟨g, 0, none⟩)] w fun e w' =>
      ∃ A n c gs, e = .returned (.slice A n c) ∧ RGuard w' w.heap.size A n gs ∧ okG gs ∧ Dr 86 w0 g (q + 100) w' ∧ On g w w' := by
  have HD := Lib.hid h; clear h
  have hgl := HD.out.lt
  go_enter Try.func49, Try.ntmps49
  go_wp2_with fail
  go_loopw [3, 5] (fun v i wr => ∃ k n : Nat, ∃ gs : List Guard, k ≤ 6 ∧ i = .int .i64 k ∧ n ≤ k ∧ okG gs ∧ wr.ownsRow w.heap.size 33 3 v n (gs.flatMap gcells) ∧ Dr 86 w g (q + 3 * k) wr ∧ wr.heap[w.heap.size + 1]? = some (.cells nm6 9 (0, 0))) (fun _ i _ => 6 - (intOf i).toNat)
  case atStart =>
    exact ⟨0, 0, [], by omega, rfl, Nat.le_refl _, ⟨by simp, fun j hj => absurd hj (by simp)⟩, World.ownsRow.alloc (World.ownsRow_made _ _ _ (Nat.le_refl _) (by unfold maxLen; omega) rfl) _, (HD.out.here.alloc _).alloc _, heap_new (by simp)⟩
  case round =>
    obtain ⟨k, n, gs, hk, rfl, hnk, hok, hrow, hdr, hnm⟩ := hrel
    have HN := Lib.hid hnm
    have HOK := Lib.hid hok; clear hok
    have HROW := Lib.hid hrow; clear hrow
    have HDR := Lib.hid hdr
    have hd0 := hdr.here
    have hsz : w.heap.size + 1 < wr.heap.size := by
      rcases Nat.lt_or_ge (w.heap.size + 1) wr.heap.size with hlt | hge
      · exact hlt
      · rw [Array.getElem?_eq_none hge] at hnm; cases hnm
    clear hnm hdr
    by_cases hlt : k < 6
    · obtain ⟨s, hs1, hs2⟩ := nm6_at k hlt
      have c1 := (blk_cl HN.out hs1).1
      clear hs1
      go_wp2_with fail
      refine (pick wr g _ _ _ hd0 (by omega) (by omega)).mono ?_
      rintro e w1 ⟨v, rfl, hv0, hv1, hv2, hd1, hon⟩
      have c2 := (hon.cell (o := k) hsz (by omega)).trans c1
      clear c1
      have hsz2 : w.heap.size + 1 < w1.heap.size := by have := hon.size; omega
      by_cases hz : v = 0
      · subst hz
        go_wp2_with fail
        have HON := Lib.hid hon; clear hon
        have hd2 := hd1.here
        have HNE := Lib.hid (row_ne HROW.out HN.out (by decide))
        have tok1 : True := trivial
        go_region_held3 (fun w' => w'.cell? ⟨w.heap.size + 1, k, none⟩ = some (.string s))
          (first | go_keep | exact hgrow.cell (((hd4.on.alloc _).cell hsz2 (by omega)).trans c2) (Ne.symm HNE.out) | (rw [hd4.on.cell hsz2 (by omega)]; exact c2) | (rw [hd3.on.cell hsz2 (by omega)]; exact c2))
          (first
            | (refine gapp_step w.heap.size _ n gs (w3.heap.size) ⟨s, v1, v2⟩ (by exact World.ownsRow.alloc (row_on (row_on HROW.out HON.out hgl) hd4.on hgl) _) (by rfl) (.tmp 17) (.tmp 27) (by rfl) (by rfl) (by rfl) (by exact heap_new rfl) (by omega) (by simp; have := hd4.on.size; omega) ?_; intro v' w' hrow' hgrow hat)
            | (go_at_call 77; have _t := tok1; refine (pick w1 g _ _ _ (by first | assumption | exact Dr.drew (by assumption)) (by omega) (by omega)).mono ?_; rintro e w2 ⟨v1, rfl, hv0, hv1, hv2, hd3, hon⟩; clear tok1)
            | (go_at_call 77; refine (pick w1 g _ _ _ (by first | assumption | exact Dr.drew (by assumption)) (by omega) (by omega)).mono ?_; rintro e w3 ⟨v2, rfl, hv3, hv4, hv5, hd4, hon⟩))
        go_wp2_with fail
        go_roundw
        case rel => exact ⟨k + 1, n + 1, gs ++ [⟨s, v1, v2⟩], by omega, by go_num, by omega, okG_app HOK.out (by have := HROW.out.1; rw [flat_len gcells_len] at this; omega) (by unfold maxLen; show s.size ≤ _; omega), hrow', ((((HDR.out.trans hd1).trans hd4).alloc _).grown hgrow (fun j hj => by have := HROW.out.lt j hj; omega)).more (by omega), grown_blk hgrow (heap_old (hd4.on.blk (HON.out.blk HN.out (by omega)) (by omega))) HNE.out⟩
        case measure => simp [intOf]; omega
      · have hz2 : (v == 0) = false := by rw [beq_eq_false_iff_ne]; exact hz
        go_wp2_with fail
        go_roundw
        case rel => exact ⟨k + 1, n, gs, by omega, by go_num, by omega, HOK.out, row_on HROW.out hon hgl, (HDR.out.trans hd1).more (by omega), hon.blk HN.out (by omega)⟩
        case measure => simp [intOf]; omega
    · obtain ⟨A, c, rfl, hrg⟩ := own_guard HROW.out
      have HRG := Lib.hid hrg; clear hrg
      by_cases hn0 : 0 < n
      · obtain ⟨b, off, rfl, ⟨hb1, hb2⟩, hcs⟩ := RGuard.at_ HRG.out hn0
        have HCS := Lib.hid hcs; clear hcs
        have h6 : decide ((0 : Int) < (n : Int)) = true := by simp; omega
        have h7 : decide (0 < n) = true := by simp; omega
        go_wp2_with fail
        refine (pick wr g _ _ _ hd0 (by omega) (by omega)).mono ?_
        rintro e w1 ⟨v, rfl, hv0, hv1, hv2, hd1, hon⟩
        by_cases hz : v = 0
        · subst hz
          go_wp2_with fail
          refine (pick wr g _ _ _ hd1 (by omega) (by omega)).mono ?_
          rintro e w2 ⟨j, rfl, hj0, hj1, hj2, hd2, hon2⟩
          obtain ⟨j, rfl⟩ := Int.eq_ofNat_of_zero_le hj0
          have hjn : j < n := by have := hj1 (by omega); omega
          clear hj1 hj0
          go_wp2_with fail
          refine (pick wr g _ _ _ (hd2.alloc _) (by omega) (by omega)).mono ?_
          rintro e w3 ⟨m, rfl, hm0, hm1, hm2, hd3, hon3⟩
          obtain ⟨m, rfl⟩ := Int.eq_ofNat_of_zero_le hm0
          have hmn : m < 2 := by have := hm1 (by omega); omega
          clear hm1 hm0
          obtain ⟨⟨_, c2, _⟩, _, c4, _⟩ := HCS.out j hjn
          have d2 := (hd3.on.cell (o := off + j * 3 + 1) hb2 (by omega)).trans c2
          have d4 := (hd3.on.frozen (o := off + j * 3 + 1) hb2 (by omega)).trans c4
          clear c2 c4
          obtain ⟨x, hx⟩ := lit2_at (-1) 4 m hmn
          have d5 := (blk_cl (hon3.blk (heap_new rfl) (by have := hd2.lt; omega)) hx).1
          clear hx
          have HRS := Lib.hid (RGuard.setVar (HRG.out.on hd3.on hgl) hjn x)
          have HDN := Lib.hid ((HDR.out.trans hd3).set_ (b := b) hb1 (by omega) (off + j * 3 + 1) (.int .i64 x))
          have HD3 := Lib.hid hd3; clear hd3 hd2 hd1 hd0 hon hon2 hon3
          go_wp2_with fail
          go_ret
          exact ⟨_, _, _, _, rfl, HRS.out, okG_var HOK.out, (HD.out.trans HDN.out).more (by omega), HDN.out.on⟩
        · have hz2 : (v == 0) = false := by rw [beq_eq_false_iff_ne]; exact hz
          go_wp2_with fail
          go_ret
          exact ⟨_, _, _, gs, rfl, HRG.out.on hon hgl, HOK.out, (HD.out.trans (HDR.out.trans hd1)).more (by omega), HDR.out.on.trans hon⟩
      · have h6 : decide ((0 : Int) < (n : Int)) = false := by simp; omega
        have h7 : decide (0 < n) = false := by simp; omega
        clear hn0
        go_wp2_with fail
        go_ret
        exact ⟨_, _, _, gs, rfl, HRG.out, HOK.out, (HD.out.trans HDR.out).more (by omega), HDR.out.on⟩

set_option maxRecDepth 100000 in
theorem l92Vars_any (w0 : World) (g q : Nat) (w : World) (h : Dr 86 w0 g q w) (hq : q ≤ 1099511620000) :
    Calls Try.prog 50 #[.pointer (some ⟨g, 0, none⟩)] w fun e w' =>
      ∃ A n c vs, e = .returned (.slice A n c) ∧ RInt w' w.heap.size A n vs ∧ n ≤ 4 ∧ Dr 86 w0 g (q + 100) w' ∧ On g w w' := by
  have HD := Lib.hid h; clear h
  have hgl := HD.out.lt
  have hd0 := HD.out.here
  go_enter Try.func50, Try.ntmps50
  go_wp2_with fail
  refine (pick w g _ _ _ hd0 (by omega) (by omega)).mono ?_
  rintro e w1 ⟨a, rfl, _, _, _, hd1, _⟩
  go_wp2_with fail
  refine (pick w g _ _ _ hd1 (by omega) (by omega)).mono ?_
  rintro e w2 ⟨b, rfl, _, _, _, hd2, _⟩
  go_wp2_with fail
  refine (pick w g _ _ _ hd2 (by omega) (by omega)).mono ?_
  rintro e w3 ⟨c, rfl, _, _, _, hd3, _⟩
  go_wp2_with fail
  refine (pick w g _ _ _ hd3 (by omega) (by omega)).mono ?_
  rintro e w4 ⟨d, rfl, _, _, _, hd4, _⟩
  go_wp2_with fail
  have HR0 := Lib.hid ((lit_int (w := w4) (e := 3) (cs := #[.int .i64 a, .int .i64 b, .int .i64 c, .int .i64 d]) [a, b, c, d] 4 rfl rfl).lower hd4.on.size)
  have hgl4 := hd4.lt
  have hs4 := hd4.on.size
  have hd5 := hd4.alloc (.cells #[.int .i64 a, .int .i64 b, .int .i64 c, .int .i64 d] 3)
  refine (pick w g _ _ _ hd5 (by omega) (by omega)).mono ?_
  rintro e w5 ⟨v, rfl, hv0, hv1, _, hd6, hon⟩
  have HR := Lib.hid (HR0.out.on hon hgl)
  clear HR0
  by_cases hz : v = 0
  · subst hz
    go_wp2_with fail
    refine (pick w g _ _ _ hd6 (by omega) (by omega)).mono ?_
    rintro e w6 ⟨j, rfl, hj0, hj1, _, hd7, hon2⟩
    obtain ⟨j, rfl⟩ := Int.eq_ofNat_of_zero_le hj0
    have hjn : j < 4 := by have := hj1 (by omega); omega
    clear hj1 hj0
    go_wp2_with fail
    refine (pick w g _ _ _ (hd7.alloc _) (by omega) (by omega)).mono ?_
    rintro e w7 ⟨m, rfl, hm0, hm1, _, hd8, hon3⟩
    obtain ⟨m, rfl⟩ := Int.eq_ofNat_of_zero_le hm0
    have hmn : m < 3 := by have := hm1 (by omega); omega
    clear hm1 hm0
    have HR7 := Lib.hid (((HR.out.on hon2 hgl).alloc _).on hon3 hgl)
    obtain ⟨b', off', e', _, hcs⟩ := RInt.at_ HR7.out (show 0 < 4 by omega)
    injection e' with e'; injection e' with e1 e2
    have HE1 := Lib.hid e1; clear e1
    subst e2
    obtain ⟨d2, d4⟩ := hcs j hjn
    rw [← HE1.out] at d2 d4
    clear hcs
    obtain ⟨x, hx⟩ := lit3_at (-1) 99 100 m hmn
    have d5 := (blk_cl (hon3.blk (heap_new rfl) (by have := hd7.lt; omega)) hx).1
    clear hx
    have HRS := Lib.hid (RInt.set_ HR7.out hjn x)
    have HDN := Lib.hid (hd8.set_ (b := w4.heap.size) hs4 hgl4 (0 + j) (.int .i64 x))
    rw [Nat.zero_add] at d2 d4 HRS HDN
    clear hd8 hd7 hd6 hd5 hd4 hd3 hd2 hd1 hd0 hon hon2 hon3
    go_wp2_with fail
    go_ret
    exact ⟨_, _, _, _, rfl, HRS.out, by omega, (HD.out.trans HDN.out).more (by omega), HDN.out.on⟩
  · by_cases hz1 : v = 1
    · subst hz1
      go_wp2_with fail
      go_ret
      exact ⟨_, _, _, _, rfl, HR.out.take (k := 3) (by omega), by omega, (HD.out.trans hd6).more (by omega), hd6.on⟩
    · have hz2 : (v == 0) = false := by rw [beq_eq_false_iff_ne]; exact hz
      have hz3 : (v == 1) = false := by rw [beq_eq_false_iff_ne]; exact hz1
      go_wp2_with fail
      go_ret
      exact ⟨_, _, _, _, rfl, HR.out, by omega, (HD.out.trans hd6).more (by omega), hd6.on⟩

def DrawGC (w : World) (e : Ending) (w' : World) : Prop :=
  ∃ A n c B m d gs vs, e = .returned (.tuple #[.slice A n c, .slice B m d]) ∧ RGuard w' w.heap.size A n gs ∧ okG gs ∧ RInt w' w.heap.size B m vs ∧ m ≤ 4 ∧ Below w.heap.size w w'
theorem drawGC_any (A : Option Addr) (n c : Nat) (w : World) (hr : RByte w A n) (hc : n ≤ c) (hn : n ≤ 1048576) :
    Calls Try.prog 15 #[.slice A n c] w (DrawGC w) := by
  have HR := Lib.hid hr; clear hr
  go_enter Try.func15, Try.ntmps15
  go_wp2_with fail
  refine (open_any _ _ _ _ HR.out hc hn).mono ?_
  rintro e w1 ⟨rfl, hrd, hb1⟩
  have hd0 : Dr 86 w1 w.heap.size 0 w1 := ⟨On.refl _ _, 0, Nat.le_refl _, hrd⟩
  have hl1 := hrd.lt
  clear hrd
  go_wp2_with fail
  refine (l92Guards_any w1 _ _ _ hd0 (by omega)).mono ?_
  rintro e w2 ⟨A1, n1, c1, gs, rfl, hg1, hok, hd1, hon1⟩
  have HG := Lib.hid hg1; clear hg1
  have HOK := Lib.hid hok; clear hok
  go_wp2_with fail
  refine (l92Vars_any w1 _ _ _ hd1 (by omega)).mono ?_
  rintro e w3 ⟨B1, m1, d1, vs, rfl, hv1, hm, hd2, hon2⟩
  go_wp2_with fail
  go_ret2
  exact ⟨_, _, _, _, _, _, _, _, rfl, (HG.out.on hon2 hl1).lower hb1.size, HOK.out, hv1.lower (by have := hon1.size; have := hb1.size; omega), hm,
    (hb1.trans (hon1.low (by omega))).trans (hon2.low (by have := hon1.size; omega))⟩
end Go.Proofs.Ytnlibaoegfdoeaa
