/- Contracts of functions and plain lemmas, joined. No condition but those that each states. -/
import Derived.Test.YtfcbpgpmafmkhaaZC
import Derived.Test.YtfcbpgpmafmkhaaZD

/- Reports: how many cases have each state, both. -/
namespace Go.Proofs.Ytfcbpgpmafmkhaa
open Go.RowKit

theorem Cl.alloc_ {w : World} {b o : Nat} {v : Value} (h : Cl w b o v) (ob : Obj) : Cl (w.alloc ob) b o v :=
  h.same (Same.of_below (lo := 0) ((Below.refl w.heap.size w).alloc (Nat.le_refl _) ob)) (Nat.zero_le _) (World.block_lt_of_cell? w _ h.1)
def cntL (cs : List Case) : List Int := [((stN cs 0 : Nat) : Int), ((stN cs 1 : Nat) : Int), ((stN cs 2 : Nat) : Int), ((stN cs 3 : Nat) : Int)]
theorem cntL_at (cs : List Case) {s : Nat} (hs : s < 4) : nth (cntL cs) s = ((stN cs (s : Int) : Nat) : Int) := by
  match s, hs with
  | 0, _ => rfl
  | 1, _ => rfl
  | 2, _ => rfl
  | 3, _ => rfl
theorem cntL_next {cs : List Case} {k s : Nat} (hk : k < cs.length) (hs : (nth cs k).st = (s : Int)) (h4 : s < 4) : (cntL (cs.take k)).set s (nth (cntL (cs.take k)) s + 1) = cntL (cs.take (k + 1)) := by
  rw [take_nth hk]
  refine list_ext (by simp [cntL]) fun j hj => ?_
  have hj4 : j < 4 := by simpa [cntL] using hj
  rw [nth_set (by simpa [cntL] using h4), cntL_at _ hj4, cntL_at _ h4, cntL_at _ hj4, stN_snoc, hs]
  by_cases e : j = s
  · subst e; simp
  · rw [if_neg e, if_neg (by omega)]; simp
theorem cntL_small {cs : List Case} {k s : Nat} (hs : s < 4) (hk : cs.length ≤ 1048576) : 0 ≤ nth (cntL (cs.take k)) s ∧ nth (cntL (cs.take k)) s ≤ 1048576 := by
  rw [cntL_at _ hs]
  have h1 := stN_le (cs.take k) s
  have h2 := List.length_take_le k cs
  rw [List.length_take] at h1
  omega
def stL (f : Flow) (cs : List Case) : List Int := if poolB f cs = true then cntL cs else []
theorem stL_yes {f : Flow} {cs : List Case} (h : poolB f cs = true) : stL f cs = cntL cs := by unfold stL; rw [if_pos h]
theorem stL_no {f : Flow} {cs : List Case} (h : poolB f cs = false) : stL f cs = [] := by unfold stL; rw [if_neg (by rw [h]; simp)]
theorem case_st {f : Flow} {cs : List Case} (h : poolB f cs = true) {k : Nat} (hk : k < cs.length) : ∃ s : Nat, s < 4 ∧ (nth cs k).st = (s : Int) := by
  obtain ⟨h1, h2⟩ := run_state (pool_run h hk)
  exact ⟨(nth cs k).st.toNat, by omega, by omega⟩

set_option maxRecDepth 100000 in
set_option maxHeartbeats 1000000 in
theorem statesI_any (A B : Option Addr) (n c m d : Nat) (f : Flow) (cs : List Case) (lo lo' : Nat) (w : World) (hr : RStep w lo A n f.steps) (hok : okSteps f.steps) (hd : RCase w lo' B m cs) (hcs : okCases cs) :
    Calls Try.prog 28 #[.agg #[.int .i64 f.ver, .slice A n c], .slice B m d] w fun e w' => ∃ A' n' c', e = .returned (.slice A' n' c') ∧ RInt w' w.heap.size A' n' (stL f cs) ∧ Below w.heap.size w w' := by
  have HL := Lib.hid hd.1
  have hm : m ≤ 1048576 := by have := hcs.1; rw [hd.1] at this; exact this
  have HB0 := Lib.hid ((Below.refl w.heap.size w).alloc (Nat.le_refl _) (.cells #[.int .i64 f.ver, .slice A n c] 29))
  have HD0 := Lib.hid (hd.alloc (.cells #[.int .i64 f.ver, .slice A n c] 29)); clear hd
  obtain ⟨i0, hi0, hz0, hz1, hz2⟩ := info_parts info_int
  go_enter Try.func28, Try.ntmps28
  go_wp2_with fail
  refine (poolI_any _ _ _ _ _ _ f cs _ _ _ (hr.alloc _) hok HD0.out hcs).mono ?_
  rintro e w1 ⟨rfl, hb⟩
  have HB1 := Lib.hid (HB0.out.trans (hb.mono HB0.out.size))
  have HD1 := Lib.hid (HD0.out.below hb)
  clear hb HB0 HD0
  cases hp : poolB f cs
  · have HE := Lib.hid (stL_no hp); clear hp
    go_wp2_with fail
    go_ret
    exact ⟨_, _, _, rfl, by rw [HE.out]; exact RL.nil, HB1.out⟩
  have HE := Lib.hid (stL_yes hp)
  have HST := Lib.hid (fun k (hk : k < m) => case_st hp (k := k) (by rw [HL.out]; exact hk)); clear hp
  go_wp2_with (at_make; refine wpList_make_full _ rfl _ _ 39 rfl w1.heap.size 3 i0 _ 1 Try.underlying39 hi0 hz0 hz1 _ _ _ _ 4 rfl rfl rfl rfl ?c1 ?c2 (Nat.le_refl _) ?_)
  case c1 => rw [hz2]; omega
  case c2 => unfold maxLen; omega
  intro w2 hown hgr
  have hbw : Below w1.heap.size w1 w2 := (Below.refl _ _).grown hgr (Nat.le_refl _) (by simp)
  obtain ⟨A1, c1, hv1, hr1⟩ := own_fresh_int hown
  injection hv1 with hA1 hn1 hc1
  subst hA1
  clear hn1 hc1 hown hgr
  have HR2 := Lib.hid hr1; clear hr1
  have HB2 := Lib.hid hbw; clear hbw
  go_wp2_with fail
  go_loopw [15] (fun i wr => ∃ k : Nat, k ≤ m ∧ i = .int .i64 (k : Int) ∧ RInt wr w1.heap.size (some ⟨w1.heap.size, 0, none⟩) 4 (cntL (cs.take k)) ∧ Below w1.heap.size w1 wr) (fun i _ => m - (intOf i).toNat)
  case atStart => exact ⟨0, Nat.zero_le _, rfl, HR2.out, HB2.out⟩
  case round =>
    obtain ⟨k, hk, rfl, hy, hb⟩ := hrel
    have HY := Lib.hid hy; clear hy
    have HBR := Lib.hid hb; clear hb
    by_cases hlt : k < m
    · obtain ⟨b, off, rfl, _, hc⟩ := RCase.at_ (HD1.out.below HBR.out) hlt
      obtain ⟨A', n', c', ⟨d1, d2, d3⟩, _⟩ := hc k hlt
      clear hc
      obtain ⟨s, hs4, hst⟩ := HST.out k hlt
      have HNX := Lib.hid (cntL_next (cs := cs) (by rw [HL.out]; exact hlt) hst hs4)
      rw [hst] at d2
      obtain ⟨v0, v1⟩ := cntL_small (cs := cs) (k := k) hs4 (by rw [HL.out]; exact hm)
      obtain ⟨b', off', e', _, hc⟩ := RInt.at_ HY.out hs4
      injection e' with e'; injection e' with e1 e2
      have HE1 := Lib.hid e1; clear e1
      subst e2
      obtain ⟨f1, f2⟩ := hc s hs4
      rw [← HE1.out, Nat.zero_add] at f1 f2
      clear hc
      have g1 := fun ob => (Cl.alloc_ (o := s) ⟨f1, f2⟩ ob).1
      have g2 := fun ob => (Cl.alloc_ (o := s) ⟨f1, f2⟩ ob).2
      generalize nth (cntL (cs.take k)) s = v at *
      have hs0 : ¬ ((s : Int) < 0) := by omega
      have hs1 : (s : Int) < 4 := by omega
      go_wp2_with fail
      go_roundw
      case rel =>
        refine ⟨k + 1, by omega, by go_num, ?_, (HBR.out.alloc HBR.out.size _).setCell (Nat.le_refl _) _⟩
        have := RInt.set_ (HY.out.alloc (.cells #[.string (nth cs k).name, .int .i64 s, .slice A' n' c'] 46)) hs4 (v + 1)
        rw [HNX.out] at this
        rwa [Nat.zero_add] at this
      case measure => simp [intOf]; omega
    · have hkm : k = cs.length := by rw [HL.out]; omega
      go_wp2_with fail
      go_ret
      refine ⟨_, _, _, rfl, ?_, HB1.out.trans (HBR.out.mono HB1.out.size)⟩
      have := HY.out
      rw [hkm, List.take_length] at this
      rw [HE.out]
      exact this.lower HB1.out.size

set_option maxRecDepth 100000 in
set_option maxHeartbeats 1000000 in
theorem statesS_any (A B : Option Addr) (n c m d : Nat) (f : Flow) (cs : List Case) (lo lo' : Nat) (w : World) (hr : RStep w lo A n f.steps) (hok : okSteps f.steps) (hd : RCase w lo' B m cs) (hcs : okCases cs) :
    Calls Try.prog 29 #[.agg #[.int .i64 f.ver, .slice A n c], .slice B m d] w fun e w' => ∃ A' n' c', e = .returned (.slice A' n' c') ∧ RInt w' w.heap.size A' n' (stL f cs) ∧ Below w.heap.size w w' := by
  have HL := Lib.hid hd.1
  have hm : m ≤ 1048576 := by have := hcs.1; rw [hd.1] at this; exact this
  have HB0 := Lib.hid ((Below.refl w.heap.size w).alloc (Nat.le_refl _) (.cells #[.int .i64 f.ver, .slice A n c] 29))
  have HD0 := Lib.hid (hd.alloc (.cells #[.int .i64 f.ver, .slice A n c] 29)); clear hd
  obtain ⟨i0, hi0, hz0, hz1, hz2⟩ := info_parts info_int
  go_enter Try.func29, Try.ntmps29
  go_wp2_with fail
  refine (poolS_any _ _ _ _ _ _ f cs _ _ _ (hr.alloc _) hok HD0.out hcs).mono ?_
  rintro e w1 ⟨rfl, hb⟩
  have HB1 := Lib.hid (HB0.out.trans (hb.mono HB0.out.size))
  have HD1 := Lib.hid (HD0.out.below hb)
  clear hb HB0 HD0
  cases hp : poolB f cs
  · have HE := Lib.hid (stL_no hp); clear hp
    go_wp2_with fail
    go_ret
    exact ⟨_, _, _, rfl, by rw [HE.out]; exact RL.nil, HB1.out.alloc HB1.out.size _⟩
  have HE := Lib.hid (stL_yes hp)
  have HST := Lib.hid (fun k (hk : k < m) => case_st hp (k := k) (by rw [HL.out]; exact hk)); clear hp
  go_wp2_with (at_make; refine wpList_make_full _ rfl _ _ 39 rfl w1.heap.size 3 i0 _ 1 Try.underlying39 hi0 hz0 hz1 _ _ _ _ 4 rfl rfl rfl rfl ?c1 ?c2 (Nat.le_refl _) ?_)
  case c1 => rw [hz2]; omega
  case c2 => unfold maxLen; omega
  intro w2 hown hgr
  have hbw : Below w1.heap.size w1 w2 := (Below.refl _ _).grown hgr (Nat.le_refl _) (by simp)
  obtain ⟨A1, c1, hv1, hr1⟩ := own_fresh_int hown
  injection hv1 with hA1 hn1 hc1
  subst hA1
  clear hn1 hc1 hown hgr
  have HR2 := Lib.hid hr1; clear hr1
  have HB2 := Lib.hid hbw; clear hbw
  go_wp2_with fail
  go_loopw [6] (fun i wr => ∃ k : Nat, k ≤ m ∧ i = .int .i64 (k : Int) ∧ RInt wr w1.heap.size (some ⟨w1.heap.size, 0, none⟩) 4 (cntL (cs.take k)) ∧ Below w1.heap.size w1 wr) (fun i _ => m - (intOf i).toNat)
  case atStart => exact ⟨0, Nat.zero_le _, rfl, HR2.out, HB2.out⟩
  case round =>
    obtain ⟨k, hk, rfl, hy, hb⟩ := hrel
    have HY := Lib.hid hy; clear hy
    have HBR := Lib.hid hb; clear hb
    by_cases hlt : k < m
    · obtain ⟨b, off, rfl, _, hc⟩ := RCase.at_ (HD1.out.below HBR.out) hlt
      obtain ⟨A', n', c', ⟨d1, d2, d3⟩, _⟩ := hc k hlt
      clear hc
      obtain ⟨s, hs4, hst⟩ := HST.out k hlt
      have HNX := Lib.hid (cntL_next (cs := cs) (by rw [HL.out]; exact hlt) hst hs4)
      rw [hst] at d2
      obtain ⟨v0, v1⟩ := cntL_small (cs := cs) (k := k) hs4 (by rw [HL.out]; exact hm)
      obtain ⟨b', off', e', _, hc⟩ := RInt.at_ HY.out hs4
      injection e' with e'; injection e' with e1 e2
      have HE1 := Lib.hid e1; clear e1
      subst e2
      obtain ⟨f1, f2⟩ := hc s hs4
      rw [← HE1.out, Nat.zero_add] at f1 f2
      clear hc
      generalize nth (cntL (cs.take k)) s = v at *
      have hs0 : ¬ ((s : Int) < 0) := by omega
      have hs1 : (s : Int) < 4 := by omega
      go_wp2_with fail
      go_region
      go_wp2_with fail
      go_roundw
      case rel =>
        refine ⟨k + 1, by omega, by go_num, ?_, (HBR.out.setCell (p := ⟨w1.heap.size, s, none⟩) (Nat.le_refl _) (.int .i64 (v + 1))).drew⟩
        have := RInt.set_ HY.out hs4 (v + 1)
        rw [HNX.out] at this
        rw [Nat.zero_add] at this
        exact this.drew
      case measure => simp [intOf]; omega
    · have hkm : k = cs.length := by rw [HL.out]; omega
      go_wp2_with fail
      go_ret
      refine ⟨_, _, _, rfl, ?_, HB1.out.trans (HBR.out.mono HB1.out.size)⟩
      have := HY.out
      rw [hkm, List.take_length] at this
      rw [HE.out]
      exact this.lower HB1.out.size
end Go.Proofs.Ytfcbpgpmafmkhaa

/- Comparing lists of integers. -/
namespace Go.Proofs.Ytfcbpgpmafmkhaa
open Go.RowKit

theorem sameInts_same (A B : Option Addr) (n c d : Nat) (xs : List Int) (lo lo' : Nat) (w : World) (hr : RInt w lo A n xs) (hn : n ≤ 1048576) (hr' : RInt w lo' B n xs) :
    Calls Try.prog 30 #[.slice A n c, .slice B n d] w fun e w' => e = .returned (.bool true) ∧ ∃ k, w' = w.drewN k := by
  have HX := Lib.hid hr; clear hr
  have HY := Lib.hid hr'; clear hr'
  go_enter Try.func30, Try.ntmps30
  go_wp2
  go_loopw [5] (fun i wr => ∃ k q : Nat, k ≤ n ∧ i = .int .i64 k ∧ wr = w.drewN q) (fun i _ => n - (intOf i).toNat)
  case atStart => exact ⟨0, 0, Nat.zero_le _, rfl, rfl⟩
  case round =>
    obtain ⟨k, q, hk, rfl, rfl⟩ := hrel
    by_cases hlt : k < n
    · obtain ⟨b, off, rfl, _, hc⟩ := HX.out.at_ hlt
      obtain ⟨c1, _⟩ := hc k hlt
      clear hc
      obtain ⟨b', off', rfl, _, hc⟩ := HY.out.at_ hlt
      obtain ⟨c2, _⟩ := hc k hlt
      clear hc
      generalize nth xs k = z at *
      have hq : (z != z) = false := by simp
      go_wp2_with fail
      go_quiet (fail)
      go_wp2_with fail
      go_roundw
      case rel => exact ⟨k + 1, _, by omega, by go_num, rfl⟩
      case measure => simp [intOf]; omega
    · go_wp2_with fail
      go_ret
      exact ⟨rfl, _, rfl⟩
end Go.Proofs.Ytfcbpgpmafmkhaa
