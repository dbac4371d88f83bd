/- Contracts of functions and plain lemmas, joined. No condition but those that each states. -/
import Derived.Test.YthcpjkhijjkolaaZC
import Derived.Test.YthcpjkhijjkolaaZD
import Derived.Test.YthcpjkhijjkolaaZA

/- Reports: how many cases have each state, both. -/
namespace Go.Proofs.Ythcpjkhijjkolaa
open Go.RowKit

theorem Cl.alloc_ {w : World} {b o : Nat} {v : Value} (h : Cl w b o v) (ob : Obj) : Cl (w.alloc ob) b o v :=
  h.same (Same.of_below (lo := 0) ((Below.refl w.heap.size w).alloc (Nat.le_refl _) ob)) (Nat.zero_le _) (World.block_lt_of_cell? w _ h.1)
def cntL (cs : List Case) : List Int := [((stN cs 0 : Nat) : Int), ((stN cs 1 : Nat) : Int), ((stN cs 2 : Nat) : Int), ((stN cs 3 : Nat) : Int)]
theorem cntL_at (cs : List Case) {s : Nat} (hs : s < 4) : nth (cntL cs) s = ((stN cs (s : Int) : Nat) : Int) := by
  match s, hs with
  | 0, _ => rfl
  | 1, _ => rfl
  | 2, _ => rfl
  | 3, _ => rfl
theorem cntL_next {cs : List Case} {k s : Nat} (hk : k < cs.length) (hs : (nth cs k).st = (s : Int)) (h4 : s < 4) : (cntL (cs.take k)).set s (nth (cntL (cs.take k)) s + 1) = cntL (cs.take (k + 1)) := by
  rw [take_nth hk]
  refine list_ext (by simp [cntL]) fun j hj => ?_
  have hj4 : j < 4 := by simpa [cntL] using hj
  rw [nth_set (by simpa [cntL] using h4), cntL_at _ hj4, cntL_at _ h4, cntL_at _ hj4, stN_snoc, hs]
  by_cases e : j = s
  · subst e; simp
  · rw [if_neg e, if_neg (by omega)]; simp
theorem cntL_small {cs : List Case} {k s : Nat} (hs : s < 4) (hk : cs.length ≤ 1048576) : 0 ≤ nth (cntL (cs.take k)) s ∧ nth (cntL (cs.take k)) s ≤ 1048576 := by
  rw [cntL_at _ hs]
  have h1 := stN_le (cs.take k) s
  have h2 := List.length_take_le k cs
  rw [List.length_take] at h1
  omega
def stL (f : Flow) (cs : List Case) : List Int := if poolB f cs = true then cntL cs else []
theorem stL_yes {f : Flow} {cs : List Case} (h : poolB f cs = true) : stL f cs = cntL cs := by unfold stL; rw [if_pos h]
theorem stL_no {f : Flow} {cs : List Case} (h : poolB f cs = false) : stL f cs = [] := by unfold stL; rw [if_neg (by rw [h]; simp)]
theorem case_st {f : Flow} {cs : List Case} (h : poolB f cs = true) {k : Nat} (hk : k < cs.length) : ∃ s : Nat, s < 4 ∧ (nth cs k).st = (s : Int) := by
  obtain ⟨h1, h2⟩ := run_state (pool_run h hk)
  exact ⟨(nth cs k).st.toNat, by omega, by omega⟩

end Go.Proofs.Ythcpjkhijjkolaa

/- Comparing lists of integers. -/
namespace Go.Proofs.Ythcpjkhijjkolaa
open Go.RowKit

end Go.Proofs.Ythcpjkhijjkolaa

/- Reports: how many cases have done each step, the program's side. -/
namespace Go.Proofs.Ythcpjkhijjkolaa
open Go.RowKit

/-- How many cases have done a step. -/
def stepN (cs : List Case) (x : Str) : Nat := (cs.filter fun c => hasB c.done x).length
theorem stepN_snoc (cs : List Case) (c : Case) (x : Str) : stepN (cs ++ [c]) x = stepN cs x + if hasB c.done x = true then 1 else 0 := by
  unfold stepN
  rw [List.filter_append, List.length_append]
  cases h : hasB c.done x <;> simp [h]
theorem stepN_yes {cs : List Case} {k : Nat} {x : Str} (hk : k < cs.length) (h : hasB (nth cs k).done x = true) : stepN (cs.take (k + 1)) x = stepN (cs.take k) x + 1 := by
  rw [take_nth hk, stepN_snoc, if_pos h]
theorem stepN_no {cs : List Case} {k : Nat} {x : Str} (hk : k < cs.length) (h : hasB (nth cs k).done x = false) : stepN (cs.take (k + 1)) x = stepN (cs.take k) x := by
  rw [take_nth hk, stepN_snoc, if_neg (by rw [h]; simp)]; rfl
theorem stepN_le (cs : List Case) (x : Str) : stepN cs x ≤ cs.length := List.length_filter_le _ _
theorem stepN_small (cs : List Case) (k : Nat) (x : Str) : stepN (cs.take k) x ≤ cs.length := Nat.le_trans (stepN_le _ _) (List.length_take_le' k cs)
def tallyL (xs : List Str) (cs : List Case) : List Int := xs.map fun x => ((stepN cs x : Nat) : Int)
theorem tallyL_len (xs : List Str) (cs : List Case) : (tallyL xs cs).length = xs.length := List.length_map _
theorem tallyL_at {xs : List Str} {cs : List Case} {i : Nat} (hi : i < xs.length) : nth (tallyL xs cs) i = ((stepN cs (nth xs i) : Nat) : Int) := by
  unfold tallyL
  rw [nth_eq (by rw [List.length_map]; exact hi), nth_eq hi]; simp

theorem repSteps1_any (A : Option Addr) (n c : Nat) (s : Case) (w : World) :
    Calls Try.prog 86 #[.agg #[.string s.name, .int .i64 s.st, .slice A n c]] w fun e w' => e = .returned (.slice A n c) ∧ Below w.heap.size w w' := by
  go_enter Try.func86, Try.ntmps86
  go_wp2_with fail
  go_ret
  exact ⟨rfl, (Below.refl _ _).alloc (Nat.le_refl _) _⟩

set_option maxRecDepth 100000 in
set_option maxHeartbeats 2000000 in
theorem tallySteps_any (A B : Option Addr) (n c m d : Nat) (xs : List Str) (cs : List Case) (lo lo' : Nat) (w : World) (hr : RStr w lo A n xs) (hn : n ≤ 1048576) (hd : RCase w lo' B m cs) (hcs : okCases cs) :
    Calls Try.prog 74 #[.slice A n c, .slice B m d, .func (.func 86) #[] #[]] w fun e w' => ∃ A' c', e = .returned (.slice A' n c') ∧ RInt w' w.heap.size A' n (tallyL xs cs) ∧ Below w.heap.size w w' := by
  have HL := Lib.hid hd.1
  have HLx := Lib.hid hr.1
  have hm : m ≤ 1048576 := by have := hcs.1; rw [hd.1] at this; exact this
  have HR := Lib.hid hr; clear hr
  have HD := Lib.hid hd; clear hd
  have HC := Lib.hid hcs; clear hcs
  obtain ⟨i0, hi0, hz0, hz1, hz2⟩ := info_parts info_int
  go_enter Try.func74, Try.ntmps74
  go_wp2_with (at_make; refine wpList_make_full _ rfl _ _ 62 rfl w.heap.size 3 i0 _ 1 Try.underlying62 hi0 hz0 hz1 _ _ _ _ n rfl rfl rfl rfl ?c1 ?c2 (Nat.le_refl _) ?_)
  case c1 => rw [hz2]; omega
  case c2 => unfold maxLen; omega
  intro w1 hown hgr
  have hbw : Below w.heap.size w w1 := (Below.refl _ _).grown hgr (Nat.le_refl _) (by simp)
  obtain ⟨A1, c1, hv1, hr1⟩ := own_fresh_int hown
  injection hv1 with hA1 hn1 hc1
  subst hA1
  clear hn1 hc1 hown hgr
  have HR1 := Lib.hid hr1; clear hr1
  have HB1 := Lib.hid hbw; clear hbw
  go_wp2_with fail
  go_loopw [18] (fun i wr => ∃ (k : Nat) (ys : List Int), k ≤ m ∧ i = .int .i64 (k : Int) ∧ RInt wr w.heap.size (some ⟨w.heap.size, 0, none⟩) n ys ∧ (∀ l, l < n → nth ys l = ((stepN (cs.take k) (nth xs l) : Nat) : Int)) ∧ Below w.heap.size w wr) (fun i _ => m - (intOf i).toNat)
  case atStart => exact ⟨0, _, Nat.zero_le _, rfl, HR1.out, fun l hl => nth_rep hl, HB1.out⟩
  case round =>
    obtain ⟨wo, rfl⟩ : ∃ wo : World, wo = wr := ⟨_, rfl⟩
    obtain ⟨k, ys, hk, rfl, hy, hp, hb⟩ := hrel
    have HY := Lib.hid hy; clear hy
    have HP := Lib.hid hp; clear hp
    have HB := Lib.hid hb; clear hb
    by_cases hlt : k < m
    · obtain ⟨b, off, rfl, _, hc⟩ := RCase.at_ (HD.out.below HB.out) hlt
      obtain ⟨A', n', c', ⟨d1, d2, d3⟩, hdr, _⟩ := hc k hlt
      clear hc
      have hkl : k < cs.length := by rw [HL.out]; exact hlt
      have hn' : n' ≤ 1048576 := by rw [← hdr.1]; exact (HC.out.2 k hkl).2
      have HDR := Lib.hid (hdr.alloc (.cells #[.string (nth cs k).name, .int .i64 (nth cs k).st, .slice A' n' c'] 53)); clear hdr
      have HY2 := Lib.hid (HY.out.alloc (.cells #[.string (nth cs k).name, .int .i64 (nth cs k).st, .slice A' n' c'] 53))
      have HB2 := Lib.hid (HB.out.alloc HB.out.size (.cells #[.string (nth cs k).name, .int .i64 (nth cs k).st, .slice A' n' c'] 53))
      go_wp2_with fail
      refine (repSteps1_any _ _ _ (nth cs k) _).mono ?_
      rintro e w3 ⟨rfl, hb3⟩
      have HDR3 := Lib.hid (HDR.out.below hb3)
      have HY3 := Lib.hid (HY2.out.below hb3)
      have HB3 := Lib.hid (HB2.out.trans (hb3.mono HB2.out.size))
      clear hb3 HY2 HB2 HDR d1 d2 d3
      go_wp2_with fail
      go_loopw [27] (fun i wr => ∃ (j : Nat) (zs : List Int), j ≤ n ∧ i = .int .i64 (j : Int) ∧ RInt wr w.heap.size (some ⟨w.heap.size, 0, none⟩) n zs ∧ (∀ l, l < j → nth zs l = ((stepN (cs.take (k + 1)) (nth xs l) : Nat) : Int)) ∧ (∀ l, j ≤ l → l < n → nth zs l = ((stepN (cs.take k) (nth xs l) : Nat) : Int)) ∧ Below w.heap.size w wr ∧ RStr wr lo' A' n' (nth cs k).done) (fun i _ => n - (intOf i).toNat)
      case atStart => exact ⟨0, ys, Nat.zero_le _, rfl, HY3.out, fa_zero, fun l _ hl => HP.out l hl, HB3.out, HDR3.out⟩
      case round =>
        obtain ⟨j, zs, hj, rfl, hz, hp1, hp2, hbz, hdz⟩ := hrel
        have HZ := Lib.hid hz; clear hz
        have HP1 := Lib.hid hp1; clear hp1
        have HP2 := Lib.hid hp2; clear hp2
        have HBZ := Lib.hid hbz; clear hbz
        have HDZ := Lib.hid hdz; clear hdz
        by_cases hlt2 : j < n
        · obtain ⟨bx, ox, rfl, _, hc⟩ := RStr.at_ (HR.out.below HBZ.out) hlt2
          obtain ⟨x1, _⟩ := hc j hlt2
          clear hc
          have HCON := Lib.hid (contains_any A' n' c' (nth cs k).done (nth xs j) _ wr HDZ.out hn')
          cases hh : hasB (nth cs k).done (nth xs j)
          · have HT := Lib.hid (stepN_no hkl hh)
            rw [hh] at HCON
            clear hh
            go_wp2_with (go_at_call 108; refine HCON.out.mono ?_; rintro e w' ⟨rfl, rfl⟩)
            go_roundw
            case rel =>
              refine ⟨j + 1, zs, by omega, by go_num, HZ.out, fun l hl => ?_, fun l h1 h2 => HP2.out l (by omega) h2, HBZ.out, HDZ.out⟩
              rcases Nat.lt_succ_iff_lt_or_eq.1 hl with h | rfl
              · exact HP1.out l h
              · rw [HT.out]; exact HP2.out l (Nat.le_refl _) hlt2
            case measure => simp [intOf]; omega
          · have HT := Lib.hid (stepN_yes hkl hh)
            rw [hh] at HCON
            clear hh
            obtain ⟨b', off', e', _, hc⟩ := RInt.at_ HZ.out hlt2
            injection e' with e'; injection e' with e1 e2
            have HE1 := Lib.hid e1; clear e1
            subst e2
            obtain ⟨f1, f2⟩ := hc j hlt2
            rw [← HE1.out, Nat.zero_add] at f1 f2
            rw [HP2.out j (Nat.le_refl _) hlt2] at f1
            clear hc
            have hv := stepN_small cs k (nth xs j)
            rw [HL.out] at hv
            have HVV := Lib.hid (HP2.out j (Nat.le_refl _) hlt2)
            have HTJ := HT.out
            generalize stepN (cs.take k) (nth xs j) = v at *
            go_wp2_with (go_at_call 108; refine HCON.out.mono ?_; rintro e w' ⟨rfl, rfl⟩)
            go_roundw
            case rel =>
              have hset := RInt.set_ HZ.out hlt2 ((v : Int) + 1)
              rw [Nat.zero_add] at hset
              refine ⟨j + 1, zs.set j ((v : Int) + 1), by omega, by go_num, hset, fun l hl => ?_, fun l h1 h2 => ?_, HBZ.out.setCell (Nat.le_refl _) _, ?_⟩
              · rw [nth_set (by rw [HZ.out.1]; exact hlt2)]
                by_cases el : l = j
                · subst el
                  rw [if_pos rfl, HTJ]; simp
                · rw [if_neg el]; exact HP1.out l (by omega)
              · rw [nth_set (by rw [HZ.out.1]; exact hlt2), if_neg (by omega)]
                exact HP2.out l (by omega) h2
              · exact (RStr.set_ne HDZ.out.low ⟨f1, f2⟩ (fun s e => by cases e)).up (by simp)
            case measure => simp [intOf]; omega
        · obtain rfl : j = n := by omega
          go_wp2_with fail
          go_roundw
          case rel => exact ⟨k + 1, zs, by omega, by go_num, HZ.out, fun l hl => HP1.out l hl, HBZ.out⟩
          case measure => simp [intOf]; omega
    · have hkm : k = cs.length := by rw [HL.out]; omega
      go_wp2_with fail
      go_ret
      refine ⟨_, _, rfl, ?_, HB.out⟩
      have e : ys = tallyL xs cs := list_ext (by rw [HY.out.1, tallyL_len, HLx.out]) (fun l hl => by
        rw [HY.out.1] at hl
        rw [HP.out l hl, tallyL_at (by rw [HLx.out]; exact hl), hkm, List.take_length])
      rw [← e]
      exact HY.out

def stpL (f : Flow) (cs : List Case) : List Int := if poolB f cs = true then tallyL (namesOf f.steps) cs else []
theorem stpL_yes {f : Flow} {cs : List Case} (h : poolB f cs = true) : stpL f cs = tallyL (namesOf f.steps) cs := by unfold stpL; rw [if_pos h]
theorem stpL_no {f : Flow} {cs : List Case} (h : poolB f cs = false) : stpL f cs = [] := by unfold stpL; rw [if_neg (by rw [h]; simp)]

set_option maxRecDepth 100000 in
theorem stepsI_any (A B : Option Addr) (n c m d : Nat) (f : Flow) (cs : List Case) (lo lo' : Nat) (w : World) (hr : RStep w lo A n f.steps) (hok : okSteps f.steps) (hd : RCase w lo' B m cs) (hcs : okCases cs) :
    Calls Try.prog 34 #[.agg #[.int .i64 f.ver, .slice A n c], .slice B m d] w fun e w' => ∃ A' n' c', e = .returned (.slice A' n' c') ∧ RInt w' w.heap.size A' n' (stpL f cs) ∧ Below w.heap.size w w' := by
  have hn : n ≤ 1048576 := by have := hok.1; rw [hr.1] at this; exact this
  have HB0 := Lib.hid ((Below.refl w.heap.size w).alloc (Nat.le_refl _) (.cells #[.int .i64 f.ver, .slice A n c] 33))
  have HD0 := Lib.hid (hd.alloc (.cells #[.int .i64 f.ver, .slice A n c] 33)); clear hd
  have HR0 := Lib.hid (hr.alloc (.cells #[.int .i64 f.ver, .slice A n c] 33)); clear hr
  have HX0 := Lib.hid (heap_new (w := w) (o := .cells #[.int .i64 f.ver, .slice A n c] 33) rfl)
  go_enter Try.func34, Try.ntmps34
  go_wp2_with fail
  refine (poolI_any _ _ _ _ _ _ f cs _ _ _ HR0.out hok HD0.out hcs).mono ?_
  rintro e w1 ⟨rfl, hb⟩
  have HB1 := Lib.hid (HB0.out.trans (hb.mono HB0.out.size))
  have HD1 := Lib.hid (HD0.out.below hb)
  have HR1 := Lib.hid (HR0.out.below hb)
  have HX1 := Lib.hid ((hb.block _ (heap_lt HX0.out)).trans HX0.out)
  clear hb HB0 HD0 HR0 HX0
  cases hp : poolB f cs
  · have HE := Lib.hid (stpL_no hp); clear hp
    go_wp2_with fail
    go_ret
    exact ⟨_, _, _, rfl, by rw [HE.out]; exact RL.nil, HB1.out⟩
  have HE := Lib.hid (stpL_yes hp); clear hp
  have x0 := (blk_cl (k := 0) HX1.out rfl).1
  have x1 := (blk_cl (k := 1) HX1.out rfl).1
  go_wp2_with fail
  refine (names_any _ _ _ f.ver f.steps _ _ HR1.out hn).mono ?_
  rintro e w2 ⟨A2, c2, rfl, h2, hb2⟩
  have HD2 := Lib.hid (HD1.out.below hb2)
  have H2 := Lib.hid h2; clear h2
  have HB2 := Lib.hid (HB1.out.trans (hb2.mono HB1.out.size)); clear hb2 x0 x1
  go_wp2_with fail
  refine (tallySteps_any _ _ _ _ _ _ (namesOf f.steps) cs _ _ _ H2.out hn HD2.out hcs).mono ?_
  rintro e w3 ⟨A3, c3, rfl, h3, hb3⟩
  have H3 := Lib.hid h3; clear h3
  have HB3 := Lib.hid (HB2.out.trans (hb3.mono HB2.out.size)); clear hb3
  go_wp2_with fail
  go_ret
  exact ⟨_, _, _, rfl, by rw [HE.out]; exact H3.out.lower HB2.out.size, HB3.out⟩
end Go.Proofs.Ythcpjkhijjkolaa

/- Reports: how many cases have done each step, the reference's side. -/
namespace Go.Proofs.Ythcpjkhijjkolaa
open Go.RowKit

set_option maxRecDepth 100000 in
set_option maxHeartbeats 2000000 in
theorem stepsS_any (A B : Option Addr) (n c m d : Nat) (f : Flow) (cs : List Case) (lo lo' : Nat) (w : World) (hr : RStep w lo A n f.steps) (hok : okSteps f.steps) (hd : RCase w lo' B m cs) (hcs : okCases cs) :
    Calls Try.prog 33 #[.agg #[.int .i64 f.ver, .slice A n c], .slice B m d] w fun e w' => ∃ A' n' c', e = .returned (.slice A' n' c') ∧ RInt w' w.heap.size A' n' (stpL f cs) ∧ Below w.heap.size w w' := by
  have hn : n ≤ 1048576 := by have := hok.1; rw [hr.1] at this; exact this
  have HL := Lib.hid hd.1
  have HLn := Lib.hid hr.1
  have hm : m ≤ 1048576 := by have := hcs.1; rw [hd.1] at this; exact this
  have HC := Lib.hid hcs; clear hcs
  have HB0 := Lib.hid ((Below.refl w.heap.size w).alloc (Nat.le_refl _) (.cells #[.int .i64 f.ver, .slice A n c] 33))
  have HD0 := Lib.hid (hd.alloc (.cells #[.int .i64 f.ver, .slice A n c] 33)); clear hd
  have HR0 := Lib.hid (hr.alloc (.cells #[.int .i64 f.ver, .slice A n c] 33)); clear hr
  have HX0 := Lib.hid (heap_new (w := w) (o := .cells #[.int .i64 f.ver, .slice A n c] 33) rfl)
  obtain ⟨i0, hi0, hz0, hz1, hz2⟩ := info_parts info_int
  go_enter Try.func33, Try.ntmps33
  go_wp2_with fail
  refine (poolS_any _ _ _ _ _ _ f cs _ _ _ HR0.out hok HD0.out HC.out).mono ?_
  rintro e w1 ⟨rfl, hb⟩
  have HB1 := Lib.hid (HB0.out.trans (hb.mono HB0.out.size))
  have HD1 := Lib.hid (HD0.out.below hb)
  have HR1 := Lib.hid (HR0.out.below hb)
  have HX1 := Lib.hid ((hb.block _ (heap_lt HX0.out)).trans HX0.out)
  clear hb HB0 HD0 HR0 HX0
  cases hp : poolB f cs
  · have HE := Lib.hid (stpL_no hp); clear hp
    go_wp2_with fail
    go_ret
    exact ⟨_, _, _, rfl, by rw [HE.out]; exact RL.nil, HB1.out.alloc HB1.out.size _⟩
  have HE := Lib.hid (stpL_yes hp); clear hp
  have x1 := (blk_cl (k := 1) HX1.out rfl).1
  go_wp2_with (at_make; refine wpList_make_full _ rfl _ _ 62 rfl w1.heap.size 3 i0 _ 1 Try.underlying62 hi0 hz0 hz1 _ _ _ _ n rfl rfl rfl rfl ?c1 ?c2 (Nat.le_refl _) ?_)
  case c1 => rw [hz2]; omega
  case c2 => unfold maxLen; omega
  intro w2 hown hgr
  have hbw : Below w1.heap.size w1 w2 := (Below.refl _ _).grown hgr (Nat.le_refl _) (by simp)
  obtain ⟨A1, c1, hv1, hr1⟩ := own_fresh_int hown
  injection hv1 with hA1 hn1 hc1
  subst hA1
  clear hn1 hc1 hown hgr x1
  have HR2 := Lib.hid hr1; clear hr1
  have HB2 := Lib.hid hbw; clear hbw
  go_wp2_with fail
  go_loopw [6] (fun i wr => ∃ (k : Nat) (ys : List Int), k ≤ n ∧ i = .int .i64 (k : Int) ∧ RInt wr w1.heap.size (some ⟨w1.heap.size, 0, none⟩) n ys ∧ (∀ l, l < k → nth ys l = ((stepN cs (nth (namesOf f.steps) l) : Nat) : Int)) ∧ (∀ l, k ≤ l → l < n → nth ys l = 0) ∧ Below w1.heap.size w1 wr) (fun i _ => n - (intOf i).toNat)
  case atStart => exact ⟨0, _, Nat.zero_le _, rfl, HR2.out, fa_zero, fun l _ hl => nth_rep hl, HB2.out⟩
  case round =>
    obtain ⟨wo, rfl⟩ : ∃ wo : World, wo = wr := ⟨_, rfl⟩
    obtain ⟨k, ys, hk, rfl, hy, hp, hp0, hb⟩ := hrel
    have HY := Lib.hid hy; clear hy
    have HP := Lib.hid hp; clear hp
    have HP0 := Lib.hid hp0; clear hp0
    have HB := Lib.hid hb; clear hb
    have HX := Lib.hid ((HB.out.block _ (heap_lt HX1.out)).trans HX1.out)
    have x1 := (blk_cl (k := 1) HX.out rfl).1
    by_cases hlt : k < n
    · have hkl : k < f.steps.length := by rw [HLn.out]; exact hlt
      go_wp2_with fail
      go_loopw [7] (fun i wr => ∃ (j : Nat) (zs : List Int), j ≤ m ∧ i = .int .i64 (j : Int) ∧ RInt wr w1.heap.size (some ⟨w1.heap.size, 0, none⟩) n zs ∧ nth zs k = ((stepN (cs.take j) (nth (namesOf f.steps) k) : Nat) : Int) ∧ (∀ l, l ≠ k → l < n → nth zs l = nth ys l) ∧ Below w1.heap.size w1 wr) (fun i _ => m - (intOf i).toNat)
      case atStart => exact ⟨0, ys, Nat.zero_le _, rfl, HY.out, HP0.out k (Nat.le_refl _) hlt, fun _ _ _ => rfl, HB.out⟩
      case round =>
        obtain ⟨wq, rfl⟩ : ∃ wq : World, wq = wr := ⟨_, rfl⟩
        obtain ⟨j, zs, hj, rfl, hz, hzk, hzo, hbz⟩ := hrel
        have HZ := Lib.hid hz; clear hz
        have HZK := Lib.hid hzk; clear hzk
        have HZO := Lib.hid hzo; clear hzo
        have HBZ := Lib.hid hbz; clear hbz
        have HXZ := Lib.hid ((HBZ.out.block _ (heap_lt HX1.out)).trans HX1.out)
        clear x1
        by_cases hlt2 : j < m
        · obtain ⟨b, off, rfl, _, hc⟩ := RCase.at_ (HD1.out.below HBZ.out) hlt2
          obtain ⟨A', n', c', ⟨d1, d2, d3⟩, hdr, _⟩ := hc j hlt2
          clear hc
          obtain ⟨bs, os, rfl, _, hc⟩ := RStep.at_ (HR1.out.below HBZ.out) hlt
          obtain ⟨_, _, _, ⟨s1, _, _⟩, _⟩ := hc k hlt
          clear hc
          rw [← namesOf_at hkl] at s1
          have hjl : j < cs.length := by rw [HL.out]; exact hlt2
          have hn' : n' ≤ 1048576 := by rw [← hdr.1]; exact (HC.out.2 j hjl).2
          have x1 := (blk_cl (k := 1) HXZ.out rfl).1
          have HAT := Lib.hid (fun z => l1At_any A' n' c' (nth cs j).done (nth (namesOf f.steps) k) _ _ (hdr.drewN z) hn')
          clear hdr d1 d2
          cases hh : hasB (nth cs j).done (nth (namesOf f.steps) k)
          · have HT := Lib.hid (stepN_no hjl hh)
            have h9 := idx_neg hh
            have h10 : decide (0 ≤ idxI (nth cs j).done (nth (namesOf f.steps) k)) = false := by rw [decide_eq_false_iff_not]; omega
            clear hh
            generalize idxI (nth cs j).done (nth (namesOf f.steps) k) = z at *
            go_wp2_with fail
            go_quiet ((go_at_call 85; exact q_same (HAT.out _)))
            go_wp2_with fail
            go_roundw
            case rel => exact ⟨j + 1, zs, by omega, by go_num, HZ.out.drewN _, by rw [HT.out]; exact HZK.out, HZO.out, below_drewN HBZ.out _⟩
            case measure => simp [intOf]; omega
          · have HT := Lib.hid (stepN_yes hjl hh)
            have h9 := idx_pos hh
            have h10 : decide (0 ≤ idxI (nth cs j).done (nth (namesOf f.steps) k)) = true := by rw [decide_eq_true_iff]; exact h9
            clear hh
            generalize idxI (nth cs j).done (nth (namesOf f.steps) k) = z at *
            obtain ⟨b', off', e', _, hc⟩ := RInt.at_ HZ.out hlt
            injection e' with e'; injection e' with e1 e2
            have HE1 := Lib.hid e1; clear e1
            subst e2
            obtain ⟨f1, f2⟩ := hc k hlt
            rw [← HE1.out, Nat.zero_add, HZK.out] at f1
            rw [← HE1.out, Nat.zero_add] at f2
            clear hc
            have hv := stepN_small cs j (nth (namesOf f.steps) k)
            rw [HL.out] at hv
            have HTJ := HT.out
            generalize stepN (cs.take j) (nth (namesOf f.steps) k) = v at *
            go_wp2_with fail
            go_quiet ((go_at_call 85; exact q_same (HAT.out _)))
            go_wp2_with fail
            go_roundw
            case rel =>
              have hset := RInt.set_ HZ.out hlt ((v : Int) + 1)
              rw [Nat.zero_add] at hset
              refine ⟨j + 1, zs.set k ((v : Int) + 1), by omega, by go_num, hset.drewN _, ?_, fun l h1 h2 => ?_, below_drewN (HBZ.out.setCell (p := ⟨w1.heap.size, k, none⟩) (Nat.le_refl _) (.int .i64 ((v : Int) + 1))) _⟩
              · rw [nth_set (by rw [HZ.out.1]; exact hlt), if_pos rfl, HTJ]; simp
              · rw [nth_set (by rw [HZ.out.1]; exact hlt), if_neg h1]
                exact HZO.out l h1 h2
            case measure => simp [intOf]; omega
        · have hjm : j = cs.length := by rw [HL.out]; omega
          have HZ2 : Hid (nth zs k = ((stepN cs (nth (namesOf f.steps) k) : Nat) : Int)) := by
            have := HZK.out
            rw [hjm, List.take_length] at this
            exact this
          clear hjm
          go_wp2_with fail
          go_roundw
          case rel =>
            refine ⟨k + 1, zs, by omega, by go_num, HZ.out, fun l hl => ?_, fun l h1 h2 => ?_, HBZ.out⟩
            · rcases Nat.lt_succ_iff_lt_or_eq.1 hl with h | rfl
              · rw [HZO.out l (by omega) (by omega)]; exact HP.out l h
              · exact HZ2.out
            · rw [HZO.out l (by omega) h2]; exact HP0.out l (by omega) h2
          case measure => simp [intOf]; omega
    · have hkn : k = n := by omega
      go_wp2_with fail
      go_ret
      refine ⟨_, _, _, rfl, ?_, HB1.out.trans (HB.out.mono HB1.out.size)⟩
      have e : ys = tallyL (namesOf f.steps) cs := list_ext (by rw [HY.out.1, tallyL_len, namesOf_len, HLn.out]) (fun l hl => by
        rw [HY.out.1] at hl
        rw [HP.out l (by omega), tallyL_at (by rw [namesOf_len, HLn.out]; exact hl)])
      rw [HE.out, ← e]
      exact HY.out.lower HB1.out.size
end Go.Proofs.Ythcpjkhijjkolaa

/- How often steps are done: plain laws. -/
namespace Go.Proofs.Ythcpjkhijjkolaa

def sumD (cs : List Case) : Nat := (cs.map fun c => c.done.length).sum
def sumT (xs : List Str) (cs : List Case) : Nat := (xs.map fun x => stepN cs x).sum
theorem sumD_next {cs : List Case} {k : Nat} (hk : k < cs.length) : sumD (cs.take (k + 1)) = sumD (cs.take k) + (nth cs k).done.length := by
  unfold sumD; rw [take_nth hk]; simp
theorem sumT_next {xs : List Str} {cs : List Case} {i : Nat} (hi : i < xs.length) : sumT (xs.take (i + 1)) cs = sumT (xs.take i) cs + stepN cs (nth xs i) := by
  unfold sumT; rw [take_nth hi]; simp
theorem stepN_cons (c : Case) (cs : List Case) (x : Str) : stepN (c :: cs) x = (if hasB c.done x = true then 1 else 0) + stepN cs x := by
  unfold stepN
  rw [List.filter_cons]
  cases h : hasB c.done x <;> simp; omega
theorem sumT_cons (xs : List Str) (c : Case) (cs : List Case) : sumT xs (c :: cs) = (xs.filter fun x => hasB c.done x).length + sumT xs cs := by
  induction xs with
  | nil => rfl
  | cons x xs ih =>
    unfold sumT at ih ⊢
    rw [List.map_cons, List.sum_cons, ih, stepN_cons, List.filter_cons, List.map_cons, List.sum_cons]
    cases h : hasB c.done x <;> simp <;> omega
theorem sum_eq {xs : List Str} (hn : xs.Nodup) {cs : List Case} (h : ∀ c ∈ cs, c.done.Nodup ∧ ∀ x ∈ c.done, x ∈ xs) : sumT xs cs = sumD cs := by
  induction cs with
  | nil =>
    unfold sumT sumD
    have : (xs.map fun x => stepN [] x) = xs.map fun _ => 0 := rfl
    rw [this]
    clear this hn h
    induction xs with
    | nil => rfl
    | cons x xs ih => simpa using ih
  | cons c cs ih =>
    rw [sumT_cons, ih (fun c' hc => h c' (List.mem_cons_of_mem _ hc))]
    obtain ⟨h1, h2⟩ := h c (List.mem_cons_self ..)
    have e : (xs.filter fun x => hasB c.done x).length = c.done.length := by
      apply Nat.le_antisymm
      · exact nodup_le (hn.sublist List.filter_sublist) (fun x hx => hasB_true.1 (List.mem_filter.1 hx).2)
      · exact nodup_le h1 (fun x hx => List.mem_filter.2 ⟨h2 x hx, hasB_true.2 hx⟩)
    rw [e]
    unfold sumD
    simp
theorem run_nodup {f : Flow} {st : Int} {done : List Str} (h : runB f st done = true) : done.Nodup ∧ (∀ x ∈ done, x ∈ namesOf f.steps) ∧ done.length ≤ f.steps.length := by
  have ho := run_ord h
  refine ⟨by have := ord_nodup ho done.length (Nat.le_refl _); rwa [List.take_length] at this, fun x hx => ?_, ord_len ho⟩
  obtain ⟨j, hj, rfl⟩ := nth_of_mem hx
  exact hasB_true.1 (ord_all ho j hj)
theorem pool_sums {f : Flow} {cs : List Case} (h : poolB f cs = true) : sumT (namesOf f.steps) cs = sumD cs :=
  sum_eq (flow_nodup (pool_flow h)) fun c hc => by
    obtain ⟨j, hj, rfl⟩ := nth_of_mem hc
    obtain ⟨h1, h2, _⟩ := run_nodup (pool_run h hj)
    exact ⟨h1, h2⟩
theorem sumD_le {cs : List Case} {b k : Nat} (h : ∀ c ∈ cs, c.done.length ≤ b) : sumD (cs.take k) ≤ k * b := by
  induction k with
  | zero => simp [sumD]
  | succ k ih =>
    by_cases hk : k < cs.length
    · rw [sumD_next hk, Nat.succ_mul]
      have := h _ (mem_nth hk)
      omega
    · rw [List.take_of_length_le (by omega)] at ih ⊢
      exact Nat.le_trans ih (Nat.mul_le_mul_right _ (Nat.le_succ _))
theorem sumT_mono (xs : List Str) (cs : List Case) (i : Nat) : sumT (xs.take i) cs ≤ sumT xs cs := by
  have h : sumT xs cs = sumT (xs.take i) cs + sumT (xs.drop i) cs := by
    unfold sumT
    rw [← List.sum_append, ← List.map_append, List.take_append_drop]
  omega
/-- Who is done has done what comes before. -/
theorem run_after {f : Flow} {st : Int} {done : List Str} (h : runB f st done = true) {i : Nat} (hi : i < f.steps.length) (hd : hasB done (nth f.steps i).name = true) {y : Str} (hy : y ∈ (nth f.steps i).after) : hasB done y = true := by
  obtain ⟨j, hj, he⟩ := nth_of_mem (hasB_true.1 hd)
  have h1 := allN_iff.1 (run_ord h) j hj
  unfold ordAt at h1
  simp only [Bool.and_eq_true] at h1
  obtain ⟨⟨h2, _⟩, h3⟩ := h1
  obtain ⟨p1, _, p3⟩ := plc_ex h2
  have e : plc f.steps (nth done j) = i := nodup_at (flow_nodup (run_flow h)) (by rw [namesOf_len]; exact p1) (by rw [namesOf_len]; exact hi) (by rw [namesOf_at p1, namesOf_at hi, p3, he])
  rw [e] at h3
  exact hasB_true.2 (List.mem_of_mem_take (haveB_iff.1 h3 y hy))
theorem stepN_after {f : Flow} {cs : List Case} (h : poolB f cs = true) {i k : Nat} (hi : i < f.steps.length) (hk : (nth f.steps k).name ∈ (nth f.steps i).after) : stepN cs (nth f.steps i).name ≤ stepN cs (nth f.steps k).name := by
  unfold stepN
  have e : (cs.filter fun c => hasB c.done (nth f.steps i).name) = ((cs.filter fun c => hasB c.done (nth f.steps k).name).filter fun c => hasB c.done (nth f.steps i).name) := by
    rw [List.filter_filter]
    apply List.filter_congr
    intro c hc
    cases h1 : hasB c.done (nth f.steps i).name
    · rfl
    · obtain ⟨j, hj, rfl⟩ := nth_of_mem hc
      rw [run_after (pool_run h hj) hi h1 hk]; rfl
  rw [e]
  exact List.length_filter_le _ _
end Go.Proofs.Ythcpjkhijjkolaa
