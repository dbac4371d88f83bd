/- FnSlowNone returns true at every input, and leaves its arguments as they were. No condition. -/
import Derived.Test.YthcpjkhijjkolaaZC
import Derived.Test.YthcpjkhijjkolaaZE
import Derived.Test.YthcpjkhijjkolaaZD
import Derived.Test.YthcpjkhijjkolaaZB

/- Reports: how many cases can do a step next, the reference's side. -/
namespace Go.Proofs.Ythcpjkhijjkolaa
open Go.RowKit

def canN (f : Flow) (cs : List Case) (x : Str) : Nat := (cs.filter fun c => canB f c.st c.done x).length
theorem canN_yes {f : Flow} {cs : List Case} {k : Nat} {x : Str} (hk : k < cs.length) (h : canB f (nth cs k).st (nth cs k).done x = true) : canN f (cs.take (k + 1)) x = canN f (cs.take k) x + 1 := by
  unfold canN; rw [take_nth hk, List.filter_append, List.length_append]; simp [h]
theorem canN_no {f : Flow} {cs : List Case} {k : Nat} {x : Str} (hk : k < cs.length) (h : canB f (nth cs k).st (nth cs k).done x = false) : canN f (cs.take (k + 1)) x = canN f (cs.take k) x := by
  unfold canN; rw [take_nth hk, List.filter_append, List.length_append]; simp [h]
theorem canN_le (f : Flow) (cs : List Case) (x : Str) : canN f cs x ≤ cs.length := List.length_filter_le _ _

set_option maxRecDepth 100000 in
set_option maxHeartbeats 1000000 in
theorem l33Can_any (A B : Option Addr) (n c m d : Nat) (f : Flow) (cs : List Case) (x : Str) (lo lo' : Nat) (w : World) (hr : RStep w lo A n f.steps) (hok : okSteps f.steps) (hd : RCase w lo' B m cs) (hcs : okCases cs) :
    Calls Try.prog 79 #[.agg #[.int .i64 f.ver, .slice A n c], .slice B m d, .string x] w fun e w' => e = .returned (.int .i64 ((canN f cs x : Nat) : Int)) ∧ Below w.heap.size w w' := by
  have HL := Lib.hid hd.1
  have hm : m ≤ 1048576 := by have := hcs.1; rw [hd.1] at this; exact this
  have HC := Lib.hid hcs; clear hcs
  have HB0 := Lib.hid ((Below.refl w.heap.size w).alloc (Nat.le_refl _) (.cells #[.int .i64 f.ver, .slice A n c] 33))
  have HD0 := Lib.hid (hd.alloc (.cells #[.int .i64 f.ver, .slice A n c] 33)); clear hd
  have HR0 := Lib.hid (hr.alloc (.cells #[.int .i64 f.ver, .slice A n c] 33)); clear hr
  have HX0 := Lib.hid (heap_new (w := w) (o := .cells #[.int .i64 f.ver, .slice A n c] 33) rfl)
  go_enter Try.func79, Try.ntmps79
  go_wp2_with fail
  generalize ew0 : w.alloc (.cells #[.int .i64 f.ver, .slice A n c] 33) = w0 at *
  clear ew0
  go_loopw [7, 8] (fun o i wr => ∃ k : Nat, k ≤ m ∧ i = .int .i64 (k : Int) ∧ o = .int .i64 ((canN f (cs.take k) x : Nat) : Int) ∧ Below w0.heap.size w0 wr) (fun _ i _ => m - (intOf i).toNat)
  case atStart => exact ⟨0, Nat.zero_le _, rfl, by simp [canN], Below.refl _ _⟩
  case round =>
    obtain ⟨k, hk, rfl, rfl, hbw⟩ := hrel
    have HBW := Lib.hid hbw; clear hbw
    have hz := canN_le f (cs.take k) x
    have hz2 : canN f (cs.take k) x ≤ 1048576 := by rw [List.length_take] at hz; omega
    clear hz
    by_cases hlt : k < m
    · have hkl : k < cs.length := by rw [HL.out]; exact hlt
      have HXW := Lib.hid ((HBW.out.block _ (heap_lt HX0.out)).trans HX0.out)
      obtain ⟨b, off, rfl, ⟨_, hb2⟩, hc⟩ := RCase.at_ (HD0.out.below HBW.out) hlt
      obtain ⟨A', n', c', ⟨d1, d2, d3⟩, hdr, hnc, _⟩ := hc k hlt
      clear hc
      have hn' : n' ≤ 1048576 := by rw [← hdr.1]; exact (HC.out.2 k hkl).2
      have HCAN := Lib.hid (fun y : Bl wr => canS_any A A' n c n' c' f (nth cs k).st (nth cs k).done x _ _ y.wd ((HR0.out.below HBW.out).below y.below) hok (hdr.below y.below) hn' hnc)
      clear hdr
      have X0 : ∀ y : Bl wr, y.wd.cell? ⟨w.heap.size, 0, none⟩ = some (.int .i64 f.ver) := fun y => (blk_cl (k := 0) ((y.below.block _ (heap_lt HXW.out)).trans HXW.out) rfl).1
      have X1 : ∀ y : Bl wr, y.wd.cell? ⟨w.heap.size, 1, none⟩ = some (.slice A n c) := fun y => (blk_cl (k := 1) ((y.below.block _ (heap_lt HXW.out)).trans HXW.out) rfl).1
      have Y0 : ∀ y : Bl wr, y.wd.cell? ⟨b, off + k * 3 + 1, none⟩ = some (.int .i64 (nth cs k).st) := fun y => (y.below.cell (p := ⟨b, off + k * 3 + 1, none⟩) hb2).trans d2
      have Y1 : ∀ y : Bl wr, y.wd.cell? ⟨b, off + k * 3 + 2, none⟩ = some (.slice A' n' c') := fun y => (y.below.cell (p := ⟨b, off + k * 3 + 2, none⟩) hb2).trans d3
      clear d1 d2 d3
      cases hcan : canB f (nth cs k).st (nth cs k).done x
      · have HT := Lib.hid (canN_no hkl hcan)
        rw [hcan] at HCAN
        clear hcan
        go_wp2_with fail
        refine region_bl (by kernel_rfl) (by kernel_rfl) ?_
        repeat (go_big_quiet_step ((go_at_call 115; exact q_bl (HCAN.out _))))
        refine wpQuiet_nil ?_
        intro _ hw'
        obtain ⟨y, rfl⟩ := hw'
        have HY := Lib.hid (HBW.out.trans (y.below.mono HBW.out.size))
        clear X0 X1 Y0 Y1 HCAN
        go_wp2_with fail
        go_roundw
        case rel => exact ⟨k + 1, by omega, by go_num, by rw [HT.out], HY.out⟩
        case measure => simp [intOf]; omega
      · have HT := Lib.hid (canN_yes hkl hcan)
        rw [hcan] at HCAN
        clear hcan
        go_wp2_with fail
        refine region_bl (by kernel_rfl) (by kernel_rfl) ?_
        repeat (go_big_quiet_step ((go_at_call 115; exact q_bl (HCAN.out _))))
        refine wpQuiet_nil ?_
        intro _ hw'
        obtain ⟨y, rfl⟩ := hw'
        have HY := Lib.hid (HBW.out.trans (y.below.mono HBW.out.size))
        clear X0 X1 Y0 Y1 HCAN
        go_wp2_with fail
        go_roundw
        case rel => exact ⟨k + 1, by omega, by go_num, by rw [HT.out]; go_num, HY.out⟩
        case measure => simp [intOf]; omega
    · have HE : Hid (canN f (cs.take k) x = canN f cs x) := by show _ = _; rw [List.take_of_length_le (by rw [HL.out]; omega)]
      go_wp2_with fail
      go_ret
      exact ⟨ret_i (by rw [HE.out]), HB0.out.trans (HBW.out.mono HB0.out.size)⟩
end Go.Proofs.Ythcpjkhijjkolaa

/- Reports: what most cases can do next, the reference's side. -/
namespace Go.Proofs.Ythcpjkhijjkolaa
open Go.RowKit

/-- The step that most cases can do next, among the first k. -/
def slowTo (f : Flow) (cs : List Case) : Nat → Nat × Str
  | 0 => (0, ⟨#[]⟩)
  | k + 1 => if (slowTo f cs k).1 < canN f cs (nth f.steps k).name then (canN f cs (nth f.steps k).name, (nth f.steps k).name) else slowTo f cs k
def slowR (f : Flow) (cs : List Case) : Str := if poolB f cs = true then (slowTo f cs f.steps.length).2 else ⟨#[]⟩
theorem slowTo_le (f : Flow) (cs : List Case) : ∀ k, (slowTo f cs k).1 ≤ cs.length
  | 0 => Nat.zero_le _
  | k + 1 => by
    show (if _ then _ else _ : Nat × Str).1 ≤ _
    split
    · exact canN_le _ _ _
    · exact slowTo_le f cs k
theorem slowTo_yes {f : Flow} {cs : List Case} {k : Nat} (h : (slowTo f cs k).1 < canN f cs (nth f.steps k).name) : slowTo f cs (k + 1) = (canN f cs (nth f.steps k).name, (nth f.steps k).name) := if_pos h
theorem slowTo_no {f : Flow} {cs : List Case} {k : Nat} (h : ¬ (slowTo f cs k).1 < canN f cs (nth f.steps k).name) : slowTo f cs (k + 1) = slowTo f cs k := if_neg h

set_option maxRecDepth 100000 in
set_option maxHeartbeats 1000000 in
theorem slowS_any (A B : Option Addr) (n c m d : Nat) (f : Flow) (cs : List Case) (lo lo' : Nat) (w : World) (hr : RStep w lo A n f.steps) (hok : okSteps f.steps) (hd : RCase w lo' B m cs) (hcs : okCases cs) :
    Calls Try.prog 27 #[.agg #[.int .i64 f.ver, .slice A n c], .slice B m d] w fun e w' => e = .returned (.string (slowR f cs)) ∧ Below w.heap.size w w' := by
  have HLn := Lib.hid hr.1
  have hn : n ≤ 1048576 := by have := hok.1; rw [hr.1] at this; exact this
  have hm : cs.length ≤ 1048576 := hcs.1
  have HB0 := Lib.hid ((Below.refl w.heap.size w).alloc (Nat.le_refl _) (.cells #[.int .i64 f.ver, .slice A n c] 33))
  have HD0 := Lib.hid (hd.alloc (.cells #[.int .i64 f.ver, .slice A n c] 33)); clear hd
  have HR0 := Lib.hid (hr.alloc (.cells #[.int .i64 f.ver, .slice A n c] 33)); clear hr
  have HX0 := Lib.hid (heap_new (w := w) (o := .cells #[.int .i64 f.ver, .slice A n c] 33) rfl)
  go_enter Try.func27, Try.ntmps27
  go_wp2_with fail
  generalize ew0 : w.alloc (.cells #[.int .i64 f.ver, .slice A n c] 33) = w0 at *
  clear ew0
  go_loopw [5, 6, 7] (fun o q i wr => ∃ k : Nat, k ≤ n ∧ i = .int .i64 (k : Int) ∧ (k = 0 ∨ poolB f cs = true) ∧ o = .string (slowTo f cs k).2 ∧ q = .int .i64 (((slowTo f cs k).1 : Nat) : Int) ∧ Below w0.heap.size w0 wr) (fun _ _ i _ => n - (intOf i).toNat)
  case atStart => exact ⟨0, Nat.zero_le _, rfl, .inl rfl, rfl, rfl, Below.refl _ _⟩
  case round =>
    obtain ⟨k, hk, rfl, hkp, rfl, rfl, hbw⟩ := hrel
    have HKP := Lib.hid hkp; clear hkp
    have HBW := Lib.hid hbw; clear hbw
    have hq := slowTo_le f cs k
    have HXW := Lib.hid ((HBW.out.block _ (heap_lt HX0.out)).trans HX0.out)
    have x0 := (blk_cl (k := 0) HXW.out rfl).1
    have x1 := (blk_cl (k := 1) HXW.out rfl).1
    by_cases hlt : k < n
    · go_wp2_with fail
      refine (poolS_any _ _ _ _ _ _ f cs _ _ _ (HR0.out.below HBW.out) hok (HD0.out.below HBW.out) hcs).mono ?_
      rintro e w1 ⟨rfl, hb1⟩
      have HB1 := Lib.hid (HBW.out.trans (hb1.mono HBW.out.size))
      clear hb1 x0 x1
      cases hp : poolB f cs
      · have HE : Hid ((slowTo f cs k).2 = slowR f cs) := by
          have h0 : k = 0 := by
            rcases HKP.out with h | h
            · exact h
            · rw [hp] at h; cases h
          subst h0
          show _ = _
          unfold slowR
          rw [hp]
          rfl
        clear hp
        go_wp2_with fail
        go_ret
        exact ⟨ret_s HE.out, HB0.out.trans (HB1.out.mono HB0.out.size)⟩
      · have HP := Lib.hid hp; clear hp
        have HX1 := Lib.hid ((HB1.out.block _ (heap_lt HX0.out)).trans HX0.out)
        obtain ⟨b, off, rfl, ⟨_, hb2⟩, hc⟩ := RStep.at_ (HR0.out.below HB1.out) hlt
        obtain ⟨_, _, _, ⟨d1, _, _⟩, _⟩ := hc k hlt
        clear hc
        have HCAN := Lib.hid (fun y : Bl w1 => l33Can_any (some ⟨b, off, none⟩) B n c m d f cs (nth f.steps k).name _ _ y.wd ((HR0.out.below HB1.out).below y.below) hok ((HD0.out.below HB1.out).below y.below) hcs)
        have X0 : ∀ y : Bl w1, y.wd.cell? ⟨w.heap.size, 0, none⟩ = some (.int .i64 f.ver) := fun y => (blk_cl (k := 0) ((y.below.block _ (heap_lt HX1.out)).trans HX1.out) rfl).1
        have X1 : ∀ y : Bl w1, y.wd.cell? ⟨w.heap.size, 1, none⟩ = some (.slice (some ⟨b, off, none⟩) n c) := fun y => (blk_cl (k := 1) ((y.below.block _ (heap_lt HX1.out)).trans HX1.out) rfl).1
        have Y0 : ∀ y : Bl w1, y.wd.cell? ⟨b, off + k * 3, none⟩ = some (.string (nth f.steps k).name) := fun y => (y.below.cell (p := ⟨b, off + k * 3, none⟩) hb2).trans d1
        have hz := canN_le f cs (nth f.steps k).name
        go_wp2_with fail
        refine region_bl (by kernel_rfl) (by kernel_rfl) ?_
        repeat (go_big_quiet_step ((go_at_call 79; exact q_bl (HCAN.out _))))
        refine wpQuiet_nil ?_
        intro _ hw'
        obtain ⟨y, rfl⟩ := hw'
        have HY := Lib.hid (HB1.out.trans (y.below.mono HB1.out.size))
        have x1 := X1 y
        have y0 := Y0 y
        clear X0 X1 Y0 HCAN d1
        by_cases hgt : (slowTo f cs k).1 < canN f cs (nth f.steps k).name
        · have HT := Lib.hid (slowTo_yes hgt)
          go_wp2_with fail
          go_roundw
          case rel => exact ⟨k + 1, by omega, by go_num, .inr HP.out, by rw [HT.out], by rw [HT.out], HY.out⟩
          case measure => simp [intOf]; omega
        · have HT := Lib.hid (slowTo_no hgt)
          go_wp2_with fail
          go_roundw
          case rel => exact ⟨k + 1, by omega, by go_num, .inr HP.out, by rw [HT.out], by rw [HT.out], HY.out⟩
          case measure => simp [intOf]; omega
    · have HE : Hid ((slowTo f cs k).2 = slowR f cs) := by
        show _ = _
        unfold slowR
        have hkn : k = f.steps.length := by rw [HLn.out]; omega
        split
        · rw [hkn]
        · rename_i hp
          rcases HKP.out with h | h
          · rw [h]; rfl
          · exact absurd h hp
      go_wp2_with fail
      go_ret
      exact ⟨ret_s HE.out, HB0.out.trans (HBW.out.mono HB0.out.size)⟩
end Go.Proofs.Ythcpjkhijjkolaa

/- Reports: the first of the greatest. No program in sight. -/
namespace Go.Proofs.Ythcpjkhijjkolaa

theorem slow_spec (f : Flow) (cs : List Case) : ∀ k, (∀ j, j < k → canN f cs (nth f.steps j).name ≤ (slowTo f cs k).1) ∧
    (((slowTo f cs k).1 = 0 ∧ (slowTo f cs k).2 = ⟨#[]⟩) ∨ ∃ p, p < k ∧ 0 < (slowTo f cs k).1 ∧ canN f cs (nth f.steps p).name = (slowTo f cs k).1 ∧ (∀ j, j < p → canN f cs (nth f.steps j).name ≠ (slowTo f cs k).1) ∧ (slowTo f cs k).2 = (nth f.steps p).name)
  | 0 => ⟨fun j hj => absurd hj (by omega), .inl ⟨rfl, rfl⟩⟩
  | k + 1 => by
    obtain ⟨h1, h2⟩ := slow_spec f cs k
    by_cases h : (slowTo f cs k).1 < canN f cs (nth f.steps k).name
    · rw [slowTo_yes h]
      refine ⟨fun j hj => ?_, .inr ⟨k, by omega, by show 0 < canN f cs (nth f.steps k).name; omega, rfl, fun j hj => ?_, rfl⟩⟩
      · show _ ≤ canN f cs (nth f.steps k).name
        by_cases hjk : j < k
        · have := h1 j hjk; omega
        · rw [show j = k by omega]; exact Nat.le_refl _
      · show _ ≠ canN f cs (nth f.steps k).name
        have := h1 j hj
        omega
    · rw [slowTo_no h]
      refine ⟨fun j hj => ?_, ?_⟩
      · by_cases hjk : j < k
        · exact h1 j hjk
        · rw [show j = k by omega]; omega
      · rcases h2 with h2 | ⟨p, hp, h3⟩
        · exact .inl h2
        · exact .inr ⟨p, by omega, h3⟩
end Go.Proofs.Ythcpjkhijjkolaa

/- Reports: who goes waits for something, in plain words. No program in sight. -/
namespace Go.Proofs.Ythcpjkhijjkolaa

theorem run_goes {f : Flow} {done : List Str} (h : runB f 0 done = true) : done.length < f.steps.length := by
  unfold runB at h
  simp only [if_true, Bool.and_eq_true, decide_eq_true_eq] at h
  exact h.2.2
theorem run_next {f : Flow} {done : List Str} (h : runB f 0 done = true) : ∃ x xs, rdyL f.steps done = x :: xs :=
  List.exists_cons_of_ne_nil (ready_some (flowB_iff.1 (run_flow h)).2.2.2 (run_goes h))
theorem run_can {f : Flow} {done : List Str} (h : runB f 0 done = true) : ∃ j, j < f.steps.length ∧ canB f 0 done (nth f.steps j).name = true := by
  obtain ⟨x, xs, e⟩ := run_next h
  have hx : x ∈ rdyL f.steps done := by rw [e]; exact List.mem_cons_self ..
  obtain ⟨s, hs, _, rfl⟩ := rdyL_mem.1 hx
  obtain ⟨j, hj, rfl⟩ := nth_of_mem hs
  refine ⟨j, hj, ?_⟩
  unfold canB
  rw [h, hasB_true.2 hx]; rfl
theorem flow_name {f : Flow} (h : flowB f = true) {j : Nat} (hj : j < f.steps.length) : 1 ≤ (nth f.steps j).name.size := name_size ((flowB_iff.1 h).1 j hj)
theorem canN_pos {f : Flow} {cs : List Case} {x : Str} : 0 < canN f cs x ↔ ∃ c ∈ cs, canB f c.st c.done x = true := by
  unfold canN
  rw [List.length_pos_iff_exists_mem]
  constructor
  · rintro ⟨c, hc⟩
    exact ⟨c, (List.mem_filter.1 hc).1, (List.mem_filter.1 hc).2⟩
  · rintro ⟨c, hc, h⟩
    exact ⟨c, List.mem_filter.2 ⟨hc, h⟩⟩
theorem can_goes {f : Flow} {st : Int} {done : List Str} {x : Str} (h : canB f st done x = true) : st = 0 ∧ runB f 0 done = true ∧ x ∈ rdyL f.steps done := by
  unfold canB at h
  simp only [Bool.and_eq_true, decide_eq_true_eq] at h
  obtain ⟨h1, rfl, h2⟩ := h
  exact ⟨rfl, h1, hasB_true.1 h2⟩
theorem emp_ne {s : Str} (h : 1 ≤ s.size) : s ≠ ⟨#[]⟩ := fun e => by rw [e] at h; exact absurd h (by decide)
theorem slow_none {f : Flow} {cs : List Case} (h : poolB f cs = true) : slowR f cs ≠ ⟨#[]⟩ ↔ ∃ j, j < cs.length ∧ (nth cs j).st = 0 := by
  have e : slowR f cs = (slowTo f cs f.steps.length).2 := by unfold slowR; rw [if_pos h]
  rw [e]
  obtain ⟨h1, h2⟩ := slow_spec f cs f.steps.length
  constructor
  · intro hne
    rcases h2 with ⟨_, h3⟩ | ⟨p, hp, h3, h4, _, _⟩
    · exact absurd h3 hne
    · obtain ⟨c, hc, hb⟩ := canN_pos.1 (show 0 < canN f cs (nth f.steps p).name by omega)
      obtain ⟨j, hj, rfl⟩ := nth_of_mem hc
      exact ⟨j, hj, (can_goes hb).1⟩
  · rintro ⟨j, hj, hst⟩
    have hr := pool_run h hj
    rw [hst] at hr
    obtain ⟨i, hi, hc⟩ := run_can hr
    have hpos : 0 < canN f cs (nth f.steps i).name := canN_pos.2 ⟨_, mem_nth hj, by rw [hst]; exact hc⟩
    rcases h2 with ⟨h3, _⟩ | ⟨p, hp, _, _, _, h6⟩
    · have := h1 i hi; omega
    · rw [h6]; exact emp_ne (flow_name (pool_flow h) hp)
end Go.Proofs.Ythcpjkhijjkolaa

/- slices.Max and slices.Index of integers. -/
namespace Go.Proofs.Ythcpjkhijjkolaa
open Go.RowKit

set_option maxRecDepth 100000 in
theorem maxInt_any (A : Option Addr) (n c : Nat) (xs : List Int) (lo : Nat) (w : World) (hr : RInt w lo A n xs) (hn : n ≤ 1048576) (h1 : 1 ≤ n) :
    Calls Try.prog 77 #[.slice A n c] w fun e w' => (∃ v : Int, e = .returned (.int .i64 v) ∧ (∀ j, j < n → nth xs j ≤ v) ∧ ∃ j, j < n ∧ nth xs j = v) ∧ w = w' := by
  have HR := Lib.hid hr; clear hr
  obtain ⟨b0, off0, rfl, _, hc0⟩ := RInt.at_ HR.out (k := 0) (by omega)
  have c0 := (hc0 0 (by omega)).1
  rw [Nat.add_zero] at c0
  clear hc0
  go_enter Try.func77, Try.ntmps77
  go_wp2_with fail
  go_loop [3, 4] (fun q i => ∃ (k : Nat) (v : Int), 1 ≤ k ∧ k ≤ n ∧ i = .int .i64 (k : Int) ∧ q = .int .i64 v ∧ (∀ j, j < k → nth xs j ≤ v) ∧ ∃ j, j < k ∧ nth xs j = v) (fun _ i => n - (intOf i).toNat)
  case atStart => exact ⟨1, nth xs 0, Nat.le_refl _, h1, rfl, rfl, fun j hj => by rw [show j = 0 by omega]; exact Int.le_refl _, 0, by omega, rfl⟩
  case round =>
    obtain ⟨k, v, hk1, hk, rfl, rfl, hp, hex⟩ := hrel
    have HP := Lib.hid hp; clear hp
    have HE := Lib.hid hex; clear hex
    by_cases hlt : k < n
    · obtain ⟨b, off, e, _, hc⟩ := RInt.at_ HR.out hlt
      injection e with e; injection e with e1 e2
      subst e1; subst e2
      have c1 := (hc k hlt).1
      clear hc
      by_cases hle : v ≤ nth xs k
      · have hmax : max v (nth xs k) = nth xs k := by omega
        go_wp2_with fail
        go_round
        case rel =>
          refine ⟨k + 1, nth xs k, by omega, by omega, by go_num, by first | rfl | rw [hmax] | (simp; omega), fun j hj => ?_, k, by omega, rfl⟩
          by_cases h : j < k
          · exact Int.le_trans (HP.out j h) hle
          · rw [show j = k by omega]; exact Int.le_refl _
        case measure => simp [intOf]; omega
      · have hmax : max v (nth xs k) = v := by omega
        go_wp2_with fail
        go_round
        case rel =>
          obtain ⟨j0, hj0, he0⟩ := HE.out
          refine ⟨k + 1, v, by omega, by omega, by go_num, by first | rfl | rw [hmax] | (simp; omega), fun j hj => ?_, j0, by omega, he0⟩
          by_cases h : j < k
          · exact HP.out j h
          · rw [show j = k by omega]; omega
        case measure => simp [intOf]; omega
    · obtain rfl : k = n := by omega
      go_wp2_with fail
      go_ret
      exact ⟨⟨v, rfl, HP.out, HE.out⟩, rfl⟩

set_option maxRecDepth 100000 in
theorem indexInt_any (A : Option Addr) (n c p : Nat) (xs : List Int) (v : Int) (lo : Nat) (w : World) (hr : RInt w lo A n xs) (hn : n ≤ 1048576) (hp : p < n) (hv : nth xs p = v) (hb : ∀ j, j < p → nth xs j ≠ v) :
    Calls Try.prog 78 #[.slice A n c, .int .i64 v] w fun e w' => e = .returned (.int .i64 (p : Int)) ∧ w = w' := by
  have HR := Lib.hid hr; clear hr
  have HB := Lib.hid hb; clear hb
  have HV := Lib.hid hv; clear hv
  go_enter Try.func78, Try.ntmps78
  go_wp2_with fail
  go_loop [8] (fun i => ∃ k : Nat, k ≤ p ∧ i = .int .i64 (k : Int)) (fun i => n - (intOf i).toNat)
  case atStart => exact ⟨0, Nat.zero_le _, rfl⟩
  case round =>
    obtain ⟨k, hk, rfl⟩ := hrel
    obtain ⟨b, off, rfl, _, hc⟩ := RInt.at_ HR.out (k := k) (by omega)
    have c1 := (hc k (by omega)).1
    clear hc
    have hkn : k < n := by omega
    by_cases he : k = p
    · subst he
      rw [HV.out] at c1
      have hq : (v == v) = true := by simp
      go_wp2_with fail
      go_ret
      exact ⟨rfl, rfl⟩
    · have hne := HB.out k (by omega)
      have hq : (v == nth xs k) = false := by rw [beq_eq_false_iff_ne]; exact fun e => hne e.symm
      generalize nth xs k = z at *
      go_wp2_with fail
      go_round
      case rel => exact ⟨k + 1, by omega, by go_num⟩
      case measure => simp [intOf]; omega
end Go.Proofs.Ythcpjkhijjkolaa

/- Runs: what can be done next, the program's side. -/
namespace Go.Proofs.Ythcpjkhijjkolaa
open Go.RowKit

set_option maxRecDepth 100000 in
set_option maxHeartbeats 1000000 in
theorem runNext0_any (A B : Option Addr) (n c m d : Nat) (f : Flow) (done : List Str) (lo lo' : Nat) (w : World) (hr : RStep w lo A n f.steps) (hok : okSteps f.steps) (hd : RStr w lo' B m done) (hm : m ≤ 1048576) (hmd : m ≤ d) (hv : runB f 0 done = true) :
    Calls Try.prog 23 #[.agg #[.int .i64 f.ver, .slice A n c], .agg #[.int .i64 0, .slice B m d]] w fun e w' => ∃ A' n' c', e = .returned (.slice A' n' c') ∧ RStr w' w.heap.size A' n' (rdyL f.steps done) ∧ Below w.heap.size w w' := by
  have HO := Lib.hid hok; clear hok
  have HRB := Lib.hid hv; clear hv
  have HX0 := Lib.hid (heap_old (o := .cells #[.int .i64 0, .slice B m d] 35) (heap_new (w := w) (o := .cells #[.int .i64 f.ver, .slice A n c] 33) rfl))
  have HY0 := Lib.hid (heap_new (w := w.alloc (.cells #[.int .i64 f.ver, .slice A n c] 33)) (b := w.heap.size + 1) (o := .cells #[.int .i64 0, .slice B m d] 35) (by simp))
  have HB0 := Lib.hid (((Below.refl w.heap.size w).alloc (Nat.le_refl _) (.cells #[.int .i64 f.ver, .slice A n c] 33)).alloc (by simp) (.cells #[.int .i64 0, .slice B m d] 35))
  have HR := Lib.hid ((hr.alloc (.cells #[.int .i64 f.ver, .slice A n c] 33)).alloc (.cells #[.int .i64 0, .slice B m d] 35)); clear hr
  have HD := Lib.hid ((hd.alloc (.cells #[.int .i64 f.ver, .slice A n c] 33)).alloc (.cells #[.int .i64 0, .slice B m d] 35)); clear hd
  go_enter Try.func23, Try.ntmps23
  go_wp2_with fail
  refine (runI_any _ _ _ _ _ _ f 0 done _ _ _ HR.out HO.out HD.out hm hmd).mono ?_
  rintro e w1 ⟨rfl, hb⟩
  rw [HRB.out]
  have HX1 := Lib.hid ((hb.block _ (heap_lt HX0.out)).trans HX0.out)
  have HY1 := Lib.hid ((hb.block _ (heap_lt HY0.out)).trans HY0.out)
  have HB1 := Lib.hid (HB0.out.trans (hb.mono HB0.out.size))
  have HR1 := Lib.hid (HR.out.below hb)
  have HD1 := Lib.hid (HD.out.below hb)
  clear hb
  have x0 := (blk_cl (k := 0) HX1.out rfl).1
  have x1 := (blk_cl (k := 1) HX1.out rfl).1
  have y0 := (blk_cl (k := 0) HY1.out rfl).1
  have y1 := (blk_cl (k := 1) HY1.out rfl).1
  go_wp2_with fail
  refine (ready_any _ _ _ _ _ _ f.ver f.steps done _ _ _ HR1.out HO.out HD1.out hm).mono ?_
  rintro e w2 ⟨A2, n2, c2, rfl, h2, hb2⟩
  have hs1 := HB1.out.size
  go_wp2_with fail
  go_ret
  exact ⟨_, _, _, rfl, h2.lower hs1, HB1.out.trans (hb2.mono HB1.out.size)⟩
end Go.Proofs.Ythcpjkhijjkolaa

/- Reports: what most cases can do next: counting, the program's side. -/
namespace Go.Proofs.Ythcpjkhijjkolaa
open Go.RowKit

/-- What a case can do next. -/
def clsL (f : Flow) (c : Case) : List Str := if c.st = 0 then rdyL f.steps c.done else []
theorem cls_can {f : Flow} {c : Case} (h : runB f c.st c.done = true) (x : Str) : hasB (clsL f c) x = canB f c.st c.done x := by
  unfold clsL canB
  rw [h]
  by_cases h0 : c.st = 0
  · rw [if_pos h0]; simp [h0]
  · rw [if_neg h0]; simp [h0, hasB]
def canL (f : Flow) (xs : List Str) (cs : List Case) : List Int := xs.map fun x => ((canN f cs x : Nat) : Int)
theorem canL_len (f : Flow) (xs : List Str) (cs : List Case) : (canL f xs cs).length = xs.length := List.length_map _
theorem canL_at {f : Flow} {xs : List Str} {cs : List Case} {i : Nat} (hi : i < xs.length) : nth (canL f xs cs) i = ((canN f cs (nth xs i) : Nat) : Int) := by
  unfold canL
  rw [nth_eq (by rw [List.length_map]; exact hi), nth_eq hi]; simp
theorem canN_small (f : Flow) (cs : List Case) (k : Nat) (x : Str) : canN f (cs.take k) x ≤ cs.length := Nat.le_trans (canN_le _ _ _) (List.length_take_le' k cs)

set_option maxRecDepth 100000 in
theorem slow1_any (A AF : Option Addr) (n c nF cF g : Nat) (f : Flow) (s : Case) (lo : Nat) (w : World) (hd : RStr w lo A n s.done) (hn : n ≤ 1048576) (hnc : n ≤ c) (hok : okSteps f.steps) (hF : w.heap[g]? = some (.cells #[.int .i64 f.ver, .slice AF nF cF] 33 (0, 0))) (hSF : RStep w 0 AF nF f.steps) (hv : runB f s.st s.done = true) :
    Calls Try.prog 76 #[.agg #[.string s.name, .int .i64 s.st, .slice A n c], .pointer (some ⟨g, 0, none⟩)] w fun e w' => ∃ A' n' c', e = .returned (.slice A' n' c') ∧ RStr w' 0 A' n' (clsL f s) ∧ n' ≤ 1048576 ∧ Below w.heap.size w w' := by
  have HD := Lib.hid (hd.alloc (.cells #[.string s.name, .int .i64 s.st, .slice A n c] 53)); clear hd
  have HSF := Lib.hid (hSF.alloc (.cells #[.string s.name, .int .i64 s.st, .slice A n c] 53)); clear hSF
  have HF := Lib.hid (heap_old (o := .cells #[.string s.name, .int .i64 s.st, .slice A n c] 53) hF); clear hF
  have HB := Lib.hid ((Below.refl w.heap.size w).alloc (Nat.le_refl _) (.cells #[.string s.name, .int .i64 s.st, .slice A n c] 53))
  have f0 := (blk_cl (k := 0) HF.out rfl).1
  have f1 := (blk_cl (k := 1) HF.out rfl).1
  by_cases h0 : s.st = 0
  · have HE := Lib.hid (show clsL f s = rdyL f.steps s.done by unfold clsL; rw [if_pos h0])
    rw [h0] at hv ⊢
    rw [h0] at HD HSF HF HB f0 f1
    go_enter Try.func76, Try.ntmps76
    go_wp2_with fail
    refine (runNext0_any _ _ _ _ _ _ f s.done _ _ _ HSF.out hok HD.out hn hnc hv).mono ?_
    rintro e w1 ⟨A1, n1, c1, rfl, h1, hb1⟩
    have hl : n1 ≤ 1048576 := by rw [← h1.1]; exact Nat.le_trans (rdyL_len _ _) hok.1
    go_wp2_with fail
    go_ret
    exact ⟨_, _, _, rfl, by rw [HE.out]; exact h1.lower (Nat.zero_le _), hl, HB.out.trans (hb1.mono HB.out.size)⟩
  · have HE := Lib.hid (show clsL f s = [] by unfold clsL; rw [if_neg h0])
    have hq : (s.st != 0) = true := by simp [h0]
    generalize s.st = z at *
    go_enter Try.func76, Try.ntmps76
    go_wp2_with fail
    go_ret
    exact ⟨_, _, _, rfl, by rw [HE.out]; exact RL.nil, by omega, HB.out⟩

set_option maxRecDepth 100000 in
set_option maxHeartbeats 2000000 in
theorem tallySlow_any (A B AF : Option Addr) (n c m d nF cF g : Nat) (f : Flow) (xs : List Str) (cs : List Case) (lo lo' : Nat) (w : World) (hr : RStr w lo A n xs) (hn : n ≤ 1048576) (hd : RCase w lo' B m cs) (hcs : okCases cs) (hok : okSteps f.steps) (hF : w.heap[g]? = some (.cells #[.int .i64 f.ver, .slice AF nF cF] 33 (0, 0))) (hSF : RStep w 0 AF nF f.steps) (hv : ∀ k, k < m → runB f (nth cs k).st (nth cs k).done = true) :
    Calls Try.prog 74 #[.slice A n c, .slice B m d, .func (.func 76) #[] #[.pointer (some ⟨g, 0, none⟩)]] w fun e w' => ∃ A' c', e = .returned (.slice A' n c') ∧ RInt w' w.heap.size A' n (canL f xs cs) ∧ Below w.heap.size w w' := by
  have HL := Lib.hid hd.1
  have HLx := Lib.hid hr.1
  have hm : m ≤ 1048576 := by have := hcs.1; rw [hd.1] at this; exact this
  have HR := Lib.hid hr; clear hr
  have HD := Lib.hid hd; clear hd
  have HC := Lib.hid hcs; clear hcs
  have HF := Lib.hid hF; clear hF
  have HSF := Lib.hid hSF; clear hSF
  have HV := Lib.hid hv; clear hv
  obtain ⟨i0, hi0, hz0, hz1, hz2⟩ := info_parts info_int
  go_enter Try.func74, Try.ntmps74
  go_wp2_with (at_make; refine wpList_make_full _ rfl _ _ 62 rfl w.heap.size 3 i0 _ 1 Try.underlying62 hi0 hz0 hz1 _ _ _ _ n rfl rfl rfl rfl ?c1 ?c2 (Nat.le_refl _) ?_)
  case c1 => rw [hz2]; omega
  case c2 => unfold maxLen; omega
  intro w1 hown hgr
  have hbw : Below w.heap.size w w1 := (Below.refl _ _).grown hgr (Nat.le_refl _) (by simp)
  obtain ⟨A1, c1, hv1, hr1⟩ := own_fresh_int hown
  injection hv1 with hA1 hn1 hc1
  subst hA1
  clear hn1 hc1 hown hgr
  have HR1 := Lib.hid hr1; clear hr1
  have HB1 := Lib.hid hbw; clear hbw
  go_wp2_with fail
  go_loopw [18] (fun i wr => ∃ (k : Nat) (ys : List Int), k ≤ m ∧ i = .int .i64 (k : Int) ∧ RInt wr w.heap.size (some ⟨w.heap.size, 0, none⟩) n ys ∧ (∀ l, l < n → nth ys l = ((canN f (cs.take k) (nth xs l) : Nat) : Int)) ∧ Below w.heap.size w wr) (fun i _ => m - (intOf i).toNat)
  case atStart => exact ⟨0, _, Nat.zero_le _, rfl, HR1.out, fun l hl => nth_rep hl, HB1.out⟩
  case round =>
    obtain ⟨wo, rfl⟩ : ∃ wo : World, wo = wr := ⟨_, rfl⟩
    obtain ⟨k, ys, hk, rfl, hy, hp, hb⟩ := hrel
    have HY := Lib.hid hy; clear hy
    have HP := Lib.hid hp; clear hp
    have HB := Lib.hid hb; clear hb
    by_cases hlt : k < m
    · obtain ⟨b, off, rfl, _, hc⟩ := RCase.at_ (HD.out.below HB.out) hlt
      obtain ⟨A', n', c', ⟨d1, d2, d3⟩, hdr, hnc, _⟩ := hc k hlt
      clear hc
      have hkl : k < cs.length := by rw [HL.out]; exact hlt
      have hn' : n' ≤ 1048576 := by rw [← hdr.1]; exact (HC.out.2 k hkl).2
      have HDR := Lib.hid (hdr.alloc (.cells #[.string (nth cs k).name, .int .i64 (nth cs k).st, .slice A' n' c'] 53)); clear hdr
      have HY2 := Lib.hid (HY.out.alloc (.cells #[.string (nth cs k).name, .int .i64 (nth cs k).st, .slice A' n' c'] 53))
      have HB2 := Lib.hid (HB.out.alloc HB.out.size (.cells #[.string (nth cs k).name, .int .i64 (nth cs k).st, .slice A' n' c'] 53))
      go_wp2_with fail
      have HBF := Lib.hid (heap_old (o := .cells #[.string (nth cs k).name, .int .i64 (nth cs k).st, .slice A' n' c'] 53) ((HB.out.block g (heap_lt HF.out)).trans HF.out))
      refine (slow1_any _ _ _ _ _ _ g f (nth cs k) _ _ HDR.out hn' hnc hok HBF.out ((HSF.out.below HB.out).alloc _) (HV.out k hlt)).mono ?_
      rintro e w3 ⟨A'', n'', c'', rfl, hdr3, hn'', hb3⟩
      have HDR3 := Lib.hid hdr3; clear hdr3
      have HY3 := Lib.hid (HY2.out.below hb3)
      have HB3 := Lib.hid (HB2.out.trans (hb3.mono HB2.out.size))
      clear hb3 HY2 HB2 HDR d1 d2 d3
      go_wp2_with fail
      go_loopw [27] (fun i wr => ∃ (j : Nat) (zs : List Int), j ≤ n ∧ i = .int .i64 (j : Int) ∧ RInt wr w.heap.size (some ⟨w.heap.size, 0, none⟩) n zs ∧ (∀ l, l < j → nth zs l = ((canN f (cs.take (k + 1)) (nth xs l) : Nat) : Int)) ∧ (∀ l, j ≤ l → l < n → nth zs l = ((canN f (cs.take k) (nth xs l) : Nat) : Int)) ∧ Below w.heap.size w wr ∧ RStr wr 0 A'' n'' (clsL f (nth cs k))) (fun i _ => n - (intOf i).toNat)
      case atStart => exact ⟨0, ys, Nat.zero_le _, rfl, HY3.out, fa_zero, fun l _ hl => HP.out l hl, HB3.out, HDR3.out⟩
      case round =>
        obtain ⟨j, zs, hj, rfl, hz, hp1, hp2, hbz, hdz⟩ := hrel
        have HZ := Lib.hid hz; clear hz
        have HP1 := Lib.hid hp1; clear hp1
        have HP2 := Lib.hid hp2; clear hp2
        have HBZ := Lib.hid hbz; clear hbz
        have HDZ := Lib.hid hdz; clear hdz
        by_cases hlt2 : j < n
        · obtain ⟨bx, ox, rfl, _, hc⟩ := RStr.at_ (HR.out.below HBZ.out) hlt2
          obtain ⟨x1, _⟩ := hc j hlt2
          clear hc
          have HCON := Lib.hid (contains_any A'' n'' c'' (clsL f (nth cs k)) (nth xs j) _ wr HDZ.out hn'')
          have hcc := cls_can (HV.out k hlt) (nth xs j)
          cases hh : hasB (clsL f (nth cs k)) (nth xs j)
          · have HT := Lib.hid (canN_no hkl (hcc.symm.trans hh))
            rw [hh] at HCON
            clear hh hcc
            go_wp2_with (go_at_call 108; refine HCON.out.mono ?_; rintro e w' ⟨rfl, rfl⟩)
            go_roundw
            case rel =>
              refine ⟨j + 1, zs, by omega, by go_num, HZ.out, fun l hl => ?_, fun l h1 h2 => HP2.out l (by omega) h2, HBZ.out, HDZ.out⟩
              rcases Nat.lt_succ_iff_lt_or_eq.1 hl with h | rfl
              · exact HP1.out l h
              · rw [HT.out]; exact HP2.out l (Nat.le_refl _) hlt2
            case measure => simp [intOf]; omega
          · have HT := Lib.hid (canN_yes hkl (hcc.symm.trans hh))
            rw [hh] at HCON
            clear hh hcc
            obtain ⟨b', off', e', _, hc⟩ := RInt.at_ HZ.out hlt2
            injection e' with e'; injection e' with e1 e2
            have HE1 := Lib.hid e1; clear e1
            subst e2
            obtain ⟨f1, f2⟩ := hc j hlt2
            rw [← HE1.out, Nat.zero_add] at f1 f2
            rw [HP2.out j (Nat.le_refl _) hlt2] at f1
            clear hc
            have hv := canN_small f cs k (nth xs j)
            rw [HL.out] at hv
            have HVV := Lib.hid (HP2.out j (Nat.le_refl _) hlt2)
            have HTJ := HT.out
            generalize canN f (cs.take k) (nth xs j) = v at *
            go_wp2_with (go_at_call 108; refine HCON.out.mono ?_; rintro e w' ⟨rfl, rfl⟩)
            go_roundw
            case rel =>
              have hset := RInt.set_ HZ.out hlt2 ((v : Int) + 1)
              rw [Nat.zero_add] at hset
              refine ⟨j + 1, zs.set j ((v : Int) + 1), by omega, by go_num, hset, fun l hl => ?_, fun l h1 h2 => ?_, HBZ.out.setCell (Nat.le_refl _) _, ?_⟩
              · rw [nth_set (by rw [HZ.out.1]; exact hlt2)]
                by_cases el : l = j
                · subst el
                  rw [if_pos rfl, HTJ]; simp
                · rw [if_neg el]; exact HP1.out l (by omega)
              · rw [nth_set (by rw [HZ.out.1]; exact hlt2), if_neg (by omega)]
                exact HP2.out l (by omega) h2
              · exact (RStr.set_ne HDZ.out.low ⟨f1, f2⟩ (fun s e => by cases e)).up (by simp)
            case measure => simp [intOf]; omega
        · obtain rfl : j = n := by omega
          go_wp2_with fail
          go_roundw
          case rel => exact ⟨k + 1, zs, by omega, by go_num, HZ.out, fun l hl => HP1.out l hl, HBZ.out⟩
          case measure => simp [intOf]; omega
    · have hkm : k = cs.length := by rw [HL.out]; omega
      go_wp2_with fail
      go_ret
      refine ⟨_, _, rfl, ?_, HB.out⟩
      have e : ys = canL f xs cs := list_ext (by rw [HY.out.1, canL_len, HLx.out]) (fun l hl => by
        rw [HY.out.1] at hl
        rw [HP.out l hl, canL_at (by rw [HLx.out]; exact hl), hkm, List.take_length])
      rw [← e]
      exact HY.out
end Go.Proofs.Ythcpjkhijjkolaa

/- Reports: what most cases can do next, the program's side. -/
namespace Go.Proofs.Ythcpjkhijjkolaa
open Go.RowKit

set_option maxRecDepth 100000 in
set_option maxHeartbeats 1000000 in
theorem slowI_any (A B : Option Addr) (n c m d : Nat) (f : Flow) (cs : List Case) (lo lo' : Nat) (w : World) (hr : RStep w lo A n f.steps) (hok : okSteps f.steps) (hd : RCase w lo' B m cs) (hcs : okCases cs) :
    Calls Try.prog 26 #[.agg #[.int .i64 f.ver, .slice A n c], .slice B m d] w fun e w' => e = .returned (.string (slowR f cs)) ∧ Below w.heap.size w w' := by
  have HLn := Lib.hid hr.1
  have HLm := Lib.hid hd.1
  have hn : n ≤ 1048576 := by have := hok.1; rw [hr.1] at this; exact this
  have HB0 := Lib.hid ((Below.refl w.heap.size w).alloc (Nat.le_refl _) (.cells #[.int .i64 f.ver, .slice A n c] 33))
  have HD0 := Lib.hid (hd.alloc (.cells #[.int .i64 f.ver, .slice A n c] 33)); clear hd
  have HR0 := Lib.hid (hr.alloc (.cells #[.int .i64 f.ver, .slice A n c] 33)); clear hr
  have HX0 := Lib.hid (heap_new (w := w) (o := .cells #[.int .i64 f.ver, .slice A n c] 33) rfl)
  go_enter Try.func26, Try.ntmps26
  go_wp2_with fail
  refine (poolI_any _ _ _ _ _ _ f cs _ _ _ HR0.out hok HD0.out hcs).mono ?_
  rintro e w1 ⟨rfl, hb⟩
  have HB1 := Lib.hid (HB0.out.trans (hb.mono HB0.out.size))
  have HD1 := Lib.hid (HD0.out.below hb)
  have HR1 := Lib.hid (HR0.out.below hb)
  have HX1 := Lib.hid ((hb.block _ (heap_lt HX0.out)).trans HX0.out)
  clear hb HB0 HD0 HR0 HX0
  cases hp : poolB f cs
  · have HE : Hid (slowR f cs = ⟨#[]⟩) := by show _ = _; unfold slowR; rw [if_neg (by rw [hp]; simp)]
    clear hp
    go_wp2_with fail
    go_ret
    exact ⟨ret_s HE.out.symm, HB1.out⟩
  have HE : Hid (slowR f cs = (slowTo f cs f.steps.length).2) := by show _ = _; unfold slowR; rw [if_pos hp]
  have HP := Lib.hid hp
  have hn1 : 1 ≤ n := by have := (flowB_iff.1 (pool_flow hp)).2.2.1.1; rw [HLn.out] at this; omega
  clear hp
  have x0 := (blk_cl (k := 0) HX1.out rfl).1
  have x1 := (blk_cl (k := 1) HX1.out rfl).1
  go_wp2_with fail
  refine (names_any _ _ _ f.ver f.steps _ _ HR1.out hn).mono ?_
  rintro e w2 ⟨A2, c2, rfl, h2, hb2⟩
  have HD2 := Lib.hid (HD1.out.below hb2)
  have HR2 := Lib.hid (HR1.out.below hb2)
  have HX2 := Lib.hid ((hb2.block _ (heap_lt HX1.out)).trans HX1.out)
  have H2 := Lib.hid h2; clear h2
  have HB2 := Lib.hid (HB1.out.trans (hb2.mono HB1.out.size)); clear hb2 x0 x1
  go_wp2_with fail
  refine (tallySlow_any _ _ _ _ _ _ _ _ _ w.heap.size f (namesOf f.steps) cs _ _ _ H2.out hn HD2.out hcs hok HX2.out (HR2.out.lower (Nat.zero_le _)) (fun k hk => pool_run HP.out (by rw [HLm.out]; exact hk))).mono ?_
  rintro e w3 ⟨A3, c3, rfl, h3, hb3⟩
  have HR3 := Lib.hid (HR2.out.below hb3)
  have HX3 := Lib.hid ((hb3.block _ (heap_lt HX2.out)).trans HX2.out)
  have H3 := Lib.hid h3; clear h3
  have HB3 := Lib.hid (HB2.out.trans (hb3.mono HB2.out.size)); clear hb3
  go_wp2_with fail
  refine (maxInt_any _ _ _ _ _ _ H3.out hn hn1).mono ?_
  rintro e w4 ⟨⟨v, rfl, hv1, hv2⟩, rfl⟩
  have hat : ∀ j, j < n → nth (canL f (namesOf f.steps) cs) j = ((canN f cs (nth f.steps j).name : Nat) : Int) := fun j hj => by
    rw [canL_at (by rw [namesOf_len, HLn.out]; exact hj), namesOf_at (by rw [HLn.out]; exact hj)]
  obtain ⟨s1, s2⟩ := slow_spec f cs n
  obtain ⟨j0, hj0, he0⟩ := hv2
  rw [hat j0 hj0] at he0
  have hj1 := s1 j0 hj0
  rcases s2 with ⟨z1, z2⟩ | ⟨p, hp, z1, z2, z3, z4⟩
  · have hv0 : v = 0 := by omega
    subst hv0
    have HE2 := Lib.hid (show slowR f cs = ⟨#[]⟩ by rw [HE.out, HLn.out]; exact z2)
    clear hat s1 he0 hj1 z1 z2 hv1
    go_wp2_with fail
    go_ret
    exact ⟨ret_s HE2.out.symm, HB3.out⟩
  · have hp1 := hv1 p hp
    rw [hat p hp] at hp1
    have hvp : v = (((slowTo f cs n).1 : Nat) : Int) := by omega
    have hne : (v == 0) = false := by rw [beq_eq_false_iff_ne]; omega
    have HIX := Lib.hid (fun y : Bl w3 => indexInt_any A3 n c3 p (canL f (namesOf f.steps) cs) v _ y.wd (H3.out.below y.below) hn hp (by rw [hat p hp]; omega) (fun j hj => by rw [hat j (by omega)]; have := z3 j hj; omega))
    have HE2 := Lib.hid (show slowR f cs = (nth f.steps p).name by rw [HE.out, HLn.out]; exact z4)
    obtain ⟨b, off, rfl, ⟨_, hb2⟩, hc⟩ := RStep.at_ HR3.out hp
    obtain ⟨_, _, _, ⟨d1, _, _⟩, _⟩ := hc p hp
    clear hc hat s1 he0 hj1 z1 z2 z3 z4 hv1 hvp hp1
    have X1 : ∀ y : Bl w3, y.wd.cell? ⟨w.heap.size, 1, none⟩ = some (.slice (some ⟨b, off, none⟩) n c) := fun y => (blk_cl (k := 1) ((y.below.block _ (heap_lt HX3.out)).trans HX3.out) rfl).1
    have Y0 : ∀ y : Bl w3, y.wd.cell? ⟨b, off + p * 3, none⟩ = some (.string (nth f.steps p).name) := fun y => (y.below.cell (p := ⟨b, off + p * 3, none⟩) hb2).trans d1
    clear d1
    go_wp2_with fail
    refine region_bl (by kernel_rfl) (by kernel_rfl) ?_
    repeat (go_big_quiet_step ((go_at_call 78; exact q_bl_same (HIX.out _))))
    refine wpQuiet_nil ?_
    intro _ hw'
    obtain ⟨y, rfl⟩ := hw'
    have HY := Lib.hid (HB3.out.trans (y.below.mono HB3.out.size))
    clear X1 Y0 HIX
    go_wp2_with fail
    go_ret
    exact ⟨ret_s HE2.out.symm, HY.out⟩
end Go.Proofs.Ythcpjkhijjkolaa

/- FnSlowNone: the walk. -/
namespace Go.Proofs.Ythcpjkhijjkolaa
open Go.RowKit

theorem sem_t {s : Str} (h : s ≠ ⟨#[]⟩) : (s.toList == ([] : List UInt8)) = false := by
  have := seq_f h
  rwa [show (⟨#[]⟩ : ByteArray).toList = [] by rw [ByteArray.toList_eq]] at this

set_option maxRecDepth 100000 in
set_option maxHeartbeats 1000000 in
theorem fnSlowNone_any (A : Option Addr) (n c : Nat) (w : World) (hr : RByte w A n) (hc : n ≤ c) :
    Calls Try.prog 6 #[.slice A n c] w fun e w' => e = .returned (.bool true) ∧ Below w.heap.size w w' := by
  have HR := Lib.hid hr; clear hr
  by_cases hn : 1048576 < n
  · go_enter Try.func6, Try.ntmps6
    go_wp2_with fail
    go_ret
    exact ⟨rfl, Below.refl _ _⟩
  go_enter Try.func6, Try.ntmps6
  go_wp2_with fail
  refine (drawReportSlow_any _ _ _ _ HR.out hc (by omega)).mono ?_
  rintro e w1 ⟨f, A1, n1, c1, B1, m1, d1, cs, rfl, hs, hok, h1, h6, hcs, hokc, hmd, hm9, hb1⟩
  have HOK := Lib.hid hok; clear hok
  have HOC := Lib.hid hokc; clear hokc
  have HL := Lib.hid hcs.1
  have HS1 := Lib.hid (hs.alloc (.cells #[.int .i64 f.ver, .slice A1 n1 c1] 33)); clear hs
  have HC1 := Lib.hid (hcs.alloc (.cells #[.int .i64 f.ver, .slice A1 n1 c1] 33)); clear hcs
  have HB1 := Lib.hid (hb1.alloc hb1.size (.cells #[.int .i64 f.ver, .slice A1 n1 c1] 33)); clear hb1
  have HX1 := Lib.hid (heap_new (w := w1) (o := .cells #[.int .i64 f.ver, .slice A1 n1 c1] 33) rfl)
  go_wp2_with fail
  refine (slowI_any _ _ _ _ _ _ f cs _ _ _ HS1.out HOK.out HC1.out HOC.out).mono ?_
  rintro e w2 ⟨rfl, hb2⟩
  have HX2 := Lib.hid ((hb2.block _ (heap_lt HX1.out)).trans HX1.out)
  have HB2 := Lib.hid (HB1.out.trans (hb2.mono HB1.out.size))
  have HS2 := Lib.hid (HS1.out.below hb2)
  have HC2 := Lib.hid (HC1.out.below hb2)
  clear hb2
  have x0 := (blk_cl (k := 0) HX2.out rfl).1
  have x1 := (blk_cl (k := 1) HX2.out rfl).1
  go_wp2_with fail
  refine (slowS_any _ _ _ _ _ _ f cs _ _ _ HS2.out HOK.out HC2.out HOC.out).mono ?_
  rintro e w3 ⟨rfl, hb3⟩
  have HX3 := Lib.hid ((hb3.block _ (heap_lt HX2.out)).trans HX2.out)
  have HB3 := Lib.hid (HB2.out.trans (hb3.mono HB2.out.size))
  have HS3 := Lib.hid (HS2.out.below hb3)
  have HC3 := Lib.hid (HC2.out.below hb3)
  clear hb3 x0 x1 HX1 HX2 HS1 HS2 HC1 HC2
  have HNONE := Lib.hid (fun hp => slow_none (f := f) (cs := cs) hp)
  generalize slowR f cs = z at *
  have hq0 : (z.toList != z.toList) = false := by simp
  have hq1 : (z.toList == z.toList) = true := by simp
  have x0 := (blk_cl (k := 0) HX3.out rfl).1
  have x1 := (blk_cl (k := 1) HX3.out rfl).1
  go_wp2_with fail
  refine (poolS_any _ _ _ _ _ _ f cs _ _ _ HS3.out HOK.out HC3.out HOC.out).mono ?_
  rintro e w4 ⟨rfl, hb4⟩
  have HB4 := Lib.hid (HB3.out.trans (hb4.mono HB3.out.size))
  have HC4 := Lib.hid (HC3.out.below hb4)
  clear hb4 x0 x1
  cases hp : poolB f cs
  · clear hp
    go_wp2_with fail
    go_ret
    exact ⟨rfl, HB4.out⟩
  have HN := Lib.hid (HNONE.out hp)
  clear hp HNONE
  go_wp2_with fail
  go_loopw [7, 8] (fun o i wr => ∃ (k : Nat) (b : Bool), k ≤ m1 ∧ i = .int .i64 (k : Int) ∧ o = .bool b ∧ (b = true ↔ ∃ j, j < k ∧ (nth cs j).st = 0) ∧ wr = w4) (fun _ i _ => m1 - (intOf i).toNat)
  case atStart => exact ⟨0, false, Nat.zero_le _, rfl, rfl, by simp, rfl⟩
  case round =>
    obtain ⟨k, b, hk, rfl, rfl, hb, rfl⟩ := hrel
    have HBO := Lib.hid hb; clear hb
    by_cases hlt : k < m1
    · obtain ⟨b', off, rfl, _, hcc⟩ := RCase.at_ HC4.out hlt
      obtain ⟨A', n', c', ⟨y1, y2, y3⟩, _⟩ := hcc k hlt
      clear hcc
      by_cases h0 : (nth cs k).st = 0
      · have hq : ((nth cs k).st == 0) = true := by rw [h0]; rfl
        have HT : Hid ((true = true) ↔ ∃ j, j < k + 1 ∧ (nth cs j).st = 0) := ⟨fun _ => ⟨k, by omega, h0⟩, fun _ => rfl⟩
        generalize (nth cs k).st = z at *
        cases b
        · go_wp2_with fail
          go_roundw
          case rel => exact ⟨k + 1, true, by omega, by go_num, rfl, HT.out, trivial⟩
          case measure => simp [intOf]; omega
        · go_wp2_with fail
          go_roundw
          case rel => exact ⟨k + 1, true, by omega, by go_num, rfl, HT.out, trivial⟩
          case measure => simp [intOf]; omega
      · have hq : ((nth cs k).st == 0) = false := by rw [beq_eq_false_iff_ne]; exact h0
        have HT : Hid ((b = true) ↔ ∃ j, j < k + 1 ∧ (nth cs j).st = 0) := by
          show _ ↔ _
          rw [HBO.out]
          constructor
          · rintro ⟨j, hj, e⟩; exact ⟨j, by omega, e⟩
          · rintro ⟨j, hj, e⟩
            refine ⟨j, ?_, e⟩
            rcases Nat.lt_succ_iff_lt_or_eq.1 hj with h | h
            · exact h
            · rw [h] at e; exact absurd e h0
        generalize (nth cs k).st = z at *
        cases b
        · go_wp2_with fail
          go_roundw
          case rel => exact ⟨k + 1, false, by omega, by go_num, rfl, HT.out, trivial⟩
          case measure => simp [intOf]; omega
        · go_wp2_with fail
          go_roundw
          case rel => exact ⟨k + 1, true, by omega, by go_num, rfl, HT.out, trivial⟩
          case measure => simp [intOf]; omega
    · have hkm : k = cs.length := by rw [HL.out]; omega
      have hbz : b = true ↔ z ≠ ⟨#[]⟩ := by rw [HBO.out, HN.out, hkm]
      clear hkm
      by_cases hz : z = ⟨#[]⟩
      · have hb : b = false := by rw [← Bool.not_eq_true]; intro h; exact hbz.1 h hz
        subst hb
        clear hbz HN HBO
        subst hz
        go_wp2_with fail
        go_ret
        exact ⟨rfl, HB4.out⟩
      · have hb : b = true := hbz.2 hz
        subst hb
        clear hbz HN HBO
        have hq := sem_t hz
        clear hz
        go_wp2_with fail
        go_ret
        exact ⟨rfl, HB4.out⟩
end Go.Proofs.Ythcpjkhijjkolaa

/- FnSlowNone returns true at every input, and leaves its arguments as they were. No condition. -/
namespace Go.Proofs.Ythcpjkhijjkolaa
open Go.ChangeShapes Go.WideShapes Go.ChangeAt Go.RowKit

set_option maxRecDepth 100000 in
theorem fnSlowNone_lifted (os : Os) (started : os.Started) (H : Type) (enc : TypeId × Value → H) :
    ReturnsInHanded {} Try.checked os 6 .any (Rows.fnSlowNoneSpec.pre6 enc Try.prog Try.f6 Rows.fnSlowNoneRow.domain false) (Rows.fnSlowNoneSpec.post enc Try.prog Try.f6 false true false false) := by
  refine returnsInHanded_of_change (C := Try.checked) Try.own started (by kernel_rfl) Try.func6
    (ChangeSpec.witness6 (enc := enc) (C := Try.checked) false ⟨#[], #[.slice none 0 0], []⟩ 8 (by kernel_rfl) (by kernel_rfl) (by kernel_rfl) (by kernel_rfl)) ?_
  intro W base args ds gs before hval0 hW hcnd _
  have hval : ∀ (j : Nat) t v, Try.f6.params[j]? = some t → args[j]? = some v → Value.okWide Try.prog W .any base t v := hval0
  have hW' := hW
  obtain ⟨p, q, hA0, hV, rfl, hfz, hnd⟩ := hW
  have hA : DataW.TrodAll enc Try.prog W 0 (fun _ => true) true Try.f6.params.toList args.toList ds p := hA0
  rw [Try.params6] at hA hval
  obtain ⟨v0, d0, rfl, rfl, h0⟩ := trodAll_one hA
  obtain ⟨rfl, rfl⟩ := trodVars_none hV
  have h0k := h0
  obtain ⟨a0, len, cap, rfl⟩ := okWide_slice Try.underlying40 (hval 0 40 v0 rfl rfl)
  obtain ⟨fuel, hf⟩ := h0
  clear hA0 hval0 hA
  simp only [List.append_nil] at hW' hfz
  have hlt : ∀ x ∈ p, x.block < W.heap.size := fun x hx => by simpa using hW'.lt x hx
  obtain ⟨hr, hc, _⟩ := open_code hf
  refine (fnSlowNone_any a0 len cap W hr hc).mono fun e W' ⟨he, hb⟩ => ?_
  subst he
  exact ⟨_, rfl, post_law hW' rfl (by kernel_rfl) Try.underlying4 rfl rfl rfl (trodAll_mk1 (Below.trod Try.laidOut (by kernel_rfl) (of_decide_eq_true (by kernel_rfl)) h0k hb hlt)) hb⟩

theorem fnSlowNone_holds : Rows.FnSlowNoneSaid :=
  OpenClaim.holds_of_wide 6 Try.f6 rfl rfl rfl rfl rfl rfl rfl ⟨rfl, rfl, rfl, rfl, rfl⟩ rfl rfl rfl rfl rfl (by kernel_rfl) Try.func6 (by kernel_rfl)
    (of_decide_eq_true (by kernel_rfl)) (by unfold Func.isWrapper; rw [if_neg (by decide +kernel)]; exact ⟨rfl, rfl⟩)
    (fun os started H enc _ => fnSlowNone_lifted os started H enc)
end Go.Proofs.Ythcpjkhijjkolaa
