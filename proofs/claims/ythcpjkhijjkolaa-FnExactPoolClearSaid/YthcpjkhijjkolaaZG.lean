/- Contracts of functions and plain lemmas, joined. No condition but those that each states. -/
import Derived.Deep.RegionHeld3
import Derived.Test.YthcpjkhijjkolaaShelf
import Derived.Lib.Join
import Derived.Test.YthcpjkhijjkolaaZB
import Derived.Test.YthcpjkhijjkolaaZC
import Derived.Test.YthcpjkhijjkolaaZA
import Derived.Test.YthcpjkhijjkolaaZF

/- Runs: what can be done next, the program's side. -/
namespace Go.Proofs.Ythcpjkhijjkolaa
open Go.RowKit

set_option maxRecDepth 100000 in
set_option maxHeartbeats 1000000 in
theorem runNext0_any (A B : Option Addr) (n c m d : Nat) (f : Flow) (done : List Str) (lo lo' : Nat) (w : World) (hr : RStep w lo A n f.steps) (hok : okSteps f.steps) (hd : RStr w lo' B m done) (hm : m ≤ 1048576) (hmd : m ≤ d) (hv : runB f 0 done = true) :
    Calls Try.prog 23 #[.agg #[.int .i64 f.ver, .slice A n c], .agg #[.int .i64 0, .slice B m d]] w fun e w' => ∃ A' n' c', e = .returned (.slice A' n' c') ∧ RStr w' w.heap.size A' n' (rdyL f.steps done) ∧ Below w.heap.size w w' := by
  have HO := Lib.hid hok; clear hok
  have HRB := Lib.hid hv; clear hv
  have HX0 := Lib.hid (heap_old (o := .cells #[.int .i64 0, .slice B m d] 35) (heap_new (w := w) (o := .cells #[.int .i64 f.ver, .slice A n c] 33) rfl))
  have HY0 := Lib.hid (heap_new (w := w.alloc (.cells #[.int .i64 f.ver, .slice A n c] 33)) (b := w.heap.size + 1) (o := .cells #[.int .i64 0, .slice B m d] 35) (by simp))
  have HB0 := Lib.hid (((Below.refl w.heap.size w).alloc (Nat.le_refl _) (.cells #[.int .i64 f.ver, .slice A n c] 33)).alloc (by simp) (.cells #[.int .i64 0, .slice B m d] 35))
  have HR := Lib.hid ((hr.alloc (.cells #[.int .i64 f.ver, .slice A n c] 33)).alloc (.cells #[.int .i64 0, .slice B m d] 35)); clear hr
  have HD := Lib.hid ((hd.alloc (.cells #[.int .i64 f.ver, .slice A n c] 33)).alloc (.cells #[.int .i64 0, .slice B m d] 35)); clear hd
  go_enter Try.func23, Try.ntmps23
  go_wp2_with fail
  refine (runI_any _ _ _ _ _ _ f 0 done _ _ _ HR.out HO.out HD.out hm hmd).mono ?_
  rintro e w1 ⟨rfl, hb⟩
  rw [HRB.out]
  have HX1 := Lib.hid ((hb.block _ (heap_lt HX0.out)).trans HX0.out)
  have HY1 := Lib.hid ((hb.block _ (heap_lt HY0.out)).trans HY0.out)
  have HB1 := Lib.hid (HB0.out.trans (hb.mono HB0.out.size))
  have HR1 := Lib.hid (HR.out.below hb)
  have HD1 := Lib.hid (HD.out.below hb)
  clear hb
  have x0 := (blk_cl (k := 0) HX1.out rfl).1
  have x1 := (blk_cl (k := 1) HX1.out rfl).1
  have y0 := (blk_cl (k := 0) HY1.out rfl).1
  have y1 := (blk_cl (k := 1) HY1.out rfl).1
  go_wp2_with fail
  refine (ready_any _ _ _ _ _ _ f.ver f.steps done _ _ _ HR1.out HO.out HD1.out hm).mono ?_
  rintro e w2 ⟨A2, n2, c2, rfl, h2, hb2⟩
  have hs1 := HB1.out.size
  go_wp2_with fail
  go_ret
  exact ⟨_, _, _, rfl, h2.lower hs1, HB1.out.trans (hb2.mono HB1.out.size)⟩
end Go.Proofs.Ythcpjkhijjkolaa

/- Runs: a step is done, the program's side. -/
namespace Go.Proofs.Ythcpjkhijjkolaa
open Go.RowKit

set_option maxRecDepth 100000 in
set_option maxHeartbeats 1000000 in
theorem canI_any (A B : Option Addr) (n c m d : Nat) (f : Flow) (st : Int) (done : List Str) (x : Str) (lo lo' : Nat) (w : World) (hr : RStep w lo A n f.steps) (hok : okSteps f.steps) (hd : RStr w lo' B m done) (hm : m ≤ 1048576) (hmd : m ≤ d) :
    Calls Try.prog 70 #[.agg #[.int .i64 f.ver, .slice A n c], .agg #[.int .i64 st, .slice B m d], .string x] w fun e w' => e = .returned (.bool (canB f st done x)) ∧ Below w.heap.size w w' := by
  have HO := Lib.hid hok; clear hok
  have HX0 := Lib.hid (heap_old (o := .cells #[.int .i64 st, .slice B m d] 35) (heap_new (w := w) (o := .cells #[.int .i64 f.ver, .slice A n c] 33) rfl))
  have HY0 := Lib.hid (heap_new (w := w.alloc (.cells #[.int .i64 f.ver, .slice A n c] 33)) (b := w.heap.size + 1) (o := .cells #[.int .i64 st, .slice B m d] 35) (by simp))
  have HB0 := Lib.hid (((Below.refl w.heap.size w).alloc (Nat.le_refl _) (.cells #[.int .i64 f.ver, .slice A n c] 33)).alloc (by simp) (.cells #[.int .i64 st, .slice B m d] 35))
  have HR := Lib.hid ((hr.alloc (.cells #[.int .i64 f.ver, .slice A n c] 33)).alloc (.cells #[.int .i64 st, .slice B m d] 35)); clear hr
  have HD := Lib.hid ((hd.alloc (.cells #[.int .i64 f.ver, .slice A n c] 33)).alloc (.cells #[.int .i64 st, .slice B m d] 35)); clear hd
  go_enter Try.func70, Try.ntmps70
  go_wp2_with fail
  refine (runI_any _ _ _ _ _ _ f st done _ _ _ HR.out HO.out HD.out hm hmd).mono ?_
  rintro e w1 ⟨rfl, hb⟩
  have HX1 := Lib.hid ((hb.block _ (heap_lt HX0.out)).trans HX0.out)
  have HY1 := Lib.hid ((hb.block _ (heap_lt HY0.out)).trans HY0.out)
  have HB1 := Lib.hid (HB0.out.trans (hb.mono HB0.out.size))
  have HR1 := Lib.hid (HR.out.below hb)
  have HD1 := Lib.hid (HD.out.below hb)
  clear hb
  have x0 := (blk_cl (k := 0) HX1.out rfl).1
  have x1 := (blk_cl (k := 1) HX1.out rfl).1
  have y0 := (blk_cl (k := 0) HY1.out rfl).1
  have y1 := (blk_cl (k := 1) HY1.out rfl).1
  cases hrun : runB f st done
  · have HE := Lib.hid (show canB f st done x = false by unfold canB; rw [hrun]; rfl)
    go_wp2_with fail
    go_ret
    exact ⟨ret_b HE.out.symm, HB1.out⟩
  by_cases h0 : st = 0
  · subst h0
    have HE := Lib.hid (show canB f 0 done x = hasB (rdyL f.steps done) x by unfold canB; rw [hrun]; simp)
    clear hrun
    go_wp2_with fail
    refine (ready_any _ _ _ _ _ _ f.ver f.steps done _ _ _ HR1.out HO.out HD1.out hm).mono ?_
    rintro e w2 ⟨A2, n2, c2, rfl, h2, hb2⟩
    have hl : n2 ≤ 1048576 := by rw [← h2.1]; exact Nat.le_trans (rdyL_len _ _) HO.out.1
    have HB2 := Lib.hid (HB1.out.trans (hb2.mono HB1.out.size))
    have H2 := Lib.hid h2; clear h2 hb2 x0 x1 y0 y1
    go_wp2_with fail
    refine (contains_any _ _ _ _ x _ _ H2.out hl).mono ?_
    rintro e w3 ⟨rfl, rfl⟩
    go_wp2_with fail
    go_ret
    exact ⟨ret_b HE.out.symm, HB2.out⟩
  · have hq : (st == 0) = false := by rw [beq_eq_false_iff_ne]; exact h0
    have HE := Lib.hid (show canB f st done x = false by unfold canB; rw [hrun]; simp [h0])
    clear hrun
    go_wp2_with fail
    go_ret
    exact ⟨ret_b HE.out.symm, HB1.out⟩

set_option maxRecDepth 100000 in
set_option maxHeartbeats 1000000 in
theorem doI_any (A B : Option Addr) (n c m d : Nat) (f : Flow) (st : Int) (done : List Str) (x : Str) (lo lo' : Nat) (w : World) (hr : RStep w lo A n f.steps) (hok : okSteps f.steps) (hd : RStr w lo' B m done) (hm : m ≤ 1048576) (hmd : m ≤ d) :
    Calls Try.prog 24 #[.agg #[.int .i64 f.ver, .slice A n c], .agg #[.int .i64 st, .slice B m d], .string x] w fun e w' => ∃ B' n' d', e = .returned (.tuple #[.agg #[.int .i64 (doR f st done x).1, .slice B' n' d'], .bool (canB f st done x)]) ∧
      w'.ownsRow w.heap.size 9 1 (.slice B' n' d') n' ((doR f st done x).2.map Value.string) ∧ Below w.heap.size w w' := by
  have hn : n ≤ 1048576 := by have := hok.1; rw [hr.1] at this; exact this
  have HX := Lib.hid (heap_old (o := .cells #[.int .i64 0, .slice none 0 0] 35) (heap_old (o := .cells #[.int .i64 st, .slice B m d] 35) (heap_new (w := w) (o := .cells #[.int .i64 f.ver, .slice A n c] 33) rfl)))
  have HY := Lib.hid (heap_old (o := .cells #[.int .i64 0, .slice none 0 0] 35) (heap_new (w := w.alloc (.cells #[.int .i64 f.ver, .slice A n c] 33)) (b := w.heap.size + 1) (o := .cells #[.int .i64 st, .slice B m d] 35) (by simp)))
  have HZ := Lib.hid (heap_new (w := (w.alloc (.cells #[.int .i64 f.ver, .slice A n c] 33)).alloc (.cells #[.int .i64 st, .slice B m d] 35)) (b := w.heap.size + 1 + 1) (o := .cells #[.int .i64 0, .slice none 0 0] 35) (by simp))
  have HB := Lib.hid ((((Below.refl w.heap.size w).alloc (Nat.le_refl _) (.cells #[.int .i64 f.ver, .slice A n c] 33)).alloc (by simp) (.cells #[.int .i64 st, .slice B m d] 35)).alloc (by simp; omega) (.cells #[.int .i64 0, .slice none 0 0] 35))
  have HR := Lib.hid (((hr.alloc (.cells #[.int .i64 f.ver, .slice A n c] 33)).alloc (.cells #[.int .i64 st, .slice B m d] 35)).alloc (.cells #[.int .i64 0, .slice none 0 0] 35)); clear hr
  have HD := Lib.hid (((hd.alloc (.cells #[.int .i64 f.ver, .slice A n c] 33)).alloc (.cells #[.int .i64 st, .slice B m d] 35)).alloc (.cells #[.int .i64 0, .slice none 0 0] 35)); clear hd
  have HLm := Lib.hid HD.out.1
  have HLn := Lib.hid HR.out.1
  go_enter Try.func24, Try.ntmps24
  go_wp2_with fail
  refine (canI_any _ _ _ _ _ _ f st done x _ _ _ HR.out hok HD.out hm hmd).mono ?_
  rintro e w1 ⟨rfl, hb⟩
  have HX1 := Lib.hid ((hb.block _ (heap_lt HX.out)).trans HX.out)
  have HY1 := Lib.hid ((hb.block _ (heap_lt HY.out)).trans HY.out)
  have HZ1 := Lib.hid ((hb.block _ (heap_lt HZ.out)).trans HZ.out)
  have HB1 := Lib.hid (HB.out.trans (hb.mono HB.out.size))
  have HD1 := Lib.hid (HD.out.below hb)
  clear hb HX HY HZ HB HD
  have hs1 := heap_lt HZ1.out
  have z0 := (blk_cl (k := 0) HZ1.out rfl).1
  have z0' := (blk_cl (k := 0) HZ1.out rfl).2
  have z1 := (blk_cl (k := 1) HZ1.out rfl).1
  have z1' := (blk_cl (k := 1) HZ1.out rfl).2
  cases hcan : canB f st done x
  · have HE := Lib.hid (doR_no hcan)
    go_wp2_with fail
    have hres := set21 (u := .slice none 0 0) (set20 (u := .int .i64 0) HZ1.out)
    have e0 := (blk_cl (k := 0) hres rfl).1
    have e1 := (blk_cl (k := 1) hres rfl).1
    exact bodyPost_ret (v := .tuple #[.agg #[.int .i64 0, .slice none 0 0], .bool false]) (by simp [results, Try.results24, go_sem, e0, e1]) rfl ⟨none, 0, 0, by rw [HE.out, hcan], by rw [HE.out]; exact own_nil, (HB1.out.setCell (p := ⟨w.heap.size + 1 + 1, 0, none⟩) (by show w.heap.size ≤ w.heap.size + 1 + 1; omega) _).setCell (p := ⟨w.heap.size + 1 + 1, 1, none⟩) (by show w.heap.size ≤ w.heap.size + 1 + 1; omega) _⟩
  · have HE := Lib.hid (doR_yes hcan)
    have hle : m + 1 ≤ 1048576 := by
      have h1 := ord_len (can_ord hcan)
      rw [List.length_append, HLm.out, HLn.out] at h1
      have h2 := List.length_singleton (a := x)
      omega
    have HCAN := Lib.hid hcan; clear hcan
    have y0 := (blk_cl (k := 0) HY1.out rfl).1
    have y1 := (blk_cl (k := 1) HY1.out rfl).1
    go_wp2_with fail
    refine (cloneNames_any _ _ _ done _ _ HD1.out hm).mono ?_
    rintro e w3 ⟨v3, rfl, how3⟩
    have hb3 := how3.below
    have HX3 := Lib.hid ((hb3.block _ (heap_lt HX1.out)).trans HX1.out)
    have HZ3 := Lib.hid ((hb3.block _ (heap_lt HZ1.out)).trans HZ1.out)
    have HB3 := Lib.hid (HB1.out.trans (hb3.mono HB1.out.size))
    have HO3 := Lib.hid how3; clear how3 hb3
    have HN3x := Lib.hid (row_ne HO3.out.row HX3.out (by decide))
    have HN3z := Lib.hid (row_ne HO3.out.row HZ3.out (by decide))
    clear y0 y1 z0 z0' z1 z1'
    go_wp2_with (at_builtin; refine app_str w1 _ m done _ x ?c0 rfl (.tmp 17) (.tmp 19) rfl rfl rfl ?c1 (by omega) ?_)
    case c0 => exact HO3.out.alloc _
    case c1 => exact heap_new rfl
    intro v5 w5 how5 hg5
    replace how5 : Own 9 1 w1 w5 v5 (m + 1) ((done ++ [x]).map Value.string) := by rw [List.map_append]; exact how5
    have HX5 := Lib.hid (grown_blk hg5 (heap_old HX3.out) HN3x.out)
    have HZ5 := Lib.hid (grown_blk hg5 (heap_old HZ3.out) HN3z.out)
    obtain ⟨A5, c5, rfl, hrow5⟩ := own_str how5.row
    have HROW := Lib.hid hrow5; clear hrow5
    have HO5 := Lib.hid how5.row
    have HB5 := Lib.hid (HB1.out.trans (how5.below.mono HB1.out.size)); clear how5 hg5
    have x0 := (blk_cl (k := 0) HX5.out rfl).1
    have x1 := (blk_cl (k := 1) HX5.out rfl).1
    go_wp2_with fail
    refine (forth_any _ _ _ _ _ _ f.ver _).mono ?_
    rintro e w6 ⟨rfl, hb6⟩
    have HZ6 := Lib.hid ((hb6.block _ (heap_lt HZ5.out)).trans HZ5.out)
    have HB6 := Lib.hid (HB5.out.trans (hb6.mono HB5.out.size))
    have HO6 := Lib.hid (row_below HO5.out hb6)
    clear hb6 x0 x1
    have HE2 := Lib.hid (show doR f st done x = (forthI (m + 1) n, done ++ [x]) by rw [HE.out, HLm.out, HLn.out])
    generalize forthI (m + 1) n = z at *
    have z0 := (blk_cl (k := 0) HZ6.out rfl).1
    have z0' := (blk_cl (k := 0) HZ6.out rfl).2
    have z1 := (blk_cl (k := 1) HZ6.out rfl).1
    have z1' := (blk_cl (k := 1) HZ6.out rfl).2
    go_wp2_with fail
    have hres := set21 (u := .slice A5 (m + 1) c5) (set20 (u := .int .i64 z) HZ6.out)
    have e0 := (blk_cl (k := 0) hres rfl).1
    have e1 := (blk_cl (k := 1) hres rfl).1
    have hbl := (HB6.out.setCell (p := ⟨w.heap.size + 1 + 1, 0, none⟩) (by show w.heap.size ≤ w.heap.size + 1 + 1; omega) (.int .i64 z)).setCell (p := ⟨w.heap.size + 1 + 1, 1, none⟩) (by show w.heap.size ≤ w.heap.size + 1 + 1; omega) (.slice A5 (m + 1) c5)
    exact bodyPost_ret (v := .tuple #[.agg #[.int .i64 z, .slice A5 (m + 1) c5], .bool true]) (by simp [results, Try.results24, go_sem, e0, e1]) rfl ⟨_, _, _, by rw [HE2.out, HCAN.out], by rw [HE2.out]; exact row_mono (row_set (row_set HO6.out HZ6.out (by decide)) (set20 HZ6.out) (by decide)) HB1.out.size, hbl⟩
end Go.Proofs.Ythcpjkhijjkolaa

/- Runs: a step fails, both sides. -/
namespace Go.Proofs.Ythcpjkhijjkolaa
open Go.RowKit

/-- A step fails. -/
def failR (f : Flow) (st : Int) (done : List Str) (x : Str) : Int × List Str := if canB f st done x = true then (backI f.steps done done.length, done) else (0, [])
theorem failR_no {f : Flow} {st : Int} {done : List Str} {x : Str} (h : canB f st done x = false) : failR f st done x = (0, []) := by unfold failR; rw [if_neg (by rw [h]; simp)]
theorem failR_yes {f : Flow} {st : Int} {done : List Str} {x : Str} (h : canB f st done x = true) : failR f st done x = (backI f.steps done done.length, done) := by unfold failR; rw [if_pos h]
theorem can_run {f : Flow} {st : Int} {done : List Str} {x : Str} (h : canB f st done x = true) : runB f st done = true := by
  unfold canB at h
  rw [Bool.and_eq_true] at h
  exact h.1

set_option maxRecDepth 100000 in
set_option maxHeartbeats 1000000 in
theorem failS_any (A B : Option Addr) (n c m d : Nat) (f : Flow) (st : Int) (done : List Str) (x : Str) (lo lo' : Nat) (w : World) (hr : RStep w lo A n f.steps) (hok : okSteps f.steps) (hd : RStr w lo' B m done) (hm : m ≤ 1048576) (hmd : m ≤ d) :
    Calls Try.prog 127 #[.agg #[.int .i64 f.ver, .slice A n c], .agg #[.int .i64 st, .slice B m d], .string x] w fun e w' => ∃ B' n' d', e = .returned (.tuple #[.agg #[.int .i64 (failR f st done x).1, .slice B' n' d'], .bool (canB f st done x)]) ∧
      w'.ownsRow w.heap.size 9 1 (.slice B' n' d') n' ((failR f st done x).2.map Value.string) ∧ Below w.heap.size w w' := by
  have hn : n ≤ 1048576 := by have := hok.1; rw [hr.1] at this; exact this
  have HX := Lib.hid (heap_old (o := .cells #[.int .i64 0, .slice none 0 0] 35) (heap_old (o := .cells #[.int .i64 st, .slice B m d] 35) (heap_new (w := w) (o := .cells #[.int .i64 f.ver, .slice A n c] 33) rfl)))
  have HY := Lib.hid (heap_old (o := .cells #[.int .i64 0, .slice none 0 0] 35) (heap_new (w := w.alloc (.cells #[.int .i64 f.ver, .slice A n c] 33)) (b := w.heap.size + 1) (o := .cells #[.int .i64 st, .slice B m d] 35) (by simp)))
  have HZ := Lib.hid (heap_new (w := (w.alloc (.cells #[.int .i64 f.ver, .slice A n c] 33)).alloc (.cells #[.int .i64 st, .slice B m d] 35)) (b := w.heap.size + 1 + 1) (o := .cells #[.int .i64 0, .slice none 0 0] 35) (by simp))
  have HB := Lib.hid ((((Below.refl w.heap.size w).alloc (Nat.le_refl _) (.cells #[.int .i64 f.ver, .slice A n c] 33)).alloc (by simp) (.cells #[.int .i64 st, .slice B m d] 35)).alloc (by simp; omega) (.cells #[.int .i64 0, .slice none 0 0] 35))
  have HR := Lib.hid (((hr.alloc (.cells #[.int .i64 f.ver, .slice A n c] 33)).alloc (.cells #[.int .i64 st, .slice B m d] 35)).alloc (.cells #[.int .i64 0, .slice none 0 0] 35)); clear hr
  have HD := Lib.hid (((hd.alloc (.cells #[.int .i64 f.ver, .slice A n c] 33)).alloc (.cells #[.int .i64 st, .slice B m d] 35)).alloc (.cells #[.int .i64 0, .slice none 0 0] 35)); clear hd
  have HLm := Lib.hid HD.out.1
  have HLn := Lib.hid HR.out.1
  go_enter Try.func127, Try.ntmps127
  go_wp2_with fail
  refine (canS_any _ _ _ _ _ _ f st done x _ _ _ HR.out hok HD.out hm hmd).mono ?_
  rintro e w1 ⟨rfl, hb⟩
  have HX1 := Lib.hid ((hb.block _ (heap_lt HX.out)).trans HX.out)
  have HY1 := Lib.hid ((hb.block _ (heap_lt HY.out)).trans HY.out)
  have HZ1 := Lib.hid ((hb.block _ (heap_lt HZ.out)).trans HZ.out)
  have HB1 := Lib.hid (HB.out.trans (hb.mono HB.out.size))
  have HR1 := Lib.hid (HR.out.below hb)
  have HD1 := Lib.hid (HD.out.below hb)
  clear hb HX HY HZ HB HD HR
  have hs1 := heap_lt HZ1.out
  have z0 := (blk_cl (k := 0) HZ1.out rfl).1
  have z0' := (blk_cl (k := 0) HZ1.out rfl).2
  have z1 := (blk_cl (k := 1) HZ1.out rfl).1
  have z1' := (blk_cl (k := 1) HZ1.out rfl).2
  cases hcan : canB f st done x
  · have HE := Lib.hid (failR_no hcan)
    go_wp2_with fail
    have hres := set21 (u := .slice none 0 0) (set20 (u := .int .i64 0) HZ1.out)
    have e0 := (blk_cl (k := 0) hres rfl).1
    have e1 := (blk_cl (k := 1) hres rfl).1
    exact bodyPost_ret (v := .tuple #[.agg #[.int .i64 0, .slice none 0 0], .bool false]) (by simp [results, Try.results127, go_sem, e0, e1]) rfl ⟨none, 0, 0, by rw [HE.out, hcan], by rw [HE.out]; exact own_nil, (HB1.out.setCell (p := ⟨w.heap.size + 1 + 1, 0, none⟩) (by show w.heap.size ≤ w.heap.size + 1 + 1; omega) _).setCell (p := ⟨w.heap.size + 1 + 1, 1, none⟩) (by show w.heap.size ≤ w.heap.size + 1 + 1; omega) _⟩
  · have HE := Lib.hid (failR_yes hcan)
    have HORD := Lib.hid (run_ord (can_run hcan))
    have HCAN := Lib.hid hcan; clear hcan
    have x0 := (blk_cl (k := 0) HX1.out rfl).1
    have x1 := (blk_cl (k := 1) HX1.out rfl).1
    have y1 := (blk_cl (k := 1) HY1.out rfl).1
    clear z0 z0' z1 z1'
    go_wp2_with fail
    refine (backS_any _ _ _ _ _ _ f done _ _ _ HR1.out hok HD1.out hm HORD.out).mono ?_
    rintro e w2 ⟨B2, d2, rfl, ho2, hb2⟩
    have HZ2 := Lib.hid ((hb2.block _ (heap_lt HZ1.out)).trans HZ1.out)
    have HB2 := Lib.hid (HB1.out.trans (hb2.mono HB1.out.size))
    have HO2 := Lib.hid ho2; clear ho2 hb2 x0 x1 y1
    have HE2 := Lib.hid (show failR f st done x = (backI f.steps done m, done) by rw [HE.out, HLm.out])
    generalize backI f.steps done m = z at *
    have z0 := (blk_cl (k := 0) HZ2.out rfl).1
    have z0' := (blk_cl (k := 0) HZ2.out rfl).2
    have z1 := (blk_cl (k := 1) HZ2.out rfl).1
    have z1' := (blk_cl (k := 1) HZ2.out rfl).2
    go_wp2_with fail
    have hres := set21 (u := .slice B2 m d2) (set20 (u := .int .i64 z) HZ2.out)
    have e0 := (blk_cl (k := 0) hres rfl).1
    have e1 := (blk_cl (k := 1) hres rfl).1
    exact bodyPost_ret (v := .tuple #[.agg #[.int .i64 z, .slice B2 m d2], .bool true]) (by simp [results, Try.results127, go_sem, e0, e1]) rfl ⟨_, _, _, by rw [HE2.out, HCAN.out], by rw [HE2.out]; exact row_mono (row_set (row_set HO2.out HZ2.out (by decide)) (set20 HZ2.out) (by decide)) HB1.out.size, (HB2.out.setCell (p := ⟨w.heap.size + 1 + 1, 0, none⟩) (by show w.heap.size ≤ w.heap.size + 1 + 1; omega) _).setCell (p := ⟨w.heap.size + 1 + 1, 1, none⟩) (by show w.heap.size ≤ w.heap.size + 1 + 1; omega) _⟩

set_option maxRecDepth 100000 in
set_option maxHeartbeats 1000000 in
theorem failI_any (A B : Option Addr) (n c m d : Nat) (f : Flow) (st : Int) (done : List Str) (x : Str) (lo lo' : Nat) (w : World) (hr : RStep w lo A n f.steps) (hok : okSteps f.steps) (hd : RStr w lo' B m done) (hm : m ≤ 1048576) (hmd : m ≤ d) :
    Calls Try.prog 99 #[.agg #[.int .i64 f.ver, .slice A n c], .agg #[.int .i64 st, .slice B m d], .string x] w fun e w' => ∃ B' n' d', e = .returned (.tuple #[.agg #[.int .i64 (failR f st done x).1, .slice B' n' d'], .bool (canB f st done x)]) ∧
      w'.ownsRow w.heap.size 9 1 (.slice B' n' d') n' ((failR f st done x).2.map Value.string) ∧ Below w.heap.size w w' := by
  have hn : n ≤ 1048576 := by have := hok.1; rw [hr.1] at this; exact this
  have HX := Lib.hid (heap_old (o := .cells #[.int .i64 0, .slice none 0 0] 35) (heap_old (o := .cells #[.int .i64 st, .slice B m d] 35) (heap_new (w := w) (o := .cells #[.int .i64 f.ver, .slice A n c] 33) rfl)))
  have HY := Lib.hid (heap_old (o := .cells #[.int .i64 0, .slice none 0 0] 35) (heap_new (w := w.alloc (.cells #[.int .i64 f.ver, .slice A n c] 33)) (b := w.heap.size + 1) (o := .cells #[.int .i64 st, .slice B m d] 35) (by simp)))
  have HZ := Lib.hid (heap_new (w := (w.alloc (.cells #[.int .i64 f.ver, .slice A n c] 33)).alloc (.cells #[.int .i64 st, .slice B m d] 35)) (b := w.heap.size + 1 + 1) (o := .cells #[.int .i64 0, .slice none 0 0] 35) (by simp))
  have HB := Lib.hid ((((Below.refl w.heap.size w).alloc (Nat.le_refl _) (.cells #[.int .i64 f.ver, .slice A n c] 33)).alloc (by simp) (.cells #[.int .i64 st, .slice B m d] 35)).alloc (by simp; omega) (.cells #[.int .i64 0, .slice none 0 0] 35))
  have HR := Lib.hid (((hr.alloc (.cells #[.int .i64 f.ver, .slice A n c] 33)).alloc (.cells #[.int .i64 st, .slice B m d] 35)).alloc (.cells #[.int .i64 0, .slice none 0 0] 35)); clear hr
  have HD := Lib.hid (((hd.alloc (.cells #[.int .i64 f.ver, .slice A n c] 33)).alloc (.cells #[.int .i64 st, .slice B m d] 35)).alloc (.cells #[.int .i64 0, .slice none 0 0] 35)); clear hd
  have HLm := Lib.hid HD.out.1
  have HLn := Lib.hid HR.out.1
  go_enter Try.func99, Try.ntmps99
  go_wp2_with fail
  refine (canI_any _ _ _ _ _ _ f st done x _ _ _ HR.out hok HD.out hm hmd).mono ?_
  rintro e w1 ⟨rfl, hb⟩
  have HX1 := Lib.hid ((hb.block _ (heap_lt HX.out)).trans HX.out)
  have HY1 := Lib.hid ((hb.block _ (heap_lt HY.out)).trans HY.out)
  have HZ1 := Lib.hid ((hb.block _ (heap_lt HZ.out)).trans HZ.out)
  have HB1 := Lib.hid (HB.out.trans (hb.mono HB.out.size))
  have HR1 := Lib.hid (HR.out.below hb)
  have HD1 := Lib.hid (HD.out.below hb)
  clear hb HX HY HZ HB HD HR
  have hs1 := heap_lt HZ1.out
  have z0 := (blk_cl (k := 0) HZ1.out rfl).1
  have z0' := (blk_cl (k := 0) HZ1.out rfl).2
  have z1 := (blk_cl (k := 1) HZ1.out rfl).1
  have z1' := (blk_cl (k := 1) HZ1.out rfl).2
  cases hcan : canB f st done x
  · have HE := Lib.hid (failR_no hcan)
    go_wp2_with fail
    have hres := set21 (u := .slice none 0 0) (set20 (u := .int .i64 0) HZ1.out)
    have e0 := (blk_cl (k := 0) hres rfl).1
    have e1 := (blk_cl (k := 1) hres rfl).1
    exact bodyPost_ret (v := .tuple #[.agg #[.int .i64 0, .slice none 0 0], .bool false]) (by simp [results, Try.results99, go_sem, e0, e1]) rfl ⟨none, 0, 0, by rw [HE.out, hcan], by rw [HE.out]; exact own_nil, (HB1.out.setCell (p := ⟨w.heap.size + 1 + 1, 0, none⟩) (by show w.heap.size ≤ w.heap.size + 1 + 1; omega) _).setCell (p := ⟨w.heap.size + 1 + 1, 1, none⟩) (by show w.heap.size ≤ w.heap.size + 1 + 1; omega) _⟩
  · have HE := Lib.hid (failR_yes hcan)
    have HALL := Lib.hid (fun j (hj : j < m) => ord_all (run_ord (can_run hcan)) j (by rw [HLm.out]; exact hj))
    have HCAN := Lib.hid hcan; clear hcan
    clear z0 z0' z1 z1'
    have HSB : Hid (∀ w', Below w1.heap.size w1 w' → (w'.cell? ⟨w.heap.size, 0, none⟩ = some (.int .i64 f.ver) ∧ w'.cell? ⟨w.heap.size, 1, none⟩ = some (.slice A n c)) ∧ w'.cell? ⟨w.heap.size + 1, 1, none⟩ = some (.slice B m d)) := fun w' h => by
      have e1 := (h.block _ (heap_lt HX1.out)).trans HX1.out
      have e2 := (h.block _ (heap_lt HY1.out)).trans HY1.out
      exact ⟨⟨(blk_cl (k := 0) e1 rfl).1, (blk_cl (k := 1) e1 rfl).1⟩, (blk_cl (k := 1) e2 rfl).1⟩
    have HSZ : Hid (∀ w'', Below w1.heap.size w1 w'' → ∀ u u', (fun w' => (w'.cell? ⟨w.heap.size, 0, none⟩ = some (.int .i64 f.ver) ∧ w'.cell? ⟨w.heap.size, 1, none⟩ = some (.slice A n c)) ∧ w'.cell? ⟨w.heap.size + 1, 1, none⟩ = some (.slice B m d)) ((w''.setCell ⟨w.heap.size + 1 + 1, 0, none⟩ u).setCell ⟨w.heap.size + 1 + 1, 1, none⟩ u')) := fun w' h u u' => by
      have e1 := set_ne (b := w.heap.size + 1 + 1) (o := 1) (u := u') (set_ne (b := w.heap.size + 1 + 1) (o := 0) (u := u) ((h.block _ (heap_lt HX1.out)).trans HX1.out) (by omega)) (by omega)
      have e2 := set_ne (b := w.heap.size + 1 + 1) (o := 1) (u := u') (set_ne (b := w.heap.size + 1 + 1) (o := 0) (u := u) ((h.block _ (heap_lt HY1.out)).trans HY1.out) (by omega)) (by omega)
      exact ⟨⟨(blk_cl (k := 0) e1 rfl).1, (blk_cl (k := 1) e1 rfl).1⟩, (blk_cl (k := 1) e2 rfl).1⟩
    have HBK := Lib.hid (fun (w' : World) (h : Below w1.heap.size w1 w') => back_any A B n c m d f.ver f.steps done _ _ w' (HR1.out.below h) hn (HD1.out.below h) hm HALL.out)
    have HCL := Lib.hid (fun (w' : World) (h : Below w1.heap.size w1 w') => cloneNames_any B m d done _ w' (HD1.out.below h) hm)
    have HE2 := Lib.hid (show failR f st done x = (backI f.steps done m, done) by rw [HE.out, HLm.out])
    generalize backI f.steps done m = z at *
    go_wp2_with fail
    go_region_held3 (fun w' => (w'.cell? ⟨w.heap.size, 0, none⟩ = some (.int .i64 f.ver) ∧ w'.cell? ⟨w.heap.size, 1, none⟩ = some (.slice A n c)) ∧ w'.cell? ⟨w.heap.size + 1, 1, none⟩ = some (.slice B m d))
      (first | exact HSB.out _ hbw | exact HSB.out _ (Below.refl _ _).drew | exact HSZ.out _ hbw _ _ | fail "keep")
      (first
        | (go_at_call 109; refine (HBK.out _ (Below.refl _ _).drew).mono ?_; rintro e w2 ⟨rfl, hb2⟩; have hbw : Below w1.heap.size w1 w2 := (Below.refl w1.heap.size w1).drew.trans hb2)
        | (go_at_call 71; refine (HCL.out _ hbw).mono ?_; rintro e w3 ⟨v3, rfl, how3⟩; replace hbw := hbw.trans (how3.below.mono hbw.size); have HZ3 := Lib.hid ((hbw.block _ (heap_lt HZ1.out)).trans HZ1.out); obtain ⟨A3, c3, rfl, _⟩ := own_str how3.row; have z0 := (blk_cl (k := 0) HZ3.out rfl).1; have z0' := (blk_cl (k := 0) HZ3.out rfl).2; have z1 := (blk_cl (k := 1) HZ3.out rfl).1; have z1' := (blk_cl (k := 1) HZ3.out rfl).2)
        | fail "no arm")
    have HB3 := Lib.hid (HB1.out.trans (hbw.mono HB1.out.size))
    go_wp2_with fail
    have hres := set21 (u := .slice A3 m c3) (set20 (u := .int .i64 z) HZ3.out)
    have e0 := (blk_cl (k := 0) hres rfl).1
    have e1 := (blk_cl (k := 1) hres rfl).1
    exact bodyPost_ret (v := .tuple #[.agg #[.int .i64 z, .slice A3 m c3], .bool true]) (by simp [results, Try.results99, go_sem, e0, e1]) rfl ⟨_, _, _, by rw [HE2.out, HCAN.out], by rw [HE2.out]; exact row_mono (row_set (row_set how3.row HZ3.out (by decide)) (set20 HZ3.out) (by decide)) (Nat.le_trans HB1.out.size hb2.size), (HB3.out.setCell (p := ⟨w.heap.size + 1 + 1, 0, none⟩) (by show w.heap.size ≤ w.heap.size + 1 + 1; omega) _).setCell (p := ⟨w.heap.size + 1 + 1, 1, none⟩) (by show w.heap.size ≤ w.heap.size + 1 + 1; omega) _⟩
end Go.Proofs.Ythcpjkhijjkolaa

/- Runs: the last step is undone, both sides. -/
namespace Go.Proofs.Ythcpjkhijjkolaa
open Go.RowKit

/-- The last step is undone. -/
def undoB (f : Flow) (st : Int) (done : List Str) : Bool := runB f st done && decide (st = 1)
def undoR (f : Flow) (st : Int) (done : List Str) : Int × List Str := if undoB f st done = true then (backI f.steps (done.take (done.length - 1)) (done.length - 1), done.take (done.length - 1)) else (0, [])
def undoN (f : Flow) (st : Int) (done : List Str) : Str := if undoB f st done = true then nth done (done.length - 1) else ⟨#[]⟩
theorem undo_no {f : Flow} {st : Int} {done : List Str} (h : undoB f st done = false) : undoR f st done = (0, []) ∧ undoN f st done = ⟨#[]⟩ := by unfold undoR undoN; rw [if_neg (by rw [h]; simp), if_neg (by rw [h]; simp)]; exact ⟨rfl, rfl⟩
theorem undo_yes {f : Flow} {st : Int} {done : List Str} {k : Nat} (h : undoB f st done = true) (hl : done.length = k + 1) : undoR f st done = (backI f.steps (done.take k) k, done.take k) ∧ undoN f st done = nth done k := by
  unfold undoR undoN
  rw [if_pos h, if_pos h, hl]
  exact ⟨rfl, rfl⟩
theorem undo_run {f : Flow} {st : Int} {done : List Str} (h : undoB f st done = true) : runB f st done = true ∧ st = 1 ∧ ∃ k, done.length = k + 1 := by
  unfold undoB at h
  simp only [Bool.and_eq_true, decide_eq_true_eq] at h
  obtain ⟨h1, rfl⟩ := h
  refine ⟨h1, rfl, done.length - 1, ?_⟩
  have h2 := h1
  unfold runB at h2
  simp at h2
  omega
theorem ord_take {ss : List Step} {done : List Str} (h : ordB ss done = true) (k : Nat) : ordB ss (done.take k) = true := by
  unfold ordB at h ⊢
  rw [allN_iff] at h ⊢
  intro j hj
  rw [List.length_take] at hj
  have h1 := h j (by omega)
  unfold ordAt at h1 ⊢
  have e1 : nth (done.take k) j = nth done j := by
    rw [nth_eq (by rw [List.length_take]; omega), nth_eq (by omega), List.getElem_take]
  have e2 : (done.take k).take j = done.take j := by rw [List.take_take]; congr 1; omega
  rw [e1, e2]
  exact h1

set_option maxRecDepth 100000 in
set_option maxHeartbeats 1000000 in
theorem undoS_any (A B : Option Addr) (n c m d : Nat) (f : Flow) (st : Int) (done : List Str) (lo lo' : Nat) (w : World) (hr : RStep w lo A n f.steps) (hok : okSteps f.steps) (hd : RStr w lo' B m done) (hm : m ≤ 1048576) (hmd : m ≤ d) :
    Calls Try.prog 128 #[.agg #[.int .i64 f.ver, .slice A n c], .agg #[.int .i64 st, .slice B m d]] w fun e w' => ∃ B' n' d', e = .returned (.tuple #[.agg #[.int .i64 (undoR f st done).1, .slice B' n' d'], .string (undoN f st done), .bool (undoB f st done)]) ∧
      w'.ownsRow w.heap.size 9 1 (.slice B' n' d') n' ((undoR f st done).2.map Value.string) ∧ Below w.heap.size w w' := by
  have hn : n ≤ 1048576 := by have := hok.1; rw [hr.1] at this; exact this
  have HX := Lib.hid (heap_old (o := .cells #[.int .i64 0, .slice none 0 0] 35) (heap_old (o := .cells #[.int .i64 st, .slice B m d] 35) (heap_new (w := w) (o := .cells #[.int .i64 f.ver, .slice A n c] 33) rfl)))
  have HY := Lib.hid (heap_old (o := .cells #[.int .i64 0, .slice none 0 0] 35) (heap_new (w := w.alloc (.cells #[.int .i64 f.ver, .slice A n c] 33)) (b := w.heap.size + 1) (o := .cells #[.int .i64 st, .slice B m d] 35) (by simp)))
  have HZ := Lib.hid (heap_new (w := (w.alloc (.cells #[.int .i64 f.ver, .slice A n c] 33)).alloc (.cells #[.int .i64 st, .slice B m d] 35)) (b := w.heap.size + 1 + 1) (o := .cells #[.int .i64 0, .slice none 0 0] 35) (by simp))
  have HB := Lib.hid ((((Below.refl w.heap.size w).alloc (Nat.le_refl _) (.cells #[.int .i64 f.ver, .slice A n c] 33)).alloc (by simp) (.cells #[.int .i64 st, .slice B m d] 35)).alloc (by simp; omega) (.cells #[.int .i64 0, .slice none 0 0] 35))
  have HR := Lib.hid (((hr.alloc (.cells #[.int .i64 f.ver, .slice A n c] 33)).alloc (.cells #[.int .i64 st, .slice B m d] 35)).alloc (.cells #[.int .i64 0, .slice none 0 0] 35)); clear hr
  have HDW := Lib.hid hd
  have HD := Lib.hid (((hd.alloc (.cells #[.int .i64 f.ver, .slice A n c] 33)).alloc (.cells #[.int .i64 st, .slice B m d] 35)).alloc (.cells #[.int .i64 0, .slice none 0 0] 35)); clear hd
  have HLm := Lib.hid HD.out.1
  have HLn := Lib.hid HR.out.1
  go_enter Try.func128, Try.ntmps128
  go_wp2_with fail
  refine (runS_any _ _ _ _ _ _ f st done _ _ _ HR.out hok HD.out hm hmd).mono ?_
  rintro e w1 ⟨rfl, hb⟩
  have HX1 := Lib.hid ((hb.block _ (heap_lt HX.out)).trans HX.out)
  have HY1 := Lib.hid ((hb.block _ (heap_lt HY.out)).trans HY.out)
  have HZ1 := Lib.hid ((hb.block _ (heap_lt HZ.out)).trans HZ.out)
  have HB1 := Lib.hid (HB.out.trans (hb.mono HB.out.size))
  have HR1 := Lib.hid (HR.out.below hb)
  have HD1 := Lib.hid (HD.out.below hb)
  have HNM := Lib.hid (fun (k : Nat) (b off : Nat) (e : B = some ⟨b, off, none⟩) (hk : k < m) => (by
    obtain ⟨b', off', e', ⟨_, hbl⟩, hcc⟩ := RStr.at_ HDW.out (show 0 < m by omega)
    rw [e] at e'
    injection e' with e'; injection e' with e1 e2
    subst e1; subst e2
    exact ⟨hbl, ((HB.out.trans (hb.mono HB.out.size)).cell (p := ⟨b, off + k, none⟩) hbl).trans (hcc k hk).1⟩ : b < w.heap.size ∧ w1.cell? ⟨b, off + k, none⟩ = some (.string (nth done k))))
  clear hb HX HY HZ HB HD HR
  have hs1 := heap_lt HZ1.out
  have z0 := (blk_cl (k := 0) HZ1.out rfl).1
  have z0' := (blk_cl (k := 0) HZ1.out rfl).2
  have z1 := (blk_cl (k := 1) HZ1.out rfl).1
  have z1' := (blk_cl (k := 1) HZ1.out rfl).2
  have y0 := (blk_cl (k := 0) HY1.out rfl).1
  have y1 := (blk_cl (k := 1) HY1.out rfl).1
  by_cases hu : undoB f st done = true
  case neg =>
    rw [Bool.not_eq_true] at hu
    have HE := Lib.hid (undo_no hu)
    have HU := Lib.hid hu
    cases hrun : runB f st done
    · clear hrun hu
      go_wp2_with fail
      have hres := set21 (u := .slice none 0 0) (set20 (u := .int .i64 0) HZ1.out)
      have e0 := (blk_cl (k := 0) hres rfl).1
      have e1 := (blk_cl (k := 1) hres rfl).1
      exact bodyPost_ret (v := .tuple #[.agg #[.int .i64 0, .slice none 0 0], .string ⟨#[]⟩, .bool false]) (by simp [results, Try.results128, go_sem, e0, e1]) rfl ⟨none, 0, 0, by rw [HE.out.1, HE.out.2, HU.out], by rw [HE.out.1]; exact own_nil, (HB1.out.setCell (p := ⟨w.heap.size + 1 + 1, 0, none⟩) (by show w.heap.size ≤ w.heap.size + 1 + 1; omega) _).setCell (p := ⟨w.heap.size + 1 + 1, 1, none⟩) (by show w.heap.size ≤ w.heap.size + 1 + 1; omega) _⟩
    · have h1 : ¬ st = 1 := fun h => by unfold undoB at hu; rw [hrun, h] at hu; simp at hu
      have hq : (st == 1) = false := by rw [beq_eq_false_iff_ne]; exact h1
      clear hrun hu h1
      go_wp2_with fail
      have hres := set21 (u := .slice none 0 0) (set20 (u := .int .i64 0) HZ1.out)
      have e0 := (blk_cl (k := 0) hres rfl).1
      have e1 := (blk_cl (k := 1) hres rfl).1
      exact bodyPost_ret (v := .tuple #[.agg #[.int .i64 0, .slice none 0 0], .string ⟨#[]⟩, .bool false]) (by simp [results, Try.results128, go_sem, e0, e1]) rfl ⟨none, 0, 0, by rw [HE.out.1, HE.out.2, HU.out], by rw [HE.out.1]; exact own_nil, (HB1.out.setCell (p := ⟨w.heap.size + 1 + 1, 0, none⟩) (by show w.heap.size ≤ w.heap.size + 1 + 1; omega) _).setCell (p := ⟨w.heap.size + 1 + 1, 1, none⟩) (by show w.heap.size ≤ w.heap.size + 1 + 1; omega) _⟩
  obtain ⟨hrun, rfl, k, hk⟩ := undo_run hu
  obtain rfl : m = k + 1 := by rw [← HLm.out, hk]
  obtain ⟨hE1, hE2⟩ := undo_yes hu hk
  have HE := Lib.hid hE1
  have HEN := Lib.hid hE2; clear hE1 hE2
  have HU := Lib.hid hu; clear hu
  rw [hrun]
  have HORD := Lib.hid (ord_take (run_ord hrun) k); clear hrun
  obtain ⟨b, off, rfl, _, _⟩ := RStr.at_ HD1.out (show 0 < k + 1 by omega)
  obtain ⟨hbl, hnm⟩ := HNM.out k b off rfl (by omega)
  have HTK := Lib.hid ((RH.take HD1.out.low (k := k) (by omega)).up (Nat.le_refl _))
  generalize nth done k = x at *
  have HNX := Lib.hid hnm; clear hnm HNM
  clear z0 z0' z1 z1'
  have hk1 : (k : Int) < (k : Int) + 1 := by omega
  have hk2 : (k : Int) ≤ (d : Int) := by omega
  have hk3 : k ≤ d := by omega
  have hk4 : k < k + 1 := by omega
  have HSB : Hid (∀ w', Below w1.heap.size w1 w' → ((w'.cell? ⟨w.heap.size, 0, none⟩ = some (.int .i64 f.ver) ∧ w'.cell? ⟨w.heap.size, 1, none⟩ = some (.slice A n c)) ∧ w'.cell? ⟨w.heap.size + 1, 1, none⟩ = some (.slice (some ⟨b, off, none⟩) (k + 1) d)) ∧ w'.cell? ⟨b, off + k, none⟩ = some (.string x)) := fun w' h => by
    have e1 := (h.block _ (heap_lt HX1.out)).trans HX1.out
    have e2 := (h.block _ (heap_lt HY1.out)).trans HY1.out
    exact ⟨⟨⟨(blk_cl (k := 0) e1 rfl).1, (blk_cl (k := 1) e1 rfl).1⟩, (blk_cl (k := 1) e2 rfl).1⟩, (h.cell (p := ⟨b, off + k, none⟩) (by show b < _; omega)).trans HNX.out⟩
  have HSZ : Hid (∀ w'', Below w1.heap.size w1 w'' → ∀ u u', (fun w' => ((w'.cell? ⟨w.heap.size, 0, none⟩ = some (.int .i64 f.ver) ∧ w'.cell? ⟨w.heap.size, 1, none⟩ = some (.slice A n c)) ∧ w'.cell? ⟨w.heap.size + 1, 1, none⟩ = some (.slice (some ⟨b, off, none⟩) (k + 1) d)) ∧ w'.cell? ⟨b, off + k, none⟩ = some (.string x)) ((w''.setCell ⟨w.heap.size + 1 + 1, 0, none⟩ u).setCell ⟨w.heap.size + 1 + 1, 1, none⟩ u')) := fun w' h u u' => by
    have e1 := set_ne (b := w.heap.size + 1 + 1) (o := 1) (u := u') (set_ne (b := w.heap.size + 1 + 1) (o := 0) (u := u) ((h.block _ (heap_lt HX1.out)).trans HX1.out) (by omega)) (by omega)
    have e2 := set_ne (b := w.heap.size + 1 + 1) (o := 1) (u := u') (set_ne (b := w.heap.size + 1 + 1) (o := 0) (u := u) ((h.block _ (heap_lt HY1.out)).trans HY1.out) (by omega)) (by omega)
    have e3 := (h.cell (p := ⟨b, off + k, none⟩) (by show b < _; omega)).trans HNX.out
    have e4 := (((Below.refl (w.heap.size + 1 + 1) w').setCell (p := ⟨w.heap.size + 1 + 1, 0, none⟩) (Nat.le_refl _) u).setCell (p := ⟨w.heap.size + 1 + 1, 1, none⟩) (Nat.le_refl _) u').cell (p := ⟨b, off + k, none⟩) (by show b < _; omega)
    exact ⟨⟨⟨(blk_cl (k := 0) e1 rfl).1, (blk_cl (k := 1) e1 rfl).1⟩, (blk_cl (k := 1) e2 rfl).1⟩, e4.trans e3⟩
  have HBK := Lib.hid (fun (w' : World) (h : Below w1.heap.size w1 w') => backS_any A (some ⟨b, off, none⟩) n c k d f (done.take k) _ _ w' (HR1.out.below h) hok (HTK.out.below h) (by omega) HORD.out)
  generalize backI f.steps (done.take k) k = z at *
  go_wp2_with fail
  go_region_held3 (fun w' => ((w'.cell? ⟨w.heap.size, 0, none⟩ = some (.int .i64 f.ver) ∧ w'.cell? ⟨w.heap.size, 1, none⟩ = some (.slice A n c)) ∧ w'.cell? ⟨w.heap.size + 1, 1, none⟩ = some (.slice (some ⟨b, off, none⟩) (k + 1) d)) ∧ w'.cell? ⟨b, off + k, none⟩ = some (.string x))
    (first | exact HSB.out _ hbw | exact HSB.out _ (Below.refl _ _).drew | exact HSZ.out _ hbw _ _ | fail "keep")
    (first
      | (go_at_call 140; refine (HBK.out _ (Below.refl _ _).drew).mono ?_; rintro e w3 ⟨A3, c3, rfl, ho3, hb3⟩; have hbw : Below w1.heap.size w1 w3 := (Below.refl w1.heap.size w1).drew.trans hb3; have HZ3 := Lib.hid ((hbw.block _ (heap_lt HZ1.out)).trans HZ1.out); have z0 := (blk_cl (k := 0) HZ3.out rfl).1; have z0' := (blk_cl (k := 0) HZ3.out rfl).2; have z1 := (blk_cl (k := 1) HZ3.out rfl).1; have z1' := (blk_cl (k := 1) HZ3.out rfl).2)
      | fail "no arm")
  have HB3 := Lib.hid (HB1.out.trans (hbw.mono HB1.out.size))
  go_wp2_with fail
  have hres := set21 (u := .slice A3 k c3) (set20 (u := .int .i64 z) HZ3.out)
  have e0 := (blk_cl (k := 0) hres rfl).1
  have e1 := (blk_cl (k := 1) hres rfl).1
  exact bodyPost_ret (v := .tuple #[.agg #[.int .i64 z, .slice A3 k c3], .string x, .bool true]) (by simp [results, Try.results128, go_sem, e0, e1]) rfl ⟨_, _, _, by rw [HE.out, HU.out, HEN.out], by rw [HE.out]; exact row_mono (row_set (row_set ho3 HZ3.out (by decide)) (set20 HZ3.out) (by decide)) HB1.out.size, (HB3.out.setCell (p := ⟨w.heap.size + 1 + 1, 0, none⟩) (by show w.heap.size ≤ w.heap.size + 1 + 1; omega) _).setCell (p := ⟨w.heap.size + 1 + 1, 1, none⟩) (by show w.heap.size ≤ w.heap.size + 1 + 1; omega) _⟩

set_option maxRecDepth 100000 in
set_option maxHeartbeats 1000000 in
theorem undoI_any (A B : Option Addr) (n c m d : Nat) (f : Flow) (st : Int) (done : List Str) (lo lo' : Nat) (w : World) (hr : RStep w lo A n f.steps) (hok : okSteps f.steps) (hd : RStr w lo' B m done) (hm : m ≤ 1048576) (hmd : m ≤ d) :
    Calls Try.prog 100 #[.agg #[.int .i64 f.ver, .slice A n c], .agg #[.int .i64 st, .slice B m d]] w fun e w' => ∃ B' n' d', e = .returned (.tuple #[.agg #[.int .i64 (undoR f st done).1, .slice B' n' d'], .string (undoN f st done), .bool (undoB f st done)]) ∧
      w'.ownsRow w.heap.size 9 1 (.slice B' n' d') n' ((undoR f st done).2.map Value.string) ∧ Below w.heap.size w w' := by
  have hn : n ≤ 1048576 := by have := hok.1; rw [hr.1] at this; exact this
  have HX := Lib.hid (heap_old (o := .cells #[.int .i64 0, .slice none 0 0] 35) (heap_old (o := .cells #[.int .i64 st, .slice B m d] 35) (heap_new (w := w) (o := .cells #[.int .i64 f.ver, .slice A n c] 33) rfl)))
  have HY := Lib.hid (heap_old (o := .cells #[.int .i64 0, .slice none 0 0] 35) (heap_new (w := w.alloc (.cells #[.int .i64 f.ver, .slice A n c] 33)) (b := w.heap.size + 1) (o := .cells #[.int .i64 st, .slice B m d] 35) (by simp)))
  have HZ := Lib.hid (heap_new (w := (w.alloc (.cells #[.int .i64 f.ver, .slice A n c] 33)).alloc (.cells #[.int .i64 st, .slice B m d] 35)) (b := w.heap.size + 1 + 1) (o := .cells #[.int .i64 0, .slice none 0 0] 35) (by simp))
  have HB := Lib.hid ((((Below.refl w.heap.size w).alloc (Nat.le_refl _) (.cells #[.int .i64 f.ver, .slice A n c] 33)).alloc (by simp) (.cells #[.int .i64 st, .slice B m d] 35)).alloc (by simp; omega) (.cells #[.int .i64 0, .slice none 0 0] 35))
  have HR := Lib.hid (((hr.alloc (.cells #[.int .i64 f.ver, .slice A n c] 33)).alloc (.cells #[.int .i64 st, .slice B m d] 35)).alloc (.cells #[.int .i64 0, .slice none 0 0] 35)); clear hr
  have HDW := Lib.hid hd
  have HD := Lib.hid (((hd.alloc (.cells #[.int .i64 f.ver, .slice A n c] 33)).alloc (.cells #[.int .i64 st, .slice B m d] 35)).alloc (.cells #[.int .i64 0, .slice none 0 0] 35)); clear hd
  have HLm := Lib.hid HD.out.1
  have HLn := Lib.hid HR.out.1
  go_enter Try.func100, Try.ntmps100
  go_wp2_with fail
  refine (runI_any _ _ _ _ _ _ f st done _ _ _ HR.out hok HD.out hm hmd).mono ?_
  rintro e w1 ⟨rfl, hb⟩
  have HX1 := Lib.hid ((hb.block _ (heap_lt HX.out)).trans HX.out)
  have HY1 := Lib.hid ((hb.block _ (heap_lt HY.out)).trans HY.out)
  have HZ1 := Lib.hid ((hb.block _ (heap_lt HZ.out)).trans HZ.out)
  have HB1 := Lib.hid (HB.out.trans (hb.mono HB.out.size))
  have HR1 := Lib.hid (HR.out.below hb)
  have HD1 := Lib.hid (HD.out.below hb)
  have HNM := Lib.hid (fun (k : Nat) (b off : Nat) (e : B = some ⟨b, off, none⟩) (hk : k < m) => (by
    obtain ⟨b', off', e', ⟨_, hbl⟩, hcc⟩ := RStr.at_ HDW.out (show 0 < m by omega)
    rw [e] at e'
    injection e' with e'; injection e' with e1 e2
    subst e1; subst e2
    exact ⟨hbl, ((HB.out.trans (hb.mono HB.out.size)).cell (p := ⟨b, off + k, none⟩) hbl).trans (hcc k hk).1⟩ : b < w.heap.size ∧ w1.cell? ⟨b, off + k, none⟩ = some (.string (nth done k))))
  clear hb HX HY HZ HB HD HR
  have hs1 := heap_lt HZ1.out
  have z0 := (blk_cl (k := 0) HZ1.out rfl).1
  have z0' := (blk_cl (k := 0) HZ1.out rfl).2
  have z1 := (blk_cl (k := 1) HZ1.out rfl).1
  have z1' := (blk_cl (k := 1) HZ1.out rfl).2
  have y0 := (blk_cl (k := 0) HY1.out rfl).1
  have y1 := (blk_cl (k := 1) HY1.out rfl).1
  by_cases hu : undoB f st done = true
  case neg =>
    rw [Bool.not_eq_true] at hu
    have HE := Lib.hid (undo_no hu)
    have HU := Lib.hid hu
    cases hrun : runB f st done
    · clear hrun hu
      go_wp2_with fail
      have hres := set21 (u := .slice none 0 0) (set20 (u := .int .i64 0) HZ1.out)
      have e0 := (blk_cl (k := 0) hres rfl).1
      have e1 := (blk_cl (k := 1) hres rfl).1
      exact bodyPost_ret (v := .tuple #[.agg #[.int .i64 0, .slice none 0 0], .string ⟨#[]⟩, .bool false]) (by simp [results, Try.results100, go_sem, e0, e1]) rfl ⟨none, 0, 0, by rw [HE.out.1, HE.out.2, HU.out], by rw [HE.out.1]; exact own_nil, (HB1.out.setCell (p := ⟨w.heap.size + 1 + 1, 0, none⟩) (by show w.heap.size ≤ w.heap.size + 1 + 1; omega) _).setCell (p := ⟨w.heap.size + 1 + 1, 1, none⟩) (by show w.heap.size ≤ w.heap.size + 1 + 1; omega) _⟩
    · have h1 : ¬ st = 1 := fun h => by unfold undoB at hu; rw [hrun, h] at hu; simp at hu
      have hq : (st == 1) = false := by rw [beq_eq_false_iff_ne]; exact h1
      clear hrun hu h1
      go_wp2_with fail
      have hres := set21 (u := .slice none 0 0) (set20 (u := .int .i64 0) HZ1.out)
      have e0 := (blk_cl (k := 0) hres rfl).1
      have e1 := (blk_cl (k := 1) hres rfl).1
      exact bodyPost_ret (v := .tuple #[.agg #[.int .i64 0, .slice none 0 0], .string ⟨#[]⟩, .bool false]) (by simp [results, Try.results100, go_sem, e0, e1]) rfl ⟨none, 0, 0, by rw [HE.out.1, HE.out.2, HU.out], by rw [HE.out.1]; exact own_nil, (HB1.out.setCell (p := ⟨w.heap.size + 1 + 1, 0, none⟩) (by show w.heap.size ≤ w.heap.size + 1 + 1; omega) _).setCell (p := ⟨w.heap.size + 1 + 1, 1, none⟩) (by show w.heap.size ≤ w.heap.size + 1 + 1; omega) _⟩
  obtain ⟨hrun, rfl, k, hk⟩ := undo_run hu
  obtain rfl : m = k + 1 := by rw [← HLm.out, hk]
  obtain ⟨hE1, hE2⟩ := undo_yes hu hk
  have HE := Lib.hid hE1
  have HEN := Lib.hid hE2; clear hE1 hE2
  have HU := Lib.hid hu; clear hu
  rw [hrun]
  have HORD := Lib.hid (ord_take (run_ord hrun) k); clear hrun
  obtain ⟨b, off, rfl, _, _⟩ := RStr.at_ HD1.out (show 0 < k + 1 by omega)
  obtain ⟨hbl, hnm⟩ := HNM.out k b off rfl (by omega)
  have HTK := Lib.hid ((RH.take HD1.out.low (k := k) (by omega)).up (Nat.le_refl _))
  generalize nth done k = x at *
  have HNX := Lib.hid hnm; clear hnm HNM
  clear z0 z0' z1 z1'
  have hk1 : (k : Int) < (k : Int) + 1 := by omega
  have hk2 : (k : Int) ≤ (d : Int) := by omega
  have hk3 : k ≤ d := by omega
  have hk4 : k < k + 1 := by omega
  go_wp2_with fail
  refine (cloneNames_any _ _ _ (done.take k) _ _ HTK.out (by omega)).mono ?_
  rintro e w2 ⟨v2, rfl, how2⟩
  have hb2 := how2.below
  obtain ⟨A3, c3, rfl, hrs3⟩ := own_str how2.row
  have HRS := Lib.hid hrs3; clear hrs3
  have HROW := Lib.hid how2.row; clear how2
  have HX2 := Lib.hid ((hb2.block _ (heap_lt HX1.out)).trans HX1.out)
  have HY2 := Lib.hid ((hb2.block _ (heap_lt HY1.out)).trans HY1.out)
  have HZ2 := Lib.hid ((hb2.block _ (heap_lt HZ1.out)).trans HZ1.out)
  have HNX2 := Lib.hid ((hb2.cell (p := ⟨b, off + k, none⟩) (by show b < _; omega)).trans HNX.out)
  have hs2 := hb2.size
  have HB2 := Lib.hid (HB1.out.trans (hb2.mono HB1.out.size))
  have HR2 := Lib.hid (HR1.out.below hb2)
  clear hb2 y0 y1
  have HSB : Hid (∀ w', Below w2.heap.size w2 w' → ((w'.cell? ⟨w.heap.size, 0, none⟩ = some (.int .i64 f.ver) ∧ w'.cell? ⟨w.heap.size, 1, none⟩ = some (.slice A n c)) ∧ w'.cell? ⟨w.heap.size + 1, 1, none⟩ = some (.slice (some ⟨b, off, none⟩) (k + 1) d)) ∧ w'.cell? ⟨b, off + k, none⟩ = some (.string x)) := fun w' h => by
    have e1 := (h.block _ (heap_lt HX2.out)).trans HX2.out
    have e2 := (h.block _ (heap_lt HY2.out)).trans HY2.out
    exact ⟨⟨⟨(blk_cl (k := 0) e1 rfl).1, (blk_cl (k := 1) e1 rfl).1⟩, (blk_cl (k := 1) e2 rfl).1⟩, (h.cell (p := ⟨b, off + k, none⟩) (by show b < _; omega)).trans HNX2.out⟩
  have HSZ : Hid (∀ w'', Below w2.heap.size w2 w'' → ∀ u u', (fun w' => ((w'.cell? ⟨w.heap.size, 0, none⟩ = some (.int .i64 f.ver) ∧ w'.cell? ⟨w.heap.size, 1, none⟩ = some (.slice A n c)) ∧ w'.cell? ⟨w.heap.size + 1, 1, none⟩ = some (.slice (some ⟨b, off, none⟩) (k + 1) d)) ∧ w'.cell? ⟨b, off + k, none⟩ = some (.string x)) ((w''.setCell ⟨w.heap.size + 1 + 1, 0, none⟩ u).setCell ⟨w.heap.size + 1 + 1, 1, none⟩ u')) := fun w' h u u' => by
    have e1 := set_ne (b := w.heap.size + 1 + 1) (o := 1) (u := u') (set_ne (b := w.heap.size + 1 + 1) (o := 0) (u := u) ((h.block _ (heap_lt HX2.out)).trans HX2.out) (by omega)) (by omega)
    have e2 := set_ne (b := w.heap.size + 1 + 1) (o := 1) (u := u') (set_ne (b := w.heap.size + 1 + 1) (o := 0) (u := u) ((h.block _ (heap_lt HY2.out)).trans HY2.out) (by omega)) (by omega)
    have e3 := (h.cell (p := ⟨b, off + k, none⟩) (by show b < _; omega)).trans HNX2.out
    have e4 := (((Below.refl (w.heap.size + 1 + 1) w').setCell (p := ⟨w.heap.size + 1 + 1, 0, none⟩) (Nat.le_refl _) u).setCell (p := ⟨w.heap.size + 1 + 1, 1, none⟩) (Nat.le_refl _) u').cell (p := ⟨b, off + k, none⟩) (by show b < _; omega)
    exact ⟨⟨⟨(blk_cl (k := 0) e1 rfl).1, (blk_cl (k := 1) e1 rfl).1⟩, (blk_cl (k := 1) e2 rfl).1⟩, e4.trans e3⟩
  have HBK := Lib.hid (fun (w' : World) (h : Below w2.heap.size w2 w') => back_any A A3 n c k c3 f.ver f.steps (done.take k) _ _ w' (HR2.out.below h) hn (HRS.out.below h) (by omega) (fun j hj => ord_all HORD.out j (by rw [List.length_take, hk]; omega)))
  generalize backI f.steps (done.take k) k = z at *
  go_wp2_with fail
  go_region_held3 (fun w' => ((w'.cell? ⟨w.heap.size, 0, none⟩ = some (.int .i64 f.ver) ∧ w'.cell? ⟨w.heap.size, 1, none⟩ = some (.slice A n c)) ∧ w'.cell? ⟨w.heap.size + 1, 1, none⟩ = some (.slice (some ⟨b, off, none⟩) (k + 1) d)) ∧ w'.cell? ⟨b, off + k, none⟩ = some (.string x))
    (first | exact HSB.out _ hbw | exact HSB.out _ (Below.refl _ _).drew | exact HSZ.out _ hbw _ _ | fail "keep")
    (first
      | (go_at_call 109; refine (HBK.out _ (Below.refl _ _).drew).mono ?_; rintro e w3 ⟨rfl, hb3⟩; have hbw : Below w2.heap.size w2 w3 := (Below.refl w2.heap.size w2).drew.trans hb3; have HZ3 := Lib.hid ((hbw.block _ (heap_lt HZ2.out)).trans HZ2.out); have z0 := (blk_cl (k := 0) HZ3.out rfl).1; have z0' := (blk_cl (k := 0) HZ3.out rfl).2; have z1 := (blk_cl (k := 1) HZ3.out rfl).1; have z1' := (blk_cl (k := 1) HZ3.out rfl).2)
      | fail "no arm")
  have HB3 := Lib.hid (HB2.out.trans (hbw.mono HB2.out.size))
  go_wp2_with fail
  have hres := set21 (u := .slice A3 k c3) (set20 (u := .int .i64 z) HZ3.out)
  have e0 := (blk_cl (k := 0) hres rfl).1
  have e1 := (blk_cl (k := 1) hres rfl).1
  exact bodyPost_ret (v := .tuple #[.agg #[.int .i64 z, .slice A3 k c3], .string x, .bool true]) (by simp [results, Try.results100, go_sem, e0, e1]) rfl ⟨_, _, _, by rw [HE.out, HU.out, HEN.out], by rw [HE.out]; exact row_mono (row_set (row_set (row_below HROW.out hbw) HZ3.out (by decide)) (set20 HZ3.out) (by decide)) HB1.out.size, (HB3.out.setCell (p := ⟨w.heap.size + 1 + 1, 0, none⟩) (by show w.heap.size ≤ w.heap.size + 1 + 1; omega) _).setCell (p := ⟨w.heap.size + 1 + 1, 1, none⟩) (by show w.heap.size ≤ w.heap.size + 1 + 1; omega) _⟩
end Go.Proofs.Ythcpjkhijjkolaa

/- Events: a run goes on by an event, both sides. -/
namespace Go.Proofs.Ythcpjkhijjkolaa
open Go.RowKit

/-- A run goes on by an event. -/
def evB (f : Flow) (st : Int) (done : List Str) (k : Int) (x : Str) : Bool := if k = 1 then canB f st done x else if k = 2 then canB f st done x else if k = 3 then undoB f st done && decide (undoN f st done = x) else false
def evR (f : Flow) (st : Int) (done : List Str) (k : Int) (x : Str) : Int × List Str := if k = 1 then doR f st done x else if k = 2 then failR f st done x else if k = 3 then (if (undoB f st done && decide (undoN f st done = x)) = true then undoR f st done else (0, [])) else (0, [])
theorem ev_1 (f : Flow) (st : Int) (done : List Str) (x : Str) : evR f st done 1 x = doR f st done x ∧ evB f st done 1 x = canB f st done x := ⟨rfl, rfl⟩
theorem ev_2 (f : Flow) (st : Int) (done : List Str) (x : Str) : evR f st done 2 x = failR f st done x ∧ evB f st done 2 x = canB f st done x := ⟨rfl, rfl⟩
theorem ev_3 {f : Flow} {st : Int} {done : List Str} {x : Str} (h : undoB f st done = true) (hx : undoN f st done = x) : evR f st done 3 x = undoR f st done ∧ evB f st done 3 x = true := by
  unfold evR evB
  rw [h, hx]
  simp
theorem ev_3n {f : Flow} {st : Int} {done : List Str} {x : Str} (h : undoB f st done = false ∨ undoN f st done ≠ x) : evR f st done 3 x = (0, []) ∧ evB f st done 3 x = false := by
  unfold evR evB
  rcases h with h | h <;> simp [h]
theorem ev_no {f : Flow} {st : Int} {done : List Str} {x : Str} {k : Int} (h1 : k ≠ 1) (h2 : k ≠ 2) (h3 : k ≠ 3) : evR f st done k x = (0, []) ∧ evB f st done k x = false := by
  unfold evR evB
  rw [if_neg h1, if_neg h2, if_neg h3, if_neg h1, if_neg h2, if_neg h3]
  exact ⟨rfl, rfl⟩

set_option maxRecDepth 100000 in
set_option maxHeartbeats 1000000 in
theorem evS_any (A B : Option Addr) (n c m d : Nat) (f : Flow) (st : Int) (done : List Str) (k : Int) (x : Str) (lo lo' : Nat) (w : World) (hr : RStep w lo A n f.steps) (hok : okSteps f.steps) (hd : RStr w lo' B m done) (hm : m ≤ 1048576) (hmd : m ≤ d) :
    Calls Try.prog 98 #[.agg #[.int .i64 f.ver, .slice A n c], .agg #[.int .i64 st, .slice B m d], .agg #[.int .i64 k, .string x]] w fun e w' => ∃ B' n' d', e = .returned (.tuple #[.agg #[.int .i64 (evR f st done k x).1, .slice B' n' d'], .bool (evB f st done k x)]) ∧
      w'.ownsRow w.heap.size 9 1 (.slice B' n' d') n' ((evR f st done k x).2.map Value.string) ∧ Below w.heap.size w w' := by
  have HX := Lib.hid (heap_old (o := .cells #[.int .i64 0, .slice none 0 0] 35) (heap_old (o := .cells #[.int .i64 k, .string x] 73) (heap_old (o := .cells #[.int .i64 st, .slice B m d] 35) (heap_new (w := w) (o := .cells #[.int .i64 f.ver, .slice A n c] 33) rfl))))
  have HY := Lib.hid (heap_old (o := .cells #[.int .i64 0, .slice none 0 0] 35) (heap_old (o := .cells #[.int .i64 k, .string x] 73) (heap_new (w := w.alloc (.cells #[.int .i64 f.ver, .slice A n c] 33)) (b := w.heap.size + 1) (o := .cells #[.int .i64 st, .slice B m d] 35) (by simp))))
  have HV := Lib.hid (heap_old (o := .cells #[.int .i64 0, .slice none 0 0] 35) (heap_new (w := (w.alloc (.cells #[.int .i64 f.ver, .slice A n c] 33)).alloc (.cells #[.int .i64 st, .slice B m d] 35)) (b := w.heap.size + 1 + 1) (o := .cells #[.int .i64 k, .string x] 73) (by simp)))
  have HZ := Lib.hid (heap_new (w := ((w.alloc (.cells #[.int .i64 f.ver, .slice A n c] 33)).alloc (.cells #[.int .i64 st, .slice B m d] 35)).alloc (.cells #[.int .i64 k, .string x] 73)) (b := w.heap.size + 1 + 1 + 1) (o := .cells #[.int .i64 0, .slice none 0 0] 35) (by simp))
  have HB := Lib.hid (((((Below.refl w.heap.size w).alloc (Nat.le_refl _) (.cells #[.int .i64 f.ver, .slice A n c] 33)).alloc (by simp) (.cells #[.int .i64 st, .slice B m d] 35)).alloc (by simp; omega) (.cells #[.int .i64 k, .string x] 73)).alloc (by simp; omega) (.cells #[.int .i64 0, .slice none 0 0] 35))
  have HR := Lib.hid ((((hr.alloc (.cells #[.int .i64 f.ver, .slice A n c] 33)).alloc (.cells #[.int .i64 st, .slice B m d] 35)).alloc (.cells #[.int .i64 k, .string x] 73)).alloc (.cells #[.int .i64 0, .slice none 0 0] 35)); clear hr
  have HD := Lib.hid ((((hd.alloc (.cells #[.int .i64 f.ver, .slice A n c] 33)).alloc (.cells #[.int .i64 st, .slice B m d] 35)).alloc (.cells #[.int .i64 k, .string x] 73)).alloc (.cells #[.int .i64 0, .slice none 0 0] 35)); clear hd
  go_enter Try.func98, Try.ntmps98
  by_cases h1 : k = 1
  · subst h1
    have HE := Lib.hid (ev_1 f st done x)
    go_wp2_with fail
    refine (doS_any _ _ _ _ _ _ f st done x _ _ _ HR.out hok HD.out hm hmd).mono ?_
    rintro e w2 ⟨B2, n2, d2, rfl, ho2, hb2⟩
    have HZ2 := Lib.hid ((hb2.block _ (heap_lt HZ.out)).trans HZ.out)
    have HB2 := Lib.hid (HB.out.trans (hb2.mono HB.out.size))
    clear hb2
    generalize doR f st done x = v at *
    have z0 := (blk_cl (k := 0) HZ2.out rfl).1
    have z0' := (blk_cl (k := 0) HZ2.out rfl).2
    have z1 := (blk_cl (k := 1) HZ2.out rfl).1
    have z1' := (blk_cl (k := 1) HZ2.out rfl).2
    go_wp2_with fail
    have hres := set21 (u := .slice B2 n2 d2) (set20 (u := .int .i64 v.1) HZ2.out)
    have e0 := (blk_cl (k := 0) hres rfl).1
    have e1 := (blk_cl (k := 1) hres rfl).1
    exact bodyPost_ret (v := .tuple #[.agg #[.int .i64 v.1, .slice B2 n2 d2], .bool (canB f st done x)]) (by simp [results, Try.results98, go_sem, e0, e1]) rfl ⟨_, _, _, by rw [HE.out.1, HE.out.2], by rw [HE.out.1]; exact row_mono (row_set (row_set ho2 HZ2.out (by decide)) (set20 HZ2.out) (by decide)) HB.out.size, (HB2.out.setCell (p := ⟨w.heap.size + 1 + 1 + 1, 0, none⟩) (by show w.heap.size ≤ w.heap.size + 1 + 1 + 1; omega) _).setCell (p := ⟨w.heap.size + 1 + 1 + 1, 1, none⟩) (by show w.heap.size ≤ w.heap.size + 1 + 1 + 1; omega) _⟩
  have g1 : (k == 1) = false := by rw [beq_eq_false_iff_ne]; exact h1
  by_cases h2 : k = 2
  · subst h2
    have HE := Lib.hid (ev_2 f st done x)
    go_wp2_with fail
    refine (failS_any _ _ _ _ _ _ f st done x _ _ _ HR.out hok HD.out hm hmd).mono ?_
    rintro e w2 ⟨B2, n2, d2, rfl, ho2, hb2⟩
    have HZ2 := Lib.hid ((hb2.block _ (heap_lt HZ.out)).trans HZ.out)
    have HB2 := Lib.hid (HB.out.trans (hb2.mono HB.out.size))
    clear hb2
    generalize failR f st done x = v at *
    have z0 := (blk_cl (k := 0) HZ2.out rfl).1
    have z0' := (blk_cl (k := 0) HZ2.out rfl).2
    have z1 := (blk_cl (k := 1) HZ2.out rfl).1
    have z1' := (blk_cl (k := 1) HZ2.out rfl).2
    go_wp2_with fail
    have hres := set21 (u := .slice B2 n2 d2) (set20 (u := .int .i64 v.1) HZ2.out)
    have e0 := (blk_cl (k := 0) hres rfl).1
    have e1 := (blk_cl (k := 1) hres rfl).1
    exact bodyPost_ret (v := .tuple #[.agg #[.int .i64 v.1, .slice B2 n2 d2], .bool (canB f st done x)]) (by simp [results, Try.results98, go_sem, e0, e1]) rfl ⟨_, _, _, by rw [HE.out.1, HE.out.2], by rw [HE.out.1]; exact row_mono (row_set (row_set ho2 HZ2.out (by decide)) (set20 HZ2.out) (by decide)) HB.out.size, (HB2.out.setCell (p := ⟨w.heap.size + 1 + 1 + 1, 0, none⟩) (by show w.heap.size ≤ w.heap.size + 1 + 1 + 1; omega) _).setCell (p := ⟨w.heap.size + 1 + 1 + 1, 1, none⟩) (by show w.heap.size ≤ w.heap.size + 1 + 1 + 1; omega) _⟩
  have g2 : (k == 2) = false := by rw [beq_eq_false_iff_ne]; exact h2
  by_cases h3 : k = 3
  · subst h3
    go_wp2_with fail
    refine (undoS_any _ _ _ _ _ _ f st done _ _ _ HR.out hok HD.out hm hmd).mono ?_
    rintro e w2 ⟨B2, n2, d2, rfl, ho2, hb2⟩
    have HZ2 := Lib.hid (heap_old (o := .cells #[.int .i64 (undoR f st done).1, .slice B2 n2 d2] 35) ((hb2.block _ (heap_lt HZ.out)).trans HZ.out))
    have HV2 := Lib.hid (heap_old (o := .cells #[.int .i64 (undoR f st done).1, .slice B2 n2 d2] 35) ((hb2.block _ (heap_lt HV.out)).trans HV.out))
    have HW2 := Lib.hid (heap_new (w := w2) (o := .cells #[.int .i64 (undoR f st done).1, .slice B2 n2 d2] 35) rfl)
    have HB2a := HB.out.trans (hb2.mono HB.out.size)
    have HB2 := Lib.hid (HB2a.alloc HB2a.size (.cells #[.int .i64 (undoR f st done).1, .slice B2 n2 d2] 35))
    have ho3 := ho2.alloc (.cells #[.int .i64 (undoR f st done).1, .slice B2 n2 d2] 35)
    have v1 := (blk_cl (k := 1) HV2.out rfl).1
    have p0 := (blk_cl (k := 0) HW2.out rfl).1
    have p1 := (blk_cl (k := 1) HW2.out rfl).1
    clear hb2 HB2a
    by_cases hu : undoB f st done = true
    · by_cases hx : undoN f st done = x
      · have HE := Lib.hid (ev_3 hu hx)
        have hs1 := seq_t hx
        have hs2 : ((undoN f st done).toList != x.toList) = false := by rw [hx]; simp
        rw [hu]
        clear hu hx
        generalize undoR f st done = v at *
        generalize undoN f st done = y at *
        have z0 := (blk_cl (k := 0) HZ2.out rfl).1
        have z0' := (blk_cl (k := 0) HZ2.out rfl).2
        have z1 := (blk_cl (k := 1) HZ2.out rfl).1
        have z1' := (blk_cl (k := 1) HZ2.out rfl).2
        go_wp2_with fail
        have hres := set21 (u := .slice B2 n2 d2) (set20 (u := .int .i64 v.1) HZ2.out)
        have e0 := (blk_cl (k := 0) hres rfl).1
        have e1 := (blk_cl (k := 1) hres rfl).1
        exact bodyPost_ret (v := .tuple #[.agg #[.int .i64 v.1, .slice B2 n2 d2], .bool true]) (by simp [results, Try.results98, go_sem, e0, e1]) rfl ⟨_, _, _, by rw [HE.out.1, HE.out.2], by rw [HE.out.1]; exact row_mono (row_set (row_set ho3 HZ2.out (by decide)) (set20 HZ2.out) (by decide)) HB.out.size, (HB2.out.setCell (p := ⟨w.heap.size + 1 + 1 + 1, 0, none⟩) (by show w.heap.size ≤ w.heap.size + 1 + 1 + 1; omega) _).setCell (p := ⟨w.heap.size + 1 + 1 + 1, 1, none⟩) (by show w.heap.size ≤ w.heap.size + 1 + 1 + 1; omega) _⟩
      · have HE := Lib.hid (ev_3n (f := f) (st := st) (done := done) (x := x) (.inr hx))
        have hs1 := seq_f hx
        have hs2 : ((undoN f st done).toList != x.toList) = true := by unfold bne; rw [hs1]; rfl
        rw [hu]
        clear hu hx
        generalize undoR f st done = v at *
        generalize undoN f st done = y at *
        have z0 := (blk_cl (k := 0) HZ2.out rfl).1
        have z0' := (blk_cl (k := 0) HZ2.out rfl).2
        have z1 := (blk_cl (k := 1) HZ2.out rfl).1
        have z1' := (blk_cl (k := 1) HZ2.out rfl).2
        go_wp2_with fail
        have hres := set21 (u := .slice none 0 0) (set20 (u := .int .i64 0) HZ2.out)
        have e0 := (blk_cl (k := 0) hres rfl).1
        have e1 := (blk_cl (k := 1) hres rfl).1
        exact bodyPost_ret (v := .tuple #[.agg #[.int .i64 0, .slice none 0 0], .bool false]) (by simp [results, Try.results98, go_sem, e0, e1]) rfl ⟨none, 0, 0, by rw [HE.out.1, HE.out.2], by rw [HE.out.1]; exact own_nil, (HB2.out.setCell (p := ⟨w.heap.size + 1 + 1 + 1, 0, none⟩) (by show w.heap.size ≤ w.heap.size + 1 + 1 + 1; omega) _).setCell (p := ⟨w.heap.size + 1 + 1 + 1, 1, none⟩) (by show w.heap.size ≤ w.heap.size + 1 + 1 + 1; omega) _⟩
    · rw [Bool.not_eq_true] at hu
      have HE := Lib.hid (ev_3n (f := f) (st := st) (done := done) (x := x) (.inl hu))
      rw [hu]
      clear hu
      generalize undoR f st done = v at *
      generalize undoN f st done = y at *
      have z0 := (blk_cl (k := 0) HZ2.out rfl).1
      have z0' := (blk_cl (k := 0) HZ2.out rfl).2
      have z1 := (blk_cl (k := 1) HZ2.out rfl).1
      have z1' := (blk_cl (k := 1) HZ2.out rfl).2
      go_wp2_with fail
      have hres := set21 (u := .slice none 0 0) (set20 (u := .int .i64 0) HZ2.out)
      have e0 := (blk_cl (k := 0) hres rfl).1
      have e1 := (blk_cl (k := 1) hres rfl).1
      exact bodyPost_ret (v := .tuple #[.agg #[.int .i64 0, .slice none 0 0], .bool false]) (by simp [results, Try.results98, go_sem, e0, e1]) rfl ⟨none, 0, 0, by rw [HE.out.1, HE.out.2], by rw [HE.out.1]; exact own_nil, (HB2.out.setCell (p := ⟨w.heap.size + 1 + 1 + 1, 0, none⟩) (by show w.heap.size ≤ w.heap.size + 1 + 1 + 1; omega) _).setCell (p := ⟨w.heap.size + 1 + 1 + 1, 1, none⟩) (by show w.heap.size ≤ w.heap.size + 1 + 1 + 1; omega) _⟩
  have g3 : (k == 3) = false := by rw [beq_eq_false_iff_ne]; exact h3
  have HE := Lib.hid (ev_no (f := f) (st := st) (done := done) (x := x) h1 h2 h3)
  clear h1 h2 h3
  go_wp2_with fail
  have e0 := (blk_cl (k := 0) HZ.out rfl).1
  have e1 := (blk_cl (k := 1) HZ.out rfl).1
  exact bodyPost_ret (v := .tuple #[.agg #[.int .i64 0, .slice none 0 0], .bool false]) (by simp [results, Try.results98, go_sem, e0, e1]) rfl ⟨none, 0, 0, by rw [HE.out.1, HE.out.2], by rw [HE.out.1]; exact own_nil, HB.out⟩

set_option maxRecDepth 100000 in
set_option maxHeartbeats 1000000 in
theorem evI_any (A B : Option Addr) (n c m d : Nat) (f : Flow) (st : Int) (done : List Str) (k : Int) (x : Str) (lo lo' : Nat) (w : World) (hr : RStep w lo A n f.steps) (hok : okSteps f.steps) (hd : RStr w lo' B m done) (hm : m ≤ 1048576) (hmd : m ≤ d) :
    Calls Try.prog 52 #[.agg #[.int .i64 f.ver, .slice A n c], .agg #[.int .i64 st, .slice B m d], .agg #[.int .i64 k, .string x]] w fun e w' => ∃ B' n' d', e = .returned (.tuple #[.agg #[.int .i64 (evR f st done k x).1, .slice B' n' d'], .bool (evB f st done k x)]) ∧
      w'.ownsRow w.heap.size 9 1 (.slice B' n' d') n' ((evR f st done k x).2.map Value.string) ∧ Below w.heap.size w w' := by
  have HX := Lib.hid (heap_old (o := .cells #[.int .i64 0, .slice none 0 0] 35) (heap_old (o := .cells #[.int .i64 k, .string x] 73) (heap_old (o := .cells #[.int .i64 st, .slice B m d] 35) (heap_new (w := w) (o := .cells #[.int .i64 f.ver, .slice A n c] 33) rfl))))
  have HY := Lib.hid (heap_old (o := .cells #[.int .i64 0, .slice none 0 0] 35) (heap_old (o := .cells #[.int .i64 k, .string x] 73) (heap_new (w := w.alloc (.cells #[.int .i64 f.ver, .slice A n c] 33)) (b := w.heap.size + 1) (o := .cells #[.int .i64 st, .slice B m d] 35) (by simp))))
  have HV := Lib.hid (heap_old (o := .cells #[.int .i64 0, .slice none 0 0] 35) (heap_new (w := (w.alloc (.cells #[.int .i64 f.ver, .slice A n c] 33)).alloc (.cells #[.int .i64 st, .slice B m d] 35)) (b := w.heap.size + 1 + 1) (o := .cells #[.int .i64 k, .string x] 73) (by simp)))
  have HZ := Lib.hid (heap_new (w := ((w.alloc (.cells #[.int .i64 f.ver, .slice A n c] 33)).alloc (.cells #[.int .i64 st, .slice B m d] 35)).alloc (.cells #[.int .i64 k, .string x] 73)) (b := w.heap.size + 1 + 1 + 1) (o := .cells #[.int .i64 0, .slice none 0 0] 35) (by simp))
  have HB := Lib.hid (((((Below.refl w.heap.size w).alloc (Nat.le_refl _) (.cells #[.int .i64 f.ver, .slice A n c] 33)).alloc (by simp) (.cells #[.int .i64 st, .slice B m d] 35)).alloc (by simp; omega) (.cells #[.int .i64 k, .string x] 73)).alloc (by simp; omega) (.cells #[.int .i64 0, .slice none 0 0] 35))
  have HR := Lib.hid ((((hr.alloc (.cells #[.int .i64 f.ver, .slice A n c] 33)).alloc (.cells #[.int .i64 st, .slice B m d] 35)).alloc (.cells #[.int .i64 k, .string x] 73)).alloc (.cells #[.int .i64 0, .slice none 0 0] 35)); clear hr
  have HD := Lib.hid ((((hd.alloc (.cells #[.int .i64 f.ver, .slice A n c] 33)).alloc (.cells #[.int .i64 st, .slice B m d] 35)).alloc (.cells #[.int .i64 k, .string x] 73)).alloc (.cells #[.int .i64 0, .slice none 0 0] 35)); clear hd
  go_enter Try.func52, Try.ntmps52
  by_cases h1 : k = 1
  · subst h1
    have HE := Lib.hid (ev_1 f st done x)
    go_wp2_with fail
    refine (doI_any _ _ _ _ _ _ f st done x _ _ _ HR.out hok HD.out hm hmd).mono ?_
    rintro e w2 ⟨B2, n2, d2, rfl, ho2, hb2⟩
    have HZ2 := Lib.hid ((hb2.block _ (heap_lt HZ.out)).trans HZ.out)
    have HB2 := Lib.hid (HB.out.trans (hb2.mono HB.out.size))
    clear hb2
    generalize doR f st done x = v at *
    have z0 := (blk_cl (k := 0) HZ2.out rfl).1
    have z0' := (blk_cl (k := 0) HZ2.out rfl).2
    have z1 := (blk_cl (k := 1) HZ2.out rfl).1
    have z1' := (blk_cl (k := 1) HZ2.out rfl).2
    go_wp2_with fail
    have hres := set21 (u := .slice B2 n2 d2) (set20 (u := .int .i64 v.1) HZ2.out)
    have e0 := (blk_cl (k := 0) hres rfl).1
    have e1 := (blk_cl (k := 1) hres rfl).1
    exact bodyPost_ret (v := .tuple #[.agg #[.int .i64 v.1, .slice B2 n2 d2], .bool (canB f st done x)]) (by simp [results, Try.results52, go_sem, e0, e1]) rfl ⟨_, _, _, by rw [HE.out.1, HE.out.2], by rw [HE.out.1]; exact row_mono (row_set (row_set ho2 HZ2.out (by decide)) (set20 HZ2.out) (by decide)) HB.out.size, (HB2.out.setCell (p := ⟨w.heap.size + 1 + 1 + 1, 0, none⟩) (by show w.heap.size ≤ w.heap.size + 1 + 1 + 1; omega) _).setCell (p := ⟨w.heap.size + 1 + 1 + 1, 1, none⟩) (by show w.heap.size ≤ w.heap.size + 1 + 1 + 1; omega) _⟩
  have g1 : (k == 1) = false := by rw [beq_eq_false_iff_ne]; exact h1
  by_cases h2 : k = 2
  · subst h2
    have HE := Lib.hid (ev_2 f st done x)
    go_wp2_with fail
    refine (failI_any _ _ _ _ _ _ f st done x _ _ _ HR.out hok HD.out hm hmd).mono ?_
    rintro e w2 ⟨B2, n2, d2, rfl, ho2, hb2⟩
    have HZ2 := Lib.hid ((hb2.block _ (heap_lt HZ.out)).trans HZ.out)
    have HB2 := Lib.hid (HB.out.trans (hb2.mono HB.out.size))
    clear hb2
    generalize failR f st done x = v at *
    have z0 := (blk_cl (k := 0) HZ2.out rfl).1
    have z0' := (blk_cl (k := 0) HZ2.out rfl).2
    have z1 := (blk_cl (k := 1) HZ2.out rfl).1
    have z1' := (blk_cl (k := 1) HZ2.out rfl).2
    go_wp2_with fail
    have hres := set21 (u := .slice B2 n2 d2) (set20 (u := .int .i64 v.1) HZ2.out)
    have e0 := (blk_cl (k := 0) hres rfl).1
    have e1 := (blk_cl (k := 1) hres rfl).1
    exact bodyPost_ret (v := .tuple #[.agg #[.int .i64 v.1, .slice B2 n2 d2], .bool (canB f st done x)]) (by simp [results, Try.results52, go_sem, e0, e1]) rfl ⟨_, _, _, by rw [HE.out.1, HE.out.2], by rw [HE.out.1]; exact row_mono (row_set (row_set ho2 HZ2.out (by decide)) (set20 HZ2.out) (by decide)) HB.out.size, (HB2.out.setCell (p := ⟨w.heap.size + 1 + 1 + 1, 0, none⟩) (by show w.heap.size ≤ w.heap.size + 1 + 1 + 1; omega) _).setCell (p := ⟨w.heap.size + 1 + 1 + 1, 1, none⟩) (by show w.heap.size ≤ w.heap.size + 1 + 1 + 1; omega) _⟩
  have g2 : (k == 2) = false := by rw [beq_eq_false_iff_ne]; exact h2
  by_cases h3 : k = 3
  · subst h3
    go_wp2_with fail
    refine (undoI_any _ _ _ _ _ _ f st done _ _ _ HR.out hok HD.out hm hmd).mono ?_
    rintro e w2 ⟨B2, n2, d2, rfl, ho2, hb2⟩
    have HZ2 := Lib.hid (heap_old (o := .cells #[.int .i64 (undoR f st done).1, .slice B2 n2 d2] 35) ((hb2.block _ (heap_lt HZ.out)).trans HZ.out))
    have HV2 := Lib.hid (heap_old (o := .cells #[.int .i64 (undoR f st done).1, .slice B2 n2 d2] 35) ((hb2.block _ (heap_lt HV.out)).trans HV.out))
    have HW2 := Lib.hid (heap_new (w := w2) (o := .cells #[.int .i64 (undoR f st done).1, .slice B2 n2 d2] 35) rfl)
    have HB2a := HB.out.trans (hb2.mono HB.out.size)
    have HB2 := Lib.hid (HB2a.alloc HB2a.size (.cells #[.int .i64 (undoR f st done).1, .slice B2 n2 d2] 35))
    have ho3 := ho2.alloc (.cells #[.int .i64 (undoR f st done).1, .slice B2 n2 d2] 35)
    have v1 := (blk_cl (k := 1) HV2.out rfl).1
    have p0 := (blk_cl (k := 0) HW2.out rfl).1
    have p1 := (blk_cl (k := 1) HW2.out rfl).1
    clear hb2 HB2a
    by_cases hu : undoB f st done = true
    · by_cases hx : undoN f st done = x
      · have HE := Lib.hid (ev_3 hu hx)
        have hs1 := seq_t hx
        have hs2 : ((undoN f st done).toList != x.toList) = false := by rw [hx]; simp
        rw [hu]
        clear hu hx
        generalize undoR f st done = v at *
        generalize undoN f st done = y at *
        have z0 := (blk_cl (k := 0) HZ2.out rfl).1
        have z0' := (blk_cl (k := 0) HZ2.out rfl).2
        have z1 := (blk_cl (k := 1) HZ2.out rfl).1
        have z1' := (blk_cl (k := 1) HZ2.out rfl).2
        go_wp2_with fail
        have hres := set21 (u := .slice B2 n2 d2) (set20 (u := .int .i64 v.1) HZ2.out)
        have e0 := (blk_cl (k := 0) hres rfl).1
        have e1 := (blk_cl (k := 1) hres rfl).1
        exact bodyPost_ret (v := .tuple #[.agg #[.int .i64 v.1, .slice B2 n2 d2], .bool true]) (by simp [results, Try.results52, go_sem, e0, e1]) rfl ⟨_, _, _, by rw [HE.out.1, HE.out.2], by rw [HE.out.1]; exact row_mono (row_set (row_set ho3 HZ2.out (by decide)) (set20 HZ2.out) (by decide)) HB.out.size, (HB2.out.setCell (p := ⟨w.heap.size + 1 + 1 + 1, 0, none⟩) (by show w.heap.size ≤ w.heap.size + 1 + 1 + 1; omega) _).setCell (p := ⟨w.heap.size + 1 + 1 + 1, 1, none⟩) (by show w.heap.size ≤ w.heap.size + 1 + 1 + 1; omega) _⟩
      · have HE := Lib.hid (ev_3n (f := f) (st := st) (done := done) (x := x) (.inr hx))
        have hs1 := seq_f hx
        have hs2 : ((undoN f st done).toList != x.toList) = true := by unfold bne; rw [hs1]; rfl
        rw [hu]
        clear hu hx
        generalize undoR f st done = v at *
        generalize undoN f st done = y at *
        have z0 := (blk_cl (k := 0) HZ2.out rfl).1
        have z0' := (blk_cl (k := 0) HZ2.out rfl).2
        have z1 := (blk_cl (k := 1) HZ2.out rfl).1
        have z1' := (blk_cl (k := 1) HZ2.out rfl).2
        go_wp2_with fail
        have hres := set21 (u := .slice none 0 0) (set20 (u := .int .i64 0) HZ2.out)
        have e0 := (blk_cl (k := 0) hres rfl).1
        have e1 := (blk_cl (k := 1) hres rfl).1
        exact bodyPost_ret (v := .tuple #[.agg #[.int .i64 0, .slice none 0 0], .bool false]) (by simp [results, Try.results52, go_sem, e0, e1]) rfl ⟨none, 0, 0, by rw [HE.out.1, HE.out.2], by rw [HE.out.1]; exact own_nil, (HB2.out.setCell (p := ⟨w.heap.size + 1 + 1 + 1, 0, none⟩) (by show w.heap.size ≤ w.heap.size + 1 + 1 + 1; omega) _).setCell (p := ⟨w.heap.size + 1 + 1 + 1, 1, none⟩) (by show w.heap.size ≤ w.heap.size + 1 + 1 + 1; omega) _⟩
    · rw [Bool.not_eq_true] at hu
      have HE := Lib.hid (ev_3n (f := f) (st := st) (done := done) (x := x) (.inl hu))
      rw [hu]
      clear hu
      generalize undoR f st done = v at *
      generalize undoN f st done = y at *
      have z0 := (blk_cl (k := 0) HZ2.out rfl).1
      have z0' := (blk_cl (k := 0) HZ2.out rfl).2
      have z1 := (blk_cl (k := 1) HZ2.out rfl).1
      have z1' := (blk_cl (k := 1) HZ2.out rfl).2
      go_wp2_with fail
      have hres := set21 (u := .slice none 0 0) (set20 (u := .int .i64 0) HZ2.out)
      have e0 := (blk_cl (k := 0) hres rfl).1
      have e1 := (blk_cl (k := 1) hres rfl).1
      exact bodyPost_ret (v := .tuple #[.agg #[.int .i64 0, .slice none 0 0], .bool false]) (by simp [results, Try.results52, go_sem, e0, e1]) rfl ⟨none, 0, 0, by rw [HE.out.1, HE.out.2], by rw [HE.out.1]; exact own_nil, (HB2.out.setCell (p := ⟨w.heap.size + 1 + 1 + 1, 0, none⟩) (by show w.heap.size ≤ w.heap.size + 1 + 1 + 1; omega) _).setCell (p := ⟨w.heap.size + 1 + 1 + 1, 1, none⟩) (by show w.heap.size ≤ w.heap.size + 1 + 1 + 1; omega) _⟩
  have g3 : (k == 3) = false := by rw [beq_eq_false_iff_ne]; exact h3
  have HE := Lib.hid (ev_no (f := f) (st := st) (done := done) (x := x) h1 h2 h3)
  clear h1 h2 h3
  go_wp2_with fail
  have e0 := (blk_cl (k := 0) HZ.out rfl).1
  have e1 := (blk_cl (k := 1) HZ.out rfl).1
  exact bodyPost_ret (v := .tuple #[.agg #[.int .i64 0, .slice none 0 0], .bool false]) (by simp [results, Try.results52, go_sem, e0, e1]) rfl ⟨none, 0, 0, by rw [HE.out.1, HE.out.2], by rw [HE.out.1]; exact own_nil, HB.out⟩

end Go.Proofs.Ythcpjkhijjkolaa

/- Rows of cases whose lists lie apart. -/
namespace Go.Proofs.Ythcpjkhijjkolaa
open Go.RowKit

/-- Two lists lie in different blocks. -/
def dis (u v : Value) : Prop := ∀ b A m c A' m' c', u = .slice A m c → v = .slice A' m' c' → 0 < m → 0 < m' → A = some ⟨b, 0, none⟩ → A' ≠ some ⟨b, 0, none⟩
/-- A row of cases of the call's own; each list lies in a block of its own, between lo1 and hi. -/
def KRowD (w : World) (base : Nat) (av : Option Nat) (lo1 hi : Nat) (v : Value) (n : Nat) (ss : List Case) : Prop :=
  ∃ ps : List (Case × Value), ps.map (·.1) = ss ∧ w.ownsRow base 53 3 v n (ps.flatMap ccells) ∧ (∀ p ∈ ps, ∃ A m c, p.2 = .slice A m c ∧ SStr w base A m p.1.done ∧ m ≤ c ∧ ∀ b, A = some ⟨b, 0, none⟩ → 0 < m → av ≠ some b ∧ lo1 ≤ b ∧ b < hi) ∧ ps.Pairwise (fun p q => dis p.2 q.2)
theorem KRowD.rowV {w : World} {base n lo1 hi : Nat} {av : Option Nat} {v : Value} {ss : List Case} (h : KRowD w base av lo1 hi v n ss) : KRowV w base av v n ss := by
  obtain ⟨ps, e, h1, h2, _⟩ := h
  refine ⟨ps, e, h1, fun p hp => ?_⟩
  obtain ⟨A, m, c, e2, h3, h4, h5⟩ := h2 p hp
  exact ⟨A, m, c, e2, h3, h4, fun b hb hm => (h5 b hb hm).1⟩
theorem KRowD.row {w : World} {base n lo1 hi : Nat} {av : Option Nat} {v : Value} {ss : List Case} (h : KRowD w base av lo1 hi v n ss) : KRow w base v n ss := h.rowV.row
theorem KRowD.wide {w : World} {base n lo1 hi lo2 hi2 : Nat} {av : Option Nat} {v : Value} {ss : List Case} (h : KRowD w base av lo1 hi v n ss) (h1 : lo2 ≤ lo1) (h2 : hi ≤ hi2) : KRowD w base av lo2 hi2 v n ss := by
  obtain ⟨ps, e, h3, h4, h5⟩ := h
  refine ⟨ps, e, h3, fun p hp => ?_, h5⟩
  obtain ⟨A, m, c, e2, h6, h7, h8⟩ := h4 p hp
  refine ⟨A, m, c, e2, h6, h7, fun b hb hm => ?_⟩
  obtain ⟨a1, a2, a3⟩ := h8 b hb hm
  exact ⟨a1, by omega, by omega⟩
theorem KRowD.nil {w : World} {base lo1 hi : Nat} {av : Option Nat} : KRowD w base av lo1 hi (.slice none 0 0) 0 [] := ⟨[], rfl, ⟨rfl, .inl ⟨rfl, rfl⟩⟩, (fun p hp => by cases hp), List.Pairwise.nil⟩
theorem KRowD.made {w : World} {base b lo1 hi : Nat} {av : Option Nat} (hb : base ≤ w.heap.size) (e : b = w.heap.size) : KRowD (w.alloc (.cells #[] 53)) base av lo1 hi (.slice (some ⟨b, 0, none⟩) 0 0) 0 [] := by
  subst e
  exact ⟨[], rfl, World.ownsRow_made w #[] 0 hb (Nat.zero_le _) rfl, (fun p hp => by cases hp), List.Pairwise.nil⟩
theorem KRowD.below {w w' : World} {base n lo1 hi : Nat} {av : Option Nat} {v : Value} {ss : List Case} (h : KRowD w base av lo1 hi v n ss) (hb : Below w.heap.size w w') : KRowD w' base av lo1 hi v n ss := by
  obtain ⟨ps, e, h1, h2, h3⟩ := h
  refine ⟨ps, e, row_below h1 hb, fun p hp => ?_, h3⟩
  obtain ⟨A, m, c, e2, h4, h5, h6⟩ := h2 p hp
  exact ⟨A, m, c, e2, h4.below hb, h5, h6⟩
theorem KRowD.alloc {w : World} {base n lo1 hi : Nat} {av : Option Nat} {v : Value} {ss : List Case} (h : KRowD w base av lo1 hi v n ss) (o : Obj) : KRowD (w.alloc o) base av lo1 hi v n ss := h.below ((Below.refl _ _).alloc (Nat.le_refl _) o)
theorem KRowD.drew {w : World} {base n lo1 hi : Nat} {av : Option Nat} {v : Value} {ss : List Case} (h : KRowD w base av lo1 hi v n ss) : KRowD w.drew base av lo1 hi v n ss := h.below (Below.refl _ _).drew
theorem KRowD.set {w : World} {base n b o lo1 hi : Nat} {av : Option Nat} {v u : Value} {ss : List Case} {cs : Array Value} {t : TypeId} (h : KRowD w base av lo1 hi v n ss) (hb : w.heap[b]? = some (.cells cs t (0, 0))) (h1 : t ≠ 9) (h2 : t ≠ 53) :
    KRowD (w.setCell ⟨b, o, none⟩ u) base av lo1 hi v n ss := by
  obtain ⟨ps, e, h3, h4, h5⟩ := h
  refine ⟨ps, e, row_set h3 hb (Ne.symm h2), fun p hp => ?_, h5⟩
  obtain ⟨A, m, c, e2, h6, h7, h8⟩ := h4 p hp
  refine ⟨A, m, c, e2, h6.kept fun b' cs' _ hc => Below.heap_setCell w ⟨b, o, none⟩ u b' ?_, h7, h8⟩
  intro e3
  subst e3
  rw [hc] at hb
  have := Option.some.inj hb
  injection this with _ e4
  exact h1 e4.symm
/-- The row of names in the one block grows. -/
theorem KRowD.grown {w w' : World} {base n lo1 hi : Nat} {av av' : Option Nat} {v : Value} {ss : List Case} (h : KRowD w base av lo1 hi v n ss) (hg : w.grownBy w' av) (hne : ∀ b, v.ownBlock = some b → av ≠ some b) (ha : av' = av ∨ av' = some w.heap.size) : KRowD w' base av' lo1 hi v n ss := by
  obtain ⟨ps, e, h1, h2, h3⟩ := h
  refine ⟨ps, e, row_grown h1 hg hne, fun p hp => ?_, h3⟩
  obtain ⟨A, m, c, e2, h4, h5, h6⟩ := h2 p hp
  refine ⟨A, m, c, e2, h4.kept1 (fun b hb hm hl => hg.block b hl (Ne.symm (h6 b hb hm).1)), h5, fun b hb hm => ⟨fun he => ?_, (h6 b hb hm).2⟩⟩
  rcases ha with rfl | rfl
  · exact (h6 b hb hm).1 he
  · injection he with he
    have := (h4.lt hm hb).2
    omega

/-- 'out = append(out, s)'. -/
theorem wapp_caseD {w : World} {o : Oper} {a : Act} {K : Act → World → Prop} {Q : Exit → Act → World → Prop} (base lo1 hi lo2 hi2 : Nat) (av : Option Nat) (v : Value) (n : Nat) (ss : List Case) (b : Nat) (s : Case) (A : Option Addr) (m c : Nat) (hown : KRowD w base av lo1 hi v n ss) (hs0 : SStr w base A m s.done) (hmc : m ≤ c) (hl2 : lo2 ≤ lo1) (hh2 : hi ≤ hi2)
    (hav : ∀ b, A = some ⟨b, 0, none⟩ → 0 < m → av ≠ some b ∧ (hi ≤ b ∨ b < lo1) ∧ lo2 ≤ b ∧ b < hi2)
    (l x : Operand) (ho : o.op = .call { callee := .builtin .append, args := #[l, x], argTypes := #[47, 47] })
    (hs : a.eval l = v) (hx : a.eval x = .slice (some ⟨b, 0, none⟩) 1 1) (hb : w.heap[b]? = some (.cells #[.string s.name, .int .i64 s.st, .slice A m c] 53 (0, 0))) (hn : n ≤ 1048576) (hbase : base ≤ w.heap.size)
    (h : ∀ v' w', KRowD w' base av lo2 hi2 v' (n + 1) (ss ++ [s]) → w.grownBy w' v.ownBlock → (v'.ownBlock = v.ownBlock ∨ v'.ownBlock = some w.heap.size) → K (a.put o.dst v') w') : o.wp Try.prog a w K Q := by
  have hN : ∀ (b : Nat) (cs : Array Value), w.heap[b]? = some (Obj.cells cs 9 (0, 0)) → v.ownBlock ≠ some b := fun b cs hc => hown.row.ne hc (by decide)
  obtain ⟨ps, rfl, h1, h2, hpw⟩ := hown
  refine wapp 47 53 3 48 _ Try.underlying47 info_case rfl (by omega) (by omega) base v n _ (ccells (s, .slice A m c)) b h1 l x ho hs hx hb rfl ?_ hn hbase ?_
  · intro u hu; simp [ccells] at hu; rcases hu with rfl | rfl | rfl <;> rfl
  · intro v' w' h3 h4 h5
    have hk : ∀ b cs, base ≤ b → w.heap[b]? = some (.cells cs 9 (0, 0)) → w'.heap[b]? = w.heap[b]? := fun b cs _ hc => h4.block b (heap_lt hc) (Ne.symm (hN b cs hc))
    refine h v' w' ⟨ps ++ [(s, .slice A m c)], by simp, by rw [List.flatMap_append]; simpa using h3, fun p hp => ?_, ?_⟩ h4 h5
    · rcases List.mem_append.1 hp with hp | hp
      · obtain ⟨A', m', c', e, h6, h7, h8⟩ := h2 p hp
        refine ⟨A', m', c', e, h6.kept hk, h7, fun b hb hm => ?_⟩
        obtain ⟨a1, a2, a3⟩ := h8 b hb hm
        exact ⟨a1, by omega, by omega⟩
      · rw [List.mem_singleton] at hp
        subst hp
        refine ⟨A, m, c, rfl, hs0.kept hk, hmc, fun b hb hm => ?_⟩
        obtain ⟨a1, _, a3, a4⟩ := hav b hb hm
        exact ⟨a1, a3, a4⟩
    · rw [List.pairwise_append]
      refine ⟨hpw, List.pairwise_singleton .., fun p hp q hq => ?_⟩
      rw [List.mem_singleton] at hq
      subst hq
      intro b A1 m1 c1 A2 m2 c2 e1 e2 g1 g2 g3 g4
      obtain ⟨A', m', c', e, _, _, h8⟩ := h2 p hp
      rw [e] at e1
      injection e1 with i1 i2 i3
      subst i1; subst i2
      injection e2 with j1 j2 j3
      subst j1; subst j2
      obtain ⟨_, a2, a3⟩ := h8 b g3 g1
      obtain ⟨_, a5, _⟩ := hav b g4 g2
      omega
theorem app_caseD {w : World} {ops : Array Oper} {rest : List Oper} {o : Oper} {a : Act} {Q : Exit → Act → World → Prop} (base lo1 hi lo2 hi2 : Nat) (av : Option Nat) (v : Value) (n : Nat) (ss : List Case) (b : Nat) (s : Case) (A : Option Addr) (m c : Nat) (hown : KRowD w base av lo1 hi v n ss) (hs0 : SStr w base A m s.done) (hmc : m ≤ c) (hl2 : lo2 ≤ lo1) (hh2 : hi ≤ hi2)
    (hav : ∀ b, A = some ⟨b, 0, none⟩ → 0 < m → av ≠ some b ∧ (hi ≤ b ∨ b < lo1) ∧ lo2 ≤ b ∧ b < hi2)
    (hgd : o.guard = none) (l x : Operand) (ho : o.op = .call { callee := .builtin .append, args := #[l, x], argTypes := #[47, 47] })
    (hs : a.eval l = v) (hx : a.eval x = .slice (some ⟨b, 0, none⟩) 1 1) (hb : w.heap[b]? = some (.cells #[.string s.name, .int .i64 s.st, .slice A m c] 53 (0, 0))) (hn : n ≤ 1048576) (hbase : base ≤ w.heap.size)
    (h : ∀ v' w', KRowD w' base av lo2 hi2 v' (n + 1) (ss ++ [s]) → w.grownBy w' v.ownBlock → (v'.ownBlock = v.ownBlock ∨ v'.ownBlock = some w.heap.size) → wpList Try.prog ops Q rest (a.put o.dst v') w') : wpList Try.prog ops Q (o :: rest) a w :=
  wpList_plain hgd fun _ hK => wapp_caseD base lo1 hi lo2 hi2 av v n ss b s A m c hown hs0 hmc hl2 hh2 hav l x ho hs hx hb hn hbase fun v' w' h1 h2 h3 => hK _ _ (h v' w' h1 h2 h3)
theorem case_stepD {w : World} {ops : Array Oper} {o : Oper} {a : Act} {K : Act → World → Prop} {Q : Exit → Act → World → Prop} {E : Prop} (base lo1 hi lo2 hi2 : Nat) (av : Option Nat) (v : Value) (n : Nat) (ss : List Case) (b : Nat) (s : Case) (A : Option Addr) (m c : Nat) (hown : KRowD w base av lo1 hi v n ss) (hs0 : SStr w base A m s.done) (hmc : m ≤ c) (hl2 : lo2 ≤ lo1) (hh2 : hi ≤ hi2)
    (hav : ∀ b, A = some ⟨b, 0, none⟩ → 0 < m → av ≠ some b ∧ (hi ≤ b ∨ b < lo1) ∧ lo2 ≤ b ∧ b < hi2)
    (hgd : o.guard = none) (l x : Operand) (ho : o.op = .call { callee := .builtin .append, args := #[l, x], argTypes := #[47, 47] })
    (hs : a.eval l = v) (hx : a.eval x = .slice (some ⟨b, 0, none⟩) 1 1) (hb : w.heap[b]? = some (.cells #[.string s.name, .int .i64 s.st, .slice A m c] 53 (0, 0))) (hn : n ≤ 1048576) (hbase : base ≤ w.heap.size)
    (h : ∀ v' w', KRowD w' base av lo2 hi2 v' (n + 1) (ss ++ [s]) → w.grownBy w' v.ownBlock → (v'.ownBlock = v.ownBlock ∨ v'.ownBlock = some w.heap.size) → K (a.put o.dst v') w') :
    if Region.wanted o (yielded ops a.tmps) = true then Oper.wp Try.prog o a w K Q else E := by
  have hw : Region.wanted o (yielded ops a.tmps) = true := by simp [Region.wanted, hgd]
  rw [if_pos hw]
  exact wapp_caseD base lo1 hi lo2 hi2 av v n ss b s A m c hown hs0 hmc hl2 hh2 hav l x ho hs hx hb hn hbase h

/-- Cases in cells, each list in a stretch of blocks of its own. -/
structure DC (w : World) (b off n : Nat) (F : Nat → Case) (β γ : Nat → Nat) : Prop where
  lt : b < w.heap.size
  hi : ∀ j, j < n → γ j ≤ w.heap.size
  at_ : ∀ j, j < n → ∃ A' n' c', Cl w b (off + j * 3) (.string (F j).name) ∧ Cl w b (off + j * 3 + 1) (.int .i64 (F j).st) ∧ Cl w b (off + j * 3 + 2) (.slice A' n' c') ∧ RH strE w (β j) (γ j) A' n' (F j).done ∧ n' ≤ c'
  ne : ∀ j, j < n → b < β j ∨ γ j ≤ b
  dis : ∀ i j, i < n → j < n → i ≠ j → γ i ≤ β j ∨ γ j ≤ β i
def DR (w : World) (lo : Nat) (A : Option Addr) (n : Nat) (ss : List Case) : Prop :=
  ss.length = n ∧ (0 < n → ∃ b off β γ, A = some ⟨b, off, none⟩ ∧ lo ≤ b ∧ (∀ j, j < n → lo ≤ β j ∨ γ j ≤ β j) ∧ DC w b off n (nth ss) β γ)
theorem RH.at_none {α : Type} [Inhabited α] {E : Elem α} {w : World} {lo hi n : Nat} {A : Option Addr} {xs : List α} (h : RH E w lo hi A n xs) (he : hi ≤ lo) : n = 0 := by
  rcases Nat.eq_zero_or_pos n with h0 | h0
  · exact h0
  · obtain ⟨b, _, _, h1, h2, _⟩ := h.2 h0
    omega
theorem DR.hat {w : World} {lo n : Nat} {A : Option Addr} {ss : List Case} (h : DR w lo A n ss) : RCase w lo A n ss := by
  refine ⟨h.1, fun hn => ?_⟩
  obtain ⟨b, off, β, γ, e, h1, h2, h3⟩ := h.2 hn
  refine ⟨b, off, e, h1, h3.lt, fun j hj => ?_⟩
  obtain ⟨A', n', c', d1, d2, d3, d4, d5⟩ := h3.at_ j hj
  refine ⟨d1, d2, ⟨A', n', c', d3, ?_, d5⟩⟩
  rcases h2 j hj with h4 | h4
  · exact d4.wide h4 (h3.hi j hj)
  · have := d4.at_none h4
    exact ⟨d4.1, fun h => absurd h (by omega)⟩
theorem DC.kept {w w' : World} {b off n : Nat} {F : Nat → Case} {β γ : Nat → Nat} (h : DC w b off n F β γ) (hs : w.heap.size ≤ w'.heap.size) (hb : w'.heap[b]? = w.heap[b]?) (hj : ∀ j, j < n → ∀ i, β j ≤ i → i < γ j → w'.heap[i]? = w.heap[i]?) : DC w' b off n F β γ := by
  refine ⟨Nat.lt_of_lt_of_le h.lt hs, fun j hj' => Nat.le_trans (h.hi j hj') hs, fun j hj' => ?_, h.ne, h.dis⟩
  obtain ⟨A', n', c', d1, d2, d3, d4, d5⟩ := h.at_ j hj'
  have hsb : Same b (b + 1) w w' := ⟨fun i h1 h2 => by rw [show i = b by omega]; exact hb⟩
  exact ⟨A', n', c', d1.same hsb (Nat.le_refl _) (by omega), d2.same hsb (Nat.le_refl _) (by omega), d3.same hsb (Nat.le_refl _) (by omega), d4.same ⟨fun i h1 h2 => hj j hj' i h1 h2⟩, d5⟩
theorem DC.below {w w' : World} {b off n : Nat} {F : Nat → Case} {β γ : Nat → Nat} (h : DC w b off n F β γ) (hb : Below w.heap.size w w') : DC w' b off n F β γ :=
  h.kept hb.size (hb.block _ h.lt) fun j hj i _ h2 => hb.block _ (Nat.lt_of_lt_of_le h2 (h.hi j hj))
theorem DR.below {w w' : World} {lo n : Nat} {A : Option Addr} {ss : List Case} (h : DR w lo A n ss) (hb : Below w.heap.size w w') : DR w' lo A n ss :=
  ⟨h.1, fun hn => by
    obtain ⟨b, off, β, γ, e, h1, h2, h3⟩ := h.2 hn
    exact ⟨b, off, β, γ, e, h1, h2, h3.below hb⟩⟩
theorem DR.lower {w : World} {lo lo' n : Nat} {A : Option Addr} {ss : List Case} (h : DR w lo A n ss) (hl : lo' ≤ lo) : DR w lo' A n ss :=
  ⟨h.1, fun hn => by
    obtain ⟨b, off, β, γ, e, h1, h2, h3⟩ := h.2 hn
    exact ⟨b, off, β, γ, e, by omega, fun j hj => by rcases h2 j hj with h | h; exact .inl (by omega); exact .inr h, h3⟩⟩
theorem DR.nil {w : World} {lo : Nat} {A : Option Addr} : DR w lo A 0 [] := ⟨rfl, fun h => absurd h (by omega)⟩
theorem KRowD.dr {w : World} {base n lo1 hi : Nat} {av : Option Nat} {v : Value} {ss : List Case} (h : KRowD w base av lo1 hi v n ss) : ∃ A c, v = .slice A n c ∧ DR w base A n ss ∧ n ≤ c := by
  have hl := h.row.len
  obtain ⟨A9, c9, hv9, _⟩ := h.row.hat
  have hcap : n ≤ c9 := by subst hv9; exact h.row.cap3
  obtain ⟨ps, rfl, h1, h2, hpw⟩ := h
  obtain ⟨A, c, hv, hf⟩ := own_form h1
  have hcc : c9 = c := by rw [hv9] at hv; injection hv
  refine ⟨A, c, hv, ⟨hl, fun hn => ?_⟩, by omega⟩
  obtain ⟨b, e1, b1, b2, hc⟩ := hf hn
  rw [List.length_map] at hl
  have h3 : ∀ k, k < n → ∀ i u, i < 3 → (ccells (nth ps k))[i]? = some u → Cl w b (0 + k * 3 + i) u := fun k hk i u hi hu => by
    have e2 := flat_at (α := Case × Value) (f := ccells) ccells_len ps k i (by omega) hi
    have := hc (k * 3 + i) u (by rw [e2]; exact hu)
    rwa [Nat.zero_add]
  have each : ∀ k, ∃ β γ : Nat, k < n → ∃ A m c, (nth ps k).2 = .slice A m c ∧ RH strE w β γ A m (nth ps k).1.done ∧ m ≤ c ∧ γ ≤ w.heap.size ∧ (γ = β ∨ (γ = β + 1 ∧ base ≤ β ∧ 0 < m ∧ A = some ⟨β, 0, none⟩ ∧ ∃ cs, w.heap[β]? = some (.cells cs 9 (0, 0)))) ∧ (γ = β → β = 0) := by
    intro k
    by_cases hk : k < n
    · obtain ⟨A', m, c', e2, h4, h5, _⟩ := h2 (nth ps k) (mem_nth (by omega))
      rcases Nat.eq_zero_or_pos m with h0 | h0
      · subst h0
        exact ⟨0, 0, fun _ => ⟨A', 0, c', e2, ⟨h4.1, fun h => absurd h (by omega)⟩, h5, Nat.zero_le _, .inl rfl, fun _ => rfl⟩⟩
      · obtain ⟨b', cs, e3, h6, h7, h8⟩ := h4.2 h0
        refine ⟨b', b' + 1, fun _ => ⟨A', m, c', e2, ⟨h4.1, fun _ => ?_⟩, h5, heap_lt h7, .inr ⟨rfl, h6, h0, e3, cs, h7⟩, fun h => absurd h (by omega)⟩⟩
        refine ⟨b', 0, e3, Nat.le_refl _, by omega, fun j hj => ?_⟩
        have := blk_cl h7 (h8 j hj)
        simpa [strE] using this
    · exact ⟨0, 0, fun h => absurd h hk⟩
  obtain ⟨β, γ, hβ⟩ : ∃ β γ : Nat → Nat, ∀ k, k < n → ∃ A m c, (nth ps k).2 = .slice A m c ∧ RH strE w (β k) (γ k) A m (nth ps k).1.done ∧ m ≤ c ∧ γ k ≤ w.heap.size ∧ (γ k = β k ∨ (γ k = β k + 1 ∧ base ≤ β k ∧ 0 < m ∧ A = some ⟨β k, 0, none⟩ ∧ ∃ cs, w.heap[β k]? = some (.cells cs 9 (0, 0)))) ∧ (γ k = β k → β k = 0) :=
    ⟨fun k => Classical.choose (each k), fun k => Classical.choose (Classical.choose_spec (each k)), fun k => Classical.choose_spec (Classical.choose_spec (each k))⟩
  have e3 : ∀ k, k < n → nth (ps.map (·.1)) k = (nth ps k).1 := fun k hk => by rw [nth_eq (by rw [List.length_map]; omega), nth_eq (by omega)]; simp
  have hbt : ∃ cur, w.heap[b]? = some (.cells cur 53 (0, 0)) := row_blk h1 (by rw [hv, e1]; simp [Value.ownBlock, hn])
  obtain ⟨cur, hcur⟩ := hbt
  refine ⟨b, 0, β, γ, e1, b1, fun j hj => ?_, ⟨b2, fun j hj => ?_, fun j hj => ?_, fun j hj => ?_, fun i j hi hj hij => ?_⟩⟩
  · obtain ⟨_, _, _, _, _, _, _, h6, _⟩ := hβ j hj
    rcases h6 with h6 | ⟨_, h7, _⟩
    · exact .inr (by omega)
    · exact .inl h7
  · obtain ⟨_, _, _, _, _, _, h6, _⟩ := hβ j hj
    exact h6
  · obtain ⟨A', m, c', e2, h4, h5, _⟩ := hβ j hj
    rw [e3 j hj]
    refine ⟨A', m, c', h3 j hj 0 _ (by omega) rfl, h3 j hj 1 _ (by omega) rfl, ?_, h4, h5⟩
    have := h3 j hj 2 _ (by omega) rfl
    rwa [e2] at this
  · obtain ⟨_, _, _, _, _, _, _, h6, h8⟩ := hβ j hj
    rcases h6 with h6 | ⟨h6, _, _, _, cs, h7⟩
    · have := h8 h6; right; omega
    · have hne : b ≠ β j := fun e => by
        rw [← e, hcur] at h7
        have := Option.some.inj h7
        injection this with _ e4
        exact absurd e4 (by decide)
      omega
  · obtain ⟨Ai, mi, ci, ei, _, _, _, h6, h8⟩ := hβ i hi
    obtain ⟨Aj, mj, cj, ej, _, _, _, g6, g8⟩ := hβ j hj
    rcases h6 with h6 | ⟨h6, _, hm1, ha1, _⟩
    · have := h8 h6; left; omega
    · rcases g6 with g6 | ⟨g6, _, gm1, ga1, _⟩
      · have := g8 g6; right; omega
      · have hne : β i ≠ β j := fun e => by
          have hp := List.pairwise_iff_getElem.1 hpw
          rcases Nat.lt_or_ge i j with hl' | hl'
          · have := hp i j (by omega) (by omega) hl' (β i) Ai mi ci Aj mj cj (by rw [← nth_eq]; exact ei) (by rw [← nth_eq]; exact ej) hm1 gm1 ha1
            rw [e] at this
            exact this ga1
          · have := hp j i (by omega) (by omega) (by omega) (β j) Aj mj cj Ai mi ci (by rw [← nth_eq]; exact ej) (by rw [← nth_eq]; exact ei) gm1 hm1 ga1
            rw [← e] at this
            exact this ha1
        omega
end Go.Proofs.Ythcpjkhijjkolaa

/- Texts of steps: both. -/
namespace Go.Proofs.Ythcpjkhijjkolaa
open Go.RowKit

/-- The first k names with commas between them. -/
def jnS (xs : List Str) : Nat → Str
  | 0 => ⟨#[]⟩
  | k + 1 => (if 0 < k then jnS xs k ++ ⟨#[44]⟩ else jnS xs k) ++ nth xs k
def namesS (xs : List Str) : Str := if xs.length = 0 then ⟨#[45]⟩ else jnS xs xs.length
def stepS (s : Step) : Str := if s.undo then s.name ++ ⟨#[58]⟩ ++ namesS s.after else (s.name ++ ⟨#[58]⟩ ++ namesS s.after) ++ ⟨#[33]⟩
def textS (s : Step) : Str := if stepB s then stepS s else ⟨#[]⟩

theorem bl_app (a b : Str) : (a ++ b).data.toList = a.data.toList ++ b.data.toList := by simp
theorem bsz_app (a b : Str) : (a ++ b).size = a.size + b.size := by simp
theorem join_snoc (l : List (List UInt8)) (z sep : List UInt8) (h : l ≠ []) : Lib.join (l ++ [z]) sep = Lib.join l sep ++ sep ++ z := by
  cases l with
  | nil => exact absurd rfl h
  | cons x r =>
    rw [List.cons_append, Lib.join_cons, Lib.join_cons]
    simp [Lib.joinTail]
theorem jnS_list {xs : List Str} : ∀ k, k < xs.length → (jnS xs (k + 1)).data.toList = Lib.join ((xs.take (k + 1)).map (·.data.toList)) [44]
  | 0, h => by
    rw [take_nth h]
    show (jnS xs 0 ++ nth xs 0).data.toList = _
    rw [bl_app]
    simp [Lib.join_one, jnS]
  | k + 1, h => by
    rw [take_nth h, List.map_append]
    show ((if 0 < k + 1 then jnS xs (k + 1) ++ ⟨#[44]⟩ else jnS xs (k + 1)) ++ nth xs (k + 1)).data.toList = _
    rw [if_pos (by omega), bl_app, bl_app, jnS_list k (by omega)]
    have hne : (xs.take (k + 1)).map (·.data.toList) ≠ [] := by
      intro e
      have h2 : ((xs.take (k + 1)).map (·.data.toList)).length = 0 := by rw [e]; rfl
      rw [List.length_map, List.length_take] at h2
      omega
    show _ = Lib.join ((xs.take (k + 1)).map (·.data.toList) ++ [(nth xs (k + 1)).data.toList]) [44]
    rw [join_snoc _ _ _ hne]
theorem jnS_join {xs : List Str} (h : 0 < xs.length) : (⟨(Lib.join (xs.map (·.data.toList)) [44]).toArray⟩ : Str) = jnS xs xs.length := by
  have := jnS_list (xs := xs) (xs.length - 1) (by omega)
  rw [show xs.length - 1 + 1 = xs.length by omega, List.take_length] at this
  rw [← this]
theorem jnS_size {xs : List Str} {m : Nat} (h : ∀ j, j < xs.length → (nth xs j).size ≤ m) : ∀ k, k ≤ xs.length → (jnS xs k).size ≤ k * (m + 1)
  | 0, _ => Nat.zero_le _
  | k + 1, hk => by
    have h1 := jnS_size h k (by omega)
    have h2 := h k (by omega)
    show ((if 0 < k then jnS xs k ++ ⟨#[44]⟩ else jnS xs k) ++ nth xs k).size ≤ _
    rw [bsz_app, Nat.succ_mul]
    have h3 : (⟨#[44]⟩ : Str).size = 1 := rfl
    split
    · rw [bsz_app]; omega
    · omega

set_option maxRecDepth 100000 in
theorem namesTextI_any (A : Option Addr) (n c : Nat) (xs : List Str) (lo : Nat) (w : World) (hr : RStr w lo A n xs) (hc : n ≤ c) (hn : n ≤ 1000) (hs : ∀ j, j < n → (nth xs j).size ≤ 1000) :
    Calls Try.prog 65 #[.slice A n c] w fun e w' => e = .returned (.string (namesS xs)) ∧ Below w.heap.size w w' := by
  have HR := Lib.hid hr; clear hr
  have HS := Lib.hid hs; clear hs
  by_cases h0 : n < 1
  · have hz : ((n : Int) == 0) = true := by rw [beq_iff_eq]; omega
    have HE := Lib.hid (show namesS xs = ⟨#[45]⟩ by unfold namesS; rw [if_pos (by rw [HR.out.1]; omega)])
    go_enter Try.func65, Try.ntmps65
    go_wp2_with fail
    go_ret
    exact ⟨ret_s HE.out.symm, Below.refl _ _⟩
  · have hz : ((n : Int) == 0) = false := by rw [beq_eq_false_iff_ne]; omega
    obtain ⟨b, off, rfl, ⟨_, hb⟩, hcs⟩ := RStr.at_ HR.out (k := 0) (by omega)
    have hl := HR.out.1
    subst hl
    have HE := Lib.hid (show namesS xs = jnS xs xs.length by unfold namesS; rw [if_neg (by omega)])
    have HJ := Lib.hid (jnS_join (xs := xs) (by omega))
    have HCS : Hid (∀ (j : Nat) x, xs[j]? = some x → w.cell? ⟨b, off + j, none⟩ = some (.string x)) := fun j x hx => by
      obtain ⟨hj, e⟩ := List.getElem?_eq_some_iff.1 hx
      have := (hcs j hj).1
      rw [nth_eq hj, e] at this
      exact this
    clear hcs
    have HLEN : Hid ((Lib.join (xs.map (·.data.toList)) [44]).length ≤ 140737488355328) := by
      have h1 := jnS_size (xs := xs) (m := 1000) HS.out xs.length (Nat.le_refl _)
      rw [← HJ.out] at h1
      have h2 : xs.length * 1001 ≤ 1000 * 1001 := Nat.mul_le_mul_right _ hn
      have h3 : (⟨(Lib.join (xs.map (·.data.toList)) [44]).toArray⟩ : Str).size = (Lib.join (xs.map (·.data.toList)) [44]).length := by simp [ByteArray.size]
      rw [h3] at h1
      show _ ≤ 140737488355328
      omega
    go_enter Try.func65, Try.ntmps65
    go_wp2_with fail
    refine (Try.strings_Join b off c xs ⟨#[44]⟩ _ HCS.out hb (by omega) hc HLEN.out).mono ?_
    rintro e w1 ⟨rfl, hb1⟩
    have HB1 := Lib.hid hb1; clear hb1
    rw [show (Lib.join (xs.map (·.data.toList)) (⟨#[44]⟩ : ByteArray).data.toList) = Lib.join (xs.map (·.data.toList)) [44] from rfl, HJ.out]
    go_wp2_with fail
    go_ret
    exact ⟨ret_s HE.out.symm, HB1.out⟩

set_option maxRecDepth 100000 in
theorem l41Names_any (A : Option Addr) (n c : Nat) (xs : List Str) (lo : Nat) (w : World) (hr : RStr w lo A n xs) (hn : n ≤ 1000) (hs : ∀ j, j < n → (nth xs j).size ≤ 1000) :
    Calls Try.prog 61 #[.slice A n c] w fun e w' => e = .returned (.string (namesS xs)) ∧ w = w' := by
  have HR := Lib.hid hr; clear hr
  have HS := Lib.hid hs; clear hs
  by_cases h0 : n < 1
  · have hz : ((n : Int) == 0) = true := by rw [beq_iff_eq]; omega
    have HE := Lib.hid (show namesS xs = ⟨#[45]⟩ by unfold namesS; rw [if_pos (by rw [HR.out.1]; omega)])
    go_enter Try.func61, Try.ntmps61
    go_wp2_with fail
    go_ret
    exact ⟨ret_s HE.out.symm, rfl⟩
  · have hz : ((n : Int) == 0) = false := by rw [beq_eq_false_iff_ne]; omega
    have HE := Lib.hid (show namesS xs = jnS xs n by unfold namesS; rw [if_neg (by rw [HR.out.1]; omega), HR.out.1])
    go_enter Try.func61, Try.ntmps61
    go_wp2_with fail
    go_loop [3, 4] (fun o i => ∃ k : Nat, k ≤ n ∧ i = .int .i64 k ∧ o = .string (jnS xs k)) (fun _ i => n - (intOf i).toNat)
    case atStart => exact ⟨0, Nat.zero_le _, rfl, rfl⟩
    case round =>
      obtain ⟨k, hk, rfl, rfl⟩ := hrel
      by_cases hlt : k < n
      · obtain ⟨b, off, rfl, _, hcs⟩ := RStr.at_ HR.out hlt
        have c1 := (hcs k hlt).1
        clear hcs
        have q1 : (jnS xs k).size ≤ 1001000 := by
          have h1 := jnS_size (xs := xs) (m := 1000) (fun j hj => HS.out j (by rw [← HR.out.1]; exact hj)) k (by rw [HR.out.1]; omega)
          have h2 : k * 1001 ≤ 1000 * 1001 := Nat.mul_le_mul_right _ (by omega)
          omega
        have q2 := HS.out k hlt
        have HJ := Lib.hid (show jnS xs (k + 1) = (if 0 < k then jnS xs k ++ ⟨#[44]⟩ else jnS xs k) ++ nth xs k from rfl)
        by_cases hk0 : 0 < k
        · have hki : decide ((0 : Int) < (k : Int)) = true := by simp; omega
          have hkn : decide (0 < k) = true := by simp; omega
          go_wp2_with fail
          go_round
          case rel => exact ⟨k + 1, by omega, by go_num, by rw [HJ.out, if_pos hk0]⟩
          case measure => simp [intOf]; omega
        · have hki : decide ((0 : Int) < (k : Int)) = false := by simp; omega
          have hkn : decide (0 < k) = false := by simp; omega
          go_wp2_with fail
          go_round
          case rel => exact ⟨k + 1, by omega, by go_num, by rw [HJ.out, if_neg hk0]⟩
          case measure => simp [intOf]; omega
      · obtain rfl : k = n := by omega
        go_wp2_with fail
        go_ret
        exact ⟨ret_s HE.out.symm, rfl⟩

theorem namesS_size {xs : List Str} (h4 : xs.length ≤ 4) (h : ∀ j, j < xs.length → nameB (nth xs j) = true) : (namesS xs).size ≤ 24 := by
  unfold namesS
  split
  · show 1 ≤ 24; omega
  · have := jnS_size (xs := xs) (m := 5) (fun j hj => by
      have := h j hj
      unfold nameB at this
      simp only [Bool.and_eq_true, decide_eq_true_eq] at this
      omega) xs.length (Nat.le_refl _)
    have h2 : xs.length * (5 + 1) ≤ 4 * 6 := Nat.mul_le_mul_right _ h4
    omega
theorem nameB_size {s : Str} (h : nameB s = true) : 1 ≤ s.size ∧ s.size ≤ 5 := by
  unfold nameB at h
  simp only [Bool.and_eq_true, decide_eq_true_eq] at h
  omega
theorem stepB_sizes {s : Step} (h : stepB s = true) : s.after.length ≤ 4 ∧ (1 ≤ s.name.size ∧ s.name.size ≤ 5) ∧ ∀ j, j < s.after.length → nameB (nth s.after j) = true := by
  unfold stepB at h
  simp only [Bool.and_eq_true, decide_eq_true_eq] at h
  refine ⟨h.2, nameB_size h.1.1.2, fun j hj => ?_⟩
  have := allN_iff.1 h.1.1.1 j hj
  unfold ascAt at this
  simp only [Bool.and_eq_true] at this
  exact this.1

end Go.Proofs.Ythcpjkhijjkolaa

/- Texts of runs: both. -/
namespace Go.Proofs.Ythcpjkhijjkolaa
open Go.RowKit

def stateS (st : Int) : Str := if st = 0 then ⟨#[103, 111, 101, 115]⟩ else if st = 1 then ⟨#[98, 97, 99, 107]⟩ else if st = 2 then ⟨#[101, 110, 100, 101, 100]⟩ else ⟨#[117, 110, 100, 111, 110, 101]⟩
def rtS (st : Int) (done : List Str) : Str := stateS st ++ ⟨#[32]⟩ ++ namesS done
def rtT (f : Flow) (st : Int) (done : List Str) : Str := if runB f st done = true then rtS st done else ⟨#[]⟩
theorem rtT_yes {f : Flow} {st : Int} {done : List Str} (h : runB f st done = true) : rtT f st done = rtS st done := by unfold rtT; rw [if_pos h]
theorem rtT_no {f : Flow} {st : Int} {done : List Str} (h : runB f st done = false) : rtT f st done = ⟨#[]⟩ := by unfold rtT; rw [if_neg (by rw [h]; simp)]

theorem run_sizes {f : Flow} {st : Int} {done : List Str} (h : runB f st done = true) : done.length ≤ 8 ∧ ∀ j, j < done.length → nameB (nth done j) = true := by
  have ho := run_ord h
  have hf := flowB_iff.1 (run_flow h)
  refine ⟨Nat.le_trans (ord_len ho) hf.2.2.1.2, fun j hj => ?_⟩
  obtain ⟨i, hi, he⟩ := nth_of_mem (hasB_true.1 (ord_all ho j hj))
  rw [namesOf_len] at hi
  rw [namesOf_at hi] at he
  have h1 := hf.1 i hi
  simp only [stepAt, stepB, Bool.and_eq_true] at h1
  rw [← he]
  exact h1.1.1.1.1.2
theorem namesS_size8 {xs : List Str} (h8 : xs.length ≤ 8) (h : ∀ j, j < xs.length → nameB (nth xs j) = true) : (namesS xs).size ≤ 48 := by
  unfold namesS
  split
  · show 1 ≤ 48; omega
  · have := jnS_size (xs := xs) (m := 5) (fun j hj => (nameB_size (h j hj)).2) xs.length (Nat.le_refl _)
    have h2 : xs.length * (5 + 1) ≤ 8 * 6 := Nat.mul_le_mul_right _ h8
    omega
theorem stateS_size (st : Int) : (stateS st).size ≤ 6 := by
  unfold stateS
  repeat' split
  all_goals decide

theorem Below.al_ {w w' : World} (h : Below w.heap.size w w') (o : Obj) : Below w.heap.size w (w'.alloc o) := h.alloc h.size o

set_option maxRecDepth 100000 in
theorem l41State_any (st : Int) (w : World) (h0 : 0 ≤ st) (h1 : st ≤ 3) :
    Calls Try.prog 60 #[.int .i64 st] w fun e w' => e = .returned (.string (stateS st)) ∧ w = w' := by
  obtain ⟨s, hs, rfl⟩ : ∃ s : Nat, s < 4 ∧ st = (s : Int) := ⟨st.toNat, by omega, by omega⟩
  match s, hs with
  | 0, _ =>
    go_enter Try.func60, Try.ntmps60
    go_wp2_with fail
    go_ret
    exact ⟨rfl, rfl⟩
  | 1, _ =>
    go_enter Try.func60, Try.ntmps60
    go_wp2_with fail
    go_ret
    exact ⟨rfl, rfl⟩
  | 2, _ =>
    go_enter Try.func60, Try.ntmps60
    go_wp2_with fail
    go_ret
    exact ⟨rfl, rfl⟩
  | 3, _ =>
    go_enter Try.func60, Try.ntmps60
    go_wp2_with fail
    go_ret
    exact ⟨rfl, rfl⟩

set_option maxRecDepth 100000 in
set_option maxHeartbeats 1000000 in
theorem runTextS_any (A B : Option Addr) (n c m d : Nat) (f : Flow) (st : Int) (done : List Str) (lo lo' : Nat) (w : World) (hr : RStep w lo A n f.steps) (hok : okSteps f.steps) (hd : RStr w lo' B m done) (hm : m ≤ 1048576) (hmd : m ≤ d) :
    Calls Try.prog 16 #[.agg #[.int .i64 f.ver, .slice A n c], .agg #[.int .i64 st, .slice B m d]] w fun e w' => e = .returned (.string (rtT f st done)) ∧ Below w.heap.size w w' := by
  have HO := Lib.hid hok; clear hok
  have HX0 := Lib.hid (heap_old (o := .cells #[.int .i64 st, .slice B m d] 35) (heap_new (w := w) (o := .cells #[.int .i64 f.ver, .slice A n c] 33) rfl))
  have HY0 := Lib.hid (heap_new (w := w.alloc (.cells #[.int .i64 f.ver, .slice A n c] 33)) (b := w.heap.size + 1) (o := .cells #[.int .i64 st, .slice B m d] 35) (by simp))
  have HB0 := Lib.hid (((Below.refl w.heap.size w).alloc (Nat.le_refl _) (.cells #[.int .i64 f.ver, .slice A n c] 33)).alloc (by simp) (.cells #[.int .i64 st, .slice B m d] 35))
  have HR := Lib.hid ((hr.alloc (.cells #[.int .i64 f.ver, .slice A n c] 33)).alloc (.cells #[.int .i64 st, .slice B m d] 35)); clear hr
  have HD := Lib.hid ((hd.alloc (.cells #[.int .i64 f.ver, .slice A n c] 33)).alloc (.cells #[.int .i64 st, .slice B m d] 35)); clear hd
  have HLm := Lib.hid (show done.length = m from HD.out.1)
  go_enter Try.func16, Try.ntmps16
  go_wp2_with fail
  refine (runS_any _ _ _ _ _ _ f st done _ _ _ HR.out HO.out HD.out hm hmd).mono ?_
  rintro e w1 ⟨rfl, hb⟩
  have HY1 := Lib.hid ((hb.block _ (heap_lt HY0.out)).trans HY0.out)
  have HB1 := Lib.hid (HB0.out.trans (hb.mono HB0.out.size))
  have HD1 := Lib.hid (HD.out.below hb)
  clear hb HX0 HY0 HR HD HB0
  cases hrb : runB f st done
  · have HE := Lib.hid (rtT_no hrb); clear hrb
    go_wp2_with fail
    go_ret
    exact ⟨ret_s HE.out.symm, HB1.out⟩
  have HE := Lib.hid (rtT_yes hrb)
  obtain ⟨h8, hnm⟩ := run_sizes hrb
  have hst := run_state hrb
  have q1 := namesS_size8 h8 hnm
  have q2 := stateS_size st
  have HNM := Lib.hid hnm; clear hnm hrb
  have hm8 : m ≤ 8 := by rw [← HLm.out]; exact h8
  clear h8
  have hwx := heap_lt HY1.out
  have HNT := Lib.hid (fun x : Bl w1 => l41Names_any B m d done _ x.wd (HD1.out.below x.below) (by omega) (fun j hj => by have := (nameB_size (HNM.out j (by rw [HLm.out]; exact hj))).2; omega))
  have HST := Lib.hid (fun x : Bl w1 => l41State_any st x.wd hst.1 hst.2)
  have X0 : ∀ x : Bl w1, x.wd.cell? ⟨w.heap.size + 1, 0, none⟩ = some (.int .i64 st) := fun x => (blk_cl (k := 0) ((x.below.block _ hwx).trans HY1.out) rfl).1
  have X1 : ∀ x : Bl w1, x.wd.cell? ⟨w.heap.size + 1, 1, none⟩ = some (.slice B m d) := fun x => (blk_cl (k := 1) ((x.below.block _ hwx).trans HY1.out) rfl).1
  go_wp2_with fail
  refine region_bl (by kernel_rfl) (by kernel_rfl) ?_
  repeat (go_big_quiet_step (first | (go_at_call 60; exact q_bl_same (HST.out _)) | (go_at_call 61; exact q_bl_same (HNT.out _))))
  refine wpQuiet_nil ?_
  intro _ hw'
  obtain ⟨x, rfl⟩ := hw'
  have HB2 := Lib.hid (HB1.out.trans (x.below.mono HB1.out.size))
  clear X0 X1 HNT HST
  go_wp2_with fail
  go_ret
  exact ⟨ret_s (by rw [HE.out]; rfl), HB2.out⟩

end Go.Proofs.Ythcpjkhijjkolaa

/- FnPoolClearTwice: the walk. -/
namespace Go.Proofs.Ythcpjkhijjkolaa
open Go.RowKit

theorem clL_le (f : Flow) (cs : List Case) : (clL f cs).length ≤ cs.length := by
  unfold clL
  split
  · exact stay_le cs
  · exact Nat.zero_le _
theorem gnL_le (f : Flow) (cs : List Case) : (gnL f cs).length ≤ cs.length := by
  unfold gnL
  split
  · exact gone_le cs
  · exact Nat.zero_le _

end Go.Proofs.Ythcpjkhijjkolaa

/- Places of names and cases. -/
namespace Go.Proofs.Ythcpjkhijjkolaa
open Go.RowKit

def caseNames (cs : List Case) : List Str := cs.map (·.name)
theorem caseNames_len (cs : List Case) : (caseNames cs).length = cs.length := List.length_map _
theorem caseNames_at {cs : List Case} {k : Nat} (hk : k < cs.length) : nth (caseNames cs) k = (nth cs k).name := by
  unfold caseNames
  rw [nth_eq (by rw [List.length_map]; exact hk), nth_eq hk]; simp

theorem placeOf_any (A : Option Addr) (n c : Nat) (xs : List Str) (s : Str) (lo : Nat) (w : World) (hr : RStr w lo A n xs) (hn : n ≤ 1048576) :
    Calls Try.prog 29 #[.slice A n c, .string s] w fun e w' => e = .returned (.int .i64 (idxI xs s)) ∧ w = w' := by
  have HR := Lib.hid hr; clear hr
  go_enter Try.func29, Try.ntmps29
  go_wp2
  go_loop [5] (fun i => ∃ k : Nat, k ≤ n ∧ i = .int .i64 k ∧ ∀ j, j < k → nth xs j ≠ s) (fun i => n - (intOf i).toNat)
  case atStart => exact ⟨0, Nat.zero_le _, rfl, fa_zero⟩
  case round =>
    obtain ⟨k, hk, rfl, hp⟩ := hrel
    have HP := Lib.hid hp; clear hp
    by_cases hlt : k < n
    · obtain ⟨b, off, rfl, _, hc⟩ := HR.out.at_ hlt
      obtain ⟨c1, _⟩ := hc k hlt
      clear hc
      by_cases he : nth xs k = s
      · have HE := Lib.hid he; clear he
        have hq := seq_t HE.out
        go_wp2
        go_ret
        exact ⟨ret_i (idxI_at HP.out (HR.out.1 ▸ hlt) HE.out).symm, rfl⟩
      · have HE := Lib.hid he; clear he
        have hq := seq_f HE.out
        go_wp2
        go_round
        case rel => exact ⟨k + 1, by omega, by go_num, fa_succ HP.out HE.out⟩
        case measure => simp [intOf]; omega
    · go_wp2
      go_ret
      exact ⟨ret_i (idxI_none (fun j hj => HP.out j (by have := HR.out.1; omega))).symm, rfl⟩
theorem caseOf_any (A : Option Addr) (n c : Nat) (cs : List Case) (s : Str) (lo : Nat) (w : World) (hr : RCase w lo A n cs) (hn : n ≤ 1048576) :
    Calls Try.prog 51 #[.slice A n c, .string s] w fun e w' => e = .returned (.int .i64 (idxI (caseNames cs) s)) ∧ w = w' := by
  have HR := Lib.hid hr; clear hr
  have HL := Lib.hid HR.out.1
  go_enter Try.func51, Try.ntmps51
  go_wp2
  go_loop [5] (fun i => ∃ k : Nat, k ≤ n ∧ i = .int .i64 k ∧ ∀ j, j < k → nth (caseNames cs) j ≠ s) (fun i => n - (intOf i).toNat)
  case atStart => exact ⟨0, Nat.zero_le _, rfl, fa_zero⟩
  case round =>
    obtain ⟨k, hk, rfl, hp⟩ := hrel
    have HP := Lib.hid hp; clear hp
    by_cases hlt : k < n
    · obtain ⟨b, off, rfl, _, hc⟩ := RCase.at_ HR.out hlt
      obtain ⟨_, _, _, ⟨c1, _⟩, _⟩ := hc k hlt
      clear hc
      rw [← caseNames_at (by rw [HL.out]; exact hlt)] at c1
      by_cases he : nth (caseNames cs) k = s
      · have HE := Lib.hid he; clear he
        have hq := seq_t HE.out
        go_wp2
        go_ret
        exact ⟨ret_i (idxI_at HP.out (by rw [caseNames_len, HL.out]; exact hlt) HE.out).symm, rfl⟩
      · have HE := Lib.hid he; clear he
        have hq := seq_f HE.out
        go_wp2
        go_round
        case rel => exact ⟨k + 1, by omega, by go_num, fa_succ HP.out HE.out⟩
        case measure => simp [intOf]; omega
    · go_wp2
      go_ret
      exact ⟨ret_i (idxI_none (fun j hj => HP.out j (by rw [caseNames_len, HL.out] at hj; omega))).symm, rfl⟩

theorem mem_names {f : Flow} {cs ds : List Case} (h : poolB f cs = true) {k : Nat} (hk : k < cs.length) (hs : ∀ c ∈ ds, c ∈ cs) : (nth cs k).name ∈ caseNames ds ↔ nth cs k ∈ ds := by
  unfold caseNames
  rw [List.mem_map]
  constructor
  · rintro ⟨c, hc, e⟩
    obtain ⟨j, hj, rfl⟩ := nth_of_mem (hs c hc)
    have := pool_names h hj hk e
    subst this
    exact hc
  · intro hc
    exact ⟨_, hc, rfl⟩
theorem stay_has {f : Flow} {cs : List Case} (h : poolB f cs = true) {k : Nat} (hk : k < cs.length) : hasB (caseNames (stayL cs)) (nth cs k).name = goesB (nth cs k) := by
  have e : stayL cs = cs.filter goesB := rfl
  rw [e, Bool.eq_iff_iff, hasB_true, mem_names h hk (fun c hc => (List.mem_filter.1 hc).1), List.mem_filter]
  exact ⟨fun h => h.2, fun h => ⟨mem_nth hk, h⟩⟩
theorem gone_has {f : Flow} {cs : List Case} (h : poolB f cs = true) {k : Nat} (hk : k < cs.length) : hasB (goneL cs) (nth cs k).name = !goesB (nth cs k) := by
  have e : goneL cs = caseNames (cs.filter fun c => !goesB c) := rfl
  rw [e, Bool.eq_iff_iff, hasB_true, mem_names h hk (fun c hc => (List.mem_filter.1 hc).1), List.mem_filter]
  exact ⟨fun h => h.2, fun h => ⟨mem_nth hk, h⟩⟩
end Go.Proofs.Ythcpjkhijjkolaa
