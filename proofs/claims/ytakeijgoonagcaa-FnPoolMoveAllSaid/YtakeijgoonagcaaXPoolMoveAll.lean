/- FnPoolMoveAll returns true at every input, and leaves its arguments as they were. No condition. -/
import Derived.Test.YtakeijgoonagcaaZJ
import Derived.Test.YtakeijgoonagcaaZB
import Derived.Test.YtakeijgoonagcaaZA
import Derived.Test.YtakeijgoonagcaaZF
import Derived.Test.YtakeijgoonagcaaZL
import Derived.Test.YtakeijgoonagcaaZM
import Derived.Test.YtakeijgoonagcaaZC

/- Moving runs, the program's side, where all is valid: how many move. -/
namespace Go.Proofs.Ytakeijgoonagcaa
open Go.RowKit

/-- A row of the runs of cases. -/
def RRun (w : World) (lo : Nat) (A : Option Addr) (n : Nat) (cs : List Case) : Prop :=
  cs.length = n ∧ (0 < n → ∃ b off, A = some ⟨b, off, none⟩ ∧ b < w.heap.size ∧ ∀ j, j < n → ∃ A' n' c', w.cell? ⟨b, off + j * 2, none⟩ = some (.int .i64 (nth cs j).st) ∧ w.cell? ⟨b, off + j * 2 + 1, none⟩ = some (.slice A' n' c') ∧ RStr w lo A' n' (nth cs j).done ∧ n' ≤ c')
theorem RRun.below {w w' : World} {lo n : Nat} {A : Option Addr} {cs : List Case} (h : RRun w lo A n cs) (hb : Below w.heap.size w w') : RRun w' lo A n cs := by
  refine ⟨h.1, fun hn => ?_⟩
  obtain ⟨b, off, e, hbl, hc⟩ := h.2 hn
  refine ⟨b, off, e, Nat.lt_of_lt_of_le hbl hb.size, fun j hj => ?_⟩
  obtain ⟨A', n', c', h1, h2, h3, h4⟩ := hc j hj
  exact ⟨A', n', c', (hb.cell (p := ⟨b, off + j * 2, none⟩) hbl).trans h1, (hb.cell (p := ⟨b, off + j * 2 + 1, none⟩) hbl).trans h2, h3.below hb, h4⟩
theorem own_other {w : World} {base e1 e2 s1 s2 n1 n2 : Nat} {v1 v2 : Value} {c1 c2 : List Value} (h1 : w.ownsRow base e1 s1 v1 n1 c1) (h2 : w.ownsRow base e2 s2 v2 n2 c2) (hne : e2 ≠ e1) : v1.ownBlock = none ∨ v1.ownBlock ≠ v2.ownBlock := by
  rcases Option.eq_none_or_eq_some v1.ownBlock with h | ⟨b, hb⟩
  · exact .inl h
  · right
    obtain ⟨cur, hc⟩ := row_blk h1 hb
    rw [hb]
    exact (row_ne h2 hc hne).symm
theorem info_runM : (Try.prog.info? 48).map (fun i => (i.zero, i.size, i.bytes)) = some (some (.agg #[.int .i64 0, .slice none 0 0]), 2, 32) := by kernel_rfl
theorem app_runM {w : World} {ops : Array Oper} {rest : List Oper} {o : Oper} {a : Act} {Q : Exit → Act → World → Prop} (base : Nat) (v : Value) (n : Nat) (cs : List Value) (b : Nat) (st : Int) (A : Option Addr) (m c : Nat) (hown : w.ownsRow base 48 2 v n cs)
    (hgd : o.guard = none) (l x : Operand) (ho : o.op = .call { callee := .builtin .append, args := #[l, x], argTypes := #[59, 59] })
    (hs : a.eval l = v) (hx : a.eval x = .slice (some ⟨b, 0, none⟩) 1 1) (hb : w.heap[b]? = some (.cells #[.int .i64 st, .slice A m c] 48 (0, 0))) (hn : n ≤ 1048576) (hbase : base ≤ w.heap.size)
    (h : ∀ v' w', w'.ownsRow base 48 2 v' (n + 1) (cs ++ [.int .i64 st, .slice A m c]) → w.grownBy w' v.ownBlock → (v'.ownBlock = v.ownBlock ∨ v'.ownBlock = some w.heap.size) → wpList Try.prog ops Q rest (a.put o.dst v') w') : wpList Try.prog ops Q (o :: rest) a w :=
  wpList_plain hgd fun _ hK => by
    refine wapp 59 48 2 32 _ Try.underlying59 info_runM rfl (by omega) (by omega) base v n _ [.int .i64 st, .slice A m c] b hown l x ho hs hx hb rfl ?_ hn hbase (fun v' w' h1 h2 h3 => hK _ _ (h v' w' h1 h2 h3))
    intro u hu; simp at hu; rcases hu with rfl | rfl <;> rfl
theorem app_intM {w : World} {ops : Array Oper} {rest : List Oper} {o : Oper} {a : Act} {Q : Exit → Act → World → Prop} (base : Nat) (v : Value) (n : Nat) (cs : List Value) (b : Nat) (z : Int) (hown : w.ownsRow base 3 1 v n cs)
    (hgd : o.guard = none) (l x : Operand) (ho : o.op = .call { callee := .builtin .append, args := #[l, x], argTypes := #[60, 60] })
    (hs : a.eval l = v) (hx : a.eval x = .slice (some ⟨b, 0, none⟩) 1 1) (hb : w.heap[b]? = some (.cells #[.int .i64 z] 3 (0, 0))) (hn : n ≤ 1048576) (hbase : base ≤ w.heap.size)
    (h : ∀ v' w', w'.ownsRow base 3 1 v' (n + 1) (cs ++ [.int .i64 z]) → w.grownBy w' v.ownBlock → (v'.ownBlock = v.ownBlock ∨ v'.ownBlock = some w.heap.size) → wpList Try.prog ops Q rest (a.put o.dst v') w') : wpList Try.prog ops Q (o :: rest) a w :=
  wpList_plain hgd fun _ hK => by
    refine wapp 60 3 1 8 _ Try.underlying60 info_int rfl (by omega) (by omega) base v n _ [.int .i64 z] b hown l x ho hs hx hb rfl ?_ hn hbase (fun v' w' h1 h2 h3 => hK _ _ (h v' w' h1 h2 h3))
    intro u hu; simp at hu; subst hu; rfl

set_option maxRecDepth 100000 in
theorem moveAll1_any (A B : Option Addr) (n c m d bx : Nat) (f : Flow) (st : Int) (done : List Str) (lo lo' : Nat) (w : World) (hx : w.heap[bx]? = some (.cells #[.int .i64 f.ver, .slice A n c] 34)) (hr : RStep w lo A n f.steps) (hok : okSteps f.steps) (hd : RStr w lo' B m done) (hm : m ≤ 1048576) (hmd : m ≤ d) :
    Calls Try.prog 80 #[.agg #[.int .i64 st, .slice B m d], .pointer (some ⟨bx, 0, none⟩)] w fun e w' => e = .returned (.bool (!runB f st done)) ∧ Below w.heap.size w w' := by
  have HB := Lib.hid ((Below.refl w.heap.size w).alloc (Nat.le_refl _) (.cells #[.int .i64 st, .slice B m d] 48))
  have HX := Lib.hid (heap_old (o := .cells #[.int .i64 st, .slice B m d] 48) hx); clear hx
  have HY := Lib.hid (heap_new (w := w) (o := .cells #[.int .i64 st, .slice B m d] 48) rfl)
  have HR := Lib.hid (hr.below ((Below.refl _ _).alloc (Nat.le_refl _) (.cells #[.int .i64 st, .slice B m d] 48))); clear hr
  have HD := Lib.hid (hd.below ((Below.refl _ _).alloc (Nat.le_refl _) (.cells #[.int .i64 st, .slice B m d] 48))); clear hd
  go_enter Try.func80, Try.ntmps80
  go_upto_region 1 with fail
  generalize w.alloc (.cells #[.int .i64 st, .slice B m d] 48) = W at *
  have x0 := (blk_cl (k := 0) HX.out rfl).1
  have x1 := (blk_cl (k := 1) HX.out rfl).1
  have y0 := (blk_cl (k := 0) HY.out rfl).1
  have y1 := (blk_cl (k := 1) HY.out rfl).1
  go_wp2_with fail
  refine (runI_any _ _ _ _ _ _ f st done _ _ _ HR.out hok HD.out hm hmd).mono ?_
  rintro e w1 ⟨rfl, hb⟩
  go_wp2_with fail
  go_ret
  exact ⟨rfl, HB.out.trans (hb.mono HB.out.size)⟩

set_option maxRecDepth 100000 in
theorem indexRun_any (A B : Option Addr) (n c m d bx : Nat) (f : Flow) (cs : List Case) (lo lo' : Nat) (w : World) (hx : w.heap[bx]? = some (.cells #[.int .i64 f.ver, .slice A n c] 34)) (hr : RStep w lo A n f.steps) (hok : okSteps f.steps) (hd : RRun w lo' B m cs) (hm : m ≤ 1000) (hcs : ∀ j, j < m → (nth cs j).done.length ≤ 1048576 ∧ runB f (nth cs j).st (nth cs j).done = true) :
    Calls Try.prog 137 #[.slice B m d, .func (.func 80) #[] #[.pointer (some ⟨bx, 0, none⟩)]] w fun e w' => e = .returned (.int .i64 (-1)) ∧ Below w.heap.size w w' := by
  have HX := Lib.hid hx; clear hx
  have HR := Lib.hid hr; clear hr
  have HD := Lib.hid hd; clear hd
  have HCS := Lib.hid hcs; clear hcs
  go_enter Try.func137, Try.ntmps137
  go_wp2_with fail
  go_loopw [8] (fun i wr => ∃ k : Nat, k ≤ m ∧ i = .int .i64 k ∧ Below w.heap.size w wr) (fun i _ => m - (intOf i).toNat)
  case atStart => exact ⟨0, Nat.zero_le _, rfl, Below.refl _ _⟩
  case round =>
    obtain ⟨k, hk, rfl, hbw⟩ := hrel
    have HBW := Lib.hid hbw; clear hbw
    by_cases hlt : k < m
    · obtain ⟨b, off, rfl, hbl, hc⟩ := (HD.out.below HBW.out).2 (by omega)
      obtain ⟨A', n', c', c1, c2, hdr, hnc⟩ := hc k hlt
      clear hc
      have hn' : n' ≤ 1048576 := by rw [← hdr.1]; exact (HCS.out k hlt).1
      have HC := Lib.hid (moveAll1_any A A' n c n' c' bx f (nth cs k).st (nth cs k).done _ _ wr ((HBW.out.block _ (heap_lt HX.out)).trans HX.out) (HR.out.below HBW.out) hok hdr hn' hnc)
      rw [(HCS.out k hlt).2] at HC
      clear hdr
      go_wp2_with (go_at_call 80; refine HC.out.mono ?_; rintro e w' ⟨rfl, hb'⟩)
      go_roundw
      case rel => exact ⟨k + 1, by omega, by go_num, HBW.out.trans (hb'.mono HBW.out.size)⟩
      case measure => simp [intOf]; omega
    · go_wp2_with fail
      go_ret
      exact ⟨rfl, HBW.out⟩

set_option maxRecDepth 100000 in
theorem containsRun_any (A B : Option Addr) (n c m d bx : Nat) (f : Flow) (cs : List Case) (lo lo' : Nat) (w : World) (hx : w.heap[bx]? = some (.cells #[.int .i64 f.ver, .slice A n c] 34)) (hr : RStep w lo A n f.steps) (hok : okSteps f.steps) (hd : RRun w lo' B m cs) (hm : m ≤ 1000) (hcs : ∀ j, j < m → (nth cs j).done.length ≤ 1048576 ∧ runB f (nth cs j).st (nth cs j).done = true) :
    Calls Try.prog 79 #[.slice B m d, .func (.func 80) #[] #[.pointer (some ⟨bx, 0, none⟩)]] w fun e w' => e = .returned (.bool false) ∧ Below w.heap.size w w' := by
  have HC := Lib.hid (indexRun_any A B n c m d bx f cs lo lo' w hx hr hok hd hm hcs)
  go_enter Try.func79, Try.ntmps79
  go_wp2_with fail
  refine HC.out.mono ?_
  rintro e w1 ⟨rfl, hb⟩
  go_wp2_with fail
  go_ret
  exact ⟨rfl, hb⟩

set_option maxRecDepth 100000 in
set_option maxHeartbeats 4000000 in
theorem moveAll_any (A G B : Option Addr) (n c ng cg m d : Nat) (f g : Flow) (cs : List Case) (lo log lo' : Nat) (w : World) (hr : RStep w lo A n f.steps) (hok : okSteps f.steps) (hg : RStep w log G ng g.steps) (hokg : okSteps g.steps) (hd : RRun w lo' B m cs) (hm : m ≤ 8) (hf : flowB f = true) (hgf : flowB g = true) (hcs : ∀ j, j < m → (nth cs j).done.length ≤ 1048576 ∧ runB f (nth cs j).st (nth cs j).done = true) :
    Calls Try.prog 37 #[.agg #[.int .i64 f.ver, .slice A n c], .agg #[.int .i64 g.ver, .slice G ng cg], .slice B m d] w fun e w' => ∃ B' d' C' e', e = .returned (.tuple #[.slice B' (mvL f g cs).length d', .slice C' (mvN f g cs).length e', .bool true]) ∧ Below w.heap.size w w' := by
  have HL := Lib.hid hd.1
  have HCS := Lib.hid hcs
  have HX := Lib.hid (heap_old (o := .cells #[.int .i64 g.ver, .slice G ng cg] 34) (heap_new (w := w) (o := .cells #[.int .i64 f.ver, .slice A n c] 34) rfl))
  have HY := Lib.hid (heap_new (w := w.alloc (.cells #[.int .i64 f.ver, .slice A n c] 34)) (b := w.heap.size + 1) (o := .cells #[.int .i64 g.ver, .slice G ng cg] 34) (by simp))
  have HBW := Lib.hid (((Below.refl w.heap.size w).alloc (Nat.le_refl _) (.cells #[.int .i64 f.ver, .slice A n c] 34)).alloc (by simp) (.cells #[.int .i64 g.ver, .slice G ng cg] 34))
  have HRW := Lib.hid ((hr.alloc (.cells #[.int .i64 f.ver, .slice A n c] 34)).alloc (.cells #[.int .i64 g.ver, .slice G ng cg] 34)); clear hr
  have HGW := Lib.hid ((hg.alloc (.cells #[.int .i64 f.ver, .slice A n c] 34)).alloc (.cells #[.int .i64 g.ver, .slice G ng cg] 34)); clear hg
  have HDW := Lib.hid ((hd.below ((Below.refl _ _).alloc (Nat.le_refl _) (.cells #[.int .i64 f.ver, .slice A n c] 34))).below ((Below.refl _ _).alloc (Nat.le_refl _) (.cells #[.int .i64 g.ver, .slice G ng cg] 34))); clear hd
  go_enter Try.func37, Try.ntmps37
  go_upto_region 1 with fail
  generalize (w.alloc (.cells #[.int .i64 f.ver, .slice A n c] 34)).alloc (.cells #[.int .i64 g.ver, .slice G ng cg] 34) = W at *
  have HSB : Hid (∀ w', Below W.heap.size W w' → w'.cell? ⟨w.heap.size, 0, none⟩ = some (.int .i64 f.ver) ∧ w'.cell? ⟨w.heap.size, 1, none⟩ = some (.slice A n c) ∧ w'.cell? ⟨w.heap.size + 1, 0, none⟩ = some (.int .i64 g.ver) ∧ w'.cell? ⟨w.heap.size + 1, 1, none⟩ = some (.slice G ng cg)) := Lib.hid (fun w' h => by
    have e1 := (h.block _ (heap_lt HX.out)).trans HX.out
    have e2 := (h.block _ (heap_lt HY.out)).trans HY.out
    exact ⟨(blk_cl (k := 0) e1 rfl).1, (blk_cl (k := 1) e1 rfl).1, (blk_cl (k := 0) e2 rfl).1, (blk_cl (k := 1) e2 rfl).1⟩)
  have HFV := Lib.hid (fun (cur : World) (h : Below W.heap.size W cur) => (flowI_any A n c f lo cur (HRW.out.below h) hok).mono (R' := fun e w' => e = .returned (.bool true) ∧ Below W.heap.size W w') (by
    rintro e w' ⟨h1, h2⟩
    rw [hf] at h1
    exact ⟨h1, h.trans (h2.mono h.size)⟩))
  have HGV := Lib.hid (fun (cur : World) (h : Below W.heap.size W cur) => (flowI_any G ng cg g log cur (HGW.out.below h) hokg).mono (R' := fun e w' => e = .returned (.bool true) ∧ Below W.heap.size W w') (by
    rintro e w' ⟨h1, h2⟩
    rw [hgf] at h1
    exact ⟨h1, h.trans (h2.mono h.size)⟩))
  have HCF := Lib.hid (fun (cur : World) (h : Below W.heap.size W cur) => (containsRun_any A B n c m d w.heap.size f cs lo lo' cur ((h.block _ (heap_lt HX.out)).trans HX.out) (HRW.out.below h) hok (HDW.out.below h) (by omega) hcs).mono (R' := fun e w' => e = .returned (.bool false) ∧ Below W.heap.size W w') (by
    rintro e w' ⟨h1, h2⟩
    exact ⟨h1, h.trans (h2.mono h.size)⟩))
  have hbw := Below.refl W.heap.size W
  obtain ⟨f0, f1, g0, g1⟩ := HSB.out _ hbw
  clear hcs
  go_wp2_with (first
    | (go_at_call_of 47 (Value.int .i64 f.ver); refine (HFV.out _ hbw).mono ?_; clear f0 f1 g0 g1; rintro e w1 ⟨rfl, hbw⟩; obtain ⟨f0, f1, g0, g1⟩ := HSB.out _ hbw)
    | (go_at_call_of 47 (Value.int .i64 g.ver); refine (HGV.out _ hbw).mono ?_; clear f0 f1 g0 g1; rintro e w2 ⟨rfl, hbw⟩; obtain ⟨f0, f1, g0, g1⟩ := HSB.out _ hbw)
    | (go_at_call 79; refine (HCF.out _ hbw).mono ?_; clear f0 f1 g0 g1; rintro e w3 ⟨rfl, hbw⟩; obtain ⟨f0, f1, g0, g1⟩ := HSB.out _ hbw)
    | fail "no arm")
  have HB3 := Lib.hid hbw
  have hs3 := hbw.size
  clear hbw f0 f1 g0 g1
  go_loopw [9, 10, 35] (fun v1 v2 i wr => ∃ (k m1 m2 : Nat) (c1 c2 : List Value), k ≤ m ∧ i = .int .i64 (k : Int) ∧ wr.ownsRow w3.heap.size 48 2 v1 m1 c1 ∧ m1 = (mvL f g (cs.take k)).length ∧ wr.ownsRow w3.heap.size 3 1 v2 m2 c2 ∧ m2 = (mvN f g (cs.take k)).length ∧ Below w3.heap.size w3 wr) (fun _ _ i _ => m - (intOf i).toNat)
  case atStart => exact ⟨0, 0, 0, [], [], Nat.zero_le _, rfl, own_nil, rfl, own_nil, rfl, Below.refl _ _⟩
  case round =>
    obtain ⟨wo, rfl⟩ : ∃ wo : World, wo = wr := ⟨_, rfl⟩
    obtain ⟨k, m1, m2, c1, c2, hk, rfl, hrow1, hm1, hrow2, hm2, hbo⟩ := hrel
    have HO1 := Lib.hid hrow1; clear hrow1
    have HO2 := Lib.hid hrow2; clear hrow2
    have HM1 := Lib.hid hm1; clear hm1
    have HM2 := Lib.hid hm2; clear hm2
    have HBO := Lib.hid hbo; clear hbo
    obtain ⟨X1, y1, rfl, _⟩ := own_form HO1.out
    obtain ⟨X2, y2, rfl, _⟩ := own_form HO2.out
    have HWO := Lib.hid (HB3.out.trans (HBO.out.mono hs3))
    have hwo : w.heap.size ≤ wo.heap.size := Nat.le_trans HBW.out.size HWO.out.size
    have hlen := mv_len f g (cs.take k)
    have hm12 : m1 ≤ 8 ∧ m2 ≤ 8 := by
      have h1 := HM1.out
      have h2 := HM2.out
      have h3 := List.length_take_le k cs
      omega
    clear hlen
    by_cases hlt : k < m
    · obtain ⟨b, off, rfl, hbl, hc⟩ := (HDW.out.below HWO.out).2 (by omega)
      obtain ⟨A', n', c', q1, q2, hdr, hnc⟩ := hc k hlt
      clear hc
      have hkl : k < cs.length := by rw [HL.out]; exact hlt
      have hn' : n' ≤ 1048576 := by rw [← hdr.1]; exact (HCS.out k hlt).1
      have HDR := Lib.hid hdr; clear hdr
      obtain ⟨f0, f1, g0, g1⟩ := HSB.out _ HWO.out
      have f0a := fun o => (World.cell?_alloc_some wo _ o (by rw [f0]; rfl)).trans f0
      have f1a := fun o => (World.cell?_alloc_some wo _ o (by rw [f1]; rfl)).trans f1
      have g0a := fun o => (World.cell?_alloc_some wo _ o (by rw [g0]; rfl)).trans g0
      have g1a := fun o => (World.cell?_alloc_some wo _ o (by rw [g1]; rfl)).trans g1
      go_wp2_with fail
      have hbx := (Below.refl wo.heap.size wo).alloc (Nat.le_refl _) (.cells #[.int .i64 (nth cs k).st, .slice A' n' c'] 48)
      refine (fitI_any _ _ _ _ _ _ _ _ _ f g (nth cs k).st (nth cs k).done _ _ _ _ ((HRW.out.below HWO.out).below hbx) hok ((HGW.out.below HWO.out).below hbx) hokg (HDR.out.below hbx) hn' hnc).mono ?_
      rintro e w5 ⟨B5, n5, d5, rfl, _, hb5⟩
      have hb6 := (hbx.trans (hb5.mono hbx.size)).alloc (hbx.trans (hb5.mono hbx.size)).size (.cells #[.int .i64 (fitR f g (nth cs k).st (nth cs k).done).1, .slice B5 n5 d5] 48)
      have HR6 := Lib.hid (heap_new (w := w5) (o := .cells #[.int .i64 (fitR f g (nth cs k).st (nth cs k).done).1, .slice B5 n5 d5] 48) rfl)
      clear hb5 hbx q1 q2 f0 f1 g0 g1 f0a f1a g0a g1a
      cases hfit : fitB f g (nth cs k).st (nth cs k).done
      · have HT1 := Lib.hid (mv_no hkl hfit)
        have HT2 := Lib.hid (mvN_no hkl hfit)
        clear hfit
        generalize fitR f g (nth cs k).st (nth cs k).done = fr at *
        have hs6 := hb6.size
        have HO16 := Lib.hid (row_below HO1.out hb6)
        have HO26 := Lib.hid (row_below HO2.out hb6)
        have HB6 := Lib.hid (HBO.out.trans (hb6.mono HBO.out.size))
        clear HR6 hb6
        go_upto_region 11 with fail
        generalize w5.alloc (.cells #[.int .i64 fr.1, .slice B5 n5 d5] 48) = w6 at *
        have hs66 := HB6.out.size
        have hr6 : (w6.alloc (.cells #[.int .i64 (k : Int)] 3)).ownsRow w3.heap.size 3 1 (.slice X2 m2 y2) m2 c2 := HO26.out.alloc _
        have hr7 : (w6.alloc (.cells #[.int .i64 (k : Int)] 3)).ownsRow w3.heap.size 48 2 (.slice X1 m1 y1) m1 c1 := HO16.out.alloc _
        go_wp2_with (at_builtin; refine app_intM w3.heap.size (.slice X2 m2 y2) m2 c2 _ (k : Int) hr6 rfl (.tmp 52) (.tmp 54) rfl rfl rfl ?c1 (by omega) ?c2 ?_)
        case c1 => first | exact heap_new rfl | exact Array.getElem_push_eq
        case c2 => (try simp); omega
        intro v8 w8 h8 hg8 _
        have HB8 := Lib.hid ((HB6.out.alloc HB6.out.size (.cells #[.int .i64 (k : Int)] 3)).grown hg8 (by have := HB6.out.size; simp; omega) (fun b hb => (hr6.lt b hb).1))
        have H8 := Lib.hid h8
        have HK8 := Lib.hid (hr7.kept hg8 (own_other hr7 hr6 (by decide)))
        clear h8 hg8 hr6 hr7
        go_wp2_with fail
        go_roundw
        case rel => exact ⟨k + 1, m1, m2 + 1, _, _, by omega, by go_num, HK8.out, by rw [HT1.out]; exact HM1.out, H8.out, by rw [HT2.out, List.length_append, ← HM2.out]; rfl, HB8.out⟩
        case measure => simp [intOf]; omega
      · have HT1 := Lib.hid (mv_yes hkl hfit)
        have HT2 := Lib.hid (mvN_yes hkl hfit)
        clear hfit
        generalize fitR f g (nth cs k).st (nth cs k).done = fr at *
        have hs6 := hb6.size
        have HO16 := Lib.hid (row_below HO1.out hb6)
        have HO26 := Lib.hid (row_below HO2.out hb6)
        have HB6 := Lib.hid (HBO.out.trans (hb6.mono HBO.out.size))
        clear hb6
        go_upto_region 10 with fail
        generalize w5.alloc (.cells #[.int .i64 fr.1, .slice B5 n5 d5] 48) = w6 at *
        have hs66 := HB6.out.size
        have r0 := (blk_cl (k := 0) HR6.out rfl).1
        have r1 := (blk_cl (k := 1) HR6.out rfl).1
        have hr6 : (w6.alloc (.cells #[.int .i64 fr.1, .slice B5 n5 d5] 48)).ownsRow w3.heap.size 3 1 (.slice X2 m2 y2) m2 c2 := HO26.out.alloc _
        have hr7 : (w6.alloc (.cells #[.int .i64 fr.1, .slice B5 n5 d5] 48)).ownsRow w3.heap.size 48 2 (.slice X1 m1 y1) m1 c1 := HO16.out.alloc _
        go_wp2_with (at_builtin; refine app_runM w3.heap.size (.slice X1 m1 y1) m1 c1 _ fr.1 B5 n5 d5 hr7 rfl (.tmp 48) (.tmp 50) rfl rfl rfl ?c1 (by omega) ?c2 ?_)
        case c1 => first | exact heap_new rfl | exact Array.getElem_push_eq
        case c2 => (try simp); omega
        intro v8 w8 h8 hg8 _
        have HB8 := Lib.hid ((HB6.out.alloc HB6.out.size (.cells #[.int .i64 fr.1, .slice B5 n5 d5] 48)).grown hg8 (by have := HB6.out.size; simp; omega) (fun b hb => (hr7.lt b hb).1))
        have H8 := Lib.hid h8
        have HK8 := Lib.hid (hr6.kept hg8 (own_other hr6 hr7 (by decide)))
        clear h8 hg8 hr6 hr7 r0 r1
        go_wp2_with fail
        go_roundw
        case rel => exact ⟨k + 1, m1 + 1, m2, _, _, by omega, by go_num, H8.out, by rw [HT1.out, List.length_append, ← HM1.out]; rfl, HK8.out, by rw [HT2.out]; exact HM2.out, HB8.out⟩
        case measure => simp [intOf]; omega
    · have hkm : k = m := by omega
      subst hkm
      have e1 : m1 = (mvL f g cs).length := by have h := HM1.out; rw [List.take_of_length_le (by rw [HL.out]; exact Nat.le_refl _)] at h; exact h
      have e2 : m2 = (mvN f g cs).length := by have h := HM2.out; rw [List.take_of_length_le (by rw [HL.out]; exact Nat.le_refl _)] at h; exact h
      have E1 := Lib.hid e1
      have E2 := Lib.hid e2
      clear e1 e2
      go_wp2_with fail
      exact bodyPost_ret (v := .tuple #[.slice X1 m1 y1, .slice X2 m2 y2, .bool true]) (by simp [results, Try.results37, go_sem]) rfl ⟨X1, y1, X2, y2, by rw [E1.out, E2.out], HBW.out.trans (HWO.out.mono HBW.out.size)⟩
end Go.Proofs.Ytakeijgoonagcaa

/- FnPoolMoveAll: the walk. -/
namespace Go.Proofs.Ytakeijgoonagcaa
open Go.RowKit

def rcells (p : Int × Value) : List Value := [.int .i64 p.1, p.2]
theorem rcells_len (p : Int × Value) : (rcells p).length = 2 := rfl
/-- A row of runs of the call's own. -/
def RunsOf (w5 : World) (lo : Nat) (ps : List (Int × Value)) (cs : List Case) : Prop := ∀ j, j < ps.length → ∃ A n c, nth ps j = ((nth cs j).st, .slice A n c) ∧ RStr w5 lo A n (nth cs j).done ∧ n ≤ c
theorem RunsOf.snoc {w5 : World} {lo : Nat} {ps : List (Int × Value)} {cs : List Case} {A : Option Addr} {n c : Nat} (h : RunsOf w5 lo ps cs) (hr : RStr w5 lo A n (nth cs ps.length).done) (hnc : n ≤ c) : RunsOf w5 lo (ps ++ [((nth cs ps.length).st, .slice A n c)]) cs := by
  intro j hj
  rw [List.length_append, List.length_singleton] at hj
  by_cases e : j < ps.length
  · obtain ⟨A', n', c', h1, h2⟩ := h j e
    refine ⟨A', n', c', ?_, h2⟩
    rw [← h1, nth_eq (by rw [List.length_append]; omega), nth_eq e, List.getElem_append_left e]
  · obtain rfl : j = ps.length := by omega
    exact ⟨A, n, c, by rw [nth_eq (by simp)]; simp, hr, hnc⟩
theorem RunsOf.hat {w5 w : World} {lo m n c : Nat} {A : Option Addr} {ps : List (Int × Value)} {cs : List Case} (h : RunsOf w5 lo ps cs) (hl : ps.length = cs.length) (hn : cs.length = n) (hb : Below m w5 w) (hm : m = w5.heap.size) {base : Nat} (hown : w.ownsRow base 48 2 (.slice A n c) n (ps.flatMap rcells)) : RRun w lo A n cs := by
  subst hm
  obtain ⟨A', c', e, hf⟩ := own_form hown
  injection e with e1 _ e3
  subst e1
  refine ⟨hn, fun hpos => ?_⟩
  obtain ⟨b, e, _, hbl, hc⟩ := hf hpos
  refine ⟨b, 0, e, hbl, fun j hj => ?_⟩
  obtain ⟨A', n', c', h1, h2, h3⟩ := h j (by omega)
  have h4 : ∀ i u, i < 2 → (rcells (nth ps j))[i]? = some u → w.cell? ⟨b, 0 + j * 2 + i, none⟩ = some u := fun i u hi hu => by
    have := (hc (j * 2 + i) u (by rw [flat_at rcells_len ps j i (by omega) hi]; exact hu)).1
    rwa [Nat.zero_add]
  rw [h1] at h4
  exact ⟨A', n', c', h4 0 _ (by omega) rfl, h4 1 _ (by omega) rfl, h2.below hb, h3⟩

set_option maxRecDepth 100000 in
set_option maxHeartbeats 4000000 in
theorem fnPoolMoveAll_any (A : Option Addr) (n c : Nat) (w : World) (hr : RByte w A n) (hc : n ≤ c) :
    Calls Try.prog 6 #[.slice A n c] w fun e w' => e = .returned (.bool true) ∧ Below w.heap.size w w' := by
  have HR := Lib.hid hr; clear hr
  by_cases hn : 1048576 < n
  · go_enter Try.func6, Try.ntmps6
    go_wp2_with fail
    go_ret
    exact ⟨rfl, Below.refl _ _⟩
  go_enter Try.func6, Try.ntmps6
  go_wp2_with fail
  refine (drawPoolMove_any _ _ _ _ HR.out hc (by omega)).mono ?_
  rintro e w1 ⟨f, g, A1, n1, c1, G1, ng, cg, B1, m1, d1, cs, rfl, hs, hok, hsg, hokg, h6, h8, hcs, hokc, hmd, hm9, hb1⟩
  have HOK := Lib.hid hok; clear hok
  have HOKG := Lib.hid hokg; clear hokg
  have HOC := Lib.hid hokc; clear hokc
  have HL := Lib.hid hcs.1
  have HS1 := Lib.hid ((hs.alloc (.cells #[.int .i64 f.ver, .slice A1 n1 c1] 34)).alloc (.cells #[.int .i64 g.ver, .slice G1 ng cg] 34)); clear hs
  have HG1 := Lib.hid ((hsg.alloc (.cells #[.int .i64 f.ver, .slice A1 n1 c1] 34)).alloc (.cells #[.int .i64 g.ver, .slice G1 ng cg] 34)); clear hsg
  have HC1 := Lib.hid ((hcs.alloc (.cells #[.int .i64 f.ver, .slice A1 n1 c1] 34)).alloc (.cells #[.int .i64 g.ver, .slice G1 ng cg] 34)); clear hcs
  have HB1 := Lib.hid ((hb1.alloc hb1.size (.cells #[.int .i64 f.ver, .slice A1 n1 c1] 34)).alloc (hb1.alloc hb1.size (.cells #[.int .i64 f.ver, .slice A1 n1 c1] 34)).size (.cells #[.int .i64 g.ver, .slice G1 ng cg] 34)); clear hb1
  have HX1 := Lib.hid (heap_old (o := .cells #[.int .i64 g.ver, .slice G1 ng cg] 34) (heap_new (w := w1) (o := .cells #[.int .i64 f.ver, .slice A1 n1 c1] 34) rfl))
  have HY1 := Lib.hid (heap_new (w := w1.alloc (.cells #[.int .i64 f.ver, .slice A1 n1 c1] 34)) (b := w1.heap.size + 1) (o := .cells #[.int .i64 g.ver, .slice G1 ng cg] 34) (by simp))
  go_wp2_with fail
  refine (pmI_any _ _ _ _ _ _ _ _ _ f g cs _ _ _ _ HS1.out HOK.out HG1.out HOKG.out HC1.out HOC.out).mono ?_
  rintro e w2 ⟨B2, m2, d2, C2, k2, e2, rfl, hx2, hmd2, hy2, hb2⟩
  have HX2 := Lib.hid ((hb2.block _ (heap_lt HX1.out)).trans HX1.out)
  have HY2 := Lib.hid ((hb2.block _ (heap_lt HY1.out)).trans HY1.out)
  have HS2 := Lib.hid (HS1.out.below hb2)
  have HG2 := Lib.hid (HG1.out.below hb2)
  have HC2 := Lib.hid (HC1.out.below hb2)
  have HB2 := Lib.hid (HB1.out.trans (hb2.mono HB1.out.size))
  have HO2 := Lib.hid hx2; clear hx2
  have HN2 := Lib.hid hy2; clear hy2 hb2
  have x0 := (blk_cl (k := 0) HX2.out rfl).1
  have x1 := (blk_cl (k := 1) HX2.out rfl).1
  have y0 := (blk_cl (k := 0) HY2.out rfl).1
  have y1 := (blk_cl (k := 1) HY2.out rfl).1
  go_wp2_with fail
  refine (pmS_any _ _ _ _ _ _ _ _ _ f g cs _ _ _ _ HS2.out HOK.out HG2.out HOKG.out HC2.out HOC.out).mono ?_
  rintro e w3 ⟨B3, m3, d3, C3, k3, e3, rfl, hx3, hmd3, hy3, hb3⟩
  obtain rfl : m3 = m2 := by rw [← hx3.1, ← HO2.out.1]
  obtain rfl : k3 = k2 := by rw [← hy3.1, ← HN2.out.1]
  have HX3 := Lib.hid ((hb3.block _ (heap_lt HX2.out)).trans HX2.out)
  have HY3 := Lib.hid ((hb3.block _ (heap_lt HY2.out)).trans HY2.out)
  have HS3 := Lib.hid (HS2.out.below hb3)
  have HG3 := Lib.hid (HG2.out.below hb3)
  have HC3 := Lib.hid (HC2.out.below hb3)
  have HO3 := Lib.hid (HO2.out.below hb3)
  have HN3 := Lib.hid (HN2.out.below hb3)
  have HB3 := Lib.hid (HB2.out.trans (hb3.mono HB2.out.size))
  have hk9 : k3 ≤ 8 := by
    have h1 := HN3.out.1
    have h2 := (pmL_small (f := f) (g := g) (cs := cs)).2.2
    omega
  have hm39 : m3 ≤ 8 := by
    have h1 := HO3.out.1
    have h2 := (pmL_small (f := f) (g := g) (cs := cs)).1
    omega
  have HT := Lib.hid (fun (w' : World) (h : Below w3.heap.size w3 w') => sameTexts_any C2 C3 k3 e2 k3 e3 (pmN f g cs) (pmN f g cs) _ _ w' (HN3.out.below h) (by omega) (hy3.below h) (by omega))
  have HP := Lib.hid (fun (w' : World) (h : Below w3.heap.size w3 w') => samePool_same B2 B3 m3 d2 d3 (pmL f g cs) _ _ w' (HO3.out.below h) (pmL_ok HOC.out) (hx3.below h))
  rw [eqB_same] at HT
  clear hx3 hy3 hb3 x0 x1 y0 y1 HX1 HX2 HY1 HY2 HS1 HS2 HG1 HG2 HC1 HC2 HO2 HN2
  have hzz : (pmB f g cs != pmB f g cs) = false := by simp
  have hze : (pmB f g cs == pmB f g cs) = true := by simp
  cases hp : pmB f g cs
  · clear hp
    go_wp2_with fail
    refine (HT.out w3 (Below.refl _ _)).mono ?_
    rintro e w4 ⟨rfl, q4, rfl⟩
    have hb4 := below_drewN (Below.refl w3.heap.size w3) q4
    generalize w3.drewN q4 = w4 at *
    go_wp2_with fail
    refine (HP.out w4 hb4).mono ?_
    rintro e w5 ⟨rfl, hb5⟩
    have hb5' := hb4.trans (hb5.mono hb4.size)
    go_wp2_with fail
    refine (HT.out w5 hb5').mono ?_
    rintro e w6 ⟨rfl, q6, rfl⟩
    have hb6 := below_drewN hb5' q6
    generalize w5.drewN q6 = w6 at *
    go_wp2_with fail
    refine (HP.out w6 hb6).mono ?_
    rintro e w7 ⟨rfl, hb7⟩
    go_wp2_with fail
    go_ret
    exact ⟨rfl, (HB3.out.trans (hb6.mono HB3.out.size)).trans (hb7.mono (Nat.le_trans HB3.out.size hb6.size))⟩
  have HPM := Lib.hid hp
  have HV := Lib.hid (pmL_yes hp)
  have HG := Lib.hid (pmN_yes hp)
  clear hp
  go_wp2_with fail
  refine (HT.out w3 (Below.refl _ _)).mono ?_
  rintro e w4 ⟨rfl, q4, rfl⟩
  have hb4 := below_drewN (Below.refl w3.heap.size w3) q4
  generalize w3.drewN q4 = w4 at *
  go_wp2_with fail
  refine (HP.out w4 hb4).mono ?_
  rintro e w5 ⟨rfl, hb5⟩
  have hb5' := hb4.trans (hb5.mono hb4.size)
  have HX5 := Lib.hid ((hb5'.block _ (heap_lt HX3.out)).trans HX3.out)
  have HY5 := Lib.hid ((hb5'.block _ (heap_lt HY3.out)).trans HY3.out)
  have HS5 := Lib.hid (HS3.out.below hb5')
  have HG5 := Lib.hid (HG3.out.below hb5')
  have HC5 := Lib.hid (HC3.out.below hb5')
  have HO5 := Lib.hid (HO3.out.below hb5')
  have HN5 := Lib.hid (HN3.out.below hb5')
  have HB5 := Lib.hid (HB3.out.trans (hb5'.mono HB3.out.size))
  have HOS := Lib.hid (pmL_ok (f := f) (g := g) HOC.out)
  rw [HV.out] at HO5 HOS
  rw [HG.out] at HN5
  clear hb4 hb5 hb5' hzz hze HT HP HX3 HY3 HB3 HS3 HG3 HC3 HO3 HN3
  have HN0 := Lib.hid (World.ownsRow_made (base := w5.heap.size) (e := 48) (size := 2) w5 #[] 0 (Nat.le_refl _) (Nat.zero_le _) rfl)
  have HB0 := Lib.hid ((Below.refl w5.heap.size w5).alloc (Nat.le_refl _) (.cells #[] 48))
  go_wp2_with fail
  go_loopw [12, 13] (fun v i wr => ∃ (k : Nat) (ps : List (Int × Value)), k ≤ m1 ∧ i = .int .i64 (k : Int) ∧ ps.length = k ∧ wr.ownsRow w5.heap.size 48 2 v k (ps.flatMap rcells) ∧ RunsOf w5 w.heap.size ps cs ∧ Below w5.heap.size w5 wr) (fun _ i _ => m1 - (intOf i).toNat)
  case atStart => exact ⟨0, [], Nat.zero_le _, rfl, rfl, HN0.out, fun j hj => absurd hj (by simp), HB0.out⟩
  case round =>
    obtain ⟨wo, rfl⟩ : ∃ wo : World, wo = wr := ⟨_, rfl⟩
    obtain ⟨k, ps, hk, rfl, hpl, hrow, hru, hbw⟩ := hrel
    have HPS := Lib.hid hpl; clear hpl
    have HROW := Lib.hid hrow; clear hrow
    have HRU := Lib.hid hru; clear hru
    have HBW := Lib.hid hbw; clear hbw
    obtain ⟨X1, z1, rfl, _⟩ := own_form HROW.out
    by_cases hlt : k < m1
    · obtain ⟨b, off, rfl, ⟨_, hbl⟩, hcc⟩ := RCase.at_ HC5.out hlt
      obtain ⟨A', n', c', ⟨_, d2', d3'⟩, hdr, hnc, _⟩ := hcc k hlt
      clear hcc
      have y2 := (HBW.out.cell (p := ⟨b, off + k * 3 + 1, none⟩) hbl).trans d2'
      have y3 := (HBW.out.cell (p := ⟨b, off + k * 3 + 2, none⟩) hbl).trans d3'
      have HDR := Lib.hid (show RStr w5 w.heap.size A' n' (nth cs ps.length).done by rw [HPS.out]; exact hdr)
      have HNX := Lib.hid (HRU.out.snoc HDR.out hnc)
      rw [HPS.out] at HNX
      clear d2' d3' hdr HDR
      have hk0 : (0 : Int) ≤ (k : Int) := by omega
      have hk1 : (k : Int) < (m1 : Int) := by omega
      generalize (nth cs k).st = st at *
      have hr7 : (wo.alloc (.cells #[.int .i64 st, .slice A' n' c'] 48)).ownsRow w5.heap.size 48 2 (.slice X1 k z1) k (ps.flatMap rcells) := HROW.out.alloc _
      have hsw := HBW.out.size
      go_wp2_with (at_builtin; refine app_runM w5.heap.size (.slice X1 k z1) k (ps.flatMap rcells) _ st A' n' c' hr7 rfl (.tmp 81) (.tmp 87) rfl rfl rfl ?c1 (by omega) ?c2 ?_)
      case c1 => first | exact heap_new rfl | exact Array.getElem_push_eq
      case c2 => (try simp); omega
      intro v8 w8 h8 hg8 _
      have HB8 := Lib.hid ((HBW.out.alloc hsw (.cells #[.int .i64 st, .slice A' n' c'] 48)).grown hg8 (by simp; omega) (fun b hb => (hr7.lt b hb).1))
      have H8 : Hid (w8.ownsRow w5.heap.size 48 2 v8 (k + 1) ((ps ++ [(st, Value.slice A' n' c')]).flatMap rcells)) := Lib.hid (by rw [List.flatMap_append]; exact h8)
      clear h8 hg8 hr7 y2 y3
      go_wp2_with fail
      go_roundw
      case rel => exact ⟨k + 1, ps ++ [(st, Value.slice A' n' c')], by omega, by go_num, by rw [List.length_append, HPS.out]; rfl, H8.out, HNX.out, HB8.out⟩
      case measure => simp [intOf]; omega
    · have hkm : k = m1 := by omega
      subst hkm
      have HRR := Lib.hid (HRU.out.hat (by rw [HPS.out, HL.out]) HL.out HBW.out rfl HROW.out)
      have HX9 := Lib.hid ((HBW.out.block _ (heap_lt HX5.out)).trans HX5.out)
      have HY9 := Lib.hid ((HBW.out.block _ (heap_lt HY5.out)).trans HY5.out)
      have x0 := (blk_cl (k := 0) HX9.out rfl).1
      have x1 := (blk_cl (k := 1) HX9.out rfl).1
      have y0 := (blk_cl (k := 0) HY9.out rfl).1
      have y1 := (blk_cl (k := 1) HY9.out rfl).1
      have hkl8 : k ≤ 8 := by have := pool_len (pm_parts HPM.out).1; rw [HL.out] at this; exact this
      go_wp2_with fail
      refine (moveAll_any _ _ _ _ _ _ _ _ _ f g cs _ _ _ _ (HS5.out.below HBW.out) HOK.out (HG5.out.below HBW.out) HOKG.out HRR.out hkl8 (pool_flow (pm_parts HPM.out).1) (pm_parts HPM.out).2 (fun j hj => ⟨(HOC.out.2 j (by rw [HL.out]; exact hj)).2, pool_run (pm_parts HPM.out).1 (by rw [HL.out]; exact hj)⟩)).mono ?_
      rintro e w6 ⟨B6, d6, C6, e6, rfl, hb6⟩
      rw [HO5.out.1, HN5.out.1]
      go_wp2_with fail
      go_ret
      exact ⟨rfl, (HB5.out.trans (HBW.out.mono HB5.out.size)).trans (hb6.mono (Nat.le_trans HB5.out.size HBW.out.size))⟩
end Go.Proofs.Ytakeijgoonagcaa

/- FnPoolMoveAll returns true at every input, and leaves its arguments as they were. No condition. -/
namespace Go.Proofs.Ytakeijgoonagcaa
open Go.ChangeShapes Go.WideShapes Go.ChangeAt Go.RowKit

set_option maxRecDepth 100000 in
theorem fnPoolMoveAll_lifted (os : Os) (started : os.Started) (H : Type) (enc : TypeId × Value → H) :
    ReturnsInHanded {} Try.checked os 6 .any (Rows.fnPoolMoveAllSpec.pre6 enc Try.prog Try.f6 Rows.fnPoolMoveAllRow.domain false) (Rows.fnPoolMoveAllSpec.post enc Try.prog Try.f6 false true false false) := by
  refine returnsInHanded_of_change (C := Try.checked) Try.own started (by kernel_rfl) Try.func6
    (ChangeSpec.witness6 (enc := enc) (C := Try.checked) false ⟨#[], #[.slice none 0 0], []⟩ 8 (by kernel_rfl) (by kernel_rfl) (by kernel_rfl) (by kernel_rfl)) ?_
  intro W base args ds gs before hval0 hW hcnd _
  have hval : ∀ (j : Nat) t v, Try.f6.params[j]? = some t → args[j]? = some v → Value.okWide Try.prog W .any base t v := hval0
  have hW' := hW
  obtain ⟨p, q, hA0, hV, rfl, hfz, hnd⟩ := hW
  have hA : DataW.TrodAll enc Try.prog W 0 (fun _ => true) true Try.f6.params.toList args.toList ds p := hA0
  rw [Try.params6] at hA hval
  obtain ⟨v0, d0, rfl, rfl, h0⟩ := trodAll_one hA
  obtain ⟨rfl, rfl⟩ := trodVars_none hV
  have h0k := h0
  obtain ⟨a0, len, cap, rfl⟩ := okWide_slice Try.underlying44 (hval 0 44 v0 rfl rfl)
  obtain ⟨fuel, hf⟩ := h0
  clear hA0 hval0 hA
  simp only [List.append_nil] at hW' hfz
  have hlt : ∀ x ∈ p, x.block < W.heap.size := fun x hx => by simpa using hW'.lt x hx
  obtain ⟨hr, hc, _⟩ := open_code hf
  refine (fnPoolMoveAll_any a0 len cap W hr hc).mono fun e W' ⟨he, hb⟩ => ?_
  subst he
  exact ⟨_, rfl, post_law hW' rfl (by kernel_rfl) Try.underlying4 rfl rfl rfl (trodAll_mk1 (Below.trod Try.laidOut (by kernel_rfl) (of_decide_eq_true (by kernel_rfl)) h0k hb hlt)) hb⟩

theorem fnPoolMoveAll_holds : Rows.FnPoolMoveAllSaid :=
  OpenClaim.holds_of_wide 6 Try.f6 rfl rfl rfl rfl rfl rfl rfl ⟨rfl, rfl, rfl, rfl, rfl⟩ rfl rfl rfl rfl rfl (by kernel_rfl) Try.func6 (by kernel_rfl)
    (of_decide_eq_true (by kernel_rfl)) (by unfold Func.isWrapper; rw [if_neg (by decide +kernel)]; exact ⟨rfl, rfl⟩)
    (fun os started H enc _ => fnPoolMoveAll_lifted os started H enc)
end Go.Proofs.Ytakeijgoonagcaa
