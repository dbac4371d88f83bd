/- Contracts of functions and plain lemmas, joined. No condition but those that each states. -/
import Derived.Deep.RegionHeld3
import Derived.Deep.DeepCutAuto
import Derived.Test.YtakeijgoonagcaaZC
import Derived.Test.YtakeijgoonagcaaZB
import Derived.Test.YtakeijgoonagcaaZA

/- Rows of cases beside a row of names. -/
namespace Go.Proofs.Ytakeijgoonagcaa
open Go.RowKit

theorem SStr.kept1 {w w' : World} {base n : Nat} {A : Option Addr} {xs : List Str} (h : SStr w base A n xs) (hk : ∀ b, A = some ⟨b, 0, none⟩ → 0 < n → b < w.heap.size → w'.heap[b]? = w.heap[b]?) : SStr w' base A n xs :=
  ⟨h.1, fun hn => by
    obtain ⟨b, cs, e, h1, h2, h3⟩ := h.2 hn
    exact ⟨b, cs, e, h1, (hk b e hn (heap_lt h2)).trans h2, h3⟩⟩
theorem SStr.lt {w : World} {base n b : Nat} {A : Option Addr} {xs : List Str} (h : SStr w base A n xs) (hn : 0 < n) (e : A = some ⟨b, 0, none⟩) : base ≤ b ∧ b < w.heap.size := by
  obtain ⟨b', cs, e', h1, h2, _⟩ := h.2 hn
  rw [e] at e'
  injection e' with e'; injection e' with e'
  subst e'
  exact ⟨h1, heap_lt h2⟩
theorem row_blk {w : World} {base : Nat} {e : TypeId} {size : Nat} {v : Value} {n b : Nat} {cs : List Value} (h : w.ownsRow base e size v n cs) (hb : v.ownBlock = some b) : ∃ cur, w.heap[b]? = some (.cells cur e (0, 0)) := by
  rcases h.2 with ⟨rfl, _⟩ | ⟨g, cap, cur, rfl, _, hg, _⟩
  · simp [Value.ownBlock] at hb
  · have e1 : g = b := by simpa [Value.ownBlock] using hb
    subst e1
    exact ⟨cur, hg⟩
theorem row_grown {w w' : World} {base : Nat} {e : TypeId} {size : Nat} {v : Value} {n : Nat} {cs : List Value} {row : Option Nat} (h : w.ownsRow base e size v n cs) (hg : w.grownBy w' row) (hne : ∀ b, v.ownBlock = some b → row ≠ some b) : w'.ownsRow base e size v n cs :=
  h.kept hg (by
    rcases Option.eq_none_or_eq_some v.ownBlock with hn | ⟨k, hk⟩
    · exact .inl hn
    · right; rw [hk]; intro e; exact hne k hk e.symm)

theorem KRow.cap3 {w : World} {base n c : Nat} {A : Option Addr} {cs : List Case} (h : KRow w base (.slice A n c) n cs) : n ≤ c := by
  obtain ⟨ps, _, h1, _⟩ := h
  rcases h1.2 with ⟨hv, h0⟩ | ⟨g, cap, cur, hv, _, _, hnc, _⟩
  · injection hv with _ _ e
    omega
  · injection hv with _ _ e
    omega
/-- A row of cases of the call's own; no list of it lies in one block. -/
def KRowV (w : World) (base : Nat) (av : Option Nat) (v : Value) (n : Nat) (ss : List Case) : Prop :=
  ∃ ps : List (Case × Value), ps.map (·.1) = ss ∧ w.ownsRow base 52 3 v n (ps.flatMap ccells) ∧ ∀ p ∈ ps, ∃ A m c, p.2 = .slice A m c ∧ SStr w base A m p.1.done ∧ m ≤ c ∧ ∀ b, A = some ⟨b, 0, none⟩ → 0 < m → av ≠ some b
theorem KRowV.row {w : World} {base n : Nat} {av : Option Nat} {v : Value} {ss : List Case} (h : KRowV w base av v n ss) : KRow w base v n ss := by
  obtain ⟨ps, e, h1, h2⟩ := h
  refine ⟨ps, e, h1, fun p hp => ?_⟩
  obtain ⟨A, m, c, e2, h3, h4, _⟩ := h2 p hp
  exact ⟨A, m, c, e2, h3, h4⟩
theorem KRowV.nil {w : World} {base : Nat} {av : Option Nat} : KRowV w base av (.slice none 0 0) 0 [] := ⟨[], rfl, ⟨rfl, .inl ⟨rfl, rfl⟩⟩, fun p hp => by cases hp⟩
theorem KRowV.made {w : World} {base b : Nat} {av : Option Nat} (hb : base ≤ w.heap.size) (e : b = w.heap.size) : KRowV (w.alloc (.cells #[] 52)) base av (.slice (some ⟨b, 0, none⟩) 0 0) 0 [] := by
  subst e
  exact ⟨[], rfl, World.ownsRow_made w #[] 0 hb (Nat.zero_le _) rfl, fun p hp => by cases hp⟩
theorem KRowV.below {w w' : World} {base n : Nat} {av : Option Nat} {v : Value} {ss : List Case} (h : KRowV w base av v n ss) (hb : Below w.heap.size w w') : KRowV w' base av v n ss := by
  obtain ⟨ps, e, h1, h2⟩ := h
  refine ⟨ps, e, row_below h1 hb, fun p hp => ?_⟩
  obtain ⟨A, m, c, e2, h3, h4, h5⟩ := h2 p hp
  exact ⟨A, m, c, e2, h3.below hb, h4, h5⟩
theorem KRowV.alloc {w : World} {base n : Nat} {av : Option Nat} {v : Value} {ss : List Case} (h : KRowV w base av v n ss) (o : Obj) : KRowV (w.alloc o) base av v n ss := h.below ((Below.refl _ _).alloc (Nat.le_refl _) o)
/-- The one block is another one that was just made. -/
theorem KRowV.fresh {w : World} {base n : Nat} {av : Option Nat} {v : Value} {ss : List Case} (h : KRowV w base av v n ss) : KRowV w base (some w.heap.size) v n ss := by
  obtain ⟨ps, e, h1, h2⟩ := h
  refine ⟨ps, e, h1, fun p hp => ?_⟩
  obtain ⟨A, m, c, e2, h3, h4, _⟩ := h2 p hp
  refine ⟨A, m, c, e2, h3, h4, fun b hb hm he => ?_⟩
  have := (h3.lt hm hb).2
  injection he with he
  omega
/-- The row of names in the one block grows. -/
theorem KRowV.grown {w w' : World} {base n : Nat} {av av' : Option Nat} {v : Value} {ss : List Case} (h : KRowV w base av v n ss) (hg : w.grownBy w' av) (hne : ∀ b, v.ownBlock = some b → av ≠ some b) (ha : av' = av ∨ av' = some w.heap.size) : KRowV w' base av' v n ss := by
  obtain ⟨ps, e, h1, h2⟩ := h
  refine ⟨ps, e, row_grown h1 hg hne, fun p hp => ?_⟩
  obtain ⟨A, m, c, e2, h3, h4, h5⟩ := h2 p hp
  refine ⟨A, m, c, e2, h3.kept1 (fun b hb hm hl => hg.block b hl (Ne.symm (h5 b hb hm))), h4, fun b hb hm he => ?_⟩
  rcases ha with rfl | rfl
  · exact h5 b hb hm he
  · injection he with he
    have := (h3.lt hm hb).2
    omega
/-- 'out = append(out, s)'. -/
theorem wapp_caseV {w : World} {o : Oper} {a : Act} {K : Act → World → Prop} {Q : Exit → Act → World → Prop} (base : Nat) (av : Option Nat) (v : Value) (n : Nat) (ss : List Case) (b : Nat) (s : Case) (A : Option Addr) (m c : Nat) (hown : KRowV w base av v n ss) (hs0 : SStr w base A m s.done) (hmc : m ≤ c) (hav : ∀ b, A = some ⟨b, 0, none⟩ → 0 < m → av ≠ some b)
    (l x : Operand) (ho : o.op = .call { callee := .builtin .append, args := #[l, x], argTypes := #[28, 28] })
    (hs : a.eval l = v) (hx : a.eval x = .slice (some ⟨b, 0, none⟩) 1 1) (hb : w.heap[b]? = some (.cells #[.string s.name, .int .i64 s.st, .slice A m c] 52 (0, 0))) (hn : n ≤ 1048576) (hbase : base ≤ w.heap.size)
    (h : ∀ v' w', KRowV w' base av v' (n + 1) (ss ++ [s]) → w.grownBy w' v.ownBlock → (v'.ownBlock = v.ownBlock ∨ v'.ownBlock = some w.heap.size) → K (a.put o.dst v') w') : o.wp Try.prog a w K Q := by
  have hN : ∀ (b : Nat) (cs : Array Value), w.heap[b]? = some (Obj.cells cs 9 (0, 0)) → v.ownBlock ≠ some b := fun b cs hc => hown.row.ne hc (by decide)
  obtain ⟨ps, rfl, h1, h2⟩ := hown
  refine wapp 28 52 3 48 _ Try.underlying28 info_case rfl (by omega) (by omega) base v n _ (ccells (s, .slice A m c)) b h1 l x ho hs hx hb rfl ?_ hn hbase ?_
  · intro u hu; simp [ccells] at hu; rcases hu with rfl | rfl | rfl <;> rfl
  · intro v' w' h3 h4 h5
    have hk : ∀ b cs, base ≤ b → w.heap[b]? = some (.cells cs 9 (0, 0)) → w'.heap[b]? = w.heap[b]? := fun b cs _ hc => h4.block b (heap_lt hc) (Ne.symm (hN b cs hc))
    refine h v' w' ⟨ps ++ [(s, .slice A m c)], by simp, by rw [List.flatMap_append]; simpa using h3, fun p hp => ?_⟩ h4 h5
    rcases List.mem_append.1 hp with hp | hp
    · obtain ⟨A', m', c', e, h6, h7, h8⟩ := h2 p hp
      exact ⟨A', m', c', e, h6.kept hk, h7, h8⟩
    · rw [List.mem_singleton] at hp
      subst hp
      exact ⟨A, m, c, rfl, hs0.kept hk, hmc, hav⟩
theorem app_caseV {w : World} {ops : Array Oper} {rest : List Oper} {o : Oper} {a : Act} {Q : Exit → Act → World → Prop} (base : Nat) (av : Option Nat) (v : Value) (n : Nat) (ss : List Case) (b : Nat) (s : Case) (A : Option Addr) (m c : Nat) (hown : KRowV w base av v n ss) (hs0 : SStr w base A m s.done) (hmc : m ≤ c) (hav : ∀ b, A = some ⟨b, 0, none⟩ → 0 < m → av ≠ some b)
    (hgd : o.guard = none) (l x : Operand) (ho : o.op = .call { callee := .builtin .append, args := #[l, x], argTypes := #[28, 28] })
    (hs : a.eval l = v) (hx : a.eval x = .slice (some ⟨b, 0, none⟩) 1 1) (hb : w.heap[b]? = some (.cells #[.string s.name, .int .i64 s.st, .slice A m c] 52 (0, 0))) (hn : n ≤ 1048576) (hbase : base ≤ w.heap.size)
    (h : ∀ v' w', KRowV w' base av v' (n + 1) (ss ++ [s]) → w.grownBy w' v.ownBlock → (v'.ownBlock = v.ownBlock ∨ v'.ownBlock = some w.heap.size) → wpList Try.prog ops Q rest (a.put o.dst v') w') : wpList Try.prog ops Q (o :: rest) a w :=
  wpList_plain hgd fun _ hK => wapp_caseV base av v n ss b s A m c hown hs0 hmc hav l x ho hs hx hb hn hbase fun v' w' h1 h2 h3 => hK _ _ (h v' w' h1 h2 h3)
theorem case_stepV {w : World} {ops : Array Oper} {o : Oper} {a : Act} {K : Act → World → Prop} {Q : Exit → Act → World → Prop} {E : Prop} (base : Nat) (av : Option Nat) (v : Value) (n : Nat) (ss : List Case) (b : Nat) (s : Case) (A : Option Addr) (m c : Nat) (hown : KRowV w base av v n ss) (hs0 : SStr w base A m s.done) (hmc : m ≤ c) (hav : ∀ b, A = some ⟨b, 0, none⟩ → 0 < m → av ≠ some b)
    (hgd : o.guard = none) (l x : Operand) (ho : o.op = .call { callee := .builtin .append, args := #[l, x], argTypes := #[28, 28] })
    (hs : a.eval l = v) (hx : a.eval x = .slice (some ⟨b, 0, none⟩) 1 1) (hb : w.heap[b]? = some (.cells #[.string s.name, .int .i64 s.st, .slice A m c] 52 (0, 0))) (hn : n ≤ 1048576) (hbase : base ≤ w.heap.size)
    (h : ∀ v' w', KRowV w' base av v' (n + 1) (ss ++ [s]) → w.grownBy w' v.ownBlock → (v'.ownBlock = v.ownBlock ∨ v'.ownBlock = some w.heap.size) → K (a.put o.dst v') w') :
    if Region.wanted o (yielded ops a.tmps) = true then Oper.wp Try.prog o a w K Q else E := by
  have hw : Region.wanted o (yielded ops a.tmps) = true := by simp [Region.wanted, hgd]
  rw [if_pos hw]
  exact wapp_caseV base av v n ss b s A m c hown hs0 hmc hav l x ho hs hx hb hn hbase h
end Go.Proofs.Ytakeijgoonagcaa

/- Pools: copies of cases and runs, the test of clearing. -/
namespace Go.Proofs.Ytakeijgoonagcaa
open Go.RowKit

theorem set32 {w : World} {b : Nat} {a0 a1 a2 u : Value} {t : TypeId} {fr : Nat × Nat} (h : w.heap[b]? = some (.cells #[a0, a1, a2] t fr)) : (w.setCell ⟨b, 2, none⟩ u).heap[b]? = some (.cells #[a0, a1, u] t fr) := set_at h

set_option maxRecDepth 100000 in
theorem l32Case_any (A : Option Addr) (n c : Nat) (s : Case) (lo : Nat) (w : World) (hr : RStr w lo A n s.done) (hn : n ≤ 1048576) :
    Calls Try.prog 92 #[.agg #[.string s.name, .int .i64 s.st, .slice A n c]] w fun e w' => ∃ A' c', e = .returned (.agg #[.string s.name, .int .i64 s.st, .slice A' n c']) ∧ SStr w' w.heap.size A' n s.done ∧ n ≤ c' ∧ Below w.heap.size w w' := by
  have HX := Lib.hid (heap_old (o := .cells #[.string ⟨#[]⟩, .int .i64 0, .slice none 0 0] 52) (heap_new (w := w) (o := .cells #[.string s.name, .int .i64 s.st, .slice A n c] 52) rfl))
  have HZ := Lib.hid (heap_new (w := w.alloc (.cells #[.string s.name, .int .i64 s.st, .slice A n c] 52)) (b := w.heap.size + 1) (o := .cells #[.string ⟨#[]⟩, .int .i64 0, .slice none 0 0] 52) (by simp))
  have HB := Lib.hid (((Below.refl w.heap.size w).alloc (Nat.le_refl _) (.cells #[.string s.name, .int .i64 s.st, .slice A n c] 52)).alloc (by simp) (.cells #[.string ⟨#[]⟩, .int .i64 0, .slice none 0 0] 52))
  have HR := Lib.hid (((hr.alloc (.cells #[.string s.name, .int .i64 s.st, .slice A n c] 52)).alloc (.cells #[.string ⟨#[]⟩, .int .i64 0, .slice none 0 0] 52)).alloc (.cells #[] 9)); clear hr
  have HN := Lib.hid (own_new (w0 := w) (b := w.heap.size + 1 + 1) HB.out (by simp))
  have HXA := Lib.hid (heap_old (o := .cells #[] 9) HX.out)
  have HZA := Lib.hid (heap_old (o := .cells #[] 9) HZ.out)
  have x2 := (blk_cl (k := 2) HXA.out rfl).1
  go_enter Try.func92, Try.ntmps92
  go_wp2_with (at_builtin; refine apps_str w _ 0 [] _ A n c s.done HN.out HR.out rfl (.tmp 3) (.tmp 6) rfl rfl rfl (by omega) ?_)
  intro v3 w3 how3 hg3
  have HX3 := Lib.hid (grown_blk hg3 HXA.out (by simp [Value.ownBlock]; omega))
  have HZ3 := Lib.hid (grown_blk hg3 HZA.out (by simp [Value.ownBlock]))
  obtain ⟨A3, c3, rfl, _⟩ := own_str how3.row
  have HO3 := Lib.hid how3; clear how3 hg3
  have hc3 := own_capN HO3.out.row
  have a2 := (blk_cl (k := 2) HX3.out rfl).1
  have a2' := (blk_cl (k := 2) HX3.out rfl).2
  have HX4 := Lib.hid (set32 (u := .slice A3 n c3) HX3.out)
  have HZ4 := Lib.hid (set_ne (b := w.heap.size) (o := 2) (u := .slice A3 n c3) HZ3.out (by omega))
  have y0 := (blk_cl (k := 0) HX4.out rfl).1
  have y1 := (blk_cl (k := 1) HX4.out rfl).1
  have y2 := (blk_cl (k := 2) HX4.out rfl).1
  have z0 := (blk_cl (k := 0) HZ4.out rfl).1
  have z0' := (blk_cl (k := 0) HZ4.out rfl).2
  have z1 := (blk_cl (k := 1) HZ4.out rfl).1
  have z1' := (blk_cl (k := 1) HZ4.out rfl).2
  have z2 := (blk_cl (k := 2) HZ4.out rfl).1
  have z2' := (blk_cl (k := 2) HZ4.out rfl).2
  clear x2
  go_wp2_with fail
  have hres := set3 (u0 := .string s.name) (u1 := .int .i64 s.st) (u2 := .slice A3 n c3) HZ4.out
  have p0 := (blk_cl (k := 0) hres rfl).1
  have p1 := (blk_cl (k := 1) hres rfl).1
  have p2 := (blk_cl (k := 2) hres rfl).1
  have q1 : w.heap.size ≤ w.heap.size + 1 := by omega
  have hrow := row_set (o := 2) (u := .slice A3 n c3) HO3.out.row HX3.out (by decide)
  have h1 := set_at (o := 0) (u := .string s.name) HZ4.out
  have h2 := set_at (o := 1) (u := .int .i64 s.st) h1
  have hrow2 := row_set (o := 2) (u := .slice A3 n c3) (row_set (o := 1) (u := .int .i64 s.st) (row_set (o := 0) (u := .string s.name) hrow HZ4.out (by decide)) h1 (by decide)) h2 (by decide)
  obtain ⟨_, _, e9, hss⟩ := own_sstr hrow2
  injection e9 with e8 _ _
  subst e8
  exact bodyPost_ret (v := .agg #[.string s.name, .int .i64 s.st, .slice A3 n c3]) (by simp [results, Try.results92, go_sem, p0, p1, p2]) rfl
    ⟨_, _, rfl, hss, hc3, (((HO3.out.below.setCell (p := ⟨w.heap.size, 2, none⟩) (Nat.le_refl _) _).setCell (p := ⟨w.heap.size + 1, 0, none⟩) q1 _).setCell (p := ⟨w.heap.size + 1, 1, none⟩) q1 _).setCell (p := ⟨w.heap.size + 1, 2, none⟩) q1 _⟩

set_option maxRecDepth 100000 in
theorem cloneRun_any (A : Option Addr) (n c : Nat) (st : Int) (xs : List Str) (lo : Nat) (w : World) (hr : RStr w lo A n xs) (hn : n ≤ 1048576) :
    Calls Try.prog 129 #[.agg #[.int .i64 st, .slice A n c]] w fun e w' => ∃ A' c', e = .returned (.agg #[.int .i64 st, .slice A' n c']) ∧ SStr w' w.heap.size A' n xs ∧ n ≤ c' ∧ Below w.heap.size w w' := by
  have HX := Lib.hid (heap_old (o := .cells #[.int .i64 0, .slice none 0 0] 48) (heap_new (w := w) (o := .cells #[.int .i64 st, .slice A n c] 48) rfl))
  have HZ := Lib.hid (heap_new (w := w.alloc (.cells #[.int .i64 st, .slice A n c] 48)) (b := w.heap.size + 1) (o := .cells #[.int .i64 0, .slice none 0 0] 48) (by simp))
  have HB := Lib.hid (((Below.refl w.heap.size w).alloc (Nat.le_refl _) (.cells #[.int .i64 st, .slice A n c] 48)).alloc (by simp) (.cells #[.int .i64 0, .slice none 0 0] 48))
  have HR := Lib.hid ((hr.alloc (.cells #[.int .i64 st, .slice A n c] 48)).alloc (.cells #[.int .i64 0, .slice none 0 0] 48)); clear hr
  go_enter Try.func129, Try.ntmps129
  go_wp2_with fail
  refine (cloneNames_any _ _ _ xs _ _ HR.out hn).mono ?_
  rintro e w3 ⟨v3, rfl, how3⟩
  have hs0 : ((w.alloc (.cells #[.int .i64 st, .slice A n c] 48)).alloc (.cells #[.int .i64 0, .slice none 0 0] 48)).heap.size = w.heap.size + 1 + 1 := by simp
  have hb3 := how3.below
  have HX3 := Lib.hid ((hb3.block _ (heap_lt HX.out)).trans HX.out)
  have HZ3 := Lib.hid ((hb3.block _ (heap_lt HZ.out)).trans HZ.out)
  have HB3 := Lib.hid (HB.out.trans (hb3.mono HB.out.size))
  obtain ⟨A3, c3, rfl, _⟩ := own_str how3.row
  have HROW := Lib.hid how3.row
  have hc3 := own_capN HROW.out
  clear how3 hb3
  have a1 := (blk_cl (k := 1) HX3.out rfl).1
  have a1' := (blk_cl (k := 1) HX3.out rfl).2
  have HX4 := Lib.hid (set21 (u := .slice A3 n c3) HX3.out)
  have HZ4 := Lib.hid (set_ne (b := w.heap.size) (o := 1) (u := .slice A3 n c3) HZ3.out (by omega))
  have y0 := (blk_cl (k := 0) HX4.out rfl).1
  have y1 := (blk_cl (k := 1) HX4.out rfl).1
  have z0 := (blk_cl (k := 0) HZ4.out rfl).1
  have z0' := (blk_cl (k := 0) HZ4.out rfl).2
  have z1 := (blk_cl (k := 1) HZ4.out rfl).1
  have z1' := (blk_cl (k := 1) HZ4.out rfl).2
  go_wp2_with fail
  have hres := set21 (u := .slice A3 n c3) (set20 (u := .int .i64 st) HZ4.out)
  have p0 := (blk_cl (k := 0) hres rfl).1
  have p1 := (blk_cl (k := 1) hres rfl).1
  have q1 : w.heap.size ≤ w.heap.size + 1 := by omega
  have hrow := row_set (o := 1) (u := .slice A3 n c3) HROW.out HX3.out (by decide)
  have hrow2 := row_set (o := 1) (u := .slice A3 n c3) (row_set (o := 0) (u := .int .i64 st) hrow HZ4.out (by decide)) (set20 HZ4.out) (by decide)
  obtain ⟨_, _, e9, hss⟩ := own_sstr hrow2
  injection e9 with e8 _ _
  subst e8
  rw [hs0] at hss
  exact bodyPost_ret (v := .agg #[.int .i64 st, .slice A3 n c3]) (by simp [results, Try.results129, go_sem, p0, p1]) rfl
    ⟨_, _, rfl, hss.mono (by omega), hc3, ((HB3.out.setCell (p := ⟨w.heap.size, 1, none⟩) (Nat.le_refl _) _).setCell (p := ⟨w.heap.size + 1, 0, none⟩) q1 _).setCell (p := ⟨w.heap.size + 1, 1, none⟩) q1 _⟩

end Go.Proofs.Ytakeijgoonagcaa

/- Pools: clearing, the program's side. -/
namespace Go.Proofs.Ytakeijgoonagcaa
open Go.RowKit

def clL (f : Flow) (cs : List Case) : List Case := if poolB f cs = true then stayL cs else []
def gnL (f : Flow) (cs : List Case) : List Str := if poolB f cs = true then goneL cs else []
theorem clL_yes {f : Flow} {cs : List Case} (h : poolB f cs = true) : clL f cs = stayL cs := by unfold clL; rw [if_pos h]
theorem clL_no {f : Flow} {cs : List Case} (h : poolB f cs = false) : clL f cs = [] := by unfold clL; rw [if_neg (by rw [h]; simp)]
theorem gnL_yes {f : Flow} {cs : List Case} (h : poolB f cs = true) : gnL f cs = goneL cs := by unfold gnL; rw [if_pos h]
theorem gnL_no {f : Flow} {cs : List Case} (h : poolB f cs = false) : gnL f cs = [] := by unfold gnL; rw [if_neg (by rw [h]; simp)]
theorem stay_yes {cs : List Case} {k : Nat} (hk : k < cs.length) (h : goesB (nth cs k) = true) : stayL (cs.take (k + 1)) = stayL (cs.take k) ++ [nth cs k] := by
  unfold stayL; rw [take_nth hk, List.filter_append]; simp [h]
theorem stay_no {cs : List Case} {k : Nat} (hk : k < cs.length) (h : goesB (nth cs k) = false) : stayL (cs.take (k + 1)) = stayL (cs.take k) := by
  unfold stayL; rw [take_nth hk, List.filter_append]; simp [h]
theorem gone_no {cs : List Case} {k : Nat} (hk : k < cs.length) (h : goesB (nth cs k) = true) : goneL (cs.take (k + 1)) = goneL (cs.take k) := by
  unfold goneL; rw [take_nth hk, List.filter_append]; simp [h]
theorem gone_yes {cs : List Case} {k : Nat} (hk : k < cs.length) (h : goesB (nth cs k) = false) : goneL (cs.take (k + 1)) = goneL (cs.take k) ++ [(nth cs k).name] := by
  unfold goneL; rw [take_nth hk, List.filter_append]; simp [h]
theorem stay_le (cs : List Case) : (stayL cs).length ≤ cs.length := List.length_filter_le _ _
theorem gone_le (cs : List Case) : (goneL cs).length ≤ cs.length := by unfold goneL; rw [List.length_map]; exact List.length_filter_le _ _
theorem okCases_stay {f : Flow} {cs : List Case} (h : okCases cs) : okCases (clL f cs) := by
  unfold clL
  split
  · exact okCases_sub h (Nat.le_trans (stay_le cs) h.1) (fun c hc => (List.mem_filter.1 hc).1)
  · exact okCases_nil

/-- The head of split's loop. -/
structure SplI (w wr : World) (k : Nat) (v1 v2 : Value) (n1 n2 : Nat) (cs : List Case) : Prop where
  row : KRowV wr w.heap.size v2.ownBlock v1 n1 (stayL (cs.take k))
  nms : wr.ownsRow w.heap.size 9 1 v2 n2 ((goneL (cs.take k)).map Value.string)
  below : Below w.heap.size w wr

end Go.Proofs.Ytakeijgoonagcaa

/- Pools: clearing, the reference's side. -/
namespace Go.Proofs.Ytakeijgoonagcaa
open Go.RowKit

end Go.Proofs.Ytakeijgoonagcaa

/- Comparing pools. -/
namespace Go.Proofs.Ytakeijgoonagcaa
open Go.RowKit

theorem eqB_same (xs : List Str) : eqB xs xs = true := eqB_all rfl fun _ _ => rfl

set_option maxRecDepth 100000 in
theorem sameRun_same (A B : Option Addr) (n c d : Nat) (st : Int) (xs : List Str) (lo lo' : Nat) (w : World) (hr : RStr w lo A n xs) (hn : n ≤ 1048576) (hr' : RStr w lo' B n xs) :
    Calls Try.prog 34 #[.agg #[.int .i64 st, .slice A n c], .agg #[.int .i64 st, .slice B n d]] w fun e w' => e = .returned (.bool true) ∧ Below w.heap.size w w' := by
  have HR := Lib.hid ((hr.alloc (.cells #[.int .i64 st, .slice A n c] 48)).alloc (.cells #[.int .i64 st, .slice B n d] 48)); clear hr
  have HS := Lib.hid ((hr'.alloc (.cells #[.int .i64 st, .slice A n c] 48)).alloc (.cells #[.int .i64 st, .slice B n d] 48)); clear hr'
  have HB := Lib.hid (((Below.refl w.heap.size w).alloc (Nat.le_refl _) (.cells #[.int .i64 st, .slice A n c] 48)).alloc (by simp) (.cells #[.int .i64 st, .slice B n d] 48))
  have HX := Lib.hid (heap_old (o := .cells #[.int .i64 st, .slice B n d] 48) (heap_new (w := w) (o := .cells #[.int .i64 st, .slice A n c] 48) rfl))
  have HY := Lib.hid (heap_new (w := w.alloc (.cells #[.int .i64 st, .slice A n c] 48)) (b := w.heap.size + 1) (o := .cells #[.int .i64 st, .slice B n d] 48) (by simp))
  have x0 := (blk_cl (k := 0) HX.out rfl).1
  have x1 := (blk_cl (k := 1) HX.out rfl).1
  have y0 := (blk_cl (k := 0) HY.out rfl).1
  have y1 := (blk_cl (k := 1) HY.out rfl).1
  have hq : (st == st) = true := beq_self_eq_true st
  go_enter Try.func34, Try.ntmps34
  go_wp2_with (go_at_call 29; refine (sameTexts_any _ _ _ _ _ _ xs xs _ _ _ HR.out hn HS.out hn).mono ?_; rintro e w' ⟨rfl, q, rfl⟩; rw [eqB_same])
  go_ret
  exact ⟨rfl, below_drewN HB.out _⟩

set_option maxRecDepth 100000 in
theorem sameCase_same (A B : Option Addr) (n c d : Nat) (s : Case) (lo lo' : Nat) (w : World) (hr : RStr w lo A n s.done) (hn : n ≤ 1048576) (hr' : RStr w lo' B n s.done) :
    Calls Try.prog 36 #[.agg #[.string s.name, .int .i64 s.st, .slice A n c], .agg #[.string s.name, .int .i64 s.st, .slice B n d]] w fun e w' => e = .returned (.bool true) ∧ Below w.heap.size w w' := by
  have HR := Lib.hid ((hr.alloc (.cells #[.string s.name, .int .i64 s.st, .slice A n c] 52)).alloc (.cells #[.string s.name, .int .i64 s.st, .slice B n d] 52)); clear hr
  have HS := Lib.hid ((hr'.alloc (.cells #[.string s.name, .int .i64 s.st, .slice A n c] 52)).alloc (.cells #[.string s.name, .int .i64 s.st, .slice B n d] 52)); clear hr'
  have HB := Lib.hid (((Below.refl w.heap.size w).alloc (Nat.le_refl _) (.cells #[.string s.name, .int .i64 s.st, .slice A n c] 52)).alloc (by simp) (.cells #[.string s.name, .int .i64 s.st, .slice B n d] 52))
  have HX := Lib.hid (heap_old (o := .cells #[.string s.name, .int .i64 s.st, .slice B n d] 52) (heap_new (w := w) (o := .cells #[.string s.name, .int .i64 s.st, .slice A n c] 52) rfl))
  have HY := Lib.hid (heap_new (w := w.alloc (.cells #[.string s.name, .int .i64 s.st, .slice A n c] 52)) (b := w.heap.size + 1) (o := .cells #[.string s.name, .int .i64 s.st, .slice B n d] 52) (by simp))
  have x0 := (blk_cl (k := 0) HX.out rfl).1
  have x1 := (blk_cl (k := 1) HX.out rfl).1
  have x2 := (blk_cl (k := 2) HX.out rfl).1
  have y0 := (blk_cl (k := 0) HY.out rfl).1
  have y1 := (blk_cl (k := 1) HY.out rfl).1
  have y2 := (blk_cl (k := 2) HY.out rfl).1
  have hq : (s.name.toList == s.name.toList) = true := beq_self_eq_true _
  go_enter Try.func36, Try.ntmps36
  go_wp2_with (go_at_call 34; refine (sameRun_same _ _ _ _ _ s.st s.done _ _ _ HR.out hn HS.out).mono ?_; rintro e w' ⟨rfl, hb⟩)
  go_ret
  exact ⟨rfl, HB.out.trans (hb.mono HB.out.size)⟩

set_option maxRecDepth 100000 in
theorem samePool_same (A B : Option Addr) (n c d : Nat) (cs : List Case) (lo lo' : Nat) (w : World) (hr : RCase w lo A n cs) (hok : okCases cs) (hr' : RCase w lo' B n cs) :
    Calls Try.prog 30 #[.slice A n c, .slice B n d] w fun e w' => e = .returned (.bool true) ∧ Below w.heap.size w w' := by
  have HL := Lib.hid hr.1
  have hn : n ≤ 1048576 := by have := hok.1; rw [hr.1] at this; exact this
  have HX := Lib.hid hr; clear hr
  have HY := Lib.hid hr'; clear hr'
  have HO := Lib.hid hok; clear hok
  go_enter Try.func30, Try.ntmps30
  go_wp2
  go_loopw [5] (fun i wr => ∃ k : Nat, k ≤ n ∧ i = .int .i64 k ∧ Below w.heap.size w wr) (fun i _ => n - (intOf i).toNat)
  case atStart => exact ⟨0, Nat.zero_le _, rfl, Below.refl _ _⟩
  case round =>
    obtain ⟨wo, rfl⟩ : ∃ wo : World, wo = wr := ⟨_, rfl⟩
    obtain ⟨k, hk, rfl, hb⟩ := hrel
    have HB := Lib.hid hb; clear hb
    by_cases hlt : k < n
    · obtain ⟨b, off, rfl, ⟨_, hbl⟩, hc⟩ := RCase.at_ (HX.out.below HB.out) hlt
      obtain ⟨A', n', c', ⟨d1, d2, d3⟩, hdr, _⟩ := hc k hlt
      clear hc
      obtain ⟨b2, off2, rfl, ⟨_, hbl2⟩, hc⟩ := RCase.at_ (HY.out.below HB.out) hlt
      obtain ⟨A2, n2, c2, ⟨f1, f2, f3⟩, hdr2, _⟩ := hc k hlt
      clear hc
      obtain rfl : n2 = n' := by rw [← hdr.1, ← hdr2.1]
      have hn' : n2 ≤ 1048576 := by rw [← hdr.1]; exact (HO.out.2 k (by rw [HL.out]; exact hlt)).2
      have HCALL := Lib.hid (fun x : Bl wo => sameCase_same A' A2 n2 c' c2 (nth cs k) _ _ x.wd (hdr.below x.below) hn' (hdr2.below x.below))
      have D1 : ∀ x : Bl wo, x.wd.cell? ⟨b, off + k * 3, none⟩ = some (.string (nth cs k).name) := fun x => (x.below.cell (p := ⟨b, off + k * 3, none⟩) hbl).trans d1
      have D2 : ∀ x : Bl wo, x.wd.cell? ⟨b, off + k * 3 + 1, none⟩ = some (.int .i64 (nth cs k).st) := fun x => (x.below.cell (p := ⟨b, off + k * 3 + 1, none⟩) hbl).trans d2
      have D3 : ∀ x : Bl wo, x.wd.cell? ⟨b, off + k * 3 + 2, none⟩ = some (.slice A' n2 c') := fun x => (x.below.cell (p := ⟨b, off + k * 3 + 2, none⟩) hbl).trans d3
      have F1 : ∀ x : Bl wo, x.wd.cell? ⟨b2, off2 + k * 3, none⟩ = some (.string (nth cs k).name) := fun x => (x.below.cell (p := ⟨b2, off2 + k * 3, none⟩) hbl2).trans f1
      have F2 : ∀ x : Bl wo, x.wd.cell? ⟨b2, off2 + k * 3 + 1, none⟩ = some (.int .i64 (nth cs k).st) := fun x => (x.below.cell (p := ⟨b2, off2 + k * 3 + 1, none⟩) hbl2).trans f2
      have F3 : ∀ x : Bl wo, x.wd.cell? ⟨b2, off2 + k * 3 + 2, none⟩ = some (.slice A2 n2 c2) := fun x => (x.below.cell (p := ⟨b2, off2 + k * 3 + 2, none⟩) hbl2).trans f3
      clear d1 d2 d3 f1 f2 f3 hdr hdr2
      go_wp2_with fail
      refine region_bl (by kernel_rfl) (by kernel_rfl) ?_
      repeat (go_big_quiet_step ((go_at_call 36; exact q_bl (HCALL.out _))))
      refine wpQuiet_nil ?_
      intro _ hw'
      obtain ⟨x, rfl⟩ := hw'
      have HB2 := Lib.hid (HB.out.trans (x.below.mono HB.out.size))
      go_wp2_with fail
      go_roundw
      case rel => exact ⟨k + 1, by omega, by go_num, HB2.out⟩
      case measure => simp [intOf]; omega
    · go_wp2_with fail
      go_ret
      exact ⟨rfl, HB.out⟩
end Go.Proofs.Ytakeijgoonagcaa
