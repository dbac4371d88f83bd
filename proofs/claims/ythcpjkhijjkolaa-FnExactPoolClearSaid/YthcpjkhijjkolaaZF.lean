/- Contracts of functions and plain lemmas, joined. No condition but those that each states. -/
import Derived.Deep.RegionHeld3
import Derived.Deep.DeepCutAuto
import Derived.Test.YthcpjkhijjkolaaZC
import Derived.Test.YthcpjkhijjkolaaZB
import Derived.Test.YthcpjkhijjkolaaZA

/- Rows of cases beside a row of names. -/
namespace Go.Proofs.Ythcpjkhijjkolaa
open Go.RowKit

theorem SStr.kept1 {w w' : World} {base n : Nat} {A : Option Addr} {xs : List Str} (h : SStr w base A n xs) (hk : ∀ b, A = some ⟨b, 0, none⟩ → 0 < n → b < w.heap.size → w'.heap[b]? = w.heap[b]?) : SStr w' base A n xs :=
  ⟨h.1, fun hn => by
    obtain ⟨b, cs, e, h1, h2, h3⟩ := h.2 hn
    exact ⟨b, cs, e, h1, (hk b e hn (heap_lt h2)).trans h2, h3⟩⟩
theorem SStr.lt {w : World} {base n b : Nat} {A : Option Addr} {xs : List Str} (h : SStr w base A n xs) (hn : 0 < n) (e : A = some ⟨b, 0, none⟩) : base ≤ b ∧ b < w.heap.size := by
  obtain ⟨b', cs, e', h1, h2, _⟩ := h.2 hn
  rw [e] at e'
  injection e' with e'; injection e' with e'
  subst e'
  exact ⟨h1, heap_lt h2⟩
theorem row_blk {w : World} {base : Nat} {e : TypeId} {size : Nat} {v : Value} {n b : Nat} {cs : List Value} (h : w.ownsRow base e size v n cs) (hb : v.ownBlock = some b) : ∃ cur, w.heap[b]? = some (.cells cur e (0, 0)) := by
  rcases h.2 with ⟨rfl, _⟩ | ⟨g, cap, cur, rfl, _, hg, _⟩
  · simp [Value.ownBlock] at hb
  · have e1 : g = b := by simpa [Value.ownBlock] using hb
    subst e1
    exact ⟨cur, hg⟩
theorem row_grown {w w' : World} {base : Nat} {e : TypeId} {size : Nat} {v : Value} {n : Nat} {cs : List Value} {row : Option Nat} (h : w.ownsRow base e size v n cs) (hg : w.grownBy w' row) (hne : ∀ b, v.ownBlock = some b → row ≠ some b) : w'.ownsRow base e size v n cs :=
  h.kept hg (by
    rcases Option.eq_none_or_eq_some v.ownBlock with hn | ⟨k, hk⟩
    · exact .inl hn
    · right; rw [hk]; intro e; exact hne k hk e.symm)

theorem KRow.cap3 {w : World} {base n c : Nat} {A : Option Addr} {cs : List Case} (h : KRow w base (.slice A n c) n cs) : n ≤ c := by
  obtain ⟨ps, _, h1, _⟩ := h
  rcases h1.2 with ⟨hv, h0⟩ | ⟨g, cap, cur, hv, _, _, hnc, _⟩
  · injection hv with _ _ e
    omega
  · injection hv with _ _ e
    omega
/-- A row of cases of the call's own; no list of it lies in one block. -/
def KRowV (w : World) (base : Nat) (av : Option Nat) (v : Value) (n : Nat) (ss : List Case) : Prop :=
  ∃ ps : List (Case × Value), ps.map (·.1) = ss ∧ w.ownsRow base 53 3 v n (ps.flatMap ccells) ∧ ∀ p ∈ ps, ∃ A m c, p.2 = .slice A m c ∧ SStr w base A m p.1.done ∧ m ≤ c ∧ ∀ b, A = some ⟨b, 0, none⟩ → 0 < m → av ≠ some b
theorem KRowV.row {w : World} {base n : Nat} {av : Option Nat} {v : Value} {ss : List Case} (h : KRowV w base av v n ss) : KRow w base v n ss := by
  obtain ⟨ps, e, h1, h2⟩ := h
  refine ⟨ps, e, h1, fun p hp => ?_⟩
  obtain ⟨A, m, c, e2, h3, h4, _⟩ := h2 p hp
  exact ⟨A, m, c, e2, h3, h4⟩
theorem KRowV.nil {w : World} {base : Nat} {av : Option Nat} : KRowV w base av (.slice none 0 0) 0 [] := ⟨[], rfl, ⟨rfl, .inl ⟨rfl, rfl⟩⟩, fun p hp => by cases hp⟩
theorem KRowV.made {w : World} {base b : Nat} {av : Option Nat} (hb : base ≤ w.heap.size) (e : b = w.heap.size) : KRowV (w.alloc (.cells #[] 53)) base av (.slice (some ⟨b, 0, none⟩) 0 0) 0 [] := by
  subst e
  exact ⟨[], rfl, World.ownsRow_made w #[] 0 hb (Nat.zero_le _) rfl, fun p hp => by cases hp⟩
theorem KRowV.below {w w' : World} {base n : Nat} {av : Option Nat} {v : Value} {ss : List Case} (h : KRowV w base av v n ss) (hb : Below w.heap.size w w') : KRowV w' base av v n ss := by
  obtain ⟨ps, e, h1, h2⟩ := h
  refine ⟨ps, e, row_below h1 hb, fun p hp => ?_⟩
  obtain ⟨A, m, c, e2, h3, h4, h5⟩ := h2 p hp
  exact ⟨A, m, c, e2, h3.below hb, h4, h5⟩
theorem KRowV.alloc {w : World} {base n : Nat} {av : Option Nat} {v : Value} {ss : List Case} (h : KRowV w base av v n ss) (o : Obj) : KRowV (w.alloc o) base av v n ss := h.below ((Below.refl _ _).alloc (Nat.le_refl _) o)
/-- The one block is another one that was just made. -/
theorem KRowV.fresh {w : World} {base n : Nat} {av : Option Nat} {v : Value} {ss : List Case} (h : KRowV w base av v n ss) : KRowV w base (some w.heap.size) v n ss := by
  obtain ⟨ps, e, h1, h2⟩ := h
  refine ⟨ps, e, h1, fun p hp => ?_⟩
  obtain ⟨A, m, c, e2, h3, h4, _⟩ := h2 p hp
  refine ⟨A, m, c, e2, h3, h4, fun b hb hm he => ?_⟩
  have := (h3.lt hm hb).2
  injection he with he
  omega
/-- The row of names in the one block grows. -/
theorem KRowV.grown {w w' : World} {base n : Nat} {av av' : Option Nat} {v : Value} {ss : List Case} (h : KRowV w base av v n ss) (hg : w.grownBy w' av) (hne : ∀ b, v.ownBlock = some b → av ≠ some b) (ha : av' = av ∨ av' = some w.heap.size) : KRowV w' base av' v n ss := by
  obtain ⟨ps, e, h1, h2⟩ := h
  refine ⟨ps, e, row_grown h1 hg hne, fun p hp => ?_⟩
  obtain ⟨A, m, c, e2, h3, h4, h5⟩ := h2 p hp
  refine ⟨A, m, c, e2, h3.kept1 (fun b hb hm hl => hg.block b hl (Ne.symm (h5 b hb hm))), h4, fun b hb hm he => ?_⟩
  rcases ha with rfl | rfl
  · exact h5 b hb hm he
  · injection he with he
    have := (h3.lt hm hb).2
    omega
/-- 'out = append(out, s)'. -/
theorem wapp_caseV {w : World} {o : Oper} {a : Act} {K : Act → World → Prop} {Q : Exit → Act → World → Prop} (base : Nat) (av : Option Nat) (v : Value) (n : Nat) (ss : List Case) (b : Nat) (s : Case) (A : Option Addr) (m c : Nat) (hown : KRowV w base av v n ss) (hs0 : SStr w base A m s.done) (hmc : m ≤ c) (hav : ∀ b, A = some ⟨b, 0, none⟩ → 0 < m → av ≠ some b)
    (l x : Operand) (ho : o.op = .call { callee := .builtin .append, args := #[l, x], argTypes := #[47, 47] })
    (hs : a.eval l = v) (hx : a.eval x = .slice (some ⟨b, 0, none⟩) 1 1) (hb : w.heap[b]? = some (.cells #[.string s.name, .int .i64 s.st, .slice A m c] 53 (0, 0))) (hn : n ≤ 1048576) (hbase : base ≤ w.heap.size)
    (h : ∀ v' w', KRowV w' base av v' (n + 1) (ss ++ [s]) → w.grownBy w' v.ownBlock → (v'.ownBlock = v.ownBlock ∨ v'.ownBlock = some w.heap.size) → K (a.put o.dst v') w') : o.wp Try.prog a w K Q := by
  have hN : ∀ (b : Nat) (cs : Array Value), w.heap[b]? = some (Obj.cells cs 9 (0, 0)) → v.ownBlock ≠ some b := fun b cs hc => hown.row.ne hc (by decide)
  obtain ⟨ps, rfl, h1, h2⟩ := hown
  refine wapp 47 53 3 48 _ Try.underlying47 info_case rfl (by omega) (by omega) base v n _ (ccells (s, .slice A m c)) b h1 l x ho hs hx hb rfl ?_ hn hbase ?_
  · intro u hu; simp [ccells] at hu; rcases hu with rfl | rfl | rfl <;> rfl
  · intro v' w' h3 h4 h5
    have hk : ∀ b cs, base ≤ b → w.heap[b]? = some (.cells cs 9 (0, 0)) → w'.heap[b]? = w.heap[b]? := fun b cs _ hc => h4.block b (heap_lt hc) (Ne.symm (hN b cs hc))
    refine h v' w' ⟨ps ++ [(s, .slice A m c)], by simp, by rw [List.flatMap_append]; simpa using h3, fun p hp => ?_⟩ h4 h5
    rcases List.mem_append.1 hp with hp | hp
    · obtain ⟨A', m', c', e, h6, h7, h8⟩ := h2 p hp
      exact ⟨A', m', c', e, h6.kept hk, h7, h8⟩
    · rw [List.mem_singleton] at hp
      subst hp
      exact ⟨A, m, c, rfl, hs0.kept hk, hmc, hav⟩
theorem app_caseV {w : World} {ops : Array Oper} {rest : List Oper} {o : Oper} {a : Act} {Q : Exit → Act → World → Prop} (base : Nat) (av : Option Nat) (v : Value) (n : Nat) (ss : List Case) (b : Nat) (s : Case) (A : Option Addr) (m c : Nat) (hown : KRowV w base av v n ss) (hs0 : SStr w base A m s.done) (hmc : m ≤ c) (hav : ∀ b, A = some ⟨b, 0, none⟩ → 0 < m → av ≠ some b)
    (hgd : o.guard = none) (l x : Operand) (ho : o.op = .call { callee := .builtin .append, args := #[l, x], argTypes := #[47, 47] })
    (hs : a.eval l = v) (hx : a.eval x = .slice (some ⟨b, 0, none⟩) 1 1) (hb : w.heap[b]? = some (.cells #[.string s.name, .int .i64 s.st, .slice A m c] 53 (0, 0))) (hn : n ≤ 1048576) (hbase : base ≤ w.heap.size)
    (h : ∀ v' w', KRowV w' base av v' (n + 1) (ss ++ [s]) → w.grownBy w' v.ownBlock → (v'.ownBlock = v.ownBlock ∨ v'.ownBlock = some w.heap.size) → wpList Try.prog ops Q rest (a.put o.dst v') w') : wpList Try.prog ops Q (o :: rest) a w :=
  wpList_plain hgd fun _ hK => wapp_caseV base av v n ss b s A m c hown hs0 hmc hav l x ho hs hx hb hn hbase fun v' w' h1 h2 h3 => hK _ _ (h v' w' h1 h2 h3)
theorem case_stepV {w : World} {ops : Array Oper} {o : Oper} {a : Act} {K : Act → World → Prop} {Q : Exit → Act → World → Prop} {E : Prop} (base : Nat) (av : Option Nat) (v : Value) (n : Nat) (ss : List Case) (b : Nat) (s : Case) (A : Option Addr) (m c : Nat) (hown : KRowV w base av v n ss) (hs0 : SStr w base A m s.done) (hmc : m ≤ c) (hav : ∀ b, A = some ⟨b, 0, none⟩ → 0 < m → av ≠ some b)
    (hgd : o.guard = none) (l x : Operand) (ho : o.op = .call { callee := .builtin .append, args := #[l, x], argTypes := #[47, 47] })
    (hs : a.eval l = v) (hx : a.eval x = .slice (some ⟨b, 0, none⟩) 1 1) (hb : w.heap[b]? = some (.cells #[.string s.name, .int .i64 s.st, .slice A m c] 53 (0, 0))) (hn : n ≤ 1048576) (hbase : base ≤ w.heap.size)
    (h : ∀ v' w', KRowV w' base av v' (n + 1) (ss ++ [s]) → w.grownBy w' v.ownBlock → (v'.ownBlock = v.ownBlock ∨ v'.ownBlock = some w.heap.size) → K (a.put o.dst v') w') :
    if Region.wanted o (yielded ops a.tmps) = true then Oper.wp Try.prog o a w K Q else E := by
  have hw : Region.wanted o (yielded ops a.tmps) = true := by simp [Region.wanted, hgd]
  rw [if_pos hw]
  exact wapp_caseV base av v n ss b s A m c hown hs0 hmc hav l x ho hs hx hb hn hbase h
end Go.Proofs.Ythcpjkhijjkolaa

/- Pools: copies of cases and runs, the test of clearing. -/
namespace Go.Proofs.Ythcpjkhijjkolaa
open Go.RowKit

theorem set32 {w : World} {b : Nat} {a0 a1 a2 u : Value} {t : TypeId} {fr : Nat × Nat} (h : w.heap[b]? = some (.cells #[a0, a1, a2] t fr)) : (w.setCell ⟨b, 2, none⟩ u).heap[b]? = some (.cells #[a0, a1, u] t fr) := set_at h

set_option maxRecDepth 100000 in
theorem l32Case_any (A : Option Addr) (n c : Nat) (s : Case) (lo : Nat) (w : World) (hr : RStr w lo A n s.done) (hn : n ≤ 1048576) :
    Calls Try.prog 89 #[.agg #[.string s.name, .int .i64 s.st, .slice A n c]] w fun e w' => ∃ A' c', e = .returned (.agg #[.string s.name, .int .i64 s.st, .slice A' n c']) ∧ SStr w' w.heap.size A' n s.done ∧ n ≤ c' ∧ Below w.heap.size w w' := by
  have HX := Lib.hid (heap_old (o := .cells #[.string ⟨#[]⟩, .int .i64 0, .slice none 0 0] 53) (heap_new (w := w) (o := .cells #[.string s.name, .int .i64 s.st, .slice A n c] 53) rfl))
  have HZ := Lib.hid (heap_new (w := w.alloc (.cells #[.string s.name, .int .i64 s.st, .slice A n c] 53)) (b := w.heap.size + 1) (o := .cells #[.string ⟨#[]⟩, .int .i64 0, .slice none 0 0] 53) (by simp))
  have HB := Lib.hid (((Below.refl w.heap.size w).alloc (Nat.le_refl _) (.cells #[.string s.name, .int .i64 s.st, .slice A n c] 53)).alloc (by simp) (.cells #[.string ⟨#[]⟩, .int .i64 0, .slice none 0 0] 53))
  have HR := Lib.hid (((hr.alloc (.cells #[.string s.name, .int .i64 s.st, .slice A n c] 53)).alloc (.cells #[.string ⟨#[]⟩, .int .i64 0, .slice none 0 0] 53)).alloc (.cells #[] 9)); clear hr
  have HN := Lib.hid (own_new (w0 := w) (b := w.heap.size + 1 + 1) HB.out (by simp))
  have HXA := Lib.hid (heap_old (o := .cells #[] 9) HX.out)
  have HZA := Lib.hid (heap_old (o := .cells #[] 9) HZ.out)
  have x2 := (blk_cl (k := 2) HXA.out rfl).1
  go_enter Try.func89, Try.ntmps89
  go_wp2_with (at_builtin; refine apps_str w _ 0 [] _ A n c s.done HN.out HR.out rfl (.tmp 3) (.tmp 6) rfl rfl rfl (by omega) ?_)
  intro v3 w3 how3 hg3
  have HX3 := Lib.hid (grown_blk hg3 HXA.out (by simp [Value.ownBlock]; omega))
  have HZ3 := Lib.hid (grown_blk hg3 HZA.out (by simp [Value.ownBlock]))
  obtain ⟨A3, c3, rfl, _⟩ := own_str how3.row
  have HO3 := Lib.hid how3; clear how3 hg3
  have hc3 := own_capN HO3.out.row
  have a2 := (blk_cl (k := 2) HX3.out rfl).1
  have a2' := (blk_cl (k := 2) HX3.out rfl).2
  have HX4 := Lib.hid (set32 (u := .slice A3 n c3) HX3.out)
  have HZ4 := Lib.hid (set_ne (b := w.heap.size) (o := 2) (u := .slice A3 n c3) HZ3.out (by omega))
  have y0 := (blk_cl (k := 0) HX4.out rfl).1
  have y1 := (blk_cl (k := 1) HX4.out rfl).1
  have y2 := (blk_cl (k := 2) HX4.out rfl).1
  have z0 := (blk_cl (k := 0) HZ4.out rfl).1
  have z0' := (blk_cl (k := 0) HZ4.out rfl).2
  have z1 := (blk_cl (k := 1) HZ4.out rfl).1
  have z1' := (blk_cl (k := 1) HZ4.out rfl).2
  have z2 := (blk_cl (k := 2) HZ4.out rfl).1
  have z2' := (blk_cl (k := 2) HZ4.out rfl).2
  clear x2
  go_wp2_with fail
  have hres := set3 (u0 := .string s.name) (u1 := .int .i64 s.st) (u2 := .slice A3 n c3) HZ4.out
  have p0 := (blk_cl (k := 0) hres rfl).1
  have p1 := (blk_cl (k := 1) hres rfl).1
  have p2 := (blk_cl (k := 2) hres rfl).1
  have q1 : w.heap.size ≤ w.heap.size + 1 := by omega
  have hrow := row_set (o := 2) (u := .slice A3 n c3) HO3.out.row HX3.out (by decide)
  have h1 := set_at (o := 0) (u := .string s.name) HZ4.out
  have h2 := set_at (o := 1) (u := .int .i64 s.st) h1
  have hrow2 := row_set (o := 2) (u := .slice A3 n c3) (row_set (o := 1) (u := .int .i64 s.st) (row_set (o := 0) (u := .string s.name) hrow HZ4.out (by decide)) h1 (by decide)) h2 (by decide)
  obtain ⟨_, _, e9, hss⟩ := own_sstr hrow2
  injection e9 with e8 _ _
  subst e8
  exact bodyPost_ret (v := .agg #[.string s.name, .int .i64 s.st, .slice A3 n c3]) (by simp [results, Try.results89, go_sem, p0, p1, p2]) rfl
    ⟨_, _, rfl, hss, hc3, (((HO3.out.below.setCell (p := ⟨w.heap.size, 2, none⟩) (Nat.le_refl _) _).setCell (p := ⟨w.heap.size + 1, 0, none⟩) q1 _).setCell (p := ⟨w.heap.size + 1, 1, none⟩) q1 _).setCell (p := ⟨w.heap.size + 1, 2, none⟩) q1 _⟩

set_option maxRecDepth 100000 in
theorem cloneRun_any (A : Option Addr) (n c : Nat) (st : Int) (xs : List Str) (lo : Nat) (w : World) (hr : RStr w lo A n xs) (hn : n ≤ 1048576) :
    Calls Try.prog 120 #[.agg #[.int .i64 st, .slice A n c]] w fun e w' => ∃ A' c', e = .returned (.agg #[.int .i64 st, .slice A' n c']) ∧ SStr w' w.heap.size A' n xs ∧ n ≤ c' ∧ Below w.heap.size w w' := by
  have HX := Lib.hid (heap_old (o := .cells #[.int .i64 0, .slice none 0 0] 35) (heap_new (w := w) (o := .cells #[.int .i64 st, .slice A n c] 35) rfl))
  have HZ := Lib.hid (heap_new (w := w.alloc (.cells #[.int .i64 st, .slice A n c] 35)) (b := w.heap.size + 1) (o := .cells #[.int .i64 0, .slice none 0 0] 35) (by simp))
  have HB := Lib.hid (((Below.refl w.heap.size w).alloc (Nat.le_refl _) (.cells #[.int .i64 st, .slice A n c] 35)).alloc (by simp) (.cells #[.int .i64 0, .slice none 0 0] 35))
  have HR := Lib.hid ((hr.alloc (.cells #[.int .i64 st, .slice A n c] 35)).alloc (.cells #[.int .i64 0, .slice none 0 0] 35)); clear hr
  go_enter Try.func120, Try.ntmps120
  go_wp2_with fail
  refine (cloneNames_any _ _ _ xs _ _ HR.out hn).mono ?_
  rintro e w3 ⟨v3, rfl, how3⟩
  have hs0 : ((w.alloc (.cells #[.int .i64 st, .slice A n c] 35)).alloc (.cells #[.int .i64 0, .slice none 0 0] 35)).heap.size = w.heap.size + 1 + 1 := by simp
  have hb3 := how3.below
  have HX3 := Lib.hid ((hb3.block _ (heap_lt HX.out)).trans HX.out)
  have HZ3 := Lib.hid ((hb3.block _ (heap_lt HZ.out)).trans HZ.out)
  have HB3 := Lib.hid (HB.out.trans (hb3.mono HB.out.size))
  obtain ⟨A3, c3, rfl, _⟩ := own_str how3.row
  have HROW := Lib.hid how3.row
  have hc3 := own_capN HROW.out
  clear how3 hb3
  have a1 := (blk_cl (k := 1) HX3.out rfl).1
  have a1' := (blk_cl (k := 1) HX3.out rfl).2
  have HX4 := Lib.hid (set21 (u := .slice A3 n c3) HX3.out)
  have HZ4 := Lib.hid (set_ne (b := w.heap.size) (o := 1) (u := .slice A3 n c3) HZ3.out (by omega))
  have y0 := (blk_cl (k := 0) HX4.out rfl).1
  have y1 := (blk_cl (k := 1) HX4.out rfl).1
  have z0 := (blk_cl (k := 0) HZ4.out rfl).1
  have z0' := (blk_cl (k := 0) HZ4.out rfl).2
  have z1 := (blk_cl (k := 1) HZ4.out rfl).1
  have z1' := (blk_cl (k := 1) HZ4.out rfl).2
  go_wp2_with fail
  have hres := set21 (u := .slice A3 n c3) (set20 (u := .int .i64 st) HZ4.out)
  have p0 := (blk_cl (k := 0) hres rfl).1
  have p1 := (blk_cl (k := 1) hres rfl).1
  have q1 : w.heap.size ≤ w.heap.size + 1 := by omega
  have hrow := row_set (o := 1) (u := .slice A3 n c3) HROW.out HX3.out (by decide)
  have hrow2 := row_set (o := 1) (u := .slice A3 n c3) (row_set (o := 0) (u := .int .i64 st) hrow HZ4.out (by decide)) (set20 HZ4.out) (by decide)
  obtain ⟨_, _, e9, hss⟩ := own_sstr hrow2
  injection e9 with e8 _ _
  subst e8
  rw [hs0] at hss
  exact bodyPost_ret (v := .agg #[.int .i64 st, .slice A3 n c3]) (by simp [results, Try.results120, go_sem, p0, p1]) rfl
    ⟨_, _, rfl, hss.mono (by omega), hc3, ((HB3.out.setCell (p := ⟨w.heap.size, 1, none⟩) (Nat.le_refl _) _).setCell (p := ⟨w.heap.size + 1, 0, none⟩) q1 _).setCell (p := ⟨w.heap.size + 1, 1, none⟩) q1 _⟩

set_option maxRecDepth 100000 in
theorem clear1_any (A : Option Addr) (n c : Nat) (st : Int) (w : World) :
    Calls Try.prog 91 #[.agg #[.int .i64 st, .slice A n c]] w fun e w' => e = .returned (.tuple #[.agg #[.int .i64 st, .slice A n c], .bool (decide (st = 0) || decide (st = 1))]) ∧ Below w.heap.size w w' := by
  by_cases h0 : st = 0
  · subst h0
    go_enter Try.func91, Try.ntmps91
    go_wp2_with fail
    go_region
    all_goals go_wp2_with fail
    all_goals
      have hres := heap_new (w := w.alloc (.cells #[.int .i64 0, .slice A n c] 35)) (b := w.heap.size + 1) (o := .cells #[.int .i64 0, .slice A n c] 35) (by simp)
      have p0 := (blk_cl (k := 0) hres rfl).1
      have p1 := (blk_cl (k := 1) hres rfl).1
      exact bodyPost_ret (v := .tuple #[.agg #[.int .i64 0, .slice A n c], .bool true]) (by simp [results, Try.results91, go_sem, p0, p1]) rfl
        ⟨rfl, (((Below.refl w.heap.size w).alloc (Nat.le_refl _) _).alloc (by simp) _).drew⟩
  have g0 : (st == 0) = false := by rw [beq_eq_false_iff_ne]; exact h0
  by_cases h1 : st = 1
  · subst h1
    go_enter Try.func91, Try.ntmps91
    go_wp2_with fail
    go_region
    all_goals go_wp2_with fail
    all_goals
      have hres := heap_new (w := w.alloc (.cells #[.int .i64 1, .slice A n c] 35)) (b := w.heap.size + 1) (o := .cells #[.int .i64 1, .slice A n c] 35) (by simp)
      have p0 := (blk_cl (k := 0) hres rfl).1
      have p1 := (blk_cl (k := 1) hres rfl).1
      exact bodyPost_ret (v := .tuple #[.agg #[.int .i64 1, .slice A n c], .bool true]) (by simp [results, Try.results91, go_sem, p0, p1]) rfl
        ⟨rfl, (((Below.refl w.heap.size w).alloc (Nat.le_refl _) _).alloc (by simp) _).drew⟩
  have g1 : (st == 1) = false := by rw [beq_eq_false_iff_ne]; exact h1
  go_enter Try.func91, Try.ntmps91
  go_wp2_with fail
  go_region
  all_goals go_wp2_with fail
  all_goals
    have hres := heap_new (w := w.alloc (.cells #[.int .i64 st, .slice A n c] 35)) (b := w.heap.size + 1) (o := .cells #[.int .i64 st, .slice A n c] 35) (by simp)
    have p0 := (blk_cl (k := 0) hres rfl).1
    have p1 := (blk_cl (k := 1) hres rfl).1
    exact bodyPost_ret (v := .tuple #[.agg #[.int .i64 st, .slice A n c], .bool false]) (by simp [results, Try.results91, go_sem, p0, p1]) rfl
      ⟨by rw [decide_eq_false h0, decide_eq_false h1]; rfl, (((Below.refl w.heap.size w).alloc (Nat.le_refl _) _).alloc (by simp) _).drew⟩
end Go.Proofs.Ythcpjkhijjkolaa

/- Pools: clearing, the program's side. -/
namespace Go.Proofs.Ythcpjkhijjkolaa
open Go.RowKit

def clL (f : Flow) (cs : List Case) : List Case := if poolB f cs = true then stayL cs else []
def gnL (f : Flow) (cs : List Case) : List Str := if poolB f cs = true then goneL cs else []
theorem clL_yes {f : Flow} {cs : List Case} (h : poolB f cs = true) : clL f cs = stayL cs := by unfold clL; rw [if_pos h]
theorem clL_no {f : Flow} {cs : List Case} (h : poolB f cs = false) : clL f cs = [] := by unfold clL; rw [if_neg (by rw [h]; simp)]
theorem gnL_yes {f : Flow} {cs : List Case} (h : poolB f cs = true) : gnL f cs = goneL cs := by unfold gnL; rw [if_pos h]
theorem gnL_no {f : Flow} {cs : List Case} (h : poolB f cs = false) : gnL f cs = [] := by unfold gnL; rw [if_neg (by rw [h]; simp)]
theorem stay_yes {cs : List Case} {k : Nat} (hk : k < cs.length) (h : goesB (nth cs k) = true) : stayL (cs.take (k + 1)) = stayL (cs.take k) ++ [nth cs k] := by
  unfold stayL; rw [take_nth hk, List.filter_append]; simp [h]
theorem stay_no {cs : List Case} {k : Nat} (hk : k < cs.length) (h : goesB (nth cs k) = false) : stayL (cs.take (k + 1)) = stayL (cs.take k) := by
  unfold stayL; rw [take_nth hk, List.filter_append]; simp [h]
theorem gone_no {cs : List Case} {k : Nat} (hk : k < cs.length) (h : goesB (nth cs k) = true) : goneL (cs.take (k + 1)) = goneL (cs.take k) := by
  unfold goneL; rw [take_nth hk, List.filter_append]; simp [h]
theorem gone_yes {cs : List Case} {k : Nat} (hk : k < cs.length) (h : goesB (nth cs k) = false) : goneL (cs.take (k + 1)) = goneL (cs.take k) ++ [(nth cs k).name] := by
  unfold goneL; rw [take_nth hk, List.filter_append]; simp [h]
theorem stay_le (cs : List Case) : (stayL cs).length ≤ cs.length := List.length_filter_le _ _
theorem gone_le (cs : List Case) : (goneL cs).length ≤ cs.length := by unfold goneL; rw [List.length_map]; exact List.length_filter_le _ _
theorem okCases_stay {f : Flow} {cs : List Case} (h : okCases cs) : okCases (clL f cs) := by
  unfold clL
  split
  · exact okCases_sub h (Nat.le_trans (stay_le cs) h.1) (fun c hc => (List.mem_filter.1 hc).1)
  · exact okCases_nil

/-- The head of split's loop. -/
structure SplI (w wr : World) (k : Nat) (v1 v2 : Value) (n1 n2 : Nat) (cs : List Case) : Prop where
  row : KRowV wr w.heap.size v2.ownBlock v1 n1 (stayL (cs.take k))
  nms : wr.ownsRow w.heap.size 9 1 v2 n2 ((goneL (cs.take k)).map Value.string)
  below : Below w.heap.size w wr

set_option maxRecDepth 100000 in
set_option maxHeartbeats 2000000 in
theorem split_any (B : Option Addr) (m d : Nat) (cs : List Case) (lo' : Nat) (w : World) (hd : RCase w lo' B m cs) (hcs : okCases cs) :
    Calls Try.prog 90 #[.slice B m d, .func (.func 91) #[] #[]] w fun e w' => ∃ B' m' d' C k e', e = .returned (.tuple #[.slice B' m' d', .slice C k e']) ∧
      RCase w' w.heap.size B' m' (stayL cs) ∧ m' ≤ d' ∧ RStr w' w.heap.size C k (goneL cs) ∧ Below w.heap.size w w' := by
  have HL := Lib.hid hd.1
  have hm : m ≤ 1048576 := by have := hcs.1; rw [hd.1] at this; exact this
  have HD := Lib.hid hd; clear hd
  have HC := Lib.hid hcs; clear hcs
  go_enter Try.func90, Try.ntmps90
  go_wp2_with fail
  go_loopw [6, 7, 14] (fun v1 v2 i wr => ∃ k n1 n2 : Nat, k ≤ m ∧ i = .int .i64 (k : Int) ∧ SplI w wr k v1 v2 n1 n2 cs) (fun _ _ i _ => m - (intOf i).toNat)
  case atStart => exact ⟨0, 0, 0, Nat.zero_le _, rfl, KRowV.nil, own_nil, Below.refl _ _⟩
  case round =>
    obtain ⟨wo, rfl⟩ : ∃ wo : World, wo = wr := ⟨_, rfl⟩
    obtain ⟨k, n1, n2, hk, rfl, hI⟩ := hrel
    have HI := Lib.hid hI; clear hI
    obtain ⟨A1, c1, rfl, _⟩ := HI.out.row.row.hat
    obtain ⟨A2, c2, rfl, _⟩ := own_sstr HI.out.nms
    have hn1 : n1 ≤ k := by
      have h1 := HI.out.row.row.len
      have h2 := stay_le (cs.take k)
      rw [List.length_take] at h2
      omega
    have hn2 : n2 ≤ k := by
      have h1 := HI.out.nms.1
      have h2 := gone_le (cs.take k)
      rw [List.length_take] at h2
      simp at h1
      omega
    by_cases hlt : k < m
    · obtain ⟨b, off, rfl, _, hc⟩ := RCase.at_ (HD.out.below HI.out.below) hlt
      obtain ⟨A', n', c', ⟨d1, d2, d3⟩, hdr, hnc, _⟩ := hc k hlt
      clear hc
      have hkl : k < cs.length := by rw [HL.out]; exact hlt
      have hn' : n' ≤ 1048576 := by rw [← hdr.1]; exact (HC.out.2 k hkl).2
      have HDR := Lib.hid (hdr.alloc (.cells #[.string (nth cs k).name, .int .i64 (nth cs k).st, .slice A' n' c'] 53)); clear hdr
      have HX := Lib.hid (heap_new (w := wo) (o := .cells #[.string (nth cs k).name, .int .i64 (nth cs k).st, .slice A' n' c'] 53) rfl)
      have HROW := Lib.hid (HI.out.row.alloc (.cells #[.string (nth cs k).name, .int .i64 (nth cs k).st, .slice A' n' c'] 53))
      have HNMS := Lib.hid (HI.out.nms.alloc (.cells #[.string (nth cs k).name, .int .i64 (nth cs k).st, .slice A' n' c'] 53))
      have HB := Lib.hid (HI.out.below.alloc HI.out.below.size (.cells #[.string (nth cs k).name, .int .i64 (nth cs k).st, .slice A' n' c'] 53))
      go_wp2_with fail
      refine (clear1_any A' n' c' (nth cs k).st _).mono ?_
      rintro e w3 ⟨rfl, hb3⟩
      have HX3 := Lib.hid (heap_old (o := .cells #[.int .i64 (nth cs k).st, .slice A' n' c'] 35) ((hb3.block _ (heap_lt HX.out)).trans HX.out))
      have HY3 := Lib.hid (heap_new (w := w3) (o := .cells #[.int .i64 (nth cs k).st, .slice A' n' c'] 35) rfl)
      have HROW3 := Lib.hid ((HROW.out.below hb3).alloc (.cells #[.int .i64 (nth cs k).st, .slice A' n' c'] 35))
      have HNMS3 := Lib.hid ((row_below HNMS.out hb3).alloc (.cells #[.int .i64 (nth cs k).st, .slice A' n' c'] 35))
      have HB3a := HB.out.trans (hb3.mono HB.out.size)
      have HB3 := Lib.hid (HB3a.alloc HB3a.size (.cells #[.int .i64 (nth cs k).st, .slice A' n' c'] 35))
      have HDR3 := Lib.hid ((HDR.out.below hb3).alloc (.cells #[.int .i64 (nth cs k).st, .slice A' n' c'] 35))
      have HNE := Lib.hid (fun b (h : (Value.slice A2 n2 c2).ownBlock = some b) => (by
        obtain ⟨cur, hcur⟩ := row_blk HNMS3.out h
        exact HROW3.out.row.ne hcur (by decide) : (Value.slice A1 n1 c1).ownBlock ≠ some b))
      have hs3 : wo.heap.size < w3.heap.size := by have := hb3.size; simp at this; omega
      clear hb3 HB3a HX HROW HNMS HB HDR d1 d2 d3
      have hG : (decide ((nth cs k).st = 0) || decide ((nth cs k).st = 1)) = goesB (nth cs k) := rfl
      rw [hG]
      clear hG
      have x0 := (blk_cl (k := 0) HX3.out rfl).1
      have y0 := (blk_cl (k := 0) HY3.out rfl).1
      have y1 := (blk_cl (k := 1) HY3.out rfl).1
      go_upto_region 7 with fail
      generalize ewk : w3.alloc (.cells #[.int .i64 (nth cs k).st, .slice A' n' c'] 35) = wk at *
      have hsk : w3.heap.size < wk.heap.size := heap_lt HY3.out
      clear ewk
      cases hgo : goesB (nth cs k)
      · have HT1 := Lib.hid (stay_no hkl hgo)
        have HT2 := Lib.hid (gone_yes hkl hgo)
        clear hgo
        go_wp2_with (at_builtin; refine app_strW w.heap.size (.slice A2 n2 c2) n2 (goneL (cs.take k)) _ (nth cs k).name ?c0 rfl (.tmp 34) (.tmp 37) rfl rfl rfl ?c1 (by omega) ?c2 ?_)
        case c0 => exact HNMS3.out.alloc _
        case c1 => exact heap_new rfl
        case c2 => have := HB3.out.size; simp; omega
        intro v8 w8 hrow8 hg8 hat8
        replace hrow8 : w8.ownsRow w.heap.size 9 1 v8 (n2 + 1) ((goneL (cs.take k) ++ [(nth cs k).name]).map Value.string) := by rw [List.map_append]; exact hrow8
        have HR8 := Lib.hid hrow8; clear hrow8
        have HB8 := Lib.hid ((HB3.out.alloc HB3.out.size (.cells #[.string (nth cs k).name] 9)).grown hg8 (by have := HB3.out.size; simp; omega) (fun b hb => (HNMS3.out.lt b hb).1))
        have hat9 : v8.ownBlock = (Value.slice A2 n2 c2).ownBlock ∨ v8.ownBlock = some (wk.alloc (.cells #[.string (nth cs k).name] 9)).heap.size := by simpa using hat8
        have HK8 := Lib.hid ((HROW3.out.alloc (.cells #[.string (nth cs k).name] 9)).grown hg8 (fun b hb he => HNE.out b he hb) hat9)
        clear hg8 hat8 hat9 x0 y0 y1
        go_wp2_with fail
        go_roundw
        case rel => exact ⟨k + 1, n1, n2 + 1, by omega, by go_num, ⟨by rw [HT1.out]; exact HK8.out, by rw [HT2.out]; exact HR8.out, HB8.out⟩⟩
        case measure => simp [intOf]; omega
      · have HT1 := Lib.hid (stay_yes hkl hgo)
        have HT2 := Lib.hid (gone_no hkl hgo)
        clear hgo
        have hsw : w.heap.size ≤ wk.heap.size := HB3.out.size
        have HSB : Hid (∀ w', Below wk.heap.size wk w' → (w'.cell? ⟨wo.heap.size, 0, none⟩ = some (.string (nth cs k).name) ∧ w'.cell? ⟨w3.heap.size, 0, none⟩ = some (.int .i64 (nth cs k).st) ∧ w'.cell? ⟨w3.heap.size, 1, none⟩ = some (.slice A' n' c')) ∧ Below wk.heap.size wk w') := fun w' h =>
          ⟨⟨(blk_cl (k := 0) ((h.block _ (heap_lt HX3.out)).trans HX3.out) rfl).1, (blk_cl (k := 0) ((h.block _ (heap_lt HY3.out)).trans HY3.out) rfl).1, (blk_cl (k := 1) ((h.block _ (heap_lt HY3.out)).trans HY3.out) rfl).1⟩, h⟩
        have HKP : Hid (∀ {w5 w7 : World} {o : Obj}, Below wk.heap.size wk w5 → (w5.alloc o).grownBy w7 (Value.slice A1 n1 c1).ownBlock → (w7.cell? ⟨wo.heap.size, 0, none⟩ = some (.string (nth cs k).name) ∧ w7.cell? ⟨w3.heap.size, 0, none⟩ = some (.int .i64 (nth cs k).st) ∧ w7.cell? ⟨w3.heap.size, 1, none⟩ = some (.slice A' n' c'))) := fun {w5 w7 o} h hg => by
          have n1' : (Value.slice A1 n1 c1).ownBlock ≠ some wo.heap.size := fun e => by
            have h1 := (KRow.lt HI.out.row.row e).2
            omega
          have n2' : (Value.slice A1 n1 c1).ownBlock ≠ some w3.heap.size := fun e => by
            have h1 := (KRow.lt HI.out.row.row e).2
            omega
          have e1 := grown_blk hg (heap_old (o := o) ((h.block _ (heap_lt HX3.out)).trans HX3.out)) n1'
          have e2 := grown_blk hg (heap_old (o := o) ((h.block _ (heap_lt HY3.out)).trans HY3.out)) n2'
          exact ⟨(blk_cl (k := 0) e1 rfl).1, (blk_cl (k := 0) e2 rfl).1, (blk_cl (k := 1) e2 rfl).1⟩
        go_wp2_with fail
        go_region_held3 (fun w' => w'.cell? ⟨wo.heap.size, 0, none⟩ = some (.string (nth cs k).name) ∧ w'.cell? ⟨w3.heap.size, 0, none⟩ = some (.int .i64 (nth cs k).st) ∧ w'.cell? ⟨w3.heap.size, 1, none⟩ = some (.slice A' n' c'))
          (first | exact hk7 | exact (HSB.out _ (Below.refl _ _).drew).1 | exact (HSB.out _ hbw).1 | exact (HSB.out _ (hbw.alloc hbw.size _)).1 | fail "keep")
          (first
            | (go_at_call 120; refine (cloneRun_any _ _ _ (nth cs k).st (nth cs k).done _ _ (HDR3.out.below (Below.refl _ _).drew) hn').mono ?_; rintro e w5 ⟨A5, c5, rfl, hss5, hc5, hb5⟩; have hbw : Below wk.heap.size wk w5 := (Below.refl wk.heap.size wk).drew.trans hb5)
            | (refine case_stepV (o := ⟨some 33, _, _, _, _, _⟩) w.heap.size (Value.slice A2 n2 c2).ownBlock _ n1 (stayL (cs.take k)) _ (nth cs k) A5 n' c5 (by exact (HROW3.out.below hbw).alloc _) (by exact (hss5.mono hsw).alloc _) hc5 (fun b hb hm he => by (have h1 := (HNMS3.out.lt b he).2; have h2 := (hss5.lt hm hb).1; have h3 : wk.drew.heap.size = wk.heap.size := rfl; omega)) (by rfl) (.tmp 26) (.tmp 32) (by rfl) (by rfl) (by rfl) (by exact heap_new rfl) (by omega) (by (have h1 := hbw.size; simp; omega)) ?_; intro v7 w7 how7 hg7 hat7; have hk7 := HKP.out hbw hg7)
            | fail "no arm")
        have HB5a := HB3.out.trans (hbw.mono hsw)
        have HN7 := Lib.hid (row_grown ((row_below HNMS3.out hbw).alloc (.cells #[.string (nth cs k).name, .int .i64 (nth cs k).st, .slice A5 n' c5] 53)) hg7 (fun b hb => HNE.out b hb))
        have HB7 := Lib.hid ((HB5a.alloc HB5a.size (.cells #[.string (nth cs k).name, .int .i64 (nth cs k).st, .slice A5 n' c5] 53)).grown hg7 (by have := HB5a.size; simp; omega) (fun b hb => (KRow.lt HI.out.row.row hb).1))
        have HK7 := Lib.hid how7
        clear how7 hg7 hat7 hk7 hss5 hb5 hbw HB5a
        go_wp2_with fail
        go_roundw
        case rel => exact ⟨k + 1, n1 + 1, n2, by omega, by go_num, ⟨by rw [HT1.out]; exact HK7.out, by rw [HT2.out]; exact HN7.out, HB7.out⟩⟩
        case measure => simp [intOf]; omega
    · obtain rfl : k = m := by omega
      have hkm : cs.take k = cs := by rw [← HL.out]; exact List.take_length
      go_wp2_with fail
      go_ret2
      obtain ⟨A3, c3, e3, hrc⟩ := HI.out.row.row.hat
      injection e3 with e3 _ e4
      subst e3; subst e4
      obtain ⟨A4, c4, e5, hss⟩ := own_sstr HI.out.nms
      injection e5 with e5 _ e6
      subst e5; subst e6
      rw [hkm] at hrc hss
      exact ⟨_, _, _, _, _, _, rfl, hrc, HI.out.row.row.cap3, hss.hat, HI.out.below⟩

set_option maxRecDepth 100000 in
theorem clearI_any (A B : Option Addr) (n c m d : Nat) (f : Flow) (cs : List Case) (lo lo' : Nat) (w : World) (hr : RStep w lo A n f.steps) (hok : okSteps f.steps) (hd : RCase w lo' B m cs) (hcs : okCases cs) :
    Calls Try.prog 41 #[.agg #[.int .i64 f.ver, .slice A n c], .slice B m d] w fun e w' => ∃ B' m' d' C k e', e = .returned (.tuple #[.slice B' m' d', .slice C k e', .bool (poolB f cs)]) ∧
      RCase w' w.heap.size B' m' (clL f cs) ∧ m' ≤ d' ∧ RStr w' w.heap.size C k (gnL f cs) ∧ Below w.heap.size w w' := by
  have HB0 := Lib.hid ((Below.refl w.heap.size w).alloc (Nat.le_refl _) (.cells #[.int .i64 f.ver, .slice A n c] 33))
  have HD0 := Lib.hid (hd.alloc (.cells #[.int .i64 f.ver, .slice A n c] 33)); clear hd
  go_enter Try.func41, Try.ntmps41
  go_wp2_with fail
  refine (poolI_any _ _ _ _ _ _ f cs _ _ _ (hr.alloc _) hok HD0.out hcs).mono ?_
  rintro e w1 ⟨rfl, hb⟩
  have HB1 := Lib.hid (HB0.out.trans (hb.mono HB0.out.size))
  have HD1 := Lib.hid (HD0.out.below hb)
  clear hb HB0 HD0
  cases hp : poolB f cs
  · have HE1 := Lib.hid (clL_no hp)
    have HE2 := Lib.hid (gnL_no hp)
    have HP := Lib.hid hp; clear hp
    go_wp2_with fail
    exact bodyPost_ret (v := .tuple #[.slice none 0 0, .slice none 0 0, .bool false]) (by simp [results, Try.results41, go_sem]) rfl ⟨none, 0, 0, none, 0, 0, by rw [HP.out], by rw [HE1.out]; exact RL.nil, Nat.le_refl _, by rw [HE2.out]; exact RL.nil, HB1.out⟩
  · have HE1 := Lib.hid (clL_yes hp)
    have HE2 := Lib.hid (gnL_yes hp)
    have HP := Lib.hid hp; clear hp
    go_wp2_with fail
    refine (split_any _ _ _ cs _ _ HD1.out hcs).mono ?_
    rintro e w2 ⟨B2, m2, d2, C2, k2, e2, rfl, h1, h2, h3, hb2⟩
    have H1 := Lib.hid h1; clear h1
    have H3 := Lib.hid h3; clear h3
    have HB2 := Lib.hid (HB1.out.trans (hb2.mono HB1.out.size)); clear hb2
    go_wp2_with fail
    exact bodyPost_ret (v := .tuple #[.slice B2 m2 d2, .slice C2 k2 e2, .bool true]) (by simp [results, Try.results41, go_sem]) rfl ⟨B2, m2, d2, C2, k2, e2, by rw [HP.out], by rw [HE1.out]; exact H1.out.lower HB1.out.size, h2, by rw [HE2.out]; exact H3.out.lower HB1.out.size, HB2.out⟩
end Go.Proofs.Ythcpjkhijjkolaa

/- Pools: clearing, the reference's side. -/
namespace Go.Proofs.Ythcpjkhijjkolaa
open Go.RowKit

set_option maxRecDepth 100000 in
set_option maxHeartbeats 2000000 in
theorem clearS_any (A B : Option Addr) (n c m d : Nat) (f : Flow) (cs : List Case) (lo lo' : Nat) (w : World) (hr : RStep w lo A n f.steps) (hok : okSteps f.steps) (hd : RCase w lo' B m cs) (hcs : okCases cs) :
    Calls Try.prog 40 #[.agg #[.int .i64 f.ver, .slice A n c], .slice B m d] w fun e w' => ∃ B' m' d' C k e', e = .returned (.tuple #[.slice B' m' d', .slice C k e', .bool (poolB f cs)]) ∧
      RCase w' w.heap.size B' m' (clL f cs) ∧ m' ≤ d' ∧ RStr w' w.heap.size C k (gnL f cs) ∧ Below w.heap.size w w' := by
  have HL := Lib.hid hd.1
  have hm : m ≤ 1048576 := by have := hcs.1; rw [hd.1] at this; exact this
  have HC := Lib.hid hcs; clear hcs
  have HDW := Lib.hid hd
  have HB0 := Lib.hid (((((Below.refl w.heap.size w).alloc (Nat.le_refl _) (.cells #[.int .i64 f.ver, .slice A n c] 33)).alloc (by simp) (.cells #[] 53)).alloc (by simp; omega) (.cells #[] 9)))
  have HD0 := Lib.hid (((hd.alloc (.cells #[.int .i64 f.ver, .slice A n c] 33)).alloc (.cells #[] 53)).alloc (.cells #[] 9)); clear hd
  have HR0 := Lib.hid (((hr.alloc (.cells #[.int .i64 f.ver, .slice A n c] 33)).alloc (.cells #[] 53)).alloc (.cells #[] 9)); clear hr
  have HK0 := Lib.hid ((KRowV.made (w := w.alloc (.cells #[.int .i64 f.ver, .slice A n c] 33)) (base := w.heap.size) (b := w.heap.size + 1) (av := some (w.heap.size + 1 + 1)) (by simp) (by simp)).alloc (.cells #[] 9))
  have HN0 := Lib.hid (World.ownsRow_made (base := w.heap.size) (e := 9) (size := 1) ((w.alloc (.cells #[.int .i64 f.ver, .slice A n c] 33)).alloc (.cells #[] 53)) #[] 0 (by simp; omega) (Nat.zero_le _) rfl)
  have hsz : ((w.alloc (.cells #[.int .i64 f.ver, .slice A n c] 33)).alloc (.cells #[] 53)).heap.size = w.heap.size + 1 + 1 := by simp
  rw [hsz] at HN0
  have HX0 := Lib.hid (heap_old (o := .cells #[] 9) (heap_old (o := .cells #[] 53) (heap_new (w := w) (o := .cells #[.int .i64 f.ver, .slice A n c] 33) rfl)))
  have x0 := (blk_cl (k := 0) HX0.out rfl).1
  have x1 := (blk_cl (k := 1) HX0.out rfl).1
  clear hsz
  go_enter Try.func40, Try.ntmps40
  go_wp2_with fail
  refine (poolS_any _ _ _ _ _ _ f cs _ _ _ HR0.out hok HD0.out HC.out).mono ?_
  rintro e w1 ⟨rfl, hb⟩
  have HB1 := Lib.hid (HB0.out.trans (hb.mono HB0.out.size))
  have HD1 := Lib.hid (HD0.out.below hb)
  have HK1 := Lib.hid (HK0.out.below hb)
  have HN1 := Lib.hid (row_below HN0.out hb)
  clear hb HB0 HD0 HK0 HN0 HR0 HX0 x0 x1
  cases hp : poolB f cs
  · have HE1 := Lib.hid (clL_no hp)
    have HE2 := Lib.hid (gnL_no hp)
    have HP := Lib.hid hp; clear hp
    go_wp2_with fail
    exact bodyPost_ret (v := .tuple #[.slice (some ⟨w.heap.size + 1, 0, none⟩) 0 0, .slice (some ⟨w.heap.size + 1 + 1, 0, none⟩) 0 0, .bool false]) (by simp [results, Try.results40, go_sem]) rfl ⟨_, 0, 0, _, 0, 0, by rw [HP.out], by rw [HE1.out]; exact RL.nil, Nat.le_refl _, by rw [HE2.out]; exact RL.nil, HB1.out⟩
  have HE1 := Lib.hid (clL_yes hp)
  have HE2 := Lib.hid (gnL_yes hp)
  have HP := Lib.hid hp; clear hp
  go_wp2_with fail
  go_loopw [7, 8, 9] (fun v1 v2 i wr => ∃ k n1 n2 : Nat, k ≤ m ∧ i = .int .i64 (k : Int) ∧ SplI w wr k v1 v2 n1 n2 cs) (fun _ _ i _ => m - (intOf i).toNat)
  case atStart => exact ⟨0, 0, 0, Nat.zero_le _, rfl, HK1.out, HN1.out, HB1.out⟩
  case round =>
    obtain ⟨wo, rfl⟩ : ∃ wo : World, wo = wr := ⟨_, rfl⟩
    obtain ⟨k, n1, n2, hk, rfl, hI⟩ := hrel
    have HI := Lib.hid hI; clear hI
    obtain ⟨A1, c1, rfl, _⟩ := HI.out.row.row.hat
    obtain ⟨A2, c2, rfl, _⟩ := own_sstr HI.out.nms
    have hn1 : n1 ≤ k := by
      have h1 := HI.out.row.row.len
      have h2 := stay_le (cs.take k)
      rw [List.length_take] at h2
      omega
    have hn2 : n2 ≤ k := by
      have h1 := HI.out.nms.1
      have h2 := gone_le (cs.take k)
      rw [List.length_take] at h2
      simp at h1
      omega
    by_cases hlt : k < m
    · obtain ⟨b, off, rfl, _, hc⟩ := RCase.at_ (HDW.out.below HI.out.below) hlt
      obtain ⟨A', n', c', ⟨d1, d2, d3⟩, hdr, hnc, _⟩ := hc k hlt
      clear hc
      have hkl : k < cs.length := by rw [HL.out]; exact hlt
      have hn' : n' ≤ 1048576 := by rw [← hdr.1]; exact (HC.out.2 k hkl).2
      have HDR := Lib.hid hdr; clear hdr
      have HNE := Lib.hid (fun b (h : (Value.slice A2 n2 c2).ownBlock = some b) => (by
        obtain ⟨cur, hcur⟩ := row_blk HI.out.nms h
        exact HI.out.row.row.ne hcur (by decide) : (Value.slice A1 n1 c1).ownBlock ≠ some b))
      obtain ⟨hst0, hst3⟩ := run_state (pool_run HP.out hkl)
      have hways : (goesB (nth cs k) = true ∧ ((nth cs k).st == 2) = false ∧ ((nth cs k).st == 3) = false) ∨ (goesB (nth cs k) = false ∧ ((nth cs k).st == 2) = true) ∨ (goesB (nth cs k) = false ∧ ((nth cs k).st == 2) = false ∧ ((nth cs k).st == 3) = true) := by
        unfold goesB
        have h4 : (nth cs k).st = 0 ∨ (nth cs k).st = 1 ∨ (nth cs k).st = 2 ∨ (nth cs k).st = 3 := by omega
        rcases h4 with h | h | h | h <;> rw [h] <;> simp
      clear hst0 hst3
      rcases hways with ⟨hgo, e2, e3⟩ | ⟨hgo, e2⟩ | ⟨hgo, e2, e3⟩
      · have HT1 := Lib.hid (stay_yes hkl hgo)
        have HT2 := Lib.hid (gone_no hkl hgo)
        clear hgo
        go_wp2_with fail
        refine (l32Case_any _ _ _ (nth cs k) _ _ HDR.out hn').mono ?_
        rintro e w5 ⟨A5, c5, rfl, hss5, hc5, hb5⟩
        have HSS5 := Lib.hid hss5; clear hss5
        have HB5 := Lib.hid (HI.out.below.trans (hb5.mono HI.out.below.size))
        have HK5 := Lib.hid (HI.out.row.below hb5)
        have HN5 := Lib.hid (row_below HI.out.nms hb5)
        have hs5 := HI.out.below.size
        clear hb5 d1 d2 d3
        go_wp2_with (at_builtin; refine app_caseV w.heap.size (Value.slice A2 n2 c2).ownBlock (.slice A1 n1 c1) n1 (stayL (cs.take k)) w5.heap.size (nth cs k) A5 n' c5 ?c0 ?c1 hc5 ?c2 rfl (.tmp 48) (.tmp 54) rfl rfl rfl ?c3 (by omega) ?c4 ?_)
        case c0 => exact HK5.out.alloc _
        case c1 => exact (HSS5.out.mono hs5).alloc _
        case c2 => exact fun b hb hm he => by (have h1 := (HI.out.nms.lt b he).2; have h2 := (HSS5.out.lt hm hb).1; omega)
        case c3 => exact heap_new rfl
        case c4 => have := HB5.out.size; simp; omega
        intro v7 w7 how7 hg7 hat7
        have HN7 := Lib.hid (row_grown (HN5.out.alloc (.cells #[.string (nth cs k).name, .int .i64 (nth cs k).st, .slice A5 n' c5] 53)) hg7 (fun b hb => HNE.out b hb))
        have HB7 := Lib.hid ((HB5.out.alloc HB5.out.size (.cells #[.string (nth cs k).name, .int .i64 (nth cs k).st, .slice A5 n' c5] 53)).grown hg7 (by have := HB5.out.size; simp; omega) (fun b hb => (KRow.lt HI.out.row.row hb).1))
        have HK7 := Lib.hid how7
        clear how7 hg7 hat7
        go_wp2_with fail
        go_roundw
        case rel => exact ⟨k + 1, n1 + 1, n2, by omega, by go_num, ⟨by rw [HT1.out]; exact HK7.out, by rw [HT2.out]; exact HN7.out, HB7.out⟩⟩
        case measure => simp [intOf]; omega
      all_goals
        have HT1 := Lib.hid (stay_no hkl hgo)
        have HT2 := Lib.hid (gone_yes hkl hgo)
        clear hgo
        go_wp2_with (at_builtin; refine app_strW w.heap.size (.slice A2 n2 c2) n2 (goneL (cs.take k)) _ (nth cs k).name ?c0 rfl (.tmp 40) (.tmp 46) rfl rfl rfl ?c1 (by omega) ?c2 ?_)
        case c0 => exact HI.out.nms.alloc _
        case c1 => exact heap_new rfl
        case c2 => have := HI.out.below.size; simp; omega
        intro v8 w8 hrow8 hg8 hat8
        replace hrow8 : w8.ownsRow w.heap.size 9 1 v8 (n2 + 1) ((goneL (cs.take k) ++ [(nth cs k).name]).map Value.string) := by rw [List.map_append]; exact hrow8
        have HR8 := Lib.hid hrow8; clear hrow8
        have HB8 := Lib.hid ((HI.out.below.alloc HI.out.below.size (.cells #[.string (nth cs k).name] 9)).grown hg8 (by have := HI.out.below.size; simp; omega) (fun b hb => (HI.out.nms.lt b hb).1))
        have hat9 : v8.ownBlock = (Value.slice A2 n2 c2).ownBlock ∨ v8.ownBlock = some (wo.alloc (.cells #[.string (nth cs k).name] 9)).heap.size := by simpa using hat8
        have HK8 := Lib.hid ((HI.out.row.alloc (.cells #[.string (nth cs k).name] 9)).grown hg8 (fun b hb he => HNE.out b he hb) hat9)
        clear hg8 hat8 hat9
        go_wp2_with fail
        go_roundw
        case rel => exact ⟨k + 1, n1, n2 + 1, by omega, by go_num, ⟨by rw [HT1.out]; exact HK8.out, by rw [HT2.out]; exact HR8.out, HB8.out⟩⟩
        case measure => simp [intOf]; omega
    · obtain rfl : k = m := by omega
      have hkm : cs.take k = cs := by rw [← HL.out]; exact List.take_length
      go_wp2_with fail
      have hrc : RCase wo w.heap.size A1 n1 (stayL (cs.take k)) := by
        obtain ⟨A3, c3, e3, h⟩ := HI.out.row.row.hat
        cases e3
        exact h
      have hss : SStr wo w.heap.size A2 n2 (goneL (cs.take k)) := by
        obtain ⟨A3, c3, e3, h⟩ := own_sstr HI.out.nms
        cases e3
        exact h
      rw [hkm] at hrc hss
      exact bodyPost_ret (v := .tuple #[.slice A1 n1 c1, .slice A2 n2 c2, .bool true]) (by simp [results, Try.results40, go_sem]) rfl ⟨_, _, _, _, _, _, by rw [HP.out], by rw [HE1.out]; exact hrc, HI.out.row.row.cap3, by rw [HE2.out]; exact hss.hat, HI.out.below⟩
end Go.Proofs.Ythcpjkhijjkolaa

/- Comparing pools. -/
namespace Go.Proofs.Ythcpjkhijjkolaa
open Go.RowKit

theorem eqB_same (xs : List Str) : eqB xs xs = true := eqB_all rfl fun _ _ => rfl

set_option maxRecDepth 100000 in
theorem sameRun_same (A B : Option Addr) (n c d : Nat) (st : Int) (xs : List Str) (lo lo' : Nat) (w : World) (hr : RStr w lo A n xs) (hn : n ≤ 1048576) (hr' : RStr w lo' B n xs) :
    Calls Try.prog 54 #[.agg #[.int .i64 st, .slice A n c], .agg #[.int .i64 st, .slice B n d]] w fun e w' => e = .returned (.bool true) ∧ Below w.heap.size w w' := by
  have HR := Lib.hid ((hr.alloc (.cells #[.int .i64 st, .slice A n c] 35)).alloc (.cells #[.int .i64 st, .slice B n d] 35)); clear hr
  have HS := Lib.hid ((hr'.alloc (.cells #[.int .i64 st, .slice A n c] 35)).alloc (.cells #[.int .i64 st, .slice B n d] 35)); clear hr'
  have HB := Lib.hid (((Below.refl w.heap.size w).alloc (Nat.le_refl _) (.cells #[.int .i64 st, .slice A n c] 35)).alloc (by simp) (.cells #[.int .i64 st, .slice B n d] 35))
  have HX := Lib.hid (heap_old (o := .cells #[.int .i64 st, .slice B n d] 35) (heap_new (w := w) (o := .cells #[.int .i64 st, .slice A n c] 35) rfl))
  have HY := Lib.hid (heap_new (w := w.alloc (.cells #[.int .i64 st, .slice A n c] 35)) (b := w.heap.size + 1) (o := .cells #[.int .i64 st, .slice B n d] 35) (by simp))
  have x0 := (blk_cl (k := 0) HX.out rfl).1
  have x1 := (blk_cl (k := 1) HX.out rfl).1
  have y0 := (blk_cl (k := 0) HY.out rfl).1
  have y1 := (blk_cl (k := 1) HY.out rfl).1
  have hq : (st == st) = true := beq_self_eq_true st
  go_enter Try.func54, Try.ntmps54
  go_wp2_with (go_at_call 103; refine (sameTexts_any _ _ _ _ _ _ xs xs _ _ _ HR.out hn HS.out hn).mono ?_; rintro e w' ⟨rfl, q, rfl⟩; rw [eqB_same])
  go_ret
  exact ⟨rfl, below_drewN HB.out _⟩

set_option maxRecDepth 100000 in
theorem sameCase_same (A B : Option Addr) (n c d : Nat) (s : Case) (lo lo' : Nat) (w : World) (hr : RStr w lo A n s.done) (hn : n ≤ 1048576) (hr' : RStr w lo' B n s.done) :
    Calls Try.prog 50 #[.agg #[.string s.name, .int .i64 s.st, .slice A n c], .agg #[.string s.name, .int .i64 s.st, .slice B n d]] w fun e w' => e = .returned (.bool true) ∧ Below w.heap.size w w' := by
  have HR := Lib.hid ((hr.alloc (.cells #[.string s.name, .int .i64 s.st, .slice A n c] 53)).alloc (.cells #[.string s.name, .int .i64 s.st, .slice B n d] 53)); clear hr
  have HS := Lib.hid ((hr'.alloc (.cells #[.string s.name, .int .i64 s.st, .slice A n c] 53)).alloc (.cells #[.string s.name, .int .i64 s.st, .slice B n d] 53)); clear hr'
  have HB := Lib.hid (((Below.refl w.heap.size w).alloc (Nat.le_refl _) (.cells #[.string s.name, .int .i64 s.st, .slice A n c] 53)).alloc (by simp) (.cells #[.string s.name, .int .i64 s.st, .slice B n d] 53))
  have HX := Lib.hid (heap_old (o := .cells #[.string s.name, .int .i64 s.st, .slice B n d] 53) (heap_new (w := w) (o := .cells #[.string s.name, .int .i64 s.st, .slice A n c] 53) rfl))
  have HY := Lib.hid (heap_new (w := w.alloc (.cells #[.string s.name, .int .i64 s.st, .slice A n c] 53)) (b := w.heap.size + 1) (o := .cells #[.string s.name, .int .i64 s.st, .slice B n d] 53) (by simp))
  have x0 := (blk_cl (k := 0) HX.out rfl).1
  have x1 := (blk_cl (k := 1) HX.out rfl).1
  have x2 := (blk_cl (k := 2) HX.out rfl).1
  have y0 := (blk_cl (k := 0) HY.out rfl).1
  have y1 := (blk_cl (k := 1) HY.out rfl).1
  have y2 := (blk_cl (k := 2) HY.out rfl).1
  have hq : (s.name.toList == s.name.toList) = true := beq_self_eq_true _
  go_enter Try.func50, Try.ntmps50
  go_wp2_with (go_at_call 54; refine (sameRun_same _ _ _ _ _ s.st s.done _ _ _ HR.out hn HS.out).mono ?_; rintro e w' ⟨rfl, hb⟩)
  go_ret
  exact ⟨rfl, HB.out.trans (hb.mono HB.out.size)⟩

set_option maxRecDepth 100000 in
theorem samePool_same (A B : Option Addr) (n c d : Nat) (cs : List Case) (lo lo' : Nat) (w : World) (hr : RCase w lo A n cs) (hok : okCases cs) (hr' : RCase w lo' B n cs) :
    Calls Try.prog 49 #[.slice A n c, .slice B n d] w fun e w' => e = .returned (.bool true) ∧ Below w.heap.size w w' := by
  have HL := Lib.hid hr.1
  have hn : n ≤ 1048576 := by have := hok.1; rw [hr.1] at this; exact this
  have HX := Lib.hid hr; clear hr
  have HY := Lib.hid hr'; clear hr'
  have HO := Lib.hid hok; clear hok
  go_enter Try.func49, Try.ntmps49
  go_wp2
  go_loopw [5] (fun i wr => ∃ k : Nat, k ≤ n ∧ i = .int .i64 k ∧ Below w.heap.size w wr) (fun i _ => n - (intOf i).toNat)
  case atStart => exact ⟨0, Nat.zero_le _, rfl, Below.refl _ _⟩
  case round =>
    obtain ⟨wo, rfl⟩ : ∃ wo : World, wo = wr := ⟨_, rfl⟩
    obtain ⟨k, hk, rfl, hb⟩ := hrel
    have HB := Lib.hid hb; clear hb
    by_cases hlt : k < n
    · obtain ⟨b, off, rfl, ⟨_, hbl⟩, hc⟩ := RCase.at_ (HX.out.below HB.out) hlt
      obtain ⟨A', n', c', ⟨d1, d2, d3⟩, hdr, _⟩ := hc k hlt
      clear hc
      obtain ⟨b2, off2, rfl, ⟨_, hbl2⟩, hc⟩ := RCase.at_ (HY.out.below HB.out) hlt
      obtain ⟨A2, n2, c2, ⟨f1, f2, f3⟩, hdr2, _⟩ := hc k hlt
      clear hc
      obtain rfl : n2 = n' := by rw [← hdr.1, ← hdr2.1]
      have hn' : n2 ≤ 1048576 := by rw [← hdr.1]; exact (HO.out.2 k (by rw [HL.out]; exact hlt)).2
      have HCALL := Lib.hid (fun x : Bl wo => sameCase_same A' A2 n2 c' c2 (nth cs k) _ _ x.wd (hdr.below x.below) hn' (hdr2.below x.below))
      have D1 : ∀ x : Bl wo, x.wd.cell? ⟨b, off + k * 3, none⟩ = some (.string (nth cs k).name) := fun x => (x.below.cell (p := ⟨b, off + k * 3, none⟩) hbl).trans d1
      have D2 : ∀ x : Bl wo, x.wd.cell? ⟨b, off + k * 3 + 1, none⟩ = some (.int .i64 (nth cs k).st) := fun x => (x.below.cell (p := ⟨b, off + k * 3 + 1, none⟩) hbl).trans d2
      have D3 : ∀ x : Bl wo, x.wd.cell? ⟨b, off + k * 3 + 2, none⟩ = some (.slice A' n2 c') := fun x => (x.below.cell (p := ⟨b, off + k * 3 + 2, none⟩) hbl).trans d3
      have F1 : ∀ x : Bl wo, x.wd.cell? ⟨b2, off2 + k * 3, none⟩ = some (.string (nth cs k).name) := fun x => (x.below.cell (p := ⟨b2, off2 + k * 3, none⟩) hbl2).trans f1
      have F2 : ∀ x : Bl wo, x.wd.cell? ⟨b2, off2 + k * 3 + 1, none⟩ = some (.int .i64 (nth cs k).st) := fun x => (x.below.cell (p := ⟨b2, off2 + k * 3 + 1, none⟩) hbl2).trans f2
      have F3 : ∀ x : Bl wo, x.wd.cell? ⟨b2, off2 + k * 3 + 2, none⟩ = some (.slice A2 n2 c2) := fun x => (x.below.cell (p := ⟨b2, off2 + k * 3 + 2, none⟩) hbl2).trans f3
      clear d1 d2 d3 f1 f2 f3 hdr hdr2
      go_wp2_with fail
      refine region_bl (by kernel_rfl) (by kernel_rfl) ?_
      repeat (go_big_quiet_step ((go_at_call 50; exact q_bl (HCALL.out _))))
      refine wpQuiet_nil ?_
      intro _ hw'
      obtain ⟨x, rfl⟩ := hw'
      have HB2 := Lib.hid (HB.out.trans (x.below.mono HB.out.size))
      go_wp2_with fail
      go_roundw
      case rel => exact ⟨k + 1, by omega, by go_num, HB2.out⟩
      case measure => simp [intOf]; omega
    · go_wp2_with fail
      go_ret
      exact ⟨rfl, HB.out⟩
end Go.Proofs.Ythcpjkhijjkolaa
