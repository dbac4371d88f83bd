/- Rows of steps of the call's own. -/
import Derived.Test.YtfcbpgpmafmkhaaApp
import Derived.Test.YtfcbpgpmafmkhaaPure1
namespace Go.Proofs.Ytfcbpgpmafmkhaa
open Go.RowKit

theorem On.drew {g : Nat} {w w1 : World} (h : On g w w1) : On g w w1.drew := ⟨h.os, h.tape, h.output, h.size, h.block⟩
theorem set3 {w : World} {b : Nat} {a0 a1 a2 u0 u1 u2 : Value} {t : TypeId} {fr : Nat × Nat} (h : w.heap[b]? = some (.cells #[a0, a1, a2] t fr)) :
    (((w.setCell ⟨b, 0, none⟩ u0).setCell ⟨b, 1, none⟩ u1).setCell ⟨b, 2, none⟩ u2).heap[b]? = some (.cells #[u0, u1, u2] t fr) := by
  simp [World.setCell, Array.getElem?_modify, h]
theorem set3_ne {w : World} {b b' : Nat} {u0 u1 u2 : Value} {x : Obj} (h : w.heap[b']? = some x) (hne : b' ≠ b) :
    (((w.setCell ⟨b, 0, none⟩ u0).setCell ⟨b, 1, none⟩ u1).setCell ⟨b, 2, none⟩ u2).heap[b']? = some x :=
  (Below.heap_setCell _ _ _ _ hne).trans ((Below.heap_setCell _ _ _ _ hne).trans ((Below.heap_setCell _ _ _ _ hne).trans h))
theorem Dr.set3 {T : TypeId} {w0 w : World} {g q b : Nat} {u0 u1 u2 : Value} (h : Dr T w0 g q w) (hb : w0.heap.size ≤ b) (hg : g < b) : Dr T w0 g q (((w.setCell ⟨b, 0, none⟩ u0).setCell ⟨b, 1, none⟩ u1).setCell ⟨b, 2, none⟩ u2) :=
  ((h.set_ hb hg _ _).set_ hb hg _ _).set_ hb hg _ _
theorem sz_push (w : World) (o : Obj) : w.heap.size + 1 = (w.alloc o).heap.size := by simp
theorem sz_set3 (w : World) (b : Nat) (u0 u1 u2 : Value) : w.heap.size = (((w.setCell ⟨b, 0, none⟩ u0).setCell ⟨b, 1, none⟩ u1).setCell ⟨b, 2, none⟩ u2).heap.size := by simp
theorem row_set {w : World} {base b o : Nat} {e t : TypeId} {size : Nat} {v u : Value} {n : Nat} {cs : List Value} {cs' : Array Value} (h : w.ownsRow base e size v n cs) (hb : w.heap[b]? = some (.cells cs' t (0, 0))) (hne : e ≠ t) : (w.setCell ⟨b, o, none⟩ u).ownsRow base e size v n cs :=
  h.kept (row := some b) ⟨rfl, rfl, rfl, by simp, fun k _ hk => Below.heap_setCell _ _ _ _ (by intro e; exact hk (by rw [e]))⟩ (.inr (row_ne h hb hne))
theorem set_at {w : World} {b o : Nat} {cs : Array Value} {t : TypeId} {fr : Nat × Nat} {u : Value} (h : w.heap[b]? = some (.cells cs t fr)) : (w.setCell ⟨b, o, none⟩ u).heap[b]? = some (.cells (cs.setIfInBounds o u) t fr) := by
  simp [World.setCell, Array.getElem?_modify, h]
theorem set31 {w : World} {b : Nat} {a0 a1 a2 u : Value} {t : TypeId} {fr : Nat × Nat} (h : w.heap[b]? = some (.cells #[a0, a1, a2] t fr)) : (w.setCell ⟨b, 1, none⟩ u).heap[b]? = some (.cells #[a0, u, a2] t fr) := set_at h
theorem set21 {w : World} {b : Nat} {a0 a1 u : Value} {t : TypeId} {fr : Nat × Nat} (h : w.heap[b]? = some (.cells #[a0, a1] t fr)) : (w.setCell ⟨b, 1, none⟩ u).heap[b]? = some (.cells #[a0, u] t fr) := set_at h
theorem set20 {w : World} {b : Nat} {a0 a1 u : Value} {t : TypeId} {fr : Nat × Nat} (h : w.heap[b]? = some (.cells #[a0, a1] t fr)) : (w.setCell ⟨b, 0, none⟩ u).heap[b]? = some (.cells #[u, a1] t fr) := set_at h
theorem set_ne {w : World} {b b' o : Nat} {u : Value} {x : Obj} (h : w.heap[b']? = some x) (hne : b' ≠ b) : (w.setCell ⟨b, o, none⟩ u).heap[b']? = some x := (Below.heap_setCell _ _ _ _ hne).trans h
theorem strapp_step {w : World} {ops : Array Oper} {o : Oper} {a : Act} {K : Act → World → Prop} {Q : Exit → Act → World → Prop} {E : Prop} (base : Nat) (v : Value) (n : Nat) (cs : List Str) (b : Nat) (s : Str) (hown : w.ownsRow base 9 1 v n (cs.map Value.string))
    (hgd : o.guard = none) (l r : Operand) (ho : o.op = .call { callee := .builtin .append, args := #[l, r], argTypes := #[42, 42] })
    (hs : a.eval l = v) (hx : a.eval r = .slice (some ⟨b, 0, none⟩) 1 1) (hb : w.heap[b]? = some (.cells #[.string s] 9 (0, 0))) (hn : n ≤ 1048576) (hbase : base ≤ w.heap.size)
    (h : ∀ v' w', w'.ownsRow base 9 1 v' (n + 1) ((cs ++ [s]).map Value.string) → w.grownBy w' v.ownBlock → (v'.ownBlock = v.ownBlock ∨ v'.ownBlock = some w.heap.size) → K (a.put o.dst v') w') :
    if Region.wanted o (yielded ops a.tmps) = true then Oper.wp Try.prog o a w K Q else E := by
  have hw : Region.wanted o (yielded ops a.tmps) = true := by simp [Region.wanted, hgd]
  rw [if_pos hw]
  refine wapp 42 9 1 16 _ Try.underlying42 info_str rfl (by omega) (by omega) base v n _ [.string s] b hown l r ho hs hx hb rfl ?_ hn hbase ?_
  · intro u hu; simp at hu; subst hu; rfl
  · intro v' w' h1 h2 h3
    exact h v' w' (by rw [List.map_append]; exact h1) h2 h3
theorem Cl.set_ne {w : World} {b o b' o' : Nat} {u v v0 : Value} (h : Cl w b o u) (h0 : Cl w b' o' v0) (hne : u ≠ v0) : Cl (w.setCell ⟨b', o', none⟩ v) b o u := by
  refine h.set_other ?_
  by_cases hb : b = b'
  · right
    intro ho
    subst hb; subst ho
    have := h.1.symm.trans h0.1
    exact hne (Option.some.inj this)
  · exact .inl hb
theorem RStr.set_ne {w : World} {lo hi n b' o' : Nat} {A : Option Addr} {xs : List Str} {v v0 : Value} (h : RH strE w lo hi A n xs) (h0 : Cl w b' o' v0) (hv0 : ∀ s, v0 ≠ .string s) :
    RH strE (w.setCell ⟨b', o', none⟩ v) lo hi A n xs :=
  ⟨h.1, fun hn => by
    obtain ⟨b, off, e, h1, h2, hc⟩ := h.2 hn
    exact ⟨b, off, e, h1, h2, fun k hk => Cl.set_ne (hc k hk) h0 (Ne.symm (hv0 _))⟩⟩

/-- A step at index j is written: its list. -/
theorem RStep.setAfter {w : World} {lo b off n j m d : Nat} {B : Option Addr} {ss : List Step} {ys : List Str} (h : RStep w lo (some ⟨b, off, none⟩) n ss) (hj : j < n) (hs : RStr w lo B m ys) :
    RStep (w.setCell ⟨b, off + j * 3 + 1, none⟩ (.slice B m d)) lo (some ⟨b, off, none⟩) n (ss.set j { nth ss j with after := ys }) := by
  refine ⟨by rw [List.length_set]; exact h.1, fun hn => ?_⟩
  obtain ⟨b', off', e, h1, h2, hc⟩ := h.2 hn
  injection e with e; injection e with e1 e2
  subst e1; subst e2
  refine ⟨b, off, rfl, h1, by simpa using h2, fun k hk => ?_⟩
  obtain ⟨_, ⟨A0, n0, c0, p2, _⟩, _⟩ := hc j hj
  obtain ⟨c1, ⟨A', n', c', c2, c3⟩, c4⟩ := hc k hk
  have hsz : (w.setCell ⟨b, off + j * 3 + 1, none⟩ (.slice B m d)).heap.size = w.heap.size := by simp
  rw [nth_set (by rw [h.1]; exact hj), hsz]
  by_cases hkj : k = j
  · subst hkj
    rw [if_pos rfl]
    exact ⟨c1.set_other (.inr (by show off + k * 3 ≠ _; omega)), ⟨B, m, d, c2.set_same, RStr.set_ne hs p2 (fun s e => by cases e)⟩, c4.set_other (.inr (by show off + k * 3 + 2 ≠ _; omega))⟩
  · rw [if_neg hkj]
    exact ⟨c1.set_other (.inr (by show off + k * 3 ≠ _; omega)), ⟨A', n', c', c2.set_other (.inr (by show off + k * 3 + 1 ≠ _; omega)), RStr.set_ne c3 p2 (fun s e => by cases e)⟩, c4.set_other (.inr (by show off + k * 3 + 2 ≠ _; omega))⟩
/-- A step at index j is written: whether it can be undone. -/
theorem RStep.setUndo {w : World} {lo b off n j : Nat} {ss : List Step} (h : RStep w lo (some ⟨b, off, none⟩) n ss) (hj : j < n) (u : Bool) :
    RStep (w.setCell ⟨b, off + j * 3 + 2, none⟩ (.bool u)) lo (some ⟨b, off, none⟩) n (ss.set j { nth ss j with undo := u }) := by
  refine ⟨by rw [List.length_set]; exact h.1, fun hn => ?_⟩
  obtain ⟨b', off', e, h1, h2, hc⟩ := h.2 hn
  injection e with e; injection e with e1 e2
  subst e1; subst e2
  refine ⟨b, off, rfl, h1, by simpa using h2, fun k hk => ?_⟩
  obtain ⟨_, _, p2⟩ := hc j hj
  obtain ⟨c1, ⟨A', n', c', c2, c3⟩, c4⟩ := hc k hk
  have hsz : (w.setCell ⟨b, off + j * 3 + 2, none⟩ (.bool u)).heap.size = w.heap.size := by simp
  rw [nth_set (by rw [h.1]; exact hj), hsz]
  by_cases hkj : k = j
  · subst hkj
    rw [if_pos rfl]
    exact ⟨c1.set_other (.inr (by show off + k * 3 ≠ _; omega)), ⟨A', n', c', c2.set_other (.inr (by show off + k * 3 + 1 ≠ _; omega)), RStr.set_ne c3 p2 (fun s e => by cases e)⟩, c4.set_same⟩
  · rw [if_neg hkj]
    exact ⟨c1.set_other (.inr (by show off + k * 3 ≠ _; omega)), ⟨A', n', c', c2.set_other (.inr (by show off + k * 3 + 1 ≠ _; omega)), RStr.set_ne c3 p2 (fun s e => by cases e)⟩, c4.set_other (.inr (by show off + k * 3 + 2 ≠ _; omega))⟩

/-- A cell of a number is written. -/
theorem RStep.setInt {w : World} {lo n b o : Nat} {A : Option Addr} {ss : List Step} {k : IntKind} {i : Int} {u : Value} (h : RStep w lo A n ss) (h0 : Cl w b o (.int k i)) : RStep (w.setCell ⟨b, o, none⟩ u) lo A n ss := by
  refine ⟨h.1, fun hn => ?_⟩
  obtain ⟨b', off', e, h1, h2, hc⟩ := h.2 hn
  have hsz : (w.setCell ⟨b, o, none⟩ u).heap.size = w.heap.size := by simp
  refine ⟨b', off', e, h1, by rw [hsz]; exact h2, fun j hj => ?_⟩
  obtain ⟨c1, ⟨A', n', c', c2, c3⟩, c4⟩ := hc j hj
  rw [hsz]
  exact ⟨c1.set_ne h0 (fun e => by cases e), ⟨A', n', c', c2.set_ne h0 (fun e => by cases e), RStr.set_ne c3 h0 (fun s e => by cases e)⟩, c4.set_ne h0 (fun e => by cases e)⟩
/-- A cell below is written. -/
theorem RL.setLow {α : Type} [Inhabited α] {E : Elem α} {w : World} {lo n b o : Nat} {A : Option Addr} {xs : List α} {u : Value} (h : RL E w lo A n xs) (hb : b < lo) : RL E (w.setCell ⟨b, o, none⟩ u) lo A n xs :=
  (h.low.same (w' := w.setCell ⟨b, o, none⟩ u) ⟨fun i h1 _ => Below.heap_setCell w ⟨b, o, none⟩ u i (by intro e; simp at e; omega)⟩).up (by simp)

/-- A list of strings in a block of strings. -/
def SStr (w : World) (base : Nat) (A : Option Addr) (n : Nat) (xs : List Str) : Prop :=
  xs.length = n ∧ (0 < n → ∃ b cs, A = some ⟨b, 0, none⟩ ∧ base ≤ b ∧ w.heap[b]? = some (.cells cs 9 (0, 0)) ∧ ∀ j, j < n → cs[j]? = some (.string (nth xs j)))
theorem SStr.kept {w w' : World} {base n : Nat} {A : Option Addr} {xs : List Str} (h : SStr w base A n xs) (hk : ∀ b cs, base ≤ b → w.heap[b]? = some (.cells cs 9 (0, 0)) → w'.heap[b]? = w.heap[b]?) : SStr w' base A n xs :=
  ⟨h.1, fun hn => by
    obtain ⟨b, cs, e, h1, h2, h3⟩ := h.2 hn
    exact ⟨b, cs, e, h1, (hk b cs h1 h2).trans h2, h3⟩⟩
theorem SStr.on {w w' : World} {base n g : Nat} {A : Option Addr} {xs : List Str} (h : SStr w base A n xs) (ho : On g w w') (hg : g < base) : SStr w' base A n xs :=
  h.kept fun b cs hb hc => ho.block b (heap_lt hc) (by intro e; injection e; omega)
theorem SStr.below {w w' : World} {base n : Nat} {A : Option Addr} {xs : List Str} (h : SStr w base A n xs) (hb : Below w.heap.size w w') : SStr w' base A n xs :=
  h.kept fun b cs _ hc => hb.block b (heap_lt hc)
theorem SStr.mono {w : World} {base base' n : Nat} {A : Option Addr} {xs : List Str} (h : SStr w base A n xs) (hb : base' ≤ base) : SStr w base' A n xs :=
  ⟨h.1, fun hn => by
    obtain ⟨b, cs, e, h1, h2, h3⟩ := h.2 hn
    exact ⟨b, cs, e, by omega, h2, h3⟩⟩
theorem SStr.hat {w : World} {base n : Nat} {A : Option Addr} {xs : List Str} (h : SStr w base A n xs) : RStr w base A n xs :=
  ⟨h.1, fun hn => by
    obtain ⟨b, cs, e, h1, h2, h3⟩ := h.2 hn
    refine ⟨b, 0, e, h1, heap_lt h2, fun k hk => ?_⟩
    have := blk_cl h2 (h3 k hk)
    simpa [strE] using this⟩
theorem own_sstr {w : World} {base : Nat} {v : Value} {n : Nat} {ys : List Str} (h : w.ownsRow base 9 1 v n (ys.map Value.string)) : ∃ A c, v = .slice A n c ∧ SStr w base A n ys := by
  have hl : ys.length = n := by have := h.1; simpa using this
  have hcs := fun g hg => h.cells (g := g) hg
  rcases h.2 with ⟨rfl, h0⟩ | ⟨g, cap, cur, rfl, hb, hg, hnc, hcm, hcs', ht⟩
  · exact ⟨none, 0, by have : n = 0 := by omega
                       subst this; rfl, hl, fun hn => absurd hn (by omega)⟩
  · refine ⟨_, _, rfl, hl, fun _ => ⟨g, cur, rfl, hb, hg, fun j hj => ?_⟩⟩
    have h3 := hcs g rfl j (.string (nth ys j)) (by rw [List.getElem?_map, List.getElem?_eq_getElem (by omega), nth_eq (by omega)]; rfl)
    have e : (⟨g, 0, none⟩ : Addr).add j = ⟨g, j, none⟩ := by unfold Addr.add; split <;> simp_all
    rw [e] at h3
    have h4 : w.cell? ⟨g, j, none⟩ = cur[j]? := by unfold World.cell?; rw [hg]; rfl
    rw [h4] at h3
    exact h3

def pcells (p : Step × Value) : List Value := [.string p.1.name, p.2, .bool p.1.undo]
theorem pcells_len (p : Step × Value) : (pcells p).length = 3 := rfl
/-- A row of steps of the call's own, their lists too. -/
def SRow (w : World) (base : Nat) (v : Value) (n : Nat) (ss : List Step) : Prop :=
  ∃ ps : List (Step × Value), ps.map (·.1) = ss ∧ w.ownsRow base 50 3 v n (ps.flatMap pcells) ∧ ∀ p ∈ ps, ∃ A m c, p.2 = .slice A m c ∧ SStr w base A m p.1.after
theorem SRow.len {w : World} {base n : Nat} {v : Value} {ss : List Step} (h : SRow w base v n ss) : ss.length = n := by
  obtain ⟨ps, rfl, h1, _⟩ := h
  have := h1.1
  rw [flat_len pcells_len] at this
  simp; omega
theorem SRow.kept {w w' : World} {base n : Nat} {v : Value} {ss : List Step} (h : SRow w base v n ss) (hk : ∀ b cs t, base ≤ b → w.heap[b]? = some (.cells cs t (0, 0)) → t = 9 ∨ t = 50 → w'.heap[b]? = w.heap[b]?) : SRow w' base v n ss := by
  obtain ⟨ps, e, h1, h2⟩ := h
  refine ⟨ps, e, ?_, fun p hp => ?_⟩
  · refine ⟨h1.1, ?_⟩
    rcases h1.2 with hn | ⟨g, cap, cur, hv, hb, hg, hr⟩
    · exact .inl hn
    · exact .inr ⟨g, cap, cur, hv, hb, (hk g cur _ hb hg (.inr rfl)).trans hg, hr⟩
  · obtain ⟨A, m, c, e2, h3⟩ := h2 p hp
    exact ⟨A, m, c, e2, h3.kept fun b cs hb hc => hk b cs _ hb hc (.inl rfl)⟩
theorem SRow.on {w w' : World} {base n g : Nat} {v : Value} {ss : List Step} (h : SRow w base v n ss) (ho : On g w w') (hg : g < base) : SRow w' base v n ss :=
  h.kept fun b cs _ hb hc _ => ho.block b (heap_lt hc) (by intro e; injection e; omega)
theorem SRow.below {w w' : World} {base n : Nat} {v : Value} {ss : List Step} (h : SRow w base v n ss) (hb : Below w.heap.size w w') : SRow w' base v n ss :=
  h.kept fun b cs _ _ hc _ => hb.block b (heap_lt hc)
theorem SRow.set {w : World} {base n b o : Nat} {v u : Value} {ss : List Step} {cs : Array Value} {t : TypeId} (h : SRow w base v n ss) (hb : w.heap[b]? = some (.cells cs t (0, 0))) (h1 : t ≠ 9) (h2 : t ≠ 50) :
    SRow (w.setCell ⟨b, o, none⟩ u) base v n ss :=
  h.kept fun b' cs' t' _ hc ht => Below.heap_setCell w ⟨b, o, none⟩ u b' (by
    intro e
    subst e
    rw [hc] at hb
    have := Option.some.inj hb
    injection this with _ e2
    rcases ht with ht | ht <;> subst ht
    · exact h1 e2.symm
    · exact h2 e2.symm)
theorem SRow.made {w : World} {base b : Nat} (hb : base ≤ w.heap.size) (e : b = w.heap.size) : SRow (w.alloc (.cells #[] 50)) base (.slice (some ⟨b, 0, none⟩) 0 0) 0 [] := by
  subst e
  exact ⟨[], rfl, World.ownsRow_made w #[] 0 hb (Nat.zero_le _) rfl, fun p hp => by cases hp⟩
theorem SRow.lt {w : World} {base n b : Nat} {A : Option Addr} {c : Nat} {ss : List Step} (h : SRow w base (.slice A n c) n ss) (hA : (Value.slice A n c).ownBlock = some b) : base ≤ b ∧ b < w.heap.size := by
  obtain ⟨ps, _, h1, _⟩ := h
  exact h1.lt b hA
theorem SRow.ne {w : World} {base n b : Nat} {v : Value} {ss : List Step} {cs : Array Value} {t : TypeId} {fr : Nat × Nat} (h : SRow w base v n ss) (hb : w.heap[b]? = some (.cells cs t fr)) (ht : 50 ≠ t) : v.ownBlock ≠ some b := by
  obtain ⟨ps, _, h1, _⟩ := h
  exact row_ne h1 hb ht
theorem SRow.hat {w : World} {base n : Nat} {v : Value} {ss : List Step} (h : SRow w base v n ss) : ∃ A c, v = .slice A n c ∧ RStep w base A n ss := by
  have hl := h.len
  obtain ⟨ps, rfl, h1, h2⟩ := h
  obtain ⟨A, c, hv, hf⟩ := own_form h1
  refine ⟨A, c, hv, hl, fun hn => ?_⟩
  obtain ⟨b, e1, b1, b2, hc⟩ := hf hn
  rw [List.length_map] at hl
  refine ⟨b, 0, e1, b1, b2, fun k hk => ?_⟩
  have h3 : ∀ i u, i < 3 → (pcells (ps[k]'(by omega)))[i]? = some u → Cl w b (0 + k * 3 + i) u := fun i u hi hu => by
    have e2 := flat_at (α := Step × Value) (f := pcells) pcells_len ps k i (by omega) hi
    rw [nth_eq (by omega)] at e2
    have := hc (k * 3 + i) u (by rw [e2]; exact hu)
    rwa [Nat.zero_add]
  obtain ⟨A', m, c', e2, h4⟩ := h2 (ps[k]'(by omega)) (List.getElem_mem _)
  have e3 : nth (ps.map (·.1)) k = (ps[k]'(by omega)).1 := by rw [nth_eq (by rw [List.length_map]; omega)]; simp
  rw [e3]
  exact ⟨h3 0 _ (by omega) rfl, ⟨A', m, c', by have := h3 1 _ (by omega) rfl; rw [e2] at this; exact this, h4.hat⟩, h3 2 _ (by omega) rfl⟩

theorem info_step : (Try.prog.info? 50).map (fun i => (i.zero, i.size, i.bytes)) = some (some (.agg #[.string ⟨#[]⟩, .slice none 0 0, .bool false]), 3, 48) := by kernel_rfl
/-- 'out = append(out, s)', at one operation. -/
theorem wapp_step {w : World} {o : Oper} {a : Act} {K : Act → World → Prop} {Q : Exit → Act → World → Prop} (base : Nat) (v : Value) (n : Nat) (ss : List Step) (b : Nat) (s : Step) (A : Option Addr) (m c : Nat) (hown : SRow w base v n ss) (hs0 : SStr w base A m s.after)
    (l x : Operand) (ho : o.op = .call { callee := .builtin .append, args := #[l, x], argTypes := #[27, 27] })
    (hs : a.eval l = v) (hx : a.eval x = .slice (some ⟨b, 0, none⟩) 1 1) (hb : w.heap[b]? = some (.cells #[.string s.name, .slice A m c, .bool s.undo] 50 (0, 0))) (hn : n ≤ 1048576) (hbase : base ≤ w.heap.size)
    (h : ∀ v' w', SRow w' base v' (n + 1) (ss ++ [s]) → w.grownBy w' v.ownBlock → (v'.ownBlock = v.ownBlock ∨ v'.ownBlock = some w.heap.size) → K (a.put o.dst v') w') : o.wp Try.prog a w K Q := by
  have hN : ∀ (b : Nat) (cs : Array Value), w.heap[b]? = some (Obj.cells cs 9 (0, 0)) → v.ownBlock ≠ some b := fun b cs hc => hown.ne hc (by decide)
  obtain ⟨ps, rfl, h1, h2⟩ := hown
  refine wapp 27 50 3 48 _ Try.underlying27 info_step rfl (by omega) (by omega) base v n _ (pcells (s, .slice A m c)) b h1 l x ho hs hx hb rfl ?_ hn hbase ?_
  · intro u hu; simp [pcells] at hu; rcases hu with rfl | rfl | rfl <;> rfl
  · intro v' w' h3 h4 h5
    have hk : ∀ b cs, base ≤ b → w.heap[b]? = some (.cells cs 9 (0, 0)) → w'.heap[b]? = w.heap[b]? := fun b cs _ hc => h4.block b (heap_lt hc) (Ne.symm (hN b cs hc))
    refine h v' w' ⟨ps ++ [(s, .slice A m c)], by simp, by rw [List.flatMap_append]; simpa using h3, fun p hp => ?_⟩ h4 h5
    rcases List.mem_append.1 hp with hp | hp
    · obtain ⟨A', m', c', e, h6⟩ := h2 p hp
      exact ⟨A', m', c', e, h6.kept hk⟩
    · rw [List.mem_singleton] at hp
      subst hp
      exact ⟨A, m, c, rfl, hs0.kept hk⟩
/-- The same ahead of what follows. -/
theorem app_stepW {w : World} {ops : Array Oper} {rest : List Oper} {o : Oper} {a : Act} {Q : Exit → Act → World → Prop} (base : Nat) (v : Value) (n : Nat) (ss : List Step) (b : Nat) (s : Step) (A : Option Addr) (m c : Nat) (hown : SRow w base v n ss) (hs0 : SStr w base A m s.after)
    (hgd : o.guard = none) (l x : Operand) (ho : o.op = .call { callee := .builtin .append, args := #[l, x], argTypes := #[27, 27] })
    (hs : a.eval l = v) (hx : a.eval x = .slice (some ⟨b, 0, none⟩) 1 1) (hb : w.heap[b]? = some (.cells #[.string s.name, .slice A m c, .bool s.undo] 50 (0, 0))) (hn : n ≤ 1048576) (hbase : base ≤ w.heap.size)
    (h : ∀ v' w', SRow w' base v' (n + 1) (ss ++ [s]) → w.grownBy w' v.ownBlock → (v'.ownBlock = v.ownBlock ∨ v'.ownBlock = some w.heap.size) → wpList Try.prog ops Q rest (a.put o.dst v') w') : wpList Try.prog ops Q (o :: rest) a w :=
  wpList_plain hgd fun _ hK => wapp_step base v n ss b s A m c hown hs0 l x ho hs hx hb hn hbase fun v' w' h1 h2 h3 => hK _ _ (h v' w' h1 h2 h3)

theorem okSteps_app {ss : List Step} {s : Step} (h : okSteps ss) (hl : ss.length ≤ 1000) (hs : okStep s) : okSteps (ss ++ [s]) := by
  refine ⟨by simp; omega, fun j hj => ?_⟩
  rcases Nat.lt_or_ge j ss.length with h1 | h1
  · have e : nth (ss ++ [s]) j = nth ss j := by rw [nth_eq hj, nth_eq h1, List.getElem_append_left h1]
    rw [e]; exact h.2 j h1
  · have h2 : j = ss.length := by simp at hj; omega
    subst h2
    have e : nth (ss ++ [s]) ss.length = s := by rw [nth_eq hj]; simp
    rw [e]; exact hs
theorem okS_app {xs : List Str} {s : Str} (h : okS xs) (hl : xs.length ≤ 1000) (hs : s.size ≤ maxLen) : okS (xs ++ [s]) := by
  refine ⟨by simp; omega, fun j hj => ?_⟩
  rcases Nat.lt_or_ge j xs.length with h1 | h1
  · have e : nth (xs ++ [s]) j = nth xs j := by rw [nth_eq hj, nth_eq h1, List.getElem_append_left h1]
    rw [e]; exact h.2 j h1
  · have h2 : j = xs.length := by simp at hj; omega
    subst h2
    have e : nth (xs ++ [s]) xs.length = s := by rw [nth_eq hj]; simp
    rw [e]; exact hs
theorem okS_one {s : Str} (h : s.size ≤ maxLen) : okS [s] := ⟨by simp, fun j hj => by
  have : j = 0 := by simpa using hj
  subst this
  exact h⟩
theorem okS_nil : okS [] := ⟨by simp, fun j hj => absurd hj (by simp)⟩
theorem okSteps_nil : okSteps [] := ⟨by simp, fun j hj => absurd hj (by simp)⟩
theorem okSteps_set {ss : List Step} {j : Nat} {ys : List Str} (h : okSteps ss) (hy : okS ys) : okSteps (ss.set j { nth ss j with after := ys }) := by
  refine ⟨by rw [List.length_set]; exact h.1, fun i hi => ?_⟩
  rw [List.length_set] at hi
  by_cases hj : j < ss.length
  · rw [nth_set hj]
    split
    · exact ⟨(h.2 j hj).1, hy⟩
    · exact h.2 i hi
  · rw [List.set_eq_of_length_le (by omega)]
    exact h.2 i hi
theorem okSteps_undo {ss : List Step} {j : Nat} {u : Bool} (h : okSteps ss) : okSteps (ss.set j { nth ss j with undo := u }) := by
  refine ⟨by rw [List.length_set]; exact h.1, fun i hi => ?_⟩
  rw [List.length_set] at hi
  by_cases hj : j < ss.length
  · rw [nth_set hj]
    split
    · exact h.2 j hj
    · exact h.2 i hi
  · rw [List.set_eq_of_length_le (by omega)]
    exact h.2 i hi
end Go.Proofs.Ytfcbpgpmafmkhaa
