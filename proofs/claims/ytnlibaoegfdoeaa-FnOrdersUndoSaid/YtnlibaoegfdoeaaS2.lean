/- A list of steps appended to an empty one. -/
import Derived.Test.YtnlibaoegfdoeaaS1
namespace Go.Proofs.Ytnlibaoegfdoeaa
open Go.RowKit

theorem sz_le (w : World) (o : Obj) : w.heap.size ≤ (w.alloc o).heap.size := by simp
theorem news_step {w : World} {lo hi m : Nat} {A : Option Addr} {ss : List Step} (hr : RH stepE w lo hi A m ss) :
    ∃ ps : List (Step × Value), ps.map (·.1) = ss ∧ (0 < m → ∃ ad, A = some ad ∧ ∀ j u, (ps.flatMap pcells)[j]? = some u → w.cell? (ad.add j) = some u) ∧
      ∀ p ∈ ps, ∃ A' n' c', p.2 = .slice A' n' c' ∧ RH strE w lo hi A' n' p.1.after := by
  have each : ∀ j : Nat, ∃ v : Value, j < m → ∀ b off, A = some ⟨b, off, none⟩ → (∃ A' n' c', v = .slice A' n' c' ∧ RH strE w lo hi A' n' (nth ss j).after) ∧
      w.cell? ⟨b, off + j * 3, none⟩ = some (.string (nth ss j).name) ∧ w.cell? ⟨b, off + j * 3 + 1, none⟩ = some v ∧ w.cell? ⟨b, off + j * 3 + 2, none⟩ = some (.bool (nth ss j).undo) := by
    intro j
    by_cases hj : j < m
    · obtain ⟨b, off, e, _, hc⟩ := RStep.hat hr hj
      obtain ⟨A', n', c', ⟨c1, c2, c3⟩, h5, _⟩ := hc j hj
      refine ⟨.slice A' n' c', fun _ b' off' e' => ?_⟩
      rw [e] at e'
      injection e' with e'; injection e' with e1 e2
      subst e1; subst e2
      exact ⟨⟨A', n', c', rfl, h5⟩, c1, c2, c3⟩
    · exact ⟨undef, fun h => absurd h hj⟩
  obtain ⟨V, hV⟩ : ∃ V : Nat → Value, ∀ j, j < m → ∀ b off, A = some ⟨b, off, none⟩ → (∃ A' n' c', V j = .slice A' n' c' ∧ RH strE w lo hi A' n' (nth ss j).after) ∧
      w.cell? ⟨b, off + j * 3, none⟩ = some (.string (nth ss j).name) ∧ w.cell? ⟨b, off + j * 3 + 1, none⟩ = some (V j) ∧ w.cell? ⟨b, off + j * 3 + 2, none⟩ = some (.bool (nth ss j).undo) :=
    ⟨fun j => Classical.choose (each j), fun j => Classical.choose_spec (each j)⟩
  have hl := hr.1
  refine ⟨(List.range m).map fun j => (nth ss j, V j), ?_, fun hm => ?_, fun p hp => ?_⟩
  · refine list_ext (by simp [hl]) fun j hj => ?_
    have hj' : j < m := by simpa using hj
    rw [nth_eq hj]; simp
  · obtain ⟨b, off, e, _, _, _⟩ := hr.2 hm
    refine ⟨_, e, fun j u hu => ?_⟩
    have hlen : ((List.range m).map fun j => (nth ss j, V j)).length = m := by simp
    have hj : j < m * 3 := by
      rcases Nat.lt_or_ge j (m * 3) with h | h
      · exact h
      · rw [List.getElem?_eq_none (by rw [flat_len pcells_len, hlen]; exact h)] at hu; cases hu
    obtain ⟨_, h1, h2, h3⟩ := hV (j / 3) (by omega) b off e
    have e2 := flat_at (α := Step × Value) (f := pcells) pcells_len ((List.range m).map fun j => (nth ss j, V j)) (j / 3) (j % 3) (by rw [hlen]; omega) (Nat.mod_lt _ (by omega))
    have e3 : j / 3 * 3 + j % 3 = j := by omega
    rw [e3] at e2
    have e4 : nth ((List.range m).map fun j => (nth ss j, V j)) (j / 3) = (nth ss (j / 3), V (j / 3)) := by rw [nth_eq (by rw [hlen]; omega)]; simp
    rw [e4] at e2
    rw [e2] at hu
    have e5 : (⟨b, off, none⟩ : Addr).add j = ⟨b, off + j, none⟩ := by unfold Addr.add; split <;> simp_all
    rw [e5]
    have h4 : j % 3 = 0 ∨ j % 3 = 1 ∨ j % 3 = 2 := by omega
    rcases h4 with h4 | h4 | h4
    · rw [h4] at hu
      have : u = .string (nth ss (j / 3)).name := by simpa [pcells] using hu.symm
      rw [this, ← h1]; congr 2; omega
    · rw [h4] at hu
      have : u = V (j / 3) := by simpa [pcells] using hu.symm
      rw [this, ← h2]; congr 2; omega
    · rw [h4] at hu
      have : u = .bool (nth ss (j / 3)).undo := by simpa [pcells] using hu.symm
      rw [this, ← h3]; congr 2; omega
  · obtain ⟨j, hj, rfl⟩ := List.mem_map.1 hp
    have hj' : j < m := List.mem_range.1 hj
    obtain ⟨b, off, e, _, _, _⟩ := hr.2 (by omega)
    exact (hV j hj' b off e).1

theorem ps_hat {w : World} {base lo : Nat} {v : Value} {n : Nat} {ps : List (Step × Value)} (h1 : w.ownsRow base 47 3 v n (ps.flatMap pcells)) (h2 : ∀ p ∈ ps, ∃ A m c, p.2 = .slice A m c ∧ RH strE w lo base A m p.1.after) (hlo : lo ≤ base) (hn : 0 < n) (hbase : base ≤ w.heap.size) :
    ∃ b c, v = .slice (some ⟨b, 0, none⟩) n c ∧ base ≤ b ∧ RStep w lo (some ⟨b, 0, none⟩) n (ps.map (·.1)) := by
  have hl : ps.length = n := by have := h1.1; rw [flat_len pcells_len] at this; omega
  obtain ⟨A, c, hv, hf⟩ := own_form h1
  obtain ⟨b, e1, b1, b2, hc⟩ := hf hn
  subst e1
  refine ⟨b, c, hv, b1, by rw [List.length_map]; exact hl, fun _ => ⟨b, 0, rfl, by omega, b2, fun k hk => ?_⟩⟩
  have h3 : ∀ i u, i < 3 → (pcells (ps[k]'(by omega)))[i]? = some u → Cl w b (0 + k * 3 + i) u := fun i u hi hu => by
    have e2 := flat_at (α := Step × Value) (f := pcells) pcells_len ps k i (by omega) hi
    rw [nth_eq (by omega)] at e2
    have := hc (k * 3 + i) u (by rw [e2]; exact hu)
    rwa [Nat.zero_add]
  obtain ⟨A', m, c', e2, h4⟩ := h2 (ps[k]'(by omega)) (List.getElem_mem _)
  have e3 : nth (ps.map (·.1)) k = (ps[k]'(by omega)).1 := by rw [nth_eq (by rw [List.length_map]; omega)]; simp
  rw [e3]
  exact ⟨h3 0 _ (by omega) rfl, ⟨A', m, c', by have := h3 1 _ (by omega) rfl; rw [e2] at this; exact this, h4.up hbase⟩, h3 2 _ (by omega) rfl⟩

/-- A row of steps of the call's own whose lists lie below. -/
def HRow (w : World) (base lo : Nat) (v : Value) (n : Nat) (ss : List Step) : Prop :=
  ∃ ps : List (Step × Value), ps.map (·.1) = ss ∧ w.ownsRow base 47 3 v n (ps.flatMap pcells) ∧ ∀ p ∈ ps, ∃ A m c, p.2 = .slice A m c ∧ RH strE w lo base A m p.1.after
theorem HRow.alloc {w : World} {base lo n : Nat} {v : Value} {ss : List Step} (h : HRow w base lo v n ss) (hb : base ≤ w.heap.size) (o : Obj) : HRow (w.alloc o) base lo v n ss := by
  obtain ⟨ps, e, h1, h2⟩ := h
  refine ⟨ps, e, h1.alloc o, fun p hp => ?_⟩
  obtain ⟨A, m, c, e2, h3⟩ := h2 p hp
  exact ⟨A, m, c, e2, h3.below ((Below.refl base w).alloc hb o) (Nat.le_refl _)⟩
theorem HRow.set {w : World} {base lo n b o : Nat} {v u : Value} {ss : List Step} {cs : Array Value} {t : TypeId} (h : HRow w base lo v n ss) (hb : w.heap[b]? = some (.cells cs t (0, 0))) (ht : 47 ≠ t) (hle : base ≤ b) : HRow (w.setCell ⟨b, o, none⟩ u) base lo v n ss := by
  obtain ⟨ps, e, h1, h2⟩ := h
  refine ⟨ps, e, row_set h1 hb ht, fun p hp => ?_⟩
  obtain ⟨A, m, c, e2, h3⟩ := h2 p hp
  exact ⟨A, m, c, e2, h3.below ((Below.refl base w).setCell (p := ⟨b, o, none⟩) hle u) (Nat.le_refl _)⟩
theorem HRow.hat {w : World} {base lo n : Nat} {b c : Nat} {ss : List Step} (h : HRow w base lo (.slice (some ⟨b, 0, none⟩) n c) n ss) (hlo : lo ≤ base) (hn : 0 < n) (hbase : base ≤ w.heap.size) : RStep w lo (some ⟨b, 0, none⟩) n ss := by
  obtain ⟨ps, rfl, h1, h2⟩ := h
  obtain ⟨b', c', e, _, h3⟩ := ps_hat h1 h2 hlo hn hbase
  injection e with e1
  injection e1 with e2; injection e2 with e3
  subst e3
  exact h3
theorem step_new {w : World} {base b : Nat} (hb : base ≤ w.heap.size) (e : b = w.heap.size) : (w.alloc (.cells #[] 47)).ownsRow base 47 3 (.slice (some ⟨b, 0, none⟩) 0 0) 0 [] := by
  subst e
  exact World.ownsRow_made w #[] 0 hb (Nat.zero_le _) rfl

/-- 'append([]Step{}, steps...)', one step of a region. -/
theorem steps_step {w : World} {ops : Array Oper} {o : Oper} {a : Act} {K : Act → World → Prop} {Q : Exit → Act → World → Prop} {E : Prop} (base lo : Nat) (v : Value) (A : Option Addr) (m c : Nat) (ss : List Step) (hown : w.ownsRow base 47 3 v 0 [])
    (hr : RH stepE w lo base A m ss) (hgd : o.guard = none) (l x : Operand) (ho : o.op = .call { callee := .builtin .append, args := #[l, x], argTypes := #[55, 55] })
    (hs : a.eval l = v) (hx : a.eval x = .slice A m c) (hm : 0 < m) (hn : m ≤ 1048576) (hlo : lo ≤ base) (hbase : base ≤ w.heap.size)
    (h : ∀ b c' w', HRow w' base lo (.slice (some ⟨b, 0, none⟩) m c') m ss → base ≤ b → w.grownBy w' v.ownBlock → Below base w w' → K (a.put o.dst (.slice (some ⟨b, 0, none⟩) m c')) w') :
    if Region.wanted o (yielded ops a.tmps) = true then Oper.wp Try.prog o a w K Q else E := by
  have hw : Region.wanted o (yielded ops a.tmps) = true := by simp [Region.wanted, hgd]
  rw [if_pos hw]
  obtain ⟨ps, e, h1, h2⟩ := news_step hr
  have hpl : ps.length = m := by rw [← hr.1, ← e, List.length_map]
  refine wappl 55 47 3 48 _ Try.underlying55 info_step rfl (by omega) (by omega) base v 0 [] (ps.flatMap pcells) A m c hown l x ho hs hx (by rw [flat_len pcells_len, hpl]) h1 ?_ (by omega) hbase fun v' w' h3 h4 _ => ?_
  · intro u hu
    obtain ⟨p, hp, hu⟩ := List.mem_flatMap.1 hu
    obtain ⟨A', n', c', e2, _⟩ := h2 p hp
    simp [pcells, e2] at hu
    rcases hu with rfl | rfl | rfl <;> rfl
  · rw [Nat.zero_add, List.nil_append] at h3
    have hbel : Below base w w' := (Below.refl base w).grown h4 hbase (fun k hk => (hown.lt k hk).1)
    have h6 : ∀ p ∈ ps, ∃ A m c, p.2 = .slice A m c ∧ RH strE w' lo base A m p.1.after := fun p hp => by
      obtain ⟨A', n', c', e2, h5⟩ := h2 p hp
      exact ⟨A', n', c', e2, h5.below hbel (Nat.le_refl _)⟩
    obtain ⟨b, c', ev, hb, _⟩ := ps_hat h3 h6 hlo hm (Nat.le_trans hbase h4.size)
    subst ev
    exact h b c' w' ⟨ps, e, h3, h6⟩ hb h4 hbel
end Go.Proofs.Ytnlibaoegfdoeaa
