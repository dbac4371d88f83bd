/- Orders do not depend on what can be undone; who comes after less has no fewer orders. No program in sight. -/
import Derived.Test.YtnlibaoegfdoeaaPure3
namespace Go.Proofs.Ytnlibaoegfdoeaa
open Go.RowKit

/-- Steps of the same names that come after less. -/
structure Less (ss tt : List Step) : Prop where
  len : tt.length = ss.length
  name : ∀ j, j < ss.length → (nth tt j).name = (nth ss j).name
  after : ∀ j, j < ss.length → ∀ y ∈ (nth tt j).after, y ∈ (nth ss j).after

theorem Less.names {ss tt : List Step} (h : Less ss tt) : namesOf tt = namesOf ss := by
  refine list_ext (by rw [namesOf_len, namesOf_len]; exact h.len) ?_
  intro j hj
  rw [namesOf_len, h.len] at hj
  rw [namesOf_at (by rw [h.len]; exact hj), namesOf_at hj]
  exact h.name j hj
theorem Less.rdy {ss tt : List Step} (h : Less ss tt) {done : List Str} {j : Nat} (hj : j < ss.length) (hr : rdyB done (nth ss j) = true) : rdyB done (nth tt j) = true := by
  unfold rdyB at hr ⊢
  simp only [Bool.and_eq_true, Bool.not_eq_true'] at hr ⊢
  refine ⟨by rw [h.name j hj]; exact hr.1, haveB_iff.2 ?_⟩
  intro y hy
  exact haveB_iff.1 hr.2 y (h.after j hj y hy)
theorem Less.ready {ss tt : List Step} (h : Less ss tt) (done : List Str) : (rdyL ss done).Sublist (rdyL tt done) := by
  have key : ∀ k, k ≤ ss.length → (rdyTo ss done k).Sublist (rdyTo tt done k) := by
    intro k
    induction k with
    | zero => intro _; exact List.Sublist.refl _
    | succ k ih =>
      intro hk
      have i1 := ih (by omega)
      cases h1 : rdyB done (nth ss k) with
      | true =>
        rw [rdyTo_yes (by omega) h1, rdyTo_yes (by rw [h.len]; omega) (h.rdy (by omega) h1), h.name k (by omega)]
        exact List.Sublist.append i1 (List.Sublist.refl _)
      | false =>
        rw [rdyTo_no (by omega) h1]
        cases h2 : rdyB done (nth tt k) with
        | true =>
          rw [rdyTo_yes (by rw [h.len]; omega) h2]
          exact i1.trans (List.sublist_append_left _ _)
        | false =>
          rw [rdyTo_no (by rw [h.len]; omega) h2]
          exact i1
  have := key ss.length (Nat.le_refl _)
  rwa [rdyTo_all (Nat.le_refl _), rdyTo_all (by rw [h.len]; exact Nat.le_refl _)] at this

theorem sum_sub {α : Type} {f g : α → Nat} {xs ys : List α} (h : xs.Sublist ys) (hf : ∀ x, f x ≤ g x) : (xs.map f).sum ≤ (ys.map g).sum := by
  induction h with
  | slnil => simp
  | cons a _ ih => rw [List.map_cons, List.sum_cons]; omega
  | cons_cons a _ ih => rw [List.map_cons, List.sum_cons, List.map_cons, List.sum_cons]; have := hf a; omega
theorem Less.cnt {ss tt : List Step} (h : Less ss tt) : ∀ (k : Nat) (done : List Str), cnt ss k done ≤ cnt tt k done
  | 0, _ => Nat.le_refl _
  | k + 1, done => sum_sub (h.ready done) fun x => Less.cnt h k (done ++ [x])

theorem ord_full {tt : List Step} (h : ∀ done, Done tt done → done.length < tt.length → rdyL tt done ≠ []) : (ordL tt).length = tt.length := by
  have key : ∀ k, k ≤ tt.length → (ordTo tt k).length = k := by
    intro k
    induction k with
    | zero => intro _; rfl
    | succ k ih =>
      intro hk
      have i1 := ih (by omega)
      obtain ⟨n1, n2⟩ := ordTo_nodup tt k
      have := h (ordTo tt k) ⟨n1, n2⟩ (by omega)
      cases hr : rdyL tt (ordTo tt k) with
      | nil => exact absurd hr this
      | cons x r =>
        show (ordStep tt (ordTo tt k)).length = k + 1
        rw [ordStep_cons hr, List.length_append, i1]; rfl
  exact key tt.length (Nat.le_refl _)

theorem Less.full {ss tt : List Step} (h : Less ss tt) (hc : (ordL ss).length = ss.length) : (ordL tt).length = tt.length := by
  refine ord_full ?_
  intro done _ hl hnil
  have := ready_some hc (done := done) (by rw [← h.len]; exact hl)
  have h2 := h.ready done
  rw [hnil] at h2
  exact this (List.sublist_nil.1 h2)
theorem Less.flow {f : Flow} {tt : List Step} (h : Less f.steps tt) (hf : flowB f = true) (hs : ∀ j, j < f.steps.length → stepB (nth tt j) = true) : flowB ⟨f.ver, tt⟩ = true := by
  obtain ⟨h1, h2, h3, h4⟩ := flowB_iff.1 hf
  refine flowB_iff.2 ⟨?_, h2, ?_, h.full h4⟩
  · intro j hj
    have hj' : j < f.steps.length := by have := h.len; show j < _; rw [← this]; exact hj
    have := h1 j hj'
    unfold stepAt at this ⊢
    simp only [Bool.and_eq_true] at this ⊢
    refine ⟨⟨hs j hj', ?_⟩, ?_⟩
    · by_cases h0 : j = 0
      · simp [h0]
      · show (decide (j = 0) || strLt (nth tt (j - 1)).name (nth tt j).name) = true
        rw [h.name (j - 1) (by omega), h.name j hj']; exact this.1.2
    · refine haveB_iff.2 ?_
      intro y hy
      show y ∈ namesOf tt
      rw [h.names]
      exact haveB_iff.1 this.2 y (h.after j hj' y hy)
  · show 1 ≤ tt.length ∧ tt.length ≤ 8
    rw [h.len]; exact h3

theorem step_ok {f : Flow} {j : Nat} (hf : flowB f = true) (hj : j < f.steps.length) : stepB (nth f.steps j) = true := by
  have := (flowB_iff.1 hf).1 j hj
  unfold stepAt at this
  simp only [Bool.and_eq_true] at this
  exact this.1.1
theorem stepB_undo (s : Step) (b : Bool) : stepB { s with undo := b } = stepB s := rfl
theorem stepB_nil {s : Step} (h : stepB s = true) : stepB { s with after := [] } = true := by
  unfold stepB at h ⊢
  simp only [Bool.and_eq_true] at h ⊢
  refine ⟨⟨⟨?_, h.1.1.2⟩, ?_⟩, ?_⟩
  · exact allN_iff.2 (fun j hj => absurd hj (by simp))
  · simp [hasB]
  · simp

/-- The steps that can be undone change. -/
theorem less_undo {ss tt : List Step} (hl : tt.length = ss.length) (h : ∀ j, j < ss.length → ∃ b, nth tt j = { nth ss j with undo := b }) : Less ss tt ∧ Less tt ss := by
  refine ⟨⟨hl, ?_, ?_⟩, ⟨hl.symm, ?_, ?_⟩⟩
  · intro j hj; obtain ⟨b, e⟩ := h j hj; rw [e]
  · intro j hj y hy; obtain ⟨b, e⟩ := h j hj; rw [e] at hy; exact hy
  · intro j hj; obtain ⟨b, e⟩ := h j (by omega); rw [e]
  · intro j hj y hy; obtain ⟨b, e⟩ := h j (by omega); rw [e]; exact hy
theorem less_undo_flow {f : Flow} {tt : List Step} (hf : flowB f = true) (hl : tt.length = f.steps.length) (h : ∀ j, j < f.steps.length → ∃ b, nth tt j = { nth f.steps j with undo := b }) :
    flowB ⟨f.ver, tt⟩ = true ∧ ∀ k done, cnt tt k done = cnt f.steps k done := by
  obtain ⟨h1, h2⟩ := less_undo hl h
  refine ⟨h1.flow hf ?_, fun k done => Nat.le_antisymm (h2.cnt k done) (h1.cnt k done)⟩
  intro j hj
  obtain ⟨b, e⟩ := h j hj
  rw [e, stepB_undo]
  exact step_ok hf hj
theorem less_last {f : Flow} {tt : List Step} {j0 : Nat} (hf : flowB f = true) (hj0 : j0 < f.steps.length) (e : tt = f.steps.set j0 { nth f.steps j0 with after := [] }) :
    flowB ⟨f.ver, tt⟩ = true ∧ ∀ k done, cnt f.steps k done ≤ cnt tt k done := by
  have hat : ∀ j, j < f.steps.length → nth tt j = if j = j0 then { nth f.steps j0 with after := [] } else nth f.steps j := by
    intro j _; rw [e, nth_set hj0]
  have h : Less f.steps tt := by
    refine ⟨by rw [e, List.length_set], ?_, ?_⟩
    · intro j hj
      rw [hat j hj]
      by_cases h0 : j = j0
      · rw [if_pos h0, h0]
      · rw [if_neg h0]
    · intro j hj y hy
      rw [hat j hj] at hy
      by_cases h0 : j = j0
      · rw [if_pos h0] at hy; cases hy
      · rw [if_neg h0] at hy; exact hy
  refine ⟨h.flow hf ?_, h.cnt⟩
  intro j hj
  rw [hat j hj]
  by_cases h0 : j = j0
  · rw [if_pos h0]; exact stepB_nil (step_ok hf hj0)
  · rw [if_neg h0]; exact step_ok hf hj
end Go.Proofs.Ytnlibaoegfdoeaa
