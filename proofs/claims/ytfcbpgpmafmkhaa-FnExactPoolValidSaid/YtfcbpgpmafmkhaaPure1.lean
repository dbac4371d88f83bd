/- Flows: what is ready, in which order; which flows are valid. No program in sight. -/
import Derived.Test.YtfcbpgpmafmkhaaBase
namespace Go.Proofs.Ytfcbpgpmafmkhaa
open Go.RowKit

structure Flow where
  ver : Int
  steps : List Step
  deriving Inhabited

def okS (xs : List Str) : Prop := xs.length ≤ 1048576 ∧ ∀ j, j < xs.length → (nth xs j).size ≤ maxLen
def okStep (s : Step) : Prop := s.name.size ≤ maxLen ∧ okS s.after
def stepB (s : Step) : Bool := ascB s.after && nameB s.name && !hasB s.after s.name && decide (s.after.length ≤ 4)
def okSteps (ss : List Step) : Prop := ss.length ≤ 1048576 ∧ ∀ j, j < ss.length → okStep (nth ss j)

def namesOf (ss : List Step) : List Str := ss.map (·.name)
theorem namesOf_len (ss : List Step) : (namesOf ss).length = ss.length := by simp [namesOf]
theorem namesOf_at {ss : List Step} {k : Nat} (hk : k < ss.length) : nth (namesOf ss) k = (nth ss k).name := by
  rw [nth_eq (by rw [namesOf_len]; exact hk), nth_eq hk]; simp [namesOf]
theorem namesOf_ok {ss : List Step} (h : okSteps ss) : okS (namesOf ss) :=
  ⟨by rw [namesOf_len]; exact h.1, fun j hj => by rw [namesOf_len] at hj; rw [namesOf_at hj]; exact (h.2 j hj).1⟩

/-- A step is not done, but all that it comes after is. -/
def rdyB (done : List Str) (s : Step) : Bool := !hasB done s.name && haveB done s.after
def rdyTo (ss : List Step) (done : List Str) (k : Nat) : List Str := ((ss.take k).filter (rdyB done)).map (·.name)
def rdyL (ss : List Step) (done : List Str) : List Str := (ss.filter (rdyB done)).map (·.name)
theorem rdyTo_yes {ss : List Step} {done : List Str} {k : Nat} (hk : k < ss.length) (h : rdyB done (nth ss k) = true) : rdyTo ss done (k + 1) = rdyTo ss done k ++ [(nth ss k).name] := by
  unfold rdyTo; rw [take_nth hk, List.filter_append, List.map_append]; simp [h]
theorem rdyTo_no {ss : List Step} {done : List Str} {k : Nat} (hk : k < ss.length) (h : rdyB done (nth ss k) = false) : rdyTo ss done (k + 1) = rdyTo ss done k := by
  unfold rdyTo; rw [take_nth hk, List.filter_append, List.map_append]; simp [h]
theorem rdyTo_len (ss : List Step) (done : List Str) (k : Nat) : (rdyTo ss done k).length ≤ k := by
  unfold rdyTo; rw [List.length_map]
  exact Nat.le_trans (List.length_filter_le _ _) (List.length_take_le _ _)
theorem rdyTo_all {ss : List Step} {done : List Str} {k : Nat} (hk : ss.length ≤ k) : rdyTo ss done k = rdyL ss done := by
  unfold rdyTo rdyL; rw [List.take_of_length_le hk]
theorem rdyL_len (ss : List Step) (done : List Str) : (rdyL ss done).length ≤ ss.length := by
  unfold rdyL; rw [List.length_map]; exact List.length_filter_le _ _
theorem rdyL_mem {ss : List Step} {done : List Str} {x : Str} : x ∈ rdyL ss done ↔ ∃ s ∈ ss, rdyB done s = true ∧ s.name = x := by
  unfold rdyL; simp [List.mem_map, List.mem_filter, and_assoc]
theorem rdyL_new {ss : List Step} {done : List Str} {x : Str} (h : x ∈ rdyL ss done) : x ∉ done ∧ x ∈ namesOf ss := by
  obtain ⟨s, hs, hr, rfl⟩ := rdyL_mem.1 h
  unfold rdyB at hr
  simp only [Bool.and_eq_true, Bool.not_eq_true'] at hr
  exact ⟨hasB_false.1 hr.1, List.mem_map.2 ⟨s, hs, rfl⟩⟩

/-- The first step that is ready. -/
theorem rdyL_first {ss : List Step} {done : List Str} {k : Nat} (hp : ∀ j, j < k → rdyB done (nth ss j) = false) (hk : k < ss.length) (h : rdyB done (nth ss k) = true) : ∃ r, rdyL ss done = (nth ss k).name :: r := by
  have e : rdyL ss done = rdyTo ss done k ++ ((ss.drop k).filter (rdyB done)).map (·.name) := by
    unfold rdyL rdyTo
    rw [← List.map_append, ← List.filter_append, List.take_append_drop]
  have e2 : ss.drop k = nth ss k :: ss.drop (k + 1) := by rw [nth_eq hk]; exact List.drop_eq_getElem_cons hk
  have e3 : rdyTo ss done k = [] := by
    unfold rdyTo
    rw [List.map_eq_nil_iff, List.filter_eq_nil_iff]
    intro a ha
    obtain ⟨j, hj, rfl⟩ := nth_of_mem ha
    rw [List.length_take] at hj
    have e4 : nth (ss.take k) j = nth ss j := by rw [nth_eq (by rw [List.length_take]; exact hj), nth_eq (by omega), List.getElem_take]
    rw [e4, hp j (by omega)]; simp
  rw [e, e3, e2, List.filter_cons_of_pos h, List.map_cons]
  exact ⟨_, rfl⟩
theorem rdyL_none {ss : List Step} {done : List Str} (hp : ∀ j, j < ss.length → rdyB done (nth ss j) = false) : rdyL ss done = [] := by
  unfold rdyL
  rw [List.map_eq_nil_iff, List.filter_eq_nil_iff]
  intro a ha
  obtain ⟨j, hj, rfl⟩ := nth_of_mem ha
  rw [hp j hj]; simp

/-- One step more, the first one that is ready. -/
def ordStep (ss : List Step) (o : List Str) : List Str := match rdyL ss o with
  | [] => o
  | x :: _ => o ++ [x]
def ordTo (ss : List Step) : Nat → List Str
  | 0 => []
  | k + 1 => ordStep ss (ordTo ss k)
def ordL (ss : List Step) : List Str := ordTo ss ss.length
theorem ordStep_nil {ss : List Step} {o : List Str} (h : rdyL ss o = []) : ordStep ss o = o := by unfold ordStep; rw [h]
theorem ordStep_cons {ss : List Step} {o : List Str} {x : Str} {r : List Str} (h : rdyL ss o = x :: r) : ordStep ss o = o ++ [x] := by unfold ordStep; rw [h]
theorem ordTo_len (ss : List Step) : ∀ k, (ordTo ss k).length ≤ k
  | 0 => by simp [ordTo]
  | k + 1 => by
    have := ordTo_len ss k
    rw [ordTo]
    cases h : rdyL ss (ordTo ss k) with
    | nil => rw [ordStep_nil h]; omega
    | cons x r => rw [ordStep_cons h, List.length_append]; simp; omega
theorem ordTo_nodup (ss : List Step) : ∀ k, (ordTo ss k).Nodup ∧ ∀ x ∈ ordTo ss k, x ∈ namesOf ss
  | 0 => by simp [ordTo]
  | k + 1 => by
    obtain ⟨h1, h2⟩ := ordTo_nodup ss k
    rw [ordTo]
    cases h : rdyL ss (ordTo ss k) with
    | nil => rw [ordStep_nil h]; exact ⟨h1, h2⟩
    | cons x r =>
      rw [ordStep_cons h]
      obtain ⟨h3, h4⟩ := rdyL_new (ss := ss) (done := ordTo ss k) (x := x) (by rw [h]; simp)
      refine ⟨List.nodup_append.2 ⟨h1, by simp, by intro a ha b hb; simp at hb; subst hb; rintro rfl; exact h3 ha⟩, fun y hy => ?_⟩
      rcases List.mem_append.1 hy with h5 | h5
      · exact h2 y h5
      · simp at h5; subst h5; exact h4
theorem nodup_le {α : Type} [DecidableEq α] : ∀ {xs ys : List α}, xs.Nodup → (∀ x ∈ xs, x ∈ ys) → xs.length ≤ ys.length
  | [], _, _, _ => by simp
  | x :: xs, ys, hn, hs => by
    have hx := hs x (by simp)
    have h1 := List.nodup_cons.1 hn
    have : xs.length ≤ (ys.erase x).length := nodup_le h1.2 (fun y hy => (List.mem_erase_of_ne (by rintro rfl; exact h1.1 hy)).2 (hs y (by simp [hy])))
    rw [List.length_erase_of_mem hx] at this
    have h2 : 0 < ys.length := List.length_pos_of_mem hx
    simp
    omega
theorem ordTo_len2 (ss : List Step) (k : Nat) : (ordTo ss k).length ≤ ss.length := by
  obtain ⟨h1, h2⟩ := ordTo_nodup ss k
  have := nodup_le h1 h2
  rwa [namesOf_len] at this
theorem ordTo_stop {ss : List Step} {k : Nat} (h : rdyL ss (ordTo ss k) = []) : ∀ m, k ≤ m → ordTo ss m = ordTo ss k := by
  intro m hm
  obtain ⟨d, rfl⟩ : ∃ d, m = k + d := ⟨m - k, by omega⟩
  induction d with
  | zero => rfl
  | succ d ih =>
    have := ih (by omega)
    show ordStep ss (ordTo ss (k + d)) = _
    rw [this, ordStep_nil h]
/-- Where all rounds up to now had a step ready, there are as many as rounds. -/
theorem ordTo_end {ss : List Step} {k : Nat} (hl : (ordTo ss k).length = k) (h : rdyL ss (ordTo ss k) = []) : ordTo ss k = ordL ss :=
  (ordTo_stop h ss.length (by have := ordTo_len2 ss k; omega)).symm

def stepAt (ss : List Step) (j : Nat) : Bool :=
  stepB (nth ss j) && (decide (j = 0) || strLt (nth ss (j - 1)).name (nth ss j).name) && haveB (namesOf ss) (nth ss j).after
def flowB (f : Flow) : Bool :=
  allN f.steps.length (stepAt f.steps) && inB f.ver 1 99 && inB f.steps.length 1 8 && decide ((ordL f.steps).length = f.steps.length)

theorem flowB_iff {f : Flow} : flowB f = true ↔ (∀ j, j < f.steps.length → stepAt f.steps j = true) ∧ (1 ≤ f.ver ∧ f.ver ≤ 99) ∧ (1 ≤ f.steps.length ∧ f.steps.length ≤ 8) ∧ (ordL f.steps).length = f.steps.length := by
  unfold flowB inB
  simp only [Bool.and_eq_true, decide_eq_true_eq, allN_iff]
  constructor
  · rintro ⟨⟨⟨h1, h2⟩, h3⟩, h4⟩
    exact ⟨h1, h2, by omega, h4⟩
  · rintro ⟨h1, h2, h3, h4⟩
    exact ⟨⟨⟨h1, h2⟩, by omega⟩, h4⟩
end Go.Proofs.Ytfcbpgpmafmkhaa
