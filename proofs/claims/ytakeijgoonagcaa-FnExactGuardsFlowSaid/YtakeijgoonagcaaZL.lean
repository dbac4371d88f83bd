/- Contracts of functions and plain lemmas, joined. No condition but those that each states. -/
import Derived.Deep.DeepCutAuto
import Derived.Deep.RegionHeld3
import Derived.Test.YtakeijgoonagcaaZB
import Derived.Test.YtakeijgoonagcaaZC
import Derived.Test.YtakeijgoonagcaaZA
import Derived.Test.YtakeijgoonagcaaZF
import Derived.Test.YtakeijgoonagcaaZH
import Derived.Test.YtakeijgoonagcaaZK

/- Levels of a flow: depth and width. No program in sight. -/
namespace Go.Proofs.Ytakeijgoonagcaa
open Go.RowKit

/-- What is done after k levels. -/
def lvDone (ss : List Step) : Nat → List Str
  | 0 => []
  | k + 1 => lvDone ss k ++ rdyL ss (lvDone ss k)
/-- How many steps level k has. -/
def lvLen (ss : List Step) (k : Nat) : Nat := (rdyL ss (lvDone ss k)).length
theorem lvDone_len (ss : List Step) (k : Nat) : (lvDone ss (k + 1)).length = (lvDone ss k).length + lvLen ss k := by
  simp [lvDone, lvLen]

theorem Done.all {ss : List Step} {done : List Str} (hn : (namesOf ss).Nodup) (h : Done ss done) : Done ss (done ++ rdyL ss done) := by
  refine ⟨?_, ?_⟩
  · rw [List.nodup_append]
    refine ⟨h.nodup, rdyL_nodup hn, ?_⟩
    intro a ha b hb e
    subst e
    exact (rdyL_new hb).1 ha
  · intro x hx
    rcases List.mem_append.1 hx with hx | hx
    · exact h.sub x hx
    · exact (rdyL_new hx).2
theorem lvDone_done {ss : List Step} (hn : (namesOf ss).Nodup) : ∀ k, Done ss (lvDone ss k)
  | 0 => Done.nil
  | k + 1 => (lvDone_done hn k).all hn
theorem lvLen_pos {ss : List Step} {k : Nat} (hc : (ordL ss).length = ss.length) (hlt : (lvDone ss k).length < ss.length) : 1 ≤ lvLen ss k := by
  have := ready_some hc hlt
  unfold lvLen
  cases h : rdyL ss (lvDone ss k) with
  | nil => exact absurd h this
  | cons x r => simp

/-- The levels end behind d of them. -/
structure Lv (ss : List Step) (d : Nat) : Prop where
  stop : ss.length ≤ (lvDone ss d).length
  go : ∀ j, j < d → (lvDone ss j).length < ss.length

def depthFrom (ss : List Step) : Nat → Nat → Nat
  | 0, k => k
  | f + 1, k => if (lvDone ss k).length < ss.length then depthFrom ss f (k + 1) else k
def depthL (ss : List Step) : Nat := depthFrom ss ss.length 0
theorem depthFrom_at {ss : List Step} {d : Nat} (h : Lv ss d) : ∀ f k, k ≤ d → d ≤ k + f → depthFrom ss f k = d
  | 0, k, h1, h2 => by show k = d; omega
  | f + 1, k, h1, h2 => by
    show (if (lvDone ss k).length < ss.length then depthFrom ss f (k + 1) else k) = d
    by_cases hk : k = d
    · subst hk
      rw [if_neg (by have := h.stop; omega)]
    · rw [if_pos (h.go k (by omega))]
      exact depthFrom_at h f (k + 1) (by omega) (by omega)

theorem lv_grow {ss : List Step} (hc : (ordL ss).length = ss.length) {d : Nat} (h : ∀ j, j < d → (lvDone ss j).length < ss.length) : ∀ k, k ≤ d → k ≤ (lvDone ss k).length
  | 0, _ => Nat.zero_le _
  | k + 1, hk => by
    have h1 := lv_grow hc h k (by omega)
    have h2 := lvLen_pos hc (h k (by omega))
    rw [lvDone_len]; omega
theorem Lv.le {ss : List Step} {d : Nat} (hc : (ordL ss).length = ss.length) (h : ∀ j, j < d → (lvDone ss j).length < ss.length) : d ≤ ss.length := by
  rcases Nat.eq_zero_or_pos d with h0 | h0
  · omega
  · have h1 := lv_grow hc h (d - 1) (by omega)
    have h2 := h (d - 1) (by omega)
    omega
theorem depthL_at {ss : List Step} {d : Nat} (hc : (ordL ss).length = ss.length) (h : Lv ss d) : depthL ss = d :=
  depthFrom_at h ss.length 0 (Nat.zero_le _) (by have := Lv.le hc h.go; omega)
theorem Lv.full {ss : List Step} {d : Nat} (hn : (namesOf ss).Nodup) (h : Lv ss d) : (lvDone ss d).length = ss.length := by
  have h1 := (lvDone_done hn d).len
  have h2 := h.stop
  omega
theorem Lv.pos {ss : List Step} {d : Nat} (h : Lv ss d) (h1 : 1 ≤ ss.length) : 1 ≤ d := by
  rcases Nat.eq_zero_or_pos d with h0 | h0
  · subst h0
    have := h.stop
    simp [lvDone] at this
    rw [this] at h1; simp at h1
  · exact h0

/-- The size of the largest of the first k levels. -/
def wideTo (ss : List Step) : Nat → Nat
  | 0 => 0
  | k + 1 => max (wideTo ss k) (lvLen ss k)
def wideL (ss : List Step) : Nat := wideTo ss (depthL ss)

theorem wideTo_ge {ss : List Step} : ∀ k j, j < k → lvLen ss j ≤ wideTo ss k
  | 0, j, h => by omega
  | k + 1, j, h => by
    show lvLen ss j ≤ max (wideTo ss k) (lvLen ss k)
    by_cases hj : j = k
    · subst hj; omega
    · have := wideTo_ge (ss := ss) k j (by omega); omega
theorem wide_mul {ss : List Step} : ∀ k, (lvDone ss k).length ≤ k * wideTo ss k
  | 0 => by simp [lvDone]
  | k + 1 => by
    have h1 := wide_mul (ss := ss) k
    rw [lvDone_len, Nat.succ_mul]
    have h2 : wideTo ss (k + 1) = max (wideTo ss k) (lvLen ss k) := rfl
    have h3 : k * wideTo ss k ≤ k * wideTo ss (k + 1) := Nat.mul_le_mul_left _ (by omega)
    omega
theorem wide_sum {ss : List Step} (hc : (ordL ss).length = ss.length) {d : Nat} (h : ∀ j, j < d → (lvDone ss j).length < ss.length) : ∀ k, k ≤ d → 1 ≤ k → wideTo ss k + k ≤ (lvDone ss k).length + 1
  | 0, _, h1 => by omega
  | k + 1, hk, _ => by
    have h2 : wideTo ss (k + 1) = max (wideTo ss k) (lvLen ss k) := rfl
    have h3 := lvLen_pos hc (h k (by omega))
    have h4 := lv_grow hc h k (by omega)
    rw [lvDone_len]
    by_cases h0 : k = 0
    · subst h0
      have : wideTo ss 0 = 0 := rfl
      omega
    · have h5 := wide_sum hc h k (by omega) (by omega)
      omega

/-- What a valid flow's levels say. -/
theorem lv_laws {ss : List Step} {d : Nat} (hn : (namesOf ss).Nodup) (hc : (ordL ss).length = ss.length) (h1 : 1 ≤ ss.length) (h : Lv ss d) :
    1 ≤ d ∧ d ≤ ss.length ∧ ss.length ≤ d * wideTo ss d ∧ wideTo ss d + d ≤ ss.length + 1 ∧ lvLen ss 0 ≤ wideTo ss d := by
  have hd := h.pos h1
  refine ⟨hd, Lv.le hc h.go, ?_, ?_, wideTo_ge d 0 (by omega)⟩
  · have := wide_mul (ss := ss) d
    rw [h.full hn] at this; exact this
  · have := wide_sum hc h.go d (Nat.le_refl _) hd
    rw [h.full hn] at this; exact this
theorem lv_one {ss : List Step} {d : Nat} (hn : (namesOf ss).Nodup) (hc : (ordL ss).length = ss.length) (h1 : 1 ≤ ss.length) (h : Lv ss d) :
    (wideTo ss d = ss.length ↔ d = 1) ∧ (d = 1 ↔ lvLen ss 0 = ss.length) := by
  obtain ⟨a1, a2, a3, a4, a5⟩ := lv_laws hn hc h1 h
  have e1 : (lvDone ss 1).length = lvLen ss 0 := by rw [lvDone_len]; simp [lvDone]
  have e2 : wideTo ss 1 = lvLen ss 0 := by show max 0 (lvLen ss 0) = _; omega
  have k1 : d = 1 → lvLen ss 0 = ss.length := by rintro rfl; rw [← e1]; exact h.full hn
  have k2 : lvLen ss 0 = ss.length → d = 1 := by
    intro hl
    by_cases hd : d = 1
    · exact hd
    · have := h.go 1 (by omega)
      omega
  refine ⟨⟨fun hw => by omega, fun hd => ?_⟩, k1, k2⟩
  have := k1 hd
  subst hd
  omega

/-- All steps come after nothing. -/
theorem lv_after {ss : List Step} : lvLen ss 0 = ss.length ↔ ∀ j, j < ss.length → (nth ss j).after.length = 0 := by
  have hb : ∀ s : Step, rdyB [] s = true ↔ s.after.length = 0 := by
    intro s
    unfold rdyB
    simp only [Bool.and_eq_true, Bool.not_eq_true']
    constructor
    · rintro ⟨_, h⟩
      have := haveB_iff.1 h
      rcases Nat.eq_zero_or_pos s.after.length with h0 | h0
      · exact h0
      · have := this _ (mem_nth h0); cases this
    · intro h
      refine ⟨hasB_false.2 (by simp), haveB_iff.2 ?_⟩
      intro y hy
      have := List.length_pos_of_mem hy
      omega
  have h1 : lvLen ss 0 = (ss.filter (rdyB [])).length := by unfold lvLen rdyL; rw [List.length_map]; rfl
  rw [h1]
  constructor
  · intro h j hj
    have h2 := List.length_filter_eq_length_iff.1 h (nth ss j) (mem_nth hj)
    exact (hb _).1 h2
  · intro h
    refine List.length_filter_eq_length_iff.2 ?_
    intro s hs
    obtain ⟨k, hk, rfl⟩ := nth_of_mem hs
    exact (hb _).2 (h k hk)

theorem sum_ge_len {xs : List Nat} (h : ∀ x ∈ xs, 1 ≤ x) : xs.length ≤ xs.sum := by
  induction xs with
  | nil => simp
  | cons a r ih =>
    have h1 := h a (by simp)
    have h2 := ih (fun x hx => h x (by simp [hx]))
    rw [List.sum_cons, List.length_cons]
    omega
theorem cnt_ge {ss : List Step} (hc : (ordL ss).length = ss.length) {k : Nat} {done : List Str} (hk : k + 1 + done.length = ss.length) : (rdyL ss done).length ≤ cnt ss (k + 1) done := by
  show _ ≤ ((rdyL ss done).map fun x => cnt ss k (done ++ [x])).sum
  have := sum_ge_len (xs := (rdyL ss done).map fun x => cnt ss k (done ++ [x])) (by
    intro y hy
    obtain ⟨x, _, rfl⟩ := List.mem_map.1 hy
    exact cnt_pos hc k _ (by rw [List.length_append]; simp; omega))
  rwa [List.length_map] at this
theorem cnt_single {ss : List Step} {k : Nat} {done : List Str} (h : (rdyL ss done).length = 1) : cnt ss (k + 1) done = cnt ss k (done ++ rdyL ss done) := by
  obtain ⟨x, hx⟩ := List.length_eq_one_iff.1 h
  show ((rdyL ss done).map fun x => cnt ss k (done ++ [x])).sum = _
  rw [hx]; simp

/-- Who is always alone has one order. -/
theorem orders_one {ss : List Step} {d : Nat} (hn : (namesOf ss).Nodup) (hc : (ordL ss).length = ss.length) (h1 : 1 ≤ ss.length) (h : Lv ss d) : wideTo ss d = 1 ↔ cnt ss ss.length [] = 1 := by
  obtain ⟨a1, a2, a3, a4, a5⟩ := lv_laws hn hc h1 h
  constructor
  · intro hw
    have hone : ∀ j, j < d → lvLen ss j = 1 := fun j hj => by
      have b1 := lvLen_pos hc (h.go j hj)
      have b2 := wideTo_ge (ss := ss) d j hj
      omega
    have hdl : ∀ j, j ≤ d → (lvDone ss j).length = j := by
      intro j
      induction j with
      | zero => intro _; rfl
      | succ j ih => intro hj; rw [lvDone_len, ih (by omega), hone j (by omega)]
    have hdn : d = ss.length := by have := h.full hn; rw [hdl d (Nat.le_refl _)] at this; exact this
    have key : ∀ m j, j + m = d → cnt ss m (lvDone ss j) = 1 := by
      intro m
      induction m with
      | zero => intro j _; rfl
      | succ m ih =>
        intro j hj
        rw [cnt_single (hone j (by omega))]
        exact ih (j + 1) (by omega)
    have := key d 0 (by omega)
    rw [hdn] at this
    exact this
  · intro hcnt
    have key : ∀ j, j ≤ d → (∀ i, i < j → lvLen ss i = 1) ∧ (lvDone ss j).length = j ∧ cnt ss (ss.length - j) (lvDone ss j) = 1 := by
      intro j
      induction j with
      | zero => intro _; exact ⟨fun i hi => by omega, rfl, hcnt⟩
      | succ j ih =>
        intro hj
        obtain ⟨b1, b2, b3⟩ := ih (by omega)
        have b4 := h.go j (by omega)
        obtain ⟨m, hm⟩ : ∃ m, ss.length - j = m + 1 := ⟨ss.length - j - 1, by omega⟩
        rw [hm] at b3
        have b5 := cnt_ge hc (k := m) (done := lvDone ss j) (by omega)
        have b6 := lvLen_pos hc b4
        have b7 : lvLen ss j = 1 := by
          have : lvLen ss j = (rdyL ss (lvDone ss j)).length := rfl
          omega
        refine ⟨?_, by rw [lvDone_len, b2, b7], ?_⟩
        · intro i hi
          by_cases hij : i = j
          · subst hij; exact b7
          · exact b1 i (by omega)
        · rw [cnt_single b7] at b3
          rw [show ss.length - (j + 1) = m by omega]
          exact b3
    have hone := (key d (Nat.le_refl _)).1
    have : ∀ k, k ≤ d → wideTo ss k ≤ 1 := by
      intro k
      induction k with
      | zero => intro _; exact Nat.zero_le _
      | succ k ih =>
        intro hk
        show max (wideTo ss k) (lvLen ss k) ≤ 1
        have c1 := ih (by omega)
        have c2 := hone k (by omega)
        omega
    have c1 := this d (Nat.le_refl _)
    have c2 := lvLen_pos hc (h.go 0 (by omega))
    omega

/-- A flow whose steps' names ascend and whose levels come to an end. -/
theorem lv_ex {ss : List Step} (hn : (namesOf ss).Nodup) (hc : (ordL ss).length = ss.length) : ∃ d, Lv ss d := by
  have key : ∀ m k, m + (lvDone ss k).length = ss.length → (∀ j, j < k → (lvDone ss j).length < ss.length) → ∃ d, Lv ss d := by
    intro m
    induction m using Nat.strongRecOn with
    | ind m ih =>
      intro k hm hg
      by_cases h0 : m = 0
      · exact ⟨k, by omega, hg⟩
      · have b1 := lvLen_pos hc (k := k) (by omega)
        have b2 := (lvDone_done hn (k + 1)).len
        have b3 := lvDone_len ss k
        refine ih (m - lvLen ss k) (by omega) (k + 1) (by omega) ?_
        intro j hj
        by_cases hjk : j = k
        · subst hjk; omega
        · exact hg j (by omega)
  exact key ss.length 0 (by simp [lvDone]) (fun j hj => by omega)
end Go.Proofs.Ytakeijgoonagcaa

/- Orders do not depend on what can be undone; who comes after less has no fewer orders. No program in sight. -/
namespace Go.Proofs.Ytakeijgoonagcaa
open Go.RowKit

/-- Steps of the same names that come after less. -/
structure Less (ss tt : List Step) : Prop where
  len : tt.length = ss.length
  name : ∀ j, j < ss.length → (nth tt j).name = (nth ss j).name
  after : ∀ j, j < ss.length → ∀ y ∈ (nth tt j).after, y ∈ (nth ss j).after

theorem Less.names {ss tt : List Step} (h : Less ss tt) : namesOf tt = namesOf ss := by
  refine list_ext (by rw [namesOf_len, namesOf_len]; exact h.len) ?_
  intro j hj
  rw [namesOf_len, h.len] at hj
  rw [namesOf_at (by rw [h.len]; exact hj), namesOf_at hj]
  exact h.name j hj
theorem Less.rdy {ss tt : List Step} (h : Less ss tt) {done : List Str} {j : Nat} (hj : j < ss.length) (hr : rdyB done (nth ss j) = true) : rdyB done (nth tt j) = true := by
  unfold rdyB at hr ⊢
  simp only [Bool.and_eq_true, Bool.not_eq_true'] at hr ⊢
  refine ⟨by rw [h.name j hj]; exact hr.1, haveB_iff.2 ?_⟩
  intro y hy
  exact haveB_iff.1 hr.2 y (h.after j hj y hy)
theorem Less.ready {ss tt : List Step} (h : Less ss tt) (done : List Str) : (rdyL ss done).Sublist (rdyL tt done) := by
  have key : ∀ k, k ≤ ss.length → (rdyTo ss done k).Sublist (rdyTo tt done k) := by
    intro k
    induction k with
    | zero => intro _; exact List.Sublist.refl _
    | succ k ih =>
      intro hk
      have i1 := ih (by omega)
      cases h1 : rdyB done (nth ss k) with
      | true =>
        rw [rdyTo_yes (by omega) h1, rdyTo_yes (by rw [h.len]; omega) (h.rdy (by omega) h1), h.name k (by omega)]
        exact List.Sublist.append i1 (List.Sublist.refl _)
      | false =>
        rw [rdyTo_no (by omega) h1]
        cases h2 : rdyB done (nth tt k) with
        | true =>
          rw [rdyTo_yes (by rw [h.len]; omega) h2]
          exact i1.trans (List.sublist_append_left _ _)
        | false =>
          rw [rdyTo_no (by rw [h.len]; omega) h2]
          exact i1
  have := key ss.length (Nat.le_refl _)
  rwa [rdyTo_all (Nat.le_refl _), rdyTo_all (by rw [h.len]; exact Nat.le_refl _)] at this

theorem sum_sub {α : Type} {f g : α → Nat} {xs ys : List α} (h : xs.Sublist ys) (hf : ∀ x, f x ≤ g x) : (xs.map f).sum ≤ (ys.map g).sum := by
  induction h with
  | slnil => simp
  | cons a _ ih => rw [List.map_cons, List.sum_cons]; omega
  | cons_cons a _ ih => rw [List.map_cons, List.sum_cons, List.map_cons, List.sum_cons]; have := hf a; omega
theorem Less.cnt {ss tt : List Step} (h : Less ss tt) : ∀ (k : Nat) (done : List Str), cnt ss k done ≤ cnt tt k done
  | 0, _ => Nat.le_refl _
  | k + 1, done => sum_sub (h.ready done) fun x => Less.cnt h k (done ++ [x])

theorem ord_full {tt : List Step} (h : ∀ done, Done tt done → done.length < tt.length → rdyL tt done ≠ []) : (ordL tt).length = tt.length := by
  have key : ∀ k, k ≤ tt.length → (ordTo tt k).length = k := by
    intro k
    induction k with
    | zero => intro _; rfl
    | succ k ih =>
      intro hk
      have i1 := ih (by omega)
      obtain ⟨n1, n2⟩ := ordTo_nodup tt k
      have := h (ordTo tt k) ⟨n1, n2⟩ (by omega)
      cases hr : rdyL tt (ordTo tt k) with
      | nil => exact absurd hr this
      | cons x r =>
        show (ordStep tt (ordTo tt k)).length = k + 1
        rw [ordStep_cons hr, List.length_append, i1]; rfl
  exact key tt.length (Nat.le_refl _)

theorem Less.full {ss tt : List Step} (h : Less ss tt) (hc : (ordL ss).length = ss.length) : (ordL tt).length = tt.length := by
  refine ord_full ?_
  intro done _ hl hnil
  have := ready_some hc (done := done) (by rw [← h.len]; exact hl)
  have h2 := h.ready done
  rw [hnil] at h2
  exact this (List.sublist_nil.1 h2)
theorem Less.flow {f : Flow} {tt : List Step} (h : Less f.steps tt) (hf : flowB f = true) (hs : ∀ j, j < f.steps.length → stepB (nth tt j) = true) : flowB ⟨f.ver, tt⟩ = true := by
  obtain ⟨h1, h2, h3, h4⟩ := flowB_iff.1 hf
  refine flowB_iff.2 ⟨?_, h2, ?_, h.full h4⟩
  · intro j hj
    have hj' : j < f.steps.length := by have := h.len; show j < _; rw [← this]; exact hj
    have := h1 j hj'
    unfold stepAt at this ⊢
    simp only [Bool.and_eq_true] at this ⊢
    refine ⟨⟨hs j hj', ?_⟩, ?_⟩
    · by_cases h0 : j = 0
      · simp [h0]
      · show (decide (j = 0) || strLt (nth tt (j - 1)).name (nth tt j).name) = true
        rw [h.name (j - 1) (by omega), h.name j hj']; exact this.1.2
    · refine haveB_iff.2 ?_
      intro y hy
      show y ∈ namesOf tt
      rw [h.names]
      exact haveB_iff.1 this.2 y (h.after j hj' y hy)
  · show 1 ≤ tt.length ∧ tt.length ≤ 8
    rw [h.len]; exact h3

theorem step_ok {f : Flow} {j : Nat} (hf : flowB f = true) (hj : j < f.steps.length) : stepB (nth f.steps j) = true := by
  have := (flowB_iff.1 hf).1 j hj
  unfold stepAt at this
  simp only [Bool.and_eq_true] at this
  exact this.1.1
theorem stepB_undo (s : Step) (b : Bool) : stepB { s with undo := b } = stepB s := rfl
theorem stepB_nil {s : Step} (h : stepB s = true) : stepB { s with after := [] } = true := by
  unfold stepB at h ⊢
  simp only [Bool.and_eq_true] at h ⊢
  refine ⟨⟨⟨?_, h.1.1.2⟩, ?_⟩, ?_⟩
  · exact allN_iff.2 (fun j hj => absurd hj (by simp))
  · simp [hasB]
  · simp

/-- The steps that can be undone change. -/
theorem less_undo {ss tt : List Step} (hl : tt.length = ss.length) (h : ∀ j, j < ss.length → ∃ b, nth tt j = { nth ss j with undo := b }) : Less ss tt ∧ Less tt ss := by
  refine ⟨⟨hl, ?_, ?_⟩, ⟨hl.symm, ?_, ?_⟩⟩
  · intro j hj; obtain ⟨b, e⟩ := h j hj; rw [e]
  · intro j hj y hy; obtain ⟨b, e⟩ := h j hj; rw [e] at hy; exact hy
  · intro j hj; obtain ⟨b, e⟩ := h j (by omega); rw [e]
  · intro j hj y hy; obtain ⟨b, e⟩ := h j (by omega); rw [e]; exact hy
theorem less_undo_flow {f : Flow} {tt : List Step} (hf : flowB f = true) (hl : tt.length = f.steps.length) (h : ∀ j, j < f.steps.length → ∃ b, nth tt j = { nth f.steps j with undo := b }) :
    flowB ⟨f.ver, tt⟩ = true ∧ ∀ k done, cnt tt k done = cnt f.steps k done := by
  obtain ⟨h1, h2⟩ := less_undo hl h
  refine ⟨h1.flow hf ?_, fun k done => Nat.le_antisymm (h2.cnt k done) (h1.cnt k done)⟩
  intro j hj
  obtain ⟨b, e⟩ := h j hj
  rw [e, stepB_undo]
  exact step_ok hf hj
theorem less_last {f : Flow} {tt : List Step} {j0 : Nat} (hf : flowB f = true) (hj0 : j0 < f.steps.length) (e : tt = f.steps.set j0 { nth f.steps j0 with after := [] }) :
    flowB ⟨f.ver, tt⟩ = true ∧ ∀ k done, cnt f.steps k done ≤ cnt tt k done := by
  have hat : ∀ j, j < f.steps.length → nth tt j = if j = j0 then { nth f.steps j0 with after := [] } else nth f.steps j := by
    intro j _; rw [e, nth_set hj0]
  have h : Less f.steps tt := by
    refine ⟨by rw [e, List.length_set], ?_, ?_⟩
    · intro j hj
      rw [hat j hj]
      by_cases h0 : j = j0
      · rw [if_pos h0, h0]
      · rw [if_neg h0]
    · intro j hj y hy
      rw [hat j hj] at hy
      by_cases h0 : j = j0
      · rw [if_pos h0] at hy; cases hy
      · rw [if_neg h0] at hy; exact hy
  refine ⟨h.flow hf ?_, h.cnt⟩
  intro j hj
  rw [hat j hj]
  by_cases h0 : j = j0
  · rw [if_pos h0]; exact stepB_nil (step_ok hf hj0)
  · rw [if_neg h0]; exact step_ok hf hj
end Go.Proofs.Ytakeijgoonagcaa

/- Steps put at their place, steps taken away, flows changed. No program in sight. -/
namespace Go.Proofs.Ytakeijgoonagcaa

section
variable {α : Type} (key : α → Str)
/-- One round of putting an element at its place. -/
def putSt (x : α) (s : List α × Bool) (y : α) : List α × Bool :=
  if key y = key x then (if s.2 = false ∧ strLt (key y) (key x) = false then (s.1 ++ [x], true) else s)
  else (if s.2 = false ∧ strLt (key y) (key x) = false then (s.1 ++ [x] ++ [y], true) else (s.1 ++ [y], s.2))
def putTo (xs : List α) (x : α) (k : Nat) : List α × Bool := (xs.take k).foldl (putSt key x) ([], false)
def putR : List α → α → List α
  | [], x => [x]
  | y :: ys, x => if strLt (key y) (key x) = true then y :: putR ys x else x :: (y :: ys).filter fun z => !decide (key z = key x)
theorem putSt_lt {x y : α} {s : List α × Bool} (h : strLt (key y) (key x) = true) : putSt key x s y = (s.1 ++ [y], s.2) := by
  unfold putSt
  rw [if_neg (strLt_ne h), if_neg (by rw [h]; simp)]
theorem putSt_done {x y : α} {a : List α} : putSt key x (a, true) y = (if key y = key x then a else a ++ [y], true) := by
  unfold putSt
  by_cases h : key y = key x <;> simp [h]
theorem putSt_new {x y : α} {a : List α} (h : strLt (key y) (key x) = false) : putSt key x (a, false) y = (if key y = key x then a ++ [x] else a ++ [x] ++ [y], true) := by
  unfold putSt
  by_cases h2 : key y = key x
  · rw [if_pos h2, if_pos h2, if_pos ⟨rfl, h⟩]
  · rw [if_neg h2, if_neg h2, if_pos ⟨rfl, h⟩]
theorem fold_done {x : α} : ∀ (xs : List α) (a : List α), xs.foldl (putSt key x) (a, true) = (a ++ xs.filter (fun z => !decide (key z = key x)), true)
  | [], a => by simp
  | y :: ys, a => by
    rw [List.foldl_cons, putSt_done, fold_done ys, List.filter_cons]
    by_cases h : key y = key x <;> simp [h]
theorem fold_put {x : α} : ∀ (xs : List α) (a : List α), (if (xs.foldl (putSt key x) (a, false)).2 = true then (xs.foldl (putSt key x) (a, false)).1 else (xs.foldl (putSt key x) (a, false)).1 ++ [x]) = a ++ putR key xs x
  | [], a => by simp [putR]
  | y :: ys, a => by
    rw [List.foldl_cons]
    cases h : strLt (key y) (key x)
    · have hn : ¬ strLt (key y) (key x) = true := by rw [h]; simp
      rw [putSt_new key h, fold_done, if_pos rfl, putR, if_neg hn, List.filter_cons]
      by_cases h2 : key y = key x <;> simp [h2]
    · rw [putSt_lt key h, putR, if_pos h, fold_put ys (a ++ [y])]
      simp
theorem putTo_zero (xs : List α) (x : α) : putTo key xs x 0 = ([], false) := rfl
theorem putTo_succ [Inhabited α] {xs : List α} {x : α} {k : Nat} (hk : k < xs.length) : putTo key xs x (k + 1) = putSt key x (putTo key xs x k) (nth xs k) := by
  unfold putTo; rw [take_nth hk, List.foldl_append]; rfl
theorem putTo_end {xs : List α} {x : α} {k : Nat} (hk : xs.length ≤ k) : putR key xs x = if (putTo key xs x k).2 = true then (putTo key xs x k).1 else (putTo key xs x k).1 ++ [x] := by
  unfold putTo
  rw [List.take_of_length_le hk]
  have := fold_put key (x := x) xs []
  rw [List.nil_append] at this
  exact this.symm
theorem putSt_len (x : α) (s : List α × Bool) (y : α) : (putSt key x s y).1.length ≤ s.1.length + 2 := by
  unfold putSt
  split <;> split <;> simp
theorem foldSt_len (x : α) : ∀ (xs : List α) (s : List α × Bool), (xs.foldl (putSt key x) s).1.length ≤ s.1.length + 2 * xs.length
  | [], s => by simp
  | y :: ys, s => by
    have h1 := putSt_len key x s y
    have h2 := foldSt_len x ys (putSt key x s y)
    rw [List.foldl_cons, List.length_cons]
    omega
theorem putTo_len (xs : List α) (x : α) (k : Nat) : (putTo key xs x k).1.length ≤ 2 * k := by
  have := foldSt_len key x (xs.take k) ([], false)
  have h2 := List.length_take_le k xs
  unfold putTo
  simp at this
  omega
theorem putR_mem {x z : α} : ∀ {xs : List α}, z ∈ putR key xs x ↔ z = x ∨ (z ∈ xs ∧ key z ≠ key x)
  | [] => by simp [putR]
  | y :: ys => by
    have ih := putR_mem (x := x) (z := z) (xs := ys)
    unfold putR
    by_cases h : strLt (key y) (key x) = true
    · rw [if_pos h, List.mem_cons, ih, List.mem_cons]
      have hne := strLt_ne h
      constructor
      · rintro (rfl | rfl | ⟨h1, h2⟩)
        · exact .inr ⟨.inl rfl, hne⟩
        · exact .inl rfl
        · exact .inr ⟨.inr h1, h2⟩
      · rintro (rfl | ⟨rfl | h1, h2⟩)
        · exact .inr (.inl rfl)
        · exact .inl rfl
        · exact .inr (.inr ⟨h1, h2⟩)
    · rw [if_neg h, List.mem_cons, List.mem_filter]
      simp
theorem putR_len {x : α} : ∀ (xs : List α), (putR key xs x).length ≤ xs.length + 1
  | [] => by simp [putR]
  | y :: ys => by
    have ih := putR_len (x := x) ys
    unfold putR
    split
    · simp; omega
    · have := List.length_filter_le (fun z => !decide (key z = key x)) (y :: ys)
      rw [List.length_cons]
      omega
theorem putR_sorted {x : α} : ∀ {xs : List α}, xs.Pairwise (fun a b => strLt (key a) (key b) = true) → (putR key xs x).Pairwise (fun a b => strLt (key a) (key b) = true)
  | [], _ => by simp [putR]
  | y :: ys, hp => by
    obtain ⟨h1, h2⟩ := List.pairwise_cons.1 hp
    have ih := putR_sorted (x := x) h2
    unfold putR
    by_cases h : strLt (key y) (key x) = true
    · rw [if_pos h]
      refine List.pairwise_cons.2 ⟨fun z hz => ?_, ih⟩
      rcases (putR_mem key).1 hz with rfl | ⟨hz, _⟩
      · exact h
      · exact h1 z hz
    · rw [if_neg h]
      refine List.pairwise_cons.2 ⟨fun z hz => ?_, hp.sublist List.filter_sublist⟩
      obtain ⟨hz, hne⟩ := List.mem_filter.1 hz
      have hne : key z ≠ key x := by simpa using hne
      have hxy : key x = key y ∨ strLt (key x) (key y) = true := by
        rcases strLt_tri (key x) (key y) with h3 | h3 | h3
        · exact .inr h3
        · exact .inl h3
        · exact absurd h3 h
      have hz2 : key z = key y ∨ strLt (key y) (key z) = true := by
        rcases List.mem_cons.1 hz with rfl | hz
        · exact .inl rfl
        · exact .inr (h1 z hz)
      rcases hxy with e1 | e1 <;> rcases hz2 with e2 | e2
      · exact absurd (e2.trans e1.symm) hne
      · rw [e1]; exact e2
      · rw [e2]; exact e1
      · exact strLt_trans e1 e2
end

def putL (xs : List Str) (x : Str) : List Str := putR id xs x
def withL (ss : List Step) (s : Step) : List Step := putR (·.name) ss s
def putAll (acc xs : List Str) : List Str := xs.foldl putL acc
theorem putAll_len : ∀ (xs acc : List Str), (putAll acc xs).length ≤ acc.length + xs.length
  | [], acc => Nat.le_refl _
  | x :: xs, acc => by
    have h1 := putR_len id (x := x) acc
    have h2 := putAll_len xs (putL acc x)
    unfold putAll at h2 ⊢
    rw [List.foldl_cons, List.length_cons]
    unfold putL at h2 h1 ⊢
    omega
theorem putAll_mem {z : Str} : ∀ (xs acc : List Str), z ∈ putAll acc xs ↔ z ∈ acc ∨ z ∈ xs
  | [], acc => by simp [putAll]
  | x :: xs, acc => by
    have h2 := putAll_mem (z := z) xs (putL acc x)
    have h3 : z ∈ putL acc x ↔ z = x ∨ (z ∈ acc ∧ z ≠ x) := putR_mem id
    unfold putAll at h2 ⊢
    rw [List.foldl_cons, h2, h3, List.mem_cons]
    by_cases e : z = x
    · simp [e]
    · simp [e]
def ascP (xs : List Str) : Prop := xs.Pairwise fun a b => strLt a b = true
theorem putAll_sorted : ∀ (xs acc : List Str), ascP acc → ascP (putAll acc xs)
  | [], _, h => h
  | x :: xs, acc, h => putAll_sorted xs (putL acc x) (putR_sorted id h)
theorem putAll_snoc (acc xs : List Str) (x : Str) : putAll acc (xs ++ [x]) = putL (putAll acc xs) x := by
  unfold putAll; rw [List.foldl_append]; rfl

/-- What a step comes after, behind the taking away of another one. -/
def notName (name : Str) (xs : List Str) : List Str := xs.filter fun a => !decide (a = name)
def woAfter (name : Str) (gone after : List Str) : List Str := if hasB after name = true then putAll (putAll [] (notName name after)) gone else after
def woStep (name : Str) (gone : List Str) (s : Step) : Step := { s with after := woAfter name gone s.after }
def goneOf (ss : List Step) (name : Str) : List Str := (nth ss (plc ss name)).after
def woTo (ss : List Step) (name : Str) (gone : List Str) (k : Nat) : List Step := ((ss.take k).filter fun s => !decide (s.name = name)).map (woStep name gone)
def woL (ss : List Step) (name : Str) : List Step := (ss.filter fun s => !decide (s.name = name)).map (woStep name (goneOf ss name))
theorem woTo_yes {ss : List Step} {name : Str} {gone : List Str} {k : Nat} (hk : k < ss.length) (h : (nth ss k).name ≠ name) : woTo ss name gone (k + 1) = woTo ss name gone k ++ [woStep name gone (nth ss k)] := by
  unfold woTo; rw [take_nth hk, List.filter_append, List.map_append]; simp [h]
theorem woTo_no {ss : List Step} {name : Str} {gone : List Str} {k : Nat} (hk : k < ss.length) (h : (nth ss k).name = name) : woTo ss name gone (k + 1) = woTo ss name gone k := by
  unfold woTo; rw [take_nth hk, List.filter_append, List.map_append]; simp [h]
theorem woTo_all {ss : List Step} {name : Str} {k : Nat} (hk : ss.length ≤ k) : woTo ss name (goneOf ss name) k = woL ss name := by
  unfold woTo woL; rw [List.take_of_length_le hk]
theorem woTo_len (ss : List Step) (name : Str) (gone : List Str) (k : Nat) : (woTo ss name gone k).length ≤ k := by
  unfold woTo; rw [List.length_map]
  exact Nat.le_trans (List.length_filter_le _ _) (List.length_take_le _ _)
theorem woAfter_len (name : Str) (gone after : List Str) : (woAfter name gone after).length ≤ after.length + gone.length := by
  unfold woAfter
  split
  · have h1 := putAll_len gone (putAll [] (notName name after))
    have h2 := putAll_len (notName name after) []
    have h3 := List.length_filter_le (fun a : Str => !decide (a = name)) after
    unfold notName at *
    simp at h2
    omega
  · omega
theorem woAfter_mem {name : Str} {gone after : List Str} {z : Str} (h : z ∈ woAfter name gone after) : z ∈ after ∨ z ∈ gone := by
  unfold woAfter at h
  split at h
  · rcases (putAll_mem _ _).1 h with h | h
    · rcases (putAll_mem _ _).1 h with h | h
      · cases h
      · exact .inl (List.mem_filter.1 h).1
    · exact .inr h
  · exact .inl h

/-- A change of a flow's steps. -/
def chgS (k : Int) (s : Step) (ss : List Step) : List Step × Bool :=
  if hasB (namesOf ss) s.name = false then (if k = 1 then (withL ss s, true) else ([], false))
  else if k = 2 then (woL ss s.name, true)
  else if k = 3 then (withL ss ⟨s.name, s.after, (nth ss (plc ss s.name)).undo⟩, true)
  else if k = 4 then (withL ss ⟨s.name, (nth ss (plc ss s.name)).after, s.undo⟩, true)
  else ([], false)
def chgB (f : Flow) (k : Int) (s : Step) : Bool := flowB f && (stepB s && ((chgS k s f.steps).2 && flowB ⟨f.ver + 1, (chgS k s f.steps).1⟩))
def chgF (f : Flow) (k : Int) (s : Step) : Flow := if chgB f k s = true then ⟨f.ver + 1, (chgS k s f.steps).1⟩ else ⟨0, []⟩
theorem chgF_no {f : Flow} {k : Int} {s : Step} (h : chgB f k s = false) : chgF f k s = ⟨0, []⟩ := by unfold chgF; rw [if_neg (by rw [h]; simp)]
theorem chgF_yes {f : Flow} {k : Int} {s : Step} (h : chgB f k s = true) : chgF f k s = ⟨f.ver + 1, (chgS k s f.steps).1⟩ := if_pos h

theorem okSteps_iff {ss : List Step} : okSteps ss ↔ ss.length ≤ 1048576 ∧ ∀ s ∈ ss, okStep s :=
  ⟨fun h => ⟨h.1, fun s hs => by obtain ⟨j, hj, rfl⟩ := nth_of_mem hs; exact h.2 j hj⟩, fun h => ⟨h.1, fun j hj => h.2 _ (mem_nth hj)⟩⟩
theorem okS_iff {xs : List Str} : okS xs ↔ xs.length ≤ 1048576 ∧ ∀ s ∈ xs, s.size ≤ maxLen :=
  ⟨fun h => ⟨h.1, fun s hs => by obtain ⟨j, hj, rfl⟩ := nth_of_mem hs; exact h.2 j hj⟩, fun h => ⟨h.1, fun j hj => h.2 _ (mem_nth hj)⟩⟩
theorem nameB_small {s : Str} (h : nameB s = true) : s.size ≤ 5 := by
  unfold nameB at h
  simp only [Bool.and_eq_true, decide_eq_true_eq] at h
  omega
theorem stepB_names {s : Step} (h : stepB s = true) : nameB s.name = true ∧ s.after.length ≤ 4 ∧ ∀ a ∈ s.after, nameB a = true := by
  unfold stepB at h
  simp only [Bool.and_eq_true, decide_eq_true_eq] at h
  refine ⟨h.1.1.2, h.2, fun a ha => ?_⟩
  obtain ⟨j, hj, rfl⟩ := nth_of_mem ha
  have := allN_iff.1 h.1.1.1 j hj
  unfold ascAt at this
  simp only [Bool.and_eq_true] at this
  exact this.1
theorem okStep_of {s : Step} (h : stepB s = true) : okStep s := by
  obtain ⟨h1, h2, h3⟩ := stepB_names h
  exact ⟨by have := nameB_small h1; unfold maxLen; omega, okS_iff.2 ⟨by omega, fun a ha => by have := nameB_small (h3 a ha); unfold maxLen; omega⟩⟩
theorem okSteps_of {f : Flow} (h : flowB f = true) : okSteps f.steps :=
  okSteps_iff.2 ⟨by have := (flowB_iff.1 h).2.2.1; omega, fun s hs => by
    obtain ⟨j, hj, rfl⟩ := nth_of_mem hs
    exact okStep_of (step_ok h hj)⟩
theorem withL_ok {ss : List Step} {s : Step} (h : okSteps ss) (hl : ss.length ≤ 1000) (hs : okStep s) : okSteps (withL ss s) := by
  refine okSteps_iff.2 ⟨by have := putR_len (fun s : Step => s.name) (x := s) ss; unfold withL; omega, fun t ht => ?_⟩
  rcases (putR_mem (fun s : Step => s.name)).1 ht with rfl | ⟨ht, _⟩
  · exact hs
  · exact (okSteps_iff.1 h).2 t ht
theorem woL_ok {ss : List Step} {name : Str} (h : okSteps ss) (hs : ∀ s ∈ ss, s.after.length ≤ 1000) : okSteps (woL ss name) := by
  obtain ⟨h1, h2⟩ := okSteps_iff.1 h
  have hg : okS (goneOf ss name) ∧ (goneOf ss name).length ≤ 1000 := by
    unfold goneOf
    by_cases hp : plc ss name < ss.length
    · exact ⟨(h.2 _ hp).2, hs _ (mem_nth hp)⟩
    · have e : nth ss (plc ss name) = default := by unfold nth; rw [List.getD_eq_getElem?_getD, List.getElem?_eq_none (by omega)]; rfl
      have e2 : (default : Step).after = [] := rfl
      rw [e, e2]
      exact ⟨⟨by simp, fun j hj => absurd hj (by simp)⟩, Nat.zero_le _⟩
  refine okSteps_iff.2 ⟨by unfold woL; rw [List.length_map]; exact Nat.le_trans (List.length_filter_le _ _) h1, fun t ht => ?_⟩
  unfold woL at ht
  obtain ⟨s, hs1, rfl⟩ := List.mem_map.1 ht
  have hs2 := (List.mem_filter.1 hs1).1
  have hok := h2 s hs2
  refine ⟨hok.1, okS_iff.2 ⟨?_, fun a ha => ?_⟩⟩
  · have := woAfter_len name (goneOf ss name) s.after
    have h3 := hs s hs2
    show (woAfter name (goneOf ss name) s.after).length ≤ _
    omega
  · rcases woAfter_mem ha with ha | ha
    · exact (okS_iff.1 hok.2).2 a ha
    · exact (okS_iff.1 hg.1).2 a ha
theorem chgS_ok {f : Flow} {k : Int} {s : Step} (hf : flowB f = true) (hs : stepB s = true) : okSteps (chgS k s f.steps).1 := by
  have h := okSteps_of hf
  have hl : f.steps.length ≤ 8 := (flowB_iff.1 hf).2.2.1.2
  have ho := okStep_of hs
  have hnil : okSteps [] := ⟨by simp, fun j hj => absurd hj (by simp)⟩
  unfold chgS
  split
  · split
    · exact withL_ok h (by omega) ho
    · exact hnil
  · rename_i hh
    have hh' : hasB (namesOf f.steps) s.name = true := by simpa using hh
    have hp := (plc_ex hh').1
    split
    · exact woL_ok h fun t ht => by
        obtain ⟨j, hj, rfl⟩ := nth_of_mem ht
        have := (stepB_names (step_ok hf hj)).2.1
        omega
    · split
      · exact withL_ok h (by omega) ⟨ho.1, ho.2⟩
      · split
        · exact withL_ok h (by omega) ⟨ho.1, (h.2 _ hp).2⟩
        · exact hnil
end Go.Proofs.Ytakeijgoonagcaa

/- Names and steps put at their place, the reference's side. -/
namespace Go.Proofs.Ytakeijgoonagcaa
open Go.RowKit

theorem putL_new {x y : Str} {a : List Str} (h : strLt y x = false) : putSt id x (a, false) y = (if y = x then a ++ [x] else a ++ [x] ++ [y], true) := putSt_new id h
theorem putL_lt {x y : Str} {s : List Str × Bool} (h : strLt y x = true) : putSt id x s y = (s.1 ++ [y], s.2) := putSt_lt id h
theorem putL_done {x y : Str} {a : List Str} : putSt id x (a, true) y = (if y = x then a else a ++ [y], true) := putSt_done id
set_option maxRecDepth 100000 in
set_option maxHeartbeats 2000000 in
theorem l1Put_any (A : Option Addr) (n c : Nat) (xs : List Str) (x : Str) (lo : Nat) (w : World) (hr : RStr w lo A n xs) (hn : n ≤ 1000) :
    Calls Try.prog 153 #[.slice A n c, .string x] w fun e w' => ∃ B m d, e = .returned (.slice B m d) ∧ w'.ownsRow w.heap.size 9 1 (.slice B m d) m ((putL xs x).map Value.string) ∧ Below w.heap.size w w' := by
  have HL := Lib.hid hr.1
  have HR := Lib.hid hr; clear hr
  have HN0 := Lib.hid (World.ownsRow_made (base := w.heap.size) (e := 9) (size := 1) w #[] 0 (Nat.le_refl _) (Nat.zero_le _) rfl)
  have HB0 := Lib.hid ((Below.refl w.heap.size w).alloc (Nat.le_refl _) (.cells #[] 9))
  go_enter Try.func153, Try.ntmps153
  go_wp2_with fail
  go_loopw [5, 6, 7] (fun v dn i wr => ∃ k n1 : Nat, k ≤ n ∧ i = .int .i64 (k : Int) ∧ dn = .bool (putTo id xs x k).2 ∧ wr.ownsRow w.heap.size 9 1 v n1 ((putTo id xs x k).1.map Value.string) ∧ Below w.heap.size w wr) (fun _ _ i _ => n - (intOf i).toNat)
  case atStart => exact ⟨0, 0, Nat.zero_le _, rfl, rfl, HN0.out, HB0.out⟩
  case round =>
    obtain ⟨wo, rfl⟩ : ∃ wo : World, wo = wr := ⟨_, rfl⟩
    obtain ⟨k, n1, hk, rfl, rfl, hrow, hbw⟩ := hrel
    have HROW := Lib.hid hrow; clear hrow
    have HBW := Lib.hid hbw; clear hbw
    have hsw := HBW.out.size
    have hn1 : n1 ≤ 2 * k := by
      have h1 := HROW.out.1
      have h2 := putTo_len id xs x k
      simp at h1
      omega
    have HSuc := Lib.hid (fun hk => putTo_succ id (xs := xs) (x := x) (k := k) hk)
    have HEnd := Lib.hid (fun hk => putTo_end id (xs := xs) (x := x) (k := k) hk)
    generalize putTo id xs x k = S at *
    obtain ⟨A1, c1, rfl, _⟩ := own_str HROW.out
    by_cases hlt : k < n
    · obtain ⟨b, off, rfl, ⟨_, hbl⟩, hc⟩ := RStr.at_ HR.out hlt
      have HDK := Lib.hid (fun (w' : World) (h : Below w.heap.size w w') => (h.cell (p := ⟨b, off + k, none⟩) hbl).trans (hc k hlt).1)
      clear hc
      have d1 := HDK.out wo HBW.out
      have hkl : k < xs.length := by rw [HL.out]; exact hlt
      have h8 := str_le (nth xs k) x
      have h9 : Op.bytesLess (nth xs k).toList x.toList = strLt (nth xs k) x := rfl
      have HS1 := HSuc.out hkl
      have hk0 : (0 : Int) ≤ (k : Int) := by omega
      have hk1 : (k : Int) < (n : Int) := by omega
      have hk2 : ¬ ((k : Int) < 0) := by omega
      obtain ⟨a, dn⟩ := S
      clear HSuc HEnd
      obtain ⟨S, hS⟩ : ∃ S : List Str × Bool, S.1 = a := ⟨(a, dn), rfl⟩
      subst hS
      cases dn
      · cases hL : strLt (nth xs k) x
        · rw [hL] at h8 h9
          rw [putL_new hL] at HS1
          by_cases he : nth xs k = x
          · rw [if_pos he] at HS1
            have HT := Lib.hid HS1
            have hq := seq_t he
            clear HS1 he hL
            go_wp2_with (at_builtin; refine app_strW w.heap.size (.slice A1 n1 c1) n1 S.1 _ x ?c0 rfl (.tmp 25) (.tmp 27) rfl rfl rfl ?c1 (by omega) ?c2 ?_)
            case c0 => exact HROW.out.alloc _
            case c1 => first | exact heap_new rfl | exact Array.getElem_push_eq
            case c2 => (try simp); omega
            intro v7 w7 how7 hg7 hat7
            replace how7 : w7.ownsRow w.heap.size 9 1 v7 (n1 + 1) ((S.1 ++ [x]).map Value.string) := by rw [List.map_append]; exact how7
            have HB7 := Lib.hid ((HBW.out.alloc hsw (.cells #[.string x] 9)).grown hg7 (by simp; omega) (fun b hb => (HROW.out.lt b hb).1))
            have HR7 := Lib.hid how7
            have hs7 := HB7.out.size
            clear how7 hg7 hat7 d1
            have d1 := HDK.out w7 HB7.out
            obtain ⟨A7, c7, rfl, _⟩ := own_str HR7.out
            go_wp2_with fail
            go_roundw
            case rel => exact ⟨k + 1, (n1 + 1), by omega, by go_num, by rw [HT.out], by rw [HT.out]; exact HR7.out, HB7.out⟩
            case measure => simp [intOf]; omega
          · rw [if_neg he] at HS1
            have HT := Lib.hid HS1
            have hq := seq_f he
            clear HS1 he hL
            go_wp2_with (at_builtin; refine app_strW w.heap.size (.slice A1 n1 c1) n1 S.1 _ x ?c0 rfl (.tmp 25) (.tmp 27) rfl rfl rfl ?c1 (by omega) ?c2 ?_)
            case c0 => exact HROW.out.alloc _
            case c1 => first | exact heap_new rfl | exact Array.getElem_push_eq
            case c2 => (try simp); omega
            intro v7 w7 how7 hg7 hat7
            replace how7 : w7.ownsRow w.heap.size 9 1 v7 (n1 + 1) ((S.1 ++ [x]).map Value.string) := by rw [List.map_append]; exact how7
            have HB7 := Lib.hid ((HBW.out.alloc hsw (.cells #[.string x] 9)).grown hg7 (by simp; omega) (fun b hb => (HROW.out.lt b hb).1))
            have HR7 := Lib.hid how7
            have hs7 := HB7.out.size
            clear how7 hg7 hat7 d1
            have d1 := HDK.out w7 HB7.out
            obtain ⟨A7, c7, rfl, _⟩ := own_str HR7.out
            go_wp2_with (at_builtin; refine app_strW w.heap.size (.slice A7 (n1 + 1) c7) (n1 + 1) (S.1 ++ [x]) _ (nth xs k) ?c0 rfl (.tmp 35) (.tmp 40) rfl rfl rfl ?c1 (by omega) ?c2 ?_)
            case c0 => exact HR7.out.alloc _
            case c1 => first | exact heap_new rfl | exact Array.getElem_push_eq
            case c2 => (try simp); omega
            intro v9 w9 how9 hg9 hat9
            replace how9 : w9.ownsRow w.heap.size 9 1 v9 ((n1 + 1) + 1) (((S.1 ++ [x]) ++ [nth xs k]).map Value.string) := by first | (rw [List.map_append]; exact how9) | (rw [List.map_append, List.map_append, List.append_assoc]; exact how9)
            have HB9 := Lib.hid ((HB7.out.alloc hs7 (.cells #[.string (nth xs k)] 9)).grown hg9 (by simp; omega) (fun b hb => (HR7.out.lt b hb).1))
            have HR9 := Lib.hid how9
            clear how9 hg9 hat9
            go_wp2_with fail
            go_roundw
            case rel => exact ⟨k + 1, (n1 + 1) + 1, by omega, by go_num, by rw [HT.out], by rw [HT.out]; exact HR9.out, HB9.out⟩
            case measure => simp [intOf]; omega
        · rw [hL] at h8 h9
          rw [putL_lt hL] at HS1
          have HT := Lib.hid HS1
          have hq := seq_f (strLt_ne hL)
          clear HS1 hL
          go_wp2_with (at_builtin; refine app_strW w.heap.size (.slice A1 n1 c1) n1 S.1 _ (nth xs k) ?c0 rfl (.tmp 35) (.tmp 40) rfl rfl rfl ?c1 (by omega) ?c2 ?_)
          case c0 => exact HROW.out.alloc _
          case c1 => first | exact heap_new rfl | exact Array.getElem_push_eq
          case c2 => (try simp); omega
          intro v9 w9 how9 hg9 hat9
          replace how9 : w9.ownsRow w.heap.size 9 1 v9 (n1 + 1) ((S.1 ++ [nth xs k]).map Value.string) := by first | (rw [List.map_append]; exact how9) | (rw [List.map_append, List.map_append, List.append_assoc]; exact how9)
          have HB9 := Lib.hid ((HBW.out.alloc hsw (.cells #[.string (nth xs k)] 9)).grown hg9 (by simp; omega) (fun b hb => (HROW.out.lt b hb).1))
          have HR9 := Lib.hid how9
          clear how9 hg9 hat9
          go_wp2_with fail
          go_roundw
          case rel => exact ⟨k + 1, n1 + 1, by omega, by go_num, by rw [HT.out], by rw [HT.out]; exact HR9.out, HB9.out⟩
          case measure => simp [intOf]; omega
      · rw [putL_done] at HS1
        clear h8 h9
        by_cases he : nth xs k = x
        · rw [if_pos he] at HS1
          have HT := Lib.hid HS1
          have hq := seq_t he
          clear HS1 he
          go_wp2_with fail
          go_roundw
          case rel => exact ⟨k + 1, n1, by omega, by go_num, by rw [HT.out], by rw [HT.out]; exact HROW.out, HBW.out⟩
          case measure => simp [intOf]; omega
        · rw [if_neg he] at HS1
          have HT := Lib.hid HS1
          have hq := seq_f he
          clear HS1 he
          go_wp2_with (at_builtin; refine app_strW w.heap.size (.slice A1 n1 c1) n1 S.1 _ (nth xs k) ?c0 rfl (.tmp 35) (.tmp 40) rfl rfl rfl ?c1 (by omega) ?c2 ?_)
          case c0 => exact HROW.out.alloc _
          case c1 => first | exact heap_new rfl | exact Array.getElem_push_eq
          case c2 => (try simp); omega
          intro v9 w9 how9 hg9 hat9
          replace how9 : w9.ownsRow w.heap.size 9 1 v9 (n1 + 1) ((S.1 ++ [nth xs k]).map Value.string) := by first | (rw [List.map_append]; exact how9) | (rw [List.map_append, List.map_append, List.append_assoc]; exact how9)
          have HB9 := Lib.hid ((HBW.out.alloc hsw (.cells #[.string (nth xs k)] 9)).grown hg9 (by simp; omega) (fun b hb => (HROW.out.lt b hb).1))
          have HR9 := Lib.hid how9
          clear how9 hg9 hat9
          go_wp2_with fail
          go_roundw
          case rel => exact ⟨k + 1, n1 + 1, by omega, by go_num, by rw [HT.out], by rw [HT.out]; exact HR9.out, HB9.out⟩
          case measure => simp [intOf]; omega
    · obtain rfl : k = n := by omega
      have HE := Lib.hid (show putL xs x = if S.2 = true then S.1 else S.1 ++ [x] from HEnd.out (by rw [HL.out]; exact Nat.le_refl _))
      clear HSuc HEnd
      obtain ⟨a, dn⟩ := S
      cases dn
      · have HE2 := Lib.hid (HE.out.trans (if_neg (by simp)))
        clear HE
        go_wp2_with (at_builtin; refine app_strW w.heap.size (.slice A1 n1 c1) n1 a _ x ?c0 rfl (.tmp 44) (.tmp 46) rfl rfl rfl ?c1 (by omega) ?c2 ?_)
        case c0 => exact HROW.out.alloc _
        case c1 => first | exact heap_new rfl | exact Array.getElem_push_eq
        case c2 => (try simp); omega
        intro v7 w7 how7 hg7 hat7
        replace how7 : w7.ownsRow w.heap.size 9 1 v7 (n1 + 1) ((a ++ [x]).map Value.string) := by rw [List.map_append]; exact how7
        have HB7 := Lib.hid ((HBW.out.alloc hsw (.cells #[.string x] 9)).grown hg7 (by simp; omega) (fun b hb => (HROW.out.lt b hb).1))
        obtain ⟨A7, c7, rfl, _⟩ := own_str how7
        have HR7 := Lib.hid how7
        clear how7 hg7 hat7
        go_wp2_with fail
        go_ret
        exact ⟨_, _, _, rfl, by rw [HE2.out]; exact HR7.out, HB7.out⟩
      · have HE2 := Lib.hid (HE.out.trans (if_pos rfl))
        clear HE
        go_wp2_with fail
        go_ret
        exact ⟨_, _, _, rfl, by rw [HE2.out]; exact HROW.out, HBW.out⟩

set_option maxRecDepth 100000 in
theorem l2Step_any (A : Option Addr) (n c : Nat) (s : Step) (lo : Nat) (w : World) (hr : RStr w lo A n s.after) (hn : n ≤ 1048576) :
    Calls Try.prog 151 #[.agg #[.string s.name, .slice A n c, .bool s.undo]] w fun e w' => ∃ A' c', e = .returned (.agg #[.string s.name, .slice A' n c', .bool s.undo]) ∧ SStr w' w.heap.size A' n s.after ∧ n ≤ c' ∧ Below w.heap.size w w' := by
  have HX := Lib.hid (heap_old (o := .cells #[.string ⟨#[]⟩, .slice none 0 0, .bool false] 75) (heap_new (w := w) (o := .cells #[.string s.name, .slice A n c, .bool s.undo] 75) rfl))
  have HZ := Lib.hid (heap_new (w := w.alloc (.cells #[.string s.name, .slice A n c, .bool s.undo] 75)) (b := w.heap.size + 1) (o := .cells #[.string ⟨#[]⟩, .slice none 0 0, .bool false] 75) (by simp))
  have HB := Lib.hid (((Below.refl w.heap.size w).alloc (Nat.le_refl _) (.cells #[.string s.name, .slice A n c, .bool s.undo] 75)).alloc (by simp) (.cells #[.string ⟨#[]⟩, .slice none 0 0, .bool false] 75))
  have HR := Lib.hid (((hr.alloc (.cells #[.string s.name, .slice A n c, .bool s.undo] 75)).alloc (.cells #[.string ⟨#[]⟩, .slice none 0 0, .bool false] 75)).alloc (.cells #[] 9)); clear hr
  have HN := Lib.hid (own_new (w0 := w) (b := w.heap.size + 1 + 1) HB.out (by simp))
  have HXA := Lib.hid (heap_old (o := .cells #[] 9) HX.out)
  have HZA := Lib.hid (heap_old (o := .cells #[] 9) HZ.out)
  have x2 := (blk_cl (k := 1) HXA.out rfl).1
  go_enter Try.func151, Try.ntmps151
  go_wp2_with (at_builtin; refine apps_str w _ 0 [] _ A n c s.after HN.out HR.out rfl (.tmp 3) (.tmp 5) rfl rfl rfl (by omega) ?_)
  intro v3 w3 how3 hg3
  have HX3 := Lib.hid (grown_blk hg3 HXA.out (by simp [Value.ownBlock]; omega))
  have HZ3 := Lib.hid (grown_blk hg3 HZA.out (by simp [Value.ownBlock]))
  obtain ⟨A3, c3, rfl, _⟩ := own_str how3.row
  have HO3 := Lib.hid how3; clear how3 hg3
  have hc3 := own_capN HO3.out.row
  have a2 := (blk_cl (k := 1) HX3.out rfl).1
  have a2' := (blk_cl (k := 1) HX3.out rfl).2
  have HX4 := Lib.hid (set31 (u := .slice A3 n c3) HX3.out)
  have HZ4 := Lib.hid (set_ne (b := w.heap.size) (o := 1) (u := .slice A3 n c3) HZ3.out (by omega))
  have y0 := (blk_cl (k := 0) HX4.out rfl).1
  have y1 := (blk_cl (k := 1) HX4.out rfl).1
  have y2 := (blk_cl (k := 2) HX4.out rfl).1
  have z0 := (blk_cl (k := 0) HZ4.out rfl).1
  have z0' := (blk_cl (k := 0) HZ4.out rfl).2
  have z1 := (blk_cl (k := 1) HZ4.out rfl).1
  have z1' := (blk_cl (k := 1) HZ4.out rfl).2
  have z2 := (blk_cl (k := 2) HZ4.out rfl).1
  have z2' := (blk_cl (k := 2) HZ4.out rfl).2
  clear x2
  go_wp2_with fail
  have hres := set3 (u0 := .string s.name) (u1 := .slice A3 n c3) (u2 := .bool s.undo) HZ4.out
  have p0 := (blk_cl (k := 0) hres rfl).1
  have p1 := (blk_cl (k := 1) hres rfl).1
  have p2 := (blk_cl (k := 2) hres rfl).1
  have q1 : w.heap.size ≤ w.heap.size + 1 := by omega
  have hrow := row_set (o := 1) (u := .slice A3 n c3) HO3.out.row HX3.out (by decide)
  have h1 := set_at (o := 0) (u := .string s.name) HZ4.out
  have h2 := set_at (o := 1) (u := .slice A3 n c3) h1
  have hrow2 := row_set (o := 2) (u := .bool s.undo) (row_set (o := 1) (u := .slice A3 n c3) (row_set (o := 0) (u := .string s.name) hrow HZ4.out (by decide)) h1 (by decide)) h2 (by decide)
  obtain ⟨_, _, e9, hss⟩ := own_sstr hrow2
  injection e9 with e8 _ _
  subst e8
  exact bodyPost_ret (v := .agg #[.string s.name, .slice A3 n c3, .bool s.undo]) (by simp [results, Try.results151, go_sem, p0, p1, p2]) rfl
    ⟨_, _, rfl, hss, hc3, (((HO3.out.below.setCell (p := ⟨w.heap.size, 1, none⟩) (Nat.le_refl _) _).setCell (p := ⟨w.heap.size + 1, 0, none⟩) q1 _).setCell (p := ⟨w.heap.size + 1, 1, none⟩) q1 _).setCell (p := ⟨w.heap.size + 1, 2, none⟩) q1 _⟩
end Go.Proofs.Ytakeijgoonagcaa

/- Steps with another one in its place, the reference's side. -/
namespace Go.Proofs.Ytakeijgoonagcaa
open Go.RowKit

theorem putW_new {x y : Step} {a : List Step} (h : strLt y.name x.name = false) : putSt (fun s : Step => s.name) x (a, false) y = (if y.name = x.name then a ++ [x] else a ++ [x] ++ [y], true) := putSt_new (fun s : Step => s.name) h
theorem putW_lt {x y : Step} {s : List Step × Bool} (h : strLt y.name x.name = true) : putSt (fun s : Step => s.name) x s y = (s.1 ++ [y], s.2) := putSt_lt (fun s : Step => s.name) h
theorem putW_done {x y : Step} {a : List Step} : putSt (fun s : Step => s.name) x (a, true) y = (if y.name = x.name then a else a ++ [y], true) := putSt_done (fun s : Step => s.name)
theorem SRow.mono {w : World} {base base' n : Nat} {v : Value} {ss : List Step} (h : SRow w base v n ss) (hb : base' ≤ base) : SRow w base' v n ss := by
  obtain ⟨ps, e, h1, h2⟩ := h
  refine ⟨ps, e, row_mono h1 hb, fun p hp => ?_⟩
  obtain ⟨A, m, c, e2, h3⟩ := h2 p hp
  exact ⟨A, m, c, e2, h3.mono hb⟩
/-- The box of the step's parameter is no row of the call's own that was made behind it. -/
theorem SRow.neBox {w : World} {base n b : Nat} {v : Value} {ss : List Step} (h : SRow w base v n ss) (hb : b < base) : v.ownBlock ≠ some b := fun e => by
  obtain ⟨A, c, rfl, _⟩ := h.hat
  have := (SRow.lt h e).1
  omega

set_option maxRecDepth 100000 in
set_option maxHeartbeats 4000000 in
theorem l12With_any (A G : Option Addr) (n c ng cg : Nat) (ss : List Step) (s : Step) (lo lo' : Nat) (w : World) (hr : RStep w lo A n ss) (hok : okSteps ss) (hn : n ≤ 1000) (hg : RStr w lo' G ng s.after) (hng : ng ≤ 1048576) :
    Calls Try.prog 179 #[.slice A n c, .agg #[.string s.name, .slice G ng cg, .bool s.undo]] w fun e w' => ∃ B m d, e = .returned (.slice B m d) ∧ SRow w' w.heap.size (.slice B m d) m (withL ss s) ∧ Below w.heap.size w w' := by
  have HL := Lib.hid hr.1
  have HR := Lib.hid hr; clear hr
  have HG := Lib.hid hg; clear hg
  have HOK := Lib.hid hok; clear hok
  have HN0 := Lib.hid (SRow.made (w := w.alloc (.cells #[.string s.name, .slice G ng cg, .bool s.undo] 75)) (base := w.heap.size + 1) (b := w.heap.size + 1) (by simp) (by simp))
  have HB0 := Lib.hid (((Below.refl w.heap.size w).alloc (Nat.le_refl _) (.cells #[.string s.name, .slice G ng cg, .bool s.undo] 75)).alloc (by simp) (.cells #[] 75))
  have HX0 := Lib.hid (heap_old (o := .cells #[] 75) (heap_new (w := w) (o := .cells #[.string s.name, .slice G ng cg, .bool s.undo] 75) rfl))
  go_enter Try.func179, Try.ntmps179
  go_wp2_with fail
  go_loopw [5, 6, 7] (fun v dn i wr => ∃ k n1 : Nat, k ≤ n ∧ i = .int .i64 (k : Int) ∧ dn = .bool (putTo (fun s : Step => s.name) ss s k).2 ∧ SRow wr (w.heap.size + 1) v n1 (putTo (fun s : Step => s.name) ss s k).1 ∧ Below w.heap.size w wr ∧ wr.heap[w.heap.size]? = some (.cells #[.string s.name, .slice G ng cg, .bool s.undo] 75)) (fun _ _ i _ => n - (intOf i).toNat)
  case atStart => exact ⟨0, 0, Nat.zero_le _, rfl, rfl, HN0.out, HB0.out, HX0.out⟩
  case round =>
    obtain ⟨wo, rfl⟩ : ∃ wo : World, wo = wr := ⟨_, rfl⟩
    obtain ⟨k, n1, hk, rfl, rfl, hrow, hbw, hxw⟩ := hrel
    have HROW := Lib.hid hrow; clear hrow
    have HBW := Lib.hid hbw; clear hbw
    have HXW := Lib.hid hxw; clear hxw
    have hsw := HBW.out.size
    have hxl := heap_lt HXW.out
    have hn1 : n1 ≤ 2 * k := by
      have h1 := HROW.out.len
      have h2 := putTo_len (fun s : Step => s.name) ss s k
      omega
    have HSuc := Lib.hid (fun hk => putTo_succ (fun s : Step => s.name) (xs := ss) (x := s) (k := k) hk)
    have HEnd := Lib.hid (fun hk => putTo_end (fun s : Step => s.name) (xs := ss) (x := s) (k := k) hk)
    generalize putTo (fun s : Step => s.name) ss s k = S at *
    obtain ⟨A1, c1, rfl, _⟩ := HROW.out.hat
    have hx0 := (blk_cl (k := 0) HXW.out rfl).1
    by_cases hlt : k < n
    · obtain ⟨b, off, rfl, ⟨_, hbl⟩, hc⟩ := RStep.at_ HR.out hlt
      obtain ⟨A', n', c', ⟨e1, e2, e3⟩, hdr, _⟩ := hc k hlt
      clear hc
      have HDK := Lib.hid (fun (w' : World) (h : Below w.heap.size w w') => And.intro ((h.cell (p := ⟨b, off + k * 3, none⟩) hbl).trans e1) (And.intro ((h.cell (p := ⟨b, off + k * 3 + 1, none⟩) hbl).trans e2) ((h.cell (p := ⟨b, off + k * 3 + 2, none⟩) hbl).trans e3)))
      have HDR := Lib.hid hdr; clear hdr e1 e2 e3
      obtain ⟨d1, d2, d3⟩ := HDK.out wo HBW.out
      have hkl : k < ss.length := by rw [HL.out]; exact hlt
      have hn' : n' ≤ 1048576 := by rw [← HDR.out.1]; exact (HOK.out.2 k hkl).2.1
      have h8 := str_le (nth ss k).name s.name
      have h9 : Op.bytesLess (nth ss k).name.toList s.name.toList = strLt (nth ss k).name s.name := rfl
      have HS1 := HSuc.out hkl
      have hk0 : (0 : Int) ≤ (k : Int) := by omega
      have hk1 : (k : Int) < (n : Int) := by omega
      have hk2 : ¬ ((k : Int) < 0) := by omega
      obtain ⟨a, dn⟩ := S
      clear HSuc HEnd
      obtain ⟨S, hS⟩ : ∃ S : List Step × Bool, S.1 = a := ⟨(a, dn), rfl⟩
      subst hS
      cases dn
      · cases hL : strLt (nth ss k).name s.name
        · rw [hL] at h8 h9
          rw [putW_new hL] at HS1
          by_cases he : (nth ss k).name = s.name
          · rw [if_pos he] at HS1
            have HT := Lib.hid HS1
            have hq := seq_t he
            clear HS1 he hL
            have f1 := (blk_cl (k := 1) HXW.out rfl).1
            have f2 := (blk_cl (k := 2) HXW.out rfl).1
            go_wp2_with fail
            go_quiet (fail)
            go_wp2_with fail
            refine (l2Step_any _ _ _ s _ _ ((HG.out.below HBW.out).below (below_drewN (Below.refl wo.heap.size wo) _)) hng).mono ?_
            rintro e w5 ⟨A5, c5, rfl, hss5, hc5, hb5⟩
            have hbq5 : Below wo.heap.size wo w5 := (below_drewN (Below.refl wo.heap.size wo) _).trans hb5
            have HSS5 := Lib.hid (hss5.mono (show w.heap.size + 1 ≤ wo.heap.size from hxl)); clear hss5
            have HB5 := Lib.hid (HBW.out.trans (hbq5.mono hsw))
            have HK5 := Lib.hid (HROW.out.below hbq5)
            have HX5 := Lib.hid ((hbq5.block _ (heap_lt HXW.out)).trans HXW.out)
            have hs5 := HB5.out.size
            clear hb5 hbq5 f1 f2 hx0 d1 d2 d3
            go_wp2_with (at_builtin; refine app_stepW (w.heap.size + 1) (.slice A1 n1 c1) n1 S.1 w5.heap.size s A5 ng c5 ?c0 ?c1 rfl (.tmp 27) (.tmp 30) rfl rfl rfl ?c3 (by omega) ?c4 ?_)
            case c0 => exact HK5.out.below ((Below.refl _ _).alloc (Nat.le_refl _) _)
            case c1 => exact HSS5.out.below ((Below.refl _ _).alloc (Nat.le_refl _) _)
            case c3 => first | exact heap_new rfl | exact Array.getElem_push_eq
            case c4 => (try simp); omega
            intro v7 w7 how7 hg7 hat7
            obtain ⟨A7, c7, rfl, _⟩ := how7.hat
            have HB7 := Lib.hid ((HB5.out.alloc hs5 (.cells #[.string s.name, .slice A5 ng c5, .bool s.undo] 75)).grown hg7 (by simp; omega) (fun b hb => Nat.le_trans (Nat.le_succ _) (by
              obtain ⟨A9, c9, e9, _⟩ := HK5.out.hat
              have h9 := HK5.out
              rw [e9] at h9 hb
              exact (SRow.lt h9 hb).1)))
            have HX7 := Lib.hid (grown_blk hg7 (heap_old HX5.out) (by exact HK5.out.neBox (Nat.lt_succ_self _)))
            have hs7 := HB7.out.size
            have HK7 := Lib.hid how7; clear how7
            clear hg7 hat7
            obtain ⟨d1, d2, d3⟩ := HDK.out w7 HB7.out
            have hx0 := (blk_cl (k := 0) HX7.out rfl).1
            have hxl7 := heap_lt HX7.out
            go_wp2_with fail
            go_quiet (fail)
            go_wp2_with fail
            go_roundw
            case rel => exact ⟨k + 1, (n1 + 1), by omega, by go_num, by rw [HT.out], by rw [HT.out]; exact HK7.out.below (below_drewN (Below.refl w7.heap.size w7) _), HB7.out.trans ((below_drewN (Below.refl w7.heap.size w7) _).mono hs7), ((below_drewN (Below.refl w7.heap.size w7) _).block _ (heap_lt HX7.out)).trans HX7.out⟩
            case measure => simp [intOf]; omega
          · rw [if_neg he] at HS1
            have HT := Lib.hid HS1
            have hq := seq_f he
            clear HS1 he hL
            have f1 := (blk_cl (k := 1) HXW.out rfl).1
            have f2 := (blk_cl (k := 2) HXW.out rfl).1
            go_wp2_with fail
            go_quiet (fail)
            go_wp2_with fail
            refine (l2Step_any _ _ _ s _ _ ((HG.out.below HBW.out).below (below_drewN (Below.refl wo.heap.size wo) _)) hng).mono ?_
            rintro e w5 ⟨A5, c5, rfl, hss5, hc5, hb5⟩
            have hbq5 : Below wo.heap.size wo w5 := (below_drewN (Below.refl wo.heap.size wo) _).trans hb5
            have HSS5 := Lib.hid (hss5.mono (show w.heap.size + 1 ≤ wo.heap.size from hxl)); clear hss5
            have HB5 := Lib.hid (HBW.out.trans (hbq5.mono hsw))
            have HK5 := Lib.hid (HROW.out.below hbq5)
            have HX5 := Lib.hid ((hbq5.block _ (heap_lt HXW.out)).trans HXW.out)
            have hs5 := HB5.out.size
            clear hb5 hbq5 f1 f2 hx0 d1 d2 d3
            go_wp2_with (at_builtin; refine app_stepW (w.heap.size + 1) (.slice A1 n1 c1) n1 S.1 w5.heap.size s A5 ng c5 ?c0 ?c1 rfl (.tmp 27) (.tmp 30) rfl rfl rfl ?c3 (by omega) ?c4 ?_)
            case c0 => exact HK5.out.below ((Below.refl _ _).alloc (Nat.le_refl _) _)
            case c1 => exact HSS5.out.below ((Below.refl _ _).alloc (Nat.le_refl _) _)
            case c3 => first | exact heap_new rfl | exact Array.getElem_push_eq
            case c4 => (try simp); omega
            intro v7 w7 how7 hg7 hat7
            obtain ⟨A7, c7, rfl, _⟩ := how7.hat
            have HB7 := Lib.hid ((HB5.out.alloc hs5 (.cells #[.string s.name, .slice A5 ng c5, .bool s.undo] 75)).grown hg7 (by simp; omega) (fun b hb => Nat.le_trans (Nat.le_succ _) (by
              obtain ⟨A9, c9, e9, _⟩ := HK5.out.hat
              have h9 := HK5.out
              rw [e9] at h9 hb
              exact (SRow.lt h9 hb).1)))
            have HX7 := Lib.hid (grown_blk hg7 (heap_old HX5.out) (by exact HK5.out.neBox (Nat.lt_succ_self _)))
            have hs7 := HB7.out.size
            have HK7 := Lib.hid how7; clear how7
            clear hg7 hat7
            obtain ⟨d1, d2, d3⟩ := HDK.out w7 HB7.out
            have hx0 := (blk_cl (k := 0) HX7.out rfl).1
            have hxl7 := heap_lt HX7.out
            go_wp2_with fail
            go_quiet (fail)
            go_wp2_with fail
            refine (l2Step_any _ _ _ (nth ss k) _ _ ((HDR.out.below HB7.out).below (below_drewN (Below.refl w7.heap.size w7) _)) hn').mono ?_
            rintro e w15 ⟨A15, c15, rfl, hss15, hc15, hb15⟩
            have hbq15 : Below w7.heap.size w7 w15 := (below_drewN (Below.refl w7.heap.size w7) _).trans hb15
            have HSS15 := Lib.hid (hss15.mono (show w.heap.size + 1 ≤ w7.heap.size from hxl7)); clear hss15
            have HB15 := Lib.hid (HB7.out.trans (hbq15.mono hs7))
            have HK15 := Lib.hid (HK7.out.below hbq15)
            have HX15 := Lib.hid ((hbq15.block _ (heap_lt HX7.out)).trans HX7.out)
            have hs15 := HB15.out.size
            clear hb15 hbq15 d1 d2 d3 hx0
            go_wp2_with (at_builtin; refine app_stepW (w.heap.size + 1) (.slice A7 (n1 + 1) c7) (n1 + 1) (S.1 ++ [s]) w15.heap.size (nth ss k) A15 n' c15 ?c0 ?c1 rfl (.tmp 40) (.tmp 46) rfl rfl rfl ?c3 (by omega) ?c4 ?_)
            case c0 => exact HK15.out.below ((Below.refl _ _).alloc (Nat.le_refl _) _)
            case c1 => exact HSS15.out.below ((Below.refl _ _).alloc (Nat.le_refl _) _)
            case c3 => first | exact heap_new rfl | exact Array.getElem_push_eq
            case c4 => (try simp); omega
            intro v17 w17 how17 hg17 hat17
            obtain ⟨A17, c17, rfl, _⟩ := how17.hat
            have HB17 := Lib.hid ((HB15.out.alloc hs15 (.cells #[.string (nth ss k).name, .slice A15 n' c15, .bool (nth ss k).undo] 75)).grown hg17 (by simp; omega) (fun b hb => Nat.le_trans (Nat.le_succ _) (by
              obtain ⟨A9, c9, e9, _⟩ := HK15.out.hat
              have h9 := HK15.out
              rw [e9] at h9 hb
              exact (SRow.lt h9 hb).1)))
            have HX17 := Lib.hid (grown_blk hg17 (heap_old HX15.out) (by exact HK15.out.neBox (Nat.lt_succ_self _)))
            have hs17 := HB17.out.size
            have HK17 := Lib.hid how17; clear how17
            clear hg17 hat17
            go_wp2_with fail
            go_roundw
            case rel => exact ⟨k + 1, (n1 + 1) + 1, by omega, by go_num, by rw [HT.out], by rw [HT.out]; (first | exact HK17.out | (rw [List.append_assoc]; exact HK17.out)), HB17.out, HX17.out⟩
            case measure => simp [intOf]; omega
        · rw [hL] at h8 h9
          rw [putW_lt hL] at HS1
          have HT := Lib.hid HS1
          have hq := seq_f (strLt_ne hL)
          clear HS1 hL
          go_wp2_with fail
          go_quiet (fail)
          go_wp2_with fail
          go_quiet (fail)
          go_wp2_with fail
          refine (l2Step_any _ _ _ (nth ss k) _ _ ((HDR.out.below HBW.out).below (below_drewN (Below.refl wo.heap.size wo) _)) hn').mono ?_
          rintro e w15 ⟨A15, c15, rfl, hss15, hc15, hb15⟩
          have hbq15 : Below wo.heap.size wo w15 := (below_drewN (Below.refl wo.heap.size wo) _).trans hb15
          have HSS15 := Lib.hid (hss15.mono (show w.heap.size + 1 ≤ wo.heap.size from hxl)); clear hss15
          have HB15 := Lib.hid (HBW.out.trans (hbq15.mono hsw))
          have HK15 := Lib.hid (HROW.out.below hbq15)
          have HX15 := Lib.hid ((hbq15.block _ (heap_lt HXW.out)).trans HXW.out)
          have hs15 := HB15.out.size
          clear hb15 hbq15 d1 d2 d3 hx0
          go_wp2_with (at_builtin; refine app_stepW (w.heap.size + 1) (.slice A1 n1 c1) n1 S.1 w15.heap.size (nth ss k) A15 n' c15 ?c0 ?c1 rfl (.tmp 40) (.tmp 46) rfl rfl rfl ?c3 (by omega) ?c4 ?_)
          case c0 => exact HK15.out.below ((Below.refl _ _).alloc (Nat.le_refl _) _)
          case c1 => exact HSS15.out.below ((Below.refl _ _).alloc (Nat.le_refl _) _)
          case c3 => first | exact heap_new rfl | exact Array.getElem_push_eq
          case c4 => (try simp); omega
          intro v17 w17 how17 hg17 hat17
          obtain ⟨A17, c17, rfl, _⟩ := how17.hat
          have HB17 := Lib.hid ((HB15.out.alloc hs15 (.cells #[.string (nth ss k).name, .slice A15 n' c15, .bool (nth ss k).undo] 75)).grown hg17 (by simp; omega) (fun b hb => Nat.le_trans (Nat.le_succ _) (by
            obtain ⟨A9, c9, e9, _⟩ := HK15.out.hat
            have h9 := HK15.out
            rw [e9] at h9 hb
            exact (SRow.lt h9 hb).1)))
          have HX17 := Lib.hid (grown_blk hg17 (heap_old HX15.out) (by exact HK15.out.neBox (Nat.lt_succ_self _)))
          have hs17 := HB17.out.size
          have HK17 := Lib.hid how17; clear how17
          clear hg17 hat17
          go_wp2_with fail
          go_roundw
          case rel => exact ⟨k + 1, n1 + 1, by omega, by go_num, by rw [HT.out], by rw [HT.out]; exact HK17.out, HB17.out, HX17.out⟩
          case measure => simp [intOf]; omega
      · rw [putW_done] at HS1
        clear h8 h9
        by_cases he : (nth ss k).name = s.name
        · rw [if_pos he] at HS1
          have HT := Lib.hid HS1
          have hq := seq_t he
          clear HS1 he
          go_wp2_with fail
          go_quiet (fail)
          go_wp2_with fail
          go_quiet (fail)
          go_wp2_with fail
          go_roundw
          case rel => exact ⟨k + 1, n1, by omega, by go_num, by rw [HT.out], by rw [HT.out]; exact HROW.out.below (below_drewN (Below.refl wo.heap.size wo) _), HBW.out.trans ((below_drewN (Below.refl wo.heap.size wo) _).mono hsw), ((below_drewN (Below.refl wo.heap.size wo) _).block _ (heap_lt HXW.out)).trans HXW.out⟩
          case measure => simp [intOf]; omega
        · rw [if_neg he] at HS1
          have HT := Lib.hid HS1
          have hq := seq_f he
          clear HS1 he
          go_wp2_with fail
          go_quiet (fail)
          go_wp2_with fail
          go_quiet (fail)
          go_wp2_with fail
          refine (l2Step_any _ _ _ (nth ss k) _ _ ((HDR.out.below HBW.out).below (below_drewN (Below.refl wo.heap.size wo) _)) hn').mono ?_
          rintro e w15 ⟨A15, c15, rfl, hss15, hc15, hb15⟩
          have hbq15 : Below wo.heap.size wo w15 := (below_drewN (Below.refl wo.heap.size wo) _).trans hb15
          have HSS15 := Lib.hid (hss15.mono (show w.heap.size + 1 ≤ wo.heap.size from hxl)); clear hss15
          have HB15 := Lib.hid (HBW.out.trans (hbq15.mono hsw))
          have HK15 := Lib.hid (HROW.out.below hbq15)
          have HX15 := Lib.hid ((hbq15.block _ (heap_lt HXW.out)).trans HXW.out)
          have hs15 := HB15.out.size
          clear hb15 hbq15 d1 d2 d3 hx0
          go_wp2_with (at_builtin; refine app_stepW (w.heap.size + 1) (.slice A1 n1 c1) n1 S.1 w15.heap.size (nth ss k) A15 n' c15 ?c0 ?c1 rfl (.tmp 40) (.tmp 46) rfl rfl rfl ?c3 (by omega) ?c4 ?_)
          case c0 => exact HK15.out.below ((Below.refl _ _).alloc (Nat.le_refl _) _)
          case c1 => exact HSS15.out.below ((Below.refl _ _).alloc (Nat.le_refl _) _)
          case c3 => first | exact heap_new rfl | exact Array.getElem_push_eq
          case c4 => (try simp); omega
          intro v17 w17 how17 hg17 hat17
          obtain ⟨A17, c17, rfl, _⟩ := how17.hat
          have HB17 := Lib.hid ((HB15.out.alloc hs15 (.cells #[.string (nth ss k).name, .slice A15 n' c15, .bool (nth ss k).undo] 75)).grown hg17 (by simp; omega) (fun b hb => Nat.le_trans (Nat.le_succ _) (by
            obtain ⟨A9, c9, e9, _⟩ := HK15.out.hat
            have h9 := HK15.out
            rw [e9] at h9 hb
            exact (SRow.lt h9 hb).1)))
          have HX17 := Lib.hid (grown_blk hg17 (heap_old HX15.out) (by exact HK15.out.neBox (Nat.lt_succ_self _)))
          have hs17 := HB17.out.size
          have HK17 := Lib.hid how17; clear how17
          clear hg17 hat17
          go_wp2_with fail
          go_roundw
          case rel => exact ⟨k + 1, n1 + 1, by omega, by go_num, by rw [HT.out], by rw [HT.out]; exact HK17.out, HB17.out, HX17.out⟩
          case measure => simp [intOf]; omega
    · obtain rfl : k = n := by omega
      have HE := Lib.hid (show withL ss s = if S.2 = true then S.1 else S.1 ++ [s] from HEnd.out (by rw [HL.out]; exact Nat.le_refl _))
      clear HSuc HEnd
      obtain ⟨a, dn⟩ := S
      cases dn
      · have HE2 := Lib.hid (HE.out.trans (if_neg (by simp)))
        clear HE
        have f1 := (blk_cl (k := 1) HXW.out rfl).1
        have f2 := (blk_cl (k := 2) HXW.out rfl).1
        go_wp2_with fail
        refine (l2Step_any _ _ _ s _ _ ((HG.out.below HBW.out).below (Below.refl wo.heap.size wo)) hng).mono ?_
        rintro e w5 ⟨A5, c5, rfl, hss5, hc5, hb5⟩
        have hbq5 : Below wo.heap.size wo w5 := (Below.refl wo.heap.size wo).trans hb5
        have HSS5 := Lib.hid (hss5.mono (show w.heap.size + 1 ≤ wo.heap.size from hxl)); clear hss5
        have HB5 := Lib.hid (HBW.out.trans (hbq5.mono hsw))
        have HK5 := Lib.hid (HROW.out.below hbq5)
        have HX5 := Lib.hid ((hbq5.block _ (heap_lt HXW.out)).trans HXW.out)
        have hs5 := HB5.out.size
        clear hb5 hbq5 f1 f2 hx0
        go_wp2_with (at_builtin; refine app_stepW (w.heap.size + 1) (.slice A1 n1 c1) n1 a w5.heap.size s A5 ng c5 ?c0 ?c1 rfl (.tmp 50) (.tmp 53) rfl rfl rfl ?c3 (by omega) ?c4 ?_)
        case c0 => exact HK5.out.below ((Below.refl _ _).alloc (Nat.le_refl _) _)
        case c1 => exact HSS5.out.below ((Below.refl _ _).alloc (Nat.le_refl _) _)
        case c3 => first | exact heap_new rfl | exact Array.getElem_push_eq
        case c4 => (try simp); omega
        intro v7 w7 how7 hg7 hat7
        obtain ⟨A7, c7, rfl, _⟩ := how7.hat
        have HB7 := Lib.hid ((HB5.out.alloc hs5 (.cells #[.string s.name, .slice A5 ng c5, .bool s.undo] 75)).grown hg7 (by simp; omega) (fun b hb => Nat.le_trans (Nat.le_succ _) (by
          obtain ⟨A9, c9, e9, _⟩ := HK5.out.hat
          have h9 := HK5.out
          rw [e9] at h9 hb
          exact (SRow.lt h9 hb).1)))
        have HX7 := Lib.hid (grown_blk hg7 (heap_old HX5.out) (by exact HK5.out.neBox (Nat.lt_succ_self _)))
        have hs7 := HB7.out.size
        have HK7 := Lib.hid how7; clear how7
        clear hg7 hat7
        go_wp2_with fail
        go_ret
        exact ⟨_, _, _, rfl, by rw [HE2.out]; exact SRow.mono HK7.out (Nat.le_succ _), HB7.out⟩
      · have HE2 := Lib.hid (HE.out.trans (if_pos rfl))
        clear HE
        go_wp2_with fail
        go_ret
        exact ⟨_, _, _, rfl, by rw [HE2.out]; exact SRow.mono HROW.out (Nat.le_succ _), HBW.out⟩
end Go.Proofs.Ytakeijgoonagcaa

/- Steps without one, the reference's side. -/
namespace Go.Proofs.Ytakeijgoonagcaa
open Go.RowKit

theorem SRow.off {w w' : World} {base n b : Nat} {v : Value} {ss : List Step} (h : SRow w base v n ss) (hk : ∀ i, i ≠ b → w'.heap[i]? = w.heap[i]?) (hne : v.ownBlock ≠ some b) (hs : ∀ cs, w.heap[b]? ≠ some (.cells cs 9 (0, 0))) : SRow w' base v n ss := by
  obtain ⟨ps, e, h1, h2⟩ := h
  refine ⟨ps, e, ⟨h1.1, ?_⟩, fun q hq => ?_⟩
  · rcases h1.2 with h0 | ⟨g, cap, cur, hv, hb, hg, hr⟩
    · exact .inl h0
    · refine .inr ⟨g, cap, cur, hv, hb, (hk g fun e => ?_).trans hg, hr⟩
      subst e
      exact hne (by rw [hv]; rfl)
  · obtain ⟨A, m, c, e2, h3⟩ := h2 q hq
    exact ⟨A, m, c, e2, h3.kept fun b' cs _ hc => hk b' fun e => by subst e; exact hs cs hc⟩
theorem putAll_nil (acc : List Str) : putAll acc [] = acc := rfl
theorem notName_yes {name : Str} {xs : List Str} {j : Nat} (hj : j < xs.length) (h : nth xs j ≠ name) : notName name (xs.take (j + 1)) = notName name (xs.take j) ++ [nth xs j] := by
  unfold notName; rw [take_nth hj, List.filter_append]; simp [h]
theorem notName_no {name : Str} {xs : List Str} {j : Nat} (hj : j < xs.length) (h : nth xs j = name) : notName name (xs.take (j + 1)) = notName name (xs.take j) := by
  unfold notName; rw [take_nth hj, List.filter_append]; simp [h]
theorem notName_len (name : Str) (xs : List Str) : (notName name xs).length ≤ xs.length := List.length_filter_le _ _

set_option maxRecDepth 100000 in
set_option maxHeartbeats 4000000 in
theorem l12Without_any (A : Option Addr) (n c : Nat) (ss : List Step) (name : Str) (lo : Nat) (w : World) (hr : RStep w lo A n ss) (hok : okSteps ss) (hn : n ≤ 1000) (hsh : ∀ j, j < n → (nth ss j).after.length ≤ 100) (hh : hasB (namesOf ss) name = true) :
    Calls Try.prog 106 #[.slice A n c, .string name] w fun e w' => ∃ B m d, e = .returned (.slice B m d) ∧ SRow w' w.heap.size (.slice B m d) m (woL ss name) ∧ Below w.heap.size w w' := by
  have HL := Lib.hid hr.1
  have HR := Lib.hid hr
  have HOK := Lib.hid hok; clear hok
  have HSH := Lib.hid hsh; clear hsh
  have HWO := Lib.hid (show ∀ k, ss.length ≤ k → woTo ss name (nth ss (plc ss name)).after k = woL ss name from fun k hk => woTo_all hk)
  obtain ⟨hpl, hidx, -⟩ := plc_ex hh
  generalize plc ss name = p at *
  have hpn : p < n := by rw [← HL.out]; exact hpl
  have hp1 : (0 : Int) ≤ (p : Int) := by omega
  have hp2 : (p : Int) < (n : Int) := by omega
  have hp3 : ¬ ((p : Int) < 0) := by omega
  have HRA := Lib.hid (hr.alloc (.cells #[] 75)); clear hr
  have HN0 := Lib.hid (SRow.made (w := w) (base := w.heap.size) (b := w.heap.size) (Nat.le_refl _) rfl)
  have HB0 := Lib.hid ((Below.refl w.heap.size w).alloc (Nat.le_refl _) (.cells #[] 75))
  go_enter Try.func106, Try.ntmps106
  go_wp2_with fail
  refine (l2At_any _ _ _ ss name _ _ HRA.out (by omega)).mono ?_
  rintro e w1 ⟨rfl, hw1⟩
  subst hw1
  rw [hidx]
  clear hidx hh
  obtain ⟨b, off, hA, ⟨_, hbl⟩, hcc⟩ := RStep.at_ HR.out hpn
  subst hA
  have HDK := Lib.hid (fun (j : Nat) (hj : j < n) => hcc j hj)
  clear hcc
  obtain ⟨G, ng, cg, ⟨g1, g2, g3⟩, hgr, _⟩ := HDK.out p hpn
  have g1 := (HB0.out.cell (p := ⟨b, off + p * 3, none⟩) hbl).trans g1
  have g2 := (HB0.out.cell (p := ⟨b, off + p * 3 + 1, none⟩) hbl).trans g2
  have g3 := (HB0.out.cell (p := ⟨b, off + p * 3 + 2, none⟩) hbl).trans g3
  have HGR := Lib.hid hgr; clear hgr
  have hng : ng ≤ 100 := by rw [← HGR.out.1]; exact HSH.out p hpn
  have HGL := Lib.hid HGR.out.1
  have HN1 := Lib.hid (HN0.out.below ((Below.refl _ _).alloc (Nat.le_refl _) (.cells #[.string (nth ss p).name, .slice G ng cg, .bool (nth ss p).undo] 75)))
  have HB1 := Lib.hid (HB0.out.alloc HB0.out.size (.cells #[.string (nth ss p).name, .slice G ng cg, .bool (nth ss p).undo] 75))
  have HG1 := Lib.hid (heap_new (w := w.alloc (.cells #[] 75)) (b := w.heap.size + 1) (o := .cells #[.string (nth ss p).name, .slice G ng cg, .bool (nth ss p).undo] 75) (by simp))
  go_wp2_with fail
  clear g1 g2 g3
  go_loopw [5, 7] (fun v i wr => ∃ k n1 : Nat, k ≤ n ∧ i = .int .i64 (k : Int) ∧ SRow wr w.heap.size v n1 (woTo ss name (nth ss p).after k) ∧ Below w.heap.size w wr ∧ wr.heap[w.heap.size + 1]? = some (.cells #[.string (nth ss p).name, .slice G ng cg, .bool (nth ss p).undo] 75) ∧ v.ownBlock ≠ some (w.heap.size + 1)) (fun _ i _ => n - (intOf i).toNat)
  case atStart => exact ⟨0, 0, Nat.zero_le _, rfl, HN1.out, HB1.out, HG1.out, fun e => by have h9 : w.heap.size = w.heap.size + 1 := Option.some.inj e; omega⟩
  case round =>
    obtain ⟨wo, rfl⟩ : ∃ wo : World, wo = wr := ⟨_, rfl⟩
    obtain ⟨k, n1, hk, rfl, hrow, hbw, hgw, hne⟩ := hrel
    have HROW := Lib.hid hrow; clear hrow
    have HBW := Lib.hid hbw; clear hbw
    have HGW := Lib.hid hgw; clear hgw
    have HNE := Lib.hid hne; clear hne
    have hsw := HBW.out.size
    have hgl := heap_lt HGW.out
    have hn1 : n1 ≤ k := by
      have h1 := HROW.out.len
      have h2 := woTo_len ss name (nth ss p).after k
      omega
    obtain ⟨A1, c1, rfl, _⟩ := HROW.out.hat
    by_cases hlt : k < n
    · obtain ⟨A', n', c', ⟨d1, d2, d3⟩, hdr, _⟩ := HDK.out k hlt
      have d1 := (HBW.out.cell (p := ⟨b, off + k * 3, none⟩) hbl).trans d1
      have d2 := (HBW.out.cell (p := ⟨b, off + k * 3 + 1, none⟩) hbl).trans d2
      have d3 := (HBW.out.cell (p := ⟨b, off + k * 3 + 2, none⟩) hbl).trans d3
      have hkl : k < ss.length := by rw [HL.out]; exact hlt
      have hn' : n' ≤ 100 := by rw [← hdr.1]; exact HSH.out k hlt
      have HDR := Lib.hid hdr; clear hdr
      have hk0 : (0 : Int) ≤ (k : Int) := by omega
      have hk1 : (k : Int) < (n : Int) := by omega
      have hk2 : ¬ ((k : Int) < 0) := by omega
      go_wp2_with fail
      refine (l2Step_any _ _ _ (nth ss k) _ _ (HDR.out.below HBW.out) (by omega)).mono ?_
      rintro e w5 ⟨A5, c5, rfl, hss5, hc5, hb5⟩
      have hsw5 := hb5.size
      have HSS6 := Lib.hid ((hss5.mono hsw).below ((Below.refl _ _).alloc (Nat.le_refl _) (.cells #[.string (nth ss k).name, .slice A5 n' c5, .bool (nth ss k).undo] 75))); clear hss5
      have HB5 := HBW.out.trans (hb5.mono hsw)
      have HB6 := Lib.hid (HB5.alloc HB5.size (.cells #[.string (nth ss k).name, .slice A5 n' c5, .bool (nth ss k).undo] 75))
      have HK6 := Lib.hid ((HROW.out.below hb5).below ((Below.refl _ _).alloc (Nat.le_refl _) (.cells #[.string (nth ss k).name, .slice A5 n' c5, .bool (nth ss k).undo] 75)))
      have HG6 := Lib.hid (heap_old (o := .cells #[.string (nth ss k).name, .slice A5 n' c5, .bool (nth ss k).undo] 75) ((hb5.block _ hgl).trans HGW.out))
      have HX6 := Lib.hid (heap_new (w := w5) (o := .cells #[.string (nth ss k).name, .slice A5 n' c5, .bool (nth ss k).undo] 75) rfl)
      have HNP : Hid ((Value.slice A1 n1 c1).ownBlock ≠ some w5.heap.size) := Lib.hid (fun e => by
        have := (SRow.lt (HROW.out.below hb5) e).2
        omega)
      clear hb5 HB5 d1 d2 d3
      go_wp2_with fail
      refine (l1At_any _ _ _ (nth ss k).after name _ _ HSS6.out.hat (by omega)).mono ?_
      rintro e w6' ⟨rfl, hw6⟩
      subst hw6
      generalize ew6 : w5.alloc (.cells #[.string (nth ss k).name, .slice A5 n' c5, .bool (nth ss k).undo] 75) = w6 at *
      have hpb6 := heap_lt HX6.out
      clear ew6
      generalize w5.heap.size = pb at *
      have HAL := Lib.hid HSS6.out.hat.1
      cases hb : hasB (nth ss k).after name
      · have HWA := Lib.hid (show woAfter name (nth ss p).after (nth ss k).after = (nth ss k).after by unfold woAfter; rw [if_neg (by rw [hb]; simp)])
        have hz := idx_neg hb
        clear hb
        generalize idxI (nth ss k).after name = z9 at *
        have HSS8 := Lib.hid (show SStr w6 w.heap.size A5 n' (woStep name (nth ss p).after (nth ss k)).after by
          show SStr w6 w.heap.size A5 n' (woAfter name (nth ss p).after (nth ss k).after)
          rw [HWA.out]; exact HSS6.out)
        have HX8 := HX6
        have HB8 := HB6
        have HK8 := HK6
        have HG8 := HG6
        clear HX6 HB6 HK6 HG6 HSS6
        generalize w6 = w8 at *
        generalize A5 = A8 at *
        generalize c5 = c8 at *
        generalize n' = n8 at *
        have b0 := (blk_cl (k := 0) HX8.out rfl).1
        have b1 := (blk_cl (k := 1) HX8.out rfl).1
        have b2 := (blk_cl (k := 2) HX8.out rfl).1
        have hs8 := HB8.out.size
        have hgl8 := heap_lt HG8.out
        by_cases he : (nth ss k).name = name
        · have hq := seq_t he
          have HT := Lib.hid (woTo_no (gone := (nth ss p).after) hkl he)
          clear he
          go_wp2_with fail
          go_roundw
          case rel => exact ⟨k + 1, n1, by omega, by go_num, by rw [HT.out]; exact HK8.out, HB8.out, HG8.out, HNE.out⟩
          case measure => simp [intOf]; omega
        · have hq := seq_f he
          have HT := Lib.hid (woTo_yes (gone := (nth ss p).after) hkl he)
          clear he
          go_wp2_with (at_builtin; refine app_stepW w.heap.size (.slice A1 n1 c1) n1 (woTo ss name (nth ss p).after k) w8.heap.size (woStep name (nth ss p).after (nth ss k)) A8 n8 c8 ?c0 ?c1 rfl (.tmp 77) (.tmp 79) rfl rfl rfl ?c3 (by omega) ?c4 ?_)
          case c0 => exact HK8.out.below ((Below.refl _ _).alloc (Nat.le_refl _) _)
          case c1 => exact HSS8.out.below ((Below.refl _ _).alloc (Nat.le_refl _) _)
          case c3 => first | exact heap_new rfl | exact Array.getElem_push_eq
          case c4 => (try simp); omega
          intro v9 w9 how9 hg9 hat9
          have HB9 := Lib.hid ((HB8.out.alloc hs8 (.cells #[.string (nth ss k).name, .slice A8 n8 c8, .bool (nth ss k).undo] 75)).grown hg9 (by simp; omega) (fun b hb => (SRow.lt HK8.out hb).1))
          have HG9 := Lib.hid (grown_blk hg9 (heap_old HG8.out) HNE.out)
          have HNE9 : Hid (v9.ownBlock ≠ some (w.heap.size + 1)) := Lib.hid (fun e => by
            rcases hat9 with h | h
            · rw [h] at e; exact HNE.out e
            · rw [h] at e
              have := Option.some.inj e
              (try simp at this)
              omega)
          have HK9 := Lib.hid how9
          clear how9 hg9 hat9
          go_wp2_with fail
          go_roundw
          case rel => exact ⟨k + 1, n1 + 1, by omega, by go_num, by rw [HT.out]; exact HK9.out, HB9.out, HG9.out, HNE9.out⟩
          case measure => simp [intOf]; omega
      · have HWA := Lib.hid (show woAfter name (nth ss p).after (nth ss k).after = putAll (putAll [] (notName name (nth ss k).after)) (nth ss p).after by unfold woAfter; rw [if_pos hb])
        have hz : decide (0 ≤ idxI (nth ss k).after name) = true := by rw [hasB_idx, hb]
        clear hb
        generalize idxI (nth ss k).after name = z9 at *
        have HM0 := Lib.hid (World.ownsRow_made (base := w6.heap.size) (e := 9) (size := 1) w6 #[] 0 (Nat.le_refl _) (Nat.zero_le _) rfl)
        have HBM := Lib.hid ((Below.refl w6.heap.size w6).alloc (Nat.le_refl _) (.cells #[] 9))
        have b1 := (blk_cl (k := 1) (heap_old (o := .cells #[] 9) HX6.out) rfl).1
        go_wp2_with fail
        clear b1
        go_loopw [9, 10] (fun v i wr => ∃ j m : Nat, j ≤ n' ∧ i = .int .i64 (j : Int) ∧ wr.ownsRow w6.heap.size 9 1 v m ((putAll [] (notName name ((nth ss k).after.take j))).map Value.string) ∧ Below w6.heap.size w6 wr) (fun _ i _ => n' - (intOf i).toNat)
        case atStart => exact ⟨0, 0, Nat.zero_le _, rfl, HM0.out, HBM.out⟩
        case round =>
          obtain ⟨wm, rfl⟩ : ∃ wm : World, wm = wr := ⟨_, rfl⟩
          obtain ⟨j, m, hj, rfl, hro, hbm⟩ := hrel
          have HRO := Lib.hid hro; clear hro
          have HBQ := Lib.hid hbm; clear hbm
          have hsq := HBQ.out.size
          have HXQ := Lib.hid ((HBQ.out.block _ hpb6).trans HX6.out)
          have b1 := (blk_cl (k := 1) HXQ.out rfl).1
          obtain ⟨A2, c2, rfl, hrs⟩ := own_str HRO.out
          have HRS := Lib.hid hrs; clear hrs
          have hm : m ≤ 100 := by
            rw [← HRS.out.1]
            have h1 := putAll_len (notName name ((nth ss k).after.take j)) []
            have h2 := notName_len name ((nth ss k).after.take j)
            have h3 := List.length_take_le j (nth ss k).after
            simp at h1
            omega
          by_cases hjlt : j < n'
          · obtain ⟨b5, off5, e5, _, hc5'⟩ := RStr.at_ (HSS6.out.hat.below HBQ.out) hjlt
            subst e5
            have q1 := (hc5' j hjlt).1
            clear hc5'
            have hjl : j < (nth ss k).after.length := by rw [HAL.out]; exact hjlt
            have hj0 : (0 : Int) ≤ (j : Int) := by omega
            have hj1 : (j : Int) < (n' : Int) := by omega
            have hj2 : ¬ ((j : Int) < 0) := by omega
            by_cases he : nth (nth ss k).after j = name
            · have hq := seq_t he
              have HT := Lib.hid (notName_no hjl he)
              clear he
              go_wp2_with fail
              go_roundw
              case rel => exact ⟨j + 1, m, by omega, by go_num, by rw [HT.out]; exact HRO.out, HBQ.out⟩
              case measure => simp [intOf]; omega
            · have hq := seq_f he
              have HT := Lib.hid (show putAll [] (notName name ((nth ss k).after.take (j + 1))) = putL (putAll [] (notName name ((nth ss k).after.take j))) (nth (nth ss k).after j) by rw [notName_yes hjl he, putAll_snoc])
              clear he
              go_wp2_with fail
              refine (l1Put_any _ _ _ _ (nth (nth ss k).after j) _ _ HRS.out (by omega)).mono ?_
              rintro e w7 ⟨A7, m7, d7, rfl, ho7, hb7⟩
              have HO7 := Lib.hid (row_mono ho7 hsq)
              have HB7 := Lib.hid (HBQ.out.trans (hb7.mono hsq))
              clear ho7 hb7 b1 q1
              go_wp2_with fail
              go_roundw
              case rel => exact ⟨j + 1, m7, by omega, by go_num, by rw [HT.out]; exact HO7.out, HB7.out⟩
              case measure => simp [intOf]; omega
          · obtain rfl : j = n' := by omega
            have htk : (nth ss k).after.take j = (nth ss k).after := by rw [← HAL.out]; exact List.take_length
            rw [htk] at HRO HRS
            clear htk
            generalize hacc : putAll [] (notName name (nth ss k).after) = acc at *
            have HACC := Lib.hid hacc; clear hacc
            have hal : acc.length ≤ 100 := by have := HRS.out.1; omega
            have HGQ := Lib.hid ((HBQ.out.block _ (heap_lt HG6.out)).trans HG6.out)
            have g1 := (blk_cl (k := 1) HGQ.out rfl).1
            have HRO0 := Lib.hid (show wm.ownsRow w6.heap.size 9 1 (.slice A2 m c2) m ((putAll acc ((nth ss p).after.take 0)).map Value.string) from HRO.out)
            go_wp2_with fail
            clear b1 g1
            go_loopw [9, 11] (fun v i wr => ∃ q m : Nat, q ≤ ng ∧ i = .int .i64 (q : Int) ∧ wr.ownsRow w6.heap.size 9 1 v m ((putAll acc ((nth ss p).after.take q)).map Value.string) ∧ Below w6.heap.size w6 wr) (fun _ i _ => ng - (intOf i).toNat)
            case atStart => exact ⟨0, m, Nat.zero_le _, rfl, HRO0.out, HBQ.out⟩
            case round =>
              obtain ⟨wt, rfl⟩ : ∃ wt : World, wt = wr := ⟨_, rfl⟩
              obtain ⟨q, m3, hq, rfl, hro3, hbm3⟩ := hrel
              have HRO3 := Lib.hid hro3; clear hro3
              have HBQ3 := Lib.hid hbm3; clear hbm3
              have hsq3 := HBQ3.out.size
              have HG3 := Lib.hid ((HBQ3.out.block _ (heap_lt HG6.out)).trans HG6.out)
              have HX3 := Lib.hid ((HBQ3.out.block _ hpb6).trans HX6.out)
              have g1 := (blk_cl (k := 1) HG3.out rfl).1
              obtain ⟨A3, c3, rfl, hrs3⟩ := own_str HRO3.out
              have HRS3 := Lib.hid hrs3; clear hrs3
              have hm3 : m3 ≤ 200 := by
                rw [← HRS3.out.1]
                have h1 := putAll_len ((nth ss p).after.take q) acc
                have h3 := List.length_take_le q (nth ss p).after
                omega
              by_cases hqlt : q < ng
              · obtain ⟨b5, off5, e5, _, hc5'⟩ := RStr.at_ (HGR.out.below (HB6.out.trans (HBQ3.out.mono HB6.out.size))) hqlt
                subst e5
                have q1 := (hc5' q hqlt).1
                clear hc5'
                have hql : q < (nth ss p).after.length := by rw [HGL.out]; exact hqlt
                have hq0 : (0 : Int) ≤ (q : Int) := by omega
                have hq1 : (q : Int) < (ng : Int) := by omega
                have hq2 : ¬ ((q : Int) < 0) := by omega
                have HT := Lib.hid (show putAll acc ((nth ss p).after.take (q + 1)) = putL (putAll acc ((nth ss p).after.take q)) (nth (nth ss p).after q) by rw [take_nth hql, putAll_snoc])
                go_wp2_with fail
                refine (l1Put_any _ _ _ _ (nth (nth ss p).after q) _ _ HRS3.out (by omega)).mono ?_
                rintro e w7 ⟨A7, m7, d7, rfl, ho7, hb7⟩
                have HO7 := Lib.hid (row_mono ho7 hsq3)
                have HB7 := Lib.hid (HBQ3.out.trans (hb7.mono hsq3))
                clear ho7 hb7 g1 q1
                go_wp2_with fail
                go_roundw
                case rel => exact ⟨q + 1, m7, by omega, by go_num, by rw [HT.out]; exact HO7.out, HB7.out⟩
                case measure => simp [intOf]; omega
              · obtain rfl : q = ng := by omega
                have htk : (nth ss p).after.take q = (nth ss p).after := by rw [← HGL.out]; exact List.take_length
                rw [htk] at HRO3
                clear htk
                have b1 := (blk_cl (k := 1) HX3.out rfl).1
                have b1' := (blk_cl (k := 1) HX3.out rfl).2
                have HX8 := Lib.hid (set31 (u := .slice A3 m3 c3) HX3.out)
                have HB8 := Lib.hid ((HB6.out.trans (HBQ3.out.mono HB6.out.size)).setCell (p := ⟨pb, 1, none⟩) (by show w.heap.size ≤ pb; omega) (.slice A3 m3 c3))
                have HG8 := Lib.hid (set_ne (b := pb) (o := 1) (u := .slice A3 m3 c3) HG3.out (by omega))
                have HK8 := Lib.hid ((HK6.out.below HBQ3.out).off (w' := wt.setCell ⟨pb, 1, none⟩ (.slice A3 m3 c3)) (b := pb) (fun i hi => Below.heap_setCell _ _ _ _ hi) HNP.out (fun cs e => by
                  rw [HX3.out] at e
                  have := Option.some.inj e
                  injection this with _ e4
                  exact absurd e4 (by decide)))
                have hrow8 := row_mono (row_set (o := 1) (u := .slice A3 m3 c3) HRO3.out HX3.out (by decide)) HB6.out.size
                have HSS8 := Lib.hid (show SStr (wt.setCell ⟨pb, 1, none⟩ (.slice A3 m3 c3)) w.heap.size A3 m3 (woStep name (nth ss p).after (nth ss k)).after by
                  show SStr _ w.heap.size A3 m3 (woAfter name (nth ss p).after (nth ss k).after)
                  rw [HWA.out]
                  obtain ⟨_, _, e9, hss⟩ := own_sstr hrow8
                  injection e9 with e8 _ _
                  subst e8
                  exact hss)
                clear hrow8
                go_upto_region 19 with fail
                clear b1 b1' g1
                generalize wt.setCell ⟨pb, 1, none⟩ (.slice A3 m3 c3) = w8 at *
                generalize A3 = A8 at *
                generalize c3 = c8 at *
                generalize m3 = n8 at *
                have b0 := (blk_cl (k := 0) HX8.out rfl).1
                have b1 := (blk_cl (k := 1) HX8.out rfl).1
                have b2 := (blk_cl (k := 2) HX8.out rfl).1
                have hs8 := HB8.out.size
                have hgl8 := heap_lt HG8.out
                by_cases he : (nth ss k).name = name
                · have hq := seq_t he
                  have HT := Lib.hid (woTo_no (gone := (nth ss p).after) hkl he)
                  clear he
                  go_wp2_with fail
                  go_roundw
                  case rel => exact ⟨k + 1, n1, by omega, by go_num, by rw [HT.out]; exact HK8.out, HB8.out, HG8.out, HNE.out⟩
                  case measure => simp [intOf]; omega
                · have hq := seq_f he
                  have HT := Lib.hid (woTo_yes (gone := (nth ss p).after) hkl he)
                  clear he
                  go_wp2_with (at_builtin; refine app_stepW w.heap.size (.slice A1 n1 c1) n1 (woTo ss name (nth ss p).after k) w8.heap.size (woStep name (nth ss p).after (nth ss k)) A8 n8 c8 ?c0 ?c1 rfl (.tmp 77) (.tmp 79) rfl rfl rfl ?c3 (by omega) ?c4 ?_)
                  case c0 => exact HK8.out.below ((Below.refl _ _).alloc (Nat.le_refl _) _)
                  case c1 => exact HSS8.out.below ((Below.refl _ _).alloc (Nat.le_refl _) _)
                  case c3 => first | exact heap_new rfl | exact Array.getElem_push_eq
                  case c4 => (try simp); omega
                  intro v9 w9 how9 hg9 hat9
                  have HB9 := Lib.hid ((HB8.out.alloc hs8 (.cells #[.string (nth ss k).name, .slice A8 n8 c8, .bool (nth ss k).undo] 75)).grown hg9 (by simp; omega) (fun b hb => (SRow.lt HK8.out hb).1))
                  have HG9 := Lib.hid (grown_blk hg9 (heap_old HG8.out) HNE.out)
                  have HNE9 : Hid (v9.ownBlock ≠ some (w.heap.size + 1)) := Lib.hid (fun e => by
                    rcases hat9 with h | h
                    · rw [h] at e; exact HNE.out e
                    · rw [h] at e
                      have := Option.some.inj e
                      (try simp at this)
                      omega)
                  have HK9 := Lib.hid how9
                  clear how9 hg9 hat9
                  go_wp2_with fail
                  go_roundw
                  case rel => exact ⟨k + 1, n1 + 1, by omega, by go_num, by rw [HT.out]; exact HK9.out, HB9.out, HG9.out, HNE9.out⟩
                  case measure => simp [intOf]; omega
    · obtain rfl : k = n := by omega
      rw [HWO.out k (by rw [HL.out]; exact Nat.le_refl _)] at HROW
      go_wp2_with fail
      go_ret
      exact ⟨_, _, _, rfl, HROW.out, HBW.out⟩
end Go.Proofs.Ytakeijgoonagcaa

/- A flow copied, the reference's side. -/
namespace Go.Proofs.Ytakeijgoonagcaa
open Go.RowKit

theorem step_stepW {w : World} {ops : Array Oper} {o : Oper} {a : Act} {K : Act → World → Prop} {Q : Exit → Act → World → Prop} {E : Prop} (base : Nat) (v : Value) (n : Nat) (ss : List Step) (b : Nat) (s : Step) (A : Option Addr) (m c : Nat) (hown : SRow w base v n ss) (hs0 : SStr w base A m s.after)
    (hgd : o.guard = none) (l x : Operand) (ho : o.op = .call { callee := .builtin .append, args := #[l, x], argTypes := #[32, 32] })
    (hs : a.eval l = v) (hx : a.eval x = .slice (some ⟨b, 0, none⟩) 1 1) (hb : w.heap[b]? = some (.cells #[.string s.name, .slice A m c, .bool s.undo] 75 (0, 0))) (hn : n ≤ 1048576) (hbase : base ≤ w.heap.size)
    (h : ∀ v' w', SRow w' base v' (n + 1) (ss ++ [s]) → w.grownBy w' v.ownBlock → (v'.ownBlock = v.ownBlock ∨ v'.ownBlock = some w.heap.size) → K (a.put o.dst v') w') :
    if Region.wanted o (yielded ops a.tmps) = true then Oper.wp Try.prog o a w K Q else E := by
  have hw : Region.wanted o (yielded ops a.tmps) = true := by simp [Region.wanted, hgd]
  rw [if_pos hw]
  exact wapp_step base v n ss b s A m c hown hs0 l x ho hs hx hb hn hbase h

section
variable {P : Program} {ops : Array Oper} {Q : Exit → Act → World → Prop} {md : Region.Mode} {S : World → Prop}
theorem wpAnyH_takeE {i : Nat} {oi : Oper} {v : Value} {d : Option Tmp} {fuel : Nat} {listed : Array Bool} {a : Act} {w : World} (hi : ops[i]? = some oi) (hd : oi.dst = d)
    (hs : Region.noSelect ops = true) (hf : Region.free md ops listed i = true) (hr : (Region.ready md ops listed).contains i = true)
    (hQ : ∀ c a w, Q (.panic c) (a.put d v) w → Q (.panic c) a w) (hy : YieldsIf P ops S oi v a) (hS : S w)
    (h : wpAnyH P md ops Q S fuel (listed.setIfInBounds i true) (a.put d v) w) : wpAnyH P md ops Q S (fuel + 1) listed a w := by
  subst hd
  exact wpAnyH_take hi hs hf hr hQ hy hS h
end
theorem Below.al2_ {w w' : World} (h : Below w.heap.size w w') (o : Obj) : Below w.heap.size w (w'.alloc o) := h.alloc h.size o
theorem cellFar1 {w : World} {b b' o o' : Nat} {u : Value} (h : b ≠ b') : (w.setCell ⟨b', o', none⟩ u).cell? ⟨b, o, none⟩ = w.cell? ⟨b, o, none⟩ :=
  World.cell?_setCell_other _ _ _ _ (fun e => by injection e with e; exact h e.symm)

set_option maxRecDepth 100000 in
set_option maxHeartbeats 4000000 in
theorem l2Copy_any (A : Option Addr) (n c : Nat) (f : Flow) (lo : Nat) (w : World) (hr : RStep w lo A n f.steps) (hok : okSteps f.steps) :
    Calls Try.prog 103 #[.agg #[.int .i64 f.ver, .slice A n c]] w fun e w' => ∃ B d, e = .returned (.agg #[.int .i64 f.ver, .slice B n d]) ∧ SRow w' w.heap.size (.slice B n d) n f.steps ∧ Below w.heap.size w w' := by
  have HL := Lib.hid hr.1
  have HOK := Lib.hid hok; clear hok
  have hn : n ≤ 1048576 := by have := HOK.out.1; rw [HL.out] at this; exact this
  have HR := Lib.hid hr; clear hr
  have HF0 := Lib.hid (heap_old (o := .cells #[.int .i64 f.ver, .slice (some ⟨w.heap.size + 1 + 1, 0, none⟩) 0 0] 34) (heap_old (o := .cells #[] 75) (heap_old (o := .cells #[.int .i64 0, .slice none 0 0] 34) (heap_new (w := w) (o := .cells #[.int .i64 f.ver, .slice A n c] 34) rfl))))
  have HZ0 := Lib.hid (heap_old (o := .cells #[.int .i64 f.ver, .slice (some ⟨w.heap.size + 1 + 1, 0, none⟩) 0 0] 34) (heap_old (o := .cells #[] 75) (heap_new (w := w.alloc (.cells #[.int .i64 f.ver, .slice A n c] 34)) (b := w.heap.size + 1) (o := .cells #[.int .i64 0, .slice none 0 0] 34) (by simp))))
  have HX0 := Lib.hid (heap_new (w := ((w.alloc (.cells #[.int .i64 f.ver, .slice A n c] 34)).alloc (.cells #[.int .i64 0, .slice none 0 0] 34)).alloc (.cells #[] 75)) (b := w.heap.size + 1 + 1 + 1) (o := .cells #[.int .i64 f.ver, .slice (some ⟨w.heap.size + 1 + 1, 0, none⟩) 0 0] 34) (by simp))
  have HN0 := Lib.hid ((SRow.made (w := (w.alloc (.cells #[.int .i64 f.ver, .slice A n c] 34)).alloc (.cells #[.int .i64 0, .slice none 0 0] 34)) (base := w.heap.size) (b := w.heap.size + 1 + 1) (by simp; omega) (by simp)).below ((Below.refl _ _).alloc (Nat.le_refl _) (.cells #[.int .i64 f.ver, .slice (some ⟨w.heap.size + 1 + 1, 0, none⟩) 0 0] 34)))
  have HB0 := Lib.hid (((((Below.refl w.heap.size w).alloc (Nat.le_refl _) (.cells #[.int .i64 f.ver, .slice A n c] 34)).alloc (by simp) (.cells #[.int .i64 0, .slice none 0 0] 34)).alloc (by simp; omega) (.cells #[] 75)).alloc (by simp; omega) (.cells #[.int .i64 f.ver, .slice (some ⟨w.heap.size + 1 + 1, 0, none⟩) 0 0] 34))
  go_enter Try.func103, Try.ntmps103
  go_wp2_with fail
  go_loopw [4] (fun i wr => ∃ k : Nat, ∃ B : Option Addr, ∃ d : Nat, k ≤ n ∧ i = .int .i64 (k : Int) ∧ SRow wr w.heap.size (.slice B k d) k (f.steps.take k) ∧ Below w.heap.size w wr ∧ wr.heap[w.heap.size]? = some (.cells #[.int .i64 f.ver, .slice A n c] 34) ∧ wr.heap[w.heap.size + 1]? = some (.cells #[.int .i64 0, .slice none 0 0] 34) ∧ wr.heap[w.heap.size + 1 + 1 + 1]? = some (.cells #[.int .i64 f.ver, .slice B k d] 34)) (fun i _ => n - (intOf i).toNat)
  case atStart => exact ⟨0, _, 0, Nat.zero_le _, rfl, HN0.out, HB0.out, HF0.out, HZ0.out, HX0.out⟩
  case round =>
    obtain ⟨wo, rfl⟩ : ∃ wo : World, wo = wr := ⟨_, rfl⟩
    obtain ⟨k, B, d, hk, rfl, hrow, hbw, hf, hz, hx⟩ := hrel
    have HROW := Lib.hid hrow; clear hrow
    have HBW := Lib.hid hbw; clear hbw
    have HF := Lib.hid hf; clear hf
    have HZ := Lib.hid hz; clear hz
    have HX := Lib.hid hx; clear hx
    have hsw := HBW.out.size
    have hxl := heap_lt HX.out
    have f1 := (blk_cl (k := 1) HF.out rfl).1
    by_cases hlt : k < n
    · obtain ⟨b, off, rfl, ⟨_, hbl⟩, hc⟩ := RStep.at_ HR.out hlt
      obtain ⟨A', n', c', ⟨d1, d2, d3⟩, hdr, _⟩ := hc k hlt
      clear hc
      have d1 := (HBW.out.cell (p := ⟨b, off + k * 3, none⟩) hbl).trans d1
      have d2 := (HBW.out.cell (p := ⟨b, off + k * 3 + 1, none⟩) hbl).trans d2
      have d3 := (HBW.out.cell (p := ⟨b, off + k * 3 + 2, none⟩) hbl).trans d3
      have hkl : k < f.steps.length := by rw [HL.out]; exact hlt
      have hn' : n' ≤ 1048576 := by rw [← hdr.1]; exact (HOK.out.2 k hkl).2.1
      have HDR := Lib.hid (hdr.below HBW.out); clear hdr
      have HT := Lib.hid (take_nth hkl)
      have x1 := (blk_cl (k := 1) HX.out rfl).1
      have x1' := (blk_cl (k := 1) HX.out rfl).2
      have hk0 : (0 : Int) ≤ (k : Int) := by omega
      have hk1 : (k : Int) < (n : Int) := by omega
      have hk2 : ¬ ((k : Int) < 0) := by omega
      have hbo : b < wo.heap.size := by omega
      have HSB : Hid (∀ w', Below wo.heap.size wo w' → w'.cell? ⟨w.heap.size, 1, none⟩ = some (.slice (some ⟨b, off, none⟩) n c) ∧ w'.cell? ⟨b, off + k * 3, none⟩ = some (.string (nth f.steps k).name) ∧ w'.cell? ⟨b, off + k * 3 + 1, none⟩ = some (.slice A' n' c') ∧ w'.cell? ⟨b, off + k * 3 + 2, none⟩ = some (.bool (nth f.steps k).undo)) := Lib.hid (fun w' h => ⟨(blk_cl (k := 1) ((h.block _ (heap_lt HF.out)).trans HF.out) rfl).1, (h.cell (p := ⟨b, off + k * 3, none⟩) hbo).trans d1, (h.cell (p := ⟨b, off + k * 3 + 1, none⟩) hbo).trans d2, (h.cell (p := ⟨b, off + k * 3 + 2, none⟩) hbo).trans d3⟩)
      have HKF : Hid (∀ w' o u, (fun w' : World => w'.cell? ⟨w.heap.size, 1, none⟩ = some (.slice (some ⟨b, off, none⟩) n c) ∧ w'.cell? ⟨b, off + k * 3, none⟩ = some (.string (nth f.steps k).name) ∧ w'.cell? ⟨b, off + k * 3 + 1, none⟩ = some (.slice A' n' c') ∧ w'.cell? ⟨b, off + k * 3 + 2, none⟩ = some (.bool (nth f.steps k).undo)) w' → (fun w' : World => w'.cell? ⟨w.heap.size, 1, none⟩ = some (.slice (some ⟨b, off, none⟩) n c) ∧ w'.cell? ⟨b, off + k * 3, none⟩ = some (.string (nth f.steps k).name) ∧ w'.cell? ⟨b, off + k * 3 + 1, none⟩ = some (.slice A' n' c') ∧ w'.cell? ⟨b, off + k * 3 + 2, none⟩ = some (.bool (nth f.steps k).undo)) (w'.setCell ⟨w.heap.size + 1 + 1 + 1, o, none⟩ u)) := Lib.hid (fun w' o u h => ⟨(cellFar1 (by omega)).trans h.1, (cellFar1 (by omega)).trans h.2.1, (cellFar1 (by omega)).trans h.2.2.1, (cellFar1 (by omega)).trans h.2.2.2⟩)
      have HKG : Hid (∀ (w5 w7 : World) (o : Obj), Below wo.heap.size wo w5 → (w5.alloc o).grownBy w7 (Value.slice B k d).ownBlock → w7.cell? ⟨w.heap.size, 1, none⟩ = some (.slice (some ⟨b, off, none⟩) n c) ∧ w7.cell? ⟨b, off + k * 3, none⟩ = some (.string (nth f.steps k).name) ∧ w7.cell? ⟨b, off + k * 3 + 1, none⟩ = some (.slice A' n' c') ∧ w7.cell? ⟨b, off + k * 3 + 2, none⟩ = some (.bool (nth f.steps k).undo)) := Lib.hid (fun w5 w7 o h hg => by
        have e1 := grown_blk hg (heap_old (o := o) ((h.block _ (heap_lt HF.out)).trans HF.out)) (HROW.out.ne HF.out (by decide))
        have hsz := h.size
        have hblk : w7.heap[b]? = wo.heap[b]? := (hg.block b (by simp; omega) (fun e => by have := (SRow.lt HROW.out e.symm).1; omega)).trans ((h.alloc h.size o).block b hbo)
        exact ⟨(blk_cl (k := 1) e1 rfl).1, (World.cell?_of_block (a := ⟨b, off + k * 3, none⟩) hblk).trans d1, (World.cell?_of_block (a := ⟨b, off + k * 3 + 1, none⟩) hblk).trans d2, (World.cell?_of_block (a := ⟨b, off + k * 3 + 2, none⟩) hblk).trans d3⟩)
      clear d1 d2 d3
      go_wp2_with fail
      refine wp_region_held_drew (S := fun w' => w'.cell? ⟨w.heap.size, 1, none⟩ = some (.slice (some ⟨b, off, none⟩) n c) ∧ w'.cell? ⟨b, off + k * 3, none⟩ = some (.string (nth f.steps k).name) ∧ w'.cell? ⟨b, off + k * 3 + 1, none⟩ = some (.slice A' n' c') ∧ w'.cell? ⟨b, off + k * 3 + 2, none⟩ = some (.bool (nth f.steps k).undo)) (by kernel_rfl) (HSB.out _ (Below.refl _ _).drew) (fun hH => ?_)
      refine wpAnyH_takeE (i := 0) (d := some 16) (v := ?v1) rfl (by rfl) (by kernel_rfl) (by kernel_rfl) (by kernel_rfl) (fun _ _ _ h => h) (Or.inl ⟨by rfl, ?y1⟩) hH ?r1
      case y1 => (intro w' hS; (try dsimp only at hS); go_simp; (try with_reducible rfl))
      (try simp only [Act.put, List.setIfInBounds_toArray, List.set_cons_zero, List.set_cons_succ])
      refine wpAnyH_takeE (i := 2) (d := some 18) (v := ?v2) rfl (by rfl) (by kernel_rfl) (by kernel_rfl) (by kernel_rfl) (fun _ _ _ h => h) (Or.inl ⟨by rfl, ?y2⟩) hH ?r2
      case y2 => (intro w' hS; (try dsimp only at hS); go_simp; (try with_reducible rfl))
      (try simp only [Act.put, List.setIfInBounds_toArray, List.set_cons_zero, List.set_cons_succ])
      refine wpAnyH_takeE (i := 3) (d := some 19) (v := ?v3) rfl (by rfl) (by kernel_rfl) (by kernel_rfl) (by kernel_rfl) (fun _ _ _ h => h) (Or.inl ⟨by rfl, ?y3⟩) hH ?r3
      case y3 => (intro w' hS; (try dsimp only at hS); go_simp; (try with_reducible rfl))
      (try simp only [Act.put, List.setIfInBounds_toArray, List.set_cons_zero, List.set_cons_succ])
      refine wpAnyH_takeE (i := 4) (d := some 20) (v := ?v4) rfl (by rfl) (by kernel_rfl) (by kernel_rfl) (by kernel_rfl) (fun _ _ _ h => h) (Or.inl ⟨by rfl, ?y4⟩) hH ?r4
      case y4 => (intro w' hS; (try dsimp only at hS); go_simp; (try with_reducible rfl))
      (try simp only [Act.put, List.setIfInBounds_toArray, List.set_cons_zero, List.set_cons_succ])
      refine wpAnyH_takeE (i := 5) (d := some 21) (v := ?v5) rfl (by rfl) (by kernel_rfl) (by kernel_rfl) (by kernel_rfl) (fun _ _ _ h => h) (Or.inl ⟨by rfl, ?y5⟩) hH ?r5
      case y5 => (intro w' hS; (try dsimp only at hS); go_simp; (try with_reducible rfl))
      (try simp only [Act.put, List.setIfInBounds_toArray, List.set_cons_zero, List.set_cons_succ])
      refine wpAnyH_takeE (i := 6) (d := some 22) (v := ?v6) rfl (by rfl) (by kernel_rfl) (by kernel_rfl) (by kernel_rfl) (fun _ _ _ h => h) (Or.inl ⟨by rfl, ?y6⟩) hH ?r6
      case y6 => (intro w' hS; (try dsimp only at hS); go_simp; (try with_reducible rfl))
      (try simp only [Act.put, List.setIfInBounds_toArray, List.set_cons_zero, List.set_cons_succ])
      refine wpAnyH_ready (rs := [1, 7]) (by kernel_rfl) (by simp) ?_
      refine AllReadyH.cons rfl (fun K hK => ?_) ?_
      · go_simp
        refine hK.out _ _ (HSB.out _ (Below.refl _ _).drew) (fun hH2 => ?_)
        clear hK K hH
        have hH := hH2
        (try simp only [Act.put, List.setIfInBounds_toArray, List.set_cons_zero, List.set_cons_succ])
        refine wpAnyH_ready (rs := [7]) (by kernel_rfl) (by simp) ?_
        refine AllReadyH.cons rfl (fun K hK => ?_) AllReadyH.nil
        go_wp2_with fail
        go_at_call 151
        refine (l2Step_any _ _ _ (nth f.steps k) _ _ (HDR.out.below (by repeat (first | with_reducible exact Below.refl _ _ | apply Below.drew | apply Below.al2_))) hn').mono ?_
        rintro e w5 ⟨A5, c5, rfl, hss5, hc5, hb5⟩
        have hbw : Below wo.heap.size wo w5 := (Below.refl wo.heap.size wo).drew.trans hb5
        have HX5 := Lib.hid ((hbw.block _ hxl).trans HX.out)
        have y1 := (blk_cl (k := 1) HX5.out rfl).1
        have y2 := (blk_cl (k := 1) (heap_old (o := .cells #[.string (nth f.steps k).name, .slice A5 n' c5, .bool (nth f.steps k).undo] 75) HX5.out) rfl).1
        go_wp2_with fail
        refine hK.out _ _ (HSB.out _ hbw) (fun hH2 => ?_)
        clear hK K hH
        have hH := hH2
        (try simp only [Act.put, List.setIfInBounds_toArray, List.set_cons_zero, List.set_cons_succ])
        refine wpAnyH_ready (rs := [8]) (by kernel_rfl) (by simp) ?_
        refine AllReadyH.cons rfl (fun K hK => ?_) AllReadyH.nil
        go_simp
        refine hK.out _ _ (HSB.out _ (Below.al2_ hbw _)) (fun hH2 => ?_)
        clear hK K hH
        have hH := hH2
        (try simp only [Act.put, List.setIfInBounds_toArray, List.set_cons_zero, List.set_cons_succ])
        refine wpAnyH_ready (rs := [9]) (by kernel_rfl) (by simp) ?_
        refine AllReadyH.cons rfl (fun K hK => ?_) AllReadyH.nil
        refine wapp_step w.heap.size (.slice B k d) k (f.steps.take k) _ (nth f.steps k) A5 n' c5 ((HROW.out.below hbw).below ((Below.refl _ _).alloc (Nat.le_refl _) _)) ((hss5.mono hsw).below ((Below.refl _ _).alloc (Nat.le_refl _) _)) (.tmp 17) (.tmp 24) rfl rfl rfl (heap_new rfl) (by omega) (by (have h1 := hbw.size; simp; omega)) ?_
        intro v7 w7 how7 hg7 hat7
        have HX7 := Lib.hid (grown_blk hg7 (heap_old (o := .cells #[.string (nth f.steps k).name, .slice A5 n' c5, .bool (nth f.steps k).undo] 75) HX5.out) (HROW.out.ne HX.out (by decide)))
        have z1 := (blk_cl (k := 1) HX7.out rfl).1
        have z1' := (blk_cl (k := 1) HX7.out rfl).2
        have hk7 := HKG.out _ _ _ hbw hg7
        refine hK.out _ _ (hk7) (fun hH2 => ?_)
        clear hK K hH
        have hH := hH2
        (try simp only [Act.put, List.setIfInBounds_toArray])
        refine wpAnyH_takeE (i := 10) (d := some 26) (v := ?v51) rfl (by rfl) (by kernel_rfl) (by kernel_rfl) (by kernel_rfl) (fun _ _ _ h => h) (Or.inl ⟨by rfl, ?y51⟩) hH ?r51
        case y51 => (intro w' hS; (try dsimp only at hS); go_simp; (try with_reducible rfl))
        (try simp only [Act.put])
        obtain ⟨B7, d7, rfl, _⟩ := how7.hat
        refine wpAnyH_ready (rs := [11]) (by kernel_rfl) (by simp) ?_
        refine AllReadyH.cons rfl (fun K hK => ?_) AllReadyH.nil
        go_simp
        (try simp only [Oper.upon])
        refine hK.out _ _ (HKF.out _ _ _ hk7) (fun _ => ?_)
        clear hK K hH
        (try simp only [Act.put, List.setIfInBounds_toArray, List.set_cons_zero, List.set_cons_succ])
        refine wpAnyH_done (by kernel_rfl) ?_ _
        have HB5 := HBW.out.trans (hbw.mono hsw)
        have HB7a := (HB5.alloc HB5.size (.cells #[.string (nth f.steps k).name, .slice A5 n' c5, .bool (nth f.steps k).undo] 75)).grown hg7 (by have := HB5.size; simp; omega) (fun b hb => (SRow.lt HROW.out hb).1)
        have HB7 := Lib.hid (HB7a.setCell (p := ⟨w.heap.size + 1 + 1 + 1, 1, none⟩) (by show w.heap.size ≤ w.heap.size + 1 + 1 + 1; omega) (.slice B7 (k + 1) d7))
        have HF7 := Lib.hid (set_ne (b := w.heap.size + 1 + 1 + 1) (o := 1) (u := .slice B7 (k + 1) d7) (grown_blk hg7 (heap_old (o := .cells #[.string (nth f.steps k).name, .slice A5 n' c5, .bool (nth f.steps k).undo] 75) ((hbw.block _ (heap_lt HF.out)).trans HF.out)) (HROW.out.ne HF.out (by decide))) (by omega))
        have HZ7 := Lib.hid (set_ne (b := w.heap.size + 1 + 1 + 1) (o := 1) (u := .slice B7 (k + 1) d7) (grown_blk hg7 (heap_old (o := .cells #[.string (nth f.steps k).name, .slice A5 n' c5, .bool (nth f.steps k).undo] 75) ((hbw.block _ (heap_lt HZ.out)).trans HZ.out)) (HROW.out.ne HZ.out (by decide))) (by omega))
        have HX8 := Lib.hid (set21 (u := .slice B7 (k + 1) d7) HX7.out)
        have HK8 := Lib.hid (how7.set (o := 1) (u := .slice B7 (k + 1) d7) HX7.out (by decide) (by decide))
        clear how7 hg7 hat7 hk7 hss5 hb5 hbw HB5 HB7a
        go_wp2_with fail
        go_roundw
        case rel => exact ⟨k + 1, B7, d7, by omega, by go_num, by rw [HT.out]; exact HK8.out, HB7.out, HF7.out, HZ7.out, HX8.out⟩
        case measure => simp [intOf]; omega
      · refine AllReadyH.cons rfl (fun K hK => ?_) AllReadyH.nil
        go_wp2_with fail
        go_at_call 151
        refine (l2Step_any _ _ _ (nth f.steps k) _ _ (HDR.out.below (by repeat (first | with_reducible exact Below.refl _ _ | apply Below.drew | apply Below.al2_))) hn').mono ?_
        rintro e w5 ⟨A5, c5, rfl, hss5, hc5, hb5⟩
        have hbw : Below wo.heap.size wo w5 := (Below.refl wo.heap.size wo).drew.trans hb5
        have HX5 := Lib.hid ((hbw.block _ hxl).trans HX.out)
        have y1 := (blk_cl (k := 1) HX5.out rfl).1
        have y2 := (blk_cl (k := 1) (heap_old (o := .cells #[.string (nth f.steps k).name, .slice A5 n' c5, .bool (nth f.steps k).undo] 75) HX5.out) rfl).1
        go_wp2_with fail
        refine hK.out _ _ (HSB.out _ hbw) (fun hH2 => ?_)
        clear hK K hH
        have hH := hH2
        (try simp only [Act.put, List.setIfInBounds_toArray, List.set_cons_zero, List.set_cons_succ])
        refine wpAnyH_ready (rs := [1, 8]) (by kernel_rfl) (by simp) ?_
        refine AllReadyH.cons rfl (fun K hK => ?_) ?_
        · go_simp
          refine hK.out _ _ (HSB.out _ hbw) (fun hH2 => ?_)
          clear hK K hH
          have hH := hH2
          (try simp only [Act.put, List.setIfInBounds_toArray, List.set_cons_zero, List.set_cons_succ])
          refine wpAnyH_ready (rs := [8]) (by kernel_rfl) (by simp) ?_
          refine AllReadyH.cons rfl (fun K hK => ?_) AllReadyH.nil
          go_simp
          refine hK.out _ _ (HSB.out _ (Below.al2_ hbw _)) (fun hH2 => ?_)
          clear hK K hH
          have hH := hH2
          (try simp only [Act.put, List.setIfInBounds_toArray, List.set_cons_zero, List.set_cons_succ])
          refine wpAnyH_ready (rs := [9]) (by kernel_rfl) (by simp) ?_
          refine AllReadyH.cons rfl (fun K hK => ?_) AllReadyH.nil
          refine wapp_step w.heap.size (.slice B k d) k (f.steps.take k) _ (nth f.steps k) A5 n' c5 ((HROW.out.below hbw).below ((Below.refl _ _).alloc (Nat.le_refl _) _)) ((hss5.mono hsw).below ((Below.refl _ _).alloc (Nat.le_refl _) _)) (.tmp 17) (.tmp 24) rfl rfl rfl (heap_new rfl) (by omega) (by (have h1 := hbw.size; simp; omega)) ?_
          intro v7 w7 how7 hg7 hat7
          have HX7 := Lib.hid (grown_blk hg7 (heap_old (o := .cells #[.string (nth f.steps k).name, .slice A5 n' c5, .bool (nth f.steps k).undo] 75) HX5.out) (HROW.out.ne HX.out (by decide)))
          have z1 := (blk_cl (k := 1) HX7.out rfl).1
          have z1' := (blk_cl (k := 1) HX7.out rfl).2
          have hk7 := HKG.out _ _ _ hbw hg7
          refine hK.out _ _ (hk7) (fun hH2 => ?_)
          clear hK K hH
          have hH := hH2
          (try simp only [Act.put, List.setIfInBounds_toArray])
          refine wpAnyH_takeE (i := 10) (d := some 26) (v := ?v52) rfl (by rfl) (by kernel_rfl) (by kernel_rfl) (by kernel_rfl) (fun _ _ _ h => h) (Or.inl ⟨by rfl, ?y52⟩) hH ?r52
          case y52 => (intro w' hS; (try dsimp only at hS); go_simp; (try with_reducible rfl))
          (try simp only [Act.put])
          obtain ⟨B7, d7, rfl, _⟩ := how7.hat
          refine wpAnyH_ready (rs := [11]) (by kernel_rfl) (by simp) ?_
          refine AllReadyH.cons rfl (fun K hK => ?_) AllReadyH.nil
          go_simp
          (try simp only [Oper.upon])
          refine hK.out _ _ (HKF.out _ _ _ hk7) (fun _ => ?_)
          clear hK K hH
          (try simp only [Act.put, List.setIfInBounds_toArray, List.set_cons_zero, List.set_cons_succ])
          refine wpAnyH_done (by kernel_rfl) ?_ _
          have HB5 := HBW.out.trans (hbw.mono hsw)
          have HB7a := (HB5.alloc HB5.size (.cells #[.string (nth f.steps k).name, .slice A5 n' c5, .bool (nth f.steps k).undo] 75)).grown hg7 (by have := HB5.size; simp; omega) (fun b hb => (SRow.lt HROW.out hb).1)
          have HB7 := Lib.hid (HB7a.setCell (p := ⟨w.heap.size + 1 + 1 + 1, 1, none⟩) (by show w.heap.size ≤ w.heap.size + 1 + 1 + 1; omega) (.slice B7 (k + 1) d7))
          have HF7 := Lib.hid (set_ne (b := w.heap.size + 1 + 1 + 1) (o := 1) (u := .slice B7 (k + 1) d7) (grown_blk hg7 (heap_old (o := .cells #[.string (nth f.steps k).name, .slice A5 n' c5, .bool (nth f.steps k).undo] 75) ((hbw.block _ (heap_lt HF.out)).trans HF.out)) (HROW.out.ne HF.out (by decide))) (by omega))
          have HZ7 := Lib.hid (set_ne (b := w.heap.size + 1 + 1 + 1) (o := 1) (u := .slice B7 (k + 1) d7) (grown_blk hg7 (heap_old (o := .cells #[.string (nth f.steps k).name, .slice A5 n' c5, .bool (nth f.steps k).undo] 75) ((hbw.block _ (heap_lt HZ.out)).trans HZ.out)) (HROW.out.ne HZ.out (by decide))) (by omega))
          have HX8 := Lib.hid (set21 (u := .slice B7 (k + 1) d7) HX7.out)
          have HK8 := Lib.hid (how7.set (o := 1) (u := .slice B7 (k + 1) d7) HX7.out (by decide) (by decide))
          clear how7 hg7 hat7 hk7 hss5 hb5 hbw HB5 HB7a
          go_wp2_with fail
          go_roundw
          case rel => exact ⟨k + 1, B7, d7, by omega, by go_num, by rw [HT.out]; exact HK8.out, HB7.out, HF7.out, HZ7.out, HX8.out⟩
          case measure => simp [intOf]; omega
        · refine AllReadyH.cons rfl (fun K hK => ?_) AllReadyH.nil
          go_simp
          refine hK.out _ _ (HSB.out _ (Below.al2_ hbw _)) (fun hH2 => ?_)
          clear hK K hH
          have hH := hH2
          (try simp only [Act.put, List.setIfInBounds_toArray, List.set_cons_zero, List.set_cons_succ])
          refine wpAnyH_ready (rs := [1]) (by kernel_rfl) (by simp) ?_
          refine AllReadyH.cons rfl (fun K hK => ?_) AllReadyH.nil
          go_simp
          refine hK.out _ _ (HSB.out _ (Below.al2_ hbw _)) (fun hH2 => ?_)
          clear hK K hH
          have hH := hH2
          (try simp only [Act.put, List.setIfInBounds_toArray, List.set_cons_zero, List.set_cons_succ])
          refine wpAnyH_ready (rs := [9]) (by kernel_rfl) (by simp) ?_
          refine AllReadyH.cons rfl (fun K hK => ?_) AllReadyH.nil
          refine wapp_step w.heap.size (.slice B k d) k (f.steps.take k) _ (nth f.steps k) A5 n' c5 ((HROW.out.below hbw).below ((Below.refl _ _).alloc (Nat.le_refl _) _)) ((hss5.mono hsw).below ((Below.refl _ _).alloc (Nat.le_refl _) _)) (.tmp 17) (.tmp 24) rfl rfl rfl (heap_new rfl) (by omega) (by (have h1 := hbw.size; simp; omega)) ?_
          intro v7 w7 how7 hg7 hat7
          have HX7 := Lib.hid (grown_blk hg7 (heap_old (o := .cells #[.string (nth f.steps k).name, .slice A5 n' c5, .bool (nth f.steps k).undo] 75) HX5.out) (HROW.out.ne HX.out (by decide)))
          have z1 := (blk_cl (k := 1) HX7.out rfl).1
          have z1' := (blk_cl (k := 1) HX7.out rfl).2
          have hk7 := HKG.out _ _ _ hbw hg7
          refine hK.out _ _ (hk7) (fun hH2 => ?_)
          clear hK K hH
          have hH := hH2
          (try simp only [Act.put, List.setIfInBounds_toArray])
          refine wpAnyH_takeE (i := 10) (d := some 26) (v := ?v53) rfl (by rfl) (by kernel_rfl) (by kernel_rfl) (by kernel_rfl) (fun _ _ _ h => h) (Or.inl ⟨by rfl, ?y53⟩) hH ?r53
          case y53 => (intro w' hS; (try dsimp only at hS); go_simp; (try with_reducible rfl))
          (try simp only [Act.put])
          obtain ⟨B7, d7, rfl, _⟩ := how7.hat
          refine wpAnyH_ready (rs := [11]) (by kernel_rfl) (by simp) ?_
          refine AllReadyH.cons rfl (fun K hK => ?_) AllReadyH.nil
          go_simp
          (try simp only [Oper.upon])
          refine hK.out _ _ (HKF.out _ _ _ hk7) (fun _ => ?_)
          clear hK K hH
          (try simp only [Act.put, List.setIfInBounds_toArray, List.set_cons_zero, List.set_cons_succ])
          refine wpAnyH_done (by kernel_rfl) ?_ _
          have HB5 := HBW.out.trans (hbw.mono hsw)
          have HB7a := (HB5.alloc HB5.size (.cells #[.string (nth f.steps k).name, .slice A5 n' c5, .bool (nth f.steps k).undo] 75)).grown hg7 (by have := HB5.size; simp; omega) (fun b hb => (SRow.lt HROW.out hb).1)
          have HB7 := Lib.hid (HB7a.setCell (p := ⟨w.heap.size + 1 + 1 + 1, 1, none⟩) (by show w.heap.size ≤ w.heap.size + 1 + 1 + 1; omega) (.slice B7 (k + 1) d7))
          have HF7 := Lib.hid (set_ne (b := w.heap.size + 1 + 1 + 1) (o := 1) (u := .slice B7 (k + 1) d7) (grown_blk hg7 (heap_old (o := .cells #[.string (nth f.steps k).name, .slice A5 n' c5, .bool (nth f.steps k).undo] 75) ((hbw.block _ (heap_lt HF.out)).trans HF.out)) (HROW.out.ne HF.out (by decide))) (by omega))
          have HZ7 := Lib.hid (set_ne (b := w.heap.size + 1 + 1 + 1) (o := 1) (u := .slice B7 (k + 1) d7) (grown_blk hg7 (heap_old (o := .cells #[.string (nth f.steps k).name, .slice A5 n' c5, .bool (nth f.steps k).undo] 75) ((hbw.block _ (heap_lt HZ.out)).trans HZ.out)) (HROW.out.ne HZ.out (by decide))) (by omega))
          have HX8 := Lib.hid (set21 (u := .slice B7 (k + 1) d7) HX7.out)
          have HK8 := Lib.hid (how7.set (o := 1) (u := .slice B7 (k + 1) d7) HX7.out (by decide) (by decide))
          clear how7 hg7 hat7 hk7 hss5 hb5 hbw HB5 HB7a
          go_wp2_with fail
          go_roundw
          case rel => exact ⟨k + 1, B7, d7, by omega, by go_num, by rw [HT.out]; exact HK8.out, HB7.out, HF7.out, HZ7.out, HX8.out⟩
          case measure => simp [intOf]; omega
    · obtain rfl : k = n := by omega
      have hkm : f.steps.take k = f.steps := by rw [← HL.out]; exact List.take_length
      rw [hkm] at HROW
      have z0 := (blk_cl (k := 0) HZ.out rfl).1
      have z0' := (blk_cl (k := 0) HZ.out rfl).2
      have z1 := (blk_cl (k := 1) HZ.out rfl).1
      have z1' := (blk_cl (k := 1) HZ.out rfl).2
      have x0 := (blk_cl (k := 0) HX.out rfl).1
      have x1 := (blk_cl (k := 1) HX.out rfl).1
      go_wp2_with fail
      have h1 := set_at (o := 0) (u := .int .i64 f.ver) HZ.out
      have hres := set21 (u := .slice B k d) (set20 (u := .int .i64 f.ver) HZ.out)
      have e0 := (blk_cl (k := 0) hres rfl).1
      have e1 := (blk_cl (k := 1) hres rfl).1
      have q1 : w.heap.size ≤ w.heap.size + 1 := by omega
      exact bodyPost_ret (v := .agg #[.int .i64 f.ver, .slice B k d]) (by simp [results, Try.results103, go_sem, e0, e1]) rfl
        ⟨_, _, rfl, (HROW.out.set (o := 0) (u := .int .i64 f.ver) HZ.out (by decide) (by decide)).set (o := 1) (u := .slice B k d) h1 (by decide) (by decide), (HBW.out.setCell (p := ⟨w.heap.size + 1, 0, none⟩) q1 _).setCell (p := ⟨w.heap.size + 1, 1, none⟩) q1 _⟩
end Go.Proofs.Ytakeijgoonagcaa

/- The steps behind a change, the reference's side. -/
namespace Go.Proofs.Ytakeijgoonagcaa
open Go.RowKit

theorem chgS_new {k : Int} {s : Step} {ss : List Step} (h : hasB (namesOf ss) s.name = false) (hk : k = 1) : chgS k s ss = (withL ss s, true) := by unfold chgS; rw [if_pos h, if_pos hk]
theorem chgS_new_no {k : Int} {s : Step} {ss : List Step} (h : hasB (namesOf ss) s.name = false) (hk : k ≠ 1) : chgS k s ss = ([], false) := by unfold chgS; rw [if_pos h, if_neg hk]
theorem chgS_2 {k : Int} {s : Step} {ss : List Step} (h : hasB (namesOf ss) s.name = true) (hk : k = 2) : chgS k s ss = (woL ss s.name, true) := by
  unfold chgS; rw [if_neg (by rw [h]; simp), if_pos hk]
theorem chgS_3 {k : Int} {s : Step} {ss : List Step} (h : hasB (namesOf ss) s.name = true) (hk : k = 3) : chgS k s ss = (withL ss ⟨s.name, s.after, (nth ss (plc ss s.name)).undo⟩, true) := by
  unfold chgS; rw [if_neg (by rw [h]; simp), if_neg (by omega), if_pos hk]
theorem chgS_4 {k : Int} {s : Step} {ss : List Step} (h : hasB (namesOf ss) s.name = true) (hk : k = 4) : chgS k s ss = (withL ss ⟨s.name, (nth ss (plc ss s.name)).after, s.undo⟩, true) := by
  unfold chgS; rw [if_neg (by rw [h]; simp), if_neg (by omega), if_neg (by omega), if_pos hk]
theorem chgS_no {k : Int} {s : Step} {ss : List Step} (h : hasB (namesOf ss) s.name = true) (h2 : k ≠ 2) (h3 : k ≠ 3) (h4 : k ≠ 4) : chgS k s ss = ([], false) := by
  unfold chgS; rw [if_neg (by rw [h]; simp), if_neg h2, if_neg h3, if_neg h4]

set_option maxRecDepth 100000 in
set_option maxHeartbeats 4000000 in
theorem l12Steps_any (A G : Option Addr) (n c ng cg : Nat) (ss : List Step) (k : Int) (s : Step) (lo lo' : Nat) (w : World) (hr : RStep w lo A n ss) (hok : okSteps ss) (hn : n ≤ 1000) (hsh : ∀ j, j < n → (nth ss j).after.length ≤ 100) (hg : RStr w lo' G ng s.after) (hng : ng ≤ 1048576) :
    Calls Try.prog 162 #[.slice A n c, .agg #[.int .i64 k, .string s.name, .slice G ng cg, .bool s.undo]] w fun e w' => ∃ B m d, e = .returned (.tuple #[.slice B m d, .bool (chgS k s ss).2]) ∧ SRow w' w.heap.size (.slice B m d) m (chgS k s ss).1 ∧ Below w.heap.size w w' := by
  have HL := Lib.hid hr.1
  have HX := Lib.hid (heap_new (w := w) (o := .cells #[.int .i64 k, .string s.name, .slice G ng cg, .bool s.undo] 162) rfl)
  have HBW := Lib.hid ((Below.refl w.heap.size w).alloc (Nat.le_refl _) (.cells #[.int .i64 k, .string s.name, .slice G ng cg, .bool s.undo] 162))
  have HRW := Lib.hid (hr.alloc (.cells #[.int .i64 k, .string s.name, .slice G ng cg, .bool s.undo] 162)); clear hr
  have HGW := Lib.hid (hg.alloc (.cells #[.int .i64 k, .string s.name, .slice G ng cg, .bool s.undo] 162)); clear hg
  go_enter Try.func162, Try.ntmps162
  go_upto_region 1 with fail
  generalize w.alloc (.cells #[.int .i64 k, .string s.name, .slice G ng cg, .bool s.undo] 162) = W at *
  have x0 := (blk_cl (k := 0) HX.out rfl).1
  have x1 := (blk_cl (k := 1) HX.out rfl).1
  have x2 := (blk_cl (k := 2) HX.out rfl).1
  have x3 := (blk_cl (k := 3) HX.out rfl).1
  have hxl := heap_lt HX.out
  go_wp2_with fail
  refine (l2At_any _ _ _ ss s.name _ _ HRW.out (by omega)).mono ?_
  rintro e w1 ⟨rfl, hw1⟩
  subst hw1
  cases hh : hasB (namesOf ss) s.name
  · have hz := idx_neg hh
    have hz2 : ¬ (0 ≤ idxI (namesOf ss) s.name) := by omega
    generalize idxI (namesOf ss) s.name = z9 at *
    by_cases hk1 : k = 1
    · have HE := Lib.hid (chgS_new hh hk1)
      subst hk1
      clear hh
      go_wp2_with fail
      refine (l12With_any _ _ _ _ _ _ ss s _ _ _ HRW.out hok hn HGW.out hng).mono ?_
      rintro e w5 ⟨B5, m5, d5, rfl, hk5, hb5⟩
      go_wp2_with fail
      exact bodyPost_ret (v := .tuple #[.slice B5 m5 d5, .bool true]) (by simp [results, Try.results162, go_sem]) rfl ⟨B5, m5, d5, by rw [HE.out], by rw [HE.out]; exact hk5.mono HBW.out.size, HBW.out.trans (hb5.mono HBW.out.size)⟩
    · have HE := Lib.hid (chgS_new_no hh hk1)
      clear hh
      go_wp2_with fail
      all_goals exact bodyPost_ret (v := .tuple #[.slice (some ⟨W.heap.size, 0, none⟩) 0 0, .bool false]) (by simp [results, Try.results162, go_sem]) rfl ⟨some ⟨W.heap.size, 0, none⟩, 0, 0, by rw [HE.out], by rw [HE.out]; exact SRow.made HBW.out.size rfl, HBW.out.alloc HBW.out.size _⟩
  · have hz := idx_pos hh
    have hz2 : ¬ (idxI (namesOf ss) s.name < 0) := by omega
    obtain ⟨hpl, hidx, -⟩ := plc_ex hh
    by_cases hk2 : k = 2
    · have HE := Lib.hid (chgS_2 hh hk2)
      subst hk2
      generalize idxI (namesOf ss) s.name = z9 at *
      go_wp2_with fail
      refine (l12Without_any _ _ _ ss s.name _ _ HRW.out hok hn hsh hh).mono ?_
      rintro e w5 ⟨B5, m5, d5, rfl, hk5, hb5⟩
      go_wp2_with fail
      exact bodyPost_ret (v := .tuple #[.slice B5 m5 d5, .bool true]) (by simp [results, Try.results162, go_sem]) rfl ⟨B5, m5, d5, by rw [HE.out], by rw [HE.out]; exact hk5.mono HBW.out.size, HBW.out.trans (hb5.mono HBW.out.size)⟩
    by_cases hk34 : k = 3 ∨ k = 4
    · have hpn : plc ss s.name < n := by rw [← HL.out]; exact hpl
      have HE3 := Lib.hid (fun h3 : k = 3 => chgS_3 hh h3)
      have HE4 := Lib.hid (fun h4 : k = 4 => chgS_4 hh h4)
      rw [hidx]
      rw [hidx] at hz hz2
      clear hidx hh
      generalize plc ss s.name = p at *
      obtain ⟨b, off, hA, ⟨_, hbl⟩, hcc⟩ := RStep.at_ HRW.out hpn
      subst hA
      obtain ⟨A', n', c', ⟨d1, d2, d3⟩, hdr, _⟩ := hcc p hpn
      clear hcc
      have HDR := Lib.hid hdr; clear hdr
      have hn' : n' ≤ 100 := by rw [← HDR.out.1]; exact hsh p hpn
      have hp2 : (p : Int) < (n : Int) := by omega
      have HSB : Hid (∀ w', Below W.heap.size W w' → (fun w' => (w'.cell? ⟨w.heap.size, 0, none⟩ = some (.int .i64 k) ∧ w'.cell? ⟨w.heap.size, 1, none⟩ = some (.string s.name) ∧ w'.cell? ⟨w.heap.size, 2, none⟩ = some (.slice G ng cg) ∧ w'.cell? ⟨w.heap.size, 3, none⟩ = some (.bool s.undo)) ∧ (w'.cell? ⟨b, off + p * 3, none⟩ = some (.string (nth ss p).name) ∧ w'.cell? ⟨b, off + p * 3 + 1, none⟩ = some (.slice A' n' c') ∧ w'.cell? ⟨b, off + p * 3 + 2, none⟩ = some (.bool (nth ss p).undo))) w') := Lib.hid (fun w' h => by
        have e1 := (h.block _ hxl).trans HX.out
        exact ⟨⟨(blk_cl (k := 0) e1 rfl).1, (blk_cl (k := 1) e1 rfl).1, (blk_cl (k := 2) e1 rfl).1, (blk_cl (k := 3) e1 rfl).1⟩, (h.cell (p := ⟨b, off + p * 3, none⟩) hbl).trans d1, (h.cell (p := ⟨b, off + p * 3 + 1, none⟩) hbl).trans d2, (h.cell (p := ⟨b, off + p * 3 + 2, none⟩) hbl).trans d3⟩)
      by_cases hk3 : k = 3
      · have HE := Lib.hid (HE3.out hk3)
        subst hk3
        clear HE3 HE4
        go_wp2_with fail
        go_region_held3 (fun w' => (w'.cell? ⟨w.heap.size, 0, none⟩ = some (.int .i64 3) ∧ w'.cell? ⟨w.heap.size, 1, none⟩ = some (.string s.name) ∧ w'.cell? ⟨w.heap.size, 2, none⟩ = some (.slice G ng cg) ∧ w'.cell? ⟨w.heap.size, 3, none⟩ = some (.bool s.undo)) ∧ (w'.cell? ⟨b, off + p * 3, none⟩ = some (.string (nth ss p).name) ∧ w'.cell? ⟨b, off + p * 3 + 1, none⟩ = some (.slice A' n' c') ∧ w'.cell? ⟨b, off + p * 3 + 2, none⟩ = some (.bool (nth ss p).undo)))
          ((refine HSB.out _ ?_; (repeat (first | with_reducible exact hbw | with_reducible exact Below.refl _ _ | apply Below.drew | fail "x")); done))
          (first | (go_at_call 179; refine (l12With_any _ _ _ _ _ _ ss ⟨s.name, s.after, (nth ss p).undo⟩ _ _ _ (HRW.out.below (by repeat (first | with_reducible exact Below.refl _ _ | apply Below.drew))) hok hn (HGW.out.below (by repeat (first | with_reducible exact Below.refl _ _ | apply Below.drew))) hng).mono ?_; rintro e w5 ⟨B5, m5, d5, rfl, hk5, hb5⟩; have hbw : Below W.heap.size W w5 := (Below.refl W.heap.size W).drew.trans hb5) | fail "no arm")
        all_goals
          go_wp2_with fail
          exact bodyPost_ret (v := .tuple #[.slice B5 m5 d5, .bool true]) (by simp [results, Try.results162, go_sem]) rfl ⟨B5, m5, d5, by rw [HE.out], by rw [HE.out]; exact hk5.mono HBW.out.size, HBW.out.trans (hbw.mono HBW.out.size)⟩
      · have hk4 : k = 4 := by omega
        have HE := Lib.hid (HE4.out hk4)
        subst hk4
        clear HE3 HE4
        go_wp2_with fail
        go_region_held3 (fun w' => (w'.cell? ⟨w.heap.size, 0, none⟩ = some (.int .i64 4) ∧ w'.cell? ⟨w.heap.size, 1, none⟩ = some (.string s.name) ∧ w'.cell? ⟨w.heap.size, 2, none⟩ = some (.slice G ng cg) ∧ w'.cell? ⟨w.heap.size, 3, none⟩ = some (.bool s.undo)) ∧ (w'.cell? ⟨b, off + p * 3, none⟩ = some (.string (nth ss p).name) ∧ w'.cell? ⟨b, off + p * 3 + 1, none⟩ = some (.slice A' n' c') ∧ w'.cell? ⟨b, off + p * 3 + 2, none⟩ = some (.bool (nth ss p).undo)))
          ((refine HSB.out _ ?_; (repeat (first | with_reducible exact hbw | with_reducible exact Below.refl _ _ | apply Below.drew | fail "x")); done))
          (first | (go_at_call 179; refine (l12With_any _ _ _ _ _ _ ss ⟨s.name, (nth ss p).after, s.undo⟩ _ _ _ (HRW.out.below (by repeat (first | with_reducible exact Below.refl _ _ | apply Below.drew))) hok hn (HDR.out.below (by repeat (first | with_reducible exact Below.refl _ _ | apply Below.drew))) (by omega)).mono ?_; rintro e w5 ⟨B5, m5, d5, rfl, hk5, hb5⟩; have hbw : Below W.heap.size W w5 := (Below.refl W.heap.size W).drew.trans hb5) | fail "no arm")
        all_goals
          go_wp2_with fail
          exact bodyPost_ret (v := .tuple #[.slice B5 m5 d5, .bool true]) (by simp [results, Try.results162, go_sem]) rfl ⟨B5, m5, d5, by rw [HE.out], by rw [HE.out]; exact hk5.mono HBW.out.size, HBW.out.trans (hbw.mono HBW.out.size)⟩
    · have hk3 : k ≠ 3 := by omega
      have hk4 : k ≠ 4 := by omega
      have HE := Lib.hid (chgS_no hh hk2 hk3 hk4)
      clear hk34 hh
      generalize idxI (namesOf ss) s.name = z9 at *
      go_wp2_with fail
      all_goals exact bodyPost_ret (v := .tuple #[.slice (some ⟨W.heap.size, 0, none⟩) 0 0, .bool false]) (by simp [results, Try.results162, go_sem]) rfl ⟨some ⟨W.heap.size, 0, none⟩, 0, 0, by rw [HE.out], by rw [HE.out]; exact SRow.made HBW.out.size rfl, HBW.out.alloc HBW.out.size _⟩

end Go.Proofs.Ytakeijgoonagcaa

/- A change of a flow, the reference's side. -/
namespace Go.Proofs.Ytakeijgoonagcaa
open Go.RowKit

theorem chgB_f {f : Flow} {k : Int} {s : Step} (h : flowB f = false) : chgB f k s = false := by unfold chgB; rw [h]; rfl
theorem chgB_s {f : Flow} {k : Int} {s : Step} (h : stepB s = false) : chgB f k s = false := by unfold chgB; rw [h]; simp
theorem chgB_k {f : Flow} {k : Int} {s : Step} (h : (chgS k s f.steps).2 = false) : chgB f k s = false := by unfold chgB; rw [h]; simp
theorem chgB_g {f : Flow} {k : Int} {s : Step} (h : flowB ⟨f.ver + 1, (chgS k s f.steps).1⟩ = false) : chgB f k s = false := by unfold chgB; rw [h]; simp
theorem chgB_yes {f : Flow} {k : Int} {s : Step} (h1 : flowB f = true) (h2 : stepB s = true) (h3 : (chgS k s f.steps).2 = true) (h4 : flowB ⟨f.ver + 1, (chgS k s f.steps).1⟩ = true) : chgB f k s = true := by unfold chgB; rw [h1, h2, h3, h4]; rfl
theorem chgF_flow {f : Flow} {k : Int} {s : Step} (h : chgB f k s = true) : flowB (chgF f k s) = true := by
  rw [chgF_yes h]
  unfold chgB at h
  simp only [Bool.and_eq_true] at h
  exact h.2.2.2

set_option maxRecDepth 100000 in
set_option maxHeartbeats 4000000 in
theorem fcS_any (A G : Option Addr) (n c ng cg : Nat) (f : Flow) (k : Int) (s : Step) (lo lo' : Nat) (w : World) (hr : RStep w lo A n f.steps) (hok : okSteps f.steps) (hg : RStr w lo' G ng s.after) (hos : okStep s) :
    Calls Try.prog 133 #[.agg #[.int .i64 f.ver, .slice A n c], .agg #[.int .i64 k, .string s.name, .slice G ng cg, .bool s.undo]] w fun e w' => ∃ B m d, e = .returned (.tuple #[.agg #[.int .i64 (chgF f k s).ver, .slice B m d], .bool (chgB f k s)]) ∧ (chgB f k s = true → SRow w' w.heap.size (.slice B m d) m (chgF f k s).steps) ∧ Below w.heap.size w w' := by
  have HL := Lib.hid hr.1
  have HX := Lib.hid (heap_old (o := .cells #[.int .i64 0, .slice none 0 0] 34) (heap_old (o := .cells #[.int .i64 k, .string s.name, .slice G ng cg, .bool s.undo] 162) (heap_new (w := w) (o := .cells #[.int .i64 f.ver, .slice A n c] 34) rfl)))
  have HY := Lib.hid (heap_old (o := .cells #[.int .i64 0, .slice none 0 0] 34) (heap_new (w := w.alloc (.cells #[.int .i64 f.ver, .slice A n c] 34)) (b := w.heap.size + 1) (o := .cells #[.int .i64 k, .string s.name, .slice G ng cg, .bool s.undo] 162) (by simp)))
  have HZ := Lib.hid (heap_new (w := (w.alloc (.cells #[.int .i64 f.ver, .slice A n c] 34)).alloc (.cells #[.int .i64 k, .string s.name, .slice G ng cg, .bool s.undo] 162)) (b := w.heap.size + 1 + 1) (o := .cells #[.int .i64 0, .slice none 0 0] 34) (by simp))
  have HBW := Lib.hid ((((Below.refl w.heap.size w).alloc (Nat.le_refl _) (.cells #[.int .i64 f.ver, .slice A n c] 34)).alloc (by simp) (.cells #[.int .i64 k, .string s.name, .slice G ng cg, .bool s.undo] 162)).alloc (by simp; omega) (.cells #[.int .i64 0, .slice none 0 0] 34))
  have HRW := Lib.hid (((hr.alloc (.cells #[.int .i64 f.ver, .slice A n c] 34)).alloc (.cells #[.int .i64 k, .string s.name, .slice G ng cg, .bool s.undo] 162)).alloc (.cells #[.int .i64 0, .slice none 0 0] 34)); clear hr
  have HGW := Lib.hid (((hg.alloc (.cells #[.int .i64 f.ver, .slice A n c] 34)).alloc (.cells #[.int .i64 k, .string s.name, .slice G ng cg, .bool s.undo] 162)).alloc (.cells #[.int .i64 0, .slice none 0 0] 34)); clear hg
  go_enter Try.func133, Try.ntmps133
  go_upto_region 1 with fail
  generalize ((w.alloc (.cells #[.int .i64 f.ver, .slice A n c] 34)).alloc (.cells #[.int .i64 k, .string s.name, .slice G ng cg, .bool s.undo] 162)).alloc (.cells #[.int .i64 0, .slice none 0 0] 34) = W at *
  have hsW := HBW.out.size
  have hzl := heap_lt HZ.out
  have HSB : Hid (∀ w', Below W.heap.size W w' → w'.cell? ⟨w.heap.size, 0, none⟩ = some (.int .i64 f.ver) ∧ w'.cell? ⟨w.heap.size, 1, none⟩ = some (.slice A n c) ∧ w'.cell? ⟨w.heap.size + 1, 0, none⟩ = some (.int .i64 k) ∧ w'.cell? ⟨w.heap.size + 1, 1, none⟩ = some (.string s.name) ∧ w'.cell? ⟨w.heap.size + 1, 2, none⟩ = some (.slice G ng cg) ∧ w'.cell? ⟨w.heap.size + 1, 3, none⟩ = some (.bool s.undo)) := Lib.hid (fun w' h => by
    have e1 := (h.block _ (heap_lt HX.out)).trans HX.out
    have e2 := (h.block _ (heap_lt HY.out)).trans HY.out
    exact ⟨(blk_cl (k := 0) e1 rfl).1, (blk_cl (k := 1) e1 rfl).1, (blk_cl (k := 0) e2 rfl).1, (blk_cl (k := 1) e2 rfl).1, (blk_cl (k := 2) e2 rfl).1, (blk_cl (k := 3) e2 rfl).1⟩)
  obtain ⟨f0, f1, x0, x1, x2, x3⟩ := HSB.out W (Below.refl _ _)
  cases hf : flowB f
  · go_wp2_with (go_at_call 60; refine (flowS_any _ _ _ f _ _ HRW.out hok).mono ?_; rintro e w1 ⟨rfl, hb1⟩; rw [hf]; clear f0 f1 x0 x1 x2 x3; obtain ⟨f0, f1, x0, x1, x2, x3⟩ := HSB.out w1 hb1; have HZ9 := Lib.hid ((hb1.block _ (heap_lt HZ.out)).trans HZ.out); have z0 := (blk_cl (k := 0) HZ9.out rfl).1; have z0' := (blk_cl (k := 0) HZ9.out rfl).2; have z1 := (blk_cl (k := 1) HZ9.out rfl).1; have z1' := (blk_cl (k := 1) HZ9.out rfl).2)
    have HE := Lib.hid (chgF_no (k := k) (s := s) (chgB_f hf))
    have HP := Lib.hid (chgB_f (k := k) (s := s) hf)
    have hres := set21 (u := .slice none 0 0) (set20 (u := .int .i64 0) HZ9.out)
    have e0 := (blk_cl (k := 0) hres rfl).1
    have e1 := (blk_cl (k := 1) hres rfl).1
    exact bodyPost_ret (v := .tuple #[.agg #[.int .i64 0, .slice none 0 0], .bool false]) (by simp [results, Try.results133, go_sem, e0, e1]) rfl ⟨none, 0, 0, by rw [HE.out, HP.out], fun h => by (rw [HP.out] at h; cases h), ((HBW.out.trans (hb1.mono HBW.out.size)).setCell (p := ⟨w.heap.size + 1 + 1, 0, none⟩) (by show w.heap.size ≤ w.heap.size + 1 + 1; omega) _).setCell (p := ⟨w.heap.size + 1 + 1, 1, none⟩) (by show w.heap.size ≤ w.heap.size + 1 + 1; omega) _⟩
  · have hn8 : n ≤ 8 := by rw [← HL.out]; exact (flowB_iff.1 hf).2.2.1.2
    have hv1 : (1 : Int) ≤ f.ver := (flowB_iff.1 hf).2.1.1
    have hv2 : f.ver ≤ (99 : Int) := (flowB_iff.1 hf).2.1.2
    have HST : Hid (∀ w1, Below W.heap.size W w1 → Calls Try.prog 122 #[.agg #[.string s.name, .slice G ng cg, .bool s.undo]] w1 fun e w' => e = .returned (.bool (stepB s)) ∧ Below W.heap.size W w') := Lib.hid (fun w1 h1 => (stepS_any _ _ _ s _ _ (HGW.out.below h1) hos).mono (by
      rintro e w2 ⟨h2, h3⟩
      exact ⟨h2, h1.trans (h3.mono h1.size)⟩))
    cases hst : stepB s
    · go_wp2_with (first | (go_at_call 60; refine (flowS_any _ _ _ f _ _ HRW.out hok).mono ?_; rintro e w1 ⟨rfl, hb1⟩; rw [hf]; clear f0 f1 x0 x1 x2 x3; obtain ⟨f0, f1, x0, x1, x2, x3⟩ := HSB.out w1 hb1) | (go_at_call 122; refine (HST.out _ hb1).mono ?_; rintro e w2 ⟨rfl, hb2⟩; rw [hst]; clear f0 f1 x0 x1 x2 x3; obtain ⟨f0, f1, x0, x1, x2, x3⟩ := HSB.out w2 hb2; have HZ9 := Lib.hid ((hb2.block _ (heap_lt HZ.out)).trans HZ.out); have z0 := (blk_cl (k := 0) HZ9.out rfl).1; have z0' := (blk_cl (k := 0) HZ9.out rfl).2; have z1 := (blk_cl (k := 1) HZ9.out rfl).1; have z1' := (blk_cl (k := 1) HZ9.out rfl).2) | fail "no arm")
      have HE := Lib.hid (chgF_no (chgB_s (f := f) (k := k) hst))
      have HP := Lib.hid (chgB_s (f := f) (k := k) hst)
      have hres := set21 (u := .slice none 0 0) (set20 (u := .int .i64 0) HZ9.out)
      have e0 := (blk_cl (k := 0) hres rfl).1
      have e1 := (blk_cl (k := 1) hres rfl).1
      exact bodyPost_ret (v := .tuple #[.agg #[.int .i64 0, .slice none 0 0], .bool false]) (by simp [results, Try.results133, go_sem, e0, e1]) rfl ⟨none, 0, 0, by rw [HE.out, HP.out], fun h => by (rw [HP.out] at h; cases h), ((HBW.out.trans (hb2.mono HBW.out.size)).setCell (p := ⟨w.heap.size + 1 + 1, 0, none⟩) (by show w.heap.size ≤ w.heap.size + 1 + 1; omega) _).setCell (p := ⟨w.heap.size + 1 + 1, 1, none⟩) (by show w.heap.size ≤ w.heap.size + 1 + 1; omega) _⟩
    · go_wp2_with (first | (go_at_call 60; refine (flowS_any _ _ _ f _ _ HRW.out hok).mono ?_; rintro e w1 ⟨rfl, hb1⟩; rw [hf]; clear f0 f1 x0 x1 x2 x3; obtain ⟨f0, f1, x0, x1, x2, x3⟩ := HSB.out w1 hb1) | (go_at_call 122; refine (HST.out _ hb1).mono ?_; rintro e w2 ⟨rfl, hb2⟩; rw [hst]; clear f0 f1 x0 x1 x2 x3; obtain ⟨f0, f1, x0, x1, x2, x3⟩ := HSB.out w2 hb2; have HZ9 := Lib.hid ((hb2.block _ (heap_lt HZ.out)).trans HZ.out); have z0 := (blk_cl (k := 0) HZ9.out rfl).1; have z0' := (blk_cl (k := 0) HZ9.out rfl).2; have z1 := (blk_cl (k := 1) HZ9.out rfl).1; have z1' := (blk_cl (k := 1) HZ9.out rfl).2) | fail "no arm")
      clear HZ9 z0 z0' z1 z1'
      refine (l12Steps_any _ _ _ _ _ _ f.steps k s _ _ _ (HRW.out.below hb2) hok (by omega) (fun j hj => by have := (stepB_names (step_ok hf (by rw [HL.out]; exact hj))).2.1; omega) (HGW.out.below hb2) (by have := (stepB_names hst).2.1; rw [← HGW.out.1]; omega)).mono ?_
      rintro e w3 ⟨B, m, d, rfl, hrow, hb3⟩
      have hbW : Below W.heap.size W w3 := hb2.trans (hb3.mono hb2.size)
      have HROW := Lib.hid (hrow.mono (Nat.le_trans hsW hb2.size)); clear hrow hb3
      clear f0 f1 x0 x1 x2 x3
      obtain ⟨f0, f1, x0, x1, x2, x3⟩ := HSB.out w3 hbW
      have HOKC := Lib.hid (chgS_ok (k := k) hf hst)
      cases hc2 : (chgS k s f.steps).2
      · have HX3 := Lib.hid ((hbW.block _ hzl).trans HZ.out)
        have hw3 : w.heap.size + 1 + 1 < w3.heap.size := Nat.lt_of_lt_of_le hzl hbW.size
        have hbV : Below W.heap.size W (w3.alloc (.cells #[.int .i64 (f.ver + 1), .slice B m d] 34)) := hbW.alloc hbW.size _
        have HE := Lib.hid (chgF_no (chgB_k hc2))
        have HP := Lib.hid (chgB_k hc2)
        obtain ⟨f0, f1, x0, x1, x2, x3⟩ := HSB.out _ hbW
        have HZ9 := Lib.hid ((hbW.block _ (heap_lt HZ.out)).trans HZ.out)
        have z0 := (blk_cl (k := 0) HZ9.out rfl).1
        have z0' := (blk_cl (k := 0) HZ9.out rfl).2
        have z1 := (blk_cl (k := 1) HZ9.out rfl).1
        have z1' := (blk_cl (k := 1) HZ9.out rfl).2
        go_wp2_with fail
        have hres := heap_old (o := .cells #[.int .i64 (f.ver + 1), .slice B m d] 34) (set21 (u := .slice none 0 0) (set20 (u := .int .i64 0) HZ9.out))
        have e0 := (blk_cl (k := 0) hres rfl).1
        have e1 := (blk_cl (k := 1) hres rfl).1
        exact bodyPost_ret (v := .tuple #[.agg #[.int .i64 0, .slice none 0 0], .bool false]) (by simp [results, Try.results133, go_sem, e0, e1]) rfl ⟨none, 0, 0, by rw [HE.out, HP.out], fun h => by (rw [HP.out] at h; cases h), (((HBW.out.trans (hbW.mono HBW.out.size)).setCell (p := ⟨w.heap.size + 1 + 1, 0, none⟩) (by show w.heap.size ≤ w.heap.size + 1 + 1; omega) _).setCell (p := ⟨w.heap.size + 1 + 1, 1, none⟩) (by show w.heap.size ≤ w.heap.size + 1 + 1; omega) _).alloc (by have := hbW.size; simp [World.setCell]; omega) (.cells #[.int .i64 (f.ver + 1), .slice B m d] 34)⟩
      · have HOUT : Hid (∃ A' c', Value.slice B m d = .slice A' m c' ∧ RStep w3 w.heap.size A' m (chgS k s f.steps).1) := Lib.hid HROW.out.hat
        obtain ⟨A', c', e9, hrs⟩ := HOUT.out
        injection e9 with e9 _ e9'
        subst e9; subst e9'
        have HRS := Lib.hid (hrs.alloc (.cells #[.int .i64 (f.ver + 1), .slice B m d] 34)); clear hrs HOUT
        have HNB := Lib.hid (heap_new (w := w3) (o := .cells #[.int .i64 (f.ver + 1), .slice B m d] 34) rfl)
        have hbV : Below W.heap.size W (w3.alloc (.cells #[.int .i64 (f.ver + 1), .slice B m d] 34)) := hbW.alloc hbW.size _
        have HRV := Lib.hid (HROW.out.below ((Below.refl _ _).alloc (Nat.le_refl _) (.cells #[.int .i64 (f.ver + 1), .slice B m d] 34)))
        have g0 := (blk_cl (k := 0) HNB.out rfl).1
        have g1 := (blk_cl (k := 1) HNB.out rfl).1
        go_wp2_with fail
        refine (flowS_any _ _ _ ⟨f.ver + 1, (chgS k s f.steps).1⟩ _ _ HRS.out HOKC.out).mono ?_
        rintro e w5 ⟨rfl, hb5⟩
        have hb6 : Below W.heap.size W w5 := hbV.trans (hb5.mono hbV.size)
        have HR5 := Lib.hid (HRV.out.below hb5)
        have HN5 := Lib.hid ((hb5.block _ (heap_lt HNB.out)).trans HNB.out)
        clear g0 g1 f0 f1 x0 x1 x2 x3
        have g0 := (blk_cl (k := 0) HN5.out rfl).1
        have g1 := (blk_cl (k := 1) HN5.out rfl).1
        cases hg9 : flowB ⟨f.ver + 1, (chgS k s f.steps).1⟩
        · have HE := Lib.hid (chgF_no (chgB_g hg9))
          have HP := Lib.hid (chgB_g hg9)
          obtain ⟨f0, f1, x0, x1, x2, x3⟩ := HSB.out _ hb6
          have HZ9 := Lib.hid ((hb6.block _ (heap_lt HZ.out)).trans HZ.out)
          have z0 := (blk_cl (k := 0) HZ9.out rfl).1
          have z0' := (blk_cl (k := 0) HZ9.out rfl).2
          have z1 := (blk_cl (k := 1) HZ9.out rfl).1
          have z1' := (blk_cl (k := 1) HZ9.out rfl).2
          go_wp2_with fail
          have hres := set21 (u := .slice none 0 0) (set20 (u := .int .i64 0) HZ9.out)
          have e0 := (blk_cl (k := 0) hres rfl).1
          have e1 := (blk_cl (k := 1) hres rfl).1
          exact bodyPost_ret (v := .tuple #[.agg #[.int .i64 0, .slice none 0 0], .bool false]) (by simp [results, Try.results133, go_sem, e0, e1]) rfl ⟨none, 0, 0, by rw [HE.out, HP.out], fun h => by (rw [HP.out] at h; cases h), ((HBW.out.trans (hb6.mono HBW.out.size)).setCell (p := ⟨w.heap.size + 1 + 1, 0, none⟩) (by show w.heap.size ≤ w.heap.size + 1 + 1; omega) _).setCell (p := ⟨w.heap.size + 1 + 1, 1, none⟩) (by show w.heap.size ≤ w.heap.size + 1 + 1; omega) _⟩
        · have HP := Lib.hid (chgB_yes hf hst hc2 hg9)
          have HE := Lib.hid (chgF_yes HP.out)
          obtain ⟨f0, f1, x0, x1, x2, x3⟩ := HSB.out _ hb6
          have HZ9 := Lib.hid ((hb6.block _ (heap_lt HZ.out)).trans HZ.out)
          have z0 := (blk_cl (k := 0) HZ9.out rfl).1
          have z0' := (blk_cl (k := 0) HZ9.out rfl).2
          have z1 := (blk_cl (k := 1) HZ9.out rfl).1
          have z1' := (blk_cl (k := 1) HZ9.out rfl).2
          go_wp2_with fail
          have hres := set21 (u := .slice B m d) (set20 (u := .int .i64 (f.ver + 1)) HZ9.out)
          have e0 := (blk_cl (k := 0) hres rfl).1
          have e1 := (blk_cl (k := 1) hres rfl).1
          exact bodyPost_ret (v := .tuple #[.agg #[.int .i64 (f.ver + 1), .slice B m d], .bool true]) (by simp [results, Try.results133, go_sem, e0, e1]) rfl ⟨B, m, d, by rw [HE.out, HP.out], fun _ => by (rw [HE.out]; exact (HR5.out.set (o := 0) (u := .int .i64 (f.ver + 1)) HZ9.out (by decide) (by decide)).set (o := 1) (u := .slice B m d) (set20 HZ9.out) (by decide) (by decide)), ((HBW.out.trans (hb6.mono HBW.out.size)).setCell (p := ⟨w.heap.size + 1 + 1, 0, none⟩) (by show w.heap.size ≤ w.heap.size + 1 + 1; omega) _).setCell (p := ⟨w.heap.size + 1 + 1, 1, none⟩) (by show w.heap.size ≤ w.heap.size + 1 + 1; omega) _⟩
end Go.Proofs.Ytakeijgoonagcaa

/- A change drawn. -/
namespace Go.Proofs.Ytakeijgoonagcaa
open Go.RowKit

theorem cellFarQ {w : World} {b b' o o' : Nat} {u : Value} (h : b ≠ b') : (w.setCell ⟨b', o', none⟩ u).cell? ⟨b, o, none⟩ = w.cell? ⟨b, o, none⟩ :=
  World.cell?_setCell_other _ _ _ _ (fun e => by injection e with e; exact h e.symm)
theorem set4 {w : World} {b : Nat} {a0 a1 a2 a3 u0 u1 u2 u3 : Value} {t : TypeId} {fr : Nat × Nat} (h : w.heap[b]? = some (.cells #[a0, a1, a2, a3] t fr)) :
    ((((w.setCell ⟨b, 0, none⟩ u0).setCell ⟨b, 1, none⟩ u1).setCell ⟨b, 2, none⟩ u2).setCell ⟨b, 3, none⟩ u3).heap[b]? = some (.cells #[u0, u1, u2, u3] t fr) := set_at (set_at (set_at (set_at h)))
theorem row_set4 {w : World} {base b : Nat} {e t : TypeId} {size : Nat} {v u0 u1 u2 u3 : Value} {n : Nat} {cs : List Value} {cs' : Array Value} (h : w.ownsRow base e size v n cs) (hb : w.heap[b]? = some (.cells cs' t (0, 0))) (hne : e ≠ t) :
    ((((w.setCell ⟨b, 0, none⟩ u0).setCell ⟨b, 1, none⟩ u1).setCell ⟨b, 2, none⟩ u2).setCell ⟨b, 3, none⟩ u3).ownsRow base e size v n cs :=
  row_set (row_set (row_set (row_set h hb hne) (set_at hb) hne) (set_at (set_at hb)) hne) (set_at (set_at (set_at hb))) hne
def ChangeQ (w0 : World) (g q : Nat) (w : World) (e : Ending) (w' : World) : Prop :=
  ∃ (k : Int) (s : Step) (G : Option Addr) (ng cg : Nat), e = .returned (.agg #[.int .i64 k, .string s.name, .slice G ng cg, .bool s.undo]) ∧ RStr w' w.heap.size G ng s.after ∧ okStep s ∧ Dr 158 w0 g (q + 200) w' ∧ On g w w'

set_option maxRecDepth 100000 in
set_option maxHeartbeats 8000000 in
theorem l92Change_any (w0 : World) (g q : Nat) (A : Option Addr) (n c : Nat) (f : Flow) (lo : Nat) (w : World) (h : Dr 158 w0 g q w) (hq : q ≤ 1099511600000) (hr : RStep w lo A n f.steps) (hok : okSteps f.steps) (hn1 : 1 ≤ n) (hn8 : n ≤ 8) (hlo : g < lo) :
    Calls Try.prog 134 #[.pointer (some ⟨g, 0, none⟩), .agg #[.int .i64 f.ver, .slice A n c]] w (ChangeQ w0 g q w) := by
  have HL := Lib.hid hr.1
  obtain ⟨b0, off, hA, ⟨hb01, hb02⟩, hcc⟩ := RStep.at_ hr (k := 0) (by omega)
  subst hA
  have hgl := h.lt
  have HD0 := Lib.hid h
  have hdw := (h.here.alloc (.cells #[.int .i64 f.ver, .slice (some ⟨b0, off, none⟩) n c] 34)).alloc (.cells #[.int .i64 0, .string ⟨#[]⟩, .slice none 0 0, .bool false] 162); clear h
  have HX := Lib.hid (heap_old (o := .cells #[.int .i64 0, .string ⟨#[]⟩, .slice none 0 0, .bool false] 162) (heap_new (w := w) (o := .cells #[.int .i64 f.ver, .slice (some ⟨b0, off, none⟩) n c] 34) rfl))
  have HZ := Lib.hid (heap_new (w := w.alloc (.cells #[.int .i64 f.ver, .slice (some ⟨b0, off, none⟩) n c] 34)) (b := w.heap.size + 1) (o := .cells #[.int .i64 0, .string ⟨#[]⟩, .slice none 0 0, .bool false] 162) (by simp))
  have hBW := ((Below.refl w.heap.size w).alloc (Nat.le_refl _) (.cells #[.int .i64 f.ver, .slice (some ⟨b0, off, none⟩) n c] 34)).alloc (by simp) (.cells #[.int .i64 0, .string ⟨#[]⟩, .slice none 0 0, .bool false] 162)
  have hWs : ((w.alloc (.cells #[.int .i64 f.ver, .slice (some ⟨b0, off, none⟩) n c] 34)).alloc (.cells #[.int .i64 0, .string ⟨#[]⟩, .slice none 0 0, .bool false] 162)).heap.size = w.heap.size + 2 := by simp
  go_enter Try.func134, Try.ntmps134
  go_upto_region 1 with fail
  generalize (w.alloc (.cells #[.int .i64 f.ver, .slice (some ⟨b0, off, none⟩) n c] 34)).alloc (.cells #[.int .i64 0, .string ⟨#[]⟩, .slice none 0 0, .bool false] 162) = W at *
  have hWl : w.heap.size + 1 < W.heap.size := by omega
  clear hWs
  have HBW := Lib.hid hBW; clear hBW
  have HDw := Lib.hid hdw
  have HDW := Lib.hid hdw.here; clear hdw
  have HROWC : Hid (∀ w', On g W w' → ∀ j, j < n → w'.cell? ⟨b0, off + j * 3, none⟩ = some (.string (nth f.steps j).name)) := Lib.hid (fun w' h j hj => by
    obtain ⟨_, _, _, ⟨d1, _, _⟩, _⟩ := hcc j hj
    exact (h.cell (by omega) (by omega)).trans ((HBW.out.cell (p := ⟨b0, off + j * 3, none⟩) hb02).trans d1))
  clear hcc hr
  have HF1 : Hid (∀ w', On g W w' → w'.cell? ⟨w.heap.size, 1, none⟩ = some (.slice (some ⟨b0, off, none⟩) n c)) := Lib.hid (fun w' h => (blk_cl (k := 1) (h.blk HX.out (by omega)) rfl).1)
  have HSZ : Hid (∀ j, j < n → (nth f.steps j).name.size ≤ maxLen) := Lib.hid (fun j hj => (hok.2 j (by rw [HL.out]; exact hj)).1)
  go_wp2_with fail
  refine (pick W g _ _ _ HDW.out (by omega) (by omega)).mono ?_
  rintro e w1 ⟨v, rfl, a0, a1, a2, hd1, hon1⟩
  go_wp2_with fail
  refine (l91Step_any W g _ _ hd1 (by omega)).mono ?_
  rintro e w2 ⟨s0, G, ng, cg, rfl, _, hos0, _, _, hd2, hon2⟩
  have HD2 := Lib.hid (hd2.alloc (.cells #[.int .i64 (1 + v), .string s0.name, .slice G ng cg, .bool s0.undo] 162))
  have HB2 := Lib.hid (heap_new (w := w2) (o := .cells #[.int .i64 (1 + v), .string s0.name, .slice G ng cg, .bool s0.undo] 162) rfl)
  have hs2 := hd2.on.size
  have hx2 := hos0.1
  clear hd1 hon1 hd2 hon2 hos0 a1
  generalize s0.name = x0 at *
  generalize s0.undo = u at *
  generalize 1 + v = kk at *
  go_upto_if 16 with fail
  generalize w2.alloc (.cells #[.int .i64 kk, .string x0, .slice G ng cg, .bool u] 162) = W2 at *
  generalize w2.heap.size = bx at *
  clear a0 a2
  have hbl := heap_lt HB2.out
  go_cut [5] (fun s5 wx => ∃ (b : Nat) (k : Int) (x : Str), s5 = .pointer (some ⟨b, 0, none⟩) ∧ wx.heap[b]? = some (.cells #[.int .i64 k, .string x, .slice G ng cg, .bool u] 162) ∧ W.heap.size ≤ b ∧ x.size ≤ maxLen ∧ Dr 158 W g (q + 110) wx)
  case first =>
    by_cases hk : kk = 1
    · subst hk
      go_wp2_with fail
      refine (of_ W g _ _ _ _ [⟨#[97, 97]⟩, ⟨#[103]⟩, ⟨#[104]⟩, ⟨#[99]⟩, ⟨#[101]⟩] _ _ (HD2.out.alloc _) (by omega) (lit_str _ 5 rfl rfl) (by omega) (by omega) (show g < W2.heap.size by omega)).mono ?_
      rintro e w3 ⟨x, rfl, hm3, hd3, hon3⟩
      have hx3 : x.size ≤ maxLen := by
        simp at hm3
        rcases hm3 with rfl | rfl | rfl | rfl | rfl <;> decide
      have HB3 := Lib.hid (hon3.blk (heap_old HB2.out) (by omega))
      have e0 := (blk_cl (k := 0) HB3.out rfl).1
      have e0' := (blk_cl (k := 0) HB3.out rfl).2
      have e1 := (blk_cl (k := 1) HB3.out rfl).1
      have e1' := (blk_cl (k := 1) HB3.out rfl).2
      have e2 := (blk_cl (k := 2) HB3.out rfl).1
      have e2' := (blk_cl (k := 2) HB3.out rfl).2
      have e3 := (blk_cl (k := 3) HB3.out rfl).1
      have e3' := (blk_cl (k := 3) HB3.out rfl).2
      go_wp2_with fail
      go_meet
      exact ⟨bx, _, x, rfl, set_at HB3.out, hs2, hx3, (hd3.set_ hs2 (by omega) _ _).more (by omega)⟩
    · have hkb : (kk == 1) = false := by rw [beq_eq_false_iff_ne]; exact hk
      clear hk
      go_wp2_with fail
      refine (pick W g _ _ _ HD2.out (by omega) (by omega)).mono ?_
      rintro e w6 ⟨v6, rfl, a0, a1, a2, hd6, hon6⟩
      have HD6 := Lib.hid hd6
      have HB6 := Lib.hid (hon6.blk HB2.out (by omega))
      clear hd6 hon6 a1
      by_cases hv : 0 < v6
      · obtain ⟨v2, hv0, hv1, _, hcall⟩ := pick1 W g _ (n : Int) _ HD6.out.drew (by omega) (by omega)
        obtain ⟨j, rfl⟩ := Int.eq_ofNat_of_zero_le hv0
        have hjn : j < n := by have := hv1 (by omega); omega
        have HC := Lib.hid hcall; clear hcall hv0 hv1
        have hszj := HSZ.out j hjn
        have HRJ := Lib.hid (fun w' h => HROWC.out w' h j hjn)
        generalize (nth f.steps j).name = x at *
        have HSB : Hid (∀ w', On g W w' → w'.cell? ⟨w.heap.size, 1, none⟩ = some (.slice (some ⟨b0, off, none⟩) n c) ∧ w'.cell? ⟨b0, off + j * 3, none⟩ = some (.string x)) := Lib.hid (fun w' h => ⟨HF1.out w' h, HRJ.out w' h⟩)
        have HST : Hid (∀ (w' : World) (o : Nat) (z : Value), (w'.cell? ⟨w.heap.size, 1, none⟩ = some (.slice (some ⟨b0, off, none⟩) n c) ∧ w'.cell? ⟨b0, off + j * 3, none⟩ = some (.string x)) → ((w'.setCell ⟨bx, o, none⟩ z).cell? ⟨w.heap.size, 1, none⟩ = some (.slice (some ⟨b0, off, none⟩) n c) ∧ (w'.setCell ⟨bx, o, none⟩ z).cell? ⟨b0, off + j * 3, none⟩ = some (.string x))) := Lib.hid (fun w' o z h => ⟨(cellFarQ (by omega)).trans h.1, (cellFarQ (by omega)).trans h.2⟩)
        have hj0 : (0 : Int) ≤ (j : Int) := by omega
        have hj1 : (j : Int) < (n : Int) := by omega
        go_wp2_with fail
        go_region_held3 (fun w' => w'.cell? ⟨w.heap.size, 1, none⟩ = some (.slice (some ⟨b0, off, none⟩) n c) ∧ w'.cell? ⟨b0, off + j * 3, none⟩ = some (.string x))
          (first | exact HSB.out _ hd9.on | exact HSB.out _ HD6.out.drew.on | exact HST.out _ _ _ (HSB.out _ hd9.on) | fail "keep")
          (first | (go_at_call 81; refine HC.out.mono ?_; rintro e w9 ⟨rfl, hd9, hon9⟩; have HB9 := Lib.hid (hon9.blk HB6.out (by omega)); have e0 := (blk_cl (k := 0) HB9.out rfl).1; have e0' := (blk_cl (k := 0) HB9.out rfl).2; have e1 := (blk_cl (k := 1) HB9.out rfl).1; have e1' := (blk_cl (k := 1) HB9.out rfl).2; have e2 := (blk_cl (k := 2) HB9.out rfl).1; have e2' := (blk_cl (k := 2) HB9.out rfl).2; have e3 := (blk_cl (k := 3) HB9.out rfl).1; have e3' := (blk_cl (k := 3) HB9.out rfl).2) | fail "no arm")
        go_wp2_with fail
        go_meet
        exact ⟨bx, _, x, rfl, set_at HB9.out, hs2, hszj, (hd9.set_ hs2 (by omega) _ _).more (by omega)⟩
      · go_wp2_with fail
        go_meet
        exact ⟨bx, _, x0, rfl, HB6.out, hs2, hx2, HD6.out.more (by omega)⟩
  case rest =>
    obtain ⟨b, k, x, rfl, hbx, hbW, hxs, hdc⟩ := hcut
    clear HB2 HD2 hbl hs2 hx2
    have HN0 := Lib.hid (World.ownsRow_made (base := W.heap.size) (e := 9) (size := 1) wc #[] 0 hdc.on.size (Nat.zero_le _) rfl)
    have HD0c := Lib.hid (hdc.alloc (.cells #[] 9))
    have HB0c := Lib.hid (heap_old (o := .cells #[] 9) hbx)
    clear hbx hdc
    go_wp2_with fail
    go_loopw [6, 7] (fun z i wr => ∃ (j n1 : Nat) (ys : List Str), j ≤ n ∧ i = .int .i64 (j : Int) ∧ wr.ownsRow W.heap.size 9 1 z n1 (ys.map Value.string) ∧ okS ys ∧ n1 ≤ 4 ∧ Dr 158 W g (q + 110 + j) wr ∧ wr.heap[b]? = some (.cells #[.int .i64 k, .string x, .slice G ng cg, .bool u] 162)) (fun _ i _ => n - (intOf i).toNat)
    case atStart => exact ⟨0, 0, [], Nat.zero_le _, rfl, HN0.out, okS_nil, by omega, HD0c.out, HB0c.out⟩
    case round =>
      obtain ⟨wo, rfl⟩ : ∃ wo : World, wo = wr := ⟨_, rfl⟩
      obtain ⟨j, n1, ys, hj, rfl, hrow, hys, hn4, hdr, hbo⟩ := hrel
      have HROW := Lib.hid hrow; clear hrow
      have HYS := Lib.hid hys; clear hys
      have HDR := Lib.hid hdr; clear hdr
      have HBO := Lib.hid hbo; clear hbo
      obtain ⟨A1, c1, rfl, _⟩ := own_str HROW.out
      have hbol := heap_lt HBO.out
      have hso := HDR.out.on.size
      have f1 := HF1.out _ HDR.out.on
      by_cases hlt : j < n
      · by_cases hl4 : n1 < 4
        · have HSB : Hid (∀ w', On g wo w' → w'.cell? ⟨w.heap.size, 1, none⟩ = some (.slice (some ⟨b0, off, none⟩) n c) ∧ w'.cell? ⟨b0, off + j * 3, none⟩ = some (.string (nth f.steps j).name) ∧ w'.cell? ⟨b, 1, none⟩ = some (.string x)) := Lib.hid (fun w' h => ⟨HF1.out w' (HDR.out.on.trans h), HROWC.out w' (HDR.out.on.trans h) j hlt, (blk_cl (k := 1) (h.blk HBO.out (by omega)) rfl).1⟩)
          have hszj := HSZ.out j hlt
          have hj0 : (0 : Int) ≤ (j : Int) := by omega
          have hj1 : (j : Int) < (n : Int) := by omega
          have hj2 : ¬ ((j : Int) < 0) := by omega
          have hj4 : (n1 : Int) < 4 := by omega
          generalize (nth f.steps j).name = y at *
          by_cases he : y = x
          · have hq0 : (y.toList != x.toList) = false := by rw [he]; simp
            have hq1 : (y.toList == x.toList) = true := seq_t he
            clear he
            obtain ⟨g1, g2, g3⟩ := HSB.out wo (On.refl _ _)
            go_wp2_with fail
            go_quiet (fail)
            go_wp2_with fail
            go_roundw
            case rel => exact ⟨j + 1, n1, ys, by omega, by go_num, row_below HROW.out (below_drewN (Below.refl _ _) _), HYS.out, hn4, (HDR.out.drewN _).more (by omega), ((On.refl g wo).drewN _).blk HBO.out (by omega)⟩
            case measure => simp [intOf]; omega
          · have hq1 : (y.toList == x.toList) = false := seq_f he
            have hq0 : (y.toList != x.toList) = true := by rw [bne, hq1]; rfl
            clear he
            obtain ⟨v2, hv0, _, _, hcall⟩ := pick1 W g _ 4 _ HDR.out.drew (by omega) (by omega)
            have HC := Lib.hid hcall; clear hcall
            go_wp2_with fail
            go_region_held3 (fun w' => w'.cell? ⟨w.heap.size, 1, none⟩ = some (.slice (some ⟨b0, off, none⟩) n c) ∧ w'.cell? ⟨b0, off + j * 3, none⟩ = some (.string y) ∧ w'.cell? ⟨b, 1, none⟩ = some (.string x))
              (first | exact HSB.out _ ((On.refl _ _).drew.trans hon9) | exact HSB.out _ (On.refl _ _).drew | fail "keep")
              (first | (go_at_call 81; refine HC.out.mono ?_; rintro e w9 ⟨rfl, hd9, hon9⟩) | fail "no arm")
            all_goals
              have HB9 := Lib.hid (hon9.blk (x := .cells #[.int .i64 k, .string x, .slice G ng cg, .bool u] 162) HBO.out (by omega))
              have HON9 := Lib.hid ((On.refl g wo).drew.trans hon9)
              have HD9 := Lib.hid hd9
              have HR9 := Lib.hid (row_on HROW.out HON9.out (by omega))
              clear hd9 hon9 f1
              obtain ⟨g1, g2, _⟩ := HSB.out w9 HON9.out
              by_cases hz9 : v2 = 0
              · subst hz9
                go_wp2_with (at_builtin; refine app_strW W.heap.size (.slice A1 n1 c1) n1 ys _ y ?c0 rfl (.tmp 65) (.tmp 72) rfl rfl rfl ?c1 (by omega) ?c2 ?_)
                case c0 => exact HR9.out.alloc _
                case c1 => first | exact heap_new rfl | exact Array.getElem_push_eq
                case c2 => have := HD9.out.on.size; (try simp); omega
                intro v8 w8 hrow8 hg8 hat8
                replace hrow8 : w8.ownsRow W.heap.size 9 1 v8 (n1 + 1) ((ys ++ [y]).map Value.string) := by rw [List.map_append]; exact hrow8
                have HNB := Lib.hid (row_ne (HR9.out.alloc (.cells #[.string y] 9)) (heap_old HB9.out) (by decide))
                have HB8 := Lib.hid (grown_blk hg8 (heap_old HB9.out) HNB.out)
                have HD8 := Lib.hid ((HD9.out.alloc _).grown hg8 (fun k hk => ⟨(HR9.out.lt k hk).1, by have := (HR9.out.lt k hk).1; omega⟩))
                have HR8 := Lib.hid hrow8
                have hyl : ys.length = n1 := by have := HR9.out.1; simpa using this
                clear hrow8 hg8 hat8
                go_wp2_with fail
                go_roundw
                case rel => exact ⟨j + 1, n1 + 1, ys ++ [y], by omega, by go_num, HR8.out, okS_app HYS.out (by omega) hszj, by omega, HD8.out, HB8.out⟩
                case measure => simp [intOf]; omega
              · have hz9b : (v2 == 0) = false := by rw [beq_eq_false_iff_ne]; exact hz9
                clear hz9
                go_wp2_with fail
                go_roundw
                case rel => exact ⟨j + 1, n1, ys, by omega, by go_num, HR9.out, HYS.out, hn4, HD9.out, HB9.out⟩
                case measure => simp [intOf]; omega
        · have e0 := (blk_cl (k := 0) HBO.out rfl).1
          have e0' := (blk_cl (k := 0) HBO.out rfl).2
          have e1 := (blk_cl (k := 1) HBO.out rfl).1
          have e1' := (blk_cl (k := 1) HBO.out rfl).2
          have e2 := (blk_cl (k := 2) HBO.out rfl).1
          have e2' := (blk_cl (k := 2) HBO.out rfl).2
          have e3 := (blk_cl (k := 3) HBO.out rfl).1
          have e3' := (blk_cl (k := 3) HBO.out rfl).2
          go_wp2_with fail
          refine (pick W g _ _ _ (HDR.out.set_ hbW (by omega) 2 (.slice A1 n1 c1)) (by omega) (by omega)).mono ?_
          rintro e w9 ⟨v9, rfl, a0, a1, a2, hd9, hon9⟩
          have HB9 : Hid (w9.heap[b]? = some (.cells #[.int .i64 k, .string x, .slice A1 n1 c1, .bool u] 162)) := Lib.hid (hon9.blk (set_at HBO.out) (by omega))
          have HR9 := Lib.hid (row_on (row_set (o := 2) (u := .slice A1 n1 c1) HROW.out HBO.out (by decide)) hon9 (by omega))
          have HD9 := Lib.hid hd9
          clear hd9 hon9 e0 e0' e1 e1' e2 e2' e3 e3' a0 a1 a2
          by_cases hz9 : v9 = 0
          · subst hz9
            have HDA := Lib.hid (HD9.out.alloc (.cells #[.int .i64 0, .int .i64 5] 3))
            have HEA := Lib.hid (heap_old (o := .cells #[.int .i64 0, .int .i64 5] 3) HB9.out)
            have HRA := Lib.hid (HR9.out.alloc (.cells #[.int .i64 0, .int .i64 5] 3))
            have HLA := Lib.hid (heap_new (w := w9) (o := .cells #[.int .i64 0, .int .i64 5] 3) rfl)
            have hs9 := HD9.out.on.size
            have e0 := (blk_cl (k := 0) HB9.out rfl).1
            have e0' := (blk_cl (k := 0) HB9.out rfl).2
            have e1 := (blk_cl (k := 1) HB9.out rfl).1
            have e1' := (blk_cl (k := 1) HB9.out rfl).2
            have e2 := (blk_cl (k := 2) HB9.out rfl).1
            have e2' := (blk_cl (k := 2) HB9.out rfl).2
            have e3 := (blk_cl (k := 3) HB9.out rfl).1
            have e3' := (blk_cl (k := 3) HB9.out rfl).2
            go_wp2_with fail
            refine (pick W g _ _ _ HDA.out (by omega) (by omega)).mono ?_
            rintro e w10 ⟨v10, rfl, b1, b2, b3, hd10, hon10⟩
            have HE10 := Lib.hid (hon10.blk HEA.out (by omega))
            have HL10 := Lib.hid (hon10.blk HLA.out (by omega))
            have HR10 := Lib.hid (row_on HRA.out hon10 (by omega))
            have HD10 := Lib.hid hd10; clear hd10 hon10 e0 e0' e1 e1' e2 e2' e3 e3'
            have l0 := (blk_cl (k := 0) HL10.out rfl).1
            have l1 := (blk_cl (k := 1) HL10.out rfl).1
            have hv10 : v10 = 0 ∨ v10 = 1 := by have := b2 (by omega); omega
            clear b1 b2 b3
            rcases hv10 with rfl | rfl
            · have HEB : Hid ((w10.setCell ⟨b, 0, none⟩ (.int .i64 0)).heap[b]? = some (.cells #[.int .i64 0, .string x, .slice A1 n1 c1, .bool u] 162)) := Lib.hid (set_at HE10.out)
              have HDB := Lib.hid (HD10.out.set_ (b := b) (by omega) (by omega) 0 (.int .i64 0))
              have HRB := Lib.hid (row_set (o := 0) (u := .int .i64 0) HR10.out HE10.out (by decide))
              have c0 := (blk_cl (k := 0) HE10.out rfl).1
              have c0' := (blk_cl (k := 0) HE10.out rfl).2
              have e0 := (blk_cl (k := 0) HEB.out rfl).1
              have e0' := (blk_cl (k := 0) HEB.out rfl).2
              have e1 := (blk_cl (k := 1) HEB.out rfl).1
              have e1' := (blk_cl (k := 1) HEB.out rfl).2
              have e2 := (blk_cl (k := 2) HEB.out rfl).1
              have e2' := (blk_cl (k := 2) HEB.out rfl).2
              have e3 := (blk_cl (k := 3) HEB.out rfl).1
              have e3' := (blk_cl (k := 3) HEB.out rfl).2
              have HZ9 := Lib.hid (HDB.out.on.blk HZ.out (by omega))
              have z0 := (blk_cl (k := 0) HZ9.out rfl).1
              have z0' := (blk_cl (k := 0) HZ9.out rfl).2
              have z1 := (blk_cl (k := 1) HZ9.out rfl).1
              have z1' := (blk_cl (k := 1) HZ9.out rfl).2
              have z2 := (blk_cl (k := 2) HZ9.out rfl).1
              have z2' := (blk_cl (k := 2) HZ9.out rfl).2
              have z3 := (blk_cl (k := 3) HZ9.out rfl).1
              have z3' := (blk_cl (k := 3) HZ9.out rfl).2
              go_wp2_with fail
              have hres := set4 (u0 := .int .i64 0) (u1 := .string x) (u2 := .slice A1 n1 c1) (u3 := .bool u) HZ9.out
              have r0 := (blk_cl (k := 0) hres rfl).1
              have r1 := (blk_cl (k := 1) hres rfl).1
              have r2 := (blk_cl (k := 2) hres rfl).1
              have r3 := (blk_cl (k := 3) hres rfl).1
              have hdr := (((((HDw.out.trans HDB.out).set_ (b := w.heap.size + 1) (by omega) (by omega) 0 (.int .i64 0)).set_ (b := w.heap.size + 1) (by omega) (by omega) 1 (.string x)).set_ (b := w.heap.size + 1) (by omega) (by omega) 2 (.slice A1 n1 c1)).set_ (b := w.heap.size + 1) (by omega) (by omega) 3 (.bool u))
              obtain ⟨_, _, e9, hrr⟩ := own_str (row_mono (row_set4 HRB.out HZ9.out (by decide)) (show w.heap.size ≤ W.heap.size by omega))
              injection e9 with e9 _ e9'
              subst e9
              exact bodyPost_ret (v := .agg #[.int .i64 0, .string x, .slice A1 n1 c1, .bool u]) (by simp [results, Try.results134, go_sem, r0, r1, r2, r3]) rfl ⟨0, ⟨x, ys, u⟩, A1, n1, c1, rfl, hrr, ⟨hxs, HYS.out⟩, (HD0.out.trans hdr).more (by omega), hdr.on⟩
            · have HEB : Hid ((w10.setCell ⟨b, 0, none⟩ (.int .i64 5)).heap[b]? = some (.cells #[.int .i64 5, .string x, .slice A1 n1 c1, .bool u] 162)) := Lib.hid (set_at HE10.out)
              have HDB := Lib.hid (HD10.out.set_ (b := b) (by omega) (by omega) 0 (.int .i64 5))
              have HRB := Lib.hid (row_set (o := 0) (u := .int .i64 5) HR10.out HE10.out (by decide))
              have c0 := (blk_cl (k := 0) HE10.out rfl).1
              have c0' := (blk_cl (k := 0) HE10.out rfl).2
              have e0 := (blk_cl (k := 0) HEB.out rfl).1
              have e0' := (blk_cl (k := 0) HEB.out rfl).2
              have e1 := (blk_cl (k := 1) HEB.out rfl).1
              have e1' := (blk_cl (k := 1) HEB.out rfl).2
              have e2 := (blk_cl (k := 2) HEB.out rfl).1
              have e2' := (blk_cl (k := 2) HEB.out rfl).2
              have e3 := (blk_cl (k := 3) HEB.out rfl).1
              have e3' := (blk_cl (k := 3) HEB.out rfl).2
              have HZ9 := Lib.hid (HDB.out.on.blk HZ.out (by omega))
              have z0 := (blk_cl (k := 0) HZ9.out rfl).1
              have z0' := (blk_cl (k := 0) HZ9.out rfl).2
              have z1 := (blk_cl (k := 1) HZ9.out rfl).1
              have z1' := (blk_cl (k := 1) HZ9.out rfl).2
              have z2 := (blk_cl (k := 2) HZ9.out rfl).1
              have z2' := (blk_cl (k := 2) HZ9.out rfl).2
              have z3 := (blk_cl (k := 3) HZ9.out rfl).1
              have z3' := (blk_cl (k := 3) HZ9.out rfl).2
              go_wp2_with fail
              have hres := set4 (u0 := .int .i64 5) (u1 := .string x) (u2 := .slice A1 n1 c1) (u3 := .bool u) HZ9.out
              have r0 := (blk_cl (k := 0) hres rfl).1
              have r1 := (blk_cl (k := 1) hres rfl).1
              have r2 := (blk_cl (k := 2) hres rfl).1
              have r3 := (blk_cl (k := 3) hres rfl).1
              have hdr := (((((HDw.out.trans HDB.out).set_ (b := w.heap.size + 1) (by omega) (by omega) 0 (.int .i64 5)).set_ (b := w.heap.size + 1) (by omega) (by omega) 1 (.string x)).set_ (b := w.heap.size + 1) (by omega) (by omega) 2 (.slice A1 n1 c1)).set_ (b := w.heap.size + 1) (by omega) (by omega) 3 (.bool u))
              obtain ⟨_, _, e9, hrr⟩ := own_str (row_mono (row_set4 HRB.out HZ9.out (by decide)) (show w.heap.size ≤ W.heap.size by omega))
              injection e9 with e9 _ e9'
              subst e9
              exact bodyPost_ret (v := .agg #[.int .i64 5, .string x, .slice A1 n1 c1, .bool u]) (by simp [results, Try.results134, go_sem, r0, r1, r2, r3]) rfl ⟨5, ⟨x, ys, u⟩, A1, n1, c1, rfl, hrr, ⟨hxs, HYS.out⟩, (HD0.out.trans hdr).more (by omega), hdr.on⟩
          · have hz9b : (v9 == 0) = false := by rw [beq_eq_false_iff_ne]; exact hz9
            clear hz9
            have e0 := (blk_cl (k := 0) HB9.out rfl).1
            have e0' := (blk_cl (k := 0) HB9.out rfl).2
            have e1 := (blk_cl (k := 1) HB9.out rfl).1
            have e1' := (blk_cl (k := 1) HB9.out rfl).2
            have e2 := (blk_cl (k := 2) HB9.out rfl).1
            have e2' := (blk_cl (k := 2) HB9.out rfl).2
            have e3 := (blk_cl (k := 3) HB9.out rfl).1
            have e3' := (blk_cl (k := 3) HB9.out rfl).2
            have HZ9 := Lib.hid (HD9.out.on.blk HZ.out (by omega))
            have z0 := (blk_cl (k := 0) HZ9.out rfl).1
            have z0' := (blk_cl (k := 0) HZ9.out rfl).2
            have z1 := (blk_cl (k := 1) HZ9.out rfl).1
            have z1' := (blk_cl (k := 1) HZ9.out rfl).2
            have z2 := (blk_cl (k := 2) HZ9.out rfl).1
            have z2' := (blk_cl (k := 2) HZ9.out rfl).2
            have z3 := (blk_cl (k := 3) HZ9.out rfl).1
            have z3' := (blk_cl (k := 3) HZ9.out rfl).2
            go_wp2_with fail
            have hres := set4 (u0 := .int .i64 k) (u1 := .string x) (u2 := .slice A1 n1 c1) (u3 := .bool u) HZ9.out
            have r0 := (blk_cl (k := 0) hres rfl).1
            have r1 := (blk_cl (k := 1) hres rfl).1
            have r2 := (blk_cl (k := 2) hres rfl).1
            have r3 := (blk_cl (k := 3) hres rfl).1
            have hdr := (((((HDw.out.trans HD9.out).set_ (b := w.heap.size + 1) (by omega) (by omega) 0 (.int .i64 k)).set_ (b := w.heap.size + 1) (by omega) (by omega) 1 (.string x)).set_ (b := w.heap.size + 1) (by omega) (by omega) 2 (.slice A1 n1 c1)).set_ (b := w.heap.size + 1) (by omega) (by omega) 3 (.bool u))
            obtain ⟨_, _, e9, hrr⟩ := own_str (row_mono (row_set4 HR9.out HZ9.out (by decide)) (show w.heap.size ≤ W.heap.size by omega))
            injection e9 with e9 _ e9'
            subst e9
            exact bodyPost_ret (v := .agg #[.int .i64 k, .string x, .slice A1 n1 c1, .bool u]) (by simp [results, Try.results134, go_sem, r0, r1, r2, r3]) rfl ⟨k, ⟨x, ys, u⟩, A1, n1, c1, rfl, hrr, ⟨hxs, HYS.out⟩, (HD0.out.trans hdr).more (by omega), hdr.on⟩
      · have e0 := (blk_cl (k := 0) HBO.out rfl).1
        have e0' := (blk_cl (k := 0) HBO.out rfl).2
        have e1 := (blk_cl (k := 1) HBO.out rfl).1
        have e1' := (blk_cl (k := 1) HBO.out rfl).2
        have e2 := (blk_cl (k := 2) HBO.out rfl).1
        have e2' := (blk_cl (k := 2) HBO.out rfl).2
        have e3 := (blk_cl (k := 3) HBO.out rfl).1
        have e3' := (blk_cl (k := 3) HBO.out rfl).2
        go_wp2_with fail
        refine (pick W g _ _ _ (HDR.out.set_ hbW (by omega) 2 (.slice A1 n1 c1)) (by omega) (by omega)).mono ?_
        rintro e w9 ⟨v9, rfl, a0, a1, a2, hd9, hon9⟩
        have HB9 : Hid (w9.heap[b]? = some (.cells #[.int .i64 k, .string x, .slice A1 n1 c1, .bool u] 162)) := Lib.hid (hon9.blk (set_at HBO.out) (by omega))
        have HR9 := Lib.hid (row_on (row_set (o := 2) (u := .slice A1 n1 c1) HROW.out HBO.out (by decide)) hon9 (by omega))
        have HD9 := Lib.hid hd9
        clear hd9 hon9 e0 e0' e1 e1' e2 e2' e3 e3' a0 a1 a2
        by_cases hz9 : v9 = 0
        · subst hz9
          have HDA := Lib.hid (HD9.out.alloc (.cells #[.int .i64 0, .int .i64 5] 3))
          have HEA := Lib.hid (heap_old (o := .cells #[.int .i64 0, .int .i64 5] 3) HB9.out)
          have HRA := Lib.hid (HR9.out.alloc (.cells #[.int .i64 0, .int .i64 5] 3))
          have HLA := Lib.hid (heap_new (w := w9) (o := .cells #[.int .i64 0, .int .i64 5] 3) rfl)
          have hs9 := HD9.out.on.size
          have e0 := (blk_cl (k := 0) HB9.out rfl).1
          have e0' := (blk_cl (k := 0) HB9.out rfl).2
          have e1 := (blk_cl (k := 1) HB9.out rfl).1
          have e1' := (blk_cl (k := 1) HB9.out rfl).2
          have e2 := (blk_cl (k := 2) HB9.out rfl).1
          have e2' := (blk_cl (k := 2) HB9.out rfl).2
          have e3 := (blk_cl (k := 3) HB9.out rfl).1
          have e3' := (blk_cl (k := 3) HB9.out rfl).2
          go_wp2_with fail
          refine (pick W g _ _ _ HDA.out (by omega) (by omega)).mono ?_
          rintro e w10 ⟨v10, rfl, b1, b2, b3, hd10, hon10⟩
          have HE10 := Lib.hid (hon10.blk HEA.out (by omega))
          have HL10 := Lib.hid (hon10.blk HLA.out (by omega))
          have HR10 := Lib.hid (row_on HRA.out hon10 (by omega))
          have HD10 := Lib.hid hd10; clear hd10 hon10 e0 e0' e1 e1' e2 e2' e3 e3'
          have l0 := (blk_cl (k := 0) HL10.out rfl).1
          have l1 := (blk_cl (k := 1) HL10.out rfl).1
          have hv10 : v10 = 0 ∨ v10 = 1 := by have := b2 (by omega); omega
          clear b1 b2 b3
          rcases hv10 with rfl | rfl
          · have HEB : Hid ((w10.setCell ⟨b, 0, none⟩ (.int .i64 0)).heap[b]? = some (.cells #[.int .i64 0, .string x, .slice A1 n1 c1, .bool u] 162)) := Lib.hid (set_at HE10.out)
            have HDB := Lib.hid (HD10.out.set_ (b := b) (by omega) (by omega) 0 (.int .i64 0))
            have HRB := Lib.hid (row_set (o := 0) (u := .int .i64 0) HR10.out HE10.out (by decide))
            have c0 := (blk_cl (k := 0) HE10.out rfl).1
            have c0' := (blk_cl (k := 0) HE10.out rfl).2
            have e0 := (blk_cl (k := 0) HEB.out rfl).1
            have e0' := (blk_cl (k := 0) HEB.out rfl).2
            have e1 := (blk_cl (k := 1) HEB.out rfl).1
            have e1' := (blk_cl (k := 1) HEB.out rfl).2
            have e2 := (blk_cl (k := 2) HEB.out rfl).1
            have e2' := (blk_cl (k := 2) HEB.out rfl).2
            have e3 := (blk_cl (k := 3) HEB.out rfl).1
            have e3' := (blk_cl (k := 3) HEB.out rfl).2
            have HZ9 := Lib.hid (HDB.out.on.blk HZ.out (by omega))
            have z0 := (blk_cl (k := 0) HZ9.out rfl).1
            have z0' := (blk_cl (k := 0) HZ9.out rfl).2
            have z1 := (blk_cl (k := 1) HZ9.out rfl).1
            have z1' := (blk_cl (k := 1) HZ9.out rfl).2
            have z2 := (blk_cl (k := 2) HZ9.out rfl).1
            have z2' := (blk_cl (k := 2) HZ9.out rfl).2
            have z3 := (blk_cl (k := 3) HZ9.out rfl).1
            have z3' := (blk_cl (k := 3) HZ9.out rfl).2
            go_wp2_with fail
            have hres := set4 (u0 := .int .i64 0) (u1 := .string x) (u2 := .slice A1 n1 c1) (u3 := .bool u) HZ9.out
            have r0 := (blk_cl (k := 0) hres rfl).1
            have r1 := (blk_cl (k := 1) hres rfl).1
            have r2 := (blk_cl (k := 2) hres rfl).1
            have r3 := (blk_cl (k := 3) hres rfl).1
            have hdr := (((((HDw.out.trans HDB.out).set_ (b := w.heap.size + 1) (by omega) (by omega) 0 (.int .i64 0)).set_ (b := w.heap.size + 1) (by omega) (by omega) 1 (.string x)).set_ (b := w.heap.size + 1) (by omega) (by omega) 2 (.slice A1 n1 c1)).set_ (b := w.heap.size + 1) (by omega) (by omega) 3 (.bool u))
            obtain ⟨_, _, e9, hrr⟩ := own_str (row_mono (row_set4 HRB.out HZ9.out (by decide)) (show w.heap.size ≤ W.heap.size by omega))
            injection e9 with e9 _ e9'
            subst e9
            exact bodyPost_ret (v := .agg #[.int .i64 0, .string x, .slice A1 n1 c1, .bool u]) (by simp [results, Try.results134, go_sem, r0, r1, r2, r3]) rfl ⟨0, ⟨x, ys, u⟩, A1, n1, c1, rfl, hrr, ⟨hxs, HYS.out⟩, (HD0.out.trans hdr).more (by omega), hdr.on⟩
          · have HEB : Hid ((w10.setCell ⟨b, 0, none⟩ (.int .i64 5)).heap[b]? = some (.cells #[.int .i64 5, .string x, .slice A1 n1 c1, .bool u] 162)) := Lib.hid (set_at HE10.out)
            have HDB := Lib.hid (HD10.out.set_ (b := b) (by omega) (by omega) 0 (.int .i64 5))
            have HRB := Lib.hid (row_set (o := 0) (u := .int .i64 5) HR10.out HE10.out (by decide))
            have c0 := (blk_cl (k := 0) HE10.out rfl).1
            have c0' := (blk_cl (k := 0) HE10.out rfl).2
            have e0 := (blk_cl (k := 0) HEB.out rfl).1
            have e0' := (blk_cl (k := 0) HEB.out rfl).2
            have e1 := (blk_cl (k := 1) HEB.out rfl).1
            have e1' := (blk_cl (k := 1) HEB.out rfl).2
            have e2 := (blk_cl (k := 2) HEB.out rfl).1
            have e2' := (blk_cl (k := 2) HEB.out rfl).2
            have e3 := (blk_cl (k := 3) HEB.out rfl).1
            have e3' := (blk_cl (k := 3) HEB.out rfl).2
            have HZ9 := Lib.hid (HDB.out.on.blk HZ.out (by omega))
            have z0 := (blk_cl (k := 0) HZ9.out rfl).1
            have z0' := (blk_cl (k := 0) HZ9.out rfl).2
            have z1 := (blk_cl (k := 1) HZ9.out rfl).1
            have z1' := (blk_cl (k := 1) HZ9.out rfl).2
            have z2 := (blk_cl (k := 2) HZ9.out rfl).1
            have z2' := (blk_cl (k := 2) HZ9.out rfl).2
            have z3 := (blk_cl (k := 3) HZ9.out rfl).1
            have z3' := (blk_cl (k := 3) HZ9.out rfl).2
            go_wp2_with fail
            have hres := set4 (u0 := .int .i64 5) (u1 := .string x) (u2 := .slice A1 n1 c1) (u3 := .bool u) HZ9.out
            have r0 := (blk_cl (k := 0) hres rfl).1
            have r1 := (blk_cl (k := 1) hres rfl).1
            have r2 := (blk_cl (k := 2) hres rfl).1
            have r3 := (blk_cl (k := 3) hres rfl).1
            have hdr := (((((HDw.out.trans HDB.out).set_ (b := w.heap.size + 1) (by omega) (by omega) 0 (.int .i64 5)).set_ (b := w.heap.size + 1) (by omega) (by omega) 1 (.string x)).set_ (b := w.heap.size + 1) (by omega) (by omega) 2 (.slice A1 n1 c1)).set_ (b := w.heap.size + 1) (by omega) (by omega) 3 (.bool u))
            obtain ⟨_, _, e9, hrr⟩ := own_str (row_mono (row_set4 HRB.out HZ9.out (by decide)) (show w.heap.size ≤ W.heap.size by omega))
            injection e9 with e9 _ e9'
            subst e9
            exact bodyPost_ret (v := .agg #[.int .i64 5, .string x, .slice A1 n1 c1, .bool u]) (by simp [results, Try.results134, go_sem, r0, r1, r2, r3]) rfl ⟨5, ⟨x, ys, u⟩, A1, n1, c1, rfl, hrr, ⟨hxs, HYS.out⟩, (HD0.out.trans hdr).more (by omega), hdr.on⟩
        · have hz9b : (v9 == 0) = false := by rw [beq_eq_false_iff_ne]; exact hz9
          clear hz9
          have e0 := (blk_cl (k := 0) HB9.out rfl).1
          have e0' := (blk_cl (k := 0) HB9.out rfl).2
          have e1 := (blk_cl (k := 1) HB9.out rfl).1
          have e1' := (blk_cl (k := 1) HB9.out rfl).2
          have e2 := (blk_cl (k := 2) HB9.out rfl).1
          have e2' := (blk_cl (k := 2) HB9.out rfl).2
          have e3 := (blk_cl (k := 3) HB9.out rfl).1
          have e3' := (blk_cl (k := 3) HB9.out rfl).2
          have HZ9 := Lib.hid (HD9.out.on.blk HZ.out (by omega))
          have z0 := (blk_cl (k := 0) HZ9.out rfl).1
          have z0' := (blk_cl (k := 0) HZ9.out rfl).2
          have z1 := (blk_cl (k := 1) HZ9.out rfl).1
          have z1' := (blk_cl (k := 1) HZ9.out rfl).2
          have z2 := (blk_cl (k := 2) HZ9.out rfl).1
          have z2' := (blk_cl (k := 2) HZ9.out rfl).2
          have z3 := (blk_cl (k := 3) HZ9.out rfl).1
          have z3' := (blk_cl (k := 3) HZ9.out rfl).2
          go_wp2_with fail
          have hres := set4 (u0 := .int .i64 k) (u1 := .string x) (u2 := .slice A1 n1 c1) (u3 := .bool u) HZ9.out
          have r0 := (blk_cl (k := 0) hres rfl).1
          have r1 := (blk_cl (k := 1) hres rfl).1
          have r2 := (blk_cl (k := 2) hres rfl).1
          have r3 := (blk_cl (k := 3) hres rfl).1
          have hdr := (((((HDw.out.trans HD9.out).set_ (b := w.heap.size + 1) (by omega) (by omega) 0 (.int .i64 k)).set_ (b := w.heap.size + 1) (by omega) (by omega) 1 (.string x)).set_ (b := w.heap.size + 1) (by omega) (by omega) 2 (.slice A1 n1 c1)).set_ (b := w.heap.size + 1) (by omega) (by omega) 3 (.bool u))
          obtain ⟨_, _, e9, hrr⟩ := own_str (row_mono (row_set4 HR9.out HZ9.out (by decide)) (show w.heap.size ≤ W.heap.size by omega))
          injection e9 with e9 _ e9'
          subst e9
          exact bodyPost_ret (v := .agg #[.int .i64 k, .string x, .slice A1 n1 c1, .bool u]) (by simp [results, Try.results134, go_sem, r0, r1, r2, r3]) rfl ⟨k, ⟨x, ys, u⟩, A1, n1, c1, rfl, hrr, ⟨hxs, HYS.out⟩, (HD0.out.trans hdr).more (by omega), hdr.on⟩
end Go.Proofs.Ytakeijgoonagcaa

/- A flow that is often nearly another one, drawn. -/
namespace Go.Proofs.Ytakeijgoonagcaa
open Go.RowKit

theorem SRow.hat2 {w : World} {base n c : Nat} {A : Option Addr} {ss : List Step} (h : SRow w base (.slice A n c) n ss) : RStep w base A n ss := by
  obtain ⟨A', c', e, h'⟩ := h.hat
  injection e with e _ _
  subst e
  exact h'
def OtherQ (w0 : World) (g q : Nat) (w : World) (e : Ending) (w' : World) : Prop :=
  ∃ (v : Int) (A : Option Addr) (n c : Nat) (ss : List Step), e = .returned (.agg #[.int .i64 v, .slice A n c]) ∧ RStep w' w.heap.size A n ss ∧ okSteps ss ∧ 1 ≤ n ∧ n ≤ 8 ∧ Dr 158 w0 g (q + 1000) w' ∧ On g w w'

set_option maxRecDepth 100000 in
set_option maxHeartbeats 8000000 in
theorem l92Other_any (w0 : World) (g q : Nat) (A : Option Addr) (n c : Nat) (f : Flow) (lo : Nat) (w : World) (h : Dr 158 w0 g q w) (hq : q ≤ 1099511500000) (hr : RStep w lo A n f.steps) (hok : okSteps f.steps) (hlo : g < lo) :
    Calls Try.prog 72 #[.pointer (some ⟨g, 0, none⟩), .agg #[.int .i64 f.ver, .slice A n c]] w (OtherQ w0 g q w) := by
  have HL := Lib.hid hr.1
  have hgl := h.lt
  have HD0 := Lib.hid h
  have hdw := (h.here.alloc (.cells #[.int .i64 f.ver, .slice A n c] 34)).alloc (.cells #[.int .i64 0, .slice none 0 0] 34); clear h
  have HX := Lib.hid (heap_old (o := .cells #[.int .i64 0, .slice none 0 0] 34) (heap_new (w := w) (o := .cells #[.int .i64 f.ver, .slice A n c] 34) rfl))
  have HZ := Lib.hid (heap_new (w := w.alloc (.cells #[.int .i64 f.ver, .slice A n c] 34)) (b := w.heap.size + 1) (o := .cells #[.int .i64 0, .slice none 0 0] 34) (by simp))
  have HRW := Lib.hid ((hr.alloc (.cells #[.int .i64 f.ver, .slice A n c] 34)).alloc (.cells #[.int .i64 0, .slice none 0 0] 34)); clear hr
  have hWs : ((w.alloc (.cells #[.int .i64 f.ver, .slice A n c] 34)).alloc (.cells #[.int .i64 0, .slice none 0 0] 34)).heap.size = w.heap.size + 2 := by simp
  go_enter Try.func72, Try.ntmps72
  go_upto_region 1 with fail
  generalize (w.alloc (.cells #[.int .i64 f.ver, .slice A n c] 34)).alloc (.cells #[.int .i64 0, .slice none 0 0] 34) = W at *
  have hWl : w.heap.size + 1 < W.heap.size := by omega
  clear hWs
  have HDw := Lib.hid hdw
  have HDW := Lib.hid hdw.here; clear hdw
  go_wp2_with fail
  refine (pick W g _ _ _ HDW.out (by omega) (by omega)).mono ?_
  rintro e w1 ⟨v, rfl, a0, a1, a2, hd1, hon1⟩
  have HX1 := Lib.hid (hon1.blk HX.out (by omega))
  have HR1 := Lib.hid (HRW.out.on hon1 (by omega))
  have HD1 := Lib.hid hd1
  clear hd1 hon1 a0 a1 a2
  have f0 := (blk_cl (k := 0) HX1.out rfl).1
  have f1 := (blk_cl (k := 1) HX1.out rfl).1
  by_cases hv : v = 0
  · subst hv
    go_wp2_with fail
    have HDT := HD1
    refine (l91Flow_any W g _ _ HDT.out (by omega)).mono ?_
    rintro e w5 ⟨v5, A5, n5, c5, ss5, rfl, hs5, hok5, h15, h65, hd5, hon5⟩
    have HZ5 := Lib.hid (hd5.on.blk HZ.out (by omega))
    have hsT := HDT.out.on.size
    have z0 := (blk_cl (k := 0) HZ5.out rfl).1
    have z0' := (blk_cl (k := 0) HZ5.out rfl).2
    have z1 := (blk_cl (k := 1) HZ5.out rfl).1
    have z1' := (blk_cl (k := 1) HZ5.out rfl).2
    go_wp2_with fail
    have hres := set21 (u := .slice A5 n5 c5) (set20 (u := .int .i64 v5) HZ5.out)
    have r0 := (blk_cl (k := 0) hres rfl).1
    have r1 := (blk_cl (k := 1) hres rfl).1
    have hdr := ((HDw.out.trans hd5).set_ (b := w.heap.size + 1) (by omega) (by omega) 0 (.int .i64 v5)).set_ (b := w.heap.size + 1) (by omega) (by omega) 1 (.slice A5 n5 c5)
    exact bodyPost_ret (v := .agg #[.int .i64 v5, .slice A5 n5 c5]) (by simp [results, Try.results72, go_sem, r0, r1]) rfl ⟨v5, A5, n5, c5, ss5, rfl, ((hs5.setLow (by omega)).setLow (by omega)).lower (by omega), hok5, h15, by omega, (HD0.out.trans hdr).more (by omega), hdr.on⟩
  have hvb : (v == 0) = false := by rw [beq_eq_false_iff_ne]; exact hv
  clear hv
  cases hf : flowB f
  · go_wp2_with (first | (go_at_call 60; refine (flowS_any _ _ _ f _ _ HR1.out hok).mono ?_; rintro e w2 ⟨rfl, hb2⟩; rw [hf]; have HDT := Lib.hid (HD1.out.below hb2)) | fail "no arm")
    refine (l91Flow_any W g _ _ HDT.out (by omega)).mono ?_
    rintro e w5 ⟨v5, A5, n5, c5, ss5, rfl, hs5, hok5, h15, h65, hd5, hon5⟩
    have HZ5 := Lib.hid (hd5.on.blk HZ.out (by omega))
    have hsT := HDT.out.on.size
    have z0 := (blk_cl (k := 0) HZ5.out rfl).1
    have z0' := (blk_cl (k := 0) HZ5.out rfl).2
    have z1 := (blk_cl (k := 1) HZ5.out rfl).1
    have z1' := (blk_cl (k := 1) HZ5.out rfl).2
    go_wp2_with fail
    have hres := set21 (u := .slice A5 n5 c5) (set20 (u := .int .i64 v5) HZ5.out)
    have r0 := (blk_cl (k := 0) hres rfl).1
    have r1 := (blk_cl (k := 1) hres rfl).1
    have hdr := ((HDw.out.trans hd5).set_ (b := w.heap.size + 1) (by omega) (by omega) 0 (.int .i64 v5)).set_ (b := w.heap.size + 1) (by omega) (by omega) 1 (.slice A5 n5 c5)
    exact bodyPost_ret (v := .agg #[.int .i64 v5, .slice A5 n5 c5]) (by simp [results, Try.results72, go_sem, r0, r1]) rfl ⟨v5, A5, n5, c5, ss5, rfl, ((hs5.setLow (by omega)).setLow (by omega)).lower (by omega), hok5, h15, by omega, (HD0.out.trans hdr).more (by omega), hdr.on⟩
  · go_wp2_with (first | (go_at_call 60; refine (flowS_any _ _ _ f _ _ HR1.out hok).mono ?_; rintro e w2 ⟨rfl, hb2⟩; rw [hf]; clear f0 f1; have HX2 := Lib.hid ((hb2.block _ (heap_lt HX1.out)).trans HX1.out); have f0 := (blk_cl (k := 0) HX2.out rfl).1; have f1 := (blk_cl (k := 1) HX2.out rfl).1) | fail "no arm")
    have HD2 := Lib.hid (HD1.out.below hb2)
    have HR2 := Lib.hid (HR1.out.below hb2)
    have hs2 := HD2.out.on.size
    refine (l2Copy_any _ _ _ f _ _ HR2.out hok).mono ?_
    rintro e w3 ⟨B, d, rfl, hrow, hb3⟩
    have HP3 := Lib.hid (heap_new (w := w3) (o := .cells #[.int .i64 f.ver, .slice B n d] 34) rfl)
    have HD3 := Lib.hid ((HD2.out.below hb3).alloc (.cells #[.int .i64 f.ver, .slice B n d] 34))
    have HO3 := Lib.hid ((hrow.mono hs2).below ((Below.refl _ _).alloc (Nat.le_refl _) (.cells #[.int .i64 f.ver, .slice B n d] 34)))
    have hs3 : W.heap.size ≤ w3.heap.size := Nat.le_trans hs2 hb3.size
    clear hrow hb3 hb2 f0 f1
    go_upto_region 4 with fail
    generalize w3.alloc (.cells #[.int .i64 f.ver, .slice B n d] 34) = W3 at *
    generalize w3.heap.size = p at *
    go_wp2_with fail
    refine (pick W g _ _ _ HD3.out (by omega) (by omega)).mono ?_
    rintro e w4 ⟨v4, rfl, a0, a1, _, hd4, hon4⟩
    obtain ⟨n3, rfl⟩ := Int.eq_ofNat_of_zero_le a0
    have hn3 : n3 ≤ 2 := by have := a1 (by omega); omega
    have HP4 := Lib.hid (hon4.blk HP3.out (by omega))
    have HO4 := Lib.hid (HO3.out.on hon4 (by omega))
    have HD4 := Lib.hid hd4
    clear hd4 hon4 a0 a1
    go_wp2_with fail
    go_loopw [7] (fun i wr => ∃ (j : Nat) (f' : Flow) (A' : Option Addr) (m d' : Nat), j ≤ n3 ∧ i = .int .i64 (j : Int) ∧ wr.heap[p]? = some (.cells #[.int .i64 f'.ver, .slice A' m d'] 34) ∧ SRow wr W.heap.size (.slice A' m d') m f'.steps ∧ flowB f' = true ∧ Dr 158 W g (q + 10 + 210 * j) wr) (fun i _ => n3 - (intOf i).toNat)
    case atStart => exact ⟨0, f, B, n, d, Nat.zero_le _, rfl, HP4.out, HO4.out, hf, HD4.out.more (by omega)⟩
    case round =>
      obtain ⟨wo, rfl⟩ : ∃ wo : World, wo = wr := ⟨_, rfl⟩
      obtain ⟨j, f', A', m, d', hj, rfl, hpb, hrow, hf', hdr⟩ := hrel
      have HPB := Lib.hid hpb; clear hpb
      have HROW := Lib.hid hrow; clear hrow
      have HDR := Lib.hid hdr; clear hdr
      have hpl := heap_lt HPB.out
      have hso := HDR.out.on.size
      by_cases hlt : j < n3
      · have hlm : f'.steps.length = m := HROW.out.len
        have hm1 : 1 ≤ m := by rw [← hlm]; exact (flowB_iff.1 hf').2.2.1.1
        have hm8 : m ≤ 8 := by rw [← hlm]; exact (flowB_iff.1 hf').2.2.1.2
        have HLM := Lib.hid hlm; clear hlm
        have hok' := okSteps_of hf'
        have hneo : wo.heap.size ≠ g := by omega
        have hgo : g < wo.heap.size := by omega
        have HRS := Lib.hid (fun (cur : World) (h : On g wo cur) => (HROW.out.on h (show g < W.heap.size by omega)).hat2)
        have HCH := Lib.hid (fun (cur : World) (h : Dr 158 wo g (q + 10 + 210 * j) cur) => (l92Change_any wo g (q + 10 + 210 * j) A' m d' f' W.heap.size cur h (by omega) (HRS.out cur h.on) hok' hm1 hm8 (by omega)).mono (R' := fun e w' => ∃ (k : Int) (s : Step) (G : Option Addr) (ng cg : Nat), e = .returned (.agg #[.int .i64 k, .string s.name, .slice G ng cg, .bool s.undo]) ∧ RStr w' wo.heap.size G ng s.after ∧ okStep s ∧ Dr 158 wo g (q + 10 + 210 * j + 200) w' ∧ On g cur w') (by
          rintro e w' ⟨k, s, G, ng, cg, h1, h2, h3, h4, h5⟩
          exact ⟨k, s, G, ng, cg, h1, h2.lower h.on.size, h3, h4, h5⟩))
        have HFC := Lib.hid (fun (cur : World) (k : Int) (s : Step) (G : Option Addr) (ng cg : Nat) (h : Dr 158 wo g (q + 10 + 210 * j + 200) cur) (hs : RStr cur wo.heap.size G ng s.after) (ho : okStep s) => (fcS_any A' G m d' ng cg f' k s _ _ cur (HRS.out cur h.on) hok' hs ho).mono (R' := fun e w' => ∃ B m d, e = .returned (.tuple #[.agg #[.int .i64 (chgF f' k s).ver, .slice B m d], .bool (chgB f' k s)]) ∧ (chgB f' k s = true → SRow w' W.heap.size (.slice B m d) m (chgF f' k s).steps) ∧ Dr 158 wo g (q + 10 + 210 * j + 200) w' ∧ Below cur.heap.size cur w') (by
          rintro e w' ⟨B, m, d, h1, h2, h3⟩
          exact ⟨B, m, d, h1, fun hc => (h2 hc).mono (Nat.le_trans hso h.on.size), h.below h3, h3⟩))
        have HSB : Hid (∀ w', On g wo w' → w'.cell? ⟨p, 0, none⟩ = some (.int .i64 f'.ver) ∧ w'.cell? ⟨p, 1, none⟩ = some (.slice A' m d')) := Lib.hid (fun w' h => ⟨(blk_cl (k := 0) (h.blk HPB.out (by omega)) rfl).1, (blk_cl (k := 1) (h.blk HPB.out (by omega)) rfl).1⟩)
        have hdo : Dr 158 wo g (q + 10 + 210 * j) wo := HDR.out.here
        go_upto_region 8 with fail
        go_cut [8, 9] (fun s8 s9 wx => ∃ (bX : Nat) (fx : Flow) (BX : Option Addr) (mx dx : Nat) (okx : Bool), s8 = .pointer (some ⟨bX, 0, none⟩) ∧ s9 = .bool okx ∧ wx.heap[bX]? = some (.cells #[.int .i64 fx.ver, .slice BX mx dx] 34) ∧ wo.heap.size ≤ bX ∧ (okx = true → SRow wx W.heap.size (.slice BX mx dx) mx fx.steps ∧ flowB fx = true) ∧ Dr 158 wo g (q + 10 + 210 * j + 200) wx)
        case first =>
          go_region_held3 (fun w' => w'.cell? ⟨p, 0, none⟩ = some (.int .i64 f'.ver) ∧ w'.cell? ⟨p, 1, none⟩ = some (.slice A' m d'))
            ((refine HSB.out _ ?_; (repeat (first | with_reducible exact hd6.on | with_reducible exact hd5.on | with_reducible exact On.refl _ _ | refine On.setNew ?_ (by first | exact Nat.le_refl _ | exact hs5 | omega) _ _ | refine On.drew ?_ | refine On.alloc ?_ _ | fail "x")); done))
            (first
              | (go_at_call 134; refine (HCH.out _ (by repeat (first | with_reducible exact hdo | apply Dr.drew | apply Dr.alloc))).mono ?_; rintro e w5 ⟨k, s, G, ng, cg, rfl, hgr, hos, hd5, hon5⟩; have hs5 := hd5.on.size; (first | (have hz5 := hon5.blk (b := wo.heap.size) (x := .cells #[.int .i64 0, .slice none 0 0] 34) (heap_new rfl) hneo) | skip))
              | (go_at_call 133; refine (HFC.out _ _ _ _ _ _ (by repeat (first | with_reducible exact hd5 | apply Dr.drew | apply Dr.alloc)) (by first | with_reducible exact hgr | exact hgr.alloc _) hos).mono ?_; rintro e w6 ⟨B6, m6, d6, rfl, hrow6, hd6, hb6⟩; (first | (have hz6 := (hb6.block _ (heap_lt hz5)).trans hz5; obtain ⟨f0, g0⟩ := blk_cl (k := 0) hz6 rfl; obtain ⟨f1, g1⟩ := blk_cl (k := 1) hz6 rfl) | (have hz6 := (hb6.block w5.heap.size (by simp)).trans (heap_new (w := w5) (o := .cells #[.int .i64 0, .slice none 0 0] 34) rfl); obtain ⟨f0, g0⟩ := blk_cl (k := 0) hz6 rfl; obtain ⟨f1, g1⟩ := blk_cl (k := 1) hz6 rfl) | skip))
              | fail "no arm")
          all_goals
            go_wp2_with fail
            go_meet
            first
              | with_reducible exact ⟨_, chgF f' k s, _, _, _, chgB f' k s, rfl, rfl, heap_new rfl, hd6.on.size, fun h => ⟨(hrow6 h).below ((Below.refl _ _).alloc (Nat.le_refl _) _), chgF_flow h⟩, hd6.alloc _⟩
              | with_reducible exact ⟨_, chgF f' k s, _, _, _, chgB f' k s, rfl, rfl, set21 (set20 hz6), Nat.le_refl _, fun h => ⟨((hrow6 h).set (o := 0) (u := .int .i64 (chgF f' k s).ver) hz6 (by decide) (by decide)).set (o := 1) (u := .slice B6 m6 d6) (set20 hz6) (by decide) (by decide), chgF_flow h⟩, (hd6.set_ (Nat.le_refl _) hgo _ _).set_ (Nat.le_refl _) hgo _ _⟩
              | with_reducible exact ⟨_, chgF f' k s, _, _, _, chgB f' k s, rfl, rfl, set21 (set20 hz6), hs5, fun h => ⟨((hrow6 h).set (o := 0) (u := .int .i64 (chgF f' k s).ver) hz6 (by decide) (by decide)).set (o := 1) (u := .slice B6 m6 d6) (set20 hz6) (by decide) (by decide), chgF_flow h⟩, (hd6.set_ hs5 (Nat.lt_of_lt_of_le hgo hs5) _ _).set_ hs5 (Nat.lt_of_lt_of_le hgo hs5) _ _⟩
              | fail "no meet"
        case rest =>
          obtain ⟨bX, fx, BX, mx, dx, okx, rfl, rfl, hbX, hbl, hokx, hdc⟩ := hcut
          have HBX := Lib.hid hbX; clear hbX
          have HOX := Lib.hid hokx; clear hokx
          have HDC := Lib.hid hdc; clear hdc
          have HPC := Lib.hid (HDC.out.on.blk HPB.out (by omega))
          have HRC := Lib.hid (HROW.out.on HDC.out.on (by omega))
          cases okx
          · go_wp2_with fail
            go_roundw
            case rel => exact ⟨j + 1, f', A', m, d', by omega, by go_num, HPC.out, HRC.out, hf', (HDR.out.trans HDC.out).more (by omega)⟩
            case measure => simp [intOf]; omega
          · obtain ⟨hrx, hfx⟩ := HOX.out rfl
            have HRX := Lib.hid hrx; clear hrx
            have b0 := (blk_cl (k := 0) HBX.out rfl).1
            have b1 := (blk_cl (k := 1) HBX.out rfl).1
            have p0 := (blk_cl (k := 0) HPC.out rfl).1
            have p0' := (blk_cl (k := 0) HPC.out rfl).2
            have p1 := (blk_cl (k := 1) HPC.out rfl).1
            have p1' := (blk_cl (k := 1) HPC.out rfl).2
            go_wp2_with fail
            go_roundw
            case rel => exact ⟨j + 1, fx, BX, mx, dx, by omega, by go_num, set21 (set20 HPC.out), (HRX.out.set (o := 0) (u := .int .i64 fx.ver) HPC.out (by decide) (by decide)).set (o := 1) (u := .slice BX mx dx) (set20 HPC.out) (by decide) (by decide), hfx, (((HDR.out.trans HDC.out).set_ (b := p) (by omega) (by omega) 0 (.int .i64 fx.ver)).set_ (b := p) (by omega) (by omega) 1 (.slice BX mx dx)).more (by omega)⟩
            case measure => simp [intOf]; omega
      · have hlm : f'.steps.length = m := HROW.out.len
        have hm1 : 1 ≤ m := by rw [← hlm]; exact (flowB_iff.1 hf').2.2.1.1
        have hm8 : m ≤ 8 := by rw [← hlm]; exact (flowB_iff.1 hf').2.2.1.2
        clear hlm
        have HZ5 := Lib.hid (HDR.out.on.blk HZ.out (by omega))
        have p0 := (blk_cl (k := 0) HPB.out rfl).1
        have p0' := (blk_cl (k := 0) HPB.out rfl).2
        have p1 := (blk_cl (k := 1) HPB.out rfl).1
        have p1' := (blk_cl (k := 1) HPB.out rfl).2
        have z0 := (blk_cl (k := 0) HZ5.out rfl).1
        have z0' := (blk_cl (k := 0) HZ5.out rfl).2
        have z1 := (blk_cl (k := 1) HZ5.out rfl).1
        have z1' := (blk_cl (k := 1) HZ5.out rfl).2
        go_wp2_with fail
        have hres := set21 (u := .slice A' m d') (set20 (u := .int .i64 f'.ver) HZ5.out)
        have r0 := (blk_cl (k := 0) hres rfl).1
        have r1 := (blk_cl (k := 1) hres rfl).1
        have hdr := ((HDw.out.trans HDR.out).set_ (b := w.heap.size + 1) (by omega) (by omega) 0 (.int .i64 f'.ver)).set_ (b := w.heap.size + 1) (by omega) (by omega) 1 (.slice A' m d')
        exact bodyPost_ret (v := .agg #[.int .i64 f'.ver, .slice A' m d']) (by simp [results, Try.results72, go_sem, r0, r1]) rfl ⟨f'.ver, A', m, d', f'.steps, rfl, ((HROW.out.hat2.setLow (by omega)).setLow (by omega)).lower (by omega), okSteps_of hf', hm1, hm8, (HD0.out.trans hdr).more (by omega), hdr.on⟩
end Go.Proofs.Ytakeijgoonagcaa

/- Drawing two flows and a pool out of a code. -/
namespace Go.Proofs.Ytakeijgoonagcaa
open Go.RowKit

def PoolMD (w : World) (e : Ending) (w' : World) : Prop :=
  ∃ (f g : Flow) (A : Option Addr) (n c : Nat) (G : Option Addr) (ng cg : Nat) (B : Option Addr) (m d : Nat) (cs : List Case), e = .returned (.tuple #[.agg #[.int .i64 f.ver, .slice A n c], .agg #[.int .i64 g.ver, .slice G ng cg], .slice B m d]) ∧
    RStep w' w.heap.size A n f.steps ∧ okSteps f.steps ∧ RStep w' w.heap.size G ng g.steps ∧ okSteps g.steps ∧ n ≤ 6 ∧ ng ≤ 8 ∧ RCase w' w.heap.size B m cs ∧ okCases cs ∧ m ≤ d ∧ m ≤ 9 ∧ Below w.heap.size w w'

set_option maxRecDepth 100000 in
set_option maxHeartbeats 4000000 in
theorem drawPoolMove_any (A : Option Addr) (n c : Nat) (w : World) (hr : RByte w A n) (hc : n ≤ c) (hn : n ≤ 1048576) : Calls Try.prog 28 #[.slice A n c] w (PoolMD w) := by
  have HR := Lib.hid ((hr.alloc (.cells #[.int .i64 0, .slice none 0 0] 34)).alloc (.cells #[.int .i64 0, .slice none 0 0] 34)); clear hr
  go_enter Try.func28, Try.ntmps28
  go_wp2_with fail
  refine (open_any _ _ _ _ HR.out hc hn).mono ?_
  rintro e w1 ⟨rfl, hrd, hb1⟩
  have hsz : ((w.alloc (.cells #[.int .i64 0, .slice none 0 0] 34)).alloc (.cells #[.int .i64 0, .slice none 0 0] 34)).heap.size = w.heap.size + 2 := by simp
  rw [hsz] at hrd hb1 ⊢
  obtain ⟨g, hg⟩ : ∃ g, g = w.heap.size + 2 := ⟨_, rfl⟩
  rw [← hg] at hrd hb1 ⊢
  have hd0 : Dr 158 w1 g 0 w1 := ⟨On.refl _ _, 0, Nat.le_refl _, hrd⟩
  have hl1 := hrd.lt
  have HRF := Lib.hid ((hb1.block w.heap.size (by omega)).trans (heap_old (o := .cells #[.int .i64 0, .slice none 0 0] 34) (heap_new (w := w) (o := .cells #[.int .i64 0, .slice none 0 0] 34) rfl)))
  have HRG := Lib.hid ((hb1.block (w.heap.size + 1) (by omega)).trans (heap_new (w := w.alloc (.cells #[.int .i64 0, .slice none 0 0] 34)) (b := w.heap.size + 1) (o := .cells #[.int .i64 0, .slice none 0 0] 34) (by simp)))
  have HB1 := Lib.hid ((((Below.refl w.heap.size w).alloc (Nat.le_refl _) (.cells #[.int .i64 0, .slice none 0 0] 34)).alloc (by simp) (.cells #[.int .i64 0, .slice none 0 0] 34)).trans (hb1.mono (by omega)))
  have hg0 : w.heap.size + 1 < g := by omega
  have hg1 : g ≤ w.heap.size + 2 := by omega
  clear hrd hb1 hsz hg
  go_wp2_with fail
  refine (l92Pool_any w1 _ _ _ hd0 (by omega)).mono ?_
  rintro e w2 ⟨v, A2, n2, c2, ss, B2, m2, d2, cs, rfl, hs, hok, h1, h6, hcs, hokc, hmd, hm9, hd, hon⟩
  have HS := Lib.hid (hs.alloc (.cells #[.int .i64 v, .slice A2 n2 c2] 34)); clear hs
  have HC := Lib.hid (hcs.alloc (.cells #[.int .i64 v, .slice A2 n2 c2] 34)); clear hcs
  have HD2 := Lib.hid (hd.alloc (.cells #[.int .i64 v, .slice A2 n2 c2] 34)); clear hd
  have HF2 := Lib.hid (heap_old (o := .cells #[.int .i64 v, .slice A2 n2 c2] 34) (hon.blk HRF.out (by omega)))
  have HG2 := Lib.hid (heap_old (o := .cells #[.int .i64 v, .slice A2 n2 c2] 34) (hon.blk HRG.out (by omega)))
  have HX2 := Lib.hid (heap_new (w := w2) (o := .cells #[.int .i64 v, .slice A2 n2 c2] 34) rfl)
  have hs2 := hon.size
  have HON2 := Lib.hid (hon.alloc (.cells #[.int .i64 v, .slice A2 n2 c2] 34))
  have HOK := Lib.hid hok; clear hok
  have HOC := Lib.hid hokc; clear hokc
  clear hon hd0
  have hw2 : w2.heap.size < (w2.alloc (.cells #[.int .i64 v, .slice A2 n2 c2] 34)).heap.size := by simp
  go_upto_region 3 with fail
  generalize w2.alloc (.cells #[.int .i64 v, .slice A2 n2 c2] 34) = w6 at *
  have HSB : Hid (∀ w', On g w6 w' → w'.cell? ⟨w2.heap.size, 0, none⟩ = some (.int .i64 v) ∧ w'.cell? ⟨w2.heap.size, 1, none⟩ = some (.slice A2 n2 c2)) := Lib.hid (fun w' h => ⟨(blk_cl (k := 0) (h.blk HX2.out (by omega)) rfl).1, (blk_cl (k := 1) (h.blk HX2.out (by omega)) rfl).1⟩)
  have HKF : Hid (∀ w' q o u, q ≠ w2.heap.size → (fun w' : World => w'.cell? ⟨w2.heap.size, 0, none⟩ = some (.int .i64 v) ∧ w'.cell? ⟨w2.heap.size, 1, none⟩ = some (.slice A2 n2 c2)) w' → (fun w' : World => w'.cell? ⟨w2.heap.size, 0, none⟩ = some (.int .i64 v) ∧ w'.cell? ⟨w2.heap.size, 1, none⟩ = some (.slice A2 n2 c2)) (w'.setCell ⟨q, o, none⟩ u)) := Lib.hid (fun w' q o u hq h => ⟨(cellFar (Ne.symm hq)).trans h.1, (cellFar (Ne.symm hq)).trans h.2⟩)
  go_region_held3 (fun w' => w'.cell? ⟨w2.heap.size, 0, none⟩ = some (.int .i64 v) ∧ w'.cell? ⟨w2.heap.size, 1, none⟩ = some (.slice A2 n2 c2))
    (((repeat (first | exact HSB.out _ (On.refl _ _).drew | exact HSB.out _ hon4 | refine HKF.out _ _ _ _ (by omega) ?_ | fail "x")); done))
    (first
      | (go_at_call 72; refine (l92Other_any w1 g _ A2 n2 c2 ⟨v, ss⟩ w1.heap.size _ HD2.out.drew (by omega) (HS.out.on (On.refl _ _).drew (by omega)) HOK.out (by omega)).mono ?_; rintro e w3 ⟨v3, A3, n3, c3, ss3, rfl, hs3, hok3, h31, h38, hd3, hon3⟩; have hon4 : On g w6 w3 := (On.refl g w6).drew.trans hon3; have HF3 := Lib.hid (hon4.blk HF2.out (by omega)); have HG3 := Lib.hid (hon4.blk HG2.out (by omega)); have z0 := (blk_cl (k := 0) HF3.out rfl).1; have z0' := (blk_cl (k := 0) HF3.out rfl).2; have z1 := (blk_cl (k := 1) HF3.out rfl).1; have z1' := (blk_cl (k := 1) HF3.out rfl).2; have y0 := (blk_cl (k := 0) HG3.out rfl).1; have y0' := (blk_cl (k := 0) HG3.out rfl).2; have y1 := (blk_cl (k := 1) HG3.out rfl).1; have y1' := (blk_cl (k := 1) HG3.out rfl).2)
      | fail "no arm")
  go_wp2_with fail
  have hF := set_ne (b := w.heap.size + 1) (o := 1) (u := .slice A3 n3 c3) (set_ne (b := w.heap.size + 1) (o := 0) (u := .int .i64 v3) (set21 (u := .slice A2 n2 c2) (set20 (u := .int .i64 v) HF3.out)) (by omega)) (by omega)
  have hG := set21 (u := .slice A3 n3 c3) (set20 (u := .int .i64 v3) (set_ne (b := w.heap.size) (o := 1) (u := .slice A2 n2 c2) (set_ne (b := w.heap.size) (o := 0) (u := .int .i64 v) HG3.out (by omega)) (by omega)))
  have e0 := (blk_cl (k := 0) hF rfl).1
  have e1 := (blk_cl (k := 1) hF rfl).1
  have g0 := (blk_cl (k := 0) hG rfl).1
  have g1 := (blk_cl (k := 1) hG rfl).1
  have hS3 := HS.out.on hon4 (by omega)
  have hC3 := HC.out.on hon4 (by omega)
  have hB3 := HB1.out.trans (((HON2.out.trans hon4).low (by omega)).mono (by omega))
  have hbl := (((hB3.setCell (p := ⟨w.heap.size, 0, none⟩) (Nat.le_refl _) (.int .i64 v)).setCell (p := ⟨w.heap.size, 1, none⟩) (Nat.le_refl _) (.slice A2 n2 c2)).setCell (p := ⟨w.heap.size + 1, 0, none⟩) (by show w.heap.size ≤ w.heap.size + 1; omega) (.int .i64 v3)).setCell (p := ⟨w.heap.size + 1, 1, none⟩) (by show w.heap.size ≤ w.heap.size + 1; omega) (.slice A3 n3 c3)
  have h36 : w1.heap.size ≤ w6.drew.heap.size := by have : w6.drew.heap.size = w6.heap.size := rfl; omega
  exact bodyPost_ret (v := .tuple #[.agg #[.int .i64 v, .slice A2 n2 c2], .agg #[.int .i64 v3, .slice A3 n3 c3], .slice B2 m2 d2]) (by simp [results, Try.results28, go_sem, e0, e1, g0, g1]) rfl
    ⟨⟨v, ss⟩, ⟨v3, ss3⟩, _, _, _, _, _, _, _, _, _, cs, rfl, ((((hS3.setLow (by omega)).setLow (by omega)).setLow (by omega)).setLow (by omega)).lower (by omega), HOK.out, ((((hs3.setLow (by omega)).setLow (by omega)).setLow (by omega)).setLow (by omega)).lower (by omega), hok3, h6, h38, ((((hC3.setLow (by omega)).setLow (by omega)).setLow (by omega)).setLow (by omega)).lower (by omega), HOC.out, hmd, hm9, hbl⟩
end Go.Proofs.Ytakeijgoonagcaa
