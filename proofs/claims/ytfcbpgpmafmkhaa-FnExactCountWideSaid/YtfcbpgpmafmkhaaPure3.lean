/- Levels of a flow: depth and width. No program in sight. -/
import Derived.Test.YtfcbpgpmafmkhaaPure2
namespace Go.Proofs.Ytfcbpgpmafmkhaa
open Go.RowKit

/-- What is done after k levels. -/
def lvDone (ss : List Step) : Nat → List Str
  | 0 => []
  | k + 1 => lvDone ss k ++ rdyL ss (lvDone ss k)
/-- How many steps level k has. -/
def lvLen (ss : List Step) (k : Nat) : Nat := (rdyL ss (lvDone ss k)).length
theorem lvDone_len (ss : List Step) (k : Nat) : (lvDone ss (k + 1)).length = (lvDone ss k).length + lvLen ss k := by
  simp [lvDone, lvLen]

theorem Done.all {ss : List Step} {done : List Str} (hn : (namesOf ss).Nodup) (h : Done ss done) : Done ss (done ++ rdyL ss done) := by
  refine ⟨?_, ?_⟩
  · rw [List.nodup_append]
    refine ⟨h.nodup, rdyL_nodup hn, ?_⟩
    intro a ha b hb e
    subst e
    exact (rdyL_new hb).1 ha
  · intro x hx
    rcases List.mem_append.1 hx with hx | hx
    · exact h.sub x hx
    · exact (rdyL_new hx).2
theorem lvDone_done {ss : List Step} (hn : (namesOf ss).Nodup) : ∀ k, Done ss (lvDone ss k)
  | 0 => Done.nil
  | k + 1 => (lvDone_done hn k).all hn
theorem lvLen_pos {ss : List Step} {k : Nat} (hc : (ordL ss).length = ss.length) (hlt : (lvDone ss k).length < ss.length) : 1 ≤ lvLen ss k := by
  have := ready_some hc hlt
  unfold lvLen
  cases h : rdyL ss (lvDone ss k) with
  | nil => exact absurd h this
  | cons x r => simp

/-- The levels end behind d of them. -/
structure Lv (ss : List Step) (d : Nat) : Prop where
  stop : ss.length ≤ (lvDone ss d).length
  go : ∀ j, j < d → (lvDone ss j).length < ss.length

def depthFrom (ss : List Step) : Nat → Nat → Nat
  | 0, k => k
  | f + 1, k => if (lvDone ss k).length < ss.length then depthFrom ss f (k + 1) else k
def depthL (ss : List Step) : Nat := depthFrom ss ss.length 0
theorem depthFrom_at {ss : List Step} {d : Nat} (h : Lv ss d) : ∀ f k, k ≤ d → d ≤ k + f → depthFrom ss f k = d
  | 0, k, h1, h2 => by show k = d; omega
  | f + 1, k, h1, h2 => by
    show (if (lvDone ss k).length < ss.length then depthFrom ss f (k + 1) else k) = d
    by_cases hk : k = d
    · subst hk
      rw [if_neg (by have := h.stop; omega)]
    · rw [if_pos (h.go k (by omega))]
      exact depthFrom_at h f (k + 1) (by omega) (by omega)

theorem lv_grow {ss : List Step} (hc : (ordL ss).length = ss.length) {d : Nat} (h : ∀ j, j < d → (lvDone ss j).length < ss.length) : ∀ k, k ≤ d → k ≤ (lvDone ss k).length
  | 0, _ => Nat.zero_le _
  | k + 1, hk => by
    have h1 := lv_grow hc h k (by omega)
    have h2 := lvLen_pos hc (h k (by omega))
    rw [lvDone_len]; omega
theorem Lv.le {ss : List Step} {d : Nat} (hc : (ordL ss).length = ss.length) (h : ∀ j, j < d → (lvDone ss j).length < ss.length) : d ≤ ss.length := by
  rcases Nat.eq_zero_or_pos d with h0 | h0
  · omega
  · have h1 := lv_grow hc h (d - 1) (by omega)
    have h2 := h (d - 1) (by omega)
    omega
theorem depthL_at {ss : List Step} {d : Nat} (hc : (ordL ss).length = ss.length) (h : Lv ss d) : depthL ss = d :=
  depthFrom_at h ss.length 0 (Nat.zero_le _) (by have := Lv.le hc h.go; omega)
theorem Lv.full {ss : List Step} {d : Nat} (hn : (namesOf ss).Nodup) (h : Lv ss d) : (lvDone ss d).length = ss.length := by
  have h1 := (lvDone_done hn d).len
  have h2 := h.stop
  omega
theorem Lv.pos {ss : List Step} {d : Nat} (h : Lv ss d) (h1 : 1 ≤ ss.length) : 1 ≤ d := by
  rcases Nat.eq_zero_or_pos d with h0 | h0
  · subst h0
    have := h.stop
    simp [lvDone] at this
    rw [this] at h1; simp at h1
  · exact h0

/-- The size of the largest of the first k levels. -/
def wideTo (ss : List Step) : Nat → Nat
  | 0 => 0
  | k + 1 => max (wideTo ss k) (lvLen ss k)
def wideL (ss : List Step) : Nat := wideTo ss (depthL ss)

theorem wideTo_ge {ss : List Step} : ∀ k j, j < k → lvLen ss j ≤ wideTo ss k
  | 0, j, h => by omega
  | k + 1, j, h => by
    show lvLen ss j ≤ max (wideTo ss k) (lvLen ss k)
    by_cases hj : j = k
    · subst hj; omega
    · have := wideTo_ge (ss := ss) k j (by omega); omega
theorem wide_mul {ss : List Step} : ∀ k, (lvDone ss k).length ≤ k * wideTo ss k
  | 0 => by simp [lvDone]
  | k + 1 => by
    have h1 := wide_mul (ss := ss) k
    rw [lvDone_len, Nat.succ_mul]
    have h2 : wideTo ss (k + 1) = max (wideTo ss k) (lvLen ss k) := rfl
    have h3 : k * wideTo ss k ≤ k * wideTo ss (k + 1) := Nat.mul_le_mul_left _ (by omega)
    omega
theorem wide_sum {ss : List Step} (hc : (ordL ss).length = ss.length) {d : Nat} (h : ∀ j, j < d → (lvDone ss j).length < ss.length) : ∀ k, k ≤ d → 1 ≤ k → wideTo ss k + k ≤ (lvDone ss k).length + 1
  | 0, _, h1 => by omega
  | k + 1, hk, _ => by
    have h2 : wideTo ss (k + 1) = max (wideTo ss k) (lvLen ss k) := rfl
    have h3 := lvLen_pos hc (h k (by omega))
    have h4 := lv_grow hc h k (by omega)
    rw [lvDone_len]
    by_cases h0 : k = 0
    · subst h0
      have : wideTo ss 0 = 0 := rfl
      omega
    · have h5 := wide_sum hc h k (by omega) (by omega)
      omega

/-- What a valid flow's levels say. -/
theorem lv_laws {ss : List Step} {d : Nat} (hn : (namesOf ss).Nodup) (hc : (ordL ss).length = ss.length) (h1 : 1 ≤ ss.length) (h : Lv ss d) :
    1 ≤ d ∧ d ≤ ss.length ∧ ss.length ≤ d * wideTo ss d ∧ wideTo ss d + d ≤ ss.length + 1 ∧ lvLen ss 0 ≤ wideTo ss d := by
  have hd := h.pos h1
  refine ⟨hd, Lv.le hc h.go, ?_, ?_, wideTo_ge d 0 (by omega)⟩
  · have := wide_mul (ss := ss) d
    rw [h.full hn] at this; exact this
  · have := wide_sum hc h.go d (Nat.le_refl _) hd
    rw [h.full hn] at this; exact this
theorem lv_one {ss : List Step} {d : Nat} (hn : (namesOf ss).Nodup) (hc : (ordL ss).length = ss.length) (h1 : 1 ≤ ss.length) (h : Lv ss d) :
    (wideTo ss d = ss.length ↔ d = 1) ∧ (d = 1 ↔ lvLen ss 0 = ss.length) := by
  obtain ⟨a1, a2, a3, a4, a5⟩ := lv_laws hn hc h1 h
  have e1 : (lvDone ss 1).length = lvLen ss 0 := by rw [lvDone_len]; simp [lvDone]
  have e2 : wideTo ss 1 = lvLen ss 0 := by show max 0 (lvLen ss 0) = _; omega
  have k1 : d = 1 → lvLen ss 0 = ss.length := by rintro rfl; rw [← e1]; exact h.full hn
  have k2 : lvLen ss 0 = ss.length → d = 1 := by
    intro hl
    by_cases hd : d = 1
    · exact hd
    · have := h.go 1 (by omega)
      omega
  refine ⟨⟨fun hw => by omega, fun hd => ?_⟩, k1, k2⟩
  have := k1 hd
  subst hd
  omega

/-- All steps come after nothing. -/
theorem lv_after {ss : List Step} : lvLen ss 0 = ss.length ↔ ∀ j, j < ss.length → (nth ss j).after.length = 0 := by
  have hb : ∀ s : Step, rdyB [] s = true ↔ s.after.length = 0 := by
    intro s
    unfold rdyB
    simp only [Bool.and_eq_true, Bool.not_eq_true']
    constructor
    · rintro ⟨_, h⟩
      have := haveB_iff.1 h
      rcases Nat.eq_zero_or_pos s.after.length with h0 | h0
      · exact h0
      · have := this _ (mem_nth h0); cases this
    · intro h
      refine ⟨hasB_false.2 (by simp), haveB_iff.2 ?_⟩
      intro y hy
      have := List.length_pos_of_mem hy
      omega
  have h1 : lvLen ss 0 = (ss.filter (rdyB [])).length := by unfold lvLen rdyL; rw [List.length_map]; rfl
  rw [h1]
  constructor
  · intro h j hj
    have h2 := List.length_filter_eq_length_iff.1 h (nth ss j) (mem_nth hj)
    exact (hb _).1 h2
  · intro h
    refine List.length_filter_eq_length_iff.2 ?_
    intro s hs
    obtain ⟨k, hk, rfl⟩ := nth_of_mem hs
    exact (hb _).2 (h k hk)

theorem sum_ge_len {xs : List Nat} (h : ∀ x ∈ xs, 1 ≤ x) : xs.length ≤ xs.sum := by
  induction xs with
  | nil => simp
  | cons a r ih =>
    have h1 := h a (by simp)
    have h2 := ih (fun x hx => h x (by simp [hx]))
    rw [List.sum_cons, List.length_cons]
    omega
theorem cnt_ge {ss : List Step} (hc : (ordL ss).length = ss.length) {k : Nat} {done : List Str} (hk : k + 1 + done.length = ss.length) : (rdyL ss done).length ≤ cnt ss (k + 1) done := by
  show _ ≤ ((rdyL ss done).map fun x => cnt ss k (done ++ [x])).sum
  have := sum_ge_len (xs := (rdyL ss done).map fun x => cnt ss k (done ++ [x])) (by
    intro y hy
    obtain ⟨x, _, rfl⟩ := List.mem_map.1 hy
    exact cnt_pos hc k _ (by rw [List.length_append]; simp; omega))
  rwa [List.length_map] at this
theorem cnt_single {ss : List Step} {k : Nat} {done : List Str} (h : (rdyL ss done).length = 1) : cnt ss (k + 1) done = cnt ss k (done ++ rdyL ss done) := by
  obtain ⟨x, hx⟩ := List.length_eq_one_iff.1 h
  show ((rdyL ss done).map fun x => cnt ss k (done ++ [x])).sum = _
  rw [hx]; simp

/-- Who is always alone has one order. -/
theorem orders_one {ss : List Step} {d : Nat} (hn : (namesOf ss).Nodup) (hc : (ordL ss).length = ss.length) (h1 : 1 ≤ ss.length) (h : Lv ss d) : wideTo ss d = 1 ↔ cnt ss ss.length [] = 1 := by
  obtain ⟨a1, a2, a3, a4, a5⟩ := lv_laws hn hc h1 h
  constructor
  · intro hw
    have hone : ∀ j, j < d → lvLen ss j = 1 := fun j hj => by
      have b1 := lvLen_pos hc (h.go j hj)
      have b2 := wideTo_ge (ss := ss) d j hj
      omega
    have hdl : ∀ j, j ≤ d → (lvDone ss j).length = j := by
      intro j
      induction j with
      | zero => intro _; rfl
      | succ j ih => intro hj; rw [lvDone_len, ih (by omega), hone j (by omega)]
    have hdn : d = ss.length := by have := h.full hn; rw [hdl d (Nat.le_refl _)] at this; exact this
    have key : ∀ m j, j + m = d → cnt ss m (lvDone ss j) = 1 := by
      intro m
      induction m with
      | zero => intro j _; rfl
      | succ m ih =>
        intro j hj
        rw [cnt_single (hone j (by omega))]
        exact ih (j + 1) (by omega)
    have := key d 0 (by omega)
    rw [hdn] at this
    exact this
  · intro hcnt
    have key : ∀ j, j ≤ d → (∀ i, i < j → lvLen ss i = 1) ∧ (lvDone ss j).length = j ∧ cnt ss (ss.length - j) (lvDone ss j) = 1 := by
      intro j
      induction j with
      | zero => intro _; exact ⟨fun i hi => by omega, rfl, hcnt⟩
      | succ j ih =>
        intro hj
        obtain ⟨b1, b2, b3⟩ := ih (by omega)
        have b4 := h.go j (by omega)
        obtain ⟨m, hm⟩ : ∃ m, ss.length - j = m + 1 := ⟨ss.length - j - 1, by omega⟩
        rw [hm] at b3
        have b5 := cnt_ge hc (k := m) (done := lvDone ss j) (by omega)
        have b6 := lvLen_pos hc b4
        have b7 : lvLen ss j = 1 := by
          have : lvLen ss j = (rdyL ss (lvDone ss j)).length := rfl
          omega
        refine ⟨?_, by rw [lvDone_len, b2, b7], ?_⟩
        · intro i hi
          by_cases hij : i = j
          · subst hij; exact b7
          · exact b1 i (by omega)
        · rw [cnt_single b7] at b3
          rw [show ss.length - (j + 1) = m by omega]
          exact b3
    have hone := (key d (Nat.le_refl _)).1
    have : ∀ k, k ≤ d → wideTo ss k ≤ 1 := by
      intro k
      induction k with
      | zero => intro _; exact Nat.zero_le _
      | succ k ih =>
        intro hk
        show max (wideTo ss k) (lvLen ss k) ≤ 1
        have c1 := ih (by omega)
        have c2 := hone k (by omega)
        omega
    have c1 := this d (Nat.le_refl _)
    have c2 := lvLen_pos hc (h.go 0 (by omega))
    omega

/-- A flow whose steps' names ascend and whose levels come to an end. -/
theorem lv_ex {ss : List Step} (hn : (namesOf ss).Nodup) (hc : (ordL ss).length = ss.length) : ∃ d, Lv ss d := by
  have key : ∀ m k, m + (lvDone ss k).length = ss.length → (∀ j, j < k → (lvDone ss j).length < ss.length) → ∃ d, Lv ss d := by
    intro m
    induction m using Nat.strongRecOn with
    | ind m ih =>
      intro k hm hg
      by_cases h0 : m = 0
      · exact ⟨k, by omega, hg⟩
      · have b1 := lvLen_pos hc (k := k) (by omega)
        have b2 := (lvDone_done hn (k + 1)).len
        have b3 := lvDone_len ss k
        refine ih (m - lvLen ss k) (by omega) (k + 1) (by omega) ?_
        intro j hj
        by_cases hjk : j = k
        · subst hjk; omega
        · exact hg j (by omega)
  exact key ss.length 0 (by simp [lvDone]) (fun j hj => by omega)
end Go.Proofs.Ytfcbpgpmafmkhaa
