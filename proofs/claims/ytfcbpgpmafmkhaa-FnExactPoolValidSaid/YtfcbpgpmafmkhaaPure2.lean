/- How many orders a flow has. No program in sight. -/
import Derived.Test.YtfcbpgpmafmkhaaPure1
namespace Go.Proofs.Ytfcbpgpmafmkhaa
open Go.RowKit

/-- In how many orders the k steps that are left can be done. -/
def cnt (ss : List Step) : Nat → List Str → Nat
  | 0, _ => 1
  | k + 1, done => ((rdyL ss done).map fun x => cnt ss k (done ++ [x])).sum

/-- What is done: steps of the flow, each once. -/
structure Done (ss : List Step) (done : List Str) : Prop where
  nodup : done.Nodup
  sub : ∀ x ∈ done, x ∈ namesOf ss

theorem Done.nil {ss : List Step} : Done ss [] := ⟨List.nodup_nil, by simp⟩
theorem Done.len {ss : List Step} {done : List Str} (h : Done ss done) : done.length ≤ ss.length := by
  have := nodup_le h.nodup h.sub
  rwa [namesOf_len] at this
theorem Done.next {ss : List Step} {done : List Str} {x : Str} (h : Done ss done) (hx : x ∈ rdyL ss done) : Done ss (done ++ [x]) := by
  obtain ⟨h1, h2⟩ := rdyL_new hx
  refine ⟨?_, ?_⟩
  · rw [List.nodup_append]
    refine ⟨h.nodup, by simp, ?_⟩
    intro a ha b hb
    rw [List.mem_singleton] at hb
    subst hb
    intro e; subst e; exact h1 ha
  · intro y hy
    rcases List.mem_append.1 hy with hy | hy
    · exact h.sub y hy
    · rw [List.mem_singleton] at hy; subst hy; exact h2

theorem sum_le_mul {xs : List Nat} {m : Nat} (h : ∀ x ∈ xs, x ≤ m) : xs.sum ≤ xs.length * m := by
  induction xs with
  | nil => simp
  | cons a r ih =>
    have h1 := h a (by simp)
    have h2 := ih (fun x hx => h x (by simp [hx]))
    rw [List.sum_cons, List.length_cons, Nat.add_mul, Nat.one_mul]
    omega

def fact : Nat → Nat
  | 0 => 1
  | n + 1 => (n + 1) * fact n
theorem fact_le {n m : Nat} (h : n ≤ m) : fact n ≤ fact m := by
  induction m with
  | zero => rw [Nat.le_zero.1 h]; exact Nat.le_refl _
  | succ m ih =>
    by_cases e : n = m + 1
    · rw [e]; exact Nat.le_refl _
    · have := ih (by omega)
      show _ ≤ (m + 1) * fact m
      calc fact n ≤ fact m := this
        _ = 1 * fact m := (Nat.one_mul _).symm
        _ ≤ (m + 1) * fact m := Nat.mul_le_mul_right _ (by omega)

theorem rdyL_nodup {ss : List Step} {done : List Str} (hn : (namesOf ss).Nodup) : (rdyL ss done).Nodup := by
  unfold rdyL
  exact List.Nodup.sublist (List.Sublist.map _ List.filter_sublist) hn

theorem rdyL_room {ss : List Step} {done : List Str} (hn : (namesOf ss).Nodup) (h : Done ss done) : done.length + (rdyL ss done).length ≤ ss.length := by
  have h1 : (done ++ rdyL ss done).Nodup := by
    rw [List.nodup_append]
    refine ⟨h.nodup, rdyL_nodup hn, ?_⟩
    intro a ha b hb e
    subst e
    exact (rdyL_new hb).1 ha
  have h2 := nodup_le h1 (ys := namesOf ss) (by
    intro x hx
    rcases List.mem_append.1 hx with hx | hx
    · exact h.sub x hx
    · exact (rdyL_new hx).2)
  rwa [List.length_append, namesOf_len] at h2

theorem cnt_le {ss : List Step} (hn : (namesOf ss).Nodup) : ∀ (k : Nat) (done : List Str), Done ss done → k + done.length = ss.length → cnt ss k done ≤ fact k
  | 0, _, _, _ => Nat.le_refl _
  | k + 1, done, hd, hk => by
    have h1 := rdyL_room hn hd
    show ((rdyL ss done).map fun x => cnt ss k (done ++ [x])).sum ≤ (k + 1) * fact k
    have h2 : ((rdyL ss done).map fun x => cnt ss k (done ++ [x])).sum ≤ (rdyL ss done).length * fact k := by
      have := sum_le_mul (xs := (rdyL ss done).map fun x => cnt ss k (done ++ [x])) (m := fact k) (by
        intro y hy
        obtain ⟨x, hx, rfl⟩ := List.mem_map.1 hy
        exact cnt_le hn k _ (hd.next hx) (by rw [List.length_append]; simp; omega))
      rwa [List.length_map] at this
    exact Nat.le_trans h2 (Nat.mul_le_mul_right _ (by omega))

theorem ready_some {ss : List Step} {done : List Str} (hc : (ordL ss).length = ss.length) (hlt : done.length < ss.length) : rdyL ss done ≠ [] := by
  intro hnil
  have key : ∀ j, ∀ x ∈ ordTo ss j, x ∈ done := by
    intro j
    induction j with
    | zero => intro x hx; cases hx
    | succ j ih =>
      intro x hx
      cases hr : rdyL ss (ordTo ss j) with
      | nil =>
        rw [show ordTo ss (j + 1) = ordTo ss j from ordStep_nil hr] at hx
        exact ih x hx
      | cons y r =>
        rw [show ordTo ss (j + 1) = ordTo ss j ++ [y] from ordStep_cons hr] at hx
        rcases List.mem_append.1 hx with hx | hx
        · exact ih x hx
        · rw [List.mem_singleton] at hx
          subst hx
          obtain ⟨s, hs, hb, hx⟩ := rdyL_mem.1 (show x ∈ rdyL ss (ordTo ss j) by rw [hr]; simp)
          by_cases hm : x ∈ done
          · exact hm
          exfalso
          have : x ∈ rdyL ss done := by
            refine rdyL_mem.2 ⟨s, hs, ?_, hx⟩
            unfold rdyB at hb ⊢
            simp only [Bool.and_eq_true, Bool.not_eq_true'] at hb ⊢
            refine ⟨hasB_false.2 (by rw [hx]; exact hm), ?_⟩
            exact haveB_iff.2 (fun y hy => ih y (haveB_iff.1 hb.2 y hy))
          rw [hnil] at this
          cases this
  have h2 := nodup_le (ordTo_nodup ss ss.length).1 (ys := done) (key ss.length)
  have : (ordTo ss ss.length).length = ss.length := hc
  omega

theorem cnt_pos {ss : List Step} (hc : (ordL ss).length = ss.length) : ∀ (k : Nat) (done : List Str), k + done.length = ss.length → 1 ≤ cnt ss k done
  | 0, _, _ => Nat.le_refl _
  | k + 1, done, hk => by
    have h1 := ready_some hc (done := done) (by omega)
    show 1 ≤ ((rdyL ss done).map fun x => cnt ss k (done ++ [x])).sum
    cases hr : rdyL ss done with
    | nil => exact absurd hr h1
    | cons x r =>
      have := cnt_pos hc k (done ++ [x]) (by rw [List.length_append]; simp; omega)
      rw [List.map_cons, List.sum_cons]
      omega
end Go.Proofs.Ytfcbpgpmafmkhaa
