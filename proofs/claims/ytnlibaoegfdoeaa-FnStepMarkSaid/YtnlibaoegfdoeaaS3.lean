/- A region whose first operations come in one forced order, and whose others read and call quietly. No program in sight. -/
import Derived.Deep.Quiet
import Derived.StillTail
import Derived.BigQuiet
import Derived.Test.YtnlibaoegfdoeaaBase
namespace Go.Proofs.Ytnlibaoegfdoeaa
open Go.RowKit

section
variable {P : Program} {ops : Array Oper} {md : Region.Mode} {Q' : Exit → Act → World → Prop}
def wpHead (P : Program) (ops : Array Oper) (Q' : Exit → Act → World → Prop) (K : Act → World → Prop) : List Oper → Act → World → Prop
  | [], a, w => K a w
  | o :: rest, a, w => if Region.wanted o (yielded ops a.tmps) = true then o.wp P a w (wpHead P ops Q' K rest) Q' else wpHead P ops Q' K rest (a.put o.dst undef) w
theorem wpHead_nil {K : Act → World → Prop} {a : Act} {w : World} (h : K a w) : wpHead P ops Q' K [] a w := h
theorem wpHead_step {K : Act → World → Prop} {o : Oper} {rest : List Oper} {a : Act} {w : World}
    (h : ∀ K' : Act → World → Prop, (∀ a w, wpHead P ops Q' K rest a w → K' a w) → if Region.wanted o (yielded ops a.tmps) = true then o.wp P a w K' Q' else K' (a.put o.dst undef) w) : wpHead P ops Q' K (o :: rest) a w :=
  h _ (fun _ _ h => h)
def headGo (md : Region.Mode) (ops : Array Oper) (g : Nat) : Nat → Nat → Array Bool → Bool
  | 0, k, listed => Region.lexFrom md ops g k listed
  | m + 1, k, listed => (Region.ready md ops listed == [k]) && headGo md ops g m (k + 1) (listed.setIfInBounds k true)
def headB (md : Region.Mode) (ops : Array Oper) (n : Nat) : Bool := Region.noSelect ops && decide (n ≤ ops.size) && headGo md ops (ops.size - n) n 0 (Array.replicate ops.size false)

theorem wpAny_head (hs : Region.noSelect ops = true) (l2 : List Oper) : ∀ (l1 : List Oper) (k : Nat) (listed : Array Bool) (a : Act) (w : World), (∀ j, (l1 ++ l2)[j]? = ops[k + j]?) →
    headGo md ops l2.length l1.length k listed = true → wpHead P ops Q' (fun a' w' => wpQuiet P ops (fun x => ∃ m, x = w'.drewN m) (fun a'' => ∀ x, (∃ m, x = w'.drewN m) → Q' .normal a'' x) l2 a') l1 a w →
    wpAny P md ops Q' (l1.length + l2.length) listed a w
  | [], k, listed, a, w, hl, hB, h => by
    rw [List.length_nil, Nat.zero_add]
    exact wpAny_of_quiet (C := fun x => ∃ m, x = w.drewN m) (Q := fun a' => ∀ x, (∃ m, x = w.drewN m) → Q' .normal a' x) (fun _ w' hw' h => h w' hw') _ _ _ _ ⟨0, rfl⟩ (wpAnyQ_lex hs l2 k listed a (by simpa using hl) hB h)
  | o :: l1, k, listed, a, w, hl, hB, h => by
    have h0 : ops[k]? = some o := by simpa using (hl 0).symm
    simp only [List.length_cons, headGo, Bool.and_eq_true, beq_iff_eq] at hB
    rw [List.length_cons, show l1.length + 1 + l2.length = (l1.length + l2.length) + 1 by omega]
    refine ⟨fun h1 => (by rw [hB.1] at h1; cases h1), fun i hi => ?_⟩
    rw [hB.1] at hi
    have hik : i = k := by simpa using hi
    subst hik
    have hw : wpOp P ops Q' i (wpHead P ops Q' (fun a' w' => wpQuiet P ops (fun x => ∃ m, x = w'.drewN m) (fun a'' => ∀ x, (∃ m, x = w'.drewN m) → Q' .normal a'' x) l2 a') l1) a w := by
      unfold wpOp
      simp only [h0]
      unfold wpHead at h
      split
      · rename_i hwant
        rw [if_pos hwant] at h
        exact .inl h
      · rename_i hwant
        rw [if_neg hwant] at h
        exact h
    exact wpOp_mono (fun a' w' h' => wpAny_head hs l2 l1 (i + 1) _ a' w' (fun j => by have := hl (j + 1); simpa [Nat.add_assoc, Nat.add_comm 1 j] using this) hB.2 h') hw

theorem wp_region_head {id : Nat} {Q : Exit → Act → World → Prop} {a : Act} {w : World} {l : List Oper} (n : Nat) (hm : P.follows .mixedOrders = true) (hB : headB .any l.toArray n = true)
    (h : wpHead P l.toArray Q (fun a' w' => wpQuiet P l.toArray (fun x => ∃ m, x = w'.drewN m) (fun a'' => ∀ x, (∃ m, x = w'.drewN m) → Q .normal a'' x) (l.drop n) a') (l.take n) a w.drew) : (Code.region id l.toArray true).wp P Q a w := by
  simp only [headB, Bool.and_eq_true, decide_eq_true_eq] at hB
  obtain ⟨⟨hs, hn⟩, hg⟩ := hB
  have hn' : n ≤ l.length := by simpa using hn
  refine wp_region_any hm ?_
  have h1 : (l.take n).length = n := by rw [List.length_take]; omega
  have h2 : (l.drop n).length = l.toArray.size - n := by rw [List.length_drop]; simp
  have := wpAny_head (md := .any) hs (l.drop n) (l.take n) 0 (Array.replicate l.toArray.size false) a w.drew (fun j => by rw [List.take_append_drop]; simp) (by rw [h1, h2]; exact hg) h
  rw [h1, h2, show n + (l.toArray.size - n) = l.toArray.size by omega] at this
  exact this
end
end Go.Proofs.Ytnlibaoegfdoeaa
