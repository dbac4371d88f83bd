/- The mark of a step's text. -/
import Derived.Test.YtnlibaoegfdoeaaT1
import Derived.Test.YtnlibaoegfdoeaaF10
namespace Go.Proofs.Ytnlibaoegfdoeaa
open Go.RowKit

theorem get_app {a z : Str} {k : Nat} (hz : z.size = k + 1) (h : a.size + k < (a ++ z : Str).size) : (a ++ z : Str)[a.size + k] = z[k]'(by omega) := by
  have hl : (a ++ z : Str).data.toList = a.data.toList ++ z.data.toList := bl_app a z
  have hk : k < z.data.toList.length := by
    have : z.data.toList.length = z.size := rfl
    omega
  have e : (a ++ z : Str).data.toList[a.size + k]? = some z.data.toList[k] := by
    rw [hl, List.getElem?_append_right (show a.data.toList.length ≤ a.size + k from Nat.le_add_right a.size k), show a.size + k - a.data.toList.length = k from Nat.add_sub_cancel_left a.size k]
    exact List.getElem?_eq_getElem hk
  obtain ⟨h1, e2⟩ := List.getElem?_eq_some_iff.1 e
  have e3 : (a ++ z : Str)[a.size + k] = (a ++ z : Str).data.toList[a.size + k] := rfl
  have e4 : z[k]'(by omega) = z.data.toList[k] := rfl
  rw [e3, e4]
  exact e2
/-- The last byte. -/
def lastIs (y : Str) (k : Nat) (b : UInt8) : Prop := y.size = k + 1 ∧ ∀ h : k < y.size, y[k] = b
theorem lastIs_app {a z : Str} {k : Nat} {b : UInt8} (h : lastIs z k b) : lastIs (a ++ z) (a.size + k) b :=
  ⟨by rw [bsz_app, h.1]; omega, fun hh => by rw [get_app h.1 hh]; exact h.2 _⟩
theorem lastIs_one (b : UInt8) : lastIs ⟨#[b]⟩ 0 b := ⟨rfl, fun _ => rfl⟩
theorem name_last {s : Str} (h : nameB s = true) : ∃ k b, lastIs s k b ∧ b ≠ 33 := by
  have h1 := nameB_size h
  refine ⟨s.size - 1, s[s.size - 1]'(by omega), ⟨by omega, fun _ => rfl⟩, ?_⟩
  unfold nameB at h
  simp only [Bool.and_eq_true] at h
  have h2 := List.all_eq_true.1 h.2 (s[s.size - 1]'(by omega)) (by
    show s.data[s.size - 1]'_ ∈ _
    rw [← Array.getElem_toList]
    exact List.getElem_mem _)
  unfold lowB at h2
  simp only [Bool.and_eq_true, decide_eq_true_eq] at h2
  intro e
  rw [e] at h2
  exact absurd h2.1 (by decide)
theorem names_last {xs : List Str} (h : ∀ j, j < xs.length → nameB (nth xs j) = true) : ∃ k b, lastIs (namesS xs) k b ∧ b ≠ 33 := by
  unfold namesS
  split
  · exact ⟨0, 45, lastIs_one 45, by decide⟩
  · obtain ⟨k, hk⟩ : ∃ k, xs.length = k + 1 := ⟨xs.length - 1, by omega⟩
    obtain ⟨i, b, hi, hb⟩ := name_last (h k (by omega))
    rw [hk]
    exact ⟨_, b, lastIs_app hi, hb⟩
/-- What the law asks of a text. -/
structure Mark (s : Step) (y : Str) (k : Nat) (b : UInt8) : Prop where
  last : lastIs y k b
  mark : b = 33 ↔ s.undo = false
  pre : ∃ z, y = s.name ++ z
  small : y.size ≤ 100
theorem mark_ex {s : Step} (h : stepB s = true) : ∃ k b, Mark s (stepS s) k b := by
  obtain ⟨hn4, hz, hnm⟩ := stepB_sizes h
  obtain ⟨k, b, h1, h2⟩ := names_last hnm
  have h3 := namesS_size hn4 hnm
  have e1 : (⟨#[58]⟩ : Str).size = 1 := rfl
  have e2 : (⟨#[33]⟩ : Str).size = 1 := rfl
  unfold stepS
  cases hu : s.undo
  · rw [if_neg (by simp)]
    refine ⟨_, 33, lastIs_app (lastIs_one 33), by simp [hu], ⟨⟨#[58]⟩ ++ namesS s.after ++ ⟨#[33]⟩, by simp [ByteArray.append_assoc]⟩, ?_⟩
    rw [bsz_app, bsz_app, bsz_app]; omega
  · rw [if_pos rfl]
    refine ⟨_, b, lastIs_app h1, by simp [hu, h2], ⟨⟨#[58]⟩ ++ namesS s.after, by simp [ByteArray.append_assoc]⟩, ?_⟩
    rw [bsz_app, bsz_app]; omega
end Go.Proofs.Ytnlibaoegfdoeaa
