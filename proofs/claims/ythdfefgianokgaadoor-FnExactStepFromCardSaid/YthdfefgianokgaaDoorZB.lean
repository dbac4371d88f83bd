/- Contracts of functions and plain lemmas, joined. No condition but those that each states. -/
import Derived.Lib.SplitLaws
import Derived.Lib.Strings
import Derived.Lib.Split
import Derived.Deep.Quiet
import Derived.StillTail
import Derived.BigQuiet
import Derived.Deep.RegionLaw
import Derived.Test.YthdfefgianokgaaDoorZA

/- How many orders a flow has. No program in sight. -/
namespace Go.Proofs.YthdfefgianokgaaDoor
open Go.RowKit

/-- In how many orders the k steps that are left can be done. -/
def cnt (ss : List Step) : Nat → List Str → Nat
  | 0, _ => 1
  | k + 1, done => ((rdyL ss done).map fun x => cnt ss k (done ++ [x])).sum

/-- What is done: steps of the flow, each once. -/
structure Done (ss : List Step) (done : List Str) : Prop where
  nodup : done.Nodup
  sub : ∀ x ∈ done, x ∈ namesOf ss

theorem Done.nil {ss : List Step} : Done ss [] := ⟨List.nodup_nil, by simp⟩
theorem Done.len {ss : List Step} {done : List Str} (h : Done ss done) : done.length ≤ ss.length := by
  have := nodup_le h.nodup h.sub
  rwa [namesOf_len] at this
theorem Done.next {ss : List Step} {done : List Str} {x : Str} (h : Done ss done) (hx : x ∈ rdyL ss done) : Done ss (done ++ [x]) := by
  obtain ⟨h1, h2⟩ := rdyL_new hx
  refine ⟨?_, ?_⟩
  · rw [List.nodup_append]
    refine ⟨h.nodup, by simp, ?_⟩
    intro a ha b hb
    rw [List.mem_singleton] at hb
    subst hb
    intro e; subst e; exact h1 ha
  · intro y hy
    rcases List.mem_append.1 hy with hy | hy
    · exact h.sub y hy
    · rw [List.mem_singleton] at hy; subst hy; exact h2

theorem sum_le_mul {xs : List Nat} {m : Nat} (h : ∀ x ∈ xs, x ≤ m) : xs.sum ≤ xs.length * m := by
  induction xs with
  | nil => simp
  | cons a r ih =>
    have h1 := h a (by simp)
    have h2 := ih (fun x hx => h x (by simp [hx]))
    rw [List.sum_cons, List.length_cons, Nat.add_mul, Nat.one_mul]
    omega

def fact : Nat → Nat
  | 0 => 1
  | n + 1 => (n + 1) * fact n
theorem fact_le {n m : Nat} (h : n ≤ m) : fact n ≤ fact m := by
  induction m with
  | zero => rw [Nat.le_zero.1 h]; exact Nat.le_refl _
  | succ m ih =>
    by_cases e : n = m + 1
    · rw [e]; exact Nat.le_refl _
    · have := ih (by omega)
      show _ ≤ (m + 1) * fact m
      calc fact n ≤ fact m := this
        _ = 1 * fact m := (Nat.one_mul _).symm
        _ ≤ (m + 1) * fact m := Nat.mul_le_mul_right _ (by omega)

theorem rdyL_nodup {ss : List Step} {done : List Str} (hn : (namesOf ss).Nodup) : (rdyL ss done).Nodup := by
  unfold rdyL
  exact List.Nodup.sublist (List.Sublist.map _ List.filter_sublist) hn

theorem rdyL_room {ss : List Step} {done : List Str} (hn : (namesOf ss).Nodup) (h : Done ss done) : done.length + (rdyL ss done).length ≤ ss.length := by
  have h1 : (done ++ rdyL ss done).Nodup := by
    rw [List.nodup_append]
    refine ⟨h.nodup, rdyL_nodup hn, ?_⟩
    intro a ha b hb e
    subst e
    exact (rdyL_new hb).1 ha
  have h2 := nodup_le h1 (ys := namesOf ss) (by
    intro x hx
    rcases List.mem_append.1 hx with hx | hx
    · exact h.sub x hx
    · exact (rdyL_new hx).2)
  rwa [List.length_append, namesOf_len] at h2

theorem cnt_le {ss : List Step} (hn : (namesOf ss).Nodup) : ∀ (k : Nat) (done : List Str), Done ss done → k + done.length = ss.length → cnt ss k done ≤ fact k
  | 0, _, _, _ => Nat.le_refl _
  | k + 1, done, hd, hk => by
    have h1 := rdyL_room hn hd
    show ((rdyL ss done).map fun x => cnt ss k (done ++ [x])).sum ≤ (k + 1) * fact k
    have h2 : ((rdyL ss done).map fun x => cnt ss k (done ++ [x])).sum ≤ (rdyL ss done).length * fact k := by
      have := sum_le_mul (xs := (rdyL ss done).map fun x => cnt ss k (done ++ [x])) (m := fact k) (by
        intro y hy
        obtain ⟨x, hx, rfl⟩ := List.mem_map.1 hy
        exact cnt_le hn k _ (hd.next hx) (by rw [List.length_append]; simp; omega))
      rwa [List.length_map] at this
    exact Nat.le_trans h2 (Nat.mul_le_mul_right _ (by omega))

theorem ready_some {ss : List Step} {done : List Str} (hc : (ordL ss).length = ss.length) (hlt : done.length < ss.length) : rdyL ss done ≠ [] := by
  intro hnil
  have key : ∀ j, ∀ x ∈ ordTo ss j, x ∈ done := by
    intro j
    induction j with
    | zero => intro x hx; cases hx
    | succ j ih =>
      intro x hx
      cases hr : rdyL ss (ordTo ss j) with
      | nil =>
        rw [show ordTo ss (j + 1) = ordTo ss j from ordStep_nil hr] at hx
        exact ih x hx
      | cons y r =>
        rw [show ordTo ss (j + 1) = ordTo ss j ++ [y] from ordStep_cons hr] at hx
        rcases List.mem_append.1 hx with hx | hx
        · exact ih x hx
        · rw [List.mem_singleton] at hx
          subst hx
          obtain ⟨s, hs, hb, hx⟩ := rdyL_mem.1 (show x ∈ rdyL ss (ordTo ss j) by rw [hr]; simp)
          by_cases hm : x ∈ done
          · exact hm
          exfalso
          have : x ∈ rdyL ss done := by
            refine rdyL_mem.2 ⟨s, hs, ?_, hx⟩
            unfold rdyB at hb ⊢
            simp only [Bool.and_eq_true, Bool.not_eq_true'] at hb ⊢
            refine ⟨hasB_false.2 (by rw [hx]; exact hm), ?_⟩
            exact haveB_iff.2 (fun y hy => ih y (haveB_iff.1 hb.2 y hy))
          rw [hnil] at this
          cases this
  have h2 := nodup_le (ordTo_nodup ss ss.length).1 (ys := done) (key ss.length)
  have : (ordTo ss ss.length).length = ss.length := hc
  omega

theorem cnt_pos {ss : List Step} (hc : (ordL ss).length = ss.length) : ∀ (k : Nat) (done : List Str), k + done.length = ss.length → 1 ≤ cnt ss k done
  | 0, _, _ => Nat.le_refl _
  | k + 1, done, hk => by
    have h1 := ready_some hc (done := done) (by omega)
    show 1 ≤ ((rdyL ss done).map fun x => cnt ss k (done ++ [x])).sum
    cases hr : rdyL ss done with
    | nil => exact absurd hr h1
    | cons x r =>
      have := cnt_pos hc k (done ++ [x]) (by rw [List.length_append]; simp; omega)
      rw [List.map_cons, List.sum_cons]
      omega
end Go.Proofs.YthdfefgianokgaaDoor

/- Counting orders: both. -/
namespace Go.Proofs.YthdfefgianokgaaDoor
open Go.RowKit

theorem sapp_step {w : World} {ops : Array Oper} {o : Oper} {a : Act} {K : Act → World → Prop} {Q : Exit → Act → World → Prop} {E : Prop} (w0 : World) (v : Value) (n : Nat) (cs : List Str) (b : Nat) (s : Str) (hown : Own 9 1 w0 w v n (cs.map Value.string))
    (hgd : o.guard = none) (l r : Operand) (ho : o.op = .call { callee := .builtin .append, args := #[l, r], argTypes := #[23, 23] })
    (hs : a.eval l = v) (hx : a.eval r = .slice (some ⟨b, 0, none⟩) 1 1) (hb : w.heap[b]? = some (.cells #[.string s] 9 (0, 0))) (hn : n ≤ 1048576)
    (h : ∀ v' w', Own 9 1 w0 w' v' (n + 1) ((cs ++ [s]).map Value.string) → w.grownBy w' v.ownBlock → K (a.put o.dst v') w') :
    if Region.wanted o (yielded ops a.tmps) = true then Oper.wp Tryd.prog o a w K Q else E := by
  have hw : Region.wanted o (yielded ops a.tmps) = true := by simp [Region.wanted, hgd]
  rw [if_pos hw]
  refine wapp 23 9 1 16 _ Tryd.underlying23 info_str rfl (by omega) (by omega) w0.heap.size v n _ [.string s] b hown.row l r ho hs hx hb rfl ?_ hn hown.below.size ?_
  · intro u hu; simp at hu; subst hu; rfl
  · intro v' w' h1 h2 h3
    exact h v' w' (hown.next (by rw [List.map_append]; exact h1) h2) h2

/-- The orders behind the first i that are ready. -/
def cntTo (ss : List Step) (k : Nat) (done : List Str) (i : Nat) : Nat := (((rdyL ss done).take i).map fun x => cnt ss k (done ++ [x])).sum
theorem cntTo_next {ss : List Step} {k : Nat} {done : List Str} {i : Nat} (h : i < (rdyL ss done).length) :
    cntTo ss k done (i + 1) = cntTo ss k done i + cnt ss k (done ++ [nth (rdyL ss done) i]) := by
  unfold cntTo; rw [take_nth h, List.map_append, List.sum_append]; simp
theorem cntTo_all {ss : List Step} {k : Nat} {done : List Str} : cntTo ss k done (rdyL ss done).length = cnt ss (k + 1) done := by
  unfold cntTo; rw [List.take_of_length_le (Nat.le_refl _)]; rfl

theorem cntTo_le {ss : List Step} (hn : (namesOf ss).Nodup) {k : Nat} {done : List Str} (hd : Done ss done) (hk : k + 1 + done.length = ss.length) (i : Nat) : cntTo ss k done i ≤ i * fact k := by
  unfold cntTo
  have := sum_le_mul (xs := ((rdyL ss done).take i).map fun x => cnt ss k (done ++ [x])) (m := fact k) (by
    intro y hy
    obtain ⟨x, hx, rfl⟩ := List.mem_map.1 hy
    exact cnt_le hn k _ (hd.next (List.mem_of_mem_take hx)) (by rw [List.length_append]; simp; omega))
  rw [List.length_map] at this
  exact Nat.le_trans this (Nat.mul_le_mul_right _ (List.length_take_le _ _))

theorem wrap_nat {a b : Nat} (h : a + b ≤ 1048576) : IntKind.i64.wrap ((a : Int) + (b : Int)) = ((a + b : Nat) : Int) := by
  rw [IntWalk.i64_in _ (by omega)]; omega

end Go.Proofs.YthdfefgianokgaaDoor

/- Counting orders: the functions. -/
namespace Go.Proofs.YthdfefgianokgaaDoor
open Go.RowKit

def cntF (f : Flow) : Int := if flowB f = true ∧ f.steps.length ≤ 6 then (cnt f.steps f.steps.length [] : Nat) else -1

theorem steps_lt {ss : List Step} (h : ∀ j, j < ss.length → stepAt ss j = true) : ∀ j, j < ss.length → ∀ i, i < j → strLt (nth ss i).name (nth ss j).name = true := by
  intro j
  induction j with
  | zero => intro _ i hi; omega
  | succ j ih =>
    intro hj i hi
    have h1 := h (j + 1) hj
    simp only [stepAt, Bool.and_eq_true, Bool.or_eq_true, decide_eq_true_eq] at h1
    have h2 : strLt (nth ss j).name (nth ss (j + 1)).name = true := by
      rcases h1.1.2 with h2 | h2
      · omega
      · simpa using h2
    by_cases e : i = j
    · rw [e]; exact h2
    · exact strLt_trans (ih (by omega) i (by omega)) h2

theorem flow_nodup {f : Flow} (h : flowB f = true) : (namesOf f.steps).Nodup := by
  have h1 := steps_lt (flowB_iff.1 h).1
  unfold List.Nodup
  rw [List.pairwise_iff_getElem]
  intro i j hi hj hij
  rw [namesOf_len] at hi hj
  rw [← nth_eq, ← nth_eq, namesOf_at hi, namesOf_at hj]
  exact strLt_ne (h1 j hj i hij)

end Go.Proofs.YthdfefgianokgaaDoor

/- Counting orders: the reference. -/
namespace Go.Proofs.YthdfefgianokgaaDoor
open Go.RowKit

theorem sapps_step {w : World} {ops : Array Oper} {o : Oper} {a : Act} {K : Act → World → Prop} {Q : Exit → Act → World → Prop} {E : Prop} (w0 : World) (v : Value) (n : Nat) (cs : List Str) (lo : Nat) (A : Option Addr) (m c : Nat) (ys : List Str) (hown : Own 9 1 w0 w v n (cs.map Value.string))
    (hr : RStr w lo A m ys) (hgd : o.guard = none) (l x : Operand) (ho : o.op = .call { callee := .builtin .append, args := #[l, x], argTypes := #[23, 23] })
    (hs : a.eval l = v) (hx : a.eval x = .slice A m c) (hn : n + m ≤ 4194304)
    (h : ∀ v' w', Own 9 1 w0 w' v' (n + m) ((cs ++ ys).map Value.string) → w.grownBy w' v.ownBlock → K (a.put o.dst v') w') :
    if Region.wanted o (yielded ops a.tmps) = true then Oper.wp Tryd.prog o a w K Q else E := by
  have hw : Region.wanted o (yielded ops a.tmps) = true := by simp [Region.wanted, hgd]
  rw [if_pos hw]
  exact wappl 23 9 1 16 _ Tryd.underlying23 info_str rfl (by omega) (by omega) w0.heap.size v n _ (ys.map Value.string) A m c hown.row l x ho hs hx (by rw [List.length_map, hr.1]; omega) (news_str hr) (by simp [Value.oneCell']) hn hown.below.size
    fun v' w' h2 h3 _ => h v' w' (hown.next (by rw [List.map_append]; exact h2) h3) h3

theorem own_new {w0 w : World} {b : Nat} (hb : Below w0.heap.size w0 w) (e : b = w.heap.size) : Own 9 1 w0 (w.alloc (.cells #[] 9)) (.slice (some ⟨b, 0, none⟩) 0 0) 0 (([] : List Str).map Value.string) := by
  subst e
  exact ⟨World.ownsRow_made w #[] 0 hb.size (Nat.zero_le _) rfl, hb.alloc hb.size _⟩

/-- The orders behind those of the first i steps that are ready. -/
def cntS (ss : List Step) (k : Nat) (done : List Str) (i : Nat) : Nat := ((rdyTo ss done i).map fun x => cnt ss k (done ++ [x])).sum
theorem cntS_yes {ss : List Step} {k : Nat} {done : List Str} {i : Nat} (hi : i < ss.length) (h : rdyB done (nth ss i) = true) :
    cntS ss k done (i + 1) = cntS ss k done i + cnt ss k (done ++ [(nth ss i).name]) := by
  unfold cntS; rw [rdyTo_yes hi h, List.map_append, List.sum_append]; simp
theorem cntS_no {ss : List Step} {k : Nat} {done : List Str} {i : Nat} (hi : i < ss.length) (h : rdyB done (nth ss i) = false) : cntS ss k done (i + 1) = cntS ss k done i := by
  unfold cntS; rw [rdyTo_no hi h]
theorem cntS_all {ss : List Step} {k : Nat} {done : List Str} {i : Nat} (hi : ss.length ≤ i) : cntS ss k done i = cnt ss (k + 1) done := by
  unfold cntS; rw [rdyTo_all hi]; rfl
theorem cntS_le {ss : List Step} (hn : (namesOf ss).Nodup) {k : Nat} {done : List Str} (hd : Done ss done) (hk : k + 1 + done.length = ss.length) (i : Nat) : cntS ss k done i ≤ i * fact k := by
  unfold cntS
  have := sum_le_mul (xs := (rdyTo ss done i).map fun x => cnt ss k (done ++ [x])) (m := fact k) (by
    intro y hy
    obtain ⟨x, hx, rfl⟩ := List.mem_map.1 hy
    refine cnt_le hn k _ (hd.next ?_) (by rw [List.length_append]; simp; omega)
    unfold rdyTo at hx
    obtain ⟨s, hs, rfl⟩ := List.mem_map.1 hx
    obtain ⟨h1, h2⟩ := List.mem_filter.1 hs
    exact rdyL_mem.2 ⟨s, List.mem_of_mem_take h1, h2, rfl⟩)
  rw [List.length_map] at this
  exact Nat.le_trans this (Nat.mul_le_mul_right _ (rdyTo_len ss done i))

end Go.Proofs.YthdfefgianokgaaDoor

/- Counting orders: the reference's function. -/
namespace Go.Proofs.YthdfefgianokgaaDoor
open Go.RowKit

end Go.Proofs.YthdfefgianokgaaDoor

/- The mark of a step's text. -/
namespace Go.Proofs.YthdfefgianokgaaDoor
open Go.RowKit

theorem get_app {a z : Str} {k : Nat} (hz : z.size = k + 1) (h : a.size + k < (a ++ z : Str).size) : (a ++ z : Str)[a.size + k] = z[k]'(by omega) := by
  have hl : (a ++ z : Str).data.toList = a.data.toList ++ z.data.toList := bl_app a z
  have hk : k < z.data.toList.length := by
    have : z.data.toList.length = z.size := rfl
    omega
  have e : (a ++ z : Str).data.toList[a.size + k]? = some z.data.toList[k] := by
    rw [hl, List.getElem?_append_right (show a.data.toList.length ≤ a.size + k from Nat.le_add_right a.size k), show a.size + k - a.data.toList.length = k from Nat.add_sub_cancel_left a.size k]
    exact List.getElem?_eq_getElem hk
  obtain ⟨h1, e2⟩ := List.getElem?_eq_some_iff.1 e
  have e3 : (a ++ z : Str)[a.size + k] = (a ++ z : Str).data.toList[a.size + k] := rfl
  have e4 : z[k]'(by omega) = z.data.toList[k] := rfl
  rw [e3, e4]
  exact e2
/-- The last byte. -/
def lastIs (y : Str) (k : Nat) (b : UInt8) : Prop := y.size = k + 1 ∧ ∀ h : k < y.size, y[k] = b
theorem lastIs_app {a z : Str} {k : Nat} {b : UInt8} (h : lastIs z k b) : lastIs (a ++ z) (a.size + k) b :=
  ⟨by rw [bsz_app, h.1]; omega, fun hh => by rw [get_app h.1 hh]; exact h.2 _⟩
theorem lastIs_one (b : UInt8) : lastIs ⟨#[b]⟩ 0 b := ⟨rfl, fun _ => rfl⟩
theorem name_last {s : Str} (h : nameB s = true) : ∃ k b, lastIs s k b ∧ b ≠ 33 := by
  have h1 := nameB_size h
  refine ⟨s.size - 1, s[s.size - 1]'(by omega), ⟨by omega, fun _ => rfl⟩, ?_⟩
  unfold nameB at h
  simp only [Bool.and_eq_true] at h
  have h2 := List.all_eq_true.1 h.2 (s[s.size - 1]'(by omega)) (by
    show s.data[s.size - 1]'_ ∈ _
    rw [← Array.getElem_toList]
    exact List.getElem_mem _)
  unfold lowB at h2
  simp only [Bool.and_eq_true, decide_eq_true_eq] at h2
  intro e
  rw [e] at h2
  exact absurd h2.1 (by decide)
theorem names_last {xs : List Str} (h : ∀ j, j < xs.length → nameB (nth xs j) = true) : ∃ k b, lastIs (namesS xs) k b ∧ b ≠ 33 := by
  unfold namesS
  split
  · exact ⟨0, 45, lastIs_one 45, by decide⟩
  · obtain ⟨k, hk⟩ : ∃ k, xs.length = k + 1 := ⟨xs.length - 1, by omega⟩
    obtain ⟨i, b, hi, hb⟩ := name_last (h k (by omega))
    rw [hk]
    exact ⟨_, b, lastIs_app hi, hb⟩
/-- What the law asks of a text. -/
structure Mark (s : Step) (y : Str) (k : Nat) (b : UInt8) : Prop where
  last : lastIs y k b
  mark : b = 33 ↔ s.undo = false
  pre : ∃ z, y = s.name ++ z
  small : y.size ≤ 100
theorem mark_ex {s : Step} (h : stepB s = true) : ∃ k b, Mark s (stepS s) k b := by
  obtain ⟨hn4, hz, hnm⟩ := stepB_sizes h
  obtain ⟨k, b, h1, h2⟩ := names_last hnm
  have h3 := namesS_size hn4 hnm
  have e1 : (⟨#[58]⟩ : Str).size = 1 := rfl
  have e2 : (⟨#[33]⟩ : Str).size = 1 := rfl
  unfold stepS
  cases hu : s.undo
  · rw [if_neg (by simp)]
    refine ⟨_, 33, lastIs_app (lastIs_one 33), by simp [hu], ⟨⟨#[58]⟩ ++ namesS s.after ++ ⟨#[33]⟩, by simp [ByteArray.append_assoc]⟩, ?_⟩
    rw [bsz_app, bsz_app, bsz_app]; omega
  · rw [if_pos rfl]
    refine ⟨_, b, lastIs_app h1, by simp [hu, h2], ⟨⟨#[58]⟩ ++ namesS s.after, by simp [ByteArray.append_assoc]⟩, ?_⟩
    rw [bsz_app, bsz_app]; omega
end Go.Proofs.YthdfefgianokgaaDoor

/- Texts cut at a byte, and the step of a text. No program in sight. -/
namespace Go.Proofs.YthdfefgianokgaaDoor
open Go.RowKit

abbrev Bytes := List UInt8
/-- A text cut at each byte of one kind. -/
def cutW (b : UInt8) : Bytes → List Bytes
  | [] => [[]]
  | c :: r => if c = b then [] :: cutW b r else match cutW b r with
    | [] => [[c]]
    | h :: t => (c :: h) :: t
theorem cutW_ne (b : UInt8) : ∀ s : Bytes, cutW b s ≠ []
  | [] => by simp [cutW]
  | c :: r => by
    unfold cutW
    split
    · simp
    · split <;> simp
theorem cutW_none {b : UInt8} : ∀ {a : Bytes}, (∀ x ∈ a, x ≠ b) → cutW b a = [a]
  | [], _ => rfl
  | c :: r, h => by
    have ih := cutW_none (b := b) (a := r) fun x hx => h x (List.mem_cons_of_mem _ hx)
    unfold cutW
    rw [if_neg (h c (List.mem_cons_self ..)), ih]
theorem cutW_hit {b : UInt8} (r : Bytes) : ∀ {a : Bytes}, (∀ x ∈ a, x ≠ b) → cutW b (a ++ b :: r) = a :: cutW b r
  | [], _ => by show cutW b (b :: r) = _; rw [cutW, if_pos rfl]
  | c :: a, h => by
    have ih := cutW_hit (b := b) r (a := a) fun x hx => h x (List.mem_cons_of_mem _ hx)
    rw [List.cons_append, cutW, if_neg (h c (List.mem_cons_self ..)), ih]
theorem cutW_len (b : UInt8) : ∀ s : Bytes, (cutW b s).length ≤ s.length + 1
  | [] => by simp [cutW]
  | c :: r => by
    have ih := cutW_len b r
    unfold cutW
    split
    · simp; omega
    · cases h : cutW b r with
      | nil => simp
      | cons x t => rw [h] at ih; simp at ih ⊢; omega
theorem cutW_mem (b : UInt8) : ∀ (s : Bytes), ∀ x ∈ cutW b s, x.length ≤ s.length
  | [], x, hx => by simp [cutW] at hx; subst hx; simp
  | c :: r, x, hx => by
    have ih := cutW_mem b r
    unfold cutW at hx
    split at hx
    · rcases List.mem_cons.1 hx with rfl | hx
      · simp
      · have := ih x hx; simp; omega
    · cases h : cutW b r with
      | nil => rw [h] at hx; simp at hx; subst hx; simp
      | cons y t =>
        rw [h] at hx ih
        simp only [List.mem_cons] at hx ih
        rcases hx with rfl | hx
        · have := ih y (.inl rfl); simp; omega
        · have := ih x (.inr hx); simp; omega
theorem cutW_join {b : UInt8} : ∀ (xs : List Bytes), xs ≠ [] → (∀ x ∈ xs, ∀ c ∈ x, c ≠ b) → cutW b (Lib.join xs [b]) = xs
  | [], h, _ => absurd rfl h
  | [x], _, h => by rw [Lib.join_one]; exact cutW_none (h x (List.mem_cons_self ..))
  | x :: y :: r, _, h => by
    have ih := cutW_join (b := b) (y :: r) (by simp) fun z hz => h z (List.mem_cons_of_mem _ hz)
    have e : Lib.join (x :: y :: r) [b] = x ++ b :: Lib.join (y :: r) [b] := by
      rw [Lib.join_cons, Lib.join_cons]
      simp [Lib.joinTail]
    rw [e, cutW_hit _ (h x (List.mem_cons_self ..)), ih]

/-- The shelf's words. -/
theorem index_none {b : UInt8} : ∀ {a : Bytes}, (∀ x ∈ a, x ≠ b) → Lib.index a [b] = -1
  | [], _ => by simp [Lib.index]
  | c :: r, h => by
    have ih := index_none (b := b) (a := r) fun x hx => h x (List.mem_cons_of_mem _ hx)
    have hc : b ≠ c := Ne.symm (h c (List.mem_cons_self ..))
    rw [Lib.index, ih]
    simp [List.isPrefixOf, hc]
theorem index_hit {b : UInt8} (r : Bytes) : ∀ {a : Bytes}, (∀ x ∈ a, x ≠ b) → Lib.index (a ++ b :: r) [b] = (a.length : Int)
  | [], _ => by rw [List.nil_append, Lib.index]; simp [List.isPrefixOf]
  | c :: a, h => by
    have ih := index_hit (b := b) r (a := a) fun x hx => h x (List.mem_cons_of_mem _ hx)
    have hc : b ≠ c := Ne.symm (h c (List.mem_cons_self ..))
    rw [List.cons_append, Lib.index, ih]
    have : ¬ ((a.length : Int) == -1) = true := by intro e; have := beq_iff_eq.1 e; omega
    simp [List.isPrefixOf, hc]
theorem first_split (b : UInt8) : ∀ s : Bytes, (∀ x ∈ s, x ≠ b) ∨ ∃ a r, s = a ++ b :: r ∧ ∀ x ∈ a, x ≠ b
  | [] => .inl (fun x hx => by cases hx)
  | c :: s => by
    by_cases h : c = b
    · subst h; exact .inr ⟨[], s, rfl, fun x hx => by cases hx⟩
    · rcases first_split b s with h1 | ⟨a, r, e, h1⟩
      · exact .inl fun x hx => by
          rcases List.mem_cons.1 hx with rfl | hx
          · exact h
          · exact h1 x hx
      · refine .inr ⟨c :: a, r, by rw [e]; rfl, fun x hx => ?_⟩
        rcases List.mem_cons.1 hx with rfl | hx
        · exact h
        · exact h1 x hx
theorem splitK_cut (b : UInt8) : ∀ (k : Nat) (s : Bytes), Lib.count s [b] = k → Lib.splitK [b] 0 k s = cutW b s
  | 0, s, h => by
    rcases first_split b s with h1 | ⟨a, r, e, h1⟩
    · rw [cutW_none h1]; rfl
    · rw [Lib.count_one, e] at h
      simp at h
  | k + 1, s, h => by
    rcases first_split b s with h1 | ⟨a, r, e, h1⟩
    · rw [Lib.count_one] at h
      have : s.count b = 0 := List.count_eq_zero.2 fun hb => h1 b hb rfl
      omega
    · have ha : a.count b = 0 := List.count_eq_zero.2 fun hb => h1 b hb rfl
      have hr : Lib.count r [b] = k := by
        rw [Lib.count_one] at h ⊢
        rw [e, List.count_append, List.count_cons_self, ha] at h
        omega
      have hi := index_hit (b := b) r h1
      rw [e, cutW_hit r h1, Lib.splitK, hi]
      have hn : ¬ ((a.length : Int) == -1) = true := by intro e; have := beq_iff_eq.1 e; omega
      rw [if_neg hn]
      have e1 : ((a.length : Int).toNat + 0) = a.length := by omega
      have e2 : (((a.length : Int).toNat) + [b].length) = a.length + 1 := by simp
      rw [e1, e2, List.take_left]
      have e3 : (a ++ b :: r).drop (a.length + 1) = r := by
        rw [List.drop_append]
        simp
      rw [e3, splitK_cut b k r hr]
theorem split_cut (b : UInt8) (s : Bytes) : Lib.splitK [b] 0 (Lib.count s [b]) s = cutW b s := splitK_cut b _ s rfl
theorem count_cutW (b : UInt8) : ∀ s : Bytes, (cutW b s).length = s.count b + 1
  | [] => rfl
  | c :: s => by
    have ih := count_cutW b s
    by_cases h : c = b
    · subst h; rw [cutW, if_pos rfl, List.length_cons, ih, List.count_cons_self]
    · rw [cutW, if_neg h, List.count_cons_of_ne (by simpa using h)]
      cases h2 : cutW b s with
      | nil => exact absurd h2 (cutW_ne b s)
      | cons x t => rw [h2] at ih; simpa using ih
theorem count_cut (b : UInt8) (s : Bytes) : (cutW b s).length = Lib.count s [b] + 1 := by
  rw [Lib.count_one]
  exact count_cutW b s
theorem cut_hit {b : UInt8} {a : Bytes} (r : Bytes) (h : ∀ x ∈ a, x ≠ b) : Lib.cut (a ++ b :: r) [b] = (a, r, true) := by
  unfold Lib.cut
  rw [index_hit r h, if_pos (by omega)]
  have e3 : (a ++ b :: r).drop ((a.length : Int).toNat + [b].length) = r := by
    have : (a.length : Int).toNat + [b].length = a.length + 1 := by simp
    rw [this, List.drop_append]
    simp
  rw [e3]
  simp
theorem cut_miss {b : UInt8} {a : Bytes} (h : ∀ x ∈ a, x ≠ b) : Lib.cut a [b] = (a, [], false) := by
  unfold Lib.cut
  rw [index_none h, if_neg (by omega)]

/-- Bytes of a step's text. -/
def bs (s : Str) : Bytes := s.data.toList
def ofBs (l : Bytes) : Str := ⟨l.toArray⟩
theorem bs_of (l : Bytes) : bs (ofBs l) = l := by simp [bs, ofBs]
theorem of_bs (s : Str) : ofBs (bs s) = s := by
  unfold bs ofBs
  obtain ⟨⟨l⟩⟩ := s
  rfl
theorem bs_app (a b : Str) : bs (a ++ b) = bs a ++ bs b := bl_app a b
theorem bs_len (s : Str) : (bs s).length = s.size := rfl
theorem name_byte {s : Str} (h : nameB s = true) : ∀ c ∈ bs s, 97 ≤ c.toNat ∧ c.toNat ≤ 122 := by
  intro c hc
  unfold nameB at h
  simp only [Bool.and_eq_true] at h
  have h2 := List.all_eq_true.1 h.2 c (by
    show c ∈ _
    exact hc)
  unfold lowB at h2
  simp only [Bool.and_eq_true, decide_eq_true_eq] at h2
  omega
theorem bs_names {xs : List Str} : bs (namesS xs) = if xs.length = 0 then [45] else Lib.join (xs.map bs) [44] := by
  unfold namesS
  by_cases h : xs.length = 0
  · rw [if_pos h, if_pos h]; rfl
  · rw [if_neg h, if_neg h, ← jnS_join (by omega)]
    exact bs_of _
theorem bs_step (t : Step) : bs (stepS t) = bs t.name ++ 58 :: (bs (namesS t.after) ++ if t.undo then [] else [33]) := by
  unfold stepS
  cases t.undo
  · simp only [Bool.false_eq_true, if_false]
    rw [bs_app, bs_app, bs_app]
    simp [bs]
  · simp only [if_true]
    rw [bs_app, bs_app]
    simp [bs]
theorem join_bytes {P : UInt8 → Prop} (h44 : P 44) : ∀ xs : List Bytes, (∀ x ∈ xs, ∀ c ∈ x, P c) → ∀ c ∈ Lib.join xs [44], P c
  | [], _, c, hc => by simp [Lib.join] at hc
  | [x], h, c, hc => by rw [Lib.join_one] at hc; exact h x (List.mem_cons_self ..) c hc
  | x :: y :: r, h, c, hc => by
    have e : Lib.join (x :: y :: r) [44] = x ++ 44 :: Lib.join (y :: r) [44] := by
      rw [Lib.join_cons, Lib.join_cons]
      simp [Lib.joinTail]
    rw [e] at hc
    rcases List.mem_append.1 hc with hc | hc
    · exact h x (List.mem_cons_self ..) c hc
    · rcases List.mem_cons.1 hc with rfl | hc
      · exact h44
      · exact join_bytes h44 (y :: r) (fun z hz => h z (List.mem_cons_of_mem _ hz)) c hc
theorem names_byte {xs : List Str} (h : ∀ j, j < xs.length → nameB (nth xs j) = true) : ∀ c ∈ bs (namesS xs), c ≠ 58 ∧ c ≠ 33 := by
  intro c hc
  rw [bs_names] at hc
  split at hc
  · simp at hc; subst hc; decide
  · refine join_bytes (P := fun c => c ≠ 58 ∧ c ≠ 33) (by decide) (xs.map bs) (fun x hx => ?_) c hc
    obtain ⟨s, hs, rfl⟩ := List.mem_map.1 hx
    obtain ⟨j, hj, rfl⟩ := nth_of_mem hs
    intro c hc
    have h2 := name_byte (h j hj) c hc
    constructor <;> (intro e; subst e; revert h2; decide)
theorem name_no {s : Str} (h : nameB s = true) (b : UInt8) (hb : b.toNat < 97) : ∀ c ∈ bs s, c ≠ b := by
  intro c hc e
  subst e
  have := name_byte h c hc
  omega

/-- The text ahead of the mark, and whether there is none. -/
def restL (s : Str) : Bytes := if bs s ≠ [] ∧ (bs s).getLast? = some 33 then (bs s).dropLast else bs s
def undoL (s : Str) : Bool := !decide ((bs s).getLast? = some 33)
/-- What a text's words are read as. -/
def readS (s : Str) (name after : Bytes) : Step := ⟨ofBs name, if after = [45] then [] else (cutW 44 after).map ofBs, undoL s⟩

theorem step_rest {t : Step} (h : stepB t = true) : restL (stepS t) = bs t.name ++ 58 :: bs (namesS t.after) ∧ undoL (stepS t) = t.undo := by
  obtain ⟨_, _, hnm⟩ := stepB_sizes h
  have hb := names_byte hnm
  have hne : bs (namesS t.after) ≠ [] := by
    rw [bs_names]
    split
    · simp
    · intro e
      have h1 := congrArg List.length e
      cases ha : t.after with
      | nil => simp [ha] at *
      | cons x r =>
        have hx : nameB x = true := by have := hnm 0 (by rw [ha]; simp); rw [ha] at this; exact this
        have hs := (nameB_size hx).1
        rw [ha, List.map_cons, Lib.join_cons] at h1
        simp at h1
        have : (bs x).length = x.size := bs_len x
        rw [h1.1] at this
        simp at this
        omega
  unfold restL undoL
  rw [bs_step]
  cases t.undo
  · simp only [Bool.false_eq_true, if_false]
    have e1 : (bs t.name ++ 58 :: (bs (namesS t.after) ++ [33])) = (bs t.name ++ 58 :: bs (namesS t.after)) ++ [33] := by simp
    rw [e1]
    generalize bs t.name ++ 58 :: bs (namesS t.after) = q
    have h1 : (q ++ [(33 : UInt8)]).getLast? = some 33 := List.getLast?_concat ..
    rw [h1, if_pos ⟨by simp, rfl⟩, List.dropLast_concat]
    exact ⟨rfl, by simp⟩
  · simp only [if_true, List.append_nil]
    have e1 : (bs t.name ++ 58 :: bs (namesS t.after)).getLast? ≠ some 33 := by
      rw [List.getLast?_append]
      have : (58 :: bs (namesS t.after)).getLast? = (bs (namesS t.after)).getLast? := by
        cases hx : bs (namesS t.after) with
        | nil => exact absurd hx hne
        | cons a r => rfl
      rw [this]
      cases hx : (bs (namesS t.after)).getLast? with
      | none => exact absurd (List.getLast?_eq_none_iff.1 hx) hne
      | some c =>
        have := hb c (List.mem_of_getLast? hx)
        simp [this.2]
    rw [if_neg (fun h => e1 h.2)]
    exact ⟨rfl, by rw [decide_eq_false e1]; rfl⟩
theorem step_read {t : Step} (h : stepB t = true) : readS (stepS t) (bs t.name) (bs (namesS t.after)) = t := by
  obtain ⟨_, _, hnm⟩ := stepB_sizes h
  unfold readS
  rw [(step_rest h).2, of_bs]
  have ha : (if bs (namesS t.after) = [45] then [] else (cutW 44 (bs (namesS t.after))).map ofBs) = t.after := by
    rw [bs_names]
    by_cases h0 : t.after.length = 0
    · rw [if_pos h0, if_pos rfl]
      exact (List.length_eq_zero_iff.1 h0).symm
    · rw [if_neg h0]
      have hmem : ∀ x ∈ t.after.map bs, ∀ c ∈ x, 97 ≤ c.toNat := fun x hx c hc => by
        obtain ⟨s, hs, rfl⟩ := List.mem_map.1 hx
        obtain ⟨j, hj, rfl⟩ := nth_of_mem hs
        exact (name_byte (hnm j hj) c hc).1
      have hne : Lib.join (t.after.map bs) [44] ≠ [45] := by
        intro e
        have : ∀ c ∈ Lib.join (t.after.map bs) [44], c ≠ 45 := join_bytes (by decide) _ fun x hx c hc e => by
          have := hmem x hx c hc
          subst e
          revert this; decide
        exact this 45 (by rw [e]; simp) rfl
      rw [if_neg hne, cutW_join _ (by intro e; apply h0; simpa using e) fun x hx c hc e => by
        have := hmem x hx c hc
        subst e
        revert this; decide]
      rw [List.map_map]
      have : (ofBs ∘ bs) = id := by funext s; exact of_bs s
      rw [this, List.map_id]
  rw [ha]

/-- The step of a text, if it is that of one. -/
def fromW (s : Str) : Option Step := match cutW 58 (restL s) with
  | [a, b] => if stepB (readS s a b) = true ∧ stepS (readS s a b) = s then some (readS s a b) else none
  | _ => none
def noStep : Step := ⟨⟨#[]⟩, [], false⟩
def fromB (s : Str) : Bool := (fromW s).isSome
def fromT (s : Str) : Step := (fromW s).getD noStep
theorem stepS_inj {t u : Step} (h : stepB t = true) (k : stepB u = true) (e : stepS t = stepS u) : t = u := by
  have h1 := (step_rest h).1
  have k1 := (step_rest k).1
  obtain ⟨_, hn, hnm⟩ := stepB_sizes h
  have hname : nameB t.name = true ∧ nameB u.name = true := by
    unfold stepB at h k
    simp only [Bool.and_eq_true] at h k
    exact ⟨h.1.1.2, k.1.1.2⟩
  have c1 := cut_hit (b := 58) (bs (namesS t.after)) (name_no hname.1 58 (by decide))
  have c2 := cut_hit (b := 58) (bs (namesS u.after)) (name_no hname.2 58 (by decide))
  rw [← h1] at c1
  rw [← k1] at c2
  rw [e, c2] at c1
  injection c1 with e1 e2
  injection e2 with e2 _
  have := step_read h
  rw [← e1, ← e2, e, step_read k] at this
  exact this.symm
theorem fromW_of {t : Step} (h : stepB t = true) : fromW (stepS t) = some t := by
  obtain ⟨_, _, hnm⟩ := stepB_sizes h
  have hname : nameB t.name = true := by
    unfold stepB at h
    simp only [Bool.and_eq_true] at h
    exact h.1.1.2
  have e : cutW 58 (restL (stepS t)) = [bs t.name, bs (namesS t.after)] := by
    rw [(step_rest h).1, cutW_hit _ (name_no hname 58 (by decide)), cutW_none (fun c hc => (names_byte hnm c hc).1)]
  unfold fromW
  rw [e]
  show (if stepB (readS (stepS t) (bs t.name) (bs (namesS t.after))) = true ∧ stepS (readS (stepS t) (bs t.name) (bs (namesS t.after))) = stepS t then some (readS (stepS t) (bs t.name) (bs (namesS t.after))) else none) = some t
  rw [step_read h, if_pos ⟨h, rfl⟩]
theorem fromW_some {s : Str} {t : Step} (h : fromW s = some t) : stepB t = true ∧ stepS t = s := by
  unfold fromW at h
  split at h
  · rename_i a b _
    by_cases hc : stepB (readS s a b) = true ∧ stepS (readS s a b) = s
    · rw [if_pos hc] at h
      rw [← Option.some.inj h]
      exact hc
    · rw [if_neg hc] at h; cases h
  · cases h
theorem from_yes {s : Str} {t : Step} (h : stepB t = true) (e : stepS t = s) : fromB s = true ∧ fromT s = t := by
  have hx := fromW_of h
  rw [e] at hx
  unfold fromB fromT
  rw [hx]
  exact ⟨rfl, rfl⟩
theorem from_ex {s : Str} (h : fromB s = true) : stepB (fromT s) = true ∧ stepS (fromT s) = s := by
  unfold fromB at h
  unfold fromT
  cases hx : fromW s with
  | none => rw [hx] at h; cases h
  | some t => exact fromW_some hx
theorem from_not {s : Str} (h : fromB s = false) : fromT s = noStep := by
  unfold fromB at h
  unfold fromT
  cases hx : fromW s with
  | none => rfl
  | some t => rw [hx] at h; cases h
theorem from_no {s : Str} (h : ∀ t, stepB t = true → stepS t ≠ s) : fromB s = false := by
  cases hb : fromB s
  · rfl
  · obtain ⟨h1, h2⟩ := from_ex hb
    exact absurd h2 (h _ h1)
theorem from_text (t : Step) (s : Str) : (stepB t = true ∧ stepS t = s) ↔ (fromB s = true ∧ fromT s = t) :=
  ⟨fun h => from_yes h.1 h.2, fun h => h.2 ▸ from_ex h.1⟩
/-- The text's words, where it is a step's. -/
theorem from_words {s : Str} (h : fromB s = true) : ∃ name after : Bytes, restL s = name ++ 58 :: after ∧ (∀ c ∈ name, c ≠ 58) ∧ (∀ c ∈ after, c ≠ 58) ∧ readS s name after = fromT s ∧ s.size ≤ 100 := by
  obtain ⟨h1, h2⟩ := from_ex h
  obtain ⟨h4, hz, hnm⟩ := stepB_sizes h1
  have hname : nameB (fromT s).name = true := by
    unfold stepB at h1
    simp only [Bool.and_eq_true] at h1
    exact h1.1.1.2
  refine ⟨bs (fromT s).name, bs (namesS (fromT s).after), ?_, name_no hname 58 (by decide), fun c hc => (names_byte hnm c hc).1, ?_, ?_⟩
  · have := (step_rest h1).1; rw [h2] at this; exact this
  · have := step_read h1; rw [h2] at this; exact this
  · have e := bs_step (fromT s)
    have e2 := congrArg List.length e
    rw [h2, bs_len] at e2
    have e3 := namesS_size h4 hnm
    simp only [List.length_append, List.length_cons, bs_len] at e2
    split at e2 <;> simp at e2 <;> omega
end Go.Proofs.YthdfefgianokgaaDoor

/- What the program and the reference read from a text. No program in sight. -/
namespace Go.Proofs.YthdfefgianokgaaDoor
open Go.RowKit

theorem suf_rest (s : Str) : Lib.trimSuffix (bs s) [33] = restL s ∧ Lib.hasSuffix (bs s) [33] = !undoL s := by
  unfold restL undoL Lib.trimSuffix Lib.hasSuffix
  generalize bs s = q
  by_cases h : q.getLast? = some 33
  · obtain ⟨t, rfl⟩ := List.getLast?_eq_some_iff.1 h
    have h1 : List.isSuffixOf [33] (t ++ [(33 : UInt8)]) = true := List.isSuffixOf_iff_suffix.2 ⟨t, rfl⟩
    have hne : t ++ [(33 : UInt8)] ≠ [] := by simp
    rw [h1, if_pos rfl, if_pos ⟨hne, h⟩, decide_eq_true h]
    simp
  · have h1 : List.isSuffixOf [33] q = false := by
      cases hx : List.isSuffixOf [33] q
      · rfl
      · obtain ⟨t, e⟩ := List.isSuffixOf_iff_suffix.1 hx
        exact absurd (by rw [← e]; exact List.getLast?_concat ..) h
    rw [h1, if_neg (by simp), if_neg (fun hc => h hc.2), decide_eq_false h]
    exact ⟨rfl, rfl⟩
theorem splitB_cut (b : UInt8) (s : Str) : (Lib.splitB ⟨#[b]⟩ 0 (Lib.countB s ⟨#[b]⟩) s) = (cutW b (bs s)).map ofBs := by
  have h := Lib.splitB_data ⟨#[b]⟩ 0 (Lib.countB s ⟨#[b]⟩) s
  have h2 : Lib.splitK [b] 0 (Lib.countB s ⟨#[b]⟩) (bs s) = cutW b (bs s) := split_cut b (bs s)
  rw [← h2]
  have h3 : (Lib.splitB ⟨#[b]⟩ 0 (Lib.countB s ⟨#[b]⟩) s).map (·.data.toList) = Lib.splitK [b] 0 (Lib.countB s ⟨#[b]⟩) (bs s) := h
  rw [← h3, List.map_map]
  have : (ofBs ∘ fun x : ByteArray => x.data.toList) = id := by funext x; exact of_bs x
  rw [this, List.map_id]
theorem countB_cut (b : UInt8) (s : Str) : Lib.countB s ⟨#[b]⟩ + 1 = (cutW b (bs s)).length := (count_cut b (bs s)).symm

/-- What the program reads. -/
def cutI (s : Str) : Bytes × Bytes × Bool := Lib.cut (restL s) [58]
def rdI (s : Str) : Step := readS s (cutI s).1 (cutI s).2.1
theorem cutI_of {s : Str} (h : fromB s = true) : (cutI s).2.2 = true ∧ rdI s = fromT s := by
  obtain ⟨name, after, h1, h2, _, h4, _⟩ := from_words h
  unfold rdI cutI
  rw [h1, cut_hit after h2]
  exact ⟨rfl, h4⟩
theorem fromI_none {s : Str} (h : (cutI s).2.2 = false) : fromB s = false := by
  cases hb : fromB s
  · rfl
  · rw [(cutI_of hb).1] at h; cases h
theorem fromI_ne {s : Str} (h : textS (rdI s) ≠ s) : fromB s = false := by
  cases hb : fromB s
  · rfl
  · obtain ⟨h1, h2⟩ := from_ex hb
    rw [(cutI_of hb).2] at h
    exact absurd (by unfold textS; rw [if_pos h1, h2]) h
theorem fromI_eq {s : Str} (h : (cutI s).2.2 = true) (e : textS (rdI s) = s) : fromB s = true ∧ fromT s = rdI s := by
  cases hb : stepB (rdI s)
  · unfold textS at e
    rw [if_neg (by rw [hb]; simp)] at e
    subst e
    exact absurd h (by decide)
  · unfold textS at e
    rw [if_pos hb] at e
    exact from_yes hb e
/-- What the reference reads. -/
theorem fromS_len {s : Str} (h : (cutW 58 (restL s)).length ≠ 2) : fromB s = false := by
  unfold fromB fromW
  split
  · rename_i a b e
    rw [e] at h
    exact absurd rfl h
  · rfl
theorem fromS_no {s : Str} {a b : Bytes} (h : cutW 58 (restL s) = [a, b]) (hn : ¬ (stepB (readS s a b) = true ∧ stepS (readS s a b) = s)) : fromB s = false := by
  unfold fromB fromW
  rw [h]
  show (if stepB (readS s a b) = true ∧ stepS (readS s a b) = s then some (readS s a b) else none).isSome = false
  rw [if_neg hn]
  rfl
theorem two_of {l : List Bytes} (h : l.length = 2) : ∃ a b, l = [a, b] := by
  match l, h with
  | [a, b], _ => exact ⟨a, b, rfl⟩

/-- A text with a byte more is none. -/
theorem name_last2 {s : Str} (h : nameB s = true) : ∃ k b, lastIs s k b ∧ b ≠ 44 := by
  have h1 := nameB_size h
  refine ⟨s.size - 1, s[s.size - 1]'(by omega), ⟨by omega, fun _ => rfl⟩, ?_⟩
  exact name_no h 44 (by decide) _ (by
    show s.data[s.size - 1]'_ ∈ _
    rw [← Array.getElem_toList]
    exact List.getElem_mem _)
theorem names_last2 {xs : List Str} (h : ∀ j, j < xs.length → nameB (nth xs j) = true) : ∃ k b, lastIs (namesS xs) k b ∧ b ≠ 44 := by
  unfold namesS
  split
  · exact ⟨0, 45, lastIs_one 45, by decide⟩
  · obtain ⟨k, hk⟩ : ∃ k, xs.length = k + 1 := ⟨xs.length - 1, by omega⟩
    obtain ⟨i, b, hi, hb⟩ := name_last2 (h k (by omega))
    rw [hk]
    exact ⟨_, b, lastIs_app hi, hb⟩
theorem step_last2 {t : Step} (h : stepB t = true) : ∃ k b, lastIs (stepS t) k b ∧ b ≠ 44 := by
  obtain ⟨_, _, hnm⟩ := stepB_sizes h
  obtain ⟨k, b, h1, h2⟩ := names_last2 hnm
  unfold stepS
  cases t.undo
  · exact ⟨_, 33, lastIs_app (lastIs_one 33), by decide⟩
  · exact ⟨_, b, lastIs_app h1, h2⟩
theorem lastIs_eq {y : Str} {k j : Nat} {b c : UInt8} (h : lastIs y k b) (g : lastIs y j c) : b = c := by
  have e : k = j := by have := h.1; have := g.1; omega
  subst e
  rw [← h.2 (by have := h.1; omega), ← g.2 (by have := h.1; omega)]
theorem from_comma (s : Str) : fromB (s ++ ⟨#[44]⟩) = false :=
  from_no fun t h e => by
    obtain ⟨k, b, h1, h2⟩ := step_last2 h
    rw [e] at h1
    exact h2 (lastIs_eq h1 (lastIs_app (lastIs_one 44)))
theorem from_space (s : Str) : fromB (⟨#[32]⟩ ++ s) = false :=
  from_no fun t h e => by
    obtain ⟨_, hz, _⟩ := stepB_sizes h
    have hname : nameB t.name = true := by
      unfold stepB at h
      simp only [Bool.and_eq_true] at h
      exact h.1.1.2
    have e1 := congrArg bs e
    rw [bs_step, bs_app] at e1
    cases hx : bs t.name with
    | nil =>
      have h0 : (bs t.name).length = t.name.size := bs_len _
      rw [hx] at h0
      have h1 : t.name.size = 0 := h0.symm
      omega
    | cons c r =>
      rw [hx] at e1
      have e2 : c = 32 := (List.cons.inj e1).1
      exact name_no hname 32 (by decide) c (by rw [hx]; exact List.mem_cons_self ..) e2
end Go.Proofs.YthdfefgianokgaaDoor

/- The program's StepFrom. -/
namespace Go.Proofs.YthdfefgianokgaaDoor
open Go.RowKit

/-- The library's variable holds an int. -/
def HasMax (w : World) : Prop := ∃ m, w.cell? ⟨0, 0, none⟩ = some (.int .i64 m)
theorem HasMax.lt {w : World} (h : HasMax w) : 0 < w.heap.size := by
  obtain ⟨m, hm⟩ := h
  rcases Nat.lt_or_ge 0 w.heap.size with h | h
  · exact h
  · have : w.heap[0]? = none := Array.getElem?_eq_none h
    simp [World.cell?, this] at hm
theorem HasMax.below {w w' : World} {B : Nat} (h : HasMax w) (hb : Below B w w') (hB : B = w.heap.size) : HasMax w' := by
  have hl := h.lt
  obtain ⟨m, hm⟩ := h
  exact ⟨m, (hb.cell (p := ⟨0, 0, none⟩) (by rw [hB]; exact hl)).trans hm⟩

theorem sstr_none (w : World) (lo : Nat) : SStr w lo none 0 [] := ⟨rfl, fun h => absurd h (by omega)⟩
theorem nth_map_ofBs (l : List Bytes) (j : Nat) (h : j < l.length) : nth (l.map ofBs) j = ofBs l[j] := by
  rw [nth_eq (by simpa using h)]
  simp
theorem restL_len (s : Str) : (restL s).length ≤ s.size := by
  unfold restL
  have : (bs s).length = s.size := bs_len s
  split
  · simp; omega
  · omega
theorem cutI_len (s : Str) : (cutI s).1.length ≤ s.size ∧ (cutI s).2.1.length ≤ s.size - 1 := by
  have h := restL_len s
  unfold cutI Lib.cut
  split
  · simp; omega
  · simp; omega
theorem ofBs_size (l : Bytes) : (ofBs l).size = l.length := by simp [ofBs, ByteArray.size]
theorem read_sizes (s : Str) : (rdI s).name.size ≤ s.size ∧ (rdI s).after.length ≤ s.size - 1 + 1 ∧ ∀ j, j < (rdI s).after.length → (nth (rdI s).after j).size ≤ s.size := by
  obtain ⟨h1, h2⟩ := cutI_len s
  unfold rdI readS
  refine ⟨by rw [ofBs_size]; exact h1, ?_, ?_⟩
  · show (if (cutI s).2.1 = [45] then [] else (cutW 44 (cutI s).2.1).map ofBs).length ≤ _
    split
    · simp
    · have := cutW_len 44 (cutI s).2.1
      simp; omega
  · show ∀ j, j < (if (cutI s).2.1 = [45] then [] else (cutW 44 (cutI s).2.1).map ofBs).length → (nth (if (cutI s).2.1 = [45] then [] else (cutW 44 (cutI s).2.1).map ofBs) j).size ≤ _
    split
    · intro j hj; simp at hj
    · intro j hj
      rw [List.length_map] at hj
      rw [nth_map_ofBs _ j hj, ofBs_size]
      have := cutW_mem 44 (cutI s).2.1 _ (List.getElem_mem hj)
      omega
theorem sstr_block {w : World} {b : Nat} {xs : List Str} (h : w.heap[b]? = some (.cells (xs.map Value.string).toArray 9 (0, 0))) : SStr w b (some ⟨b, 0, none⟩) xs.length xs :=
  ⟨rfl, fun _ => ⟨b, _, rfl, Nat.le_refl _, h, fun j hj => by simp [List.getElem?_eq_getElem hj, nth_eq hj]⟩⟩
theorem SStr.set {w : World} {base b o n : Nat} {A : Option Addr} {xs : List Str} {u : Value} (h : SStr w base A n xs) (hb : b < base) : SStr (w.setCell ⟨b, o, none⟩ u) base A n xs :=
  h.kept fun b' _ h1 _ => Below.heap_setCell w ⟨b, o, none⟩ u b' (by intro e; simp at e; omega)
theorem okStep_rdI {s : Str} (h : s.size ≤ 1048576) : okStep (rdI s) := by
  obtain ⟨h1, h2, h3⟩ := read_sizes s
  have hm : 1048576 ≤ maxLen := by unfold maxLen; omega
  exact ⟨by omega, by omega, fun j hj => by have := h3 j hj; omega⟩
theorem toList_bs (s : Str) : s.toList = bs s := by rw [ByteArray.toList_eq]; rfl
theorem str_ne (a b : Str) : (a.toList != b.toList) = !decide (a = b) := by
  by_cases h : a = b
  · subst h; simp
  · have : a.toList ≠ b.toList := fun e => h (by rw [toList_bs, toList_bs] at e; have := congrArg ofBs e; rwa [of_bs, of_bs] at this)
    simp [h, this]

set_option maxRecDepth 100000 in
theorem stepFromI_any (s : Str) (w : World) (hs : s.size ≤ 1048576) (hm : HasMax w) :
    Calls Tryd.prog 13 #[.string s] w fun e w' => ∃ A n c, e = .returned (.tuple #[.agg #[.string (fromT s).name, .slice A n c, .bool (fromT s).undo], .bool (fromB s)]) ∧ SStr w' w.heap.size A n (fromT s).after ∧ n ≤ c ∧ Below w.heap.size w w' := by
  have HM := Lib.hid hm; clear hm
  have hp := suf_rest s
  go_enter Tryd.func13, Tryd.ntmps13
  go_wp2_with fail
  refine (Tryd.strings_CutSuffix s ⟨#[33]⟩ _ (by omega)).mono ?_
  rintro e w1 ⟨rfl, rfl⟩
  rw [show Lib.trimSuffix s.data.toList (⟨#[33]⟩ : ByteArray).data.toList = restL s from hp.1, show Lib.hasSuffix s.data.toList (⟨#[33]⟩ : ByteArray).data.toList = !undoL s from hp.2]
  clear hp
  have HB0 := Lib.hid ((Below.refl w.heap.size w).alloc (Nat.le_refl _) (.cells #[.string ⟨#[]⟩, .slice none 0 0, .bool false] 25))
  have HX0 := Lib.hid (heap_new (w := w) (o := .cells #[.string ⟨#[]⟩, .slice none 0 0, .bool false] 25) rfl)
  go_wp2_with fail
  obtain ⟨m, hm⟩ := HM.out.below HB0.out rfl
  have hl := restL_len s
  refine (Tryd.strings_Cut ⟨(restL s).toArray⟩ ⟨#[58]⟩ m _ (by show (restL s).toArray.size < _; simp; omega) hm).mono ?_
  rintro e w1 ⟨rfl, nd, rfl⟩
  clear hm
  rw [show Lib.cut (⟨(restL s).toArray⟩ : ByteArray).data.toList (⟨#[58]⟩ : ByteArray).data.toList = cutI s from rfl]
  have hD : Below w.heap.size w ((w.alloc (.cells #[.string ⟨#[]⟩, .slice none 0 0, .bool false] 25)).drewN nd) := below_drewN HB0.out _
  have hXD : ((w.alloc (.cells #[.string ⟨#[]⟩, .slice none 0 0, .bool false] 25)).drewN nd).heap[w.heap.size]? = some (.cells #[.string ⟨#[]⟩, .slice none 0 0, .bool false] 25 (0, 0)) := by rw [World.heap_drewN]; exact HX0.out
  have hsz : ((w.alloc (.cells #[.string ⟨#[]⟩, .slice none 0 0, .bool false] 25)).drewN nd).heap.size = w.heap.size + 1 := by rw [World.heap_drewN]; simp
  generalize ((w.alloc (.cells #[.string ⟨#[]⟩, .slice none 0 0, .bool false] 25)).drewN nd) = wd at *
  have HBD := Lib.hid hD; clear hD
  have HXD := Lib.hid hXD; clear hXD
  clear HB0 HX0
  cases hok : (cutI s).2.2
  · have HF := Lib.hid (fromI_none hok)
    have r0a := (blk_cl (k := 0) HXD.out rfl).1
    have r0b := (blk_cl (k := 0) HXD.out rfl).2
    have r1a := (blk_cl (k := 1) HXD.out rfl).1
    have r1b := (blk_cl (k := 1) HXD.out rfl).2
    have r2a := (blk_cl (k := 2) HXD.out rfl).1
    have r2b := (blk_cl (k := 2) HXD.out rfl).2
    go_wp2_with fail
    have hres := set3 (u0 := .string ⟨#[]⟩) (u1 := .slice none 0 0) (u2 := .bool false) HXD.out
    have e0 := (blk_cl (k := 0) hres rfl).1
    have e1 := (blk_cl (k := 1) hres rfl).1
    have e2 := (blk_cl (k := 2) hres rfl).1
    refine bodyPost_ret (v := .tuple #[.agg #[.string ⟨#[]⟩, .slice none 0 0, .bool false], .bool false]) (by simp [results, Tryd.results13, go_sem, e0, e1, e2]) rfl ⟨none, 0, 0, ?_, ?_, Nat.le_refl _, ?_⟩
    · rw [from_not HF.out, HF.out]; rfl
    · rw [from_not HF.out]; exact sstr_none _ _
    · exact ((HBD.out.setCell (p := ⟨w.heap.size, 0, none⟩) (Nat.le_refl _) _).setCell (p := ⟨w.heap.size, 1, none⟩) (Nat.le_refl _) _).setCell (p := ⟨w.heap.size, 2, none⟩) (Nat.le_refl _) _
  · have HOK := Lib.hid (okStep_rdI hs)
    have HAY := Lib.hid (show (rdI s).after = if (cutI s).2.1 = [45] then [] else (cutW 44 (cutI s).2.1).map ofBs from rfl)
    by_cases hy : (cutI s).2.1 = [45]
    · have hq : ((cutI s).2.1 == [45]) = true := beq_iff_eq.2 hy
      have HA0 := Lib.hid (show (rdI s).after = [] by rw [HAY.out, if_pos hy])
      have HY0 := Lib.hid (heap_new (w := wd) (o := .cells #[.string ⟨(cutI s).1.toArray⟩, .slice none 0 0, .bool (undoL s)] 25) rfl)
      have HB1 := Lib.hid (HBD.out.alloc HBD.out.size (.cells #[.string ⟨(cutI s).1.toArray⟩, .slice none 0 0, .bool (undoL s)] 25))
      have HX1 := Lib.hid (heap_old (o := .cells #[.string ⟨(cutI s).1.toArray⟩, .slice none 0 0, .bool (undoL s)] 25) HXD.out)
      go_wp2_with fail
      refine (stepTextI_any none 0 0 (rdI s) w.heap.size _ (by rw [HA0.out]; exact (sstr_none _ _).hat) HOK.out (Nat.le_refl _)).mono ?_
      rintro e w2 ⟨rfl, hb2⟩
      have hx2 := (hb2.block _ (heap_lt HX1.out)).trans HX1.out
      have hy2 := (hb2.block _ (heap_lt HY0.out)).trans HY0.out
      rw [hsz] at hy2
      have HB2 := Lib.hid (HB1.out.trans (hb2.mono HB1.out.size))
      have HSS := Lib.hid (show SStr w2 w.heap.size none 0 (rdI s).after by rw [HA0.out]; exact sstr_none _ _)
      clear hb2 HX1 HY0 HB1 hq hy
      generalize eT : textS (rdI s) = T
      have r0a := (blk_cl (k := 0) hx2 rfl).1
      have r0b := (blk_cl (k := 0) hx2 rfl).2
      have r1a := (blk_cl (k := 1) hx2 rfl).1
      have r1b := (blk_cl (k := 1) hx2 rfl).2
      have r2a := (blk_cl (k := 2) hx2 rfl).1
      have r2b := (blk_cl (k := 2) hx2 rfl).2
      have y0a := (blk_cl (k := 0) hy2 rfl).1
      have y1a := (blk_cl (k := 1) hy2 rfl).1
      have y2a := (blk_cl (k := 2) hy2 rfl).1
      have HX2 := Lib.hid hx2
      clear hx2 hy2
      by_cases hT : T = s
      · have HT := Lib.hid (fromI_eq hok (eT.trans hT))
        have q0 : (T.toList == s.toList) = true := by rw [hT]; simp
        clear hT eT
        go_wp2_with fail
        have hres := set3 (u0 := .string ⟨(cutI s).1.toArray⟩) (u1 := .slice none 0 0) (u2 := .bool (undoL s)) HX2.out
        have e0 := (blk_cl (k := 0) hres rfl).1
        have e1 := (blk_cl (k := 1) hres rfl).1
        have e2 := (blk_cl (k := 2) hres rfl).1
        refine bodyPost_ret (v := .tuple #[.agg #[.string ⟨(cutI s).1.toArray⟩, .slice none 0 0, .bool (undoL s)], .bool true]) (by simp [results, Tryd.results13, go_sem, e0, e1, e2]) rfl ⟨none, 0, 0, ?_, ?_, Nat.le_refl _, ?_⟩
        · rw [HT.out.1, HT.out.2]; rfl
        · rw [HT.out.2, HA0.out]; exact sstr_none _ _
        · exact ((HB2.out.setCell (p := ⟨w.heap.size, 0, none⟩) (Nat.le_refl _) _).setCell (p := ⟨w.heap.size, 1, none⟩) (Nat.le_refl _) _).setCell (p := ⟨w.heap.size, 2, none⟩) (Nat.le_refl _) _
      · have HF := Lib.hid (fromI_ne (s := s) (by rw [eT]; exact hT))
        have q0 : (T.toList == s.toList) = false := by
          rw [beq_eq_false_iff_ne]
          intro e
          rw [toList_bs, toList_bs] at e
          exact hT (by have := congrArg ofBs e; rwa [of_bs, of_bs] at this)
        clear hT eT
        go_wp2_with fail
        have hres := set3 (u0 := .string ⟨#[]⟩) (u1 := .slice none 0 0) (u2 := .bool false) HX2.out
        have e0 := (blk_cl (k := 0) hres rfl).1
        have e1 := (blk_cl (k := 1) hres rfl).1
        have e2 := (blk_cl (k := 2) hres rfl).1
        refine bodyPost_ret (v := .tuple #[.agg #[.string ⟨#[]⟩, .slice none 0 0, .bool false], .bool false]) (by simp [results, Tryd.results13, go_sem, e0, e1, e2]) rfl ⟨none, 0, 0, ?_, ?_, Nat.le_refl _, ?_⟩
        · rw [from_not HF.out, HF.out]; rfl
        · rw [from_not HF.out]; exact sstr_none _ _
        · exact ((HB2.out.setCell (p := ⟨w.heap.size, 0, none⟩) (Nat.le_refl _) _).setCell (p := ⟨w.heap.size, 1, none⟩) (Nat.le_refl _) _).setCell (p := ⟨w.heap.size, 2, none⟩) (Nat.le_refl _) _
    · have hq : ((cutI s).2.1 == [45]) = false := beq_eq_false_iff_ne.2 hy
      have HA1 := Lib.hid (show (rdI s).after = (cutW 44 (cutI s).2.1).map ofBs by rw [HAY.out, if_neg hy])
      have HY0 := Lib.hid (heap_new (w := wd) (o := .cells #[.string ⟨(cutI s).1.toArray⟩, .slice none 0 0, .bool (undoL s)] 25) rfl)
      have HB1 := Lib.hid (HBD.out.alloc HBD.out.size (.cells #[.string ⟨(cutI s).1.toArray⟩, .slice none 0 0, .bool (undoL s)] 25))
      have HX1 := Lib.hid (heap_old (o := .cells #[.string ⟨(cutI s).1.toArray⟩, .slice none 0 0, .bool (undoL s)] 25) HXD.out)
      have hl2 := (cutI_len s).2
      go_wp2_with fail
      obtain ⟨m2, hm2⟩ := HM.out.below HB1.out rfl
      refine (Tryd.strings_Split ⟨(cutI s).2.1.toArray⟩ ⟨#[44]⟩ m2 _ (by show (cutI s).2.1.toArray.size < _; simp; omega) hm2 (by decide)).mono ?_
      rintro e w1 ⟨rfl, rfl⟩
      clear hm2
      have hcnt : Lib.countB (⟨(cutI s).2.1.toArray⟩ : ByteArray) ⟨#[44]⟩ + 1 = (rdI s).after.length := by
        have := countB_cut 44 (ofBs (cutI s).2.1)
        rw [bs_of] at this
        rw [HA1.out, List.length_map]
        exact this
      have hspl : Lib.splitB ⟨#[44]⟩ 0 (Lib.countB (⟨(cutI s).2.1.toArray⟩ : ByteArray) ⟨#[44]⟩) ⟨(cutI s).2.1.toArray⟩ = (rdI s).after := by
        have := splitB_cut 44 (ofBs (cutI s).2.1)
        rw [bs_of] at this
        rw [HA1.out]
        exact this
      rw [hcnt, hspl]
      have hsz1 : (wd.alloc (.cells #[.string ⟨(cutI s).1.toArray⟩, .slice none 0 0, .bool (undoL s)] 25)).heap.size = w.heap.size + 1 + 1 := by rw [World.size_alloc, hsz]
      rw [hsz1]
      have hz3 := heap_new (w := wd.alloc (.cells #[.string ⟨(cutI s).1.toArray⟩, .slice none 0 0, .bool (undoL s)] 25)) (o := .cells ((rdI s).after.map Value.string).toArray 9) (b := w.heap.size + 1 + 1) hsz1.symm
      have hy3 := heap_old (o := .cells ((rdI s).after.map Value.string).toArray 9) HY0.out
      rw [hsz] at hy3
      have hx3 := heap_old (o := .cells ((rdI s).after.map Value.string).toArray 9) HX1.out
      have hb3 := HB1.out.alloc HB1.out.size (.cells ((rdI s).after.map Value.string).toArray 9)
      generalize (wd.alloc (.cells #[.string ⟨(cutI s).1.toArray⟩, .slice none 0 0, .bool (undoL s)] 25)).alloc (.cells ((rdI s).after.map Value.string).toArray 9) = w3 at *
      have HS3 := Lib.hid (sstr_block hz3)
      have HX3 := Lib.hid hx3
      have HY3 := Lib.hid hy3
      have HB3 := Lib.hid hb3
      clear hz3 hx3 hy3 hb3 hcnt hspl hsz1 HX1 HY0 HB1
      have y0a := (blk_cl (k := 0) HY3.out rfl).1
      have y1a := (blk_cl (k := 1) HY3.out rfl).1
      have y1b := (blk_cl (k := 1) HY3.out rfl).2
      have y2a := (blk_cl (k := 2) HY3.out rfl).1
      have HCC := Lib.hid (Nat.le_refl (rdI s).after.length)
      go_wp2_with fail
      have hy4 := set31 (u := .slice (some ⟨w.heap.size + 1 + 1, 0, none⟩) (rdI s).after.length (rdI s).after.length) HY3.out
      have hx4 : (w3.setCell ⟨w.heap.size + 1, 1, none⟩ (.slice (some ⟨w.heap.size + 1 + 1, 0, none⟩) (rdI s).after.length (rdI s).after.length)).heap[w.heap.size]? = some (.cells #[.string ⟨#[]⟩, .slice none 0 0, .bool false] 25 (0, 0)) := (Below.heap_setCell w3 ⟨w.heap.size + 1, 1, none⟩ _ w.heap.size (by intro e; simp at e)).trans HX3.out
      have hb4 := HB3.out.setCell (p := ⟨w.heap.size + 1, 1, none⟩) (Nat.le_succ _) (.slice (some ⟨w.heap.size + 1 + 1, 0, none⟩) (rdI s).after.length (rdI s).after.length)
      have hs4 := HS3.out.set (o := 1) (u := .slice (some ⟨w.heap.size + 1 + 1, 0, none⟩) (rdI s).after.length (rdI s).after.length) (Nat.lt_succ_self _)
      generalize w3.setCell ⟨w.heap.size + 1, 1, none⟩ (.slice (some ⟨w.heap.size + 1 + 1, 0, none⟩) (rdI s).after.length (rdI s).after.length) = w4 at *
      refine (stepTextI_any _ _ _ (rdI s) _ w4 hs4.hat HOK.out (Nat.le_refl _)).mono ?_
      rintro e w2 ⟨rfl, hb2⟩
      have hx2 := (hb2.block _ (heap_lt hx4)).trans hx4
      have hy2 := (hb2.block _ (heap_lt hy4)).trans hy4
      have HB2 := Lib.hid (hb4.trans (hb2.mono hb4.size))
      have HSS := Lib.hid (hs4.below hb2)
      clear hb2 hx4 hy4 hb4 hs4 HX3 HY3 HB3 HS3 y0a y1a y1b y2a hq hy
      generalize eT : textS (rdI s) = T
      have r0a := (blk_cl (k := 0) hx2 rfl).1
      have r0b := (blk_cl (k := 0) hx2 rfl).2
      have r1a := (blk_cl (k := 1) hx2 rfl).1
      have r1b := (blk_cl (k := 1) hx2 rfl).2
      have r2a := (blk_cl (k := 2) hx2 rfl).1
      have r2b := (blk_cl (k := 2) hx2 rfl).2
      have y0a := (blk_cl (k := 0) hy2 rfl).1
      have y1a := (blk_cl (k := 1) hy2 rfl).1
      have y2a := (blk_cl (k := 2) hy2 rfl).1
      have HX2 := Lib.hid hx2
      clear hx2 hy2
      by_cases hT : T = s
      · have HT := Lib.hid (fromI_eq hok (eT.trans hT))
        have q0 : (T.toList == s.toList) = true := by rw [hT]; simp
        clear hT eT
        go_wp2_with fail
        have hres := set3 (u0 := .string ⟨(cutI s).1.toArray⟩) (u1 := .slice (some ⟨w.heap.size + 1 + 1, 0, none⟩) (rdI s).after.length (rdI s).after.length) (u2 := .bool (undoL s)) HX2.out
        have e0 := (blk_cl (k := 0) hres rfl).1
        have e1 := (blk_cl (k := 1) hres rfl).1
        have e2 := (blk_cl (k := 2) hres rfl).1
        refine bodyPost_ret (v := .tuple #[.agg #[.string ⟨(cutI s).1.toArray⟩, .slice (some ⟨w.heap.size + 1 + 1, 0, none⟩) (rdI s).after.length (rdI s).after.length, .bool (undoL s)], .bool true]) (by simp [results, Tryd.results13, go_sem, e0, e1, e2]) rfl ⟨some ⟨w.heap.size + 1 + 1, 0, none⟩, (rdI s).after.length, (rdI s).after.length, ?_, ?_, Nat.le_refl _, ?_⟩
        · rw [HT.out.1, HT.out.2]; rfl
        · rw [HT.out.2]; exact (((HSS.out.set (by omega)).set (by omega)).set (by omega)).mono (by omega)
        · exact ((HB2.out.setCell (p := ⟨w.heap.size, 0, none⟩) (Nat.le_refl _) _).setCell (p := ⟨w.heap.size, 1, none⟩) (Nat.le_refl _) _).setCell (p := ⟨w.heap.size, 2, none⟩) (Nat.le_refl _) _
      · have HF := Lib.hid (fromI_ne (s := s) (by rw [eT]; exact hT))
        have q0 : (T.toList == s.toList) = false := by
          rw [beq_eq_false_iff_ne]
          intro e
          rw [toList_bs, toList_bs] at e
          exact hT (by have := congrArg ofBs e; rwa [of_bs, of_bs] at this)
        clear hT eT
        go_wp2_with fail
        have hres := set3 (u0 := .string ⟨#[]⟩) (u1 := .slice none 0 0) (u2 := .bool false) HX2.out
        have e0 := (blk_cl (k := 0) hres rfl).1
        have e1 := (blk_cl (k := 1) hres rfl).1
        have e2 := (blk_cl (k := 2) hres rfl).1
        refine bodyPost_ret (v := .tuple #[.agg #[.string ⟨#[]⟩, .slice none 0 0, .bool false], .bool false]) (by simp [results, Tryd.results13, go_sem, e0, e1, e2]) rfl ⟨none, 0, 0, ?_, ?_, Nat.le_refl _, ?_⟩
        · rw [from_not HF.out, HF.out]; rfl
        · rw [from_not HF.out]; exact sstr_none _ _
        · exact ((HB2.out.setCell (p := ⟨w.heap.size, 0, none⟩) (Nat.le_refl _) _).setCell (p := ⟨w.heap.size, 1, none⟩) (Nat.le_refl _) _).setCell (p := ⟨w.heap.size, 2, none⟩) (Nat.le_refl _) _
end Go.Proofs.YthdfefgianokgaaDoor

/- Drawing a number: one value, told ahead of the call. -/
namespace Go.Proofs.YthdfefgianokgaaDoor
open Go.RowKit

theorem pick1_any (g p : Nat) (n : Int) (w : World) (h : Rd 79 w g p) (hp : p ≤ 1099511627776) (hn : n ≤ 1099511627776) :
    ∃ v : Int, 0 ≤ v ∧ (1 ≤ n → v < n) ∧ v ≤ 1099511627776 ∧ Calls Tryd.prog 40 #[.pointer (some ⟨g, 0, none⟩), .int .i64 n] w fun e w' =>
      e = .returned (.int .i64 v) ∧ Rd 79 w' g (p + 1) ∧ On g w w' ∧ w'.heap.size = w.heap.size := by
  have HL := Lib.hid h.lt
  have HN := Lib.hid (Rd.step h)
  have HO := Lib.hid ((On.refl g w).set_ 1 (.int .i64 ((p : Int) + 1)))
  have HS := Lib.hid (show (w.setCell ⟨g, 1, none⟩ (.int .i64 ((p : Int) + 1))).heap.size = w.heap.size by simp [World.setCell])
  obtain ⟨A, len, c, hlen, hg, hr⟩ := h
  have hr1 : w.cell? ⟨g, 1, none⟩ = some (.int .i64 (p : Int)) := by simp [World.cell?, hg]
  have hr2 : w.frozen? ⟨g, 1, none⟩ = false := by simp [World.frozen?, hg]
  have hr3 : (w.setCell ⟨g, 1, none⟩ (.int .i64 ((p : Int) + 1))).cell? ⟨g, 0, none⟩ = some (.slice A len c) := by simp [World.cell?, World.setCell, Array.getElem?_modify, hg]
  have hr4 : (w.setCell ⟨g, 1, none⟩ (.int .i64 ((p : Int) + 1))).cell? ⟨g, 1, none⟩ = some (.int .i64 ((p : Int) + 1)) := by simp [World.cell?, World.setCell, Array.getElem?_modify, hg]
  clear hg
  by_cases h1 : n < 1
  · refine ⟨0, by omega, by omega, by omega, ?_⟩
    go_enter Tryd.func40, Tryd.ntmps40
    go_wp2_with fail
    go_ret
    exact ⟨rfl, HN.out, HO.out, HS.out⟩
  by_cases h2 : len < 1
  · have h3 : ((len : Int) == 0) = true := by rw [beq_iff_eq]; omega
    refine ⟨0, by omega, by omega, by omega, ?_⟩
    go_enter Tryd.func40, Tryd.ntmps40
    go_wp2_with fail
    go_ret
    exact ⟨rfl, HN.out, HO.out, HS.out⟩
  have h3 : ((len : Int) == 0) = false := by rw [beq_eq_false_iff_ne]; omega
  obtain ⟨b, off, rfl, hbg, hc⟩ := hr (by omega)
  have hcs : ∀ k, k < len → ∃ u : Nat, u < 256 ∧ (w.setCell ⟨g, 1, none⟩ (.int .i64 ((p : Int) + 1))).cell? ⟨b, off + k, none⟩ = some (.int .u8 (u : Int)) := fun k hk => by
    obtain ⟨u, hu, hcu⟩ := hc k hk
    exact ⟨u, hu, (World.cell?_setCell_other w _ _ _ (fun e => by injection e; omega)).trans hcu⟩
  clear hc hr
  by_cases h4 : p < len
  · obtain ⟨u, hu, hcu⟩ := hcs p h4
    clear hcs
    have hu2 : (u : Int) < 256 := by omega
    refine ⟨(u : Int) % n, Int.emod_nonneg _ (by omega), fun _ => Int.emod_lt_of_pos _ (by omega), by have := Int.emod_lt_of_pos (u : Int) (show (0 : Int) < n by omega); omega, ?_⟩
    go_enter Tryd.func40, Tryd.ntmps40
    go_wp2_with fail
    go_ret
    exact ⟨rfl, HN.out, HO.out, HS.out⟩
  · have hl0 : 0 < len := by omega
    have hT1 : (p : Int).tmod (len : Int) = ((p % len : Nat) : Int) := rfl
    have hT2 : ((p : Int) * 7 + 3).tmod (len : Int) = (((p * 7 + 3) % len : Nat) : Int) := rfl
    have hm1 : p % len < len := Nat.mod_lt _ hl0
    have hm2 : (p * 7 + 3) % len < len := Nat.mod_lt _ hl0
    generalize p % len = i1 at hT1 hm1
    generalize (p * 7 + 3) % len = i2 at hT2 hm2
    obtain ⟨u, hu, hcu⟩ := hcs i1 hm1
    obtain ⟨v, hv, hcv⟩ := hcs i2 hm2
    clear hcs
    have hdl : p / len ≤ p := Nat.div_le_self _ _
    obtain ⟨q, hq⟩ : ∃ q, q = p / len := ⟨_, rfl⟩
    have hz : ¬ len = 0 := by omega
    have hT3 : (p : Int).tdiv (len : Int) = (q : Int) := by rw [hq]; rfl
    rw [← hq] at hdl
    have W1 : IntKind.i64.wrap ((u : Int) * 131) = (u : Int) * 131 := IntWalk.i64_in _ (by omega)
    have W2 : IntKind.i64.wrap ((p : Int) * 7) = (p : Int) * 7 := IntWalk.i64_in _ (by omega)
    have W3 : IntKind.i64.wrap ((p : Int) * 7 + 3) = (p : Int) * 7 + 3 := IntWalk.i64_in _ (by omega)
    have W4 : IntKind.i64.wrap ((v : Int) * 1117) = (v : Int) * 1117 := IntWalk.i64_in _ (by omega)
    have W5 : IntKind.i64.wrap ((u : Int) * 131 + (v : Int) * 1117) = (u : Int) * 131 + (v : Int) * 1117 := IntWalk.i64_in _ (by omega)
    have W6 : IntKind.i64.wrap ((p : Int) * 29) = (p : Int) * 29 := IntWalk.i64_in _ (by omega)
    have W7 : IntKind.i64.wrap ((u : Int) * 131 + (v : Int) * 1117 + (p : Int) * 29) = (u : Int) * 131 + (v : Int) * 1117 + (p : Int) * 29 := IntWalk.i64_in _ (by omega)
    have W8 : IntKind.i64.wrap (q : Int) = (q : Int) := IntWalk.i64_in _ (by omega)
    have W9 : IntKind.i64.wrap ((q : Int) * 53) = (q : Int) * 53 := IntWalk.i64_in _ (by omega)
    have W10 : IntKind.i64.wrap ((u : Int) * 131 + (v : Int) * 1117 + (p : Int) * 29 + (q : Int) * 53) = (u : Int) * 131 + (v : Int) * 1117 + (p : Int) * 29 + (q : Int) * 53 := IntWalk.i64_in _ (by omega)
    clear hq
    have hXX : 0 ≤ (bits .xor .i64 ((u : Int) * 131 + (v : Int) * 1117 + (p : Int) * 29 + (q : Int) * 53) (((u : Int) * 131 + (v : Int) * 1117 + (p : Int) * 29 + (q : Int) * 53) / 64)).tmod n ∧ (bits .xor .i64 ((u : Int) * 131 + (v : Int) * 1117 + (p : Int) * 29 + (q : Int) * 53) (((u : Int) * 131 + (v : Int) * 1117 + (p : Int) * 29 + (q : Int) * 53) / 64)).tmod n < n := by
      obtain ⟨x, hx⟩ : ∃ x : Nat, (x : Int) = ((u : Int) * 131 + (v : Int) * 1117 + (p : Int) * 29 + (q : Int) * 53) := ⟨u * 131 + v * 1117 + p * 29 + q * 53, by omega⟩
      have hxx := xor_in x n (by omega) (by omega)
      rw [hx] at hxx
      exact hxx
    refine ⟨(bits .xor .i64 ((u : Int) * 131 + (v : Int) * 1117 + (p : Int) * 29 + (q : Int) * 53) (((u : Int) * 131 + (v : Int) * 1117 + (p : Int) * 29 + (q : Int) * 53) / 64)).tmod n, hXX.1, fun _ => hXX.2, by omega, ?_⟩
    clear hXX
    go_enter Tryd.func40, Tryd.ntmps40
    go_wp2_with fail
    go_quiet (fail)
    clear W1 W2 W3 W4 W5 W6 W7 W8 W9 W10 hT1 hT2 hT3
    go_wp2_with fail
    go_ret
    exact ⟨rfl, HN.out, HO.out.drewN _, HS.out⟩

/-- pick, its value told ahead. -/
theorem pick1 (w0 : World) (g q : Nat) (n : Int) (w : World) (h : Dr 79 w0 g q w) (hq : q ≤ 1099511627776) (hn : n ≤ 1099511627776) :
    ∃ v : Int, 0 ≤ v ∧ (1 ≤ n → v < n) ∧ v ≤ 1099511627776 ∧ Calls Tryd.prog 40 #[.pointer (some ⟨g, 0, none⟩), .int .i64 n] w fun e w' =>
      e = .returned (.int .i64 v) ∧ Dr 79 w0 g (q + 1) w' ∧ On g w w' := by
  obtain ⟨p, hp, hr⟩ := h.rd
  obtain ⟨v, h1, h2, h3, h4⟩ := pick1_any g p n w hr (by omega) hn
  refine ⟨v, h1, h2, h3, h4.mono ?_⟩
  rintro e w' ⟨h5, h6, h7, _⟩
  exact ⟨h5, ⟨h.on.trans h7, p + 1, by omega, h6⟩, h7⟩
end Go.Proofs.YthdfefgianokgaaDoor

/- A region whose first operations come in one forced order, and whose others read and call quietly. No program in sight. -/
namespace Go.Proofs.YthdfefgianokgaaDoor
open Go.RowKit

section
variable {P : Program} {ops : Array Oper} {md : Region.Mode} {Q' : Exit → Act → World → Prop}
def wpHead (P : Program) (ops : Array Oper) (Q' : Exit → Act → World → Prop) (K : Act → World → Prop) : List Oper → Act → World → Prop
  | [], a, w => K a w
  | o :: rest, a, w => if Region.wanted o (yielded ops a.tmps) = true then o.wp P a w (wpHead P ops Q' K rest) Q' else wpHead P ops Q' K rest (a.put o.dst undef) w
theorem wpHead_nil {K : Act → World → Prop} {a : Act} {w : World} (h : K a w) : wpHead P ops Q' K [] a w := h
theorem wpHead_step {K : Act → World → Prop} {o : Oper} {rest : List Oper} {a : Act} {w : World}
    (h : ∀ K' : Act → World → Prop, (∀ a w, wpHead P ops Q' K rest a w → K' a w) → if Region.wanted o (yielded ops a.tmps) = true then o.wp P a w K' Q' else K' (a.put o.dst undef) w) : wpHead P ops Q' K (o :: rest) a w :=
  h _ (fun _ _ h => h)
def headGo (md : Region.Mode) (ops : Array Oper) (g : Nat) : Nat → Nat → Array Bool → Bool
  | 0, k, listed => Region.lexFrom md ops g k listed
  | m + 1, k, listed => (Region.ready md ops listed == [k]) && headGo md ops g m (k + 1) (listed.setIfInBounds k true)
def headB (md : Region.Mode) (ops : Array Oper) (n : Nat) : Bool := Region.noSelect ops && decide (n ≤ ops.size) && headGo md ops (ops.size - n) n 0 (Array.replicate ops.size false)

theorem wpAny_head (hs : Region.noSelect ops = true) (l2 : List Oper) : ∀ (l1 : List Oper) (k : Nat) (listed : Array Bool) (a : Act) (w : World), (∀ j, (l1 ++ l2)[j]? = ops[k + j]?) →
    headGo md ops l2.length l1.length k listed = true → wpHead P ops Q' (fun a' w' => wpQuiet P ops (fun x => ∃ m, x = w'.drewN m) (fun a'' => ∀ x, (∃ m, x = w'.drewN m) → Q' .normal a'' x) l2 a') l1 a w →
    wpAny P md ops Q' (l1.length + l2.length) listed a w
  | [], k, listed, a, w, hl, hB, h => by
    rw [List.length_nil, Nat.zero_add]
    exact wpAny_of_quiet (C := fun x => ∃ m, x = w.drewN m) (Q := fun a' => ∀ x, (∃ m, x = w.drewN m) → Q' .normal a' x) (fun _ w' hw' h => h w' hw') _ _ _ _ ⟨0, rfl⟩ (wpAnyQ_lex hs l2 k listed a (by simpa using hl) hB h)
  | o :: l1, k, listed, a, w, hl, hB, h => by
    have h0 : ops[k]? = some o := by simpa using (hl 0).symm
    simp only [List.length_cons, headGo, Bool.and_eq_true, beq_iff_eq] at hB
    rw [List.length_cons, show l1.length + 1 + l2.length = (l1.length + l2.length) + 1 by omega]
    refine ⟨fun h1 => (by rw [hB.1] at h1; cases h1), fun i hi => ?_⟩
    rw [hB.1] at hi
    have hik : i = k := by simpa using hi
    subst hik
    have hw : wpOp P ops Q' i (wpHead P ops Q' (fun a' w' => wpQuiet P ops (fun x => ∃ m, x = w'.drewN m) (fun a'' => ∀ x, (∃ m, x = w'.drewN m) → Q' .normal a'' x) l2 a') l1) a w := by
      unfold wpOp
      simp only [h0]
      unfold wpHead at h
      split
      · rename_i hwant
        rw [if_pos hwant] at h
        exact .inl h
      · rename_i hwant
        rw [if_neg hwant] at h
        exact h
    exact wpOp_mono (fun a' w' h' => wpAny_head hs l2 l1 (i + 1) _ a' w' (fun j => by have := hl (j + 1); simpa [Nat.add_assoc, Nat.add_comm 1 j] using this) hB.2 h') hw

theorem wp_region_head {id : Nat} {Q : Exit → Act → World → Prop} {a : Act} {w : World} {l : List Oper} (n : Nat) (hm : P.follows .mixedOrders = true) (hB : headB .any l.toArray n = true)
    (h : wpHead P l.toArray Q (fun a' w' => wpQuiet P l.toArray (fun x => ∃ m, x = w'.drewN m) (fun a'' => ∀ x, (∃ m, x = w'.drewN m) → Q .normal a'' x) (l.drop n) a') (l.take n) a w.drew) : (Code.region id l.toArray true).wp P Q a w := by
  simp only [headB, Bool.and_eq_true, decide_eq_true_eq] at hB
  obtain ⟨⟨hs, hn⟩, hg⟩ := hB
  have hn' : n ≤ l.length := by simpa using hn
  refine wp_region_any hm ?_
  have h1 : (l.take n).length = n := by rw [List.length_take]; omega
  have h2 : (l.drop n).length = l.toArray.size - n := by rw [List.length_drop]; simp
  have := wpAny_head (md := .any) hs (l.drop n) (l.take n) 0 (Array.replicate l.toArray.size false) a w.drew (fun j => by rw [List.take_append_drop]; simp) (by rw [h1, h2]; exact hg) h
  rw [h1, h2, show n + (l.toArray.size - n) = l.toArray.size by omega] at this
  exact this
end
end Go.Proofs.YthdfefgianokgaaDoor

/- Drawing flows: some flow. -/
namespace Go.Proofs.YthdfefgianokgaaDoor
open Go.RowKit

def nmF : Array Value := #[.string ⟨#[97]⟩, .string ⟨#[98]⟩, .string ⟨#[99]⟩, .string ⟨#[100]⟩, .string ⟨#[101]⟩, .string ⟨#[102]⟩]
theorem nmF_at (k : Nat) (hk : k < 6) : ∃ s : Str, nmF[k]? = some (.string s) ∧ s.size ≤ 5 := by
  match k, hk with
  | 0, _ => exact ⟨⟨#[97]⟩, rfl, by decide⟩
  | 1, _ => exact ⟨⟨#[98]⟩, rfl, by decide⟩
  | 2, _ => exact ⟨⟨#[99]⟩, rfl, by decide⟩
  | 3, _ => exact ⟨⟨#[100]⟩, rfl, by decide⟩
  | 4, _ => exact ⟨⟨#[101]⟩, rfl, by decide⟩
  | 5, _ => exact ⟨⟨#[102]⟩, rfl, by decide⟩

/-- What drawing a flow leaves. -/
def FlowQ (w0 : World) (g q : Nat) (w : World) (e : Ending) (w' : World) : Prop :=
  ∃ (v : Int) (A : Option Addr) (n c : Nat) (ss : List Step), e = .returned (.agg #[.int .i64 v, .slice A n c]) ∧ RStep w' w.heap.size A n ss ∧ okSteps ss ∧ 1 ≤ n ∧ n ≤ 6 ∧ Dr 79 w0 g (q + 100) w' ∧ On g w w'

/-- The head of the outer loop. -/
structure FlowI (w : World) (g q F N : Nat) (ver : Int) (wr : World) (k n : Nat) (A : Option Addr) (c : Nat) (ss : List Step) : Prop where
  kn : n ≤ k
  pos : 0 < k → 0 < n
  ok : okSteps ss
  row : SRow wr (w.heap.size + 1) (.slice A n c) n ss
  dr : Dr 79 w g (q + 10 + 10 * k) wr
  res : wr.heap[w.heap.size]? = some (.cells #[.int .i64 0, .slice none 0 0] 38 (0, 0))
  box : wr.heap[F]? = some (.cells #[.int .i64 ver, .slice A n c] 38 (0, 0))
  nms : wr.heap[N]? = some (.cells nmF 9 (0, 0))
  fw : w.heap.size < F
  nw : w.heap.size < N

/-- The head of the inner loop. -/
structure FlowJ (w2 : World) (g q b : Nat) (s : Str) (u : Bool) (wj : World) (m : Nat) (A : Option Addr) (c : Nat) (ys : List Str) : Prop where
  ok : okS ys
  row : wj.ownsRow w2.heap.size 9 1 (.slice A m c) m (ys.map Value.string)
  dr : Dr 79 w2 g q wj
  box : wj.heap[b]? = some (.cells #[.string s, .slice A m c, .bool u] 25 (0, 0))
theorem FlowJ.len {w2 : World} {g q b : Nat} {s : Str} {u : Bool} {wj : World} {m : Nat} {A : Option Addr} {c : Nat} {ys : List Str} (h : FlowJ w2 g q b s u wj m A c ys) : ys.length = m := by
  have := h.row.1; simpa using this

set_option maxRecDepth 100000 in
set_option maxHeartbeats 4000000 in
theorem l91Flow_any (w0 : World) (g q : Nat) (w : World) (h : Dr 79 w0 g q w) (hq : q ≤ 1099511620000) :
    Calls Tryd.prog 45 #[.pointer (some ⟨g, 0, none⟩)] w (FlowQ w0 g q w) := by
  have HD := Lib.hid h; clear h
  have hgl := HD.out.lt
  have hd0 := HD.out.here.alloc (.cells #[.int .i64 0, .slice none 0 0] 38)
  go_enter Tryd.func45, Tryd.ntmps45
  go_wp2_with fail
  refine (pick w g _ _ _ hd0 (by omega) (by omega)).mono ?_
  rintro e w1 ⟨v, rfl, hv0, hv1, hv2, hd1, hon⟩
  have hv5 : v < 5 := hv1 (by omega)
  clear hv1 hv2 hd0
  have HRES := Lib.hid (hon.blk (b := w.heap.size) (heap_new rfl) (by omega))
  have hs1 := hon.size
  rw [show (w.alloc (.cells #[.int .i64 0, .slice none 0 0] 38)).heap.size = w.heap.size + 1 by simp] at hs1
  have HD1 := Lib.hid hd1; clear hd1 hon
  go_wp2_with fail
  go_loopw [5] (fun i wr => ∃ k n : Nat, ∃ (A : Option Addr) (c : Nat) (ss : List Step), k ≤ 6 ∧ i = .int .i64 k ∧ FlowI w g q (w1.heap.size + 1) (w1.heap.size + 1 + 1) (1 + v) wr k n A c ss) (fun i _ => 6 - (intOf i).toNat)
  case atStart =>
    refine ⟨0, 0, some ⟨w1.heap.size, 0, none⟩, 0, [], by omega, rfl, Nat.le_refl _, fun h => absurd h (by omega), okSteps_nil, ?_, ?_, ?_, ?_, ?_, by omega, by omega⟩
    · exact ((SRow.made (show w.heap.size + 1 ≤ w1.heap.size by omega) rfl).below ((Below.refl _ _).alloc (Nat.le_refl _) _)).below ((Below.refl _ _).alloc (Nat.le_refl _) _)
    · exact (((HD1.out.alloc _).alloc _).alloc _).more (by omega)
    · exact heap_old (heap_old (heap_old HRES.out))
    · exact heap_old (heap_new (by simp))
    · exact heap_new (by simp)
  case round =>
    obtain ⟨wo, rfl⟩ : ∃ wo : World, wo = wr := ⟨_, rfl⟩
    obtain ⟨k, n, A, c, ss, hk, rfl, hI⟩ := hrel
    have HI := Lib.hid hI; clear hI
    have hd0 := HI.out.dr.here
    have hlN := heap_lt HI.out.nms
    have hlF := heap_lt HI.out.box
    by_cases hlt : k < 6
    · obtain ⟨s, hs1, hs2⟩ := nmF_at k hlt
      have c1 := (blk_cl HI.out.nms hs1).1
      clear hs1
      go_wp2_with fail
      refine (pick wo g _ _ _ hd0 (by omega) (by omega)).mono ?_
      rintro e w2 ⟨p, rfl, hp0, hp1, hp2, hd2, hon2⟩
      clear hp1 hp2
      have c2 := (hon2.cell (o := k) hlN (by omega)).trans c1
      clear c1
      have HD2 := Lib.hid hd2; clear hd2
      have HON2 := Lib.hid hon2; clear hon2
      by_cases hskip : p < 1 ∧ 0 < k
      · obtain ⟨h1, h2⟩ := hskip
        have h3 : ((k : Int) == 0) = false := by rw [beq_eq_false_iff_ne]; omega
        go_wp2_with fail
        go_roundw
        case rel =>
          exact ⟨k + 1, n, A, c, ss, by omega, by go_num, by have := HI.out.kn; omega, fun _ => HI.out.pos h2, HI.out.ok, HI.out.row.on HON2.out (by omega), (HI.out.dr.trans HD2.out).more (by omega), HON2.out.blk HI.out.res (by omega), HON2.out.blk HI.out.box (by have := HI.out.fw; omega), HON2.out.blk HI.out.nms (by have := HI.out.nw; omega), HI.out.fw, HI.out.nw⟩
        case measure => simp [intOf]; omega
      · have hyes : 0 < p ∨ (p < 1 ∧ ((k : Int) == 0) = true) := by
          rcases Int.lt_or_le 0 p with h | h
          · exact .inl h
          · refine .inr ⟨by omega, ?_⟩
            rw [beq_iff_eq]; omega
        clear hskip
        have hd3 := HD2.out.here
        have hlN2 : w1.heap.size + 1 + 1 < w2.heap.size := by have := HON2.out.size; omega
        have HSB : Hid (∀ w', On g w2 w' → w'.cell? ⟨w1.heap.size + 1 + 1, k, none⟩ = some (.string s) ∧ On g w2 w') := fun w' h => ⟨(h.cell hlN2 (by omega)).trans c2, h⟩
        have hg0 : g < w2.heap.size := by have := HON2.out.size; omega
        have hg1 : g < w2.heap.size + 1 := by omega
        have hne0 : w2.heap.size ≠ g := by have := HON2.out.size; omega
        have hne1 : w2.heap.size + 1 ≠ g := by have := HON2.out.size; omega
        rcases hyes with hp | ⟨hp, hk0⟩
        all_goals
          go_upto_region 7 with fail
          go_cut [6] (fun s6 wx => ∃ (b bA : Nat) (u : Bool), s6 = .pointer (some ⟨b, 0, none⟩) ∧ wx.heap[b]? = some (.cells #[.string s, .slice (some ⟨bA, 0, none⟩) 0 0, .bool u] 25 (0, 0)) ∧ wx.heap[bA]? = some (.cells #[] 9 (0, 0)) ∧ w2.heap.size ≤ b ∧ w2.heap.size ≤ bA ∧ Dr 79 w2 g (q + 10 + 10 * k + 2) wx)
          case first =>
           go_region_held3 (fun w' => w'.cell? ⟨w1.heap.size + 1 + 1, k, none⟩ = some (.string s) ∧ On g w2 w')
            ((refine HSB.out _ ?_; (repeat (first | with_reducible exact On.refl _ _ | exact hd4.on | refine On.setNew ?_ (by first | exact Nat.le_refl _ | exact Nat.le_succ _ | (simp; done) | omega) _ _ | refine On.drew ?_ | refine On.alloc ?_ _ | fail "x")); done))
            (first | (go_at_call 40; refine (pick w2 g _ _ _ (by repeat (first | with_reducible exact hd3 | apply Dr.drew | apply Dr.alloc)) (by omega) (by omega)).mono ?_; rintro e w3 ⟨v1, rfl, hv3, hv4, hv5, hd4, hon⟩; (first | (have hb1 := hon.blk (b := w2.heap.size + 1) (x := .cells #[.string ⟨#[]⟩, .slice none 0 0, .bool false] 25 (0, 0)) (heap_new (Array.size_push _).symm) hne1; obtain ⟨x0, y0⟩ := blk_cl (k := 0) hb1 rfl; obtain ⟨x1, y1⟩ := blk_cl (k := 1) hb1 rfl; obtain ⟨x2, y2⟩ := blk_cl (k := 2) hb1 rfl; have hz := heap_lt hb1) | (have hb1 := hon.blk (b := w2.heap.size) (x := .cells #[.string ⟨#[]⟩, .slice none 0 0, .bool false] 25 (0, 0)) (heap_new rfl) hne0; obtain ⟨x0, y0⟩ := blk_cl (k := 0) hb1 rfl; obtain ⟨x1, y1⟩ := blk_cl (k := 1) hb1 rfl; obtain ⟨x2, y2⟩ := blk_cl (k := 2) hb1 rfl; have hz := heap_lt hb1) | (have hb1 := hon.blk (b := w2.heap.size) (x := .cells #[.string ⟨#[]⟩, .slice none 0 0, .bool false] 25 (0, 0)) (heap_old (heap_new rfl)) hne0; obtain ⟨x0, y0⟩ := blk_cl (k := 0) hb1 rfl; obtain ⟨x1, y1⟩ := blk_cl (k := 1) hb1 rfl; obtain ⟨x2, y2⟩ := blk_cl (k := 2) hb1 rfl; have hz := heap_lt hb1) | skip)) | fail "no arm")
           all_goals
             go_wp2_with fail
             go_meet
             have hs4 := hd4.on.size
             have ht := Nat.le_trans hs4 (Nat.le_succ _)
             have hm : q + 10 + 10 * k + 1 + 1 ≤ q + 10 + 10 * k + 2 := Nat.le_refl _
             first
               | with_reducible exact ⟨_, _, _, rfl, heap_new rfl, heap_old (hon.blk (heap_new rfl) hne0), hs4, Nat.le_refl _, (hd4.alloc _).more hm⟩
               | with_reducible exact ⟨_, _, _, rfl, heap_new (sz_push _ _), heap_old (heap_new rfl), ht, hs4, ((hd4.alloc _).alloc _).more hm⟩
               | with_reducible exact ⟨_, _, _, rfl, heap_old (heap_new rfl), heap_new (sz_push _ _), hs4, ht, ((hd4.alloc _).alloc _).more hm⟩
               | with_reducible exact ⟨_, _, _, rfl, set3 hb1, set3_ne (hon.blk (heap_old (heap_new rfl)) hne0) (Nat.ne_of_lt (Nat.lt_succ_self _)), Nat.le_succ _, Nat.le_refl _, (hd4.set3 (Nat.le_succ _) hg1).more hm⟩
               | with_reducible exact ⟨_, _, _, rfl, set3 hb1, set3_ne (hon.blk (heap_new (sz_push _ _)) hne1) (Nat.ne_of_gt (Nat.lt_succ_self _)), Nat.le_refl _, Nat.le_succ _, (hd4.set3 (Nat.le_refl _) hg0).more hm⟩
               | with_reducible exact ⟨_, _, _, rfl, heap_old (set3 hb1), heap_new (sz_set3 _ _ _ _ _), Nat.le_refl _, hs4, ((hd4.set3 (Nat.le_refl _) hg0).alloc _).more hm⟩
          case rest =>
           obtain ⟨b, bA, u, rfl, hb, hbA, le1, le2, hdc⟩ := hcut
           have HB := Lib.hid hb; clear hb
           have HBA := Lib.hid hbA; clear hbA
           have HDC := Lib.hid hdc; clear hdc
           have HBL := Lib.hid (heap_lt HBA.out)
           have HROW := Lib.hid (show wc.ownsRow w2.heap.size 9 1 (.slice (some ⟨bA, 0, none⟩) 0 0) 0 (([] : List Str).map Value.string) from ⟨rfl, .inr ⟨bA, 0, #[], rfl, le2, HBA.out, by omega, by unfold maxLen; omega, by simp, by simp⟩⟩)
           have hn6 : n ≤ 6 := by have := HI.out.kn; omega
           have HFw := Lib.hid (fun wj (h : Dr 79 w2 g (q + 10 + 10 * k + 2 + 6) wj) => h.on.blk (HON2.out.blk HI.out.box (by have := HI.out.fw; omega)) (by have := HI.out.fw; omega))
           have HRS := Lib.hid (HI.out.row.on HON2.out (by omega))
           go_wp2_with fail
           go_loopw [7] (fun i wj => ∃ (j m : Nat) (A2 : Option Addr) (c2 : Nat) (ys : List Str), j ≤ n ∧ i = .int .i64 j ∧ m ≤ j ∧ FlowJ w2 g (q + 10 + 10 * k + 2 + j) b s u wj m A2 c2 ys) (fun i _ => n - (intOf i).toNat)
           case atStart => exact ⟨0, 0, _, _, [], Nat.zero_le _, rfl, Nat.le_refl _, okS_nil, HROW.out, HDC.out, HB.out⟩
           case round =>
            obtain ⟨j, m, A2, c2, ys, hj, rfl, hmj, hJ⟩ := hrel
            have HJ := Lib.hid hJ; clear hJ
            have HF := Lib.hid (HFw.out wr (HJ.out.dr.more (by omega)))
            have f1 := (blk_cl (k := 1) HF.out rfl).1
            by_cases hlt2 : j < n
            · obtain ⟨A0, c0, e0, hst⟩ := (HRS.out.on HJ.out.dr.on (by have := HON2.out.size; omega)).hat
              injection e0 with e0 _ e0'
              subst e0; subst e0'
              obtain ⟨bs, os, rfl, ⟨_, hbs⟩, hcs⟩ := RStep.at_ hst hlt2
              obtain ⟨A', n', c', ⟨s1, _, _⟩, _, _⟩ := hcs j hlt2
              clear hcs hst
              have HSZ := Lib.hid (show (nth ss j).name.size ≤ maxLen from (HI.out.ok.2 j (by have := HRS.out.len; omega)).1)
              have hd5 := HJ.out.dr.here
              have b1 := (blk_cl (k := 1) HJ.out.box rfl).1
              have hlF2 := heap_lt HF.out
              have hlB2 := heap_lt HJ.out.box
              go_wp2_with fail
              refine (pick wr g _ _ _ hd5 (by omega) (by omega)).mono ?_
              rintro e w5 ⟨x, rfl, hx0, hx1, hx2, hd6, hon6⟩
              clear hx1 hx2 hd5
              have hbg : b ≠ g := by omega
              have HD6 := Lib.hid hd6; clear hd6
              have HON6 := Lib.hid hon6; clear hon6
              have HB6 := Lib.hid (HON6.out.blk HJ.out.box hbg)
              have HF6 := Lib.hid (HON6.out.blk HF.out (by have := HI.out.fw; omega))
              have HR6 := Lib.hid (row_on HJ.out.row HON6.out (by omega))
              have HS6 := Lib.hid ((HON6.out.cell (o := os + j * 3) hbs (by have := HI.out.row; have := HON2.out.size; have h3 := HRS.out.lt (b := bs) rfl; omega)).trans s1)
              clear b1 f1 s1
              have b1 := (blk_cl (k := 1) HB6.out rfl).1
              have f1 := (blk_cl (k := 1) HF6.out rfl).1
              have s1 := HS6.out
              by_cases hx : x = 0
              · subst hx
                by_cases hm4 : m < 4
                · have hok6 := HJ.out.ok
                  have hl6 := HJ.out.len
                  have hbase : w2.heap.size ≤ w5.heap.size := by have := HON6.out.size; have := HJ.out.dr.on.size; omega
                  have HNB := Lib.hid (row_ne HR6.out HB6.out (by decide))
                  have HNF := Lib.hid (row_ne HR6.out HF6.out (by decide))
                  have b1a := fun o => (World.cell?_alloc_some w5 _ o (by rw [b1]; rfl)).trans b1
                  have f1a := fun o => (World.cell?_alloc_some w5 _ o (by rw [f1]; rfl)).trans f1
                  have s1a := fun o => (World.cell?_alloc_some w5 _ o (by rw [s1]; rfl)).trans s1
                  have HL6 := Lib.hid hl6; clear hl6
                  have HO6 := Lib.hid hok6; clear hok6
                  go_wp2_with fail
                  go_region_law (first | (refine strapp_step (o := ⟨some 61, _, _, _, _, _⟩) w2.heap.size _ m ys _ (nth ss j).name (by exact HR6.out.alloc _) (by rfl) (.tmp 53) (.tmp 60) (by rfl) (by rfl) (by rfl) (by exact heap_new rfl) (by omega) (by simp; omega) ?_; intro v7 w7 how7 hg7 hat7; obtain ⟨A7, c7, rfl, hsr7⟩ := own_sstr how7; have hb7 := grown_blk hg7 (heap_old HB6.out) HNB.out; have z1 := (blk_cl (k := 1) hb7 rfl).1; have z2 := (blk_cl (k := 1) hb7 rfl).2) | fail "no arm")
                  all_goals go_wp2_with fail
                  all_goals exact ⟨⟨j + 1, m + 1, A7, c7, ys ++ [(nth ss j).name], by omega, by go_num, by omega, okS_app HO6.out (by rw [HL6.out]; omega) HSZ.out, row_set how7 hb7 (by decide),
                    ((((((HJ.out.dr.trans HD6.out).alloc _).drew).grown hg7 (fun k hk => by have := HR6.out.lt k hk; omega)).set_ le1 (by omega) _ _).more (by omega)), set31 hb7⟩, by simp [intOf]; omega⟩
                · go_wp2_with fail
                  go_roundw
                  case rel => exact ⟨j + 1, m, A2, c2, ys, by omega, by go_num, by omega, HJ.out.ok, HR6.out, (HJ.out.dr.trans HD6.out).more (by omega), HB6.out⟩
                  case measure => simp [intOf]; omega
              · have hz2 : (x == 0) = false := by rw [beq_eq_false_iff_ne]; exact hx
                go_wp2_with fail
                go_roundw
                case rel => exact ⟨j + 1, m, A2, c2, ys, by omega, by go_num, by omega, HJ.out.ok, HR6.out, (HJ.out.dr.trans HD6.out).more (by omega), HB6.out⟩
                case measure => simp [intOf]; omega
            · have HDR := Lib.hid HJ.out.dr
              have HLY := Lib.hid HJ.out.len
              have hson := HON2.out.size
              have hdon := HDR.out.on.size
              have hm6 : m ≤ 6 := by omega
              have HRJ := Lib.hid (HRS.out.on HDR.out.on (by omega))
              obtain ⟨A3, c3, e3, hss⟩ := own_sstr HJ.out.row
              injection e3 with e3 _ e3'
              subst e3; subst e3'
              have HSS := Lib.hid (hss.mono (show w.heap.size + 1 ≤ w2.heap.size by have := HI.out.fw; omega)); clear hss
              have b0 := (blk_cl (k := 0) HJ.out.box rfl).1
              have b1 := (blk_cl (k := 1) HJ.out.box rfl).1
              have b2 := (blk_cl (k := 2) HJ.out.box rfl).1
              go_wp2_with (at_builtin; refine app_stepW (w.heap.size + 1) _ n ss _ ⟨s, ys, u⟩ A2 m c2 ?r0 ?r1 rfl (.tmp 64) (.tmp 66) rfl rfl rfl ?r2 (by omega) ?r3 ?_)
              case r0 => exact HRJ.out.below ((Below.refl _ _).alloc (Nat.le_refl _) _)
              case r1 => exact HSS.out.below ((Below.refl _ _).alloc (Nat.le_refl _) _)
              case r2 => first | exact heap_new rfl | exact Array.getElem_push_eq | (simp; done)
              case r3 => have := HI.out.fw; first | omega | (simp; omega)
              intro v9 w9 hrow9 hg9 hat9
              obtain ⟨A9, c9, rfl, _⟩ := hrow9.hat
              have hb9 := grown_blk hg9 (heap_old HF.out) (HRJ.out.ne HF.out (by decide))
              have z1 := (blk_cl (k := 1) hb9 rfl).1
              have z2 := (blk_cl (k := 1) hb9 rfl).2
              have HB9 := Lib.hid hb9; clear hb9
              have HROW9 := Lib.hid hrow9; clear hrow9
              have HG9 := Lib.hid hg9; clear hg9
              clear hat9
              go_wp2_with fail
              have HRES2 := Lib.hid (show wr.heap[w.heap.size]? = some (.cells #[.int .i64 0, .slice none 0 0] 38 (0, 0)) from HDR.out.on.blk (HON2.out.blk HI.out.res (by omega)) (by omega))
              have HNM2 := Lib.hid (HDR.out.on.blk (HON2.out.blk HI.out.nms (by have := HI.out.nw; omega)) (by have := HI.out.nw; omega))
              have hfw := HI.out.fw
              go_roundw
              case rel =>
                refine ⟨k + 1, n + 1, A9, c9, ss ++ [⟨s, ys, u⟩], by omega, by go_num, by have := HI.out.kn; omega, fun _ => by omega, okSteps_app HI.out.ok (by rw [HRS.out.len]; omega) ⟨by unfold maxLen; show s.size ≤ _; omega, HJ.out.ok⟩, HROW9.out.set HB9.out (by decide) (by decide), ?_, ?_, set21 HB9.out, ?_, HI.out.fw, HI.out.nw⟩
                · exact (((((HI.out.dr.trans HD2.out).trans HDR.out).alloc _).grown HG9.out (fun i hi => by have := HRJ.out.lt (b := i) hi; omega)).set_ (by omega) (by omega) _ _).more (by omega)
                · exact set_ne (grown_blk HG9.out (heap_old HRES2.out) (HRJ.out.ne HRES2.out (by decide))) (by omega)
                · exact set_ne (grown_blk HG9.out (heap_old HNM2.out) (HRJ.out.ne HNM2.out (by decide))) (by omega)
              case measure => simp [intOf]; omega
    · have hk6 : 0 < n := HI.out.pos (by omega)
      have hn6 : n ≤ 6 := by have := HI.out.kn; omega
      have HRW := Lib.hid HI.out.row.hat
      obtain ⟨A0, c0, e0, hst⟩ := HRW.out
      injection e0 with e0 _ e0'
      subst e0; subst e0'
      obtain ⟨bs, os, rfl, ⟨hbs1, hbs2⟩, hcs⟩ := RStep.at_ hst hk6
      obtain ⟨A', n', c', ⟨_, s2, _⟩, _, ⟨_, s2', _⟩⟩ := hcs 0 hk6
      obtain ⟨An, nn, cn, ⟨s3, _, _⟩, _, _⟩ := hcs (n - 1) (by omega)
      clear hcs
      have HST := Lib.hid hst; clear hst
      have hgo := HI.out.dr.on.size
      go_wp2_with fail
      refine (pick wo g _ _ _ hd0 (by omega) (by omega)).mono ?_
      rintro e w2 ⟨x, rfl, hx0, hx1, hx2, hd2, hon2⟩
      clear hx1 hx2 hd0
      have hb2 := hon2.blk HI.out.box (by have := HI.out.fw; omega)
      have hr2 := hon2.blk HI.out.res (by omega)
      have HST2 := Lib.hid (HST.out.on hon2 (by omega))
      have f0 := (blk_cl (k := 0) hb2 rfl).1
      have f0' := (blk_cl (k := 0) hb2 rfl).2
      have f1 := (blk_cl (k := 1) hb2 rfl).1
      have r0a := (blk_cl (k := 0) hr2 rfl).1
      have r0b := (blk_cl (k := 0) hr2 rfl).2
      have r1a := (blk_cl (k := 1) hr2 rfl).1
      have r1b := (blk_cl (k := 1) hr2 rfl).2
      have HR2 := Lib.hid hr2; clear hr2
      have HB2 := Lib.hid hb2; clear hb2
      have HD2 := Lib.hid (HI.out.dr.trans hd2)
      have s2w := (hon2.cell hbs2 (by omega)).trans s2
      have s2f := (hon2.frozen hbs2 (by omega)).trans s2'
      have s3w := (hon2.cell hbs2 (by omega)).trans s3
      rw [Nat.zero_mul, Nat.add_zero] at s2w s2f
      have hfb : bs ≠ w1.heap.size + 1 := by
        intro e
        have := HI.out.row.ne HI.out.box (by decide)
        simp [Value.ownBlock] at this
        exact this e
      have hbs3 : bs < w2.heap.size := by have := hon2.size; omega
      clear s2 s2' s3
      have hrF : w1.heap.size + 1 ≠ w.heap.size := by omega
      by_cases h0 : x = 0
      · subst h0
        clear s2w s2f s3w
        go_wp2_with fail
        refine (pick w g _ _ _ (HD2.out.alloc _) (by omega) (by omega)).mono ?_
        rintro e w3 ⟨m, rfl, hm0, hm1, hm2, hd3, hon3⟩
        obtain ⟨m, rfl⟩ := Int.eq_ofNat_of_zero_le hm0
        have hmn : m < 3 := by have := hm1 (by omega); omega
        clear hm1 hm0 hm2
        obtain ⟨y, hy⟩ := lit3_at 0 99 100 m hmn
        have d5 := (blk_cl (hon3.blk (heap_new rfl) (by have := HD2.out.lt; omega)) hy).1
        clear hy
        have hb3 := hon3.blk (heap_old HB2.out) (by omega)
        have hr3 := hon3.blk (heap_old HR2.out) (by omega)
        have HST3 := Lib.hid ((HST2.out.alloc (.cells #[.int .i64 0, .int .i64 99, .int .i64 100] 3)).on hon3 (by omega))
        clear f0 f0' f1 r0a r0b r1a r1b hd2 hon2
        have HB3 := Lib.hid hb3; clear hb3
        have HR3 := Lib.hid hr3; clear hr3
        have HD3 := Lib.hid hd3; clear hd3
        have HR4 := Lib.hid (set_ne (b := w1.heap.size + 1) (o := 0) (u := .int .i64 y) HR3.out hrF.symm)
        have HB4 := Lib.hid (set20 (u := .int .i64 y) HB3.out)
        have f0 := (blk_cl (k := 0) HB3.out rfl).1
        have f0' := (blk_cl (k := 0) HB3.out rfl).2
        have g0 := (blk_cl (k := 0) HB4.out rfl).1
        have g1 := (blk_cl (k := 1) HB4.out rfl).1
        have r0a := (blk_cl (k := 0) HR4.out rfl).1
        have r0b := (blk_cl (k := 0) HR3.out rfl).2
        have r1a := (blk_cl (k := 1) HR4.out rfl).1
        have r1b := (blk_cl (k := 1) HR3.out rfl).2
        clear hon3
        go_wp2_with fail
        have hres := set21 (u := .slice (some ⟨bs, os, none⟩) n c) (set20 (u := .int .i64 y) HR4.out)
        have e0 := (blk_cl (k := 0) hres rfl).1
        have e1 := (blk_cl (k := 1) hres rfl).1
        have hdr := ((HD3.out.set_ (b := w1.heap.size + 1) (by omega) (by omega) 0 (.int .i64 y)).set_ (Nat.le_refl _) hgl 0 (.int .i64 y)).set_ (Nat.le_refl _) hgl 1 (.slice (some ⟨bs, os, none⟩) n c)
        refine bodyPost_ret (v := .agg #[.int .i64 y, .slice (some ⟨bs, os, none⟩) n c]) (by simp [results, Tryd.results45, go_sem, e0, e1]) rfl ⟨_, _, _, _, _, rfl, (((RStep.setInt HST3.out ⟨f0, f0'⟩).setLow (Nat.lt_succ_self _)).setLow (Nat.lt_succ_self _)).lower (Nat.le_succ _), HI.out.ok, hk6, hn6, (HD.out.trans hdr).more (by omega), hdr.on⟩
      by_cases h1 : x = 1
      · subst h1
        have hw1 : IntKind.i64.wrap ((n : Int) - 1) = ((n - 1 : Nat) : Int) := by rw [IntWalk.i64_in _ (by omega)]; omega
        have hn1 : ((n - 1 : Nat) : Int) < (n : Int) := by omega
        have hn0 : (0 : Int) ≤ ((n - 1 : Nat) : Int) := by omega
        have hn2 : ((n - 1 : Nat) : Int).toNat = n - 1 := by omega
        have HSZ := Lib.hid (show (nth ss (n - 1)).name.size ≤ maxLen from (HI.out.ok.2 (n - 1) (by rw [HST.out.1]; omega)).1)
        have HSB : Hid (∀ w', Below w2.heap.size w2 w' → w'.cell? ⟨w1.heap.size + 1, 1, none⟩ = some (.slice (some ⟨bs, os, none⟩) n c) ∧ w'.cell? ⟨bs, os + (n - 1) * 3, none⟩ = some (.string (nth ss (n - 1)).name)) := fun w' h => ⟨(h.cell (p := ⟨_, _, none⟩) (heap_lt HB2.out)).trans f1, (h.cell (p := ⟨_, _, none⟩) hbs3).trans s3w⟩
        have HSC : Hid (((w2.setCell ⟨bs, os + 1, none⟩ (.slice (some ⟨w2.heap.size, 0, none⟩) 1 1)).alloc (.cells #[.string (nth ss (n - 1)).name] 9)).drew.cell? ⟨w1.heap.size + 1, 1, none⟩ = some (.slice (some ⟨bs, os, none⟩) n c) ∧
            ((w2.setCell ⟨bs, os + 1, none⟩ (.slice (some ⟨w2.heap.size, 0, none⟩) 1 1)).alloc (.cells #[.string (nth ss (n - 1)).name] 9)).drew.cell? ⟨bs, os + (n - 1) * 3, none⟩ = some (.string (nth ss (n - 1)).name)) :=
          ⟨(blk_cl (k := 1) (heap_old (set_ne HB2.out (Ne.symm hfb))) rfl).1, by
            have e := World.cell?_setCell_other w2 ⟨bs, os + 1, none⟩ ⟨bs, os + (n - 1) * 3, none⟩ (.slice (some ⟨w2.heap.size, 0, none⟩) 1 1) (fun e => by injection e; omega)
            exact ((World.cell?_alloc_some _ _ _ (by rw [e, s3w]; rfl)).trans e).trans s3w⟩
        go_wp2_with fail
        go_region_held3 (fun w' => w'.cell? ⟨w1.heap.size + 1, 1, none⟩ = some (.slice (some ⟨bs, os, none⟩) n c) ∧ w'.cell? ⟨bs, os + (n - 1) * 3, none⟩ = some (.string (nth ss (n - 1)).name))
          (first | exact HSB.out _ (Below.refl _ _).drew | exact HSB.out _ ((Below.refl _ _).alloc (Nat.le_refl _) _).drew | exact HSC.out | fail "keep")
          (fail)
        have HSL := Lib.hid ((lit_str (w := w2) (e := 9) (cs := #[.string (nth ss (n - 1)).name]) [(nth ss (n - 1)).name] 1 rfl rfl).lower (show w.heap.size + 1 ≤ w2.heap.size by omega))
        have HSA := Lib.hid (RStep.setAfter (j := 0) (d := 1) (HST2.out.alloc (.cells #[.string (nth ss (n - 1)).name] 9)) hk6 HSL.out)
        rw [Nat.zero_mul, Nat.add_zero, World.setCell_alloc_past _ _ _ _ hbs3] at HSA
        have HB4 := Lib.hid (heap_old (o := .cells #[.string (nth ss (n - 1)).name] 9) (set_ne (b := bs) (o := os + 1) (u := .slice (some ⟨w2.heap.size, 0, none⟩) 1 1) HB2.out (Ne.symm hfb)))
        have HR4 := Lib.hid (heap_old (o := .cells #[.string (nth ss (n - 1)).name] 9) (set_ne (b := bs) (o := os + 1) (u := .slice (some ⟨w2.heap.size, 0, none⟩) 1 1) HR2.out (by omega)))
        have g0 := (blk_cl (k := 0) HB4.out rfl).1
        have g1 := (blk_cl (k := 1) HB4.out rfl).1
        have r0c := (blk_cl (k := 0) HR4.out rfl).1
        have r1c := (blk_cl (k := 1) HR4.out rfl).1
        have r0d := (blk_cl (k := 0) HR4.out rfl).2
        have r1d := (blk_cl (k := 1) HR4.out rfl).2
        go_wp2_with fail
        have hres := set21 (u := .slice (some ⟨bs, os, none⟩) n c) (set20 (u := .int .i64 (1 + v)) HR4.out)
        have e0 := (blk_cl (k := 0) hres rfl).1
        have e1 := (blk_cl (k := 1) hres rfl).1
        have hdr := (((HD2.out.set_ (b := bs) (by omega) (by omega) (os + 1) (.slice (some ⟨w2.heap.size, 0, none⟩) 1 1)).alloc (.cells #[.string (nth ss (n - 1)).name] 9)).set_ (Nat.le_refl _) hgl 0 (.int .i64 (1 + v))).set_ (Nat.le_refl _) hgl 1 (.slice (some ⟨bs, os, none⟩) n c)
        refine bodyPost_ret (v := .agg #[.int .i64 (1 + v), .slice (some ⟨bs, os, none⟩) n c]) (by simp [results, Tryd.results45, go_sem, World.cell?_drew, e0, e1]) rfl ⟨_, _, _, _, _, rfl, (((HSA.out.setLow (Nat.lt_succ_self _)).setLow (Nat.lt_succ_self _)).lower (Nat.le_succ _)).drew, okSteps_set HI.out.ok (okS_one HSZ.out), hk6, hn6, ((HD.out.trans hdr).more (by omega)).drew, hdr.on.drew⟩
      by_cases h2 : x = 2
      · subst h2
        clear s3w
        have HSL := Lib.hid ((lit_str (w := w2) (e := 9) (cs := #[.string ⟨#[122, 122]⟩]) [⟨#[122, 122]⟩] 1 rfl rfl).lower (show w.heap.size + 1 ≤ w2.heap.size by omega))
        have HSA := Lib.hid (RStep.setAfter (j := 0) (d := 1) (HST2.out.alloc (.cells #[.string ⟨#[122, 122]⟩] 9)) hk6 HSL.out)
        rw [Nat.zero_mul, Nat.add_zero, World.setCell_alloc_past _ _ _ _ hbs3] at HSA
        have HB4 := Lib.hid (heap_old (o := .cells #[.string ⟨#[122, 122]⟩] 9) (set_ne (b := bs) (o := os + 1) (u := .slice (some ⟨w2.heap.size, 0, none⟩) 1 1) HB2.out (Ne.symm hfb)))
        have HR4 := Lib.hid (heap_old (o := .cells #[.string ⟨#[122, 122]⟩] 9) (set_ne (b := bs) (o := os + 1) (u := .slice (some ⟨w2.heap.size, 0, none⟩) 1 1) HR2.out (by omega)))
        have g0 := (blk_cl (k := 0) HB4.out rfl).1
        have g1 := (blk_cl (k := 1) HB4.out rfl).1
        have r0c := (blk_cl (k := 0) HR4.out rfl).1
        have r1c := (blk_cl (k := 1) HR4.out rfl).1
        have r0d := (blk_cl (k := 0) HR4.out rfl).2
        have r1d := (blk_cl (k := 1) HR4.out rfl).2
        go_wp2_with fail
        have hres := set21 (u := .slice (some ⟨bs, os, none⟩) n c) (set20 (u := .int .i64 (1 + v)) HR4.out)
        have e0 := (blk_cl (k := 0) hres rfl).1
        have e1 := (blk_cl (k := 1) hres rfl).1
        have hdr := (((HD2.out.set_ (b := bs) (by omega) (by omega) (os + 1) (.slice (some ⟨w2.heap.size, 0, none⟩) 1 1)).alloc (.cells #[.string ⟨#[122, 122]⟩] 9)).set_ (Nat.le_refl _) hgl 0 (.int .i64 (1 + v))).set_ (Nat.le_refl _) hgl 1 (.slice (some ⟨bs, os, none⟩) n c)
        refine bodyPost_ret (v := .agg #[.int .i64 (1 + v), .slice (some ⟨bs, os, none⟩) n c]) (by simp [results, Tryd.results45, go_sem, e0, e1]) rfl ⟨_, _, _, _, _, rfl, ((HSA.out.setLow (Nat.lt_succ_self _)).setLow (Nat.lt_succ_self _)).lower (Nat.le_succ _), okSteps_set HI.out.ok (okS_one (by unfold maxLen; decide)), hk6, hn6, (HD.out.trans hdr).more (by omega), hdr.on⟩
      have q0 : (x == 0) = false := by rw [beq_eq_false_iff_ne]; exact h0
      have q1 : (x == 1) = false := by rw [beq_eq_false_iff_ne]; exact h1
      have q2 : (x == 2) = false := by rw [beq_eq_false_iff_ne]; exact h2
      go_wp2_with fail
      have hres := set21 (u := .slice (some ⟨bs, os, none⟩) n c) (set20 (u := .int .i64 (1 + v)) HR2.out)
      have e0 := (blk_cl (k := 0) hres rfl).1
      have e1 := (blk_cl (k := 1) hres rfl).1
      have hdr := (HD2.out.set_ (Nat.le_refl _) hgl 0 (.int .i64 (1 + v))).set_ (Nat.le_refl _) hgl 1 (.slice (some ⟨bs, os, none⟩) n c)
      refine bodyPost_ret (v := .agg #[.int .i64 (1 + v), .slice (some ⟨bs, os, none⟩) n c]) (by simp [results, Tryd.results45, go_sem, e0, e1]) rfl ⟨_, _, _, _, _, rfl, ((HST2.out.setLow (Nat.lt_succ_self _)).setLow (Nat.lt_succ_self _)).lower (Nat.le_succ _), HI.out.ok, hk6, hn6, (HD.out.trans hdr).more (by omega), hdr.on⟩
end Go.Proofs.YthdfefgianokgaaDoor

/- Drawing a flow out of a code. -/
namespace Go.Proofs.YthdfefgianokgaaDoor
open Go.RowKit

def FlowD (w : World) (e : Ending) (w' : World) : Prop :=
  ∃ (v : Int) (A : Option Addr) (n c : Nat) (ss : List Step), e = .returned (.agg #[.int .i64 v, .slice A n c]) ∧ RStep w' w.heap.size A n ss ∧ okSteps ss ∧ 1 ≤ n ∧ n ≤ 6 ∧ Below w.heap.size w w'
theorem RByte.below {w w' : World} {A : Option Addr} {n : Nat} (h : RByte w A n) (hb : Below w.heap.size w w') : RByte w' A n := fun h0 => by
  obtain ⟨b, off, e, h1, h2⟩ := h h0
  refine ⟨b, off, e, Nat.lt_of_lt_of_le h1 hb.size, fun k hk => ?_⟩
  obtain ⟨u, hu, hc⟩ := h2 k hk
  exact ⟨u, hu, (hb.cell (p := ⟨b, off + k, none⟩) h1).trans hc⟩
theorem RByte.alloc {w : World} {A : Option Addr} {n : Nat} (h : RByte w A n) (o : Obj) : RByte (w.alloc o) A n := h.below ((Below.refl _ _).alloc (Nat.le_refl _) o)

end Go.Proofs.YthdfefgianokgaaDoor

/- Drawing names and steps: some name, some step. -/
namespace Go.Proofs.YthdfefgianokgaaDoor
open Go.RowKit

theorem l91Name_any (w0 : World) (g q : Nat) (w : World) (h : Dr 79 w0 g q w) (hq : q ≤ 1099511620000) :
    Calls Tryd.prog 55 #[.pointer (some ⟨g, 0, none⟩)] w fun e w' => ∃ s : Str, e = .returned (.string s) ∧ s.size ≤ 6 ∧ Dr 79 w0 g (q + 2) w' ∧ On g w w' := by
  have HD := Lib.hid h
  have hgl := h.lt
  go_enter Tryd.func55, Tryd.ntmps55
  go_wp2_with fail
  refine (pick w0 g _ _ _ h (by omega) (by omega)).mono ?_
  rintro e w1 ⟨v, rfl, hv0, hv1, hv2, hd1, hon⟩
  have hs1 := hon.size
  by_cases hz : v = 0
  · subst hz
    go_wp2_with fail
    refine (of_ w0 g _ _ _ _ [⟨#[]⟩, ⟨#[65]⟩, ⟨#[97, 98, 99, 100, 101, 102]⟩, ⟨#[97, 98, 99, 100, 101]⟩, ⟨#[97, 49]⟩] _ _ (hd1.alloc _) (by omega) (lit_str _ 5 rfl rfl) (by omega) (by omega) (by omega)).mono ?_
    rintro e w2 ⟨s, rfl, hm, hd2, hon2⟩
    go_wp2_with fail
    go_ret
    refine ⟨s, rfl, ?_, hd2, (hon.alloc _).trans hon2⟩
    simp at hm
    rcases hm with rfl | rfl | rfl | rfl | rfl <;> decide
  · have hz2 : (v == 0) = false := by rw [beq_eq_false_iff_ne]; exact hz
    go_wp2_with fail
    refine (of_ w0 g _ _ _ _ [⟨#[97]⟩, ⟨#[98]⟩, ⟨#[99]⟩, ⟨#[100]⟩, ⟨#[101]⟩, ⟨#[102]⟩] _ _ (hd1.alloc _) (by omega) (lit_str _ 6 rfl rfl) (by omega) (by omega) (by omega)).mono ?_
    rintro e w2 ⟨s, rfl, hm, hd2, hon2⟩
    go_wp2_with fail
    go_ret
    refine ⟨s, rfl, ?_, hd2, (hon.alloc _).trans hon2⟩
    simp at hm
    rcases hm with rfl | rfl | rfl | rfl | rfl | rfl <;> decide

theorem okS_all {xs : List Str} (h : ∀ x ∈ xs, x.size ≤ 6) (hl : xs.length ≤ 100) : okS xs := ⟨by omega, fun j hj => by have := h _ (mem_nth hj); unfold maxLen; omega⟩
theorem own_le {w : World} {base : Nat} {e : TypeId} {size n : Nat} {A : Option Addr} {c : Nat} {xs : List Value} (h : w.ownsRow base e size (.slice A n c) n xs) : n ≤ c := by
  rcases h.2 with ⟨_, rfl⟩ | ⟨g, cap, cur, e, _, _, h1, _⟩
  · exact Nat.zero_le _
  · injection e with _ _ e
    subst e; exact h1
theorem sz_set (w : World) (a : Addr) (v : Value) : (w.setCell a v).heap.size = w.heap.size := by simp
/-- What drawing a step leaves. -/
def StepQ (w0 : World) (g q : Nat) (w : World) (e : Ending) (w' : World) : Prop :=
  ∃ (s : Step) (A : Option Addr) (n c : Nat), e = .returned (.agg #[.string s.name, .slice A n c, .bool s.undo]) ∧ RStr w' w.heap.size A n s.after ∧ okStep s ∧ n ≤ 6 ∧ n ≤ c ∧ Dr 79 w0 g (q + 100) w' ∧ On g w w'

/-- The head of the loop. -/
structure StepI (w : World) (g q F N : Nat) (s : Str) (u : Bool) (wr : World) (k n : Nat) (A : Option Addr) (c : Nat) (ys : List Str) : Prop where
  kn : n ≤ k
  ok : okS ys
  row : wr.ownsRow (w.heap.size + 1) 9 1 (.slice A n c) n (ys.map Value.string)
  dr : Dr 79 w g (q + 10 + k) wr
  res : wr.heap[w.heap.size]? = some (.cells #[.string ⟨#[]⟩, .slice none 0 0, .bool false] 25 (0, 0))
  box : wr.heap[F]? = some (.cells #[.string s, .slice A n c, .bool u] 25 (0, 0))
  nms : wr.heap[N]? = some (.cells nmF 9 (0, 0))
  nmo : (Value.slice A n c).ownBlock ≠ some N
  fw : w.heap.size < F
  nw : w.heap.size < N
theorem StepI.len {w : World} {g q F N : Nat} {s : Str} {u : Bool} {wr : World} {k n : Nat} {A : Option Addr} {c : Nat} {ys : List Str} (h : StepI w g q F N s u wr k n A c ys) : ys.length = n := by
  have := h.row.1; simpa using this

set_option maxRecDepth 100000 in
set_option maxHeartbeats 4000000 in
theorem l91Step_any (w0 : World) (g q : Nat) (w : World) (h : Dr 79 w0 g q w) (hq : q ≤ 1099511610000) :
    Calls Tryd.prog 27 #[.pointer (some ⟨g, 0, none⟩)] w (StepQ w0 g q w) := by
  have HD := Lib.hid h; clear h
  have hgl := HD.out.lt
  have hd0 := HD.out.here.alloc (.cells #[.string ⟨#[]⟩, .slice none 0 0, .bool false] 25)
  go_enter Tryd.func27, Tryd.ntmps27
  go_wp2_with fail
  refine (l91Name_any w g _ _ hd0 (by omega)).mono ?_
  rintro e w1 ⟨s, rfl, hs6, hd1, hon⟩
  have HRES := Lib.hid (hon.blk (b := w.heap.size) (heap_new rfl) (by omega))
  have hs1 := hon.size
  rw [show (w.alloc (.cells #[.string ⟨#[]⟩, .slice none 0 0, .bool false] 25)).heap.size = w.heap.size + 1 by simp] at hs1
  go_wp2_with fail
  refine (pick w g _ _ _ (hd1.alloc _) (by omega) (by omega)).mono ?_
  rintro e w2 ⟨v, rfl, hv0, hv1, hv2, hd2, hon2⟩
  have hs2 := hon2.size
  rw [show (w1.alloc (.cells #[] 9)).heap.size = w1.heap.size + 1 by simp] at hs2
  have HRES2 := Lib.hid (hon2.blk (heap_old HRES.out) (by omega))
  have HE := Lib.hid (hon2.blk (heap_new (w := w1) (o := .cells #[] 9) rfl) (by omega))
  have HD2 := Lib.hid hd2; clear hd2 hon2 hd1 hon hd0
  clear hv1 hv2
  go_wp2_with fail
  go_loopw [5] (fun i wr => ∃ (k n : Nat) (A : Option Addr) (c : Nat) (ys : List Str), k ≤ 6 ∧ i = .int .i64 k ∧ StepI w g q w2.heap.size (w2.heap.size + 1) s (decide (0 < v)) wr k n A c ys) (fun i _ => 6 - (intOf i).toNat)
  case atStart =>
    refine ⟨0, 0, some ⟨w1.heap.size, 0, none⟩, 0, [], by omega, rfl, Nat.le_refl _, okS_nil, ⟨rfl, .inr ⟨w1.heap.size, 0, #[], rfl, hs1, heap_old (heap_old HE.out), by omega, by unfold maxLen; omega, by simp, by simp⟩⟩, ((HD2.out.alloc _).alloc _).more (by omega), heap_old (heap_old HRES2.out), heap_old (heap_new rfl), heap_new (by simp), by simp [Value.ownBlock]; omega, by omega, by omega⟩
  case round =>
    obtain ⟨wo, rfl⟩ : ∃ wo : World, wo = wr := ⟨_, rfl⟩
    obtain ⟨k, n, A, c, ys, hk, rfl, hI⟩ := hrel
    have HI := Lib.hid hI; clear hI
    have hlN := heap_lt HI.out.nms
    have hlF := heap_lt HI.out.box
    by_cases hlt : k < 6
    · obtain ⟨s2, hs21, hs22⟩ := nmF_at k hlt
      have hcell := (blk_cl HI.out.nms hs21).1
      clear hs21
      obtain ⟨x, hx0, hx1, hx2, hpk⟩ := pick1 wo g _ 4 wo.drew HI.out.dr.here.drew (by omega) (by omega)
      have HPK := Lib.hid hpk; clear hpk hx1 hx2
      have HCS : Hid (∀ w', On g wo w' → w'.cell? ⟨w2.heap.size + 1, k, none⟩ = some (.string s2) ∧ w'.cell? ⟨w2.heap.size, 0, none⟩ = some (.string s) ∧ w'.cell? ⟨w2.heap.size, 1, none⟩ = some (.slice A n c)) := fun w' h =>
        ⟨(h.cell hlN (by omega)).trans hcell, (blk_cl (k := 0) (h.blk HI.out.box (by omega)) rfl).1, (blk_cl (k := 1) (h.blk HI.out.box (by omega)) rfl).1⟩
      clear hcell
      by_cases hx : x = 0
      · subst hx
        by_cases hnm : s2 = s
        · have hq0 : (s2.toList != s.toList) = false := by rw [hnm]; simp
          have hq1 : (s2.toList == s.toList) = true := seq_t hnm
          have HNM := Lib.hid hnm; clear hnm
          go_wp2_with fail
          refine wp_region_head 4 (by kernel_rfl) (by kernel_rfl) ?_
          simp only [List.take_succ_cons, List.take_zero, List.drop_succ_cons, List.drop_zero]
          refine wpHead_step (fun K hK => ?_); go_simp; refine hK _ _ ?_; clear hK K
          refine wpHead_step (fun K hK => ?_); go_simp
          refine HPK.out.mono ?_
          rintro e w3 ⟨rfl, hd3, hon3⟩
          have hon3' : On g wo w3 := (On.refl g wo).drew.trans hon3
          obtain ⟨e1, e2, e3⟩ := HCS.out w3 hon3'
          refine hK _ _ ?_; clear hK K
          refine wpHead_step (fun K hK => ?_); go_simp; refine hK _ _ ?_; clear hK K
          refine wpHead_step (fun K hK => ?_); go_simp; refine hK _ _ ?_; clear hK K
          refine wpHead_nil ?_
          repeat (go_big_quiet_step (fail))
          refine wpQuiet_nil ?_
          intro _ hw'
          obtain ⟨mq, rfl⟩ := hw'
          go_wp2_with fail
          go_roundw
          case rel => exact ⟨k + 1, n, A, c, ys, by omega, by go_num, by have := HI.out.kn; omega, HI.out.ok, row_on HI.out.row (hon3'.drewN mq) (by omega), (((HI.out.dr.trans (hd3)).drewN mq).more (by omega)), (hon3'.drewN mq).blk HI.out.res (by omega), (hon3'.drewN mq).blk HI.out.box (by omega), (hon3'.drewN mq).blk HI.out.nms (by omega), HI.out.nmo, HI.out.fw, HI.out.nw⟩
          case measure => simp [intOf]; omega
        · have hq1 : (s2.toList == s.toList) = false := seq_f hnm
          have hq0 : (s2.toList != s.toList) = true := by rw [bne, hq1]; rfl
          have HNM := Lib.hid hnm; clear hnm
          by_cases hn4 : n < 4
          · have hn4i : decide ((n : Int) < 4) = true := by simp; omega
            go_wp2_with fail
            refine wp_region_head 4 (by kernel_rfl) (by kernel_rfl) ?_
            simp only [List.take_succ_cons, List.take_zero, List.drop_succ_cons, List.drop_zero]
            refine wpHead_step (fun K hK => ?_); go_simp; refine hK _ _ ?_; clear hK K
            refine wpHead_step (fun K hK => ?_); go_simp
            refine HPK.out.mono ?_
            rintro e w3 ⟨rfl, hd3, hon3⟩
            have hon3' : On g wo w3 := (On.refl g wo).drew.trans hon3
            obtain ⟨e1, e2, e3⟩ := HCS.out w3 hon3'
            refine hK _ _ ?_; clear hK K
            refine wpHead_step (fun K hK => ?_); go_simp; refine hK _ _ ?_; clear hK K
            refine wpHead_step (fun K hK => ?_); go_simp; refine hK _ _ ?_; clear hK K
            refine wpHead_nil ?_
            repeat (go_big_quiet_step (fail))
            refine wpQuiet_nil ?_
            intro _ hw'
            obtain ⟨mq, rfl⟩ := hw'
            have hon5 := hon3'.drewN mq
            have hdr5 := ((HI.out.dr.trans hd3).drewN mq)
            clear hon3' hon3 hd3 e1 e2 e3
            generalize w3.drewN mq = w5 at *
            have HON5 := Lib.hid hon5; clear hon5
            have HDR5 := Lib.hid hdr5; clear hdr5
            have HB5 := Lib.hid (HON5.out.blk HI.out.box (by omega))
            have HN5 := Lib.hid (HON5.out.blk HI.out.nms (by omega))
            have HR5 := Lib.hid (row_on HI.out.row HON5.out (by omega))
            obtain ⟨c1, b0, b1⟩ := HCS.out w5 HON5.out
            have c1a := fun o => (World.cell?_alloc_some w5 _ o (by rw [c1]; rfl)).trans c1
            have b1a := fun o => (World.cell?_alloc_some w5 _ o (by rw [b1]; rfl)).trans b1
            have hbase : w.heap.size + 1 ≤ w5.heap.size := by have := heap_lt HB5.out; omega
            have HNB := Lib.hid (row_ne HR5.out HB5.out (by decide))
            have HLY := Lib.hid HI.out.len
            have hkn := HI.out.kn
            go_wp2_with fail
            go_region_law (first | (refine strapp_step (o := ⟨some 45, _, _, _, _, _⟩) (w.heap.size + 1) _ n ys _ s2 (by exact HR5.out.alloc _) (by rfl) (.tmp 39) (.tmp 44) (by rfl) (by rfl) (by rfl) (by exact heap_new rfl) (by omega) (by simp; omega) ?_; intro v7 w7 how7 hg7 hat7; obtain ⟨A7, c7, rfl, hsr7⟩ := own_sstr how7; have hb7 := grown_blk hg7 (heap_old HB5.out) HNB.out; have z1 := (blk_cl (k := 1) hb7 rfl).1; have z2 := (blk_cl (k := 1) hb7 rfl).2) | fail "no arm")
            all_goals go_wp2_with fail
            all_goals
              refine ⟨⟨k + 1, n + 1, A7, c7, ys ++ [s2], by omega, by go_num, ⟨by omega, okS_app HI.out.ok (by rw [HLY.out]; omega) (by unfold maxLen; omega), row_set how7 hb7 (by decide), ?_, ?_, set31 hb7, ?_, ?_, HI.out.fw, HI.out.nw⟩⟩, by simp [intOf]; omega⟩
              · exact (((((HDR5.out.alloc _).drew).grown hg7 (fun i hi => by have := HR5.out.lt i hi; omega)).set_ (by omega) (by omega) _ _).more (by omega))
              · exact set_ne (grown_blk hg7 (heap_old (HON5.out.blk HI.out.res (by omega))) (by intro e; have := (HR5.out.lt _ e).1; omega)) (by omega)
              · exact set_ne (grown_blk hg7 (heap_old HN5.out) HI.out.nmo) (by omega)
              · intro e
                rcases hat7 with h | h
                · exact HI.out.nmo (h.symm.trans e)
                · rw [h] at e
                  injection e with e
                  have := heap_lt HN5.out
                  simp at e
                  omega
          · have hn4i : decide ((n : Int) < 4) = false := by simp; omega
            have hn4n : decide (n < 4) = false := by simp; omega
            go_wp2_with fail
            refine wp_region_head 4 (by kernel_rfl) (by kernel_rfl) ?_
            simp only [List.take_succ_cons, List.take_zero, List.drop_succ_cons, List.drop_zero]
            refine wpHead_step (fun K hK => ?_); go_simp; refine hK _ _ ?_; clear hK K
            refine wpHead_step (fun K hK => ?_); go_simp
            refine HPK.out.mono ?_
            rintro e w3 ⟨rfl, hd3, hon3⟩
            have hon3' : On g wo w3 := (On.refl g wo).drew.trans hon3
            obtain ⟨e1, e2, e3⟩ := HCS.out w3 hon3'
            refine hK _ _ ?_; clear hK K
            refine wpHead_step (fun K hK => ?_); go_simp; refine hK _ _ ?_; clear hK K
            refine wpHead_step (fun K hK => ?_); go_simp; refine hK _ _ ?_; clear hK K
            refine wpHead_nil ?_
            repeat (go_big_quiet_step (fail))
            refine wpQuiet_nil ?_
            intro _ hw'
            obtain ⟨mq, rfl⟩ := hw'
            go_wp2_with fail
            go_roundw
            case rel => exact ⟨k + 1, n, A, c, ys, by omega, by go_num, by have := HI.out.kn; omega, HI.out.ok, row_on HI.out.row (hon3'.drewN mq) (by omega), (((HI.out.dr.trans (hd3)).drewN mq).more (by omega)), (hon3'.drewN mq).blk HI.out.res (by omega), (hon3'.drewN mq).blk HI.out.box (by omega), (hon3'.drewN mq).blk HI.out.nms (by omega), HI.out.nmo, HI.out.fw, HI.out.nw⟩
            case measure => simp [intOf]; omega
      · have hz2 : (x == 0) = false := by rw [beq_eq_false_iff_ne]; exact hx
        go_wp2_with fail
        refine wp_region_head 4 (by kernel_rfl) (by kernel_rfl) ?_
        simp only [List.take_succ_cons, List.take_zero, List.drop_succ_cons, List.drop_zero]
        refine wpHead_step (fun K hK => ?_); go_simp; refine hK _ _ ?_; clear hK K
        refine wpHead_step (fun K hK => ?_); go_simp
        refine HPK.out.mono ?_
        rintro e w3 ⟨rfl, hd3, hon3⟩
        have hon3' : On g wo w3 := (On.refl g wo).drew.trans hon3
        obtain ⟨e1, e2, e3⟩ := HCS.out w3 hon3'
        refine hK _ _ ?_; clear hK K
        refine wpHead_step (fun K hK => ?_); go_simp; refine hK _ _ ?_; clear hK K
        refine wpHead_step (fun K hK => ?_); go_simp; refine hK _ _ ?_; clear hK K
        refine wpHead_nil ?_
        repeat (go_big_quiet_step (fail))
        refine wpQuiet_nil ?_
        intro _ hw'
        obtain ⟨mq, rfl⟩ := hw'
        go_wp2_with fail
        go_roundw
        case rel => exact ⟨k + 1, n, A, c, ys, by omega, by go_num, by have := HI.out.kn; omega, HI.out.ok, row_on HI.out.row (hon3'.drewN mq) (by omega), (((HI.out.dr.trans (hd3)).drewN mq).more (by omega)), (hon3'.drewN mq).blk HI.out.res (by omega), (hon3'.drewN mq).blk HI.out.box (by omega), (hon3'.drewN mq).blk HI.out.nms (by omega), HI.out.nmo, HI.out.fw, HI.out.nw⟩
        case measure => simp [intOf]; omega
    · have hn6 : n ≤ 6 := by have := HI.out.kn; omega
      have HLY := Lib.hid HI.out.len
      have hnc := own_le HI.out.row
      obtain ⟨A0, c0, e0, hys⟩ := own_str HI.out.row
      injection e0 with e0 _ e0'
      subst e0; subst e0'
      have HYS := Lib.hid hys; clear hys
      go_wp2_with fail
      refine (pick wo g _ _ _ HI.out.dr.here (by omega) (by omega)).mono ?_
      rintro e w3 ⟨x, rfl, hx0, hx1, hx2, hd3, hon3⟩
      clear hx1 hx2
      have HD3 := Lib.hid (HI.out.dr.trans hd3)
      have HB3 := Lib.hid (hon3.blk HI.out.box (by omega))
      have HR3 := Lib.hid (hon3.blk HI.out.res (by omega))
      have HYS3 := Lib.hid (HYS.out.on hon3 (by omega))
      clear hd3 hon3
      have m1 := (blk_cl (k := 1) HB3.out rfl).1
      have m1f := (blk_cl (k := 1) HB3.out rfl).2
      have m0 := (blk_cl (k := 0) HB3.out rfl).1
      have hF3 := heap_lt HB3.out
      have hgF : g < w2.heap.size := by omega
      have hFR : w.heap.size ≠ w2.heap.size := by omega
      have HOKY := Lib.hid HI.out.ok
      clear HI HYS
      by_cases h0 : x = 0
      · subst h0
        have HSL := lit_str (w := w3.setCell ⟨w2.heap.size, 1, none⟩ (.slice (some ⟨w3.heap.size, 0, none⟩) 2 2)) (e := 9) (cs := #[.string ⟨#[98]⟩, .string ⟨#[97]⟩]) [⟨#[98]⟩, ⟨#[97]⟩] 2 rfl rfl
        rw [sz_set] at HSL
        have HSL := Lib.hid (HSL.lower (show w.heap.size + 1 ≤ w3.heap.size by omega))
        have HB6 := Lib.hid (heap_old (o := (.cells #[.string ⟨#[98]⟩, .string ⟨#[97]⟩] 9)) (set31 (u := (.slice (some ⟨w3.heap.size, 0, none⟩) 2 2)) HB3.out))
        have HR6 := Lib.hid (heap_old (o := (.cells #[.string ⟨#[98]⟩, .string ⟨#[97]⟩] 9)) (set_ne (b := w2.heap.size) (o := 1) (u := (.slice (some ⟨w3.heap.size, 0, none⟩) 2 2)) HR3.out hFR))
        have a0 := (blk_cl (k := 0) HB6.out rfl).1
        have a1 := (blk_cl (k := 1) HB6.out rfl).1
        have a2 := (blk_cl (k := 2) HB6.out rfl).1
        have r0a := (blk_cl (k := 0) HR6.out rfl).1
        have r0b := (blk_cl (k := 0) HR6.out rfl).2
        have r1a := (blk_cl (k := 1) HR6.out rfl).1
        have r1b := (blk_cl (k := 1) HR6.out rfl).2
        have r2a := (blk_cl (k := 2) HR6.out rfl).1
        have r2b := (blk_cl (k := 2) HR6.out rfl).2
        go_wp2_with fail
        have hres := set3 (u0 := .string s) (u1 := (.slice (some ⟨w3.heap.size, 0, none⟩) 2 2)) (u2 := .bool (decide (0 < v))) HR6.out
        have p0 := (blk_cl (k := 0) hres rfl).1
        have p1 := (blk_cl (k := 1) hres rfl).1
        have p2 := (blk_cl (k := 2) hres rfl).1
        have hdr := (((HD3.out.set_ (b := w2.heap.size) (by omega) hgF 1 (.slice (some ⟨w3.heap.size, 0, none⟩) 2 2)).alloc (.cells #[.string ⟨#[98]⟩, .string ⟨#[97]⟩] 9)).set3 (u0 := .string s) (u1 := (.slice (some ⟨w3.heap.size, 0, none⟩) 2 2)) (u2 := .bool (decide (0 < v))) (Nat.le_refl _) hgl)
        exact bodyPost_ret (v := .agg #[.string s, (.slice (some ⟨w3.heap.size, 0, none⟩) 2 2), .bool (decide (0 < v))]) (by simp [results, Tryd.results27, go_sem, p0, p1, p2]) rfl ⟨⟨s, [⟨#[98]⟩, ⟨#[97]⟩], decide (0 < v)⟩, _, _, _, rfl, (((HSL.out.setLow (Nat.lt_succ_self _)).setLow (Nat.lt_succ_self _)).setLow (Nat.lt_succ_self _)).lower (Nat.le_succ _), ⟨by unfold maxLen; show s.size ≤ _; omega, okS_all (by intro x hx; simp at hx; first | (rcases hx with rfl | rfl | rfl | rfl | rfl <;> decide) | (rcases hx with rfl | rfl <;> decide) | (subst hx; omega)) (by simp)⟩, by omega, by omega, (HD.out.trans hdr).more (by omega), hdr.on⟩
      by_cases h1 : x = 1
      · subst h1
        have HSL := lit_str (w := w3.setCell ⟨w2.heap.size, 1, none⟩ (.slice (some ⟨w3.heap.size, 0, none⟩) 5 5)) (e := 9) (cs := #[.string ⟨#[97]⟩, .string ⟨#[98]⟩, .string ⟨#[99]⟩, .string ⟨#[100]⟩, .string ⟨#[101]⟩]) [⟨#[97]⟩, ⟨#[98]⟩, ⟨#[99]⟩, ⟨#[100]⟩, ⟨#[101]⟩] 5 rfl rfl
        rw [sz_set] at HSL
        have HSL := Lib.hid (HSL.lower (show w.heap.size + 1 ≤ w3.heap.size by omega))
        have HB6 := Lib.hid (heap_old (o := (.cells #[.string ⟨#[97]⟩, .string ⟨#[98]⟩, .string ⟨#[99]⟩, .string ⟨#[100]⟩, .string ⟨#[101]⟩] 9)) (set31 (u := (.slice (some ⟨w3.heap.size, 0, none⟩) 5 5)) HB3.out))
        have HR6 := Lib.hid (heap_old (o := (.cells #[.string ⟨#[97]⟩, .string ⟨#[98]⟩, .string ⟨#[99]⟩, .string ⟨#[100]⟩, .string ⟨#[101]⟩] 9)) (set_ne (b := w2.heap.size) (o := 1) (u := (.slice (some ⟨w3.heap.size, 0, none⟩) 5 5)) HR3.out hFR))
        have a0 := (blk_cl (k := 0) HB6.out rfl).1
        have a1 := (blk_cl (k := 1) HB6.out rfl).1
        have a2 := (blk_cl (k := 2) HB6.out rfl).1
        have r0a := (blk_cl (k := 0) HR6.out rfl).1
        have r0b := (blk_cl (k := 0) HR6.out rfl).2
        have r1a := (blk_cl (k := 1) HR6.out rfl).1
        have r1b := (blk_cl (k := 1) HR6.out rfl).2
        have r2a := (blk_cl (k := 2) HR6.out rfl).1
        have r2b := (blk_cl (k := 2) HR6.out rfl).2
        go_wp2_with fail
        have hres := set3 (u0 := .string s) (u1 := (.slice (some ⟨w3.heap.size, 0, none⟩) 5 5)) (u2 := .bool (decide (0 < v))) HR6.out
        have p0 := (blk_cl (k := 0) hres rfl).1
        have p1 := (blk_cl (k := 1) hres rfl).1
        have p2 := (blk_cl (k := 2) hres rfl).1
        have hdr := (((HD3.out.set_ (b := w2.heap.size) (by omega) hgF 1 (.slice (some ⟨w3.heap.size, 0, none⟩) 5 5)).alloc (.cells #[.string ⟨#[97]⟩, .string ⟨#[98]⟩, .string ⟨#[99]⟩, .string ⟨#[100]⟩, .string ⟨#[101]⟩] 9)).set3 (u0 := .string s) (u1 := (.slice (some ⟨w3.heap.size, 0, none⟩) 5 5)) (u2 := .bool (decide (0 < v))) (Nat.le_refl _) hgl)
        exact bodyPost_ret (v := .agg #[.string s, (.slice (some ⟨w3.heap.size, 0, none⟩) 5 5), .bool (decide (0 < v))]) (by simp [results, Tryd.results27, go_sem, p0, p1, p2]) rfl ⟨⟨s, [⟨#[97]⟩, ⟨#[98]⟩, ⟨#[99]⟩, ⟨#[100]⟩, ⟨#[101]⟩], decide (0 < v)⟩, _, _, _, rfl, (((HSL.out.setLow (Nat.lt_succ_self _)).setLow (Nat.lt_succ_self _)).setLow (Nat.lt_succ_self _)).lower (Nat.le_succ _), ⟨by unfold maxLen; show s.size ≤ _; omega, okS_all (by intro x hx; simp at hx; first | (rcases hx with rfl | rfl | rfl | rfl | rfl <;> decide) | (rcases hx with rfl | rfl <;> decide) | (subst hx; omega)) (by simp)⟩, by omega, by omega, (HD.out.trans hdr).more (by omega), hdr.on⟩
      by_cases h2 : x = 2
      · subst h2
        have HSL := lit_str (w := w3.setCell ⟨w2.heap.size, 1, none⟩ (.slice (some ⟨w3.heap.size, 0, none⟩) 1 1)) (e := 9) (cs := #[.string s]) [s] 1 rfl rfl
        rw [sz_set] at HSL
        have HSL := Lib.hid (HSL.lower (show w.heap.size + 1 ≤ w3.heap.size by omega))
        have HB6 := Lib.hid (heap_old (o := (.cells #[.string s] 9)) (set31 (u := (.slice (some ⟨w3.heap.size, 0, none⟩) 1 1)) HB3.out))
        have HR6 := Lib.hid (heap_old (o := (.cells #[.string s] 9)) (set_ne (b := w2.heap.size) (o := 1) (u := (.slice (some ⟨w3.heap.size, 0, none⟩) 1 1)) HR3.out hFR))
        have a0 := (blk_cl (k := 0) HB6.out rfl).1
        have a1 := (blk_cl (k := 1) HB6.out rfl).1
        have a2 := (blk_cl (k := 2) HB6.out rfl).1
        have r0a := (blk_cl (k := 0) HR6.out rfl).1
        have r0b := (blk_cl (k := 0) HR6.out rfl).2
        have r1a := (blk_cl (k := 1) HR6.out rfl).1
        have r1b := (blk_cl (k := 1) HR6.out rfl).2
        have r2a := (blk_cl (k := 2) HR6.out rfl).1
        have r2b := (blk_cl (k := 2) HR6.out rfl).2
        go_wp2_with fail
        have hres := set3 (u0 := .string s) (u1 := (.slice (some ⟨w3.heap.size, 0, none⟩) 1 1)) (u2 := .bool (decide (0 < v))) HR6.out
        have p0 := (blk_cl (k := 0) hres rfl).1
        have p1 := (blk_cl (k := 1) hres rfl).1
        have p2 := (blk_cl (k := 2) hres rfl).1
        have hdr := (((HD3.out.set_ (b := w2.heap.size) (by omega) hgF 1 (.slice (some ⟨w3.heap.size, 0, none⟩) 1 1)).alloc (.cells #[.string s] 9)).set3 (u0 := .string s) (u1 := (.slice (some ⟨w3.heap.size, 0, none⟩) 1 1)) (u2 := .bool (decide (0 < v))) (Nat.le_refl _) hgl)
        exact bodyPost_ret (v := .agg #[.string s, (.slice (some ⟨w3.heap.size, 0, none⟩) 1 1), .bool (decide (0 < v))]) (by simp [results, Tryd.results27, go_sem, p0, p1, p2]) rfl ⟨⟨s, [s], decide (0 < v)⟩, _, _, _, rfl, (((HSL.out.setLow (Nat.lt_succ_self _)).setLow (Nat.lt_succ_self _)).setLow (Nat.lt_succ_self _)).lower (Nat.le_succ _), ⟨by unfold maxLen; show s.size ≤ _; omega, okS_all (by intro x hx; simp at hx; first | (rcases hx with rfl | rfl | rfl | rfl | rfl <;> decide) | (rcases hx with rfl | rfl <;> decide) | (subst hx; omega)) (by simp)⟩, by omega, by omega, (HD.out.trans hdr).more (by omega), hdr.on⟩
      have q0 : (x == 0) = false := by rw [beq_eq_false_iff_ne]; exact h0
      have q1 : (x == 1) = false := by rw [beq_eq_false_iff_ne]; exact h1
      have q2 : (x == 2) = false := by rw [beq_eq_false_iff_ne]; exact h2
      have a2 := (blk_cl (k := 2) HB3.out rfl).1
      have r0a := (blk_cl (k := 0) HR3.out rfl).1
      have r0b := (blk_cl (k := 0) HR3.out rfl).2
      have r1a := (blk_cl (k := 1) HR3.out rfl).1
      have r1b := (blk_cl (k := 1) HR3.out rfl).2
      have r2a := (blk_cl (k := 2) HR3.out rfl).1
      have r2b := (blk_cl (k := 2) HR3.out rfl).2
      go_wp2_with fail
      have hres := set3 (u0 := .string s) (u1 := .slice A n c) (u2 := .bool (decide (0 < v))) HR3.out
      have p0 := (blk_cl (k := 0) hres rfl).1
      have p1 := (blk_cl (k := 1) hres rfl).1
      have p2 := (blk_cl (k := 2) hres rfl).1
      have hdr := HD3.out.set3 (u0 := .string s) (u1 := .slice A n c) (u2 := .bool (decide (0 < v))) (Nat.le_refl _) hgl
      exact bodyPost_ret (v := .agg #[.string s, .slice A n c, .bool (decide (0 < v))]) (by simp [results, Tryd.results27, go_sem, p0, p1, p2]) rfl ⟨⟨s, ys, decide (0 < v)⟩, _, _, _, rfl, (((HYS3.out.setLow (Nat.lt_succ_self _)).setLow (Nat.lt_succ_self _)).setLow (Nat.lt_succ_self _)).lower (Nat.le_succ _), ⟨by unfold maxLen; show s.size ≤ _; omega, HOKY.out⟩, hn6, hnc, (HD.out.trans hdr).more (by omega), hdr.on⟩
end Go.Proofs.YthdfefgianokgaaDoor

/- Drawing a step out of a code. -/
namespace Go.Proofs.YthdfefgianokgaaDoor
open Go.RowKit

def StepD (w : World) (e : Ending) (w' : World) : Prop :=
  ∃ (s : Step) (A : Option Addr) (n c : Nat), e = .returned (.agg #[.string s.name, .slice A n c, .bool s.undo]) ∧ RStr w' w.heap.size A n s.after ∧ okStep s ∧ n ≤ 6 ∧ n ≤ c ∧ Below w.heap.size w w'

set_option maxRecDepth 100000 in
theorem drawStepText_any (A : Option Addr) (n c : Nat) (w : World) (hr : RByte w A n) (hc : n ≤ c) (hn : n ≤ 1048576) : Calls Tryd.prog 10 #[.slice A n c] w (StepD w) := by
  have HR := Lib.hid (hr.alloc (.cells #[.string ⟨#[]⟩, .slice none 0 0, .bool false] 25)); clear hr
  go_enter Tryd.func10, Tryd.ntmps10
  go_wp2_with fail
  refine (open_any _ _ _ _ HR.out hc hn).mono ?_
  rintro e w1 ⟨rfl, hrd, hb1⟩
  have hsz : (w.alloc (.cells #[.string ⟨#[]⟩, .slice none 0 0, .bool false] 25)).heap.size = w.heap.size + 1 := by simp
  rw [hsz] at hrd hb1 ⊢
  have hd0 : Dr 79 w1 (w.heap.size + 1) 0 w1 := ⟨On.refl _ _, 0, Nat.le_refl _, hrd⟩
  have hl1 := hrd.lt
  have HRES := Lib.hid ((hb1.block w.heap.size (Nat.lt_succ_self _)).trans (heap_new (o := .cells #[.string ⟨#[]⟩, .slice none 0 0, .bool false] 25) rfl))
  have HB1 := Lib.hid (((Below.refl w.heap.size w).alloc (Nat.le_refl _) (.cells #[.string ⟨#[]⟩, .slice none 0 0, .bool false] 25)).trans (hb1.mono (Nat.le_succ _)))
  clear hrd hb1 hsz
  go_wp2_with fail
  refine (l91Step_any w1 _ _ _ hd0 (by omega)).mono ?_
  rintro e w2 ⟨s, A2, n2, c2, rfl, hs, hok, h6, hnc, hd, hon⟩
  have HS := Lib.hid (hs.lower (show w.heap.size + 1 ≤ w1.heap.size by omega)); clear hs
  have HR2 := Lib.hid (hon.blk HRES.out (by omega))
  have HB2 := Lib.hid (HB1.out.trans ((hon.low (Nat.le_of_lt hl1)).mono (Nat.le_succ _)))
  have HOK := Lib.hid hok; clear hok
  clear hon hd hd0
  have r0a := (blk_cl (k := 0) HR2.out rfl).1
  have r0b := (blk_cl (k := 0) HR2.out rfl).2
  have r1a := (blk_cl (k := 1) HR2.out rfl).1
  have r1b := (blk_cl (k := 1) HR2.out rfl).2
  have r2a := (blk_cl (k := 2) HR2.out rfl).1
  have r2b := (blk_cl (k := 2) HR2.out rfl).2
  go_wp2_with fail
  have hres := set3 (u0 := .string s.name) (u1 := .slice A2 n2 c2) (u2 := .bool s.undo) HR2.out
  have e0 := (blk_cl (k := 0) hres rfl).1
  have e1 := (blk_cl (k := 1) hres rfl).1
  have e2 := (blk_cl (k := 2) hres rfl).1
  exact bodyPost_ret (v := .agg #[.string s.name, .slice A2 n2 c2, .bool s.undo]) (by simp [results, Tryd.results10, go_sem, e0, e1, e2]) rfl ⟨_, _, _, _, rfl, (((HS.out.setLow (Nat.lt_succ_self _)).setLow (Nat.lt_succ_self _)).setLow (Nat.lt_succ_self _)).lower (Nat.le_succ _), HOK.out, h6, hnc, ((HB2.out.setCell (p := ⟨w.heap.size, 0, none⟩) (Nat.le_refl _) _).setCell (p := ⟨w.heap.size, 1, none⟩) (Nat.le_refl _) _).setCell (p := ⟨w.heap.size, 2, none⟩) (Nat.le_refl _) _⟩
end Go.Proofs.YthdfefgianokgaaDoor
